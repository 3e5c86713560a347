/-
  The contract of opened (package claim): a book made for the calculation, with all its truths. Written by this session.
-/
import Derived.Test.YtbhjfojbjpbdbaaDoorA10
import Derived.WalkKit
import Derived.OwnWalkIn
namespace Go.Proofs.YtbhjfojbjpbdbaaDoor
open Go.RowKit

theorem mk76 : ∀ w, (Instr.makeMap 76 none).run Tryd.prog w = .ok (.map (some w.heap.size)) (w.alloc (.map #[] 0)) := fun _ => rfl
def nowEntry : MapEntry := { key := .agg #[.int .i64 (-1), .int .i64 (-1)], val := .bool false, born := 0 }
theorem ins76 : ∀ (w : World) (M : Nat), w.heap[M]? = some (.map #[] 0) → (Instr.mapUpdate 76 (.map (some M)) (.agg #[.int .i64 (-1), .int .i64 (-1)]) (.bool false)).run Tryd.prog w = .ok () (w.putObj M (.map #[nowEntry] 1)) := by
  intro w M h1
  obtain ⟨r, hr, hj⟩ := findKey115 (-1) (-1) w [] (by simp [KeysOk])
  have hu : ∀ w, (underlying 76).run Tryd.prog w = .ok (.map 115 4) w := fun _ => by kernel_rfl
  have hg : (getObj M).run Tryd.prog w = .ok (.map #[] 0) w := by simp [getObj, Sem.run, h1]
  have hs : ∀ o, (setObj M o).run Tryd.prog w = .ok () (w.putObj M o) := fun o => by simp [setObj, Sem.run, h1, World.putObj]
  cases r with
  | none => simp only [Instr.mapUpdate, Sem.run_bind, hu, Result.andThen_ok, hg, ck115, hr, hs]; rfl
  | some p =>
    obtain ⟨j, v0⟩ := p
    obtain ⟨e, he, hek, hev⟩ := hj j v0 rfl
    simp at he

/-- the world behind the map literal's insert. -/
structure Put (Y X : World) (M : Nat) : Prop where
  run : (Instr.mapUpdate 76 (.map (some M)) (.agg #[.int .i64 (-1), .int .i64 (-1)]) (.bool false)).run Tryd.prog Y = .ok () X
  size : X.heap.size = Y.heap.size
  map : X.heap[M]? = some (.map #[nowEntry] 1)
  old : ∀ k, k ≠ M → X.heap[k]? = Y.heap[k]?
  os : X.os = Y.os
  tape : X.tape = Y.tape
  output : X.output = Y.output
theorem Put.mk' {Y : World} {M : Nat} (h : Y.heap[M]? = some (.map #[] 0)) : ∃ X, Put Y X M := by
  have hlt := (Array.getElem?_eq_some_iff.1 h).1
  exact ⟨_, ins76 Y M h, by simp [World.putObj], World.putObj_heap_same hlt, fun k hk => World.putObj_heap_other (fun e => hk e) , rfl, rfl, rfl⟩

theorem Put.cell {Y X : World} {M B j : Nat} {v : Value} (h : Put Y X M) (hne : B ≠ M) (hc : Y.cell? ⟨B, j, none⟩ = some v) : X.cell? ⟨B, j, none⟩ = some v :=
  (World.cell?_of_block (w := Y) (a := ⟨B, j, none⟩) (h.old B hne)).trans hc

abbrev zero79 : Obj := .cells #[.slice none 0 0, .int .i64 0, .int .i64 0, .int .i64 0, .int .i64 0, .slice none 0 0, .int .i64 0, .map none, .slice none 0 0] 79


theorem info42 : (Tryd.prog.info? 42).map (fun i => (i.zero, i.size, i.bytes)) = some (some (.agg #[.int .i64 0, .int .i64 0, .int .i64 0]), 3, 24) := by kernel_rfl
theorem info87 : (Tryd.prog.info? 87).map (fun i => (i.zero, i.size, i.bytes)) = some (some (.agg #[.int .i64 0, .int .i64 0, .int .i64 0, .int .i64 0, .int .i64 0, .int .i64 0, .int .i64 0]), 7, 56) := by kernel_rfl

/-- where the book under way stands while its clocks are taken: V: the world before it was laid. -/
structure Fil (b : Bk) (s : Value) (M Bt n0 : Nat) (V : World) (done : List Ck) (kv : Value) (w : World) : Prop where
  bt : w.heap[Bt]? = some (.cells (b.cells9 s kv (.map (some M)) (.slice none 0 0)).toArray 79)
  map : w.heap[M]? = some (.map #[nowEntry] 1)
  row : w.ownsRow n0 42 3 kv done.length (done.flatMap Ck.cells)
  old : Below V.heap.size V w
  sz : n0 ≤ w.heap.size
  lb : Bt < n0
  lm : M < n0
  vb : V.heap.size ≤ Bt
  v0 : V.heap.size ≤ n0

theorem Fil.alloc {b : Bk} {s : Value} {M Bt n0 : Nat} {V : World} {done : List Ck} {kv : Value} {w : World} (h : Fil b s M Bt n0 V done kv w) (o : Obj) : Fil b s M Bt n0 V done kv (w.alloc o) :=
  ⟨(heap_alloc_old w o (by have := h.sz; have := h.lb; omega)).trans h.bt, (heap_alloc_old w o (by have := h.sz; have := h.lm; omega)).trans h.map, h.row.alloc o,
    h.old.alloc (by have := h.sz; have := h.v0; omega) o, by have := h.sz; simp; omega, h.lb, h.lm, h.vb, h.v0⟩

theorem Fil.push {b : Bk} {s : Value} {M Bt n0 : Nat} {V : World} {done : List Ck} {kv : Value} {w w1 : World} (h : Fil b s M Bt n0 V done kv w) {c : Ck} {v' : Value} {tmp : Obj}
    (hown : w1.ownsRow n0 42 3 v' (done.length + 1) (done.flatMap Ck.cells ++ c.cells)) (hg : (w.alloc tmp).grownBy w1 kv.ownBlock) :
    Fil b s M Bt n0 V (done ++ [c]) v' (w1.setCell ⟨Bt, 5, none⟩ v') := by
  have hlt : ∀ k, kv.ownBlock = some k → n0 ≤ k ∧ k < w.heap.size := h.row.lt
  have hlt' := hown.lt
  have hz : n0 ≤ w1.heap.size := by have := hg.size; have := h.sz; simp at *; omega
  have keep : ∀ k, k < n0 → w1.heap[k]? = w.heap[k]? := fun k hk =>
    (hg.block k (by have := h.sz; simp; omega) (fun e => by have := (hlt k e.symm).1; omega)).trans (heap_alloc_old w tmp (by have := h.sz; omega))
  refine ⟨?_, ?_, ?_, ?_, by simpa [World.setCell] using hz, h.lb, h.lm, h.vb, h.v0⟩
  · rw [blk_set ((keep Bt h.lb).trans h.bt)]
    simp [Bk.cells9]
  · exact (Below.heap_setCell _ _ _ _ (by intro e; have h1 := (keep Bt h.lb).trans h.bt; have h2 := (keep M h.lm).trans h.map; rw [e] at h2; rw [h1] at h2; cases h2)).trans ((keep M h.lm).trans h.map)
  · have := hown.kept (w' := w1.setCell ⟨Bt, 5, none⟩ v') (row := some Bt) ⟨rfl, rfl, rfl, by simp [World.setCell], fun k _ hk => Below.heap_setCell _ _ _ k (fun e => hk (by rw [e]))⟩
      (.inr fun e => by have := (hlt' Bt e).1; have := h.lb; omega)
    simpa [List.flatMap_append] using this
  · refine ((h.old.alloc (by have := h.sz; have := h.v0; omega) tmp).grown hg (by have := h.sz; have := h.v0; simp; omega) fun k e => ?_).setCell (p := ⟨Bt, 5, none⟩) h.vb v'
    have := (hlt k e).1
    have := h.v0
    omega

theorem leaveOut_append : ∀ (l1 l2 : List Ck) (but : List Nat) (k : Nat), leaveOut but k (l1 ++ l2) = leaveOut but k l1 ++ leaveOut but (k + l1.length) l2
  | [], l2, but, k => by simp [leaveOut]
  | c :: l1, l2, but, k => by
    simp only [List.cons_append, leaveOut, leaveOut_append l1 l2 but (k + 1), List.length_cons]
    rw [show k + 1 + l1.length = k + (l1.length + 1) by omega]
    split <;> simp

theorem leaveOut_take {cks : List Ck} {but : List Nat} {q : Nat} {c : Ck} (h : cks[q]? = some c) : leaveOut but 0 (cks.take (q + 1)) = leaveOut but 0 (cks.take q) ++ (if but.contains q then [] else [c]) := by
  have hlt : q < cks.length := (List.getElem?_eq_some_iff.1 h).1
  rw [List.take_add_one, h, leaveOut_append]
  simp only [Option.toList_some, List.length_take, Nat.min_eq_left (Nat.le_of_lt hlt), Nat.zero_add, leaveOut]

theorem leaveOut_le : ∀ (cks : List Ck) (but : List Nat) (k : Nat), (leaveOut but k cks).length ≤ cks.length
  | [], _, _ => Nat.le_refl _
  | c :: l, but, k => by
    have := leaveOut_le l but (k + 1)
    simp only [leaveOut]
    split <;> simp <;> omega

theorem addr_add (g j : Nat) : (⟨g, 0, none⟩ : Addr).add j = ⟨g, j, none⟩ := by unfold Addr.add; split <;> simp_all

end Go.Proofs.YtbhjfojbjpbdbaaDoor
