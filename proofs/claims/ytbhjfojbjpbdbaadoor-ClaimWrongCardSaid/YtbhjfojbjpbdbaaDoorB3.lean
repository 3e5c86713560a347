/-
  The contracts of the law's own helpers that build stages and clocks (package macadamlaw06). Written by this session.
-/
import Derived.Test.YtbhjfojbjpbdbaaDoorB2
namespace Go.Proofs.YtbhjfojbjpbdbaaDoor
open Go.RowKit

theorem clock_any (a b c : Int) (w : World) : Calls Tryd.prog 49 #[.int .i64 a, .int .i64 b, .int .i64 c] w fun e w' => e = .returned (.agg (Ck.cells ⟨a, b, c⟩).toArray) ∧ Below w.heap.size w w' := by
  go_enter Tryd.func49, Tryd.ntmps49
  go_wp2
  refine bodyPost_ret (v := .agg #[.int .i64 a, .int .i64 b, .int .i64 c]) (by simp [results, Tryd.results49, go_sem]) rfl ⟨rfl, ?_⟩
  exact (Below.refl _ _).alloc (Nat.le_refl _) _

theorem stage93_any (d a1 b1 a2 b2 a3 b3 : Int) (w : World) : Calls Tryd.prog 93 #[.int .i64 d, .agg #[.int .i64 a1, .int .i64 b1], .agg #[.int .i64 a2, .int .i64 b2], .agg #[.int .i64 a3, .int .i64 b3]] w fun e w' =>
    e = .returned (.agg (St.cells ⟨d, a1, b1, a2, b2, a3, b3⟩).toArray) ∧ Below w.heap.size w w' := by
  go_enter Tryd.func93, Tryd.ntmps93
  go_wp2
  refine bodyPost_ret (v := .agg #[.int .i64 d, .int .i64 a1, .int .i64 b1, .int .i64 a2, .int .i64 b2, .int .i64 a3, .int .i64 b3]) (by simp [results, Tryd.results93, go_sem]) rfl ⟨rfl, ?_⟩
  exact ((((Below.refl _ _).alloc (Nat.le_refl _) _).alloc (by simp) _).alloc (by simp; omega) _).alloc (by simp; omega) _

theorem stored7 {B K : Nat} {T : TypeId} {V W : World} {z0 z1 z2 z3 z4 z5 z6 : Value} (h : W.heap[B]? = some (.cells #[z0, z1, z2, z3, z4, z5, z6] T)) (v0 v1 v2 v3 v4 v5 v6 : Value) (hb : Below K V W) (hB : K ≤ B) :
    (((((((W.setCell ⟨B, 0, none⟩ v0).setCell ⟨B, 1, none⟩ v1).setCell ⟨B, 2, none⟩ v2).setCell ⟨B, 3, none⟩ v3).setCell ⟨B, 4, none⟩ v4).setCell ⟨B, 5, none⟩ v5).setCell ⟨B, 6, none⟩ v6).heap[B]? = some (.cells #[v0, v1, v2, v3, v4, v5, v6] T) ∧
    Below K V (((((((W.setCell ⟨B, 0, none⟩ v0).setCell ⟨B, 1, none⟩ v1).setCell ⟨B, 2, none⟩ v2).setCell ⟨B, 3, none⟩ v3).setCell ⟨B, 4, none⟩ v4).setCell ⟨B, 5, none⟩ v5).setCell ⟨B, 6, none⟩ v6) ∧
    (((((((W.setCell ⟨B, 0, none⟩ v0).setCell ⟨B, 1, none⟩ v1).setCell ⟨B, 2, none⟩ v2).setCell ⟨B, 3, none⟩ v3).setCell ⟨B, 4, none⟩ v4).setCell ⟨B, 5, none⟩ v5).setCell ⟨B, 6, none⟩ v6).heap.size = W.heap.size := by
  have h7 := blk_set (j := 6) (v := v6) (blk_set (j := 5) (v := v5) (blk_set (j := 4) (v := v4) (blk_set (j := 3) (v := v3) (blk_set (j := 2) (v := v2) (blk_set (j := 1) (v := v1) (blk_set (j := 0) (v := v0) h))))))
  simp only [List.setIfInBounds_toArray, List.set_cons_zero, List.set_cons_succ] at h7
  refine ⟨h7, ?_, by simp [World.setCell]⟩
  exact ((((((hb.setCell (p := ⟨B, 0, none⟩) hB v0).setCell (p := ⟨B, 1, none⟩) hB v1).setCell (p := ⟨B, 2, none⟩) hB v2).setCell (p := ⟨B, 3, none⟩) hB v3).setCell (p := ⟨B, 4, none⟩) hB v4).setCell (p := ⟨B, 5, none⟩) hB v5).setCell (p := ⟨B, 6, none⟩) hB v6

theorem slOf_new (w : World) (T : TypeId) (sz : Nat) (rows : List (List Value)) (hr : ∀ r ∈ rows, r.length = sz) (hm : rows.length ≤ maxLen) :
    SlOf (w.alloc (.cells rows.flatten.toArray T)) (w.heap.size + 1) sz (.slice (some ⟨w.heap.size, 0, none⟩) rows.length rows.length) rows := by
  refine ⟨_, _, rfl, Nat.le_refl _, hm, hr, fun _ => ⟨w.heap.size, 0, rfl, by omega, fun i j r c hi hj => ?_⟩⟩
  rw [cell_new, Nat.zero_add, List.getElem?_toArray]
  exact flat_at rows hr i j r c hi hj

set_option maxHeartbeats 1000000 in
theorem book_any (due : Int) (ka : Option Addr) (kl kc : Nat) (W : World) : Calls Tryd.prog 60 #[.int .i64 due, .slice ka kl kc] W fun e W' => ∃ g,
    e = .returned (.agg #[.slice (some ⟨g, 0, none⟩) 2 2, .int .i64 3, .int .i64 0, .int .i64 2, .int .i64 6, .slice ka kl kc, .int .i64 5]) ∧ Below W.heap.size W W' ∧ W.heap.size ≤ g ∧
      SlOf W' W'.heap.size 7 (.slice (some ⟨g, 0, none⟩) 2 2) (stCells [⟨30, 26, 28, 0, 2, 3, 4⟩, ⟨due, 25, 26, 2, 4, 0, 0⟩]) := by
  obtain ⟨V, hV⟩ : ∃ V, W.alloc (.cells #[.slice none 0 0, .int .i64 0, .int .i64 0, .int .i64 0, .int .i64 0, .slice none 0 0, .int .i64 0] 26) = V := ⟨_, rfl⟩
  have hBV : Below W.heap.size W V := by rw [← hV]; exact (Below.refl _ _).alloc (Nat.le_refl _) _
  have hr : V.heap[W.heap.size]? = some (.cells #[.slice none 0 0, .int .i64 0, .int .i64 0, .int .i64 0, .int .i64 0, .slice none 0 0, .int .i64 0] 26) := by rw [← hV]; exact World.alloc_heap_new _ _
  have hlt : W.heap.size < V.heap.size := (Array.getElem?_eq_some_iff.1 hr).1
  have r0 : V.cell? ⟨W.heap.size, 0, none⟩ = some (.slice none 0 0) := blk_cell hr
  have f0 := blk_frozen hr 0
  have r1 : V.cell? ⟨W.heap.size, 1, none⟩ = some (.int .i64 0) := blk_cell hr
  have f1 := blk_frozen hr 1
  have r2 : V.cell? ⟨W.heap.size, 2, none⟩ = some (.int .i64 0) := blk_cell hr
  have f2 := blk_frozen hr 2
  have r3 : V.cell? ⟨W.heap.size, 3, none⟩ = some (.int .i64 0) := blk_cell hr
  have f3 := blk_frozen hr 3
  have r4 : V.cell? ⟨W.heap.size, 4, none⟩ = some (.int .i64 0) := blk_cell hr
  have f4 := blk_frozen hr 4
  have r5 : V.cell? ⟨W.heap.size, 5, none⟩ = some (.slice none 0 0) := blk_cell hr
  have f5 := blk_frozen hr 5
  have r6 : V.cell? ⟨W.heap.size, 6, none⟩ = some (.int .i64 0) := blk_cell hr
  have f6 := blk_frozen hr 6
  have HR := Lib.hid hr
  clear hr
  have hBB : Below V.heap.size V V := Below.refl _ _
  go_enter Tryd.func60, Tryd.ntmps60
  go_upto_region 1 with fail
  try rw [hV]
  clear hV
  go_wp2_with (first
    | (go_at_call 53; refine (reach_any _ _ _).mono ?_; rintro e w' ⟨rfl, hb⟩; replace hBB := hBB.trans (hb.mono hBB.size); clear hb; have hk := (bcell hBB).1; have hf := (bcell hBB).2; have hz := Nat.lt_of_lt_of_le hlt hBB.size)
    | (go_at_call 50; refine (just_any _ _).mono ?_; rintro e w' ⟨rfl, hb⟩; replace hBB := hBB.trans (hb.mono hBB.size); clear hb; have hk := (bcell hBB).1; have hf := (bcell hBB).2; have hz := Nat.lt_of_lt_of_le hlt hBB.size)
    | (go_at_call 93; refine (stage93_any _ _ _ _ _ _ _ _).mono ?_; rintro e w' ⟨rfl, hb⟩; replace hBB := hBB.trans (hb.mono hBB.size); clear hb; have hk := (bcell hBB).1; have hf := (bcell hBB).2; have hz := Nat.lt_of_lt_of_le hlt hBB.size; simp only [St.cells])
    | fail)
  obtain ⟨k7, hBZ, hZz⟩ := stored7 ((hBB.block _ hlt).trans HR.out) (.slice (some ⟨w'.heap.size, 0, none⟩) 2 2) (.int .i64 3) (.int .i64 0) (.int .i64 2) (.int .i64 6) (.slice ka kl kc) (.int .i64 5) (hBV.trans (hBB.mono hBV.size)) (Nat.le_refl W.heap.size)
  generalize ((((((w'.setCell ⟨W.heap.size, 0, none⟩ (.slice (some ⟨w'.heap.size, 0, none⟩) 2 2)).setCell ⟨W.heap.size, 1, none⟩ (.int .i64 3)).setCell ⟨W.heap.size, 2, none⟩ (.int .i64 0)).setCell ⟨W.heap.size, 3, none⟩ (.int .i64 2)).setCell
    ⟨W.heap.size, 4, none⟩ (.int .i64 6)).setCell ⟨W.heap.size, 5, none⟩ (.slice ka kl kc)).setCell ⟨W.heap.size, 6, none⟩ (.int .i64 5) = Z at k7 hBZ hZz ⊢
  have hlz : W.heap.size < Z.heap.size := by rw [hZz]; exact hz
  have hsl := slOf_new Z 56 7 (stCells [⟨30, 26, 28, 0, 2, 3, 4⟩, ⟨due, 25, 26, 2, 4, 0, 0⟩]) (by intro r hr; simp [stCells, St.cells] at hr; rcases hr with rfl | rfl <;> rfl) (by simp [stCells, maxLen])
  have k7' := (heap_alloc_old Z (.cells (stCells [⟨30, 26, 28, 0, 2, 3, 4⟩, ⟨due, 25, 26, 2, 4, 0, 0⟩]).flatten.toArray 56) hlz).trans k7
  have hBY : Below W.heap.size W (Z.alloc (.cells (stCells [⟨30, 26, 28, 0, 2, 3, 4⟩, ⟨due, 25, 26, 2, 4, 0, 0⟩]).flatten.toArray 56)) := hBZ.alloc (Nat.le_of_lt hlz) _
  have hYz : (Z.alloc (.cells (stCells [⟨30, 26, 28, 0, 2, 3, 4⟩, ⟨due, 25, 26, 2, 4, 0, 0⟩]).flatten.toArray 56)).heap.size = w'.heap.size + 1 := by simp [hZz]
  rw [hZz] at hsl
  simp only [stCells, St.cells, List.map_cons, List.map_nil, List.flatten_cons, List.flatten_nil, List.cons_append, List.nil_append, List.append_nil, List.length_cons, List.length_nil, Nat.zero_add, Nat.reduceAdd] at hsl k7' hBY hYz ⊢
  generalize Z.alloc _ = Y at hsl k7' hBY hYz ⊢
  have c0 : Y.cell? ⟨W.heap.size, 0, none⟩ = some (.slice (some ⟨w'.heap.size, 0, none⟩) 2 2) := blk_cell k7'
  have c1 : Y.cell? ⟨W.heap.size, 1, none⟩ = some (.int .i64 3) := blk_cell k7'
  have c2 : Y.cell? ⟨W.heap.size, 2, none⟩ = some (.int .i64 0) := blk_cell k7'
  have c3 : Y.cell? ⟨W.heap.size, 3, none⟩ = some (.int .i64 2) := blk_cell k7'
  have c4 : Y.cell? ⟨W.heap.size, 4, none⟩ = some (.int .i64 6) := blk_cell k7'
  have c5 : Y.cell? ⟨W.heap.size, 5, none⟩ = some (.slice ka kl kc) := blk_cell k7'
  have c6 : Y.cell? ⟨W.heap.size, 6, none⟩ = some (.int .i64 5) := blk_cell k7'
  exact bodyPost_ret (v := .agg #[.slice (some ⟨w'.heap.size, 0, none⟩) 2 2, .int .i64 3, .int .i64 0, .int .i64 2, .int .i64 6, .slice ka kl kc, .int .i64 5]) (by simp [results, Tryd.results60, go_sem, c0, c1, c2, c3, c4, c5, c6]) rfl
    ⟨w'.heap.size, rfl, hBY, by omega, by rw [hYz]; exact hsl⟩
end Go.Proofs.YtbhjfojbjpbdbaaDoor
