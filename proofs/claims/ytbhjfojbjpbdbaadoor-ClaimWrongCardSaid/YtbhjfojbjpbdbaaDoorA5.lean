/-
  Contracts of package claim: right (a method that keeps what it has found in a map). Written by this session.
-/
import Derived.Test.YtbhjfojbjpbdbaaDoorA4
namespace Go.Proofs.YtbhjfojbjpbdbaaDoor
open Go.RowKit

/-- the package-level variables: a table of two functions, and nowhere. -/
structure Glob (W : World) : Prop where
  k0 : W.cell? ⟨0, 0, none⟩ = some (.func (.func 125) #[] #[])
  k1 : W.cell? ⟨0, 1, none⟩ = some (.func (.func 123) #[] #[])
  n0 : W.cell? ⟨1, 0, none⟩ = some (.int .i64 (-1))
  n1 : W.cell? ⟨1, 1, none⟩ = some (.int .i64 (-1))

theorem lt_of_cell {W : World} {p : Addr} {v : Value} (h : W.cell? p = some v) : p.block < W.heap.size := by
  rcases Nat.lt_or_ge p.block W.heap.size with h1 | h1
  · exact h1
  · unfold World.cell? at h
    rw [Array.getElem?_eq_none h1] at h
    cases h
theorem Glob.below {W W' : World} {B : Nat} (h : Glob W) (hB : 2 ≤ B) (hb : Below B W W') : Glob W' :=
  ⟨(hb.cell (p := ⟨0, 0, none⟩) (by show 0 < B; omega)).trans h.k0, (hb.cell (p := ⟨0, 1, none⟩) (by show 0 < B; omega)).trans h.k1,
   (hb.cell (p := ⟨1, 0, none⟩) (by show 1 < B; omega)).trans h.n0, (hb.cell (p := ⟨1, 1, none⟩) (by show 1 < B; omega)).trans h.n1⟩
theorem Glob.size {W : World} (h : Glob W) : 2 ≤ W.heap.size := lt_of_cell h.n0

theorem ne_of_map {W : World} {M : Nat} {es : Array MapEntry} {c : Nat} {p : Addr} {v : Value} (hM : W.heap[M]? = some (.map es c)) (h : W.cell? p = some v) : p.block ≠ M := by
  intro e
  unfold World.cell? at h
  rw [e, hM] at h
  cases h
theorem SlOf.updM {w w' : World} {n sz M : Nat} {v : Value} {rows : List (List Value)} {es : Array MapEntry} {c : Nat} (hM : w.heap[M]? = some (.map es c)) (h : SlOf w n sz v rows) (hb : Upd (· = M) w w') : SlOf w' n sz v rows := by
  obtain ⟨a, cap, e, h1, h2, h3, h4⟩ := h
  refine ⟨a, cap, e, h1, h2, h3, fun hp => ?_⟩
  obtain ⟨b, o, e1, h5, h6⟩ := h4 hp
  refine ⟨b, o, e1, h5, fun i j r c hi hj => ?_⟩
  have hc := h6 i j r c hi hj
  exact (hb.cell (lt_of_cell hc) (ne_of_map hM hc)).trans hc

/-- the bounds of a book's clocks. -/
def CksOk (l : List Ck) : Prop := ∀ c ∈ l, (0 ≤ c.st ∧ c.st ≤ 2) ∧ (0 ≤ c.rd ∧ c.rd ≤ 600) ∧ (0 ≤ c.er ∧ c.er ≤ 5)

set_option maxRecDepth 100000 in
set_option maxHeartbeats 800000 in
theorem right_any (W : World) (b : Bk) (s k tv : Value) (M n : Nat) (sp mi : Int) (hn : n ≤ W.heap.size) (hk : SlOf W n 3 k (ckCells b.cks)) (hC : CacheOk W M b.cks) (hG : Glob W) (hok : CksOk b.cks) (hl : b.cks.length ≤ 1000)
    (hs : 0 ≤ sp ∧ sp ≤ 2) (hm : 0 ≤ mi ∧ mi ≤ 1000) :
    Calls Tryd.prog 103 #[.agg (b.cells9 s k (.map (some M)) tv).toArray, .agg #[.int .i64 sp, .int .i64 mi]] W fun e W' =>
      e = .returned (.bool (rightL b.cks sp mi)) ∧ Upd (· = M) W W' ∧ CacheOk W' M b.cks := by
  obtain ⟨ka, kcap, rfl, hk1, hk2, hk3, hk4⟩ := hk
  have hkl : (ckCells b.cks).length = b.cks.length := by simp [ckCells]
  have H4 := Lib.hid hk4
  have HOK := Lib.hid hok
  have hMlt := hC.lt
  obtain ⟨W1, hW1⟩ : ∃ W1, (W.alloc (Obj.cells #[s, Value.int IntKind.i64 b.wth, Value.int IntKind.i64 b.c0, Value.int IntKind.i64 b.c1, Value.int IntKind.i64 b.c2, Value.slice ka b.cks.length kcap, Value.int IntKind.i64 b.rate, Value.map (some M), tv] 79)).alloc (Obj.cells #[.int .i64 sp, .int .i64 mi] 115) = W1 := ⟨_, rfl⟩
  have hB1 : Below W.heap.size W W1 := by rw [← hW1]; exact ((Below.refl _ _).alloc (Nat.le_refl _) _).alloc (by simp) _
  have hz1 : W1.heap.size = W.heap.size + 1 + 1 := by rw [← hW1]; simp
  have hx0 : W1.heap[W.heap.size]? = some (.cells #[s, Value.int IntKind.i64 b.wth, Value.int IntKind.i64 b.c0, Value.int IntKind.i64 b.c1, Value.int IntKind.i64 b.c2, Value.slice ka b.cks.length kcap, Value.int IntKind.i64 b.rate, Value.map (some M), tv] 79) := by
    rw [← hW1, Below.heap_alloc _ _ _ (by simp)]; exact World.alloc_heap_new _ _
  have hx1 : W1.heap[W.heap.size + 1]? = some (.cells #[.int .i64 sp, .int .i64 mi] 115) := by
    rw [← hW1]; exact (by simp : (W.alloc _).heap.size = W.heap.size + 1) ▸ World.alloc_heap_new _ _
  have hC1 : CacheOk W1 M b.cks := hC.of_block (hB1.block M hMlt)
  obtain ⟨v, ok, hrun, hv⟩ := look115 hC1 sp mi
  have hv' : ok = true → v = rightL b.cks sp mi := fun h => hv h (by omega)
  have v5 : W1.cell? ⟨W.heap.size, 5, none⟩ = some (Value.slice ka b.cks.length kcap) := blk_cell hx0
  have v7 : W1.cell? ⟨W.heap.size, 7, none⟩ = some (Value.map (some M)) := blk_cell hx0
  have s0 : W1.cell? ⟨W.heap.size + 1, 0, none⟩ = some (.int .i64 sp) := blk_cell hx1
  have s1 : W1.cell? ⟨W.heap.size + 1, 1, none⟩ = some (.int .i64 mi) := blk_cell hx1
  have hG1 := hG.below hG.size hB1
  have n0 := hG1.n0
  have n1 := hG1.n1
  have HX0 := Lib.hid hx0
  have HX1 := Lib.hid hx1
  clear hk1 hk3 hk4 hok hv hx0 hx1 hC hG hG1
  simp only [Bk.cells9, hkl]
  clear hkl
  go_enter Tryd.func103, Tryd.ntmps103
  go_upto_region 1 with fail
  try rw [hW1]
  have hsne : ¬ sp = -1 := by omega
  clear hW1
  cases ok with
  | true =>
    obtain rfl := hv' rfl
    clear hv'
    go_wp2
    go_ret
    exact ⟨rfl, Upd.of_below hB1, hC1⟩
  | false =>
    clear hv'
    go_wp2_with fail
    go_loopg [7, 28] b.cks.length (fun n is i wx => ∃ (q : Nat) (o : Bool), q ≤ b.cks.length ∧ n = b.cks.length - q ∧ is = .bool o ∧ i = .int .i64 q ∧ (o && (b.cks.drop q).all (clockOk sp mi)) = rightL b.cks sp mi ∧ Below W1.heap.size W1 wx)
    case atStart => exact ⟨0, true, by omega, rfl, rfl, rfl, by simp [rightL], Below.refl _ _⟩
    case round =>
      obtain ⟨q1, o, hq1, hgk, rfl, rfl, hT, hbr⟩ := hrel
      have HG := Lib.hid hgk
      have HT := Lib.hid hT
      have hrz := hbr.size
      clear hgk hT hrun
      have u0 : wr.cell? ⟨W.heap.size + 1, 0, none⟩ = some (.int .i64 sp) := (hbr.cell (p := ⟨W.heap.size + 1, 0, none⟩) (by show W.heap.size + 1 < _; omega)).trans s0
      have u1 : wr.cell? ⟨W.heap.size + 1, 1, none⟩ = some (.int .i64 mi) := (hbr.cell (p := ⟨W.heap.size + 1, 1, none⟩) (by show W.heap.size + 1 < _; omega)).trans s1
      have lz : W.heap.size + 1 < wr.heap.size := by omega
      by_cases hlt : q1 < b.cks.length
      · obtain ⟨x, hx⟩ : ∃ x, b.cks[q1]? = some x := ⟨_, List.getElem?_eq_getElem hlt⟩
        obtain ⟨g, p, e1, hg, hcs⟩ := sl_at H4.out (show (ckCells b.cks)[q1]? = some x.cells by simp [ckCells, hx])
        subst e1
        obtain ⟨okx0, okx1, okx2⟩ := HOK.out x (List.mem_of_getElem? hx)
        have hdr : b.cks.drop q1 = x :: b.cks.drop (q1 + 1) := by
          rw [List.drop_eq_getElem_cons hlt]; rw [List.getElem?_eq_getElem hlt] at hx; cases hx; rfl
        have HD := Lib.hid hdr
        have hr : ∀ j c, x.cells[j]? = some c → wr.cell? ⟨g, p + q1 * 3 + j, none⟩ = some c := fun j c hj =>
          ((hB1.trans (hbr.mono (by omega))).cell (p := ⟨g, p + q1 * 3 + j, none⟩) (by show g < _; omega)).trans (hcs j c hj)
        have r0 : wr.cell? ⟨g, p + q1 * 3, none⟩ = some (.int .i64 x.st) := hr 0 _ rfl
        have r1 : wr.cell? ⟨g, p + q1 * 3 + 1, none⟩ = some (.int .i64 x.rd) := hr 1 _ rfl
        have r2 : wr.cell? ⟨g, p + q1 * 3 + 2, none⟩ = some (.int .i64 x.er) := hr 2 _ rfl
        clear hx hdr hr hcs
        cases o with
        | false =>
          go_wp2_with fail
          go_roundg (b.cks.length - (q1 + 1))
          case measure => rw [HG.out]; omega
          case rel => exact ⟨q1 + 1, false, hlt, rfl, rfl, by go_num, by rw [← HT.out]; rfl, hbr.alloc (by omega) _⟩
        | true =>
          by_cases hst : x.st = sp
          · have hst1 : (x.st != sp) = false := by simp [hst]
            have HST := Lib.hid hst
            clear hst
            go_wp2_with (go_at_call 66; refine (within_any _ _ _ _).mono ?_; rintro e w' ⟨rfl, rfl⟩)
            go_roundg (b.cks.length - (q1 + 1))
            case measure => rw [HG.out]; omega
            case rel => exact ⟨q1 + 1, _, hlt, rfl, rfl, by go_num, by rw [← HT.out, HD.out]; simp [clockOk, HST.out], hbr.alloc (by omega) _⟩
          · have hst1 : (x.st != sp) = true := by simp [hst]
            have HST := Lib.hid hst
            clear hst
            go_wp2_with fail
            go_roundg (b.cks.length - (q1 + 1))
            case measure => rw [HG.out]; omega
            case rel => exact ⟨q1 + 1, true, hlt, rfl, rfl, by go_num, by rw [← HT.out, HD.out]; simp [clockOk, HST.out], hbr.alloc (by omega) _⟩
      · have hkl : q1 = b.cks.length := by omega
        have hT1 : o = rightL b.cks sp mi := by have := HT.out; rw [hkl, List.drop_length] at this; simpa using this
        subst hT1
        have hCr : CacheOk wr M b.cks := hC1.of_block (hbr.block M hC1.lt)
        obtain ⟨ob, hput, hCp⟩ := put115 hCr sp mi _ rfl
        have u7 : wr.cell? ⟨W.heap.size, 7, none⟩ = some (Value.map (some M)) := (hbr.cell (p := ⟨W.heap.size, 7, none⟩) (by show W.heap.size < _; omega)).trans v7
        clear hkl HT
        go_wp2_with fail
        go_ret
        exact ⟨rfl, Upd.putObj (S := (· = M)) ((Upd.of_below hB1).trans (Upd.of_below hbr)) (.inl rfl) _, hCp⟩

/-- the numbers of a list, as a slice of int holds them. -/
def natCells (l : List Nat) : List (List Value) := l.map fun (x : Nat) => [.int .i64 (x : Int)]

set_option maxRecDepth 100000 in
set_option maxHeartbeats 400000 in
theorem index_any (W : World) (v : Value) (l : List Nat) (n k : Nat) (hs : SlOf W n 1 v (natCells l)) :
    Calls Tryd.prog 101 #[v, .int .i64 k] W fun e W' => (∃ r : Int, e = .returned (.int .i64 r) ∧ (0 ≤ r ↔ l.contains k = true)) ∧ W = W' := by
  obtain ⟨a, cap, rfl, h1, h2, h3, h4⟩ := hs
  simp only [natCells, List.length_map] at h1
  unfold maxLen at h2
  have H4 := Lib.hid h4
  clear h3 h4
  simp only [natCells, List.length_map]
  obtain ⟨Post, hPost⟩ : ∃ Post : Ending → World → Prop, Post = fun e W' => (∃ r : Int, e = .returned (.int .i64 r) ∧ (0 ≤ r ↔ l.contains k = true)) ∧ W = W' := ⟨_, rfl⟩
  have HP := Lib.hid hPost
  rw [← hPost]
  clear hPost
  go_enter Tryd.func101, Tryd.ntmps101
  go_wp2_with fail
  go_loopg [8] l.length (fun n i wx => W = wx ∧ ∃ (q : Nat), q ≤ l.length ∧ n = l.length - q ∧ i = .int .i64 q ∧ (l.contains k = (l.drop q).contains k))
  case atStart => exact ⟨rfl, 0, by omega, rfl, rfl, by simp⟩
  case round =>
    obtain ⟨rfl, q1, hq1, hgk, rfl, hT⟩ := hrel
    have HG := Lib.hid hgk
    have HT := Lib.hid hT
    clear hgk hT
    by_cases hlt : q1 < l.length
    · obtain ⟨x, hx⟩ : ∃ x, l[q1]? = some x := ⟨_, List.getElem?_eq_getElem hlt⟩
      obtain ⟨g, p, e1, hg, hcs⟩ := sl_at H4.out (show (natCells l)[q1]? = some [.int .i64 (x : Int)] by simp [natCells, hx])
      subst e1
      have hdr : l.drop q1 = x :: l.drop (q1 + 1) := by
        rw [List.drop_eq_getElem_cons hlt]; rw [List.getElem?_eq_getElem hlt] at hx; cases hx; rfl
      have HD := Lib.hid hdr
      have r0 : W.cell? ⟨g, p + q1 * 1 + 0, none⟩ = some (.int .i64 (x : Int)) := hcs 0 _ rfl
      simp only [Nat.mul_one, Nat.add_zero] at r0
      clear hx hdr hcs
      by_cases hkx : k = x
      · subst hkx
        go_wp2_with fail
        rw [HP.out]
        exact ⟨⟨_, rfl, by rw [HT.out, HD.out]; simp⟩, rfl⟩
      · have hkx1 : ((k : Int) == (x : Int)) = false := by simp; omega
        have hkx2 : (k == x) = false := by simp [hkx]
        go_wp2_with fail
        go_roundg (l.length - (q1 + 1))
        case measure => rw [HG.out]; omega
        case rel => exact ⟨rfl, q1 + 1, hlt, rfl, by go_num, by rw [HT.out, HD.out, List.contains_cons, hkx2]; simp⟩
    · have hkl : q1 = l.length := by omega
      have hT1 : l.contains k = false := by rw [HT.out, hkl, List.drop_length]; rfl
      have HT1 := Lib.hid hT1
      clear hkl HT hT1
      go_wp2_with fail
      rw [HP.out]
      exact ⟨⟨_, rfl, by rw [HT1.out]; simp⟩, rfl⟩

set_option maxHeartbeats 400000 in
theorem contains_any (W : World) (v : Value) (l : List Nat) (n k : Nat) (hs : SlOf W n 1 v (natCells l)) :
    Calls Tryd.prog 94 #[v, .int .i64 k] W fun e W' => e = .returned (.bool (l.contains k)) ∧ W = W' := by
  have HS := Lib.hid hs
  clear hs
  go_enter Tryd.func94, Tryd.ntmps94
  go_wp2_with (go_at_call 101; refine (index_any _ _ l n k HS.out).mono ?_; rintro e w' ⟨⟨r, rfl, hr⟩, rfl⟩; have HR := Lib.hid hr; clear hr)
  all_goals (go_ret; exact ⟨ret_bool (by rw [Bool.eq_iff_iff, decide_eq_true_iff]; exact HR.out), rfl⟩)
end Go.Proofs.YtbhjfojbjpbdbaaDoor
