/-
  The contracts of the closures of Comes, Late, Rough and First, and of stage's own (package claim). Written by this session.
-/
import Derived.Test.YtbhjfojbjpbdbaaDoorA14
namespace Go.Proofs.YtbhjfojbjpbdbaaDoor
open Go.RowKit

/-- the place of an alloc's cells in the second of two new blocks. -/
theorem box2 (W : World) (o1 : Obj) (c : Array Value) (T : TypeId) : ((W.alloc o1).alloc (.cells c T)).heap[W.heap.size + 1]? = some (.cells c T) := by
  have := World.alloc_heap_new (W.alloc o1) (.cells c T)
  rwa [World.size_alloc] at this

set_option maxHeartbeats 1000000 in
theorem comes1_any (W : World) (b : Bk) (sa ka ta : Option Addr) (sl sc kl kc tl tc : Nat) (mo : Option Nat) (t : Tr) (j PA : Nat) (hj : j < 3) (hA : W.heap[PA]? = some (.cells #[.int .i64 (j : Int)] 3)) :
    Calls Tryd.prog 72 #[.agg (b.cells9 (.slice sa sl sc) (.slice ka kl kc) (.map mo) (.slice ta tl tc)).toArray, .agg t.cells.toArray, .pointer (some ⟨PA, 0, none⟩)] W fun e W' =>
      e = .returned (.int .i64 (t.comes j)) ∧ Below W.heap.size W W' := by
  obtain ⟨V, hV⟩ : ∃ V, (W.alloc (.cells (b.cells9 (.slice sa sl sc) (.slice ka kl kc) (.map mo) (.slice ta tl tc)).toArray 79)).alloc (.cells t.cells.toArray 87) = V := ⟨_, rfl⟩
  have hBV : Below W.heap.size W V := by rw [← hV]; exact ((Below.refl _ _).alloc (Nat.le_refl _) _).alloc (by simp) _
  have hT : V.heap[W.heap.size + 1]? = some (.cells t.cells.toArray 87) := by rw [← hV]; exact box2 _ _ _ _
  have a0 : V.cell? ⟨PA, 0, none⟩ = some (.int .i64 (j : Int)) := (hBV.cell (p := ⟨PA, 0, none⟩) ((Array.getElem?_eq_some_iff.1 hA).1)).trans (blk_cell hA)
  have ij : (j : Int) < 3 := by omega
  have ca := tr_cell_a t hT hj
  have l1 : PA < V.heap.size := lt_of_cell a0
  clear hT hA
  simp only [Bk.cells9, Tr.cells]
  simp only [Bk.cells9, Tr.cells] at hV
  go_enter Tryd.func72, Tryd.ntmps72
  go_upto_region 1 with fail
  try rw [hV]
  clear hV
  go_wp2
  go_ret
  exact ⟨rfl, hBV⟩

set_option maxHeartbeats 1000000 in
theorem rough1_any (W : World) (b : Bk) (sa ka ta : Option Addr) (sl sc kl kc tl tc : Nat) (mo : Option Nat) (t : Tr) (j PA : Nat) (hj : j < 3) (hA : W.heap[PA]? = some (.cells #[.int .i64 (j : Int)] 3)) :
    Calls Tryd.prog 79 #[.agg (b.cells9 (.slice sa sl sc) (.slice ka kl kc) (.map mo) (.slice ta tl tc)).toArray, .agg t.cells.toArray, .pointer (some ⟨PA, 0, none⟩)] W fun e W' =>
      e = .returned (.int .i64 (t.rough j)) ∧ Below W.heap.size W W' := by
  obtain ⟨V, hV⟩ : ∃ V, (W.alloc (.cells (b.cells9 (.slice sa sl sc) (.slice ka kl kc) (.map mo) (.slice ta tl tc)).toArray 79)).alloc (.cells t.cells.toArray 87) = V := ⟨_, rfl⟩
  have hBV : Below W.heap.size W V := by rw [← hV]; exact ((Below.refl _ _).alloc (Nat.le_refl _) _).alloc (by simp) _
  have hT : V.heap[W.heap.size + 1]? = some (.cells t.cells.toArray 87) := by rw [← hV]; exact box2 _ _ _ _
  have a0 : V.cell? ⟨PA, 0, none⟩ = some (.int .i64 (j : Int)) := (hBV.cell (p := ⟨PA, 0, none⟩) ((Array.getElem?_eq_some_iff.1 hA).1)).trans (blk_cell hA)
  have ij : (j : Int) < 3 := by omega
  have ca := tr_cell_b t hT hj
  have l1 : PA < V.heap.size := lt_of_cell a0
  clear hT hA
  simp only [Bk.cells9, Tr.cells]
  simp only [Bk.cells9, Tr.cells] at hV
  go_enter Tryd.func79, Tryd.ntmps79
  go_upto_region 1 with fail
  try rw [hV]
  clear hV
  go_wp2
  go_ret
  exact ⟨rfl, hBV⟩

set_option maxHeartbeats 1000000 in
theorem late1_any (W : World) (b : Bk) (sa ka ta : Option Addr) (sl sc kl kc tl tc n : Nat) (mo : Option Nat) (t : Tr) (j PA : Nat) (hj : j < b.sts.length) (h3 : b.sts.length ≤ 3) (hn : n ≤ W.heap.size) (hs : SlOf W n 7 (.slice sa sl sc) (stCells b.sts)) (ht : TrOk t)
    (hd : 0 ≤ b.due j ∧ b.due j ≤ 1000) (hA : W.heap[PA]? = some (.cells #[.int .i64 (j : Int)] 3)) :
    Calls Tryd.prog 76 #[.agg (b.cells9 (.slice sa sl sc) (.slice ka kl kc) (.map mo) (.slice ta tl tc)).toArray, .agg t.cells.toArray, .pointer (some ⟨PA, 0, none⟩)] W fun e W' =>
      e = .returned (.int .i64 (lateT b j t)) ∧ Below W.heap.size W W' := by
  obtain ⟨V, hV⟩ : ∃ V, (W.alloc (.cells (b.cells9 (.slice sa sl sc) (.slice ka kl kc) (.map mo) (.slice ta tl tc)).toArray 79)).alloc (.cells t.cells.toArray 87) = V := ⟨_, rfl⟩
  have hBV : Below W.heap.size W V := by rw [← hV]; exact ((Below.refl _ _).alloc (Nat.le_refl _) _).alloc (by simp) _
  have HS := Lib.hid (hs.below hn hBV)
  have HN := Lib.hid (Nat.le_trans hn hBV.size)
  have hT : V.heap[W.heap.size + 1]? = some (.cells t.cells.toArray 87) := by rw [← hV]; exact box2 _ _ _ _
  have hB : V.heap[W.heap.size]? = some (.cells (b.cells9 (.slice sa sl sc) (.slice ka kl kc) (.map mo) (.slice ta tl tc)).toArray 79) := by rw [← hV]; exact (heap_alloc_old _ _ (by simp)).trans (World.alloc_heap_new _ _)
  have a0 : V.cell? ⟨PA, 0, none⟩ = some (.int .i64 (j : Int)) := (hBV.cell (p := ⟨PA, 0, none⟩) ((Array.getElem?_eq_some_iff.1 hA).1)).trans (blk_cell hA)
  have p0 : V.cell? ⟨W.heap.size + 1, 0, none⟩ = some (.int .i64 t.w) := blk_cell hT
  have p1 : V.cell? ⟨W.heap.size + 1, 1, none⟩ = some (.int .i64 t.a0) := blk_cell hT
  have p2 : V.cell? ⟨W.heap.size + 1, 2, none⟩ = some (.int .i64 t.a1) := blk_cell hT
  have p3 : V.cell? ⟨W.heap.size + 1, 3, none⟩ = some (.int .i64 t.a2) := blk_cell hT
  have p4 : V.cell? ⟨W.heap.size + 1, 4, none⟩ = some (.int .i64 t.b0) := blk_cell hT
  have p5 : V.cell? ⟨W.heap.size + 1, 5, none⟩ = some (.int .i64 t.b1) := blk_cell hT
  have p6 : V.cell? ⟨W.heap.size + 1, 6, none⟩ = some (.int .i64 t.b2) := blk_cell hT
  have q0 : V.cell? ⟨W.heap.size, 0, none⟩ = some (.slice sa sl sc) := blk_cell hB
  have q1 : V.cell? ⟨W.heap.size, 1, none⟩ = some (.int .i64 b.wth) := blk_cell hB
  have q2 : V.cell? ⟨W.heap.size, 2, none⟩ = some (.int .i64 b.c0) := blk_cell hB
  have q3 : V.cell? ⟨W.heap.size, 3, none⟩ = some (.int .i64 b.c1) := blk_cell hB
  have q4 : V.cell? ⟨W.heap.size, 4, none⟩ = some (.int .i64 b.c2) := blk_cell hB
  have q5 : V.cell? ⟨W.heap.size, 5, none⟩ = some (.slice ka kl kc) := blk_cell hB
  have q6 : V.cell? ⟨W.heap.size, 6, none⟩ = some (.int .i64 b.rate) := blk_cell hB
  have q7 : V.cell? ⟨W.heap.size, 7, none⟩ = some (.map mo) := blk_cell hB
  have q8 : V.cell? ⟨W.heap.size, 8, none⟩ = some (.slice ta tl tc) := blk_cell hB
  have l1 : PA < V.heap.size := lt_of_cell a0
  clear hT hB hA hs hn
  simp only [Bk.cells9, Tr.cells]
  simp only [Bk.cells9, Tr.cells] at hV
  go_enter Tryd.func76, Tryd.ntmps76
  go_upto_region 1 with fail
  try rw [hV]
  clear hV
  go_wp2_with (go_at_call 77; refine (late_any V b (.slice sa sl sc) (.slice ka kl kc) (.map mo) (.slice ta tl tc) n t j HN.out HS.out hj h3 ht hd).mono ?_; rintro e w1 ⟨rfl, hb1⟩; have HB1 := Lib.hid hb1; clear hb1)
  go_ret
  exact ⟨rfl, hBV.trans (HB1.out.mono hBV.size)⟩

/-- the value of a function of a book and a truth. -/
def OfFn (W : World) (b : Bk) (sa : Option Addr) (sl sc g PA : Nat) (f : Tr → Int) : Prop :=
  ∀ (ka ta : Option Addr) (kl kc tl tc : Nat) (mo : Option Nat) (t : Tr) (W2 : World), TrOk t → Below W.heap.size W W2 →
    Calls Tryd.prog g #[.agg (b.cells9 (.slice sa sl sc) (.slice ka kl kc) (.map mo) (.slice ta tl tc)).toArray, .agg t.cells.toArray, .pointer (some ⟨PA, 0, none⟩)] W2 fun e W3 => e = .returned (.int .i64 (f t)) ∧ Below W2.heap.size W2 W3

set_option maxHeartbeats 1000000 in
theorem stage1_any (W W1 : World) (b : Bk) (sa ka ta : Option Addr) (sl sc kl kc tl tc : Nat) (mo : Option Nat) (t : Tr) (g PA P5 P8 : Nat) (f : Tr → Int) (ht : TrOk t) (hof : OfFn W b sa sl sc g PA f) (he : Enters g) (hb : Below W.heap.size W W1)
    (h5 : W1.heap[P5]? = some (.cells #[.func (.func g) #[] #[.pointer (some ⟨PA, 0, none⟩)]] 88)) (h8 : W1.heap[P8]? = some (.cells (b.cells9 (.slice sa sl sc) (.slice ka kl kc) (.map mo) (.slice ta tl tc)).toArray 79)) :
    Calls Tryd.prog 97 #[.agg t.cells.toArray, .pointer (some ⟨P5, 0, none⟩), .pointer (some ⟨P8, 0, none⟩)] W1 fun e W' => e = .returned (.int .i64 (f t)) ∧ Below W1.heap.size W1 W' := by
  obtain ⟨V, hV⟩ : ∃ V, W1.alloc (.cells t.cells.toArray 87) = V := ⟨_, rfl⟩
  have hBV : Below W1.heap.size W1 V := by rw [← hV]; exact (Below.refl _ _).alloc (Nat.le_refl _) _
  have hT : V.heap[W1.heap.size]? = some (.cells t.cells.toArray 87) := by rw [← hV]; exact World.alloc_heap_new _ _
  have g5 := (hBV.block P5 (Array.getElem?_eq_some_iff.1 h5).1).trans h5
  have g8 := (hBV.block P8 (Array.getElem?_eq_some_iff.1 h8).1).trans h8
  have c5 : V.cell? ⟨P5, 0, none⟩ = some (.func (.func g) #[] #[.pointer (some ⟨PA, 0, none⟩)]) := blk_cell g5
  have p0 : V.cell? ⟨W1.heap.size, 0, none⟩ = some (.int .i64 t.w) := blk_cell hT
  have p1 : V.cell? ⟨W1.heap.size, 1, none⟩ = some (.int .i64 t.a0) := blk_cell hT
  have p2 : V.cell? ⟨W1.heap.size, 2, none⟩ = some (.int .i64 t.a1) := blk_cell hT
  have p3 : V.cell? ⟨W1.heap.size, 3, none⟩ = some (.int .i64 t.a2) := blk_cell hT
  have p4 : V.cell? ⟨W1.heap.size, 4, none⟩ = some (.int .i64 t.b0) := blk_cell hT
  have p5 : V.cell? ⟨W1.heap.size, 5, none⟩ = some (.int .i64 t.b1) := blk_cell hT
  have p6 : V.cell? ⟨W1.heap.size, 6, none⟩ = some (.int .i64 t.b2) := blk_cell hT
  have q0 : V.cell? ⟨P8, 0, none⟩ = some (.slice sa sl sc) := blk_cell g8
  have q1 : V.cell? ⟨P8, 1, none⟩ = some (.int .i64 b.wth) := blk_cell g8
  have q2 : V.cell? ⟨P8, 2, none⟩ = some (.int .i64 b.c0) := blk_cell g8
  have q3 : V.cell? ⟨P8, 3, none⟩ = some (.int .i64 b.c1) := blk_cell g8
  have q4 : V.cell? ⟨P8, 4, none⟩ = some (.int .i64 b.c2) := blk_cell g8
  have q5 : V.cell? ⟨P8, 5, none⟩ = some (.slice ka kl kc) := blk_cell g8
  have q6 : V.cell? ⟨P8, 6, none⟩ = some (.int .i64 b.rate) := blk_cell g8
  have q7 : V.cell? ⟨P8, 7, none⟩ = some (.map mo) := blk_cell g8
  have q8 : V.cell? ⟨P8, 8, none⟩ = some (.slice ta tl tc) := blk_cell g8
  have l5 := lt_of_cell c5
  have l8 := lt_of_cell q0
  have hcall := hof ka ta kl kc tl tc mo t V ht (hb.trans (hBV.mono hb.size))
  have HC := Lib.hid hcall
  have he' := he
  unfold Enters at he'
  clear hT g5 g8 h5 h8 hcall hof he
  simp only [Tr.cells]
  simp only [Tr.cells] at hV
  go_enter Tryd.func97, Tryd.ntmps97
  go_upto_region 1 with fail
  try rw [hV]
  clear hV
  go_wp2_with (first | (refine HC.out.mono ?_; rintro e w1 ⟨rfl, hb1⟩; have HB1 := Lib.hid hb1; clear hb1) | fail)
  go_ret
  exact ⟨rfl, hBV.trans (HB1.out.mono hBV.size)⟩

theorem stored2 {B K : Nat} {T : TypeId} {V W : World} {z0 z1 : Value} (h : W.heap[B]? = some (.cells #[z0, z1] T)) (v0 v1 : Value) (hb : Below K V W) (hB : K ≤ B) :
    ((W.setCell ⟨B, 0, none⟩ v0).setCell ⟨B, 1, none⟩ v1).cell? ⟨B, 0, none⟩ = some v0 ∧ ((W.setCell ⟨B, 0, none⟩ v0).setCell ⟨B, 1, none⟩ v1).cell? ⟨B, 1, none⟩ = some v1 ∧ Below K V ((W.setCell ⟨B, 0, none⟩ v0).setCell ⟨B, 1, none⟩ v1) := by
  have h2 := blk_set (v := v1) (j := 1) (blk_set (v := v0) (j := 0) h)
  exact ⟨(blk_cell h2).trans (by simp), (blk_cell h2).trans (by simp), (hb.setCell (p := ⟨B, 0, none⟩) hB v0).setCell (p := ⟨B, 1, none⟩) hB v1⟩

/-- what asked has handed back, stored in a block laid behind the call. -/
theorem asked_new {V w2 : World} {b x : Bk} {sa sa' ka' ta : Option Addr} {n1 sc sl' sc' kl' kc' tl tc : Nat} {mo : Option Nat} {E : Int} {W0 : Nat} (hb : Below V.drew.heap.size V.drew w2)
    (hx : E = 0 → x = b ∧ sa' = sa ∧ sl' = n1 ∧ sc' = sc ∧ SlOf w2 w2.heap.size 7 (.slice ta tl tc) (trCells (truths b)) ∧ (∀ g, (Value.slice ta tl tc).ownBlock = some g → W0 ≤ g)) :
    let X := w2.alloc (.cells (x.cells9 (.slice sa' sl' sc') (.slice ka' kl' kc') (.map mo) (.slice ta tl tc)).toArray 79)
    Below V.heap.size V X ∧ V.heap.size ≤ w2.heap.size ∧ X.heap[w2.heap.size]? = some (.cells (x.cells9 (.slice sa' sl' sc') (.slice ka' kl' kc') (.map mo) (.slice ta tl tc)).toArray 79) ∧
      (E = 0 → x = b ∧ sa' = sa ∧ sl' = n1 ∧ sc' = sc ∧ SlOf X X.heap.size 7 (.slice ta tl tc) (trCells (truths b))) := by
  have hz : V.heap.size ≤ w2.heap.size := hb.size
  refine ⟨(((Below.refl V.heap.size V).drew.trans hb)).alloc hz _, hz, World.alloc_heap_new _ _, fun h => ?_⟩
  obtain ⟨h1, h2, h3, h4, h5, _⟩ := hx h
  exact ⟨h1, h2, h3, h4, (h5.below (Nat.le_refl _) ((Below.refl _ _).alloc (Nat.le_refl _) _)).mono (by simp)⟩

/-- the same, the block laid ahead of the call. -/
theorem asked_old {V w2 : World} {b x : Bk} {sa sa' ka' ta : Option Addr} {n1 sc sl' sc' kl' kc' tl tc : Nat} {mo : Option Nat} {E : Int} (hb : Below (V.alloc zero79).drew.heap.size (V.alloc zero79).drew w2)
    (hx : E = 0 → x = b ∧ sa' = sa ∧ sl' = n1 ∧ sc' = sc ∧ SlOf w2 w2.heap.size 7 (.slice ta tl tc) (trCells (truths b)) ∧ (∀ g, (Value.slice ta tl tc).ownBlock = some g → (V.alloc zero79).drew.heap.size ≤ g)) :
    let X := ((((((((w2.setCell ⟨V.heap.size, 0, none⟩ (.slice sa' sl' sc')).setCell ⟨V.heap.size, 1, none⟩ (.int .i64 x.wth)).setCell ⟨V.heap.size, 2, none⟩ (.int .i64 x.c0)).setCell ⟨V.heap.size, 3, none⟩ (.int .i64 x.c1)).setCell ⟨V.heap.size, 4, none⟩ (.int .i64 x.c2)).setCell
      ⟨V.heap.size, 5, none⟩ (.slice ka' kl' kc')).setCell ⟨V.heap.size, 6, none⟩ (.int .i64 x.rate)).setCell ⟨V.heap.size, 7, none⟩ (.map mo)).setCell ⟨V.heap.size, 8, none⟩ (.slice ta tl tc)
    Below V.heap.size V X ∧ V.heap.size ≤ V.heap.size ∧ X.heap[V.heap.size]? = some (.cells (x.cells9 (.slice sa' sl' sc') (.slice ka' kl' kc') (.map mo) (.slice ta tl tc)).toArray 79) ∧
      (E = 0 → x = b ∧ sa' = sa ∧ sl' = n1 ∧ sc' = sc ∧ SlOf X X.heap.size 7 (.slice ta tl tc) (trCells (truths b))) := by
  have hs : (V.alloc zero79).drew.heap.size = V.heap.size + 1 := by show (V.alloc zero79).heap.size = _; simp
  have h0 : (V.alloc zero79).drew.heap[V.heap.size]? = some zero79 := World.alloc_heap_new V zero79
  have hw : w2.heap[V.heap.size]? = some zero79 := (hb.block _ (by omega)).trans h0
  have hst := stored9 hw (.slice sa' sl' sc') (.int .i64 x.wth) (.int .i64 x.c0) (.int .i64 x.c1) (.int .i64 x.c2) (.slice ka' kl' kc') (.int .i64 x.rate) (.map mo) (.slice ta tl tc)
  have hb0 : Below V.heap.size V w2 := (((Below.refl _ V).alloc (Nat.le_refl _) _).drew).trans (hb.mono (by omega))
  intro X
  refine ⟨hst.below hb0 (Nat.le_refl _), Nat.le_refl _, hst.cells, fun h => ?_⟩
  obtain ⟨h1, h2, h3, h4, h5, h6⟩ := hx h
  exact ⟨h1, h2, h3, h4, hst.slOf h5 (fun g o len cap e => by have := h6 g (by rw [e]; rfl); omega) (Nat.le_refl _)⟩
end Go.Proofs.YtbhjfojbjpbdbaaDoor
