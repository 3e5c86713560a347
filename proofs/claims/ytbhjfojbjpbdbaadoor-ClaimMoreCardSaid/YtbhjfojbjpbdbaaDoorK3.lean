/-
  Merged: A14, A16. Written by sessions of this seat.
-/
import Derived.Test.YtbhjfojbjpbdbaaDoorK2
import Derived.Test.YtbhjfojbjpbdbaaDoorP1

-- A14: The contracts of Right and asked (package claim). Written by a session; printed by wip/tools/a14.py.
namespace Go.Proofs.YtbhjfojbjpbdbaaDoor
open Go.RowKit

theorem Glob.lt {w : World} (h : Glob w) : 1 < w.heap.size := lt_of_cell h.n0

theorem opened_ok (W : World) (b : Bk) (s k bv : Value) (l : List Nat) (n : Nat) (hn : n ≤ W.heap.size) (hs : SlOf W n 7 s (stCells b.sts)) (hk : SlOf W n 3 k (ckCells b.cks)) (hG : Glob W) (hb : SlOf W n 1 bv (natCells l)) (hS : Sound b) :
    Calls Tryd.prog 64 #[.agg (b.cells s k).toArray, bv] W fun e W' => ∃ ka kl kc M tv, e = .returned (.agg ((b.but l).cells9 s (.slice ka kl kc) (.map (some M)) tv).toArray) ∧ Below W.heap.size W W' ∧
      SlOf W' W'.heap.size 7 tv (trCells (truths (b.but l))) ∧ (∀ g, tv.ownBlock = some g → W.heap.size ≤ g) :=
  opened_any W b s k bv l n hG hn hs hk hb hS.nc (hS.but l).big (by have := hS.bd.l1; omega) hS.wt (truths_len (hS.but l))

theorem opened_nil (W : World) (b : Bk) (s k : Value) (n : Nat) (hn : n ≤ W.heap.size) (hs : SlOf W n 7 s (stCells b.sts)) (hk : SlOf W n 3 k (ckCells b.cks)) (hG : Glob W) (hS : Sound b) :
    Calls Tryd.prog 64 #[.agg (b.cells s k).toArray, .slice none 0 0] W fun e W' => ∃ ka kl kc M tv, e = .returned (.agg (b.cells9 s (.slice ka kl kc) (.map (some M)) tv).toArray) ∧ Below W.heap.size W W' ∧
      SlOf W' W'.heap.size 7 tv (trCells (truths b)) ∧ (∀ g, tv.ownBlock = some g → W.heap.size ≤ g) := by
  have h := opened_ok W b s k (.slice none 0 0) [] n hn hs hk hG ⟨none, 0, rfl, Nat.le_refl _, by simp [maxLen, natCells], by simp [natCells], fun h => absurd h (by simp [natCells])⟩ hS
  rw [but_nil] at h
  exact h

theorem field79 : ∀ (v0 v1 v2 v3 v4 v5 v6 v7 v8 : Value) (w : World), (Instr.field 79 (.agg #[v0, v1, v2, v3, v4, v5, v6, v7, v8]) 2).run Tryd.prog w = .ok v8 w := by
  intro v0 v1 v2 v3 v4 v5 v6 v7 v8 w
  kernel_rfl

theorem dec_len (l : List Tr) : decide (0 < (trCells l).length) = !l.isEmpty := by cases l <;> simp [trCells]

theorem SlOf.slice {w : World} {n sz : Nat} {v : Value} {rows : List (List Value)} (h : SlOf w n sz v rows) : ∃ a c, v = .slice a rows.length c := by
  obtain ⟨a, c, rfl, _⟩ := h
  exact ⟨_, _, rfl⟩

theorem slOf_nil (W : World) (n sz : Nat) : SlOf W n sz (.slice none 0 0) [] := ⟨none, 0, rfl, Nat.le_refl _, by simp [maxLen], by simp, fun h => absurd h (by simp)⟩

/-- a book's value whose slices are written out. -/
structure BookW (W : World) (n : Nat) (sa ka : Option Addr) (n1 sc n2 kc : Nat) (b : Bk) : Prop where
  hn : n ≤ W.heap.size
  hs : SlOf W n 7 (.slice sa n1 sc) (stCells b.sts)
  hk : SlOf W n 3 (.slice ka n2 kc) (ckCells b.cks)
  l1 : n1 = b.sts.length
  l2 : n2 = b.cks.length
theorem BookW.v {W : World} {n : Nat} {sa ka : Option Addr} {n1 sc n2 kc : Nat} {b : Bk} (h : BookW W n sa ka n1 sc n2 kc b) : BookV W W.heap.size (.agg (b.cells (.slice sa n1 sc) (.slice ka n2 kc)).toArray) b :=
  ⟨_, _, rfl, h.hs.mono h.hn, h.hk.mono h.hn⟩
theorem BookW.below {W V : World} {n B : Nat} {sa ka : Option Addr} {n1 sc n2 kc : Nat} {b : Bk} (h : BookW W n sa ka n1 sc n2 kc b) (hn : n ≤ B) (hb : Below B W V) : BookW V n sa ka n1 sc n2 kc b :=
  ⟨Nat.le_trans h.hn hb.size, h.hs.below hn hb, h.hk.below hn hb, h.l1, h.l2⟩
theorem bookW_of {W : World} {v : Value} {b : Bk} (h : BookV W W.heap.size v b) : ∃ sa n1 sc ka n2 kc, v = .agg (b.cells (.slice sa n1 sc) (.slice ka n2 kc)).toArray ∧ BookW W W.heap.size sa ka n1 sc n2 kc b := by
  obtain ⟨s, k, rfl, hs, hk⟩ := h
  obtain ⟨sa, sc, rfl⟩ := hs.slice
  obtain ⟨ka, kc, rfl⟩ := hk.slice
  exact ⟨_, _, _, _, _, _, rfl, Nat.le_refl _, hs, hk, by simp [stCells], by simp [ckCells]⟩

set_option maxRecDepth 100000 in
set_option maxHeartbeats 2000000 in
theorem right_ex (W : World) (b : Bk) (n : Nat) (sa ka : Option Addr) (n1 sc n2 kc : Nat) (hv : BookW W n sa ka n1 sc n2 kc b) (hG : Glob W) :
    Calls Tryd.prog 15 #[.agg (b.cells (.slice sa n1 sc) (.slice ka n2 kc)).toArray] W fun e W' => e = .returned (.tuple #[.bool (rightS b).1, .int .i64 (rightS b).2]) ∧ Below W.heap.size W W' := by
  obtain ⟨V, hV⟩ : ∃ V, W.alloc (Obj.cells #[.slice sa n1 sc, .int .i64 b.wth, .int .i64 b.c0, .int .i64 b.c1, .int .i64 b.c2, .slice ka n2 kc, .int .i64 b.rate] 26) = V := ⟨_, rfl⟩
  have hBV : Below W.heap.size W V := by rw [← hV]; exact (Below.refl _ _).alloc (Nat.le_refl _) _
  have hb0 : V.heap[W.heap.size]? = some (Obj.cells #[.slice sa n1 sc, .int .i64 b.wth, .int .i64 b.c0, .int .i64 b.c1, .int .i64 b.c2, .slice ka n2 kc, .int .i64 b.rate] 26) := by rw [← hV]; exact World.alloc_heap_new _ _
  have hVz : W.heap.size < V.heap.size := (Array.getElem?_eq_some_iff.1 hb0).1
  have HGV := Lib.hid (hG.below hG.lt hBV)
  have HVB := Lib.hid (hv.below hv.hn hBV)
  have HN := Lib.hid hv.hn
  have c0 : V.cell? ⟨W.heap.size, 0, none⟩ = some (.slice sa n1 sc) := blk_cell hb0
  have c1 : V.cell? ⟨W.heap.size, 1, none⟩ = some (.int .i64 b.wth) := blk_cell hb0
  have c2 : V.cell? ⟨W.heap.size, 2, none⟩ = some (.int .i64 b.c0) := blk_cell hb0
  have c3 : V.cell? ⟨W.heap.size, 3, none⟩ = some (.int .i64 b.c1) := blk_cell hb0
  have c4 : V.cell? ⟨W.heap.size, 4, none⟩ = some (.int .i64 b.c2) := blk_cell hb0
  have c5 : V.cell? ⟨W.heap.size, 5, none⟩ = some (.slice ka n2 kc) := blk_cell hb0
  have c6 : V.cell? ⟨W.heap.size, 6, none⟩ = some (.int .i64 b.rate) := blk_cell hb0
  clear hv hG hb0
  have hfield := field79
  simp only [Bk.cells]
  by_cases hok : bkOk b = true
  · have HCK := Lib.hid (show checkS b = 0 by simp [checkS, hok])
    have HSO := Lib.hid (sound_of hok)
    have HR := Lib.hid (show rightS b = (!(truths b).isEmpty, 0) by simp [rightS, hok])
    clear hok
    go_enter Tryd.func15, Tryd.ntmps15
    go_upto_region 1 with fail
    try rw [hV]
    clear hV
    go_wp2_with (first
      | (go_at_call 17; refine (check_any _ _ b HVB.out.v).mono ?_; rintro e w1 ⟨rfl, hb1⟩; rw [HCK.out]; have hk1 := (bcell hb1).1; have HB1 := Lib.hid hb1; clear hb1)
      | (go_at_call 64; refine (opened_nil w1 b (.slice sa n1 sc) (.slice ka n2 kc) n (HVB.out.below HVB.out.hn HB1.out).hn (HVB.out.below HVB.out.hn HB1.out).hs (HVB.out.below HVB.out.hn HB1.out).hk (HGV.out.below HGV.out.lt HB1.out) HSO.out).mono ?_; rintro e w2 ⟨ka', kl', kc', M, tv, rfl, hb2, ht, hfr⟩; obtain ⟨ta, tc, rfl⟩ := ht.slice; have HB2 := Lib.hid hb2; have HT := Lib.hid ht; have HFR := Lib.hid hfr; clear hb2 ht hfr; simp only [Bk.cells9])
      | fail)
    refine bodyPost_ret (results_tmp2 rfl _ _ _) rfl ⟨?_, (hBV.trans (HB1.out.mono hBV.size)).trans (HB2.out.mono (Nat.le_trans hBV.size HB1.out.size))⟩
    rw [HR.out]
    show Ending.returned (.tuple #[.bool (decide (0 < (trCells (truths b)).length)), .int .i64 0]) = _
    rw [dec_len]
  · have HCK := Lib.hid (show checkS b = 60 by simp [checkS, hok])
    have HR := Lib.hid (show rightS b = (false, 60) by simp [rightS, hok])
    clear hok
    go_enter Tryd.func15, Tryd.ntmps15
    go_upto_region 1 with fail
    try rw [hV]
    clear hV
    go_wp2_with (first
      | (go_at_call 17; refine (check_any _ _ b HVB.out.v).mono ?_; rintro e w1 ⟨rfl, hb1⟩; rw [HCK.out]; have HB1 := Lib.hid hb1; clear hb1)
      | fail)
    refine bodyPost_ret (results_tmp2 rfl _ _ _) rfl ⟨?_, hBV.trans (HB1.out.mono hBV.size)⟩
    rw [HR.out]
    rfl

set_option maxRecDepth 100000 in
set_option maxHeartbeats 4000000 in
theorem asked_any (W : World) (b : Bk) (is : Bool) (n : Nat) (sa ka : Option Addr) (n1 sc n2 kc : Nat) (hv : BookW W n sa ka n1 sc n2 kc b) (hG : Glob W) :
    Calls Tryd.prog 80 #[.agg (b.cells (.slice sa n1 sc) (.slice ka n2 kc)).toArray, .bool is] W fun e W' => ∃ (x : Bk) (sa' ka' ta : Option Addr) (sl' sc' kl' kc' tl tc : Nat) (mo : Option Nat),
      e = .returned (.tuple #[.agg (x.cells9 (.slice sa' sl' sc') (.slice ka' kl' kc') (.map mo) (.slice ta tl tc)).toArray, .int .i64 (askE b is)]) ∧ Below W.heap.size W W' ∧
      (askE b is = 0 → x = b ∧ sa' = sa ∧ sl' = n1 ∧ sc' = sc ∧ SlOf W' W'.heap.size 7 (.slice ta tl tc) (trCells (truths b)) ∧ (∀ g, (Value.slice ta tl tc).ownBlock = some g → W.heap.size ≤ g)) := by
  obtain ⟨V, hV⟩ : ∃ V, (W.alloc (Obj.cells #[.slice sa n1 sc, .int .i64 b.wth, .int .i64 b.c0, .int .i64 b.c1, .int .i64 b.c2, .slice ka n2 kc, .int .i64 b.rate] 26)).alloc zero79 = V := ⟨_, rfl⟩
  have hBV : Below W.heap.size W V := by rw [← hV]; exact ((Below.refl _ _).alloc (Nat.le_refl _) _).alloc (by simp) _
  have hb0 : V.heap[W.heap.size]? = some (Obj.cells #[.slice sa n1 sc, .int .i64 b.wth, .int .i64 b.c0, .int .i64 b.c1, .int .i64 b.c2, .slice ka n2 kc, .int .i64 b.rate] 26) := by rw [← hV]; exact (heap_alloc_old _ _ (by simp)).trans (World.alloc_heap_new _ _)
  have hVz : W.heap.size < V.heap.size := (Array.getElem?_eq_some_iff.1 hb0).1
  have HGV := Lib.hid (hG.below hG.lt hBV)
  have HVB := Lib.hid (hv.below hv.hn hBV)
  have HN := Lib.hid hv.hn
  have c0 : V.cell? ⟨W.heap.size, 0, none⟩ = some (.slice sa n1 sc) := blk_cell hb0
  have c1 : V.cell? ⟨W.heap.size, 1, none⟩ = some (.int .i64 b.wth) := blk_cell hb0
  have c2 : V.cell? ⟨W.heap.size, 2, none⟩ = some (.int .i64 b.c0) := blk_cell hb0
  have c3 : V.cell? ⟨W.heap.size, 3, none⟩ = some (.int .i64 b.c1) := blk_cell hb0
  have c4 : V.cell? ⟨W.heap.size, 4, none⟩ = some (.int .i64 b.c2) := blk_cell hb0
  have c5 : V.cell? ⟨W.heap.size, 5, none⟩ = some (.slice ka n2 kc) := blk_cell hb0
  have c6 : V.cell? ⟨W.heap.size, 6, none⟩ = some (.int .i64 b.rate) := blk_cell hb0
  have hr0 : V.heap[W.heap.size + 1]? = some zero79 := by rw [← hV]; have := World.alloc_heap_new (W.alloc (Obj.cells #[.slice sa n1 sc, .int .i64 b.wth, .int .i64 b.c0, .int .i64 b.c1, .int .i64 b.c2, .slice ka n2 kc, .int .i64 b.rate] 26)) zero79; rwa [World.size_alloc] at this
  have hVy : W.heap.size + 1 < V.heap.size := (Array.getElem?_eq_some_iff.1 hr0).1
  have z0 : V.cell? ⟨W.heap.size + 1, 0, none⟩ = some (.slice none 0 0) := blk_cell hr0
  have z1 : V.cell? ⟨W.heap.size + 1, 1, none⟩ = some (.int .i64 0) := blk_cell hr0
  have z2 : V.cell? ⟨W.heap.size + 1, 2, none⟩ = some (.int .i64 0) := blk_cell hr0
  have z3 : V.cell? ⟨W.heap.size + 1, 3, none⟩ = some (.int .i64 0) := blk_cell hr0
  have z4 : V.cell? ⟨W.heap.size + 1, 4, none⟩ = some (.int .i64 0) := blk_cell hr0
  have z5 : V.cell? ⟨W.heap.size + 1, 5, none⟩ = some (.slice none 0 0) := blk_cell hr0
  have z6 : V.cell? ⟨W.heap.size + 1, 6, none⟩ = some (.int .i64 0) := blk_cell hr0
  have z7 : V.cell? ⟨W.heap.size + 1, 7, none⟩ = some (.map none) := blk_cell hr0
  have z8 : V.cell? ⟨W.heap.size + 1, 8, none⟩ = some (.slice none 0 0) := blk_cell hr0
  have zf0 := blk_frozen hr0 0
  have zf1 := blk_frozen hr0 1
  have zf2 := blk_frozen hr0 2
  have zf3 := blk_frozen hr0 3
  have zf4 := blk_frozen hr0 4
  have zf5 := blk_frozen hr0 5
  have zf6 := blk_frozen hr0 6
  have zf7 := blk_frozen hr0 7
  have zf8 := blk_frozen hr0 8
  have HR0 := Lib.hid hr0
  clear hv hG hb0 hr0
  simp only [Bk.cells]
  by_cases hok : bkOk b = true
  · have HCK := Lib.hid (show checkS b = 0 by simp [checkS, hok])
    have HSO := Lib.hid (sound_of hok)
    cases is with
    | false =>
      have HA := Lib.hid (show askE b false = 61 by simp [askE, hok])
      clear hok
      go_enter Tryd.func80, Tryd.ntmps80
      go_upto_region 1 with fail
      try rw [hV]
      clear hV
      go_wp2_with (first
        | (go_at_call 17; refine (check_any _ _ b HVB.out.v).mono ?_; rintro e w1 ⟨rfl, hb1⟩; rw [HCK.out]; have hk1 := (bcell hb1).1; have hk2 := (bcell hb1).2; have HB1 := Lib.hid hb1; clear hb1)
        | fail)
      have hst := stored9 ((HB1.out.block _ hVy).trans HR0.out) (.slice none 0 0) (.int .i64 0) (.int .i64 0) (.int .i64 0) (.int .i64 0) (.slice none 0 0) (.int .i64 0) (.map none) (.slice none 0 0)
      have HST := Lib.hid hst
      clear hst
      generalize (((((((((w1.setCell ⟨W.heap.size + 1, 0, none⟩ (.slice none 0 0)).setCell ⟨W.heap.size + 1, 1, none⟩ (.int .i64 0)).setCell ⟨W.heap.size + 1, 2, none⟩ (.int .i64 0)).setCell ⟨W.heap.size + 1, 3, none⟩ (.int .i64 0)).setCell ⟨W.heap.size + 1, 4, none⟩ (.int .i64 0)).setCell ⟨W.heap.size + 1, 5, none⟩ (.slice none 0 0)).setCell ⟨W.heap.size + 1, 6, none⟩ (.int .i64 0)).setCell ⟨W.heap.size + 1, 7, none⟩ (.map none)).setCell ⟨W.heap.size + 1, 8, none⟩ (.slice none 0 0)) = W9 at HST ⊢
      have k0 : W9.cell? ⟨W.heap.size + 1, 0, none⟩ = some (.slice none 0 0) := blk_cell HST.out.cells
      have k1 : W9.cell? ⟨W.heap.size + 1, 1, none⟩ = some (.int .i64 0) := blk_cell HST.out.cells
      have k2 : W9.cell? ⟨W.heap.size + 1, 2, none⟩ = some (.int .i64 0) := blk_cell HST.out.cells
      have k3 : W9.cell? ⟨W.heap.size + 1, 3, none⟩ = some (.int .i64 0) := blk_cell HST.out.cells
      have k4 : W9.cell? ⟨W.heap.size + 1, 4, none⟩ = some (.int .i64 0) := blk_cell HST.out.cells
      have k5 : W9.cell? ⟨W.heap.size + 1, 5, none⟩ = some (.slice none 0 0) := blk_cell HST.out.cells
      have k6 : W9.cell? ⟨W.heap.size + 1, 6, none⟩ = some (.int .i64 0) := blk_cell HST.out.cells
      have k7 : W9.cell? ⟨W.heap.size + 1, 7, none⟩ = some (.map none) := blk_cell HST.out.cells
      have k8 : W9.cell? ⟨W.heap.size + 1, 8, none⟩ = some (.slice none 0 0) := blk_cell HST.out.cells
      refine bodyPost_ret (v := .tuple #[.agg #[.slice none 0 0, .int .i64 0, .int .i64 0, .int .i64 0, .int .i64 0, .slice none 0 0, .int .i64 0, .map none, .slice none 0 0], .int .i64 61]) (by simp [results, Tryd.results80, go_sem, k0, k1, k2, k3, k4, k5, k6, k7, k8]) rfl ?_
      exact ⟨⟨[], 0, 0, 0, 0, [], 0⟩, none, none, none, 0, 0, 0, 0, 0, 0, none, by rw [HA.out]; rfl, HST.out.below (hBV.trans (HB1.out.mono hBV.size)) (by omega), fun h => by rw [HA.out] at h; cases h⟩
    | true =>
      clear zf0 zf1 zf2 zf3 zf4 zf5 zf6 zf7 zf8 z0 z1 z2 z3 z4 z5 z6 z7 z8
      go_enter Tryd.func80, Tryd.ntmps80
      go_upto_region 1 with fail
      try rw [hV]
      clear hV
      go_upto_region 7 with (first
        | (go_at_call 17; refine (check_any _ _ b HVB.out.v).mono ?_; rintro e w1 ⟨rfl, hb1⟩; rw [HCK.out]; have hk1 := (bcell hb1).1; have HB1 := Lib.hid hb1; clear hb1)
        | (go_at_call 64; refine (opened_nil w1 b (.slice sa n1 sc) (.slice ka n2 kc) n (HVB.out.below HVB.out.hn HB1.out).hn (HVB.out.below HVB.out.hn HB1.out).hs (HVB.out.below HVB.out.hn HB1.out).hk (HGV.out.below HGV.out.lt HB1.out) HSO.out).mono ?_; rintro e w2 ⟨ka', kl', kc', M, tv, rfl, hb2, ht, hfr⟩; obtain ⟨ta, tc, rfl⟩ := ht.slice; have HB2 := Lib.hid hb2; have HT := Lib.hid ht; have HFR := Lib.hid hfr; clear hb2 ht hfr; simp only [Bk.cells9])
        | fail)
      obtain ⟨tl, htl⟩ : ∃ tl, (trCells (truths b)).length = tl := ⟨_, rfl⟩
      rw [htl] at HT HFR ⊢
      have hw20 : w2.heap[W.heap.size + 1]? = some zero79 := (HB2.out.block _ (Nat.lt_of_lt_of_le hVy HB1.out.size)).trans ((HB1.out.block _ hVy).trans HR0.out)
      have hB2 : Below W.heap.size W w2 := (hBV.trans (HB1.out.mono hBV.size)).trans (HB2.out.mono (Nat.le_trans hBV.size HB1.out.size))
      have hw2z : W.heap.size + 1 < w2.heap.size := (Array.getElem?_eq_some_iff.1 hw20).1
      obtain ⟨Y, hY⟩ : ∃ Y, w2.alloc (.cells #[.slice sa n1 sc, .int .i64 b.wth, .int .i64 b.c0, .int .i64 b.c1, .int .i64 b.c2, .slice ka' kl' kc', .int .i64 b.rate, .map (some M), .slice ta tl tc] 79) = Y := ⟨_, rfl⟩
      have hY0 : Y.heap[w2.heap.size]? = some (.cells #[.slice sa n1 sc, .int .i64 b.wth, .int .i64 b.c0, .int .i64 b.c1, .int .i64 b.c2, .slice ka' kl' kc', .int .i64 b.rate, .map (some M), .slice ta tl tc] 79) := by rw [← hY]; exact World.alloc_heap_new _ _
      have hYr : Y.heap[W.heap.size + 1]? = some zero79 := by rw [← hY]; exact (heap_alloc_old _ _ hw2z).trans hw20
      have hBY : Below w2.heap.size w2 Y := by rw [← hY]; exact (Below.refl _ _).alloc (Nat.le_refl _) _
      rw [hY]
      have y0 : Y.cell? ⟨w2.heap.size, 0, none⟩ = some (.slice sa n1 sc) := blk_cell hY0
      have y1 : Y.cell? ⟨w2.heap.size, 1, none⟩ = some (.int .i64 b.wth) := blk_cell hY0
      have y2 : Y.cell? ⟨w2.heap.size, 2, none⟩ = some (.int .i64 b.c0) := blk_cell hY0
      have y3 : Y.cell? ⟨w2.heap.size, 3, none⟩ = some (.int .i64 b.c1) := blk_cell hY0
      have y4 : Y.cell? ⟨w2.heap.size, 4, none⟩ = some (.int .i64 b.c2) := blk_cell hY0
      have y5 : Y.cell? ⟨w2.heap.size, 5, none⟩ = some (.slice ka' kl' kc') := blk_cell hY0
      have y6 : Y.cell? ⟨w2.heap.size, 6, none⟩ = some (.int .i64 b.rate) := blk_cell hY0
      have y7 : Y.cell? ⟨w2.heap.size, 7, none⟩ = some (.map (some M)) := blk_cell hY0
      have y8 : Y.cell? ⟨w2.heap.size, 8, none⟩ = some (.slice ta tl tc) := blk_cell hY0
      have z0 : Y.cell? ⟨W.heap.size + 1, 0, none⟩ = some (.slice none 0 0) := blk_cell hYr
      have z1 : Y.cell? ⟨W.heap.size + 1, 1, none⟩ = some (.int .i64 0) := blk_cell hYr
      have z2 : Y.cell? ⟨W.heap.size + 1, 2, none⟩ = some (.int .i64 0) := blk_cell hYr
      have z3 : Y.cell? ⟨W.heap.size + 1, 3, none⟩ = some (.int .i64 0) := blk_cell hYr
      have z4 : Y.cell? ⟨W.heap.size + 1, 4, none⟩ = some (.int .i64 0) := blk_cell hYr
      have z5 : Y.cell? ⟨W.heap.size + 1, 5, none⟩ = some (.slice none 0 0) := blk_cell hYr
      have z6 : Y.cell? ⟨W.heap.size + 1, 6, none⟩ = some (.int .i64 0) := blk_cell hYr
      have z7 : Y.cell? ⟨W.heap.size + 1, 7, none⟩ = some (.map none) := blk_cell hYr
      have z8 : Y.cell? ⟨W.heap.size + 1, 8, none⟩ = some (.slice none 0 0) := blk_cell hYr
      have zf0 := blk_frozen hYr 0
      have zf1 := blk_frozen hYr 1
      have zf2 := blk_frozen hYr 2
      have zf3 := blk_frozen hYr 3
      have zf4 := blk_frozen hYr 4
      have zf5 := blk_frozen hYr 5
      have zf6 := blk_frozen hYr 6
      have zf7 := blk_frozen hYr 7
      have zf8 := blk_frozen hYr 8
      have HYR := Lib.hid hYr
      have HTY := Lib.hid (HT.out.below (Nat.le_refl _) hBY)
      have HB2Y := Lib.hid (hB2.trans (hBY.mono (by omega)))
      have HY0 := Lib.hid hY0
      have hYz : w2.heap.size < Y.heap.size := (Array.getElem?_eq_some_iff.1 hY0).1
      have HYZ := Lib.hid hYz
      have HWZ := Lib.hid hw2z
      have hfr2 : ∀ g, (Value.slice ta tl tc).ownBlock = some g → W.heap.size + 2 ≤ g := fun g hg => by have := HFR.out g hg; have := HB1.out.size; omega
      have HFR2 := Lib.hid hfr2
      clear hfr2 hw20 hB2 hY hYr hBY hY0 HB2 HT HR0 HB1 HVB HGV HCK c0 c1 c2 c3 c4 c5 c6
      by_cases he : (truths b).isEmpty = true
      · have HA := Lib.hid (show askE b true = 62 by simp [askE, hok, he])
        have h0 : tl = 0 := by rw [← htl]; simp [trCells, List.isEmpty_iff.1 he]
        subst h0
        clear he hok htl
        go_wp2_with fail
        have hst := stored9 HYR.out (.slice sa n1 sc) (.int .i64 b.wth) (.int .i64 b.c0) (.int .i64 b.c1) (.int .i64 b.c2) (.slice ka' kl' kc') (.int .i64 b.rate) (.map (some M)) (.slice ta 0 tc)
        have HST := Lib.hid hst
        clear hst
        generalize (((((((((Y.setCell ⟨W.heap.size + 1, 0, none⟩ (.slice sa n1 sc)).setCell ⟨W.heap.size + 1, 1, none⟩ (.int .i64 b.wth)).setCell ⟨W.heap.size + 1, 2, none⟩ (.int .i64 b.c0)).setCell ⟨W.heap.size + 1, 3, none⟩ (.int .i64 b.c1)).setCell ⟨W.heap.size + 1, 4, none⟩ (.int .i64 b.c2)).setCell ⟨W.heap.size + 1, 5, none⟩ (.slice ka' kl' kc')).setCell ⟨W.heap.size + 1, 6, none⟩ (.int .i64 b.rate)).setCell ⟨W.heap.size + 1, 7, none⟩ (.map (some M))).setCell ⟨W.heap.size + 1, 8, none⟩ (.slice ta 0 tc)) = W9 at HST ⊢
        have k0 : W9.cell? ⟨W.heap.size + 1, 0, none⟩ = some (.slice sa n1 sc) := blk_cell HST.out.cells
        have k1 : W9.cell? ⟨W.heap.size + 1, 1, none⟩ = some (.int .i64 b.wth) := blk_cell HST.out.cells
        have k2 : W9.cell? ⟨W.heap.size + 1, 2, none⟩ = some (.int .i64 b.c0) := blk_cell HST.out.cells
        have k3 : W9.cell? ⟨W.heap.size + 1, 3, none⟩ = some (.int .i64 b.c1) := blk_cell HST.out.cells
        have k4 : W9.cell? ⟨W.heap.size + 1, 4, none⟩ = some (.int .i64 b.c2) := blk_cell HST.out.cells
        have k5 : W9.cell? ⟨W.heap.size + 1, 5, none⟩ = some (.slice ka' kl' kc') := blk_cell HST.out.cells
        have k6 : W9.cell? ⟨W.heap.size + 1, 6, none⟩ = some (.int .i64 b.rate) := blk_cell HST.out.cells
        have k7 : W9.cell? ⟨W.heap.size + 1, 7, none⟩ = some (.map (some M)) := blk_cell HST.out.cells
        have k8 : W9.cell? ⟨W.heap.size + 1, 8, none⟩ = some (.slice ta 0 tc) := blk_cell HST.out.cells
        refine bodyPost_ret (v := .tuple #[.agg #[.slice sa n1 sc, .int .i64 b.wth, .int .i64 b.c0, .int .i64 b.c1, .int .i64 b.c2, .slice ka' kl' kc', .int .i64 b.rate, .map (some M), .slice ta 0 tc], .int .i64 62]) (by simp [results, Tryd.results80, go_sem, k0, k1, k2, k3, k4, k5, k6, k7, k8]) rfl ?_
        exact ⟨b, sa, ka', ta, n1, sc, kl', kc', 0, tc, some M, by rw [HA.out]; rfl, HST.out.below HB2Y.out (by omega), fun h => by rw [HA.out] at h; cases h⟩
      · have HA := Lib.hid (show askE b true = 0 by simp [askE, hok, he])
        have h0 : ¬ tl = 0 := by rw [← htl]; simpa [trCells, List.isEmpty_iff] using he
        have h0b : (tl == 0) = false := by simpa using h0
        have h0c : ((tl : Int) == 0) = false := by simpa using h0
        clear he hok htl
        go_wp2_with fail
        have hst := stored9 HYR.out (.slice sa n1 sc) (.int .i64 b.wth) (.int .i64 b.c0) (.int .i64 b.c1) (.int .i64 b.c2) (.slice ka' kl' kc') (.int .i64 b.rate) (.map (some M)) (.slice ta tl tc)
        have HST := Lib.hid hst
        clear hst
        generalize (((((((((Y.setCell ⟨W.heap.size + 1, 0, none⟩ (.slice sa n1 sc)).setCell ⟨W.heap.size + 1, 1, none⟩ (.int .i64 b.wth)).setCell ⟨W.heap.size + 1, 2, none⟩ (.int .i64 b.c0)).setCell ⟨W.heap.size + 1, 3, none⟩ (.int .i64 b.c1)).setCell ⟨W.heap.size + 1, 4, none⟩ (.int .i64 b.c2)).setCell ⟨W.heap.size + 1, 5, none⟩ (.slice ka' kl' kc')).setCell ⟨W.heap.size + 1, 6, none⟩ (.int .i64 b.rate)).setCell ⟨W.heap.size + 1, 7, none⟩ (.map (some M))).setCell ⟨W.heap.size + 1, 8, none⟩ (.slice ta tl tc)) = W9 at HST ⊢
        have k0 : W9.cell? ⟨W.heap.size + 1, 0, none⟩ = some (.slice sa n1 sc) := blk_cell HST.out.cells
        have k1 : W9.cell? ⟨W.heap.size + 1, 1, none⟩ = some (.int .i64 b.wth) := blk_cell HST.out.cells
        have k2 : W9.cell? ⟨W.heap.size + 1, 2, none⟩ = some (.int .i64 b.c0) := blk_cell HST.out.cells
        have k3 : W9.cell? ⟨W.heap.size + 1, 3, none⟩ = some (.int .i64 b.c1) := blk_cell HST.out.cells
        have k4 : W9.cell? ⟨W.heap.size + 1, 4, none⟩ = some (.int .i64 b.c2) := blk_cell HST.out.cells
        have k5 : W9.cell? ⟨W.heap.size + 1, 5, none⟩ = some (.slice ka' kl' kc') := blk_cell HST.out.cells
        have k6 : W9.cell? ⟨W.heap.size + 1, 6, none⟩ = some (.int .i64 b.rate) := blk_cell HST.out.cells
        have k7 : W9.cell? ⟨W.heap.size + 1, 7, none⟩ = some (.map (some M)) := blk_cell HST.out.cells
        have k8 : W9.cell? ⟨W.heap.size + 1, 8, none⟩ = some (.slice ta tl tc) := blk_cell HST.out.cells
        refine bodyPost_ret (v := .tuple #[.agg #[.slice sa n1 sc, .int .i64 b.wth, .int .i64 b.c0, .int .i64 b.c1, .int .i64 b.c2, .slice ka' kl' kc', .int .i64 b.rate, .map (some M), .slice ta tl tc], .int .i64 0]) (by simp [results, Tryd.results80, go_sem, k0, k1, k2, k3, k4, k5, k6, k7, k8]) rfl ?_
        exact ⟨b, sa, ka', ta, n1, sc, kl', kc', tl, tc, some M, by rw [HA.out]; rfl, HST.out.below HB2Y.out (by omega), fun _ => ⟨rfl, rfl, rfl, rfl, HST.out.slOf HTY.out (fun g o len cap e h => by have := HFR2.out g (by rw [e]; rfl); omega) (by have := HYZ.out; omega), fun g hg => by have := HFR2.out g hg; omega⟩⟩
  · have HCK := Lib.hid (show checkS b = 60 by simp [checkS, hok])
    have HA := Lib.hid (show askE b is = 60 by simp [askE, hok])
    clear hok
    go_enter Tryd.func80, Tryd.ntmps80
    go_upto_region 1 with fail
    try rw [hV]
    clear hV
    go_wp2_with (first
      | (go_at_call 17; refine (check_any _ _ b HVB.out.v).mono ?_; rintro e w1 ⟨rfl, hb1⟩; rw [HCK.out]; have hk1 := (bcell hb1).1; have hk2 := (bcell hb1).2; have HB1 := Lib.hid hb1; clear hb1)
      | fail)
    have hst := stored9 ((HB1.out.block _ hVy).trans HR0.out) (.slice none 0 0) (.int .i64 0) (.int .i64 0) (.int .i64 0) (.int .i64 0) (.slice none 0 0) (.int .i64 0) (.map none) (.slice none 0 0)
    have HST := Lib.hid hst
    clear hst
    generalize (((((((((w1.setCell ⟨W.heap.size + 1, 0, none⟩ (.slice none 0 0)).setCell ⟨W.heap.size + 1, 1, none⟩ (.int .i64 0)).setCell ⟨W.heap.size + 1, 2, none⟩ (.int .i64 0)).setCell ⟨W.heap.size + 1, 3, none⟩ (.int .i64 0)).setCell ⟨W.heap.size + 1, 4, none⟩ (.int .i64 0)).setCell ⟨W.heap.size + 1, 5, none⟩ (.slice none 0 0)).setCell ⟨W.heap.size + 1, 6, none⟩ (.int .i64 0)).setCell ⟨W.heap.size + 1, 7, none⟩ (.map none)).setCell ⟨W.heap.size + 1, 8, none⟩ (.slice none 0 0)) = W9 at HST ⊢
    have k0 : W9.cell? ⟨W.heap.size + 1, 0, none⟩ = some (.slice none 0 0) := blk_cell HST.out.cells
    have k1 : W9.cell? ⟨W.heap.size + 1, 1, none⟩ = some (.int .i64 0) := blk_cell HST.out.cells
    have k2 : W9.cell? ⟨W.heap.size + 1, 2, none⟩ = some (.int .i64 0) := blk_cell HST.out.cells
    have k3 : W9.cell? ⟨W.heap.size + 1, 3, none⟩ = some (.int .i64 0) := blk_cell HST.out.cells
    have k4 : W9.cell? ⟨W.heap.size + 1, 4, none⟩ = some (.int .i64 0) := blk_cell HST.out.cells
    have k5 : W9.cell? ⟨W.heap.size + 1, 5, none⟩ = some (.slice none 0 0) := blk_cell HST.out.cells
    have k6 : W9.cell? ⟨W.heap.size + 1, 6, none⟩ = some (.int .i64 0) := blk_cell HST.out.cells
    have k7 : W9.cell? ⟨W.heap.size + 1, 7, none⟩ = some (.map none) := blk_cell HST.out.cells
    have k8 : W9.cell? ⟨W.heap.size + 1, 8, none⟩ = some (.slice none 0 0) := blk_cell HST.out.cells
    refine bodyPost_ret (v := .tuple #[.agg #[.slice none 0 0, .int .i64 0, .int .i64 0, .int .i64 0, .int .i64 0, .slice none 0 0, .int .i64 0, .map none, .slice none 0 0], .int .i64 60]) (by simp [results, Tryd.results80, go_sem, k0, k1, k2, k3, k4, k5, k6, k7, k8]) rfl ?_
    exact ⟨⟨[], 0, 0, 0, 0, [], 0⟩, none, none, none, 0, 0, 0, 0, 0, 0, none, by rw [HA.out]; rfl, HST.out.below (hBV.trans (HB1.out.mono hBV.size)) (by omega), fun h => by rw [HA.out] at h; cases h⟩
end Go.Proofs.YtbhjfojbjpbdbaaDoor

-- A16: The contracts of the closures of Comes, Late, Rough and First, and of stage's own (package claim). Written by a session.
namespace Go.Proofs.YtbhjfojbjpbdbaaDoor
open Go.RowKit

/-- the place of an alloc's cells in the second of two new blocks. -/
theorem box2 (W : World) (o1 : Obj) (c : Array Value) (T : TypeId) : ((W.alloc o1).alloc (.cells c T)).heap[W.heap.size + 1]? = some (.cells c T) := by
  have := World.alloc_heap_new (W.alloc o1) (.cells c T)
  rwa [World.size_alloc] at this

set_option maxHeartbeats 1000000 in
theorem comes1_any (W : World) (b : Bk) (sa ka ta : Option Addr) (sl sc kl kc tl tc : Nat) (mo : Option Nat) (t : Tr) (j PA : Nat) (hj : j < 3) (hA : W.heap[PA]? = some (.cells #[.int .i64 (j : Int)] 3)) :
    Calls Tryd.prog 72 #[.agg (b.cells9 (.slice sa sl sc) (.slice ka kl kc) (.map mo) (.slice ta tl tc)).toArray, .agg t.cells.toArray, .pointer (some ⟨PA, 0, none⟩)] W fun e W' =>
      e = .returned (.int .i64 (t.comes j)) ∧ Below W.heap.size W W' := by
  obtain ⟨V, hV⟩ : ∃ V, (W.alloc (.cells (b.cells9 (.slice sa sl sc) (.slice ka kl kc) (.map mo) (.slice ta tl tc)).toArray 79)).alloc (.cells t.cells.toArray 87) = V := ⟨_, rfl⟩
  have hBV : Below W.heap.size W V := by rw [← hV]; exact ((Below.refl _ _).alloc (Nat.le_refl _) _).alloc (by simp) _
  have hT : V.heap[W.heap.size + 1]? = some (.cells t.cells.toArray 87) := by rw [← hV]; exact box2 _ _ _ _
  have a0 : V.cell? ⟨PA, 0, none⟩ = some (.int .i64 (j : Int)) := (hBV.cell (p := ⟨PA, 0, none⟩) ((Array.getElem?_eq_some_iff.1 hA).1)).trans (blk_cell hA)
  have ij : (j : Int) < 3 := by omega
  have ca := tr_cell_a t hT hj
  have l1 : PA < V.heap.size := lt_of_cell a0
  clear hT hA
  simp only [Bk.cells9, Tr.cells]
  simp only [Bk.cells9, Tr.cells] at hV
  go_enter Tryd.func72, Tryd.ntmps72
  go_upto_region 1 with fail
  try rw [hV]
  clear hV
  go_wp2
  go_ret
  exact ⟨rfl, hBV⟩

set_option maxHeartbeats 1000000 in
theorem rough1_any (W : World) (b : Bk) (sa ka ta : Option Addr) (sl sc kl kc tl tc : Nat) (mo : Option Nat) (t : Tr) (j PA : Nat) (hj : j < 3) (hA : W.heap[PA]? = some (.cells #[.int .i64 (j : Int)] 3)) :
    Calls Tryd.prog 79 #[.agg (b.cells9 (.slice sa sl sc) (.slice ka kl kc) (.map mo) (.slice ta tl tc)).toArray, .agg t.cells.toArray, .pointer (some ⟨PA, 0, none⟩)] W fun e W' =>
      e = .returned (.int .i64 (t.rough j)) ∧ Below W.heap.size W W' := by
  obtain ⟨V, hV⟩ : ∃ V, (W.alloc (.cells (b.cells9 (.slice sa sl sc) (.slice ka kl kc) (.map mo) (.slice ta tl tc)).toArray 79)).alloc (.cells t.cells.toArray 87) = V := ⟨_, rfl⟩
  have hBV : Below W.heap.size W V := by rw [← hV]; exact ((Below.refl _ _).alloc (Nat.le_refl _) _).alloc (by simp) _
  have hT : V.heap[W.heap.size + 1]? = some (.cells t.cells.toArray 87) := by rw [← hV]; exact box2 _ _ _ _
  have a0 : V.cell? ⟨PA, 0, none⟩ = some (.int .i64 (j : Int)) := (hBV.cell (p := ⟨PA, 0, none⟩) ((Array.getElem?_eq_some_iff.1 hA).1)).trans (blk_cell hA)
  have ij : (j : Int) < 3 := by omega
  have ca := tr_cell_b t hT hj
  have l1 : PA < V.heap.size := lt_of_cell a0
  clear hT hA
  simp only [Bk.cells9, Tr.cells]
  simp only [Bk.cells9, Tr.cells] at hV
  go_enter Tryd.func79, Tryd.ntmps79
  go_upto_region 1 with fail
  try rw [hV]
  clear hV
  go_wp2
  go_ret
  exact ⟨rfl, hBV⟩

set_option maxHeartbeats 1000000 in
theorem late1_any (W : World) (b : Bk) (sa ka ta : Option Addr) (sl sc kl kc tl tc n : Nat) (mo : Option Nat) (t : Tr) (j PA : Nat) (hj : j < b.sts.length) (h3 : b.sts.length ≤ 3) (hn : n ≤ W.heap.size) (hs : SlOf W n 7 (.slice sa sl sc) (stCells b.sts)) (ht : TrOk t)
    (hd : 0 ≤ b.due j ∧ b.due j ≤ 1000) (hA : W.heap[PA]? = some (.cells #[.int .i64 (j : Int)] 3)) :
    Calls Tryd.prog 76 #[.agg (b.cells9 (.slice sa sl sc) (.slice ka kl kc) (.map mo) (.slice ta tl tc)).toArray, .agg t.cells.toArray, .pointer (some ⟨PA, 0, none⟩)] W fun e W' =>
      e = .returned (.int .i64 (lateT b j t)) ∧ Below W.heap.size W W' := by
  obtain ⟨V, hV⟩ : ∃ V, (W.alloc (.cells (b.cells9 (.slice sa sl sc) (.slice ka kl kc) (.map mo) (.slice ta tl tc)).toArray 79)).alloc (.cells t.cells.toArray 87) = V := ⟨_, rfl⟩
  have hBV : Below W.heap.size W V := by rw [← hV]; exact ((Below.refl _ _).alloc (Nat.le_refl _) _).alloc (by simp) _
  have HS := Lib.hid (hs.below hn hBV)
  have HN := Lib.hid (Nat.le_trans hn hBV.size)
  have hT : V.heap[W.heap.size + 1]? = some (.cells t.cells.toArray 87) := by rw [← hV]; exact box2 _ _ _ _
  have hB : V.heap[W.heap.size]? = some (.cells (b.cells9 (.slice sa sl sc) (.slice ka kl kc) (.map mo) (.slice ta tl tc)).toArray 79) := by rw [← hV]; exact (heap_alloc_old _ _ (by simp)).trans (World.alloc_heap_new _ _)
  have a0 : V.cell? ⟨PA, 0, none⟩ = some (.int .i64 (j : Int)) := (hBV.cell (p := ⟨PA, 0, none⟩) ((Array.getElem?_eq_some_iff.1 hA).1)).trans (blk_cell hA)
  have p0 : V.cell? ⟨W.heap.size + 1, 0, none⟩ = some (.int .i64 t.w) := blk_cell hT
  have p1 : V.cell? ⟨W.heap.size + 1, 1, none⟩ = some (.int .i64 t.a0) := blk_cell hT
  have p2 : V.cell? ⟨W.heap.size + 1, 2, none⟩ = some (.int .i64 t.a1) := blk_cell hT
  have p3 : V.cell? ⟨W.heap.size + 1, 3, none⟩ = some (.int .i64 t.a2) := blk_cell hT
  have p4 : V.cell? ⟨W.heap.size + 1, 4, none⟩ = some (.int .i64 t.b0) := blk_cell hT
  have p5 : V.cell? ⟨W.heap.size + 1, 5, none⟩ = some (.int .i64 t.b1) := blk_cell hT
  have p6 : V.cell? ⟨W.heap.size + 1, 6, none⟩ = some (.int .i64 t.b2) := blk_cell hT
  have q0 : V.cell? ⟨W.heap.size, 0, none⟩ = some (.slice sa sl sc) := blk_cell hB
  have q1 : V.cell? ⟨W.heap.size, 1, none⟩ = some (.int .i64 b.wth) := blk_cell hB
  have q2 : V.cell? ⟨W.heap.size, 2, none⟩ = some (.int .i64 b.c0) := blk_cell hB
  have q3 : V.cell? ⟨W.heap.size, 3, none⟩ = some (.int .i64 b.c1) := blk_cell hB
  have q4 : V.cell? ⟨W.heap.size, 4, none⟩ = some (.int .i64 b.c2) := blk_cell hB
  have q5 : V.cell? ⟨W.heap.size, 5, none⟩ = some (.slice ka kl kc) := blk_cell hB
  have q6 : V.cell? ⟨W.heap.size, 6, none⟩ = some (.int .i64 b.rate) := blk_cell hB
  have q7 : V.cell? ⟨W.heap.size, 7, none⟩ = some (.map mo) := blk_cell hB
  have q8 : V.cell? ⟨W.heap.size, 8, none⟩ = some (.slice ta tl tc) := blk_cell hB
  have l1 : PA < V.heap.size := lt_of_cell a0
  clear hT hB hA hs hn
  simp only [Bk.cells9, Tr.cells]
  simp only [Bk.cells9, Tr.cells] at hV
  go_enter Tryd.func76, Tryd.ntmps76
  go_upto_region 1 with fail
  try rw [hV]
  clear hV
  go_wp2_with (go_at_call 77; refine (late_any V b (.slice sa sl sc) (.slice ka kl kc) (.map mo) (.slice ta tl tc) n t j HN.out HS.out hj h3 ht hd).mono ?_; rintro e w1 ⟨rfl, hb1⟩; have HB1 := Lib.hid hb1; clear hb1)
  go_ret
  exact ⟨rfl, hBV.trans (HB1.out.mono hBV.size)⟩

/-- the value of a function of a book and a truth. -/
def OfFn (W : World) (b : Bk) (sa : Option Addr) (sl sc g PA : Nat) (f : Tr → Int) : Prop :=
  ∀ (ka ta : Option Addr) (kl kc tl tc : Nat) (mo : Option Nat) (t : Tr) (W2 : World), TrOk t → Below W.heap.size W W2 →
    Calls Tryd.prog g #[.agg (b.cells9 (.slice sa sl sc) (.slice ka kl kc) (.map mo) (.slice ta tl tc)).toArray, .agg t.cells.toArray, .pointer (some ⟨PA, 0, none⟩)] W2 fun e W3 => e = .returned (.int .i64 (f t)) ∧ Below W2.heap.size W2 W3

set_option maxHeartbeats 1000000 in
theorem stage1_any (W W1 : World) (b : Bk) (sa ka ta : Option Addr) (sl sc kl kc tl tc : Nat) (mo : Option Nat) (t : Tr) (g PA P5 P8 : Nat) (f : Tr → Int) (ht : TrOk t) (hof : OfFn W b sa sl sc g PA f) (he : Enters g) (hb : Below W.heap.size W W1)
    (h5 : W1.heap[P5]? = some (.cells #[.func (.func g) #[] #[.pointer (some ⟨PA, 0, none⟩)]] 88)) (h8 : W1.heap[P8]? = some (.cells (b.cells9 (.slice sa sl sc) (.slice ka kl kc) (.map mo) (.slice ta tl tc)).toArray 79)) :
    Calls Tryd.prog 97 #[.agg t.cells.toArray, .pointer (some ⟨P5, 0, none⟩), .pointer (some ⟨P8, 0, none⟩)] W1 fun e W' => e = .returned (.int .i64 (f t)) ∧ Below W1.heap.size W1 W' := by
  obtain ⟨V, hV⟩ : ∃ V, W1.alloc (.cells t.cells.toArray 87) = V := ⟨_, rfl⟩
  have hBV : Below W1.heap.size W1 V := by rw [← hV]; exact (Below.refl _ _).alloc (Nat.le_refl _) _
  have hT : V.heap[W1.heap.size]? = some (.cells t.cells.toArray 87) := by rw [← hV]; exact World.alloc_heap_new _ _
  have g5 := (hBV.block P5 (Array.getElem?_eq_some_iff.1 h5).1).trans h5
  have g8 := (hBV.block P8 (Array.getElem?_eq_some_iff.1 h8).1).trans h8
  have c5 : V.cell? ⟨P5, 0, none⟩ = some (.func (.func g) #[] #[.pointer (some ⟨PA, 0, none⟩)]) := blk_cell g5
  have p0 : V.cell? ⟨W1.heap.size, 0, none⟩ = some (.int .i64 t.w) := blk_cell hT
  have p1 : V.cell? ⟨W1.heap.size, 1, none⟩ = some (.int .i64 t.a0) := blk_cell hT
  have p2 : V.cell? ⟨W1.heap.size, 2, none⟩ = some (.int .i64 t.a1) := blk_cell hT
  have p3 : V.cell? ⟨W1.heap.size, 3, none⟩ = some (.int .i64 t.a2) := blk_cell hT
  have p4 : V.cell? ⟨W1.heap.size, 4, none⟩ = some (.int .i64 t.b0) := blk_cell hT
  have p5 : V.cell? ⟨W1.heap.size, 5, none⟩ = some (.int .i64 t.b1) := blk_cell hT
  have p6 : V.cell? ⟨W1.heap.size, 6, none⟩ = some (.int .i64 t.b2) := blk_cell hT
  have q0 : V.cell? ⟨P8, 0, none⟩ = some (.slice sa sl sc) := blk_cell g8
  have q1 : V.cell? ⟨P8, 1, none⟩ = some (.int .i64 b.wth) := blk_cell g8
  have q2 : V.cell? ⟨P8, 2, none⟩ = some (.int .i64 b.c0) := blk_cell g8
  have q3 : V.cell? ⟨P8, 3, none⟩ = some (.int .i64 b.c1) := blk_cell g8
  have q4 : V.cell? ⟨P8, 4, none⟩ = some (.int .i64 b.c2) := blk_cell g8
  have q5 : V.cell? ⟨P8, 5, none⟩ = some (.slice ka kl kc) := blk_cell g8
  have q6 : V.cell? ⟨P8, 6, none⟩ = some (.int .i64 b.rate) := blk_cell g8
  have q7 : V.cell? ⟨P8, 7, none⟩ = some (.map mo) := blk_cell g8
  have q8 : V.cell? ⟨P8, 8, none⟩ = some (.slice ta tl tc) := blk_cell g8
  have l5 := lt_of_cell c5
  have l8 := lt_of_cell q0
  have hcall := hof ka ta kl kc tl tc mo t V ht (hb.trans (hBV.mono hb.size))
  have HC := Lib.hid hcall
  have he' := he
  unfold Enters at he'
  clear hT g5 g8 h5 h8 hcall hof he
  simp only [Tr.cells]
  simp only [Tr.cells] at hV
  go_enter Tryd.func97, Tryd.ntmps97
  go_upto_region 1 with fail
  try rw [hV]
  clear hV
  go_wp2_with (first | (refine HC.out.mono ?_; rintro e w1 ⟨rfl, hb1⟩; have HB1 := Lib.hid hb1; clear hb1) | fail)
  go_ret
  exact ⟨rfl, hBV.trans (HB1.out.mono hBV.size)⟩

theorem stored2 {B K : Nat} {T : TypeId} {V W : World} {z0 z1 : Value} (h : W.heap[B]? = some (.cells #[z0, z1] T)) (v0 v1 : Value) (hb : Below K V W) (hB : K ≤ B) :
    ((W.setCell ⟨B, 0, none⟩ v0).setCell ⟨B, 1, none⟩ v1).cell? ⟨B, 0, none⟩ = some v0 ∧ ((W.setCell ⟨B, 0, none⟩ v0).setCell ⟨B, 1, none⟩ v1).cell? ⟨B, 1, none⟩ = some v1 ∧ Below K V ((W.setCell ⟨B, 0, none⟩ v0).setCell ⟨B, 1, none⟩ v1) := by
  have h2 := blk_set (v := v1) (j := 1) (blk_set (v := v0) (j := 0) h)
  exact ⟨(blk_cell h2).trans (by simp), (blk_cell h2).trans (by simp), (hb.setCell (p := ⟨B, 0, none⟩) hB v0).setCell (p := ⟨B, 1, none⟩) hB v1⟩

/-- what asked has handed back, stored in a block laid behind the call. -/
theorem asked_new {V w2 : World} {b x : Bk} {sa sa' ka' ta : Option Addr} {n1 sc sl' sc' kl' kc' tl tc : Nat} {mo : Option Nat} {E : Int} {W0 : Nat} (hb : Below V.drew.heap.size V.drew w2)
    (hx : E = 0 → x = b ∧ sa' = sa ∧ sl' = n1 ∧ sc' = sc ∧ SlOf w2 w2.heap.size 7 (.slice ta tl tc) (trCells (truths b)) ∧ (∀ g, (Value.slice ta tl tc).ownBlock = some g → W0 ≤ g)) :
    let X := w2.alloc (.cells (x.cells9 (.slice sa' sl' sc') (.slice ka' kl' kc') (.map mo) (.slice ta tl tc)).toArray 79)
    Below V.heap.size V X ∧ V.heap.size ≤ w2.heap.size ∧ X.heap[w2.heap.size]? = some (.cells (x.cells9 (.slice sa' sl' sc') (.slice ka' kl' kc') (.map mo) (.slice ta tl tc)).toArray 79) ∧
      (E = 0 → x = b ∧ sa' = sa ∧ sl' = n1 ∧ sc' = sc ∧ SlOf X X.heap.size 7 (.slice ta tl tc) (trCells (truths b))) := by
  have hz : V.heap.size ≤ w2.heap.size := hb.size
  refine ⟨(((Below.refl V.heap.size V).drew.trans hb)).alloc hz _, hz, World.alloc_heap_new _ _, fun h => ?_⟩
  obtain ⟨h1, h2, h3, h4, h5, _⟩ := hx h
  exact ⟨h1, h2, h3, h4, (h5.below (Nat.le_refl _) ((Below.refl _ _).alloc (Nat.le_refl _) _)).mono (by simp)⟩

/-- the same, the block laid ahead of the call. -/
theorem asked_old {V w2 : World} {b x : Bk} {sa sa' ka' ta : Option Addr} {n1 sc sl' sc' kl' kc' tl tc : Nat} {mo : Option Nat} {E : Int} (hb : Below (V.alloc zero79).drew.heap.size (V.alloc zero79).drew w2)
    (hx : E = 0 → x = b ∧ sa' = sa ∧ sl' = n1 ∧ sc' = sc ∧ SlOf w2 w2.heap.size 7 (.slice ta tl tc) (trCells (truths b)) ∧ (∀ g, (Value.slice ta tl tc).ownBlock = some g → (V.alloc zero79).drew.heap.size ≤ g)) :
    let X := ((((((((w2.setCell ⟨V.heap.size, 0, none⟩ (.slice sa' sl' sc')).setCell ⟨V.heap.size, 1, none⟩ (.int .i64 x.wth)).setCell ⟨V.heap.size, 2, none⟩ (.int .i64 x.c0)).setCell ⟨V.heap.size, 3, none⟩ (.int .i64 x.c1)).setCell ⟨V.heap.size, 4, none⟩ (.int .i64 x.c2)).setCell
      ⟨V.heap.size, 5, none⟩ (.slice ka' kl' kc')).setCell ⟨V.heap.size, 6, none⟩ (.int .i64 x.rate)).setCell ⟨V.heap.size, 7, none⟩ (.map mo)).setCell ⟨V.heap.size, 8, none⟩ (.slice ta tl tc)
    Below V.heap.size V X ∧ V.heap.size ≤ V.heap.size ∧ X.heap[V.heap.size]? = some (.cells (x.cells9 (.slice sa' sl' sc') (.slice ka' kl' kc') (.map mo) (.slice ta tl tc)).toArray 79) ∧
      (E = 0 → x = b ∧ sa' = sa ∧ sl' = n1 ∧ sc' = sc ∧ SlOf X X.heap.size 7 (.slice ta tl tc) (trCells (truths b))) := by
  have hs : (V.alloc zero79).drew.heap.size = V.heap.size + 1 := by show (V.alloc zero79).heap.size = _; simp
  have h0 : (V.alloc zero79).drew.heap[V.heap.size]? = some zero79 := World.alloc_heap_new V zero79
  have hw : w2.heap[V.heap.size]? = some zero79 := (hb.block _ (by omega)).trans h0
  have hst := stored9 hw (.slice sa' sl' sc') (.int .i64 x.wth) (.int .i64 x.c0) (.int .i64 x.c1) (.int .i64 x.c2) (.slice ka' kl' kc') (.int .i64 x.rate) (.map mo) (.slice ta tl tc)
  have hb0 : Below V.heap.size V w2 := (((Below.refl _ V).alloc (Nat.le_refl _) _).drew).trans (hb.mono (by omega))
  intro X
  refine ⟨hst.below hb0 (Nat.le_refl _), Nat.le_refl _, hst.cells, fun h => ?_⟩
  obtain ⟨h1, h2, h3, h4, h5, h6⟩ := hx h
  exact ⟨h1, h2, h3, h4, hst.slOf h5 (fun g o len cap e => by have := h6 g (by rw [e]; rfl); omega) (Nat.le_refl _)⟩
end Go.Proofs.YtbhjfojbjpbdbaaDoor
