/-
  Merged: A17, A19, A20, A21, A22. Written by sessions of this seat.
-/
import Derived.Test.YtbhjfojbjpbdbaaDoorK3
import Derived.Shelf.Abstract

-- A17: The contracts of Owes, Pays, Blame and Weather (package claim). Written by a session; printed by wip/tools/a17.py.
namespace Go.Proofs.YtbhjfojbjpbdbaaDoor
open Go.RowKit

theorem askE_zero {b : Bk} {is : Bool} (h : askE b is = 0) : bkOk b = true ∧ is = true ∧ truths b ≠ [] := by
  unfold askE at h
  split at h
  · rename_i h1
    split at h
    · rename_i h2
      split at h
      · cases h
      · rename_i h3; exact ⟨h1, h2, fun e => h3 (by rw [e]; rfl)⟩
    · cases h
  · cases h

set_option maxRecDepth 100000 in
set_option maxHeartbeats 2000000 in
theorem owes_ex (W : World) (b : Bk) (n : Nat) (sa ka : Option Addr) (n1 sc n2 kc : Nat) (hv : BookW W n sa ka n1 sc n2 kc b) (hG : Glob W) :
    Calls Tryd.prog 30 #[.agg (b.cells (.slice sa n1 sc) (.slice ka n2 kc)).toArray] W fun e W' => e = .returned (.tuple #[.agg #[.int .i64 (owesS b).1, .int .i64 (owesS b).2.1], .int .i64 (owesS b).2.2]) ∧ Below W.heap.size W W' := by
  obtain ⟨V, hV⟩ : ∃ V, (W.alloc (Obj.cells #[.slice sa n1 sc, .int .i64 b.wth, .int .i64 b.c0, .int .i64 b.c1, .int .i64 b.c2, .slice ka n2 kc, .int .i64 b.rate] 26)).alloc (.cells #[.int .i64 0, .int .i64 0] 32) = V := ⟨_, rfl⟩
  have hBV : Below W.heap.size W V := by rw [← hV]; exact ((Below.refl _ _).alloc (Nat.le_refl _) _).alloc (by simp) _
  have hb0 : V.heap[W.heap.size]? = some (Obj.cells #[.slice sa n1 sc, .int .i64 b.wth, .int .i64 b.c0, .int .i64 b.c1, .int .i64 b.c2, .slice ka n2 kc, .int .i64 b.rate] 26) := by rw [← hV]; exact (heap_alloc_old _ _ (by simp)).trans (World.alloc_heap_new _ _)
  have hVz : W.heap.size < V.heap.size := (Array.getElem?_eq_some_iff.1 hb0).1
  have HGV := Lib.hid (hG.below hG.lt hBV)
  have HVB := Lib.hid (hv.below hv.hn hBV)
  have HN := Lib.hid hv.hn
  have c0 : V.cell? ⟨W.heap.size, 0, none⟩ = some (.slice sa n1 sc) := blk_cell hb0
  have c1 : V.cell? ⟨W.heap.size, 1, none⟩ = some (.int .i64 b.wth) := blk_cell hb0
  have c2 : V.cell? ⟨W.heap.size, 2, none⟩ = some (.int .i64 b.c0) := blk_cell hb0
  have c3 : V.cell? ⟨W.heap.size, 3, none⟩ = some (.int .i64 b.c1) := blk_cell hb0
  have c4 : V.cell? ⟨W.heap.size, 4, none⟩ = some (.int .i64 b.c2) := blk_cell hb0
  have c5 : V.cell? ⟨W.heap.size, 5, none⟩ = some (.slice ka n2 kc) := blk_cell hb0
  have c6 : V.cell? ⟨W.heap.size, 6, none⟩ = some (.int .i64 b.rate) := blk_cell hb0
  have hr0 : V.heap[W.heap.size + 1]? = some (.cells #[.int .i64 0, .int .i64 0] 32) := by rw [← hV]; have := World.alloc_heap_new (W.alloc (Obj.cells #[.slice sa n1 sc, .int .i64 b.wth, .int .i64 b.c0, .int .i64 b.c1, .int .i64 b.c2, .slice ka n2 kc, .int .i64 b.rate] 26)) (.cells #[.int .i64 0, .int .i64 0] 32); rwa [World.size_alloc] at this
  have hVy : W.heap.size + 1 < V.heap.size := (Array.getElem?_eq_some_iff.1 hr0).1
  have HR0 := Lib.hid hr0
  clear hr0
  have HL1 := Lib.hid hv.l1
  clear hv hG hb0
  simp only [Bk.cells]
  go_enter Tryd.func30, Tryd.ntmps30
  go_upto_region 2 with (first
    | (go_at_call 80; refine (asked_any V b true n sa ka n1 sc n2 kc HVB.out HGV.out).mono ?_; rintro e w2 ⟨x, sa', ka', ta, sl', sc', kl', kc', tl, tc, mo, rfl, hb2, hx⟩; have HB2 := Lib.hid hb2; have HX := Lib.hid hx; clear hb2 hx; simp only [Bk.cells9])
    | fail)
  obtain ⟨hBX, _, hC, hX⟩ := asked_new (V := V) (w2 := w2) (ka' := ka') (kl' := kl') (kc' := kc') (mo := mo) (x := x) ⟨HB2.out.os, HB2.out.tape, HB2.out.output, HB2.out.size, HB2.out.block⟩ HX.out
  simp only [Bk.cells9] at hBX hC hX
  obtain ⟨X, hXe⟩ : ∃ X, w2.alloc (.cells #[.slice sa' sl' sc', .int .i64 x.wth, .int .i64 x.c0, .int .i64 x.c1, .int .i64 x.c2, .slice ka' kl' kc', .int .i64 x.rate, .map mo, .slice ta tl tc] 79) = X := ⟨_, rfl⟩
  try rw [hXe]
  rw [hXe] at hBX hC hX
  clear hXe HB2 HX
  obtain ⟨P8, hP8⟩ : ∃ P8, w2.heap.size = P8 := ⟨_, rfl⟩
  rw [hP8] at hC ⊢
  clear hP8
  obtain ⟨E, hE⟩ : ∃ E, askE b true = E := ⟨_, rfl⟩
  rw [hE] at hX ⊢
  have hBW := hBV.trans (hBX.mono hBV.size)
  have HC := Lib.hid hC
  clear c0 c1 c2 c3 c4 c5 c6 hC
  have hr : X.heap[W.heap.size + 1]? = some (.cells #[.int .i64 0, .int .i64 0] 32) := (hBX.block _ hVy).trans HR0.out
  have r0 : X.cell? ⟨W.heap.size + 1, 0, none⟩ = some (.int .i64 0) := blk_cell hr
  have r1 : X.cell? ⟨W.heap.size + 1, 1, none⟩ = some (.int .i64 0) := blk_cell hr
  have rf0 := blk_frozen hr 0
  have rf1 := blk_frozen hr 1
  have HRR := Lib.hid hr
  have hlr : W.heap.size + 1 < X.heap.size := Nat.lt_of_lt_of_le hVy hBX.size
  by_cases hE0 : E = 0
  · obtain ⟨rfl, rfl, rfl, rfl, hT⟩ := hX hE0
    have hask : askE x true = 0 := by rw [hE, hE0]
    obtain ⟨hok, _, hne⟩ := askE_zero hask
    have HT := Lib.hid hT
    have HNE := Lib.hid hne
    have HOK := Lib.hid (truths_ok (sound_of hok))
    have HSO := Lib.hid (sound_of hok)
    have HS := Lib.hid ((HVB.out.below (by have := HN.out; omega) hBX).hs)
    have HNX := Lib.hid (show n ≤ X.heap.size from Nat.le_trans HN.out hBW.size)
    have e0 : X.cell? ⟨P8, 0, none⟩ = some (.slice sa' sl' sc') := blk_cell HC.out
    have e1 : X.cell? ⟨P8, 1, none⟩ = some (.int .i64 x.wth) := blk_cell HC.out
    have e2 : X.cell? ⟨P8, 2, none⟩ = some (.int .i64 x.c0) := blk_cell HC.out
    have e3 : X.cell? ⟨P8, 3, none⟩ = some (.int .i64 x.c1) := blk_cell HC.out
    have e4 : X.cell? ⟨P8, 4, none⟩ = some (.int .i64 x.c2) := blk_cell HC.out
    have e5 : X.cell? ⟨P8, 5, none⟩ = some (.slice ka' kl' kc') := blk_cell HC.out
    have e6 : X.cell? ⟨P8, 6, none⟩ = some (.int .i64 x.rate) := blk_cell HC.out
    have e7 : X.cell? ⟨P8, 7, none⟩ = some (.map mo) := blk_cell HC.out
    have e8 : X.cell? ⟨P8, 8, none⟩ = some (.slice ta tl tc) := blk_cell HC.out
    have hfn : FnOf X 84 #[.agg #[.slice sa' sl' sc', .int .i64 x.wth, .int .i64 x.c0, .int .i64 x.c1, .int .i64 x.c2, .slice ka' kl' kc', .int .i64 x.rate, .map mo, .slice ta tl tc]] #[] (owesT x) := fun t W1 ht hb1 =>
      owes_any W1 x (.slice sa' sl' sc') (.slice ka' kl' kc') (.map mo) (.slice ta tl tc) n t (Nat.le_trans HNX.out hb1.size) (HS.out.below HNX.out hb1) (bds_of hok) ht
    have HFN := Lib.hid hfn
    have HSS := Lib.hid (show owesS x = (toldLo (owesT x) (truths x), toldHi (owesT x) (truths x), 0) by simp [owesS, spanE, hask])
    clear hX hE hT hne hask hok hfn hr
    subst hE0
    go_wp2_with fail
    refine (told_any X x (.slice sa' sl' sc') (.slice ka' kl' kc') (.map mo) (.slice ta tl tc) (truths x) X.heap.size 84 #[.agg #[.slice sa' sl' sc', .int .i64 x.wth, .int .i64 x.c0, .int .i64 x.c1, .int .i64 x.c2, .slice ka' kl' kc', .int .i64 x.rate, .map mo, .slice ta tl tc]] #[] (owesT x) (Nat.le_refl _) HT.out HNE.out HOK.out HFN.out (enters_of Tryd.func84 (by kernel_rfl) rfl)).mono ?_
    rintro e w5 ⟨rfl, hb5⟩
    have hk5 := (bcell hb5).1
    have hf5 := (bcell hb5).2
    have HB5 := Lib.hid hb5
    clear hb5
    go_wp2_with fail
    obtain ⟨k0, k1, hBZ⟩ := stored2 ((HB5.out.block _ hlr).trans HRR.out) (.int .i64 (toldLo (owesT x) (truths x))) (.int .i64 (toldHi (owesT x) (truths x))) (hBW.trans (HB5.out.mono hBW.size)) (show W.heap.size ≤ W.heap.size + 1 by omega)
    generalize (w5.setCell ⟨W.heap.size + 1, 0, none⟩ (.int .i64 (toldLo (owesT x) (truths x)))).setCell ⟨W.heap.size + 1, 1, none⟩ (.int .i64 (toldHi (owesT x) (truths x))) = Z at k0 k1 hBZ ⊢
    exact bodyPost_ret (v := .tuple #[.agg #[.int .i64 (toldLo (owesT x) (truths x)), .int .i64 (toldHi (owesT x) (truths x))], .int .i64 0]) (by simp [results, Tryd.results30, go_sem, k0, k1]) rfl ⟨by rw [HSS.out], hBZ⟩
  · have HSS := Lib.hid (show owesS b = (0, 0, E) by unfold owesS spanE; rw [hE, if_neg hE0])
    clear hX hE hr
    go_wp2_with fail
    obtain ⟨k0, k1, hBZ⟩ := stored2 HRR.out (.int .i64 0) (.int .i64 0) hBW (show W.heap.size ≤ W.heap.size + 1 by omega)
    generalize (X.setCell ⟨W.heap.size + 1, 0, none⟩ (.int .i64 0)).setCell ⟨W.heap.size + 1, 1, none⟩ (.int .i64 0) = Z at k0 k1 hBZ ⊢
    exact bodyPost_ret (v := .tuple #[.agg #[.int .i64 0, .int .i64 0], .int .i64 E]) (by simp [results, Tryd.results30, go_sem, k0, k1]) rfl ⟨by rw [HSS.out], hBZ⟩

theorem field32 : ∀ (v0 v1 : Value) (w : World), (Instr.field 32 (.agg #[v0, v1]) 0).run Tryd.prog w = .ok v0 w := by
  intro v0 v1 w
  kernel_rfl

set_option maxHeartbeats 1000000 in
theorem each_any (W : World) (s a : Int) : Calls Tryd.prog 123 #[.agg #[.int .i64 s, .int .i64 a]] W fun e W' => e = .returned (.bool (s == a)) ∧ Below W.heap.size W W' := by
  go_enter Tryd.func123, Tryd.ntmps123
  go_wp2
  go_ret
  exact ⟨by first | rfl | (apply ret_bool; simp), (Below.refl _ _).alloc (Nat.le_refl _) _⟩
set_option maxHeartbeats 1000000 in
theorem some_any (W : World) (s a : Int) : Calls Tryd.prog 125 #[.agg #[.int .i64 s, .int .i64 a]] W fun e W' => e = .returned (.bool (decide (0 < s))) ∧ Below W.heap.size W W' := by
  go_enter Tryd.func125, Tryd.ntmps125
  go_wp2
  go_ret
  exact ⟨by first | rfl | (apply ret_bool; simp), (Below.refl _ _).alloc (Nat.le_refl _) _⟩

set_option maxRecDepth 100000 in
set_option maxHeartbeats 2000000 in
theorem pays_ex (W : World) (b : Bk) (n : Nat) (sa ka : Option Addr) (n1 sc n2 kc : Nat) (hv : BookW W n sa ka n1 sc n2 kc b) (hG : Glob W) :
    Calls Tryd.prog 32 #[.agg (b.cells (.slice sa n1 sc) (.slice ka n2 kc)).toArray] W fun e W' => e = .returned (.tuple #[.int .i64 (paysS b).1, .int .i64 (paysS b).2]) ∧ Below W.heap.size W W' := by
  obtain ⟨V, hV⟩ : ∃ V, W.alloc (Obj.cells #[.slice sa n1 sc, .int .i64 b.wth, .int .i64 b.c0, .int .i64 b.c1, .int .i64 b.c2, .slice ka n2 kc, .int .i64 b.rate] 26) = V := ⟨_, rfl⟩
  have hBV : Below W.heap.size W V := by rw [← hV]; exact (Below.refl _ _).alloc (Nat.le_refl _) _
  have hb0 : V.heap[W.heap.size]? = some (Obj.cells #[.slice sa n1 sc, .int .i64 b.wth, .int .i64 b.c0, .int .i64 b.c1, .int .i64 b.c2, .slice ka n2 kc, .int .i64 b.rate] 26) := by rw [← hV]; exact World.alloc_heap_new _ _
  have hVz : W.heap.size < V.heap.size := (Array.getElem?_eq_some_iff.1 hb0).1
  have HGV := Lib.hid (hG.below hG.lt hBV)
  have HVB := Lib.hid (hv.below hv.hn hBV)
  have HN := Lib.hid hv.hn
  have c0 : V.cell? ⟨W.heap.size, 0, none⟩ = some (.slice sa n1 sc) := blk_cell hb0
  have c1 : V.cell? ⟨W.heap.size, 1, none⟩ = some (.int .i64 b.wth) := blk_cell hb0
  have c2 : V.cell? ⟨W.heap.size, 2, none⟩ = some (.int .i64 b.c0) := blk_cell hb0
  have c3 : V.cell? ⟨W.heap.size, 3, none⟩ = some (.int .i64 b.c1) := blk_cell hb0
  have c4 : V.cell? ⟨W.heap.size, 4, none⟩ = some (.int .i64 b.c2) := blk_cell hb0
  have c5 : V.cell? ⟨W.heap.size, 5, none⟩ = some (.slice ka n2 kc) := blk_cell hb0
  have c6 : V.cell? ⟨W.heap.size, 6, none⟩ = some (.int .i64 b.rate) := blk_cell hb0
  have HL1 := Lib.hid hv.l1
  clear hv hG hb0
  simp only [Bk.cells]
  go_enter Tryd.func32, Tryd.ntmps32
  go_upto_region 2 with (first
    | (go_at_call 80; refine (asked_any V b true n sa ka n1 sc n2 kc HVB.out HGV.out).mono ?_; rintro e w2 ⟨x, sa', ka', ta, sl', sc', kl', kc', tl, tc, mo, rfl, hb2, hx⟩; have HB2 := Lib.hid hb2; have HX := Lib.hid hx; clear hb2 hx; simp only [Bk.cells9])
    | fail)
  obtain ⟨hBX, _, hC, hX⟩ := asked_new (V := V) (w2 := w2) (ka' := ka') (kl' := kl') (kc' := kc') (mo := mo) (x := x) ⟨HB2.out.os, HB2.out.tape, HB2.out.output, HB2.out.size, HB2.out.block⟩ HX.out
  simp only [Bk.cells9] at hBX hC hX
  obtain ⟨X, hXe⟩ : ∃ X, w2.alloc (.cells #[.slice sa' sl' sc', .int .i64 x.wth, .int .i64 x.c0, .int .i64 x.c1, .int .i64 x.c2, .slice ka' kl' kc', .int .i64 x.rate, .map mo, .slice ta tl tc] 79) = X := ⟨_, rfl⟩
  try rw [hXe]
  rw [hXe] at hBX hC hX
  clear hXe HB2 HX
  obtain ⟨P8, hP8⟩ : ∃ P8, w2.heap.size = P8 := ⟨_, rfl⟩
  rw [hP8] at hC ⊢
  clear hP8
  obtain ⟨E, hE⟩ : ∃ E, askE b true = E := ⟨_, rfl⟩
  rw [hE] at hX ⊢
  have hBW := hBV.trans (hBX.mono hBV.size)
  have HC := Lib.hid hC
  clear c0 c1 c2 c3 c4 c5 c6 hC
  have HGX := Lib.hid (HGV.out.below HGV.out.lt hBX)
  by_cases hE0 : E = 0
  · obtain ⟨rfl, rfl, rfl, rfl, hT⟩ := hX hE0
    have hask : askE x true = 0 := by rw [hE, hE0]
    obtain ⟨hok, _, hne⟩ := askE_zero hask
    have HT := Lib.hid hT
    have HNE := Lib.hid hne
    have HOK := Lib.hid (truths_ok (sound_of hok))
    have HSO := Lib.hid (sound_of hok)
    have HS := Lib.hid ((HVB.out.below (by have := HN.out; omega) hBX).hs)
    have HNX := Lib.hid (show n ≤ X.heap.size from Nat.le_trans HN.out hBW.size)
    have e0 : X.cell? ⟨P8, 0, none⟩ = some (.slice sa' sl' sc') := blk_cell HC.out
    have e1 : X.cell? ⟨P8, 1, none⟩ = some (.int .i64 x.wth) := blk_cell HC.out
    have e2 : X.cell? ⟨P8, 2, none⟩ = some (.int .i64 x.c0) := blk_cell HC.out
    have e3 : X.cell? ⟨P8, 3, none⟩ = some (.int .i64 x.c1) := blk_cell HC.out
    have e4 : X.cell? ⟨P8, 4, none⟩ = some (.int .i64 x.c2) := blk_cell HC.out
    have e5 : X.cell? ⟨P8, 5, none⟩ = some (.slice ka' kl' kc') := blk_cell HC.out
    have e6 : X.cell? ⟨P8, 6, none⟩ = some (.int .i64 x.rate) := blk_cell HC.out
    have e7 : X.cell? ⟨P8, 7, none⟩ = some (.map mo) := blk_cell HC.out
    have e8 : X.cell? ⟨P8, 8, none⟩ = some (.slice ta tl tc) := blk_cell HC.out
    have hfn : ∀ W5, Below X.heap.size X W5 → FnOf W5 84 #[.agg #[.slice sa' sl' sc', .int .i64 x.wth, .int .i64 x.c0, .int .i64 x.c1, .int .i64 x.c2, .slice ka' kl' kc', .int .i64 x.rate, .map mo, .slice ta tl tc]] #[] (owesT x) := fun W5 h5 t W1 ht hb1 =>
      owes_any W1 x (.slice sa' sl' sc') (.slice ka' kl' kc') (.map mo) (.slice ta tl tc) n t (Nat.le_trans HNX.out (Nat.le_trans h5.size hb1.size)) ((HS.out.below HNX.out h5).below (Nat.le_trans HNX.out h5.size) hb1) (bds_of hok) ht
    have HFN := Lib.hid hfn
    have HBD := Lib.hid (bds_of hok)
    have HSS := Lib.hid (show paysS x = (if blames x = (truths x).length then toldLo (owesT x) (truths x) else 0, 0) by simp [paysS, hask])
    have kk : X.cell? ⟨0, 1, none⟩ = some (.func (.func 123) #[] #[]) := HGX.out.k1
    have l0 : 0 < X.heap.size := by have := HGX.out.lt; omega
    have l8 : P8 < X.heap.size := (Array.getElem?_eq_some_iff.1 HC.out).1
    clear hX hE hT hne hask hfn hok
    subst hE0
    have HDN := Lib.hid (show X.heap.size ≤ X.drew.heap.size from Nat.le_refl _)
    have HDS := Lib.hid ((HS.out.mono HNX.out).below (Nat.le_refl _) (Below.refl X.heap.size X).drew)
    have HDT := Lib.hid (HT.out.below (Nat.le_refl _) (Below.refl X.heap.size X).drew)
    by_cases hbl : blames x = (truths x).length
    · have hq : (((truths x).countP (blamed x) : Nat) : Int) = (((truths x).length : Nat) : Int) := by unfold blames at hbl; omega
      have HSS2 := Lib.hid (show paysS x = (toldLo (owesT x) (truths x), 0) by rw [HSS.out, if_pos hbl])
      clear hbl
      go_upto_region 4 with fail
      go_region_with (first
        | (go_at_call 81; refine (blame_any _ x (.slice sa' sl' sc') (.slice ka' kl' kc') (.map mo) (.slice ta tl tc) (truths x) X.heap.size HDN.out HDS.out HBD.out HDT.out HOK.out).mono ?_; rintro e w5 ⟨rfl, hb5⟩; have kk5 : w5.cell? ⟨0, 1, none⟩ = some (.func (.func 123) #[] #[]) := (hb5.cell (p := ⟨0, 1, none⟩) l0).trans kk; have HB5 := Lib.hid hb5; clear hb5)
        | (go_at_call 123; refine (each_any _ _ _).mono ?_; rintro e w6 ⟨rfl, hb6⟩; have HB6 := Lib.hid hb6; clear hb6))
      all_goals (
        have h6 : Below X.heap.size X w6 := (((Below.refl X.heap.size X).drew).trans HB5.out).trans (HB6.out.mono HB5.out.size)
        have g0 := (h6.cell (p := ⟨P8, 0, none⟩) l8).trans e0
        have g1 := (h6.cell (p := ⟨P8, 1, none⟩) l8).trans e1
        have g2 := (h6.cell (p := ⟨P8, 2, none⟩) l8).trans e2
        have g3 := (h6.cell (p := ⟨P8, 3, none⟩) l8).trans e3
        have g4 := (h6.cell (p := ⟨P8, 4, none⟩) l8).trans e4
        have g5 := (h6.cell (p := ⟨P8, 5, none⟩) l8).trans e5
        have g6 := (h6.cell (p := ⟨P8, 6, none⟩) l8).trans e6
        have g7 := (h6.cell (p := ⟨P8, 7, none⟩) l8).trans e7
        have g8 := (h6.cell (p := ⟨P8, 8, none⟩) l8).trans e8
        have H6 := Lib.hid h6
        have HFN6 := Lib.hid (HFN.out w6 h6)
        clear h6
        go_wp2_with fail
        refine (told_any w6 x (.slice sa' sl' sc') (.slice ka' kl' kc') (.map mo) (.slice ta tl tc) (truths x) X.heap.size 84 #[.agg #[.slice sa' sl' sc', .int .i64 x.wth, .int .i64 x.c0, .int .i64 x.c1, .int .i64 x.c2, .slice ka' kl' kc', .int .i64 x.rate, .map mo, .slice ta tl tc]] #[] (owesT x) H6.out.size (HT.out.below (Nat.le_refl _) H6.out) HNE.out HOK.out HFN6.out (enters_of Tryd.func84 (by kernel_rfl) rfl)).mono ?_
        rintro e w7 ⟨rfl, hb7⟩
        have HB7 := Lib.hid hb7
        have hfld := field32
        clear hb7
        go_wp2_with fail
        refine bodyPost_ret (results_tmp2 rfl _ _ _) rfl ⟨?_, (hBW.trans (H6.out.mono hBW.size)).trans (HB7.out.mono (Nat.le_trans hBW.size H6.out.size))⟩
        rw [HSS2.out]
        rfl)
    · have hq : ((((truths x).countP (blamed x) : Nat) : Int) == (((truths x).length : Nat) : Int)) = false := by unfold blames at hbl; simp; omega
      have hq2 : ¬ (((truths x).countP (blamed x) : Nat) : Int) = (((truths x).length : Nat) : Int) := by unfold blames at hbl; omega
      have hq3 : ¬ (truths x).countP (blamed x) = (truths x).length := by unfold blames at hbl; omega
      have HSS2 := Lib.hid (show paysS x = (0, 0) by rw [HSS.out, if_neg hbl])
      clear hbl
      go_upto_region 4 with fail
      go_region_with (first
        | (go_at_call 81; refine (blame_any _ x (.slice sa' sl' sc') (.slice ka' kl' kc') (.map mo) (.slice ta tl tc) (truths x) X.heap.size HDN.out HDS.out HBD.out HDT.out HOK.out).mono ?_; rintro e w5 ⟨rfl, hb5⟩; have kk5 : w5.cell? ⟨0, 1, none⟩ = some (.func (.func 123) #[] #[]) := (hb5.cell (p := ⟨0, 1, none⟩) l0).trans kk; have HB5 := Lib.hid hb5; clear hb5)
        | (go_at_call 123; refine (each_any _ _ _).mono ?_; rintro e w6 ⟨rfl, hb6⟩; have HB6 := Lib.hid hb6; clear hb6))
      all_goals (
        have h6 : Below X.heap.size X w6 := (((Below.refl X.heap.size X).drew).trans HB5.out).trans (HB6.out.mono HB5.out.size)
        have H6 := Lib.hid h6
        clear h6
        go_wp2_with fail
        refine bodyPost_ret (results_tmp2 rfl _ _ _) rfl ⟨?_, hBW.trans (H6.out.mono hBW.size)⟩
        rw [HSS2.out]
        rfl)
  · have HSS := Lib.hid (show paysS b = (0, E) by unfold paysS; rw [hE, if_neg hE0])
    clear hX hE
    go_wp2_with fail
    refine bodyPost_ret (results_tmp2 rfl _ _ _) rfl ⟨?_, hBW⟩
    rw [HSS.out]
    rfl

end Go.Proofs.YtbhjfojbjpbdbaaDoor

-- A19: The contracts of Weather, Blame and First (package claim). Written by a session; printed by wip/tools/a19.py.
namespace Go.Proofs.YtbhjfojbjpbdbaaDoor
open Go.RowKit

theorem shl3 {w : Int} (h : 0 ≤ w ∧ w ≤ 2) {s : Nat} (hs : s < 8) : bits BinOp.or IntKind.i64 (s : Int) (wrap64 (2 ^ w.toNat)) = ((s ||| (1 <<< w.toNat) : Nat) : Int) ∧ (s ||| (1 <<< w.toNat)) < 8 := by
  have h1 : w = 0 ∨ w = 1 ∨ w = 2 := by omega
  have h2 : s = 0 ∨ s = 1 ∨ s = 2 ∨ s = 3 ∨ s = 4 ∨ s = 5 ∨ s = 6 ∨ s = 7 := by omega
  rcases h1 with rfl | rfl | rfl <;> rcases h2 with rfl | rfl | rfl | rfl | rfl | rfl | rfl | rfl <;> exact ⟨by kernel_rfl, by decide⟩

set_option maxRecDepth 100000 in
set_option maxHeartbeats 2000000 in
theorem weather_ex (W : World) (b : Bk) (n : Nat) (sa ka : Option Addr) (n1 sc n2 kc : Nat) (hv : BookW W n sa ka n1 sc n2 kc b) (hG : Glob W) :
    Calls Tryd.prog 26 #[.agg (b.cells (.slice sa n1 sc) (.slice ka n2 kc)).toArray] W fun e W' => e = .returned (.tuple #[.int .i64 (weatherS b).1, .int .i64 (weatherS b).2]) ∧ Below W.heap.size W W' := by
  obtain ⟨V, hV⟩ : ∃ V, W.alloc (Obj.cells #[.slice sa n1 sc, .int .i64 b.wth, .int .i64 b.c0, .int .i64 b.c1, .int .i64 b.c2, .slice ka n2 kc, .int .i64 b.rate] 26) = V := ⟨_, rfl⟩
  have hBV : Below W.heap.size W V := by rw [← hV]; exact (Below.refl _ _).alloc (Nat.le_refl _) _
  have hb0 : V.heap[W.heap.size]? = some (Obj.cells #[.slice sa n1 sc, .int .i64 b.wth, .int .i64 b.c0, .int .i64 b.c1, .int .i64 b.c2, .slice ka n2 kc, .int .i64 b.rate] 26) := by rw [← hV]; exact World.alloc_heap_new _ _
  have hVz : W.heap.size < V.heap.size := (Array.getElem?_eq_some_iff.1 hb0).1
  have HGV := Lib.hid (hG.below hG.lt hBV)
  have HVB := Lib.hid (hv.below hv.hn hBV)
  have HN := Lib.hid hv.hn
  have c0 : V.cell? ⟨W.heap.size, 0, none⟩ = some (.slice sa n1 sc) := blk_cell hb0
  have c1 : V.cell? ⟨W.heap.size, 1, none⟩ = some (.int .i64 b.wth) := blk_cell hb0
  have c2 : V.cell? ⟨W.heap.size, 2, none⟩ = some (.int .i64 b.c0) := blk_cell hb0
  have c3 : V.cell? ⟨W.heap.size, 3, none⟩ = some (.int .i64 b.c1) := blk_cell hb0
  have c4 : V.cell? ⟨W.heap.size, 4, none⟩ = some (.int .i64 b.c2) := blk_cell hb0
  have c5 : V.cell? ⟨W.heap.size, 5, none⟩ = some (.slice ka n2 kc) := blk_cell hb0
  have c6 : V.cell? ⟨W.heap.size, 6, none⟩ = some (.int .i64 b.rate) := blk_cell hb0
  have HL1 := Lib.hid hv.l1
  clear hv hG hb0
  simp only [Bk.cells]
  go_enter Tryd.func26, Tryd.ntmps26
  go_upto_region 2 with (first
    | (go_at_call 80; refine (asked_any V b true n sa ka n1 sc n2 kc HVB.out HGV.out).mono ?_; rintro e w2 ⟨x, sa', ka', ta, sl', sc', kl', kc', tl, tc, mo, rfl, hb2, hx⟩; have HB2 := Lib.hid hb2; have HX := Lib.hid hx; clear hb2 hx; simp only [Bk.cells9])
    | fail)
  obtain ⟨hBX, _, hC, hX⟩ := asked_new (V := V) (w2 := w2) (ka' := ka') (kl' := kl') (kc' := kc') (mo := mo) (x := x) ⟨HB2.out.os, HB2.out.tape, HB2.out.output, HB2.out.size, HB2.out.block⟩ HX.out
  simp only [Bk.cells9] at hBX hC hX
  obtain ⟨X, hXe⟩ : ∃ X, w2.alloc (.cells #[.slice sa' sl' sc', .int .i64 x.wth, .int .i64 x.c0, .int .i64 x.c1, .int .i64 x.c2, .slice ka' kl' kc', .int .i64 x.rate, .map mo, .slice ta tl tc] 79) = X := ⟨_, rfl⟩
  try rw [hXe]
  rw [hXe] at hBX hC hX
  clear hXe HB2 HX
  obtain ⟨P8, hP8⟩ : ∃ P8, w2.heap.size = P8 := ⟨_, rfl⟩
  rw [hP8] at hC ⊢
  clear hP8
  obtain ⟨E, hE⟩ : ∃ E, askE b true = E := ⟨_, rfl⟩
  rw [hE] at hX ⊢
  have hBW := hBV.trans (hBX.mono hBV.size)
  have HC := Lib.hid hC
  clear c0 c1 c2 c3 c4 c5 c6 hC
  by_cases hE0 : E = 0
  · obtain ⟨rfl, rfl, rfl, rfl, hT⟩ := hX hE0
    have hask : askE x true = 0 := by rw [hE, hE0]
    obtain ⟨hok, _, hne⟩ := askE_zero hask
    have HT := Lib.hid hT
    have HNE := Lib.hid hne
    have HOK := Lib.hid (truths_ok (sound_of hok))
    have HSO := Lib.hid (sound_of hok)
    have HS := Lib.hid ((HVB.out.below (by have := HN.out; omega) hBX).hs)
    have HNX := Lib.hid (show n ≤ X.heap.size from Nat.le_trans HN.out hBW.size)
    have e0 : X.cell? ⟨P8, 0, none⟩ = some (.slice sa' sl' sc') := blk_cell HC.out
    have e1 : X.cell? ⟨P8, 1, none⟩ = some (.int .i64 x.wth) := blk_cell HC.out
    have e2 : X.cell? ⟨P8, 2, none⟩ = some (.int .i64 x.c0) := blk_cell HC.out
    have e3 : X.cell? ⟨P8, 3, none⟩ = some (.int .i64 x.c1) := blk_cell HC.out
    have e4 : X.cell? ⟨P8, 4, none⟩ = some (.int .i64 x.c2) := blk_cell HC.out
    have e5 : X.cell? ⟨P8, 5, none⟩ = some (.slice ka' kl' kc') := blk_cell HC.out
    have e6 : X.cell? ⟨P8, 6, none⟩ = some (.int .i64 x.rate) := blk_cell HC.out
    have e7 : X.cell? ⟨P8, 7, none⟩ = some (.map mo) := blk_cell HC.out
    have e8 : X.cell? ⟨P8, 8, none⟩ = some (.slice ta tl tc) := blk_cell HC.out
    have HSS := Lib.hid (show weatherS x = (((weathers (truths x) : Nat) : Int), 0) by simp [weatherS, hask])
    have hlen : (truths x).length ≤ 20000 := truths_len (sound_of hok)
    obtain ⟨tl2, htl⟩ : ∃ m, (truths x).length = m := ⟨_, rfl⟩
    have htq : tl = tl2 := by obtain ⟨_, _, e, _⟩ := hT; injection e with _ e2 _; rw [e2, ← htl]; simp [trCells]
    subst htq
    rw [htl] at hlen
    have HTL := Lib.hid htl
    clear hX hE hT hne hask hok htl
    subst hE0
    go_wp2_with fail
    go_loopg [6, 20] tl (fun n st i wx => ∃ (q s : Nat), q ≤ tl ∧ n = tl - q ∧ st = .int .i64 (s : Int) ∧ i = .int .i64 (q : Int) ∧ s < 8 ∧ ((truths x).drop q).foldl (fun s t => s ||| (1 <<< t.w.toNat)) s = weathers (truths x) ∧ Below X.heap.size X wx)
    case atStart => exact ⟨0, 0, by omega, rfl, rfl, rfl, by omega, rfl, Below.refl _ _⟩
    case round =>
      obtain ⟨q, s, hq, hgk, rfl, rfl, hs8, hT2, hbx⟩ := hrel
      have HG2 := Lib.hid hgk
      have HT2 := Lib.hid hT2
      clear hgk hT2
      by_cases hlt : q < tl
      · obtain ⟨t, ht⟩ : ∃ t, (truths x)[q]? = some t := ⟨_, List.getElem?_eq_getElem (by rw [HTL.out]; exact hlt)⟩
        obtain ⟨_, _, e, _, _, _, h4⟩ := HT.out
        obtain ⟨g, p, hta, hg, hcs⟩ := sl_at h4 (show (trCells (truths x))[q]? = some t.cells by simp [trCells, ht])
        rw [hta] at e
        injection e with e1 e2 e3
        subst e1
        have hr : ∀ i c, t.cells[i]? = some c → wr.cell? ⟨g, p + q * 7 + i, none⟩ = some c := fun i c hi => (hbx.cell (p := ⟨g, p + q * 7 + i, none⟩) hg).trans (hcs i c hi)
        have r0 : wr.cell? ⟨g, p + q * 7, none⟩ = some (.int .i64 t.w) := hr 0 _ rfl
        have r1 : wr.cell? ⟨g, p + q * 7 + 1, none⟩ = some (.int .i64 t.a0) := hr 1 _ rfl
        have r2 : wr.cell? ⟨g, p + q * 7 + 2, none⟩ = some (.int .i64 t.a1) := hr 2 _ rfl
        have r3 : wr.cell? ⟨g, p + q * 7 + 3, none⟩ = some (.int .i64 t.a2) := hr 3 _ rfl
        have r4 : wr.cell? ⟨g, p + q * 7 + 4, none⟩ = some (.int .i64 t.b0) := hr 4 _ rfl
        have r5 : wr.cell? ⟨g, p + q * 7 + 5, none⟩ = some (.int .i64 t.b1) := hr 5 _ rfl
        have r6 : wr.cell? ⟨g, p + q * 7 + 6, none⟩ = some (.int .i64 t.b2) := hr 6 _ rfl
        have htw : 0 ≤ t.w ∧ t.w ≤ 2 := (HOK.out t (List.mem_of_getElem? ht)).1
        have hd : (truths x).drop q = t :: (truths x).drop (q + 1) := by
          have hl : q < (truths x).length := by rw [HTL.out]; exact hlt
          rw [List.drop_eq_getElem_cons hl]
          rw [List.getElem?_eq_getElem hl] at ht
          injection ht with ht
          rw [ht]
        have HD := Lib.hid hd
        clear ht h4 hcs hr hd hta
        obtain ⟨hsh, hs9⟩ := shl3 htw hs8
        have HSH := Lib.hid hsh
        clear hsh
        go_wp2_with fail
        go_roundg (tl - (q + 1))
        case measure => rw [HG2.out]; omega
        case rel => exact ⟨q + 1, s ||| (1 <<< t.w.toNat), by omega, rfl, by rw [HSH.out], by go_num, hs9, by rw [← HT2.out, HD.out]; rfl, hbx.alloc hbx.size _⟩
      · have hs2 : s = weathers (truths x) := by have := HT2.out; rw [List.drop_eq_nil_of_le (by rw [HTL.out]; omega)] at this; exact this
        have HS2 := Lib.hid hs2
        clear hs2
        go_wp2_with fail
        refine bodyPost_ret (results_tmp2 rfl _ _ _) rfl ⟨?_, hBW.trans (hbx.mono hBW.size)⟩
        rw [HSS.out, ← HS2.out]
        rfl
  · have HSS := Lib.hid (show weatherS b = (0, E) by unfold weatherS; rw [hE, if_neg hE0])
    clear hX hE
    go_wp2_with fail
    refine bodyPost_ret (results_tmp2 rfl _ _ _) rfl ⟨?_, hBW⟩
    rw [HSS.out]
    rfl

end Go.Proofs.YtbhjfojbjpbdbaaDoor

-- A20: The contracts of Blame and First (package claim). Written by a session; printed by wip/tools/a20.py.
namespace Go.Proofs.YtbhjfojbjpbdbaaDoor
open Go.RowKit

theorem index102 (f0 f1 : Value) : (∀ w, (Instr.index 102 (.agg #[f0, f1]) (.int .i64 0)).run Tryd.prog w = .ok f0 w) ∧ (∀ w, (Instr.index 102 (.agg #[f0, f1]) (.int .i64 1)).run Tryd.prog w = .ok f1 w) :=
  ⟨fun w => by kernel_rfl, fun w => by kernel_rfl⟩

set_option maxRecDepth 100000 in
set_option maxHeartbeats 2000000 in
theorem blame_ex (W : World) (b : Bk) (n : Nat) (sa ka : Option Addr) (n1 sc n2 kc : Nat) (hv : BookW W n sa ka n1 sc n2 kc b) (hG : Glob W) :
    Calls Tryd.prog 28 #[.agg (b.cells (.slice sa n1 sc) (.slice ka n2 kc)).toArray] W fun e W' => e = .returned (.tuple #[.int .i64 (blameS b).1, .int .i64 (blameS b).2]) ∧ Below W.heap.size W W' := by
  obtain ⟨V, hV⟩ : ∃ V, W.alloc (Obj.cells #[.slice sa n1 sc, .int .i64 b.wth, .int .i64 b.c0, .int .i64 b.c1, .int .i64 b.c2, .slice ka n2 kc, .int .i64 b.rate] 26) = V := ⟨_, rfl⟩
  have hBV : Below W.heap.size W V := by rw [← hV]; exact (Below.refl _ _).alloc (Nat.le_refl _) _
  have hb0 : V.heap[W.heap.size]? = some (Obj.cells #[.slice sa n1 sc, .int .i64 b.wth, .int .i64 b.c0, .int .i64 b.c1, .int .i64 b.c2, .slice ka n2 kc, .int .i64 b.rate] 26) := by rw [← hV]; exact World.alloc_heap_new _ _
  have hVz : W.heap.size < V.heap.size := (Array.getElem?_eq_some_iff.1 hb0).1
  have HGV := Lib.hid (hG.below hG.lt hBV)
  have HVB := Lib.hid (hv.below hv.hn hBV)
  have HN := Lib.hid hv.hn
  have c0 : V.cell? ⟨W.heap.size, 0, none⟩ = some (.slice sa n1 sc) := blk_cell hb0
  have c1 : V.cell? ⟨W.heap.size, 1, none⟩ = some (.int .i64 b.wth) := blk_cell hb0
  have c2 : V.cell? ⟨W.heap.size, 2, none⟩ = some (.int .i64 b.c0) := blk_cell hb0
  have c3 : V.cell? ⟨W.heap.size, 3, none⟩ = some (.int .i64 b.c1) := blk_cell hb0
  have c4 : V.cell? ⟨W.heap.size, 4, none⟩ = some (.int .i64 b.c2) := blk_cell hb0
  have c5 : V.cell? ⟨W.heap.size, 5, none⟩ = some (.slice ka n2 kc) := blk_cell hb0
  have c6 : V.cell? ⟨W.heap.size, 6, none⟩ = some (.int .i64 b.rate) := blk_cell hb0
  have HL1 := Lib.hid hv.l1
  clear hv hG hb0
  simp only [Bk.cells]
  go_enter Tryd.func28, Tryd.ntmps28
  go_upto_region 2 with (first
    | (go_at_call 80; refine (asked_any V b true n sa ka n1 sc n2 kc HVB.out HGV.out).mono ?_; rintro e w2 ⟨x, sa', ka', ta, sl', sc', kl', kc', tl, tc, mo, rfl, hb2, hx⟩; have HB2 := Lib.hid hb2; have HX := Lib.hid hx; clear hb2 hx; simp only [Bk.cells9])
    | fail)
  obtain ⟨hBX, _, hC, hX⟩ := asked_new (V := V) (w2 := w2) (ka' := ka') (kl' := kl') (kc' := kc') (mo := mo) (x := x) ⟨HB2.out.os, HB2.out.tape, HB2.out.output, HB2.out.size, HB2.out.block⟩ HX.out
  simp only [Bk.cells9] at hBX hC hX
  obtain ⟨X, hXe⟩ : ∃ X, w2.alloc (.cells #[.slice sa' sl' sc', .int .i64 x.wth, .int .i64 x.c0, .int .i64 x.c1, .int .i64 x.c2, .slice ka' kl' kc', .int .i64 x.rate, .map mo, .slice ta tl tc] 79) = X := ⟨_, rfl⟩
  try rw [hXe]
  rw [hXe] at hBX hC hX
  clear hXe HB2 HX
  obtain ⟨P8, hP8⟩ : ∃ P8, w2.heap.size = P8 := ⟨_, rfl⟩
  rw [hP8] at hC ⊢
  clear hP8
  obtain ⟨E, hE⟩ : ∃ E, askE b true = E := ⟨_, rfl⟩
  rw [hE] at hX ⊢
  have hBW := hBV.trans (hBX.mono hBV.size)
  have HC := Lib.hid hC
  clear c0 c1 c2 c3 c4 c5 c6 hC
  have HGX := Lib.hid (HGV.out.below HGV.out.lt hBX)
  by_cases hE0 : E = 0
  · obtain ⟨rfl, rfl, rfl, rfl, hT⟩ := hX hE0
    have hask : askE x true = 0 := by rw [hE, hE0]
    obtain ⟨hok, _, hne⟩ := askE_zero hask
    have HT := Lib.hid hT
    have HNE := Lib.hid hne
    have HOK := Lib.hid (truths_ok (sound_of hok))
    have HSO := Lib.hid (sound_of hok)
    have HS := Lib.hid ((HVB.out.below (by have := HN.out; omega) hBX).hs)
    have HNX := Lib.hid (show n ≤ X.heap.size from Nat.le_trans HN.out hBW.size)
    have e0 : X.cell? ⟨P8, 0, none⟩ = some (.slice sa' sl' sc') := blk_cell HC.out
    have e1 : X.cell? ⟨P8, 1, none⟩ = some (.int .i64 x.wth) := blk_cell HC.out
    have e2 : X.cell? ⟨P8, 2, none⟩ = some (.int .i64 x.c0) := blk_cell HC.out
    have e3 : X.cell? ⟨P8, 3, none⟩ = some (.int .i64 x.c1) := blk_cell HC.out
    have e4 : X.cell? ⟨P8, 4, none⟩ = some (.int .i64 x.c2) := blk_cell HC.out
    have e5 : X.cell? ⟨P8, 5, none⟩ = some (.slice ka' kl' kc') := blk_cell HC.out
    have e6 : X.cell? ⟨P8, 6, none⟩ = some (.int .i64 x.rate) := blk_cell HC.out
    have e7 : X.cell? ⟨P8, 7, none⟩ = some (.map mo) := blk_cell HC.out
    have e8 : X.cell? ⟨P8, 8, none⟩ = some (.slice ta tl tc) := blk_cell HC.out
    have HSS := Lib.hid (show blameS x = (kindOf x, 0) by simp [blameS, hask])
    have HBD := Lib.hid (bds_of hok)
    clear hX hE hT hne hask hok
    subst hE0
    go_upto_region 5 with (first
      | (go_at_call 81; refine (blame_any X x (.slice sa' sl' sc') (.slice ka' kl' kc') (.map mo) (.slice ta tl tc) (truths x) X.heap.size (Nat.le_refl _) (HS.out.mono HNX.out) HBD.out HT.out HOK.out).mono ?_; rintro e w5 ⟨rfl, hb5⟩; have HB5 := Lib.hid hb5; clear hb5)
      | fail)
    obtain ⟨Y, hY⟩ : ∃ Y, w5.alloc (.cells #[.int .i64 (((truths x).countP (blamed x) : Nat) : Int), .int .i64 (((truths x).length : Nat) : Int)] 99) = Y := ⟨_, rfl⟩
    have hY0 : Y.heap[w5.heap.size]? = some (.cells #[.int .i64 (((truths x).countP (blamed x) : Nat) : Int), .int .i64 (((truths x).length : Nat) : Int)] 99) := by rw [← hY]; exact World.alloc_heap_new _ _
    have hXY : Below X.heap.size X Y := by rw [← hY]; exact HB5.out.alloc HB5.out.size _
    try rw [hY]
    clear hY
    obtain ⟨P7, hP7⟩ : ∃ P7, w5.heap.size = P7 := ⟨_, rfl⟩
    rw [hP7] at hY0 ⊢
    clear hP7
    have HGY := Lib.hid (HGX.out.below HGX.out.lt hXY)
    have kk0 : Y.cell? ⟨0, 0, none⟩ = some (.func (.func 125) #[] #[]) := HGY.out.k0
    have kk1 : Y.cell? ⟨0, 1, none⟩ = some (.func (.func 123) #[] #[]) := HGY.out.k1
    have HXY := Lib.hid hXY
    have HY0 := Lib.hid hY0
    have hWY := hBW.trans (hXY.mono hBW.size)
    have HWY := Lib.hid hWY
    clear hXY hY0 hWY e0 e1 e2 e3 e4 e5 e6 e7 e8
    obtain ⟨hi0, hi1⟩ := index102 (.func (.func 125) #[] #[]) (.func (.func 123) #[] #[])
    obtain ⟨so, hso⟩ : ∃ so, (truths x).countP (blamed x) = so := ⟨_, rfl⟩
    obtain ⟨al, hal⟩ : ∃ al, (truths x).length = al := ⟨_, rfl⟩
    have HK := Lib.hid (show kindOf x = (if 0 < so then 1 else 0) + (if so = al then 1 else 0) by unfold kindOf blames; rw [hso, hal])
    rw [hso, hal] at HY0 ⊢
    clear hso hal
    go_wp2_with fail
    go_loopg [6, 21] 2 (fun n st i wx => ∃ (q : Nat) (m : Int), q ≤ 2 ∧ n = 2 - q ∧ st = .int .i64 m ∧ i = .int .i64 (q : Int) ∧ m = (if 1 ≤ q then (if 0 < so then 1 else 0) else 0) + (if 2 ≤ q then (if so = al then 1 else 0) else 0) ∧ Below Y.heap.size Y wx)
    case atStart => exact ⟨0, 0, by omega, rfl, rfl, rfl, by simp, Below.refl _ _⟩
    case round =>
      obtain ⟨q, m, hq, hgk, rfl, rfl, hm, hbx⟩ := hrel
      have HG2 := Lib.hid hgk
      have HM := Lib.hid hm
      have v0 : wr.cell? ⟨P7, 0, none⟩ = some (.int .i64 (so : Int)) := (hbx.cell (p := ⟨P7, 0, none⟩) (Array.getElem?_eq_some_iff.1 HY0.out).1).trans (blk_cell HY0.out)
      have v1 : wr.cell? ⟨P7, 1, none⟩ = some (.int .i64 (al : Int)) := (hbx.cell (p := ⟨P7, 1, none⟩) (Array.getElem?_eq_some_iff.1 HY0.out).1).trans (blk_cell HY0.out)
      clear hgk hm
      have hmb : 0 ≤ m ∧ m ≤ 2 := by rw [HM.out]; split <;> split <;> (try split) <;> (try split) <;> omega
      have hqq : q = 0 ∨ q = 1 ∨ q = 2 := by omega
      rcases hqq with rfl | rfl | rfl
      · have HM0 := Lib.hid (show m = 0 by rw [HM.out]; simp)
        by_cases hso : 0 < so
        · have hso2 : decide ((0 : Int) < (so : Int)) = true := by simp; omega
          have HM1 := Lib.hid (show m + 1 = (if 1 ≤ 0 + 1 then (if 0 < so then 1 else 0) else 0) + (if 2 ≤ 0 + 1 then (if so = al then 1 else 0) else 0) by rw [HM0.out]; simp [hso])
          clear hso
          go_wp2_with (first | (go_at_call 125; refine (some_any _ _ _).mono ?_; rintro e w6 ⟨rfl, hb6⟩; rw [hso2]; have HB6 := Lib.hid hb6; clear hb6) | fail)
          go_roundg 1
          case measure => rw [HG2.out]; omega
          case rel => exact ⟨0 + 1, m + 1, by omega, rfl, rfl, by go_num, HM1.out, hbx.trans (HB6.out.mono hbx.size)⟩
        · have hso2 : decide ((0 : Int) < (so : Int)) = false := by simp; omega
          have HM1 := Lib.hid (show m = (if 1 ≤ 0 + 1 then (if 0 < so then 1 else 0) else 0) + (if 2 ≤ 0 + 1 then (if so = al then 1 else 0) else 0) by rw [HM0.out]; simp [hso])
          clear hso
          go_wp2_with (first | (go_at_call 125; refine (some_any _ _ _).mono ?_; rintro e w6 ⟨rfl, hb6⟩; rw [hso2]; have HB6 := Lib.hid hb6; clear hb6) | fail)
          go_roundg 1
          case measure => rw [HG2.out]; omega
          case rel => exact ⟨0 + 1, m, by omega, rfl, rfl, by go_num, HM1.out, hbx.trans (HB6.out.mono hbx.size)⟩
      · by_cases hso : so = al
        · have hso2 : ((so : Int) == (al : Int)) = true := by simp; omega
          have HM1 := Lib.hid (show m + 1 = (if 1 ≤ 1 + 1 then (if 0 < so then 1 else 0) else 0) + (if 2 ≤ 1 + 1 then (if so = al then 1 else 0) else 0) by rw [HM.out]; simp [hso])
          clear hso
          go_wp2_with (first | (go_at_call 123; refine (each_any _ _ _).mono ?_; rintro e w6 ⟨rfl, hb6⟩; rw [hso2]; have HB6 := Lib.hid hb6; clear hb6) | fail)
          go_roundg 0
          case measure => rw [HG2.out]; omega
          case rel => exact ⟨1 + 1, m + 1, by omega, rfl, rfl, by go_num, HM1.out, hbx.trans (HB6.out.mono hbx.size)⟩
        · have hso2 : ((so : Int) == (al : Int)) = false := by simp; omega
          have HM1 := Lib.hid (show m = (if 1 ≤ 1 + 1 then (if 0 < so then 1 else 0) else 0) + (if 2 ≤ 1 + 1 then (if so = al then 1 else 0) else 0) by rw [HM.out]; simp [hso])
          clear hso
          go_wp2_with (first | (go_at_call 123; refine (each_any _ _ _).mono ?_; rintro e w6 ⟨rfl, hb6⟩; rw [hso2]; have HB6 := Lib.hid hb6; clear hb6) | fail)
          go_roundg 0
          case measure => rw [HG2.out]; omega
          case rel => exact ⟨1 + 1, m, by omega, rfl, rfl, by go_num, HM1.out, hbx.trans (HB6.out.mono hbx.size)⟩
      · have HMK := Lib.hid (show m = kindOf x by rw [HM.out, HK.out]; simp)
        go_wp2_with fail
        refine bodyPost_ret (results_tmp2 rfl _ _ _) rfl ⟨?_, HWY.out.trans (hbx.mono HWY.out.size)⟩
        rw [HSS.out, ← HMK.out]
        rfl
  · have HSS := Lib.hid (show blameS b = (0, E) by unfold blameS; rw [hE, if_neg hE0])
    clear hX hE
    go_wp2_with fail
    refine bodyPost_ret (results_tmp2 rfl _ _ _) rfl ⟨?_, hBW⟩
    rw [HSS.out]
    rfl

end Go.Proofs.YtbhjfojbjpbdbaaDoor

-- A21: The contract of First (package claim). Written by a session; printed by wip/tools/a21.py.
namespace Go.Proofs.YtbhjfojbjpbdbaaDoor
open Go.RowKit

theorem find_range {p : Nat → Bool} : ∀ {n q : Nat}, q < n → (∀ k, k < q → p k = false) → p q = true → (List.range n).find? p = some q := by
  intro n q hq h1 h2
  rw [List.find?_range_eq_some]
  exact ⟨h2, by simpa using hq, fun j hj => by simp [h1 j hj]⟩
theorem find_range_none {p : Nat → Bool} {n : Nat} (h : ∀ k, k < n → p k = false) : (List.range n).find? p = none := by
  rw [List.find?_eq_none]
  intro k hk
  simp [h k (List.mem_range.1 hk)]

theorem firstS_some {b : Bk} {q : Nat} (h : askE b true = 0) (hf : ((List.range b.sts.length).find? fun k => decide (0 < toldLo (lateT b k) (truths b))) = some q) : firstS b = ((q : Int), 0) := by
  unfold firstS
  rw [if_pos h, hf]
theorem firstS_none {b : Bk} (h : askE b true = 0) (hf : ((List.range b.sts.length).find? fun k => decide (0 < toldLo (lateT b k) (truths b))) = none) : firstS b = (0, 4) := by
  unfold firstS
  rw [if_pos h, hf]

set_option maxHeartbeats 1000000 in
theorem first1_any (W1 : World) (b : Bk) (sa ka ta : Option Addr) (sl sc kl kc tl tc n : Nat) (mo : Option Nat) (t : Tr) (j P8 P6 : Nat) (ht : TrOk t) (hj : j < b.sts.length) (h3 : b.sts.length ≤ 3) (hn : n ≤ W1.heap.size) (hs : SlOf W1 n 7 (.slice sa sl sc) (stCells b.sts))
    (hd : 0 ≤ b.due j ∧ b.due j ≤ 1000) (h6 : W1.heap[P6]? = some (.cells #[.int .i64 (j : Int)] 3)) (h8 : W1.heap[P8]? = some (.cells (b.cells9 (.slice sa sl sc) (.slice ka kl kc) (.map mo) (.slice ta tl tc)).toArray 79)) :
    Calls Tryd.prog 85 #[.agg t.cells.toArray, .pointer (some ⟨P8, 0, none⟩), .pointer (some ⟨P6, 0, none⟩)] W1 fun e W' => e = .returned (.int .i64 (lateT b j t)) ∧ Below W1.heap.size W1 W' := by
  obtain ⟨V, hV⟩ : ∃ V, W1.alloc (.cells t.cells.toArray 87) = V := ⟨_, rfl⟩
  have hBV : Below W1.heap.size W1 V := by rw [← hV]; exact (Below.refl _ _).alloc (Nat.le_refl _) _
  have hT : V.heap[W1.heap.size]? = some (.cells t.cells.toArray 87) := by rw [← hV]; exact World.alloc_heap_new _ _
  have g6 := (hBV.block P6 (Array.getElem?_eq_some_iff.1 h6).1).trans h6
  have g8 := (hBV.block P8 (Array.getElem?_eq_some_iff.1 h8).1).trans h8
  have HS := Lib.hid (hs.below hn hBV)
  have HN := Lib.hid (Nat.le_trans hn hBV.size)
  have c6 : V.cell? ⟨P6, 0, none⟩ = some (.int .i64 (j : Int)) := blk_cell g6
  have p0 : V.cell? ⟨W1.heap.size, 0, none⟩ = some (.int .i64 t.w) := blk_cell hT
  have p1 : V.cell? ⟨W1.heap.size, 1, none⟩ = some (.int .i64 t.a0) := blk_cell hT
  have p2 : V.cell? ⟨W1.heap.size, 2, none⟩ = some (.int .i64 t.a1) := blk_cell hT
  have p3 : V.cell? ⟨W1.heap.size, 3, none⟩ = some (.int .i64 t.a2) := blk_cell hT
  have p4 : V.cell? ⟨W1.heap.size, 4, none⟩ = some (.int .i64 t.b0) := blk_cell hT
  have p5 : V.cell? ⟨W1.heap.size, 5, none⟩ = some (.int .i64 t.b1) := blk_cell hT
  have p6 : V.cell? ⟨W1.heap.size, 6, none⟩ = some (.int .i64 t.b2) := blk_cell hT
  have q0 : V.cell? ⟨P8, 0, none⟩ = some (.slice sa sl sc) := blk_cell g8
  have q1 : V.cell? ⟨P8, 1, none⟩ = some (.int .i64 b.wth) := blk_cell g8
  have q2 : V.cell? ⟨P8, 2, none⟩ = some (.int .i64 b.c0) := blk_cell g8
  have q3 : V.cell? ⟨P8, 3, none⟩ = some (.int .i64 b.c1) := blk_cell g8
  have q4 : V.cell? ⟨P8, 4, none⟩ = some (.int .i64 b.c2) := blk_cell g8
  have q5 : V.cell? ⟨P8, 5, none⟩ = some (.slice ka kl kc) := blk_cell g8
  have q6 : V.cell? ⟨P8, 6, none⟩ = some (.int .i64 b.rate) := blk_cell g8
  have q7 : V.cell? ⟨P8, 7, none⟩ = some (.map mo) := blk_cell g8
  have q8 : V.cell? ⟨P8, 8, none⟩ = some (.slice ta tl tc) := blk_cell g8
  have l6 := lt_of_cell c6
  have l8 := lt_of_cell q0
  clear hT g6 g8 h6 h8 hs hn
  simp only [Tr.cells]
  simp only [Tr.cells] at hV
  go_enter Tryd.func85, Tryd.ntmps85
  go_upto_region 1 with fail
  try rw [hV]
  clear hV
  go_wp2_with (go_at_call 77; refine (late_any V b (.slice sa sl sc) (.slice ka kl kc) (.map mo) (.slice ta tl tc) n t j HN.out HS.out hj h3 ht hd).mono ?_; rintro e w1 ⟨rfl, hb1⟩; have HB1 := Lib.hid hb1; clear hb1)
  go_ret
  exact ⟨rfl, hBV.trans (HB1.out.mono hBV.size)⟩

set_option maxRecDepth 100000 in
set_option maxHeartbeats 2000000 in
theorem first_ex (W : World) (b : Bk) (n : Nat) (sa ka : Option Addr) (n1 sc n2 kc : Nat) (hv : BookW W n sa ka n1 sc n2 kc b) (hG : Glob W) :
    Calls Tryd.prog 34 #[.agg (b.cells (.slice sa n1 sc) (.slice ka n2 kc)).toArray] W fun e W' => e = .returned (.tuple #[.int .i64 (firstS b).1, .int .i64 (firstS b).2]) ∧ Below W.heap.size W W' := by
  obtain ⟨V, hV⟩ : ∃ V, W.alloc (Obj.cells #[.slice sa n1 sc, .int .i64 b.wth, .int .i64 b.c0, .int .i64 b.c1, .int .i64 b.c2, .slice ka n2 kc, .int .i64 b.rate] 26) = V := ⟨_, rfl⟩
  have hBV : Below W.heap.size W V := by rw [← hV]; exact (Below.refl _ _).alloc (Nat.le_refl _) _
  have hb0 : V.heap[W.heap.size]? = some (Obj.cells #[.slice sa n1 sc, .int .i64 b.wth, .int .i64 b.c0, .int .i64 b.c1, .int .i64 b.c2, .slice ka n2 kc, .int .i64 b.rate] 26) := by rw [← hV]; exact World.alloc_heap_new _ _
  have hVz : W.heap.size < V.heap.size := (Array.getElem?_eq_some_iff.1 hb0).1
  have HGV := Lib.hid (hG.below hG.lt hBV)
  have HVB := Lib.hid (hv.below hv.hn hBV)
  have HN := Lib.hid hv.hn
  have c0 : V.cell? ⟨W.heap.size, 0, none⟩ = some (.slice sa n1 sc) := blk_cell hb0
  have c1 : V.cell? ⟨W.heap.size, 1, none⟩ = some (.int .i64 b.wth) := blk_cell hb0
  have c2 : V.cell? ⟨W.heap.size, 2, none⟩ = some (.int .i64 b.c0) := blk_cell hb0
  have c3 : V.cell? ⟨W.heap.size, 3, none⟩ = some (.int .i64 b.c1) := blk_cell hb0
  have c4 : V.cell? ⟨W.heap.size, 4, none⟩ = some (.int .i64 b.c2) := blk_cell hb0
  have c5 : V.cell? ⟨W.heap.size, 5, none⟩ = some (.slice ka n2 kc) := blk_cell hb0
  have c6 : V.cell? ⟨W.heap.size, 6, none⟩ = some (.int .i64 b.rate) := blk_cell hb0
  have HL1 := Lib.hid hv.l1
  have HB0 := Lib.hid hb0
  clear hv hG hb0
  simp only [Bk.cells]
  go_enter Tryd.func34, Tryd.ntmps34
  go_upto_region 2 with (first
    | (go_at_call 80; refine (asked_any V b true n sa ka n1 sc n2 kc HVB.out HGV.out).mono ?_; rintro e w2 ⟨x, sa', ka', ta, sl', sc', kl', kc', tl, tc, mo, rfl, hb2, hx⟩; have HB2 := Lib.hid hb2; have HX := Lib.hid hx; clear hb2 hx; simp only [Bk.cells9])
    | fail)
  obtain ⟨hBX, _, hC, hX⟩ := asked_new (V := V) (w2 := w2) (ka' := ka') (kl' := kl') (kc' := kc') (mo := mo) (x := x) ⟨HB2.out.os, HB2.out.tape, HB2.out.output, HB2.out.size, HB2.out.block⟩ HX.out
  simp only [Bk.cells9] at hBX hC hX
  obtain ⟨X, hXe⟩ : ∃ X, w2.alloc (.cells #[.slice sa' sl' sc', .int .i64 x.wth, .int .i64 x.c0, .int .i64 x.c1, .int .i64 x.c2, .slice ka' kl' kc', .int .i64 x.rate, .map mo, .slice ta tl tc] 79) = X := ⟨_, rfl⟩
  try rw [hXe]
  rw [hXe] at hBX hC hX
  clear hXe HB2 HX
  obtain ⟨P8, hP8⟩ : ∃ P8, w2.heap.size = P8 := ⟨_, rfl⟩
  rw [hP8] at hC ⊢
  clear hP8
  obtain ⟨E, hE⟩ : ∃ E, askE b true = E := ⟨_, rfl⟩
  rw [hE] at hX ⊢
  have hBW := hBV.trans (hBX.mono hBV.size)
  have HC := Lib.hid hC
  clear c0 c1 c2 c3 c4 c5 c6 hC
  have cx : X.cell? ⟨W.heap.size, 0, none⟩ = some (.slice sa n1 sc) := blk_cell ((hBX.block _ hVz).trans HB0.out)
  by_cases hE0 : E = 0
  · obtain ⟨rfl, rfl, rfl, rfl, hT⟩ := hX hE0
    have hask : askE x true = 0 := by rw [hE, hE0]
    obtain ⟨hok, _, hne⟩ := askE_zero hask
    have HT := Lib.hid hT
    have HNE := Lib.hid hne
    have HOK := Lib.hid (truths_ok (sound_of hok))
    have HSO := Lib.hid (sound_of hok)
    have HS := Lib.hid ((HVB.out.below (by have := HN.out; omega) hBX).hs)
    have HNX := Lib.hid (show n ≤ X.heap.size from Nat.le_trans HN.out hBW.size)
    have e0 : X.cell? ⟨P8, 0, none⟩ = some (.slice sa' sl' sc') := blk_cell HC.out
    have e1 : X.cell? ⟨P8, 1, none⟩ = some (.int .i64 x.wth) := blk_cell HC.out
    have e2 : X.cell? ⟨P8, 2, none⟩ = some (.int .i64 x.c0) := blk_cell HC.out
    have e3 : X.cell? ⟨P8, 3, none⟩ = some (.int .i64 x.c1) := blk_cell HC.out
    have e4 : X.cell? ⟨P8, 4, none⟩ = some (.int .i64 x.c2) := blk_cell HC.out
    have e5 : X.cell? ⟨P8, 5, none⟩ = some (.slice ka' kl' kc') := blk_cell HC.out
    have e6 : X.cell? ⟨P8, 6, none⟩ = some (.int .i64 x.rate) := blk_cell HC.out
    have e7 : X.cell? ⟨P8, 7, none⟩ = some (.map mo) := blk_cell HC.out
    have e8 : X.cell? ⟨P8, 8, none⟩ = some (.slice ta tl tc) := blk_cell HC.out
    have HASK := Lib.hid hask
    have hl3 := (bkOk_head hok).1
    have hsb : sl' ≤ 3 := by have := HL1.out; omega
    have HDU := Lib.hid (show ∀ j, 0 ≤ x.due j ∧ x.due j ≤ 1000 from fun j => by have := due_bd hok j; omega)
    have hlx : W.heap.size < X.heap.size := Nat.lt_of_lt_of_le hVz hBX.size
    have hfld := field32
    clear hX hE hT hne hask hok
    subst hE0
    go_wp2_with fail
    go_loopg [18] sl' (fun n i wx => ∃ (q : Nat), q ≤ sl' ∧ n = sl' - q ∧ i = .int .i64 (q : Int) ∧ (∀ k, k < q → decide (0 < toldLo (lateT x k) (truths x)) = false) ∧ Below X.heap.size X wx)
    case atStart => exact ⟨0, by omega, rfl, rfl, fun k hk => by omega, Below.refl _ _⟩
    case round =>
      obtain ⟨q, hq, hgk, rfl, hnone, hbx⟩ := hrel
      have HG2 := Lib.hid hgk
      have HNO := Lib.hid hnone
      clear hgk hnone
      by_cases hlt : q < sl'
      · go_upto_region 7 with fail
        obtain ⟨Y, hY⟩ : ∃ Y, wr.alloc (.cells #[.int .i64 (q : Int)] 3) = Y := ⟨_, rfl⟩
        have hY0 : Y.heap[wr.heap.size]? = some (.cells #[.int .i64 (q : Int)] 3) := by rw [← hY]; exact World.alloc_heap_new _ _
        have hXY : Below X.heap.size X Y := by rw [← hY]; exact hbx.alloc hbx.size _
        try rw [hY]
        clear hY
        obtain ⟨P6, hP6⟩ : ∃ P6, wr.heap.size = P6 := ⟨_, rfl⟩
        rw [hP6] at hY0 ⊢
        clear hP6
        have hY8 := (hXY.block P8 (Array.getElem?_eq_some_iff.1 HC.out).1).trans HC.out
        have y0 : Y.cell? ⟨P8, 0, none⟩ = some (.slice sa' sl' sc') := blk_cell hY8
        have y1 : Y.cell? ⟨P8, 1, none⟩ = some (.int .i64 x.wth) := blk_cell hY8
        have y2 : Y.cell? ⟨P8, 2, none⟩ = some (.int .i64 x.c0) := blk_cell hY8
        have y3 : Y.cell? ⟨P8, 3, none⟩ = some (.int .i64 x.c1) := blk_cell hY8
        have y4 : Y.cell? ⟨P8, 4, none⟩ = some (.int .i64 x.c2) := blk_cell hY8
        have y5 : Y.cell? ⟨P8, 5, none⟩ = some (.slice ka' kl' kc') := blk_cell hY8
        have y6 : Y.cell? ⟨P8, 6, none⟩ = some (.int .i64 x.rate) := blk_cell hY8
        have y7 : Y.cell? ⟨P8, 7, none⟩ = some (.map mo) := blk_cell hY8
        have y8 : Y.cell? ⟨P8, 8, none⟩ = some (.slice ta tl tc) := blk_cell hY8
        have hfn : FnOf Y 85 #[] #[.pointer (some ⟨P8, 0, none⟩), .pointer (some ⟨P6, 0, none⟩)] (lateT x q) := fun t W1 ht hb1 =>
          first1_any W1 x sa' ka' ta sl' sc' kl' kc' tl tc n mo t q P8 P6 ht (by have := HL1.out; omega) (by omega) (Nat.le_trans HNX.out (Nat.le_trans hXY.size hb1.size)) ((HS.out.below HNX.out hXY).below (Nat.le_trans HNX.out hXY.size) hb1) (HDU.out q) ((hb1.block _ (Array.getElem?_eq_some_iff.1 hY0).1).trans hY0) ((hb1.block _ (Array.getElem?_eq_some_iff.1 hY8).1).trans hY8)
        have HFN := Lib.hid hfn
        have HY0 := Lib.hid hY0
        have HXY := Lib.hid hXY
        have hl6 := (Array.getElem?_eq_some_iff.1 hY0).1
        clear hfn hY0 hXY hY8
        obtain ⟨lo, hlo⟩ : ∃ lo, toldLo (lateT x q) (truths x) = lo := ⟨_, rfl⟩
        have HLO := Lib.hid hlo
        by_cases hp : 0 < lo
        · go_wp2_with fail
          (refine (told_any Y x (.slice sa' sl' sc') (.slice ka' kl' kc') (.map mo) (.slice ta tl tc) (truths x) X.heap.size 85 #[] #[.pointer (some ⟨P8, 0, none⟩), .pointer (some ⟨P6, 0, none⟩)] (lateT x q) HXY.out.size (HT.out.below (Nat.le_refl _) HXY.out) HNE.out HOK.out HFN.out (enters_of Tryd.func85 (by kernel_rfl) rfl)).mono ?_; rintro e w7 ⟨rfl, hb7⟩; rw [hlo]; have k6 : w7.cell? ⟨P6, 0, none⟩ = some (.int .i64 (q : Int)) := (hb7.cell (p := ⟨P6, 0, none⟩) hl6).trans (blk_cell HY0.out); have HB7 := Lib.hid hb7; clear hb7)
          go_wp2_with fail
          refine bodyPost_ret (results_tmp2 rfl _ _ _) rfl ⟨?_, (hBW.trans (HXY.out.mono hBW.size)).trans (HB7.out.mono (Nat.le_trans hBW.size HXY.out.size))⟩
          rw [firstS_some HASK.out (find_range (q := q) (by have := HL1.out; omega) HNO.out (by rw [HLO.out]; simpa using hp))]
          rfl
        · go_wp2_with fail
          (refine (told_any Y x (.slice sa' sl' sc') (.slice ka' kl' kc') (.map mo) (.slice ta tl tc) (truths x) X.heap.size 85 #[] #[.pointer (some ⟨P8, 0, none⟩), .pointer (some ⟨P6, 0, none⟩)] (lateT x q) HXY.out.size (HT.out.below (Nat.le_refl _) HXY.out) HNE.out HOK.out HFN.out (enters_of Tryd.func85 (by kernel_rfl) rfl)).mono ?_; rintro e w7 ⟨rfl, hb7⟩; rw [hlo]; have HB7 := Lib.hid hb7; clear hb7)
          go_wp2_with fail
          go_roundg (sl' - (q + 1))
          case measure => rw [HG2.out]; omega
          case rel => exact ⟨q + 1, by omega, rfl, by go_num, fun k hk => by
            rcases Nat.lt_or_ge k q with h | h
            · exact HNO.out k h
            · (rw [show k = q from Nat.le_antisymm (Nat.le_of_lt_succ hk) h, HLO.out]; simpa using hp), HXY.out.trans (HB7.out.mono HXY.out.size)⟩
      · go_wp2_with fail
        refine bodyPost_ret (results_tmp2 rfl _ _ _) rfl ⟨?_, hBW.trans (hbx.mono hBW.size)⟩
        rw [firstS_none HASK.out (find_range_none (fun k hk => HNO.out k (by have := HL1.out; omega)))]
        rfl
  · have HSS := Lib.hid (show firstS b = (0, E) by unfold firstS; rw [hE, if_neg hE0])
    clear hX hE
    go_wp2_with fail
    refine bodyPost_ret (results_tmp2 rfl _ _ _) rfl ⟨?_, hBW⟩
    rw [HSS.out]
    rfl
end Go.Proofs.YtbhjfojbjpbdbaaDoor

-- A22: What asked has handed back, stored in a block laid at any time ahead of the call (for Fits). Written by a session.
namespace Go.Proofs.YtbhjfojbjpbdbaaDoor
open Go.RowKit

theorem asked_at {V w2 : World} {b x : Bk} {sa sa' ka' ta : Option Addr} {n1 sc sl' sc' kl' kc' tl tc P W0 : Nat} {mo : Option Nat} {E : Int} (hb : Below V.heap.size V w2) (hP : V.heap.size ≤ P) (hw : w2.heap[P]? = some zero79) (hW : P < W0)
    (hx : E = 0 → x = b ∧ sa' = sa ∧ sl' = n1 ∧ sc' = sc ∧ SlOf w2 w2.heap.size 7 (.slice ta tl tc) (trCells (truths b)) ∧ (∀ g, (Value.slice ta tl tc).ownBlock = some g → W0 ≤ g)) :
    let X := ((((((((w2.setCell ⟨P, 0, none⟩ (.slice sa' sl' sc')).setCell ⟨P, 1, none⟩ (.int .i64 x.wth)).setCell ⟨P, 2, none⟩ (.int .i64 x.c0)).setCell ⟨P, 3, none⟩ (.int .i64 x.c1)).setCell ⟨P, 4, none⟩ (.int .i64 x.c2)).setCell
      ⟨P, 5, none⟩ (.slice ka' kl' kc')).setCell ⟨P, 6, none⟩ (.int .i64 x.rate)).setCell ⟨P, 7, none⟩ (.map mo)).setCell ⟨P, 8, none⟩ (.slice ta tl tc)
    Below V.heap.size V X ∧ V.heap.size ≤ P ∧ X.heap[P]? = some (.cells (x.cells9 (.slice sa' sl' sc') (.slice ka' kl' kc') (.map mo) (.slice ta tl tc)).toArray 79) ∧
      (E = 0 → x = b ∧ sa' = sa ∧ sl' = n1 ∧ sc' = sc ∧ SlOf X X.heap.size 7 (.slice ta tl tc) (trCells (truths b))) := by
  have hst := stored9 hw (.slice sa' sl' sc') (.int .i64 x.wth) (.int .i64 x.c0) (.int .i64 x.c1) (.int .i64 x.c2) (.slice ka' kl' kc') (.int .i64 x.rate) (.map mo) (.slice ta tl tc)
  intro X
  refine ⟨hst.below hb hP, hP, hst.cells, fun h => ?_⟩
  obtain ⟨h1, h2, h3, h4, h5, h6⟩ := hx h
  exact ⟨h1, h2, h3, h4, hst.slOf h5 (fun g o len cap e => by have := h6 g (by rw [e]; rfl); omega) (Nat.le_refl _)⟩
end Go.Proofs.YtbhjfojbjpbdbaaDoor
