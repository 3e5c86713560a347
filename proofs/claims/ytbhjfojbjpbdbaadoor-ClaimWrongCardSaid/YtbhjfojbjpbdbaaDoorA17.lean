/-
  The contracts of Owes, Pays, Blame and Weather (package claim). Written by this session; printed by wip/tools/a17.py.
-/
import Derived.Test.YtbhjfojbjpbdbaaDoorA16
import Derived.Shelf.Abstract
namespace Go.Proofs.YtbhjfojbjpbdbaaDoor
open Go.RowKit

theorem askE_zero {b : Bk} {is : Bool} (h : askE b is = 0) : bkOk b = true ∧ is = true ∧ truths b ≠ [] := by
  unfold askE at h
  split at h
  · rename_i h1
    split at h
    · rename_i h2
      split at h
      · cases h
      · rename_i h3; exact ⟨h1, h2, fun e => h3 (by rw [e]; rfl)⟩
    · cases h
  · cases h

set_option maxRecDepth 100000 in
set_option maxHeartbeats 2000000 in
theorem owes_ex (W : World) (b : Bk) (n : Nat) (sa ka : Option Addr) (n1 sc n2 kc : Nat) (hv : BookW W n sa ka n1 sc n2 kc b) (hG : Glob W) :
    Calls Tryd.prog 30 #[.agg (b.cells (.slice sa n1 sc) (.slice ka n2 kc)).toArray] W fun e W' => e = .returned (.tuple #[.agg #[.int .i64 (owesS b).1, .int .i64 (owesS b).2.1], .int .i64 (owesS b).2.2]) ∧ Below W.heap.size W W' := by
  obtain ⟨V, hV⟩ : ∃ V, (W.alloc (Obj.cells #[.slice sa n1 sc, .int .i64 b.wth, .int .i64 b.c0, .int .i64 b.c1, .int .i64 b.c2, .slice ka n2 kc, .int .i64 b.rate] 26)).alloc (.cells #[.int .i64 0, .int .i64 0] 32) = V := ⟨_, rfl⟩
  have hBV : Below W.heap.size W V := by rw [← hV]; exact ((Below.refl _ _).alloc (Nat.le_refl _) _).alloc (by simp) _
  have hb0 : V.heap[W.heap.size]? = some (Obj.cells #[.slice sa n1 sc, .int .i64 b.wth, .int .i64 b.c0, .int .i64 b.c1, .int .i64 b.c2, .slice ka n2 kc, .int .i64 b.rate] 26) := by rw [← hV]; exact (heap_alloc_old _ _ (by simp)).trans (World.alloc_heap_new _ _)
  have hVz : W.heap.size < V.heap.size := (Array.getElem?_eq_some_iff.1 hb0).1
  have HGV := Lib.hid (hG.below hG.lt hBV)
  have HVB := Lib.hid (hv.below hv.hn hBV)
  have HN := Lib.hid hv.hn
  have c0 : V.cell? ⟨W.heap.size, 0, none⟩ = some (.slice sa n1 sc) := blk_cell hb0
  have c1 : V.cell? ⟨W.heap.size, 1, none⟩ = some (.int .i64 b.wth) := blk_cell hb0
  have c2 : V.cell? ⟨W.heap.size, 2, none⟩ = some (.int .i64 b.c0) := blk_cell hb0
  have c3 : V.cell? ⟨W.heap.size, 3, none⟩ = some (.int .i64 b.c1) := blk_cell hb0
  have c4 : V.cell? ⟨W.heap.size, 4, none⟩ = some (.int .i64 b.c2) := blk_cell hb0
  have c5 : V.cell? ⟨W.heap.size, 5, none⟩ = some (.slice ka n2 kc) := blk_cell hb0
  have c6 : V.cell? ⟨W.heap.size, 6, none⟩ = some (.int .i64 b.rate) := blk_cell hb0
  have hr0 : V.heap[W.heap.size + 1]? = some (.cells #[.int .i64 0, .int .i64 0] 32) := by rw [← hV]; have := World.alloc_heap_new (W.alloc (Obj.cells #[.slice sa n1 sc, .int .i64 b.wth, .int .i64 b.c0, .int .i64 b.c1, .int .i64 b.c2, .slice ka n2 kc, .int .i64 b.rate] 26)) (.cells #[.int .i64 0, .int .i64 0] 32); rwa [World.size_alloc] at this
  have hVy : W.heap.size + 1 < V.heap.size := (Array.getElem?_eq_some_iff.1 hr0).1
  have HR0 := Lib.hid hr0
  clear hr0
  have HL1 := Lib.hid hv.l1
  clear hv hG hb0
  simp only [Bk.cells]
  go_enter Tryd.func30, Tryd.ntmps30
  go_upto_region 2 with (first
    | (go_at_call 80; refine (asked_any V b true n sa ka n1 sc n2 kc HVB.out HGV.out).mono ?_; rintro e w2 ⟨x, sa', ka', ta, sl', sc', kl', kc', tl, tc, mo, rfl, hb2, hx⟩; have HB2 := Lib.hid hb2; have HX := Lib.hid hx; clear hb2 hx; simp only [Bk.cells9])
    | fail)
  obtain ⟨hBX, _, hC, hX⟩ := asked_new (V := V) (w2 := w2) (ka' := ka') (kl' := kl') (kc' := kc') (mo := mo) (x := x) ⟨HB2.out.os, HB2.out.tape, HB2.out.output, HB2.out.size, HB2.out.block⟩ HX.out
  simp only [Bk.cells9] at hBX hC hX
  obtain ⟨X, hXe⟩ : ∃ X, w2.alloc (.cells #[.slice sa' sl' sc', .int .i64 x.wth, .int .i64 x.c0, .int .i64 x.c1, .int .i64 x.c2, .slice ka' kl' kc', .int .i64 x.rate, .map mo, .slice ta tl tc] 79) = X := ⟨_, rfl⟩
  try rw [hXe]
  rw [hXe] at hBX hC hX
  clear hXe HB2 HX
  obtain ⟨P8, hP8⟩ : ∃ P8, w2.heap.size = P8 := ⟨_, rfl⟩
  rw [hP8] at hC ⊢
  clear hP8
  obtain ⟨E, hE⟩ : ∃ E, askE b true = E := ⟨_, rfl⟩
  rw [hE] at hX ⊢
  have hBW := hBV.trans (hBX.mono hBV.size)
  have HC := Lib.hid hC
  clear c0 c1 c2 c3 c4 c5 c6 hC
  have hr : X.heap[W.heap.size + 1]? = some (.cells #[.int .i64 0, .int .i64 0] 32) := (hBX.block _ hVy).trans HR0.out
  have r0 : X.cell? ⟨W.heap.size + 1, 0, none⟩ = some (.int .i64 0) := blk_cell hr
  have r1 : X.cell? ⟨W.heap.size + 1, 1, none⟩ = some (.int .i64 0) := blk_cell hr
  have rf0 := blk_frozen hr 0
  have rf1 := blk_frozen hr 1
  have HRR := Lib.hid hr
  have hlr : W.heap.size + 1 < X.heap.size := Nat.lt_of_lt_of_le hVy hBX.size
  by_cases hE0 : E = 0
  · obtain ⟨rfl, rfl, rfl, rfl, hT⟩ := hX hE0
    have hask : askE x true = 0 := by rw [hE, hE0]
    obtain ⟨hok, _, hne⟩ := askE_zero hask
    have HT := Lib.hid hT
    have HNE := Lib.hid hne
    have HOK := Lib.hid (truths_ok (sound_of hok))
    have HSO := Lib.hid (sound_of hok)
    have HS := Lib.hid ((HVB.out.below (by have := HN.out; omega) hBX).hs)
    have HNX := Lib.hid (show n ≤ X.heap.size from Nat.le_trans HN.out hBW.size)
    have e0 : X.cell? ⟨P8, 0, none⟩ = some (.slice sa' sl' sc') := blk_cell HC.out
    have e1 : X.cell? ⟨P8, 1, none⟩ = some (.int .i64 x.wth) := blk_cell HC.out
    have e2 : X.cell? ⟨P8, 2, none⟩ = some (.int .i64 x.c0) := blk_cell HC.out
    have e3 : X.cell? ⟨P8, 3, none⟩ = some (.int .i64 x.c1) := blk_cell HC.out
    have e4 : X.cell? ⟨P8, 4, none⟩ = some (.int .i64 x.c2) := blk_cell HC.out
    have e5 : X.cell? ⟨P8, 5, none⟩ = some (.slice ka' kl' kc') := blk_cell HC.out
    have e6 : X.cell? ⟨P8, 6, none⟩ = some (.int .i64 x.rate) := blk_cell HC.out
    have e7 : X.cell? ⟨P8, 7, none⟩ = some (.map mo) := blk_cell HC.out
    have e8 : X.cell? ⟨P8, 8, none⟩ = some (.slice ta tl tc) := blk_cell HC.out
    have hfn : FnOf X 84 #[.agg #[.slice sa' sl' sc', .int .i64 x.wth, .int .i64 x.c0, .int .i64 x.c1, .int .i64 x.c2, .slice ka' kl' kc', .int .i64 x.rate, .map mo, .slice ta tl tc]] #[] (owesT x) := fun t W1 ht hb1 =>
      owes_any W1 x (.slice sa' sl' sc') (.slice ka' kl' kc') (.map mo) (.slice ta tl tc) n t (Nat.le_trans HNX.out hb1.size) (HS.out.below HNX.out hb1) (bds_of hok) ht
    have HFN := Lib.hid hfn
    have HSS := Lib.hid (show owesS x = (toldLo (owesT x) (truths x), toldHi (owesT x) (truths x), 0) by simp [owesS, spanE, hask])
    clear hX hE hT hne hask hok hfn hr
    subst hE0
    go_wp2_with fail
    refine (told_any X x (.slice sa' sl' sc') (.slice ka' kl' kc') (.map mo) (.slice ta tl tc) (truths x) X.heap.size 84 #[.agg #[.slice sa' sl' sc', .int .i64 x.wth, .int .i64 x.c0, .int .i64 x.c1, .int .i64 x.c2, .slice ka' kl' kc', .int .i64 x.rate, .map mo, .slice ta tl tc]] #[] (owesT x) (Nat.le_refl _) HT.out HNE.out HOK.out HFN.out (enters_of Tryd.func84 (by kernel_rfl) rfl)).mono ?_
    rintro e w5 ⟨rfl, hb5⟩
    have hk5 := (bcell hb5).1
    have hf5 := (bcell hb5).2
    have HB5 := Lib.hid hb5
    clear hb5
    go_wp2_with fail
    obtain ⟨k0, k1, hBZ⟩ := stored2 ((HB5.out.block _ hlr).trans HRR.out) (.int .i64 (toldLo (owesT x) (truths x))) (.int .i64 (toldHi (owesT x) (truths x))) (hBW.trans (HB5.out.mono hBW.size)) (show W.heap.size ≤ W.heap.size + 1 by omega)
    generalize (w5.setCell ⟨W.heap.size + 1, 0, none⟩ (.int .i64 (toldLo (owesT x) (truths x)))).setCell ⟨W.heap.size + 1, 1, none⟩ (.int .i64 (toldHi (owesT x) (truths x))) = Z at k0 k1 hBZ ⊢
    exact bodyPost_ret (v := .tuple #[.agg #[.int .i64 (toldLo (owesT x) (truths x)), .int .i64 (toldHi (owesT x) (truths x))], .int .i64 0]) (by simp [results, Tryd.results30, go_sem, k0, k1]) rfl ⟨by rw [HSS.out], hBZ⟩
  · have HSS := Lib.hid (show owesS b = (0, 0, E) by unfold owesS spanE; rw [hE, if_neg hE0])
    clear hX hE hr
    go_wp2_with fail
    obtain ⟨k0, k1, hBZ⟩ := stored2 HRR.out (.int .i64 0) (.int .i64 0) hBW (show W.heap.size ≤ W.heap.size + 1 by omega)
    generalize (X.setCell ⟨W.heap.size + 1, 0, none⟩ (.int .i64 0)).setCell ⟨W.heap.size + 1, 1, none⟩ (.int .i64 0) = Z at k0 k1 hBZ ⊢
    exact bodyPost_ret (v := .tuple #[.agg #[.int .i64 0, .int .i64 0], .int .i64 E]) (by simp [results, Tryd.results30, go_sem, k0, k1]) rfl ⟨by rw [HSS.out], hBZ⟩

theorem field32 : ∀ (v0 v1 : Value) (w : World), (Instr.field 32 (.agg #[v0, v1]) 0).run Tryd.prog w = .ok v0 w := by
  intro v0 v1 w
  kernel_rfl

set_option maxHeartbeats 1000000 in
theorem each_any (W : World) (s a : Int) : Calls Tryd.prog 123 #[.agg #[.int .i64 s, .int .i64 a]] W fun e W' => e = .returned (.bool (s == a)) ∧ Below W.heap.size W W' := by
  go_enter Tryd.func123, Tryd.ntmps123
  go_wp2
  go_ret
  exact ⟨by first | rfl | (apply ret_bool; simp), (Below.refl _ _).alloc (Nat.le_refl _) _⟩
set_option maxHeartbeats 1000000 in
theorem some_any (W : World) (s a : Int) : Calls Tryd.prog 125 #[.agg #[.int .i64 s, .int .i64 a]] W fun e W' => e = .returned (.bool (decide (0 < s))) ∧ Below W.heap.size W W' := by
  go_enter Tryd.func125, Tryd.ntmps125
  go_wp2
  go_ret
  exact ⟨by first | rfl | (apply ret_bool; simp), (Below.refl _ _).alloc (Nat.le_refl _) _⟩

set_option maxRecDepth 100000 in
set_option maxHeartbeats 2000000 in
theorem pays_ex (W : World) (b : Bk) (n : Nat) (sa ka : Option Addr) (n1 sc n2 kc : Nat) (hv : BookW W n sa ka n1 sc n2 kc b) (hG : Glob W) :
    Calls Tryd.prog 32 #[.agg (b.cells (.slice sa n1 sc) (.slice ka n2 kc)).toArray] W fun e W' => e = .returned (.tuple #[.int .i64 (paysS b).1, .int .i64 (paysS b).2]) ∧ Below W.heap.size W W' := by
  obtain ⟨V, hV⟩ : ∃ V, W.alloc (Obj.cells #[.slice sa n1 sc, .int .i64 b.wth, .int .i64 b.c0, .int .i64 b.c1, .int .i64 b.c2, .slice ka n2 kc, .int .i64 b.rate] 26) = V := ⟨_, rfl⟩
  have hBV : Below W.heap.size W V := by rw [← hV]; exact (Below.refl _ _).alloc (Nat.le_refl _) _
  have hb0 : V.heap[W.heap.size]? = some (Obj.cells #[.slice sa n1 sc, .int .i64 b.wth, .int .i64 b.c0, .int .i64 b.c1, .int .i64 b.c2, .slice ka n2 kc, .int .i64 b.rate] 26) := by rw [← hV]; exact World.alloc_heap_new _ _
  have hVz : W.heap.size < V.heap.size := (Array.getElem?_eq_some_iff.1 hb0).1
  have HGV := Lib.hid (hG.below hG.lt hBV)
  have HVB := Lib.hid (hv.below hv.hn hBV)
  have HN := Lib.hid hv.hn
  have c0 : V.cell? ⟨W.heap.size, 0, none⟩ = some (.slice sa n1 sc) := blk_cell hb0
  have c1 : V.cell? ⟨W.heap.size, 1, none⟩ = some (.int .i64 b.wth) := blk_cell hb0
  have c2 : V.cell? ⟨W.heap.size, 2, none⟩ = some (.int .i64 b.c0) := blk_cell hb0
  have c3 : V.cell? ⟨W.heap.size, 3, none⟩ = some (.int .i64 b.c1) := blk_cell hb0
  have c4 : V.cell? ⟨W.heap.size, 4, none⟩ = some (.int .i64 b.c2) := blk_cell hb0
  have c5 : V.cell? ⟨W.heap.size, 5, none⟩ = some (.slice ka n2 kc) := blk_cell hb0
  have c6 : V.cell? ⟨W.heap.size, 6, none⟩ = some (.int .i64 b.rate) := blk_cell hb0
  have HL1 := Lib.hid hv.l1
  clear hv hG hb0
  simp only [Bk.cells]
  go_enter Tryd.func32, Tryd.ntmps32
  go_upto_region 2 with (first
    | (go_at_call 80; refine (asked_any V b true n sa ka n1 sc n2 kc HVB.out HGV.out).mono ?_; rintro e w2 ⟨x, sa', ka', ta, sl', sc', kl', kc', tl, tc, mo, rfl, hb2, hx⟩; have HB2 := Lib.hid hb2; have HX := Lib.hid hx; clear hb2 hx; simp only [Bk.cells9])
    | fail)
  obtain ⟨hBX, _, hC, hX⟩ := asked_new (V := V) (w2 := w2) (ka' := ka') (kl' := kl') (kc' := kc') (mo := mo) (x := x) ⟨HB2.out.os, HB2.out.tape, HB2.out.output, HB2.out.size, HB2.out.block⟩ HX.out
  simp only [Bk.cells9] at hBX hC hX
  obtain ⟨X, hXe⟩ : ∃ X, w2.alloc (.cells #[.slice sa' sl' sc', .int .i64 x.wth, .int .i64 x.c0, .int .i64 x.c1, .int .i64 x.c2, .slice ka' kl' kc', .int .i64 x.rate, .map mo, .slice ta tl tc] 79) = X := ⟨_, rfl⟩
  try rw [hXe]
  rw [hXe] at hBX hC hX
  clear hXe HB2 HX
  obtain ⟨P8, hP8⟩ : ∃ P8, w2.heap.size = P8 := ⟨_, rfl⟩
  rw [hP8] at hC ⊢
  clear hP8
  obtain ⟨E, hE⟩ : ∃ E, askE b true = E := ⟨_, rfl⟩
  rw [hE] at hX ⊢
  have hBW := hBV.trans (hBX.mono hBV.size)
  have HC := Lib.hid hC
  clear c0 c1 c2 c3 c4 c5 c6 hC
  have HGX := Lib.hid (HGV.out.below HGV.out.lt hBX)
  by_cases hE0 : E = 0
  · obtain ⟨rfl, rfl, rfl, rfl, hT⟩ := hX hE0
    have hask : askE x true = 0 := by rw [hE, hE0]
    obtain ⟨hok, _, hne⟩ := askE_zero hask
    have HT := Lib.hid hT
    have HNE := Lib.hid hne
    have HOK := Lib.hid (truths_ok (sound_of hok))
    have HSO := Lib.hid (sound_of hok)
    have HS := Lib.hid ((HVB.out.below (by have := HN.out; omega) hBX).hs)
    have HNX := Lib.hid (show n ≤ X.heap.size from Nat.le_trans HN.out hBW.size)
    have e0 : X.cell? ⟨P8, 0, none⟩ = some (.slice sa' sl' sc') := blk_cell HC.out
    have e1 : X.cell? ⟨P8, 1, none⟩ = some (.int .i64 x.wth) := blk_cell HC.out
    have e2 : X.cell? ⟨P8, 2, none⟩ = some (.int .i64 x.c0) := blk_cell HC.out
    have e3 : X.cell? ⟨P8, 3, none⟩ = some (.int .i64 x.c1) := blk_cell HC.out
    have e4 : X.cell? ⟨P8, 4, none⟩ = some (.int .i64 x.c2) := blk_cell HC.out
    have e5 : X.cell? ⟨P8, 5, none⟩ = some (.slice ka' kl' kc') := blk_cell HC.out
    have e6 : X.cell? ⟨P8, 6, none⟩ = some (.int .i64 x.rate) := blk_cell HC.out
    have e7 : X.cell? ⟨P8, 7, none⟩ = some (.map mo) := blk_cell HC.out
    have e8 : X.cell? ⟨P8, 8, none⟩ = some (.slice ta tl tc) := blk_cell HC.out
    have hfn : ∀ W5, Below X.heap.size X W5 → FnOf W5 84 #[.agg #[.slice sa' sl' sc', .int .i64 x.wth, .int .i64 x.c0, .int .i64 x.c1, .int .i64 x.c2, .slice ka' kl' kc', .int .i64 x.rate, .map mo, .slice ta tl tc]] #[] (owesT x) := fun W5 h5 t W1 ht hb1 =>
      owes_any W1 x (.slice sa' sl' sc') (.slice ka' kl' kc') (.map mo) (.slice ta tl tc) n t (Nat.le_trans HNX.out (Nat.le_trans h5.size hb1.size)) ((HS.out.below HNX.out h5).below (Nat.le_trans HNX.out h5.size) hb1) (bds_of hok) ht
    have HFN := Lib.hid hfn
    have HBD := Lib.hid (bds_of hok)
    have HSS := Lib.hid (show paysS x = (if blames x = (truths x).length then toldLo (owesT x) (truths x) else 0, 0) by simp [paysS, hask])
    have kk : X.cell? ⟨0, 1, none⟩ = some (.func (.func 123) #[] #[]) := HGX.out.k1
    have l0 : 0 < X.heap.size := by have := HGX.out.lt; omega
    have l8 : P8 < X.heap.size := (Array.getElem?_eq_some_iff.1 HC.out).1
    clear hX hE hT hne hask hfn hok
    subst hE0
    have HDN := Lib.hid (show X.heap.size ≤ X.drew.heap.size from Nat.le_refl _)
    have HDS := Lib.hid ((HS.out.mono HNX.out).below (Nat.le_refl _) (Below.refl X.heap.size X).drew)
    have HDT := Lib.hid (HT.out.below (Nat.le_refl _) (Below.refl X.heap.size X).drew)
    by_cases hbl : blames x = (truths x).length
    · have hq : (((truths x).countP (blamed x) : Nat) : Int) = (((truths x).length : Nat) : Int) := by unfold blames at hbl; omega
      have HSS2 := Lib.hid (show paysS x = (toldLo (owesT x) (truths x), 0) by rw [HSS.out, if_pos hbl])
      clear hbl
      go_upto_region 4 with fail
      go_region_with (first
        | (go_at_call 81; refine (blame_any _ x (.slice sa' sl' sc') (.slice ka' kl' kc') (.map mo) (.slice ta tl tc) (truths x) X.heap.size HDN.out HDS.out HBD.out HDT.out HOK.out).mono ?_; rintro e w5 ⟨rfl, hb5⟩; have kk5 : w5.cell? ⟨0, 1, none⟩ = some (.func (.func 123) #[] #[]) := (hb5.cell (p := ⟨0, 1, none⟩) l0).trans kk; have HB5 := Lib.hid hb5; clear hb5)
        | (go_at_call 123; refine (each_any _ _ _).mono ?_; rintro e w6 ⟨rfl, hb6⟩; have HB6 := Lib.hid hb6; clear hb6))
      all_goals (
        have h6 : Below X.heap.size X w6 := (((Below.refl X.heap.size X).drew).trans HB5.out).trans (HB6.out.mono HB5.out.size)
        have g0 := (h6.cell (p := ⟨P8, 0, none⟩) l8).trans e0
        have g1 := (h6.cell (p := ⟨P8, 1, none⟩) l8).trans e1
        have g2 := (h6.cell (p := ⟨P8, 2, none⟩) l8).trans e2
        have g3 := (h6.cell (p := ⟨P8, 3, none⟩) l8).trans e3
        have g4 := (h6.cell (p := ⟨P8, 4, none⟩) l8).trans e4
        have g5 := (h6.cell (p := ⟨P8, 5, none⟩) l8).trans e5
        have g6 := (h6.cell (p := ⟨P8, 6, none⟩) l8).trans e6
        have g7 := (h6.cell (p := ⟨P8, 7, none⟩) l8).trans e7
        have g8 := (h6.cell (p := ⟨P8, 8, none⟩) l8).trans e8
        have H6 := Lib.hid h6
        have HFN6 := Lib.hid (HFN.out w6 h6)
        clear h6
        go_wp2_with fail
        refine (told_any w6 x (.slice sa' sl' sc') (.slice ka' kl' kc') (.map mo) (.slice ta tl tc) (truths x) X.heap.size 84 #[.agg #[.slice sa' sl' sc', .int .i64 x.wth, .int .i64 x.c0, .int .i64 x.c1, .int .i64 x.c2, .slice ka' kl' kc', .int .i64 x.rate, .map mo, .slice ta tl tc]] #[] (owesT x) H6.out.size (HT.out.below (Nat.le_refl _) H6.out) HNE.out HOK.out HFN6.out (enters_of Tryd.func84 (by kernel_rfl) rfl)).mono ?_
        rintro e w7 ⟨rfl, hb7⟩
        have HB7 := Lib.hid hb7
        have hfld := field32
        clear hb7
        go_wp2_with fail
        refine bodyPost_ret (results_tmp2 rfl _ _ _) rfl ⟨?_, (hBW.trans (H6.out.mono hBW.size)).trans (HB7.out.mono (Nat.le_trans hBW.size H6.out.size))⟩
        rw [HSS2.out]
        rfl)
    · have hq : ((((truths x).countP (blamed x) : Nat) : Int) == (((truths x).length : Nat) : Int)) = false := by unfold blames at hbl; simp; omega
      have hq2 : ¬ (((truths x).countP (blamed x) : Nat) : Int) = (((truths x).length : Nat) : Int) := by unfold blames at hbl; omega
      have hq3 : ¬ (truths x).countP (blamed x) = (truths x).length := by unfold blames at hbl; omega
      have HSS2 := Lib.hid (show paysS x = (0, 0) by rw [HSS.out, if_neg hbl])
      clear hbl
      go_upto_region 4 with fail
      go_region_with (first
        | (go_at_call 81; refine (blame_any _ x (.slice sa' sl' sc') (.slice ka' kl' kc') (.map mo) (.slice ta tl tc) (truths x) X.heap.size HDN.out HDS.out HBD.out HDT.out HOK.out).mono ?_; rintro e w5 ⟨rfl, hb5⟩; have kk5 : w5.cell? ⟨0, 1, none⟩ = some (.func (.func 123) #[] #[]) := (hb5.cell (p := ⟨0, 1, none⟩) l0).trans kk; have HB5 := Lib.hid hb5; clear hb5)
        | (go_at_call 123; refine (each_any _ _ _).mono ?_; rintro e w6 ⟨rfl, hb6⟩; have HB6 := Lib.hid hb6; clear hb6))
      all_goals (
        have h6 : Below X.heap.size X w6 := (((Below.refl X.heap.size X).drew).trans HB5.out).trans (HB6.out.mono HB5.out.size)
        have H6 := Lib.hid h6
        clear h6
        go_wp2_with fail
        refine bodyPost_ret (results_tmp2 rfl _ _ _) rfl ⟨?_, hBW.trans (H6.out.mono hBW.size)⟩
        rw [HSS2.out]
        rfl)
  · have HSS := Lib.hid (show paysS b = (0, E) by unfold paysS; rw [hE, if_neg hE0])
    clear hX hE
    go_wp2_with fail
    refine bodyPost_ret (results_tmp2 rfl _ _ _) rfl ⟨?_, hBW⟩
    rw [HSS.out]
    rfl

end Go.Proofs.YtbhjfojbjpbdbaaDoor
