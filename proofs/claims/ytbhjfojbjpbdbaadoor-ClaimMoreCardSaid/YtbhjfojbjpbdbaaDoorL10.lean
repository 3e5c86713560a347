/-
  ClaimFirst walked: it answers true. Written by this session; printed by wip/tools/l10.py.
-/
import Derived.Test.YtbhjfojbjpbdbaaDoorA28
import Derived.Test.YtbhjfojbjpbdbaaDoorA29
import Derived.Test.YtbhjfojbjpbdbaaDoorK7
namespace Go.Proofs.YtbhjfojbjpbdbaaDoor
open Go.RowKit

theorem wrap_at (n : Int) {m : Nat} (hm : 0 < m) : ∃ k : Nat, wrapS n m = (k : Int) ∧ k < m := by
  have h1 := Int.emod_nonneg n (show (m : Int) ≠ 0 by omega)
  have h2 := Int.emod_lt_of_pos n (show (0 : Int) < m by omega)
  refine ⟨(n % m).toNat, ?_, by omega⟩
  unfold wrapS
  rw [if_neg (by omega)]
  omega

set_option maxRecDepth 100000 in
set_option maxHeartbeats 4000000 in
theorem first_walk (W : World) (m : Int) (b : Bk) (n : Nat) (sa ka : Option Addr) (n1 sc n2 kc : Nat) (hv : BookW W n sa ka n1 sc n2 kc b) (hG : Glob W) :
    Calls Tryd.prog 10 #[.agg (b.cells (.slice sa n1 sc) (.slice ka n2 kc)).toArray, .int .i64 m] W fun e W' => e = .returned (.bool true) ∧ Below W.heap.size W W' := by
  obtain ⟨V, hV⟩ : ∃ V, W.alloc (Obj.cells #[.slice sa n1 sc, .int .i64 b.wth, .int .i64 b.c0, .int .i64 b.c1, .int .i64 b.c2, .slice ka n2 kc, .int .i64 b.rate] 26) = V := ⟨_, rfl⟩
  have hBV : Below W.heap.size W V := by rw [← hV]; exact (Below.refl _ _).alloc (Nat.le_refl _) _
  have hb0 : V.heap[W.heap.size]? = some (Obj.cells #[.slice sa n1 sc, .int .i64 b.wth, .int .i64 b.c0, .int .i64 b.c1, .int .i64 b.c2, .slice ka n2 kc, .int .i64 b.rate] 26) := by rw [← hV]; exact World.alloc_heap_new _ _
  have hVz : W.heap.size < V.heap.size := (Array.getElem?_eq_some_iff.1 hb0).1
  have HGV := Lib.hid (hG.below hG.lt hBV)
  have HVB := Lib.hid (hv.below hv.hn hBV)
  have HN := Lib.hid hv.hn
  have c0 : V.cell? ⟨W.heap.size, 0, none⟩ = some (.slice sa n1 sc) := blk_cell hb0
  have c1 : V.cell? ⟨W.heap.size, 1, none⟩ = some (.int .i64 b.wth) := blk_cell hb0
  have c2 : V.cell? ⟨W.heap.size, 2, none⟩ = some (.int .i64 b.c0) := blk_cell hb0
  have c3 : V.cell? ⟨W.heap.size, 3, none⟩ = some (.int .i64 b.c1) := blk_cell hb0
  have c4 : V.cell? ⟨W.heap.size, 4, none⟩ = some (.int .i64 b.c2) := blk_cell hb0
  have c5 : V.cell? ⟨W.heap.size, 5, none⟩ = some (.slice ka n2 kc) := blk_cell hb0
  have c6 : V.cell? ⟨W.heap.size, 6, none⟩ = some (.int .i64 b.rate) := blk_cell hb0
  have HB0 := Lib.hid hb0
  have BZ := Lib.hid (show ∀ w, Below V.heap.size V w → BookW w n sa ka n1 sc n2 kc b from fun w h => HVB.out.below HVB.out.hn h)
  have GZ := Lib.hid (show ∀ w, Below V.heap.size V w → Glob w from fun w h => HGV.out.below HGV.out.lt h)
  have HX := Lib.hid (Below.refl V.heap.size V)
  have hn1 : n1 ≤ 9223372036854775807 := by obtain ⟨_, _, e, h1, h2, _⟩ := hv.hs; injection e with _ e2 _; unfold maxLen at h2; omega
  have HL1 := Lib.hid hv.l1
  have HL2 := Lib.hid hv.l2
  clear hb0 hv hG
  simp only [Bk.cells]
  by_cases hok : bkOk b = true
  rotate_left
  · have hok' : bkOk b = false := by simpa using hok
    have HF := Lib.hid (firstS_bad hok')
    have HS := Lib.hid hok'
    clear hok hok'
    go_enter Tryd.func10, Tryd.ntmps10
    go_upto_region 1 with fail
    try rw [hV]
    clear hV
    go_wp2_with (first
      | (go_at_call 34; refine (first_ex _ b n _ _ _ _ _ _ (BZ.out _ (by first | exact HX.out | exact HX.out.alloc HX.out.size _)) (GZ.out _ (by first | exact HX.out | exact HX.out.alloc HX.out.size _))).mono ?_; rintro e w1 ⟨rfl, hb⟩; rw [HF.out]; have HX := Lib.hid (show Below V.heap.size V w1 from by first | exact HX.out.trans (hb.mono HX.out.size) | exact (HX.out.alloc HX.out.size _).trans (hb.mono (HX.out.alloc HX.out.size _).size)); have hk := (bcell HX.out).1; have hlt := Nat.lt_of_lt_of_le hVz HX.out.size; have HBE := Lib.hid hb; clear hb)
      | (go_at_call 41; refine (sound_any _ b n _ _ _ _ _ _ (BZ.out _ (by first | exact HX.out | exact HX.out.alloc HX.out.size _))).mono ?_; rintro e ws ⟨rfl, hb⟩; rw [HS.out]; have HX := Lib.hid (show Below V.heap.size V ws from by first | exact HX.out.trans (hb.mono HX.out.size) | exact (HX.out.alloc HX.out.size _).trans (hb.mono (HX.out.alloc HX.out.size _).size)); have hk := (bcell HX.out).1; have hlt := Nat.lt_of_lt_of_le hVz HX.out.size; have HBE := Lib.hid hb; clear hb)
      | (go_at_call 25; refine (billed_any _ (GZ.out _ (by first | exact HX.out | exact HX.out.alloc HX.out.size _))).mono ?_; rintro e wz ⟨rfl, hb⟩; have HX := Lib.hid (show Below V.heap.size V wz from by first | exact HX.out.trans (hb.mono HX.out.size) | exact (HX.out.alloc HX.out.size _).trans (hb.mono (HX.out.alloc HX.out.size _).size)); have hk := (bcell HX.out).1; have hlt := Nat.lt_of_lt_of_le hVz HX.out.size; have HBE := Lib.hid hb; clear hb)
      | fail)
    go_ret
    exact ⟨rfl, hBV.trans (HX.out.mono hBV.size)⟩
  · have HF := Lib.hid hok
    have h13 := (bkOk_head hok).1
    obtain ⟨k, hkw, hk1⟩ := wrap_at m (show 0 < n1 by have := HL1.out; omega)
    have HKW := Lib.hid hkw
    have HK1 := Lib.hid hk1
    have hkn : k < b.sts.length := by have := HL1.out; omega
    clear hkw
    by_cases hT : truths b = []
    · have F1 := Lib.hid (firstS_false hok hT)
      have F2 := Lib.hid (show lateS b k = (0, 0, 62) from spanE_false hok hT (isStage_in hkn))
      have F3 := Lib.hid (show comesS b k = (0, 0, 62) from spanE_false hok hT (isStage_in hkn))
      clear hok hT hkn h13 hk1
      go_enter Tryd.func10, Tryd.ntmps10
      go_upto_region 1 with fail
      try rw [hV]
      clear hV
      go_wp2_with (first
        | (go_at_call 34; refine (first_ex _ b n _ _ _ _ _ _ (BZ.out _ (by first | exact HX.out | exact HX.out.alloc HX.out.size _)) (GZ.out _ (by first | exact HX.out | exact HX.out.alloc HX.out.size _))).mono ?_; rintro e w1 ⟨rfl, hb⟩; rw [F1.out]; have HX := Lib.hid (show Below V.heap.size V w1 from by first | exact HX.out.trans (hb.mono HX.out.size) | exact (HX.out.alloc HX.out.size _).trans (hb.mono (HX.out.alloc HX.out.size _).size)); have hk := (bcell HX.out).1; have hlt := Nat.lt_of_lt_of_le hVz HX.out.size; have HBE := Lib.hid hb; clear hb)
        | (go_at_call 41; refine (sound_any _ b n _ _ _ _ _ _ (BZ.out _ (by first | exact HX.out | exact HX.out.alloc HX.out.size _))).mono ?_; rintro e ws ⟨rfl, hb⟩; rw [HF.out]; have HX := Lib.hid (show Below V.heap.size V ws from by first | exact HX.out.trans (hb.mono HX.out.size) | exact (HX.out.alloc HX.out.size _).trans (hb.mono (HX.out.alloc HX.out.size _).size)); have hk := (bcell HX.out).1; have hlt := Nat.lt_of_lt_of_le hVz HX.out.size; have HBE := Lib.hid hb; clear hb)
        | (go_at_call 48; refine (wrap_any _ _ (by omega) _).mono ?_; rintro e ww ⟨rfl, rfl⟩; rw [HKW.out])
        | (go_at_call 21; refine (late_ex _ b _ n _ _ _ _ _ _ (BZ.out _ (by first | exact HX.out | exact HX.out.alloc HX.out.size _)) (GZ.out _ (by first | exact HX.out | exact HX.out.alloc HX.out.size _))).mono ?_; rintro e w1 ⟨rfl, hb⟩; rw [F2.out]; have HX := Lib.hid (show Below V.heap.size V w1 from by first | exact HX.out.trans (hb.mono HX.out.size) | exact (HX.out.alloc HX.out.size _).trans (hb.mono (HX.out.alloc HX.out.size _).size)); have hk := (bcell HX.out).1; have hlt := Nat.lt_of_lt_of_le hVz HX.out.size; have HBE := Lib.hid hb; clear hb)
        | (go_at_call 19; refine (comes_ex _ b _ n _ _ _ _ _ _ (BZ.out _ (by first | exact HX.out | exact HX.out.alloc HX.out.size _)) (GZ.out _ (by first | exact HX.out | exact HX.out.alloc HX.out.size _))).mono ?_; rintro e w1 ⟨rfl, hb⟩; rw [F3.out]; have HX := Lib.hid (show Below V.heap.size V w1 from by first | exact HX.out.trans (hb.mono HX.out.size) | exact (HX.out.alloc HX.out.size _).trans (hb.mono (HX.out.alloc HX.out.size _).size)); have hk := (bcell HX.out).1; have hlt := Nat.lt_of_lt_of_le hVz HX.out.size; have HBE := Lib.hid hb; clear hb)
        | (go_at_call 25; refine (billed_any _ (GZ.out _ (by first | exact HX.out | exact HX.out.alloc HX.out.size _))).mono ?_; rintro e wz ⟨rfl, hb⟩; have HX := Lib.hid (show Below V.heap.size V wz from by first | exact HX.out.trans (hb.mono HX.out.size) | exact (HX.out.alloc HX.out.size _).trans (hb.mono (HX.out.alloc HX.out.size _).size)); have hk := (bcell HX.out).1; have hlt := Nat.lt_of_lt_of_le hVz HX.out.size; have HBE := Lib.hid hb; clear hb)
        | fail)
      go_ret
      exact ⟨rfl, hBV.trans (HX.out.mono hBV.size)⟩
    · obtain ⟨lo, hi, hle, hbd, hco, hla, hfi⟩ := first_law hok hT hkn
      obtain ⟨x, hx⟩ : ∃ x, b.sts[k]? = some x := ⟨_, List.getElem?_eq_getElem hkn⟩
      have hdue : b.due k = x.due := by simp [Bk.due, hx]
      have hxd := (bkOk_sts hok x (List.mem_of_getElem? hx)).1
      rw [hdue] at hla hfi
      obtain ⟨sl, hsl⟩ : ∃ sl, max 0 (lo - x.due) = sl := ⟨_, rfl⟩
      obtain ⟨sh, hsh⟩ : ∃ sh, max 0 (hi - x.due) = sh := ⟨_, rfl⟩
      rw [hsl, hsh] at hla
      rw [hsl] at hfi
      have MX1 := Lib.hid (show Value.int .i64 (if x.due < lo then lo - x.due else 0) = Value.int .i64 sl by rw [← hsl]; congr 1; omega)
      have MX2 := Lib.hid (show Value.int .i64 (if x.due < hi then hi - x.due else 0) = Value.int .i64 sh by rw [← hsh]; congr 1; omega)
      have hw1 : IntKind.i64.wrap (lo - x.due) = lo - x.due := IntWalk.i64_in _ (by omega)
      have hw2 : IntKind.i64.wrap (hi - x.due) = hi - x.due := IntWalk.i64_in _ (by omega)
      have hwn : IntKind.i64.wrap ((n1 : Int) - 1) = (n1 : Int) - 1 := IntWalk.i64_in _ (by omega)
      obtain ⟨f, fe, hf, hc⟩ : ∃ f fe : Int, firstS b = (f, fe) ∧ ((f = 0 ∧ fe = 4 ∧ sl = 0) ∨ (∃ q : Nat, q < n1 ∧ f = (q : Int) ∧ fe = 0 ∧ (sl = 0 ∨ q ≤ k) ∧ (k ≠ q ∨ 0 < sl))) := by
        rcases hfi with ⟨e, h0⟩ | ⟨q, hq, e, h1, h2⟩
        · exact ⟨0, 4, e, .inl ⟨rfl, rfl, h0⟩⟩
        · exact ⟨q, 0, e, .inr ⟨q, by have := HL1.out; omega, rfl, rfl, h1, h2⟩⟩
      obtain ⟨_, cap, e, hs1, hs2, hs3, hs4⟩ := (BZ.out _ (Below.refl _ V)).hs
      injection e with e1 e2 e3
      subst e1
      clear e2 e3
      obtain ⟨g, o, hsa, hg, hcs⟩ := sl_at hs4 (show (stCells b.sts)[k]? = some x.cells by simp [stCells, hx])
      subst hsa
      have r0 : V.cell? ⟨g, o + k * 7, none⟩ = some (.int .i64 x.due) := hcs 0 _ rfl
      have hgV : g < V.heap.size := Nat.lt_of_lt_of_le hg (BZ.out _ (Below.refl _ V)).hn
      have hki : (k : Int) < (n1 : Int) := by omega
      have F1 := Lib.hid hf
      have F2 := Lib.hid (show lateS b k = (sl, sh, 0) from hla)
      have F3 := Lib.hid (show comesS b k = (lo, hi, 0) from hco)
      have HC := Lib.hid hc
      have hsl0 : 0 ≤ sl := hsl ▸ Int.le_max_left 0 _
      clear hok hT hkn h13 hle hbd hco hla hfi hx hdue hxd hsl hsh hf hc hcs hs1 hs2 hs3 hs4
      go_enter Tryd.func10, Tryd.ntmps10
      go_upto_region 1 with fail
      try rw [hV]
      clear hV
      go_upto_region 6 with (first
        | (go_at_call 34; refine (first_ex _ b n _ _ _ _ _ _ (BZ.out _ (by first | exact HX.out | exact HX.out.alloc HX.out.size _)) (GZ.out _ (by first | exact HX.out | exact HX.out.alloc HX.out.size _))).mono ?_; rintro e w1 ⟨rfl, hb⟩; rw [F1.out]; have HX := Lib.hid (show Below V.heap.size V w1 from by first | exact HX.out.trans (hb.mono HX.out.size) | exact (HX.out.alloc HX.out.size _).trans (hb.mono (HX.out.alloc HX.out.size _).size)); have hk := (bcell HX.out).1; have hlt := Nat.lt_of_lt_of_le hVz HX.out.size; have HBE := Lib.hid hb; clear hb)
        | (go_at_call 41; refine (sound_any _ b n _ _ _ _ _ _ (BZ.out _ (by first | exact HX.out | exact HX.out.alloc HX.out.size _))).mono ?_; rintro e ws ⟨rfl, hb⟩; rw [HF.out]; have HX := Lib.hid (show Below V.heap.size V ws from by first | exact HX.out.trans (hb.mono HX.out.size) | exact (HX.out.alloc HX.out.size _).trans (hb.mono (HX.out.alloc HX.out.size _).size)); have hk := (bcell HX.out).1; have hlt := Nat.lt_of_lt_of_le hVz HX.out.size; have HBE := Lib.hid hb; clear hb)
        | (go_at_call 48; refine (wrap_any _ _ (by omega) _).mono ?_; rintro e ww ⟨rfl, rfl⟩; rw [HKW.out])
        | (go_at_call 21; refine (late_ex _ b _ n _ _ _ _ _ _ (BZ.out _ (by first | exact HX.out | exact HX.out.alloc HX.out.size _)) (GZ.out _ (by first | exact HX.out | exact HX.out.alloc HX.out.size _))).mono ?_; rintro e w5 ⟨rfl, hb⟩; rw [F2.out]; have HX := Lib.hid (show Below V.heap.size V w5 from by first | exact HX.out.trans (hb.mono HX.out.size) | exact (HX.out.alloc HX.out.size _).trans (hb.mono (HX.out.alloc HX.out.size _).size)); have hk := (bcell HX.out).1; have hlt := Nat.lt_of_lt_of_le hVz HX.out.size; have HBE := Lib.hid hb; clear hb)
        | fail)
      obtain ⟨X5, hX⟩ : ∃ X, w5.alloc (.cells #[.int .i64 sl, .int .i64 sh] 32) = X := ⟨_, rfl⟩
      have hq : X5.heap[w5.heap.size]? = some (.cells #[.int .i64 sl, .int .i64 sh] 32) := by rw [← hX]; exact World.alloc_heap_new _ _
      have hbx : Below V.heap.size V X5 := by rw [← hX]; exact HX.out.alloc HX.out.size _
      have hbk : Below w5.heap.size w5 X5 := by rw [← hX]; exact (Below.refl _ _).alloc (Nat.le_refl _) _
      have hvp : V.heap.size ≤ w5.heap.size := HX.out.size
      rw [hX]
      clear hX
      obtain ⟨P5, hP⟩ : ∃ P, w5.heap.size = P := ⟨_, rfl⟩
      rw [hP] at hq hvp ⊢
      clear hP
      have HQ5 := Lib.hid hq
      have HVP5 := Lib.hid hvp
      have HBK5 := Lib.hid hbk
      clear hq hvp hbk hk
      have HX := Lib.hid hbx
      have hk := (bcell hbx).1
      clear hbx
      go_upto_region 7 with (first
        | (go_at_call 19; refine (comes_ex _ b _ n _ _ _ _ _ _ (BZ.out _ (by first | exact HX.out | exact HX.out.alloc HX.out.size _)) (GZ.out _ (by first | exact HX.out | exact HX.out.alloc HX.out.size _))).mono ?_; rintro e w6 ⟨rfl, hb⟩; rw [F3.out]; have HX := Lib.hid (show Below V.heap.size V w6 from by first | exact HX.out.trans (hb.mono HX.out.size) | exact (HX.out.alloc HX.out.size _).trans (hb.mono (HX.out.alloc HX.out.size _).size)); have hk := (bcell HX.out).1; have hlt := Nat.lt_of_lt_of_le hVz HX.out.size; have HBE := Lib.hid hb; clear hb)
        | fail)
      obtain ⟨X6, hX⟩ : ∃ X, w6.alloc (.cells #[.int .i64 lo, .int .i64 hi] 32) = X := ⟨_, rfl⟩
      have hq : X6.heap[w6.heap.size]? = some (.cells #[.int .i64 lo, .int .i64 hi] 32) := by rw [← hX]; exact World.alloc_heap_new _ _
      have hbx : Below V.heap.size V X6 := by rw [← hX]; exact HX.out.alloc HX.out.size _
      have hbk : Below w6.heap.size w6 X6 := by rw [← hX]; exact (Below.refl _ _).alloc (Nat.le_refl _) _
      have hvp : V.heap.size ≤ w6.heap.size := HX.out.size
      rw [hX]
      clear hX
      obtain ⟨P6, hP⟩ : ∃ P, w6.heap.size = P := ⟨_, rfl⟩
      rw [hP] at hq hvp ⊢
      clear hP
      have HQ6 := Lib.hid hq
      have HVP6 := Lib.hid hvp
      have HBK6 := Lib.hid hbk
      clear hq hvp hbk hk
      have HX := Lib.hid hbx
      have hk := (bcell hbx).1
      clear hbx
      have hb56 := HBE.out.trans (HBK6.out.mono HBE.out.size)
      have hq5 := (hb56.block P5 (Array.getElem?_eq_some_iff.1 HQ5.out).1).trans HQ5.out
      have p50 : X6.cell? ⟨P5, 0, none⟩ = some (.int .i64 sl) := blk_cell hq5
      have p51 : X6.cell? ⟨P5, 1, none⟩ = some (.int .i64 sh) := blk_cell hq5
      have p60 : X6.cell? ⟨P6, 0, none⟩ = some (.int .i64 lo) := blk_cell HQ6.out
      have p61 : X6.cell? ⟨P6, 1, none⟩ = some (.int .i64 hi) := blk_cell HQ6.out
      have l5 : P5 < X6.heap.size := (Array.getElem?_eq_some_iff.1 hq5).1
      have l6 : P6 < X6.heap.size := (Array.getElem?_eq_some_iff.1 HQ6.out).1
      have lg : g < X6.heap.size := Nat.lt_of_lt_of_le hgV HX.out.size
      have rX : X6.cell? ⟨g, o + k * 7, none⟩ = some (.int .i64 x.due) := (HX.out.cell (p := ⟨g, o + k * 7, none⟩) hgV).trans r0
      have cX : X6.cell? ⟨W.heap.size, 0, none⟩ = some (.slice (some ⟨g, o, none⟩) n1 sc) := (HX.out.cell (p := ⟨W.heap.size, 0, none⟩) hVz).trans c0
      have lw : W.heap.size < X6.heap.size := Nat.lt_of_lt_of_le hVz HX.out.size
      have HHK := Lib.hid hk
      clear hb56 hq5 hk
      go_upto_region 10 with fail
      refine wp_region_det (S := fun _ w' => (∀ b o, b < X6.heap.size → w'.cell? ⟨b, o, none⟩ = X6.cell? ⟨b, o, none⟩) ∧ Below X6.heap.size X6 w') (by kernel_rfl) (by kernel_rfl) (hs0 X6) ?_
      repeat
        apply det_cons
        · refine ⟨by rfl, fun L w hN hS => ?_⟩
          obtain ⟨hcc, hu⟩ := hS
          go_simp
          first
            | exact ⟨MX1.out, fun _ _ _ => ⟨hcc, hu⟩⟩
            | exact ⟨MX2.out, fun _ _ _ => ⟨hcc, hu⟩⟩
            | exact ⟨rfl, fun _ _ _ => ⟨hcc, hu⟩⟩
            | (refine (reach_any _ _ _).mono ?_; rintro e w' ⟨rfl, hbb⟩; exact ⟨rfl, fun _ _ _ => hs1 hbb ⟨hcc, hu⟩⟩)
        try simp only [Act.put, List.setIfInBounds_toArray, List.set_cons_zero, List.set_cons_succ]
      refine det_nil ?_
      rintro L w9 hL ⟨hcc, hu⟩
      have HX := Lib.hid (HX.out.trans (hu.mono HX.out.size))
      have HU := Lib.hid hu
      clear hL hu
      rcases HC.out with ⟨rfl, rfl, rfl⟩ | ⟨q, hq, rfl, rfl, h1, h2⟩
      · go_wp2_with (first
          | (go_at_call 45; refine (amid_any _ _ _ _).mono ?_; rintro e w2 ⟨rfl, rfl⟩; rw [FW.out])
          | (go_at_call 25; refine (billed_any _ (GZ.out _ (by first | exact HX.out | exact HX.out.alloc HX.out.size _))).mono ?_; rintro e wz ⟨rfl, hb⟩; have HX := Lib.hid (show Below V.heap.size V wz from by first | exact HX.out.trans (hb.mono HX.out.size) | exact (HX.out.alloc HX.out.size _).trans (hb.mono (HX.out.alloc HX.out.size _).size)); have hk := (bcell HX.out).1; have hlt := Nat.lt_of_lt_of_le hVz HX.out.size; have HBE := Lib.hid hb; clear hb)
          | fail)
        go_ret
        exact ⟨rfl, hBV.trans (HX.out.mono hBV.size)⟩
      · have FW := Lib.hid (show within (q : Int) 0 ((n1 : Int) - 1) = true by simp [within]; omega)
        by_cases hz : sl = 0
        · have hne : ¬ (k : Int) = (q : Int) := by omega
          have hne2 : ((k : Int) == (q : Int)) = false := by simp; omega
          subst hz
          clear h1 h2
          go_wp2_with (first
          | (go_at_call 45; refine (amid_any _ _ _ _).mono ?_; rintro e w2 ⟨rfl, rfl⟩; rw [FW.out])
          | (go_at_call 25; refine (billed_any _ (GZ.out _ (by first | exact HX.out | exact HX.out.alloc HX.out.size _))).mono ?_; rintro e wz ⟨rfl, hb⟩; have HX := Lib.hid (show Below V.heap.size V wz from by first | exact HX.out.trans (hb.mono HX.out.size) | exact (HX.out.alloc HX.out.size _).trans (hb.mono (HX.out.alloc HX.out.size _).size)); have hk := (bcell HX.out).1; have hlt := Nat.lt_of_lt_of_le hVz HX.out.size; have HBE := Lib.hid hb; clear hb)
          | fail)
          go_ret
          exact ⟨rfl, hBV.trans (HX.out.mono hBV.size)⟩
        · have hne2 : (sl == 0) = false := by simp [hz]
          have hpos : 0 < sl := by omega
          have hqk : (q : Int) ≤ (k : Int) := by omega
          clear h1 h2
          by_cases hkq : k = q
          · subst hkq
            go_wp2_with (first
          | (go_at_call 45; refine (amid_any _ _ _ _).mono ?_; rintro e w2 ⟨rfl, rfl⟩; rw [FW.out])
          | (go_at_call 25; refine (billed_any _ (GZ.out _ (by first | exact HX.out | exact HX.out.alloc HX.out.size _))).mono ?_; rintro e wz ⟨rfl, hb⟩; have HX := Lib.hid (show Below V.heap.size V wz from by first | exact HX.out.trans (hb.mono HX.out.size) | exact (HX.out.alloc HX.out.size _).trans (hb.mono (HX.out.alloc HX.out.size _).size)); have hk := (bcell HX.out).1; have hlt := Nat.lt_of_lt_of_le hVz HX.out.size; have HBE := Lib.hid hb; clear hb)
          | fail)
            go_ret
            exact ⟨rfl, hBV.trans (HX.out.mono hBV.size)⟩
          · have hne3 : ((k : Int) == (q : Int)) = false := by simp; omega
            have hne4 : ¬ (k : Int) = (q : Int) := by omega
            go_wp2_with (first
          | (go_at_call 45; refine (amid_any _ _ _ _).mono ?_; rintro e w2 ⟨rfl, rfl⟩; rw [FW.out])
          | (go_at_call 25; refine (billed_any _ (GZ.out _ (by first | exact HX.out | exact HX.out.alloc HX.out.size _))).mono ?_; rintro e wz ⟨rfl, hb⟩; have HX := Lib.hid (show Below V.heap.size V wz from by first | exact HX.out.trans (hb.mono HX.out.size) | exact (HX.out.alloc HX.out.size _).trans (hb.mono (HX.out.alloc HX.out.size _).size)); have hk := (bcell HX.out).1; have hlt := Nat.lt_of_lt_of_le hVz HX.out.size; have HBE := Lib.hid hb; clear hb)
          | fail)
            go_ret
            exact ⟨rfl, hBV.trans (HX.out.mono hBV.size)⟩
end Go.Proofs.YtbhjfojbjpbdbaaDoor
