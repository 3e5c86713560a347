/-
  ClaimPaid walked: it answers true. Written by this session; printed by wip/tools/l9.py.
-/
import Derived.Test.YtbhjfojbjpbdbaaDoorA28
import Derived.Test.YtbhjfojbjpbdbaaDoorA29
import Derived.Test.YtbhjfojbjpbdbaaDoorQ3
namespace Go.Proofs.YtbhjfojbjpbdbaaDoor
open Go.RowKit

set_option maxRecDepth 100000 in
set_option maxHeartbeats 8000000 in
theorem paid_walk (W : World) (b : Bk) (n : Nat) (sa ka : Option Addr) (n1 sc n2 kc : Nat) (hv : BookW W n sa ka n1 sc n2 kc b) (hG : Glob W) :
    Calls Tryd.prog 9 #[.agg (b.cells (.slice sa n1 sc) (.slice ka n2 kc)).toArray] W fun e W' => e = .returned (.bool true) ∧ Below W.heap.size W W' := by
  obtain ⟨V, hV⟩ : ∃ V, W.alloc (Obj.cells #[.slice sa n1 sc, .int .i64 b.wth, .int .i64 b.c0, .int .i64 b.c1, .int .i64 b.c2, .slice ka n2 kc, .int .i64 b.rate] 26) = V := ⟨_, rfl⟩
  have hBV : Below W.heap.size W V := by rw [← hV]; exact (Below.refl _ _).alloc (Nat.le_refl _) _
  have hb0 : V.heap[W.heap.size]? = some (Obj.cells #[.slice sa n1 sc, .int .i64 b.wth, .int .i64 b.c0, .int .i64 b.c1, .int .i64 b.c2, .slice ka n2 kc, .int .i64 b.rate] 26) := by rw [← hV]; exact World.alloc_heap_new _ _
  have hVz : W.heap.size < V.heap.size := (Array.getElem?_eq_some_iff.1 hb0).1
  have HGV := Lib.hid (hG.below hG.lt hBV)
  have HVB := Lib.hid (hv.below hv.hn hBV)
  have HN := Lib.hid hv.hn
  have c0 : V.cell? ⟨W.heap.size, 0, none⟩ = some (.slice sa n1 sc) := blk_cell hb0
  have c1 : V.cell? ⟨W.heap.size, 1, none⟩ = some (.int .i64 b.wth) := blk_cell hb0
  have c2 : V.cell? ⟨W.heap.size, 2, none⟩ = some (.int .i64 b.c0) := blk_cell hb0
  have c3 : V.cell? ⟨W.heap.size, 3, none⟩ = some (.int .i64 b.c1) := blk_cell hb0
  have c4 : V.cell? ⟨W.heap.size, 4, none⟩ = some (.int .i64 b.c2) := blk_cell hb0
  have c5 : V.cell? ⟨W.heap.size, 5, none⟩ = some (.slice ka n2 kc) := blk_cell hb0
  have c6 : V.cell? ⟨W.heap.size, 6, none⟩ = some (.int .i64 b.rate) := blk_cell hb0
  have HB0 := Lib.hid hb0
  have BZ := Lib.hid (show ∀ w, Below V.heap.size V w → BookW w n sa ka n1 sc n2 kc b from fun w h => HVB.out.below HVB.out.hn h)
  have GZ := Lib.hid (show ∀ w, Below V.heap.size V w → Glob w from fun w h => HGV.out.below HGV.out.lt h)
  have HX := Lib.hid (Below.refl V.heap.size V)
  have hn1 : n1 ≤ 9223372036854775807 := by obtain ⟨_, _, e, h1, h2, _⟩ := hv.hs; injection e with _ e2 _; unfold maxLen at h2; omega
  have HL1 := Lib.hid hv.l1
  have HL2 := Lib.hid hv.l2
  clear hb0 hv hG
  simp only [Bk.cells]
  by_cases hok : bkOk b = true
  rotate_left
  · have hok' : bkOk b = false := by simpa using hok
    have HF := Lib.hid (paysS_bad hok')
    have HS := Lib.hid hok'
    clear hok hok'
    go_enter Tryd.func9, Tryd.ntmps9
    go_upto_region 1 with fail
    try rw [hV]
    clear hV
    go_wp2_with (first
      | (go_at_call 32; refine (pays_ex _ b n _ _ _ _ _ _ (BZ.out _ (by first | exact HX.out | exact HX.out.alloc HX.out.size _)) (GZ.out _ (by first | exact HX.out | exact HX.out.alloc HX.out.size _))).mono ?_; rintro e w1 ⟨rfl, hb⟩; rw [HF.out]; have HX := Lib.hid (show Below V.heap.size V w1 from by first | exact HX.out.trans (hb.mono HX.out.size) | exact (HX.out.alloc HX.out.size _).trans (hb.mono (HX.out.alloc HX.out.size _).size)); have hk := (bcell HX.out).1; have hlt := Nat.lt_of_lt_of_le hVz HX.out.size; have HBE := Lib.hid hb; clear hb)
      | (go_at_call 41; refine (sound_any _ b n _ _ _ _ _ _ (BZ.out _ (by first | exact HX.out | exact HX.out.alloc HX.out.size _))).mono ?_; rintro e ws ⟨rfl, hb⟩; rw [HS.out]; have HX := Lib.hid (show Below V.heap.size V ws from by first | exact HX.out.trans (hb.mono HX.out.size) | exact (HX.out.alloc HX.out.size _).trans (hb.mono (HX.out.alloc HX.out.size _).size)); have hk := (bcell HX.out).1; have hlt := Nat.lt_of_lt_of_le hVz HX.out.size; have HBE := Lib.hid hb; clear hb)
      | (go_at_call 25; refine (billed_any _ (GZ.out _ (by first | exact HX.out | exact HX.out.alloc HX.out.size _))).mono ?_; rintro e wz ⟨rfl, hb⟩; have HX := Lib.hid (show Below V.heap.size V wz from by first | exact HX.out.trans (hb.mono HX.out.size) | exact (HX.out.alloc HX.out.size _).trans (hb.mono (HX.out.alloc HX.out.size _).size)); have hk := (bcell HX.out).1; have hlt := Nat.lt_of_lt_of_le hVz HX.out.size; have HBE := Lib.hid hb; clear hb)
      | fail)
    go_ret
    exact ⟨rfl, hBV.trans (HX.out.mono hBV.size)⟩
  · have HF := Lib.hid hok
    have h13 := (bkOk_head hok).1
    have hn13 : 1 ≤ n1 ∧ n1 ≤ 3 := by have := HL1.out; omega
    have hwl : IntKind.i64.wrap ((n1 : Int) - 1) = (n1 : Int) - 1 := IntWalk.i64_in _ (by omega)
    have hlast : (n1 : Int) - 1 = ((b.sts.length - 1 : Nat) : Int) := by have := HL1.out; omega
    by_cases hT : truths b = []
    · have F1 := Lib.hid (paysS_false hok hT)
      have F2 := Lib.hid (show owesS b = (0, 0, 62) from spanE_false hok hT rfl)
      have F3 := Lib.hid (blameS_false hok hT)
      have F4 := Lib.hid (show lateS b ((n1 : Int) - 1) = (0, 0, 62) by rw [hlast]; exact spanE_false hok hT (isStage_in (by omega)))
      clear hok hT h13 hlast
      go_enter Tryd.func9, Tryd.ntmps9
      go_upto_region 1 with fail
      try rw [hV]
      clear hV
      go_wp2_with (first
        | (go_at_call 32; refine (pays_ex _ b n _ _ _ _ _ _ (BZ.out _ (by first | exact HX.out | exact HX.out.alloc HX.out.size _)) (GZ.out _ (by first | exact HX.out | exact HX.out.alloc HX.out.size _))).mono ?_; rintro e w1 ⟨rfl, hb⟩; rw [F1.out]; have HX := Lib.hid (show Below V.heap.size V w1 from by first | exact HX.out.trans (hb.mono HX.out.size) | exact (HX.out.alloc HX.out.size _).trans (hb.mono (HX.out.alloc HX.out.size _).size)); have hk := (bcell HX.out).1; have hlt := Nat.lt_of_lt_of_le hVz HX.out.size; have HBE := Lib.hid hb; clear hb)
        | (go_at_call 41; refine (sound_any _ b n _ _ _ _ _ _ (BZ.out _ (by first | exact HX.out | exact HX.out.alloc HX.out.size _))).mono ?_; rintro e ws ⟨rfl, hb⟩; rw [HF.out]; have HX := Lib.hid (show Below V.heap.size V ws from by first | exact HX.out.trans (hb.mono HX.out.size) | exact (HX.out.alloc HX.out.size _).trans (hb.mono (HX.out.alloc HX.out.size _).size)); have hk := (bcell HX.out).1; have hlt := Nat.lt_of_lt_of_le hVz HX.out.size; have HBE := Lib.hid hb; clear hb)
        | (go_at_call 30; refine (owes_ex _ b n _ _ _ _ _ _ (BZ.out _ (by first | exact HX.out | exact HX.out.alloc HX.out.size _)) (GZ.out _ (by first | exact HX.out | exact HX.out.alloc HX.out.size _))).mono ?_; rintro e w1 ⟨rfl, hb⟩; rw [F2.out]; have HX := Lib.hid (show Below V.heap.size V w1 from by first | exact HX.out.trans (hb.mono HX.out.size) | exact (HX.out.alloc HX.out.size _).trans (hb.mono (HX.out.alloc HX.out.size _).size)); have hk := (bcell HX.out).1; have hlt := Nat.lt_of_lt_of_le hVz HX.out.size; have HBE := Lib.hid hb; clear hb)
        | (go_at_call 28; refine (blame_ex _ b n _ _ _ _ _ _ (BZ.out _ (by first | exact HX.out | exact HX.out.alloc HX.out.size _)) (GZ.out _ (by first | exact HX.out | exact HX.out.alloc HX.out.size _))).mono ?_; rintro e w1 ⟨rfl, hb⟩; rw [F3.out]; have HX := Lib.hid (show Below V.heap.size V w1 from by first | exact HX.out.trans (hb.mono HX.out.size) | exact (HX.out.alloc HX.out.size _).trans (hb.mono (HX.out.alloc HX.out.size _).size)); have hk := (bcell HX.out).1; have hlt := Nat.lt_of_lt_of_le hVz HX.out.size; have HBE := Lib.hid hb; clear hb)
        | (go_at_call 21; refine (late_ex _ b _ n _ _ _ _ _ _ (BZ.out _ (by first | exact HX.out | exact HX.out.alloc HX.out.size _)) (GZ.out _ (by first | exact HX.out | exact HX.out.alloc HX.out.size _))).mono ?_; rintro e w1 ⟨rfl, hb⟩; rw [F4.out]; have HX := Lib.hid (show Below V.heap.size V w1 from by first | exact HX.out.trans (hb.mono HX.out.size) | exact (HX.out.alloc HX.out.size _).trans (hb.mono (HX.out.alloc HX.out.size _).size)); have hk := (bcell HX.out).1; have hlt := Nat.lt_of_lt_of_le hVz HX.out.size; have HBE := Lib.hid hb; clear hb)
        | (go_at_call 25; refine (billed_any _ (GZ.out _ (by first | exact HX.out | exact HX.out.alloc HX.out.size _))).mono ?_; rintro e wz ⟨rfl, hb⟩; have HX := Lib.hid (show Below V.heap.size V wz from by first | exact HX.out.trans (hb.mono HX.out.size) | exact (HX.out.alloc HX.out.size _).trans (hb.mono (HX.out.alloc HX.out.size _).size)); have hk := (bcell HX.out).1; have hlt := Nat.lt_of_lt_of_le hVz HX.out.size; have HBE := Lib.hid hb; clear hb)
        | fail)
      go_ret
      exact ⟨rfl, hBV.trans (HX.out.mono hBV.size)⟩
    · obtain ⟨ol, oh, ll, lh, kind, pays, how, hbl, hpa, hla, k1, k2, k3, k4, k5, k6, k7, k8, k9⟩ := paid_law hok hT
      have F1 := Lib.hid hpa
      have F2 := Lib.hid how
      have F3 := Lib.hid hbl
      have F4 := Lib.hid (show lateS b ((n1 : Int) - 1) = (ll, lh, 0) by rw [hlast]; exact hla)
      have HUP := Lib.hid (fun q => roughUp_bd hok hT q)
      have HRO := Lib.hid (fun (q : Nat) (x : St) (h : b.sts[q]? = some x) => roughS_ok hok hT h)
      have hra := (bkOk_head hok).2.2.2
      have HK := Lib.hid (⟨k1, k2, k3, k4, k5, k6, k7, k8, k9⟩ : _ ∧ _ ∧ _ ∧ _ ∧ _ ∧ _ ∧ _ ∧ _ ∧ _)
      obtain ⟨_, cap, e, hs1, hs2, hs3, hs4⟩ := (BZ.out _ (Below.refl _ V)).hs
      injection e with e1 e2 e3
      subst e1
      clear e2 e3
      obtain ⟨g, o, hsa, hg, hcs⟩ := hs4 (by simp [stCells]; have := HL1.out; omega)
      subst hsa
      have hgV : g < V.heap.size := Nat.lt_of_lt_of_le hg (BZ.out _ (Below.refl _ V)).hn
      have HCS := Lib.hid hcs
      clear hok hT h13 hlast how hbl hpa hla k1 k2 k3 k4 k5 k6 k7 k8 k9 hs1 hs2 hs3 hs4 hcs hg
      go_enter Tryd.func9, Tryd.ntmps9
      go_upto_region 1 with fail
      try rw [hV]
      clear hV
      go_upto_region 5 with (first
        | (go_at_call 32; refine (pays_ex _ b n _ _ _ _ _ _ (BZ.out _ (by first | exact HX.out | exact HX.out.alloc HX.out.size _)) (GZ.out _ (by first | exact HX.out | exact HX.out.alloc HX.out.size _))).mono ?_; rintro e w1 ⟨rfl, hb⟩; rw [F1.out]; have HX := Lib.hid (show Below V.heap.size V w1 from by first | exact HX.out.trans (hb.mono HX.out.size) | exact (HX.out.alloc HX.out.size _).trans (hb.mono (HX.out.alloc HX.out.size _).size)); have hk := (bcell HX.out).1; have hlt := Nat.lt_of_lt_of_le hVz HX.out.size; have HBE := Lib.hid hb; clear hb)
        | (go_at_call 41; refine (sound_any _ b n _ _ _ _ _ _ (BZ.out _ (by first | exact HX.out | exact HX.out.alloc HX.out.size _))).mono ?_; rintro e ws ⟨rfl, hb⟩; rw [HF.out]; have HX := Lib.hid (show Below V.heap.size V ws from by first | exact HX.out.trans (hb.mono HX.out.size) | exact (HX.out.alloc HX.out.size _).trans (hb.mono (HX.out.alloc HX.out.size _).size)); have hk := (bcell HX.out).1; have hlt := Nat.lt_of_lt_of_le hVz HX.out.size; have HBE := Lib.hid hb; clear hb)
        | (go_at_call 30; refine (owes_ex _ b n _ _ _ _ _ _ (BZ.out _ (by first | exact HX.out | exact HX.out.alloc HX.out.size _)) (GZ.out _ (by first | exact HX.out | exact HX.out.alloc HX.out.size _))).mono ?_; rintro e w4 ⟨rfl, hb⟩; rw [F2.out]; have HX := Lib.hid (show Below V.heap.size V w4 from by first | exact HX.out.trans (hb.mono HX.out.size) | exact (HX.out.alloc HX.out.size _).trans (hb.mono (HX.out.alloc HX.out.size _).size)); have hk := (bcell HX.out).1; have hlt := Nat.lt_of_lt_of_le hVz HX.out.size; have HBE := Lib.hid hb; clear hb)
        | fail)
      obtain ⟨X4, hX⟩ : ∃ X, w4.alloc (.cells #[.int .i64 ol, .int .i64 oh] 32) = X := ⟨_, rfl⟩
      have hq : X4.heap[w4.heap.size]? = some (.cells #[.int .i64 ol, .int .i64 oh] 32) := by rw [← hX]; exact World.alloc_heap_new _ _
      have hbx : Below V.heap.size V X4 := by rw [← hX]; exact HX.out.alloc HX.out.size _
      have hbk : Below w4.heap.size w4 X4 := by rw [← hX]; exact (Below.refl _ _).alloc (Nat.le_refl _) _
      have hvp : V.heap.size ≤ w4.heap.size := HX.out.size
      rw [hX]
      clear hX
      obtain ⟨P4, hP⟩ : ∃ P, w4.heap.size = P := ⟨_, rfl⟩
      rw [hP] at hq hvp ⊢
      clear hP
      have HQ4 := Lib.hid hq
      have HVP4 := Lib.hid hvp
      have HBK4 := Lib.hid hbk
      clear hq hvp hbk hk
      have HX := Lib.hid hbx
      have hk := (bcell hbx).1
      clear hbx
      go_upto_region 8 with (first
        | (go_at_call 28; refine (blame_ex _ b n _ _ _ _ _ _ (BZ.out _ (by first | exact HX.out | exact HX.out.alloc HX.out.size _)) (GZ.out _ (by first | exact HX.out | exact HX.out.alloc HX.out.size _))).mono ?_; rintro e w5 ⟨rfl, hb⟩; rw [F3.out]; have HX := Lib.hid (show Below V.heap.size V w5 from by first | exact HX.out.trans (hb.mono HX.out.size) | exact (HX.out.alloc HX.out.size _).trans (hb.mono (HX.out.alloc HX.out.size _).size)); have hk := (bcell HX.out).1; have hlt := Nat.lt_of_lt_of_le hVz HX.out.size; have HBE := Lib.hid hb; clear hb; have HBE5 := HBE)
        | (go_at_call 21; refine (late_ex _ b _ n _ _ _ _ _ _ (BZ.out _ (by first | exact HX.out | exact HX.out.alloc HX.out.size _)) (GZ.out _ (by first | exact HX.out | exact HX.out.alloc HX.out.size _))).mono ?_; rintro e w7 ⟨rfl, hb⟩; rw [F4.out]; have HX := Lib.hid (show Below V.heap.size V w7 from by first | exact HX.out.trans (hb.mono HX.out.size) | exact (HX.out.alloc HX.out.size _).trans (hb.mono (HX.out.alloc HX.out.size _).size)); have hk := (bcell HX.out).1; have hlt := Nat.lt_of_lt_of_le hVz HX.out.size; have HBE := Lib.hid hb; clear hb)
        | fail)
      obtain ⟨X7, hX⟩ : ∃ X, w7.alloc (.cells #[.int .i64 ll, .int .i64 lh] 32) = X := ⟨_, rfl⟩
      have hq : X7.heap[w7.heap.size]? = some (.cells #[.int .i64 ll, .int .i64 lh] 32) := by rw [← hX]; exact World.alloc_heap_new _ _
      have hbx : Below V.heap.size V X7 := by rw [← hX]; exact HX.out.alloc HX.out.size _
      have hbk : Below w7.heap.size w7 X7 := by rw [← hX]; exact (Below.refl _ _).alloc (Nat.le_refl _) _
      have hvp : V.heap.size ≤ w7.heap.size := HX.out.size
      rw [hX]
      clear hX
      obtain ⟨P7, hP⟩ : ∃ P, w7.heap.size = P := ⟨_, rfl⟩
      rw [hP] at hq hvp ⊢
      clear hP
      have HQ7 := Lib.hid hq
      have HVP7 := Lib.hid hvp
      have HBK7 := Lib.hid hbk
      clear hq hvp hbk hk
      have HX := Lib.hid hbx
      have hk := (bcell hbx).1
      clear hbx
      have hb47 := HBE5.out.trans ((HBE.out.trans (HBK7.out.mono HBE.out.size)).mono HBE5.out.size)
      have hq4 := (hb47.block P4 (Array.getElem?_eq_some_iff.1 HQ4.out).1).trans HQ4.out
      have HQ4' := Lib.hid hq4
      have HX0 := HX
      have HHK := Lib.hid hk
      clear hb47 hq4 hk HQ4
      have lw : W.heap.size < X7.heap.size := Nat.lt_of_lt_of_le hVz HX.out.size
      go_wp2_with fail
      go_loopg [12, 13] n1 (fun n0 ro i wx => ∃ (q : Nat), q ≤ n1 ∧ n0 = n1 - q ∧ ro = .int .i64 (roughUp b q) ∧ i = .int .i64 (q : Int) ∧ Below X7.heap.size X7 wx)
      case atStart => exact ⟨0, by omega, rfl, rfl, rfl, Below.refl _ _⟩
      case round =>
        obtain ⟨q, hq, hgk, rfl, rfl, hbx⟩ := hrel
        have HG2 := Lib.hid hgk
        have HBX := Lib.hid hbx
        have hbv := HX0.out.trans (hbx.mono HX0.out.size)
        have HX := Lib.hid hbv
        have hk := (bcell hbv).1
        have hlt := Nat.lt_of_lt_of_le hVz hbv.size
        obtain ⟨R, hR⟩ : ∃ R, roughUp b q = R := ⟨_, rfl⟩
        have hRb := HUP.out q
        rw [hR] at hRb ⊢
        have HRR := Lib.hid hR
        clear hgk hbx hbv hR
        by_cases hqn : q < n1
        · have hqi : (q : Int) ≤ (n1 : Int) - 1 := by omega
          have hqi2 : (q : Int) < (n1 : Int) := by omega
          obtain ⟨x, hx⟩ : ∃ x, b.sts[q]? = some x := ⟨_, List.getElem?_eq_getElem (by have := HL1.out; omega)⟩
          obtain ⟨hro, hr1, hr2⟩ := HRO.out q x hx
          obtain ⟨rlo, hrlo⟩ : ∃ r, toldLo (fun t => t.rough q) (truths b) = r := ⟨_, rfl⟩
          obtain ⟨rhi, hrhi⟩ : ∃ r, toldHi (fun t => t.rough q) (truths b) = r := ⟨_, rfl⟩
          have hup : roughUp b (q + 1) = R + rhi := by rw [← hrhi, ← HRR.out]; rfl
          have hup2 := HUP.out (q + 1)
          rw [hup] at hup2
          rw [hrlo, hrhi] at hro
          rw [hrlo] at hr1
          rw [hrhi] at hr2
          have F5 := Lib.hid (show roughS b (q : Int) = (rlo, rhi, 0) from hro)
          have HIN := Lib.hid (show (decide (x.rl ≤ rlo) && decide (rhi ≤ x.rh)) = true by simp; exact ⟨hr1, hr2⟩)
          have r3 : V.cell? ⟨g, o + q * 7 + 3, none⟩ = some (.int .i64 x.rl) := HCS.out q 3 x.cells _ (by simp [stCells, hx]) rfl
          have r4 : V.cell? ⟨g, o + q * 7 + 4, none⟩ = some (.int .i64 x.rh) := HCS.out q 4 x.cells _ (by simp [stCells, hx]) rfl
          have hwr : IntKind.i64.wrap (R + rhi) = R + rhi := IntWalk.i64_in _ (by omega)
          have HUQ := Lib.hid hup
          clear hro hr1 hr2 hrlo hrhi hup hup2 hx
          go_upto_region 15 with (first
            | (go_at_call 23; refine (rough_ex _ b _ n _ _ _ _ _ _ (BZ.out _ (by first | exact HX.out | exact HX.out.alloc HX.out.size _)) (GZ.out _ (by first | exact HX.out | exact HX.out.alloc HX.out.size _))).mono ?_; rintro e w8 ⟨rfl, hb⟩; rw [F5.out]; have HX := Lib.hid (show Below V.heap.size V w8 from by first | exact HX.out.trans (hb.mono HX.out.size) | exact (HX.out.alloc HX.out.size _).trans (hb.mono (HX.out.alloc HX.out.size _).size)); have hk := (bcell HX.out).1; have hlt := Nat.lt_of_lt_of_le hVz HX.out.size; have HBE := Lib.hid hb; clear hb)
            | fail)
          obtain ⟨X8, hX⟩ : ∃ X, w8.alloc (.cells #[.int .i64 rlo, .int .i64 rhi] 32) = X := ⟨_, rfl⟩
          have hq : X8.heap[w8.heap.size]? = some (.cells #[.int .i64 rlo, .int .i64 rhi] 32) := by rw [← hX]; exact World.alloc_heap_new _ _
          have hbx : Below V.heap.size V X8 := by rw [← hX]; exact HX.out.alloc HX.out.size _
          have hbk : Below w8.heap.size w8 X8 := by rw [← hX]; exact (Below.refl _ _).alloc (Nat.le_refl _) _
          have hvp : V.heap.size ≤ w8.heap.size := HX.out.size
          rw [hX]
          clear hX
          obtain ⟨P8, hP⟩ : ∃ P, w8.heap.size = P := ⟨_, rfl⟩
          rw [hP] at hq hvp ⊢
          clear hP
          have HQ8 := Lib.hid hq
          have HVP8 := Lib.hid hvp
          have HBK8 := Lib.hid hbk
          clear hq hvp hbk hk
          have HX := Lib.hid hbx
          have hk := (bcell hbx).1
          clear hbx
          have y3 : X8.cell? ⟨g, o + q * 7 + 3, none⟩ = some (.int .i64 x.rl) := (HX.out.cell (p := ⟨g, o + q * 7 + 3, none⟩) hgV).trans r3
          have y4 : X8.cell? ⟨g, o + q * 7 + 4, none⟩ = some (.int .i64 x.rh) := (HX.out.cell (p := ⟨g, o + q * 7 + 4, none⟩) hgV).trans r4
          have y0 : X8.cell? ⟨W.heap.size, 0, none⟩ = some (.slice (some ⟨g, o, none⟩) n1 sc) := (HX.out.cell (p := ⟨W.heap.size, 0, none⟩) hVz).trans c0
          have p80 : X8.cell? ⟨P8, 0, none⟩ = some (.int .i64 rlo) := blk_cell HQ8.out
          have p81 : X8.cell? ⟨P8, 1, none⟩ = some (.int .i64 rhi) := blk_cell HQ8.out
          have l8 : P8 < X8.heap.size := (Array.getElem?_eq_some_iff.1 HQ8.out).1
          have l9 : g < X8.heap.size := Nat.lt_of_lt_of_le hgV HX.out.size
          have l10 : W.heap.size < X8.heap.size := Nat.lt_of_lt_of_le hVz HX.out.size
          have HHK2 := Lib.hid hk
          clear hk
          refine wp_region_det (S := fun _ w' => (∀ b o, b < X8.heap.size → w'.cell? ⟨b, o, none⟩ = X8.cell? ⟨b, o, none⟩) ∧ Below X8.heap.size X8 w') (by kernel_rfl) (by kernel_rfl) (hs0 X8) ?_
          repeat
            apply det_cons
            · refine ⟨by rfl, fun L w hN hS => ?_⟩
              obtain ⟨hcc, hu⟩ := hS
              go_simp
              first
                | exact ⟨rfl, fun _ _ _ => ⟨hcc, hu⟩⟩
                | (refine (inner_any _ _ _ _ _).mono ?_; rintro e w' ⟨rfl, hbb⟩; exact ⟨congrArg Ending.returned (congrArg Value.bool HIN.out), fun _ _ _ => hs1 hbb ⟨hcc, hu⟩⟩)
            try simp only [Act.put, List.setIfInBounds_toArray, List.set_cons_zero, List.set_cons_succ]
          refine det_nil ?_
          rintro L w9 hL ⟨hcc, hu⟩
          have HBN := Lib.hid (HBX.out.trans ((HBE.out.trans ((HBK8.out.trans (hu.mono HBK8.out.size)).mono HBE.out.size)).mono HBX.out.size))
          clear hL hu
          go_wp2_with fail
          go_roundg (n1 - (q + 1))
          case measure => rw [HG2.out]; omega
          case rel => exact ⟨q + 1, by omega, rfl, by rw [HUQ.out], by go_num, HBN.out⟩
        · have hqi : ¬ (q : Int) ≤ (n1 : Int) - 1 := by omega
          have hqn1 : q = n1 := by omega
          have hRn : roughUp b b.sts.length = R := by rw [← HL1.out, ← hqn1]; exact HRR.out
          have hKK := HK.out
          rw [hRn] at hKK
          obtain ⟨k1, k2, k3, k4, k5, k6, k7, k8, k9⟩ := hKK
          have hq4 := (HBX.out.block P4 (Array.getElem?_eq_some_iff.1 HQ4'.out).1).trans HQ4'.out
          have hq7 := (HBX.out.block P7 (Array.getElem?_eq_some_iff.1 HQ7.out).1).trans HQ7.out
          have p40 : wr.cell? ⟨P4, 0, none⟩ = some (.int .i64 ol) := blk_cell hq4
          have p41 : wr.cell? ⟨P4, 1, none⟩ = some (.int .i64 oh) := blk_cell hq4
          have p70 : wr.cell? ⟨P7, 0, none⟩ = some (.int .i64 ll) := blk_cell hq7
          have p71 : wr.cell? ⟨P7, 1, none⟩ = some (.int .i64 lh) := blk_cell hq7
          have y6 : wr.cell? ⟨W.heap.size, 6, none⟩ = some (.int .i64 b.rate) := (HX.out.cell (p := ⟨W.heap.size, 6, none⟩) hVz).trans c6
          have hp1 : b.rate * ll ≤ 99 * 1000 := Int.mul_le_mul (by omega) (by omega) (by omega) (by omega)
          have hp0 : 0 ≤ b.rate * ll := Int.mul_nonneg (by omega) (by omega)
          have hw1 : IntKind.i64.wrap (b.rate * ll) = b.rate * ll := IntWalk.i64_in _ (by omega)
          have hno1 : ¬ ol < 0 := by omega
          have hno2 : ¬ b.rate * ll < ol := by omega
          have hRb2 : R ≤ 90 := by omega
          obtain ⟨M, hM, hM0, hM1, hM2⟩ : ∃ M, (if R < lh then R else lh) = M ∧ 0 ≤ M ∧ M ≤ 1000 ∧ oh ≤ b.rate * M := by
            refine ⟨_, rfl, ?_, ?_, ?_⟩
            · split <;> omega
            · split <;> omega
            · rw [mn_eq]; exact k2
          have hp2 : b.rate * M ≤ 99 * 1000 := Int.mul_le_mul (by omega) hM1 hM0 (by omega)
          have hp3 : 0 ≤ b.rate * M := Int.mul_nonneg (by omega) hM0
          have hw2 : IntKind.i64.wrap (b.rate * M) = b.rate * M := IntWalk.i64_in _ (by omega)
          have hno3 : ¬ b.rate * M < oh := by omega
          have hkc : kind = 0 ∨ kind = 1 ∨ kind = 2 := by omega
          clear hq4 hq7 k1 k2 k3 k4 hRn hqn1 hp0 hp1 hp2 hp3
          rcases hkc with rfl | rfl | rfl
          · have hpz := k8 (by decide)
            subst hpz
            clear k5 k6 k7 k8
            go_wp2_with (first
              | (go_at_call 25; refine (billed_any _ (GZ.out _ (by first | exact HX.out | exact HX.out.alloc HX.out.size _))).mono ?_; rintro e wz ⟨rfl, hb⟩; have HX := Lib.hid (show Below V.heap.size V wz from by first | exact HX.out.trans (hb.mono HX.out.size) | exact (HX.out.alloc HX.out.size _).trans (hb.mono (HX.out.alloc HX.out.size _).size)); have hk := (bcell HX.out).1; have hlt := Nat.lt_of_lt_of_le hVz HX.out.size; have HBE := Lib.hid hb; clear hb)
              | fail)
            go_ret
            exact ⟨rfl, hBV.trans (HX.out.mono hBV.size)⟩
          · have hpz := k8 (by decide)
            subst hpz
            have hlz := k5 (by decide)
            have hlz2 : (lh == 0) = false := by simp [hlz]
            clear k5 k6 k7 k8
            go_wp2_with (first
              | (go_at_call 25; refine (billed_any _ (GZ.out _ (by first | exact HX.out | exact HX.out.alloc HX.out.size _))).mono ?_; rintro e wz ⟨rfl, hb⟩; have HX := Lib.hid (show Below V.heap.size V wz from by first | exact HX.out.trans (hb.mono HX.out.size) | exact (HX.out.alloc HX.out.size _).trans (hb.mono (HX.out.alloc HX.out.size _).size)); have hk := (bcell HX.out).1; have hlt := Nat.lt_of_lt_of_le hVz HX.out.size; have HBE := Lib.hid hb; clear hb)
              | fail)
            go_ret
            exact ⟨rfl, hBV.trans (HX.out.mono hBV.size)⟩
          · have hpz := k7 rfl
            subst hpz
            have hlz := k5 (by decide)
            have hlz2 : (lh == 0) = false := by simp [hlz]
            have hzz := k6 rfl
            have hzz2 : (ll == 0) = false := by simp [hzz]
            clear k5 k6 k7 k8
            go_wp2_with (first
              | (go_at_call 25; refine (billed_any _ (GZ.out _ (by first | exact HX.out | exact HX.out.alloc HX.out.size _))).mono ?_; rintro e wz ⟨rfl, hb⟩; have HX := Lib.hid (show Below V.heap.size V wz from by first | exact HX.out.trans (hb.mono HX.out.size) | exact (HX.out.alloc HX.out.size _).trans (hb.mono (HX.out.alloc HX.out.size _).size)); have hk := (bcell HX.out).1; have hlt := Nat.lt_of_lt_of_le hVz HX.out.size; have HBE := Lib.hid hb; clear hb)
              | fail)
            go_ret
            exact ⟨rfl, hBV.trans (HX.out.mono hBV.size)⟩
end Go.Proofs.YtbhjfojbjpbdbaaDoor
