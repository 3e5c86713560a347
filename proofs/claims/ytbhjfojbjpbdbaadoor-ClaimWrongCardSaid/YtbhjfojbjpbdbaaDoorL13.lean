/-
  ClaimWrong walked: it answers true. Written by this session; printed by wip/tools/l13.py.
-/
import Derived.Test.YtbhjfojbjpbdbaaDoorQ7
import Derived.Test.YtbhjfojbjpbdbaaDoorA28
import Derived.Test.YtbhjfojbjpbdbaaDoorA29
namespace Go.Proofs.YtbhjfojbjpbdbaaDoor
open Go.RowKit

theorem nat_len {w : World} {n : Nat} {a : Option Addr} {m c : Nat} {l : List Nat} (h : SlOf w n 1 (.slice a m c) (natCells l)) : m = l.length := by
  obtain ⟨_, _, e, _⟩ := h
  injection e with _ e2 _
  rw [e2]; simp [natCells]

theorem right_but {b : Bk} (h : bkOk b = true) (l : List Nat) : rightS (b.but l) = (!(truths (b.but l)).isEmpty, 0) := by
  unfold rightS
  rw [if_pos (but_ok h l)]

set_option maxRecDepth 100000 in
set_option maxHeartbeats 8000000 in
theorem wrong_walk (W : World) (m : Int) (b : Bk) (n : Nat) (sa ka : Option Addr) (n1 sc n2 kc : Nat) (hv : BookW W n sa ka n1 sc n2 kc b) (hG : Glob W) :
    Calls Tryd.prog 13 #[.agg (b.cells (.slice sa n1 sc) (.slice ka n2 kc)).toArray, .int .i64 m] W fun e W' => e = .returned (.bool true) ∧ Below W.heap.size W W' := by
  obtain ⟨V, hV⟩ : ∃ V, W.alloc (Obj.cells #[.slice sa n1 sc, .int .i64 b.wth, .int .i64 b.c0, .int .i64 b.c1, .int .i64 b.c2, .slice ka n2 kc, .int .i64 b.rate] 26) = V := ⟨_, rfl⟩
  have hBV : Below W.heap.size W V := by rw [← hV]; exact (Below.refl _ _).alloc (Nat.le_refl _) _
  have hb0 : V.heap[W.heap.size]? = some (Obj.cells #[.slice sa n1 sc, .int .i64 b.wth, .int .i64 b.c0, .int .i64 b.c1, .int .i64 b.c2, .slice ka n2 kc, .int .i64 b.rate] 26) := by rw [← hV]; exact World.alloc_heap_new _ _
  have hVz : W.heap.size < V.heap.size := (Array.getElem?_eq_some_iff.1 hb0).1
  have HGV := Lib.hid (hG.below hG.lt hBV)
  have HVB := Lib.hid (hv.below hv.hn hBV)
  have HN := Lib.hid hv.hn
  have c0 : V.cell? ⟨W.heap.size, 0, none⟩ = some (.slice sa n1 sc) := blk_cell hb0
  have c1 : V.cell? ⟨W.heap.size, 1, none⟩ = some (.int .i64 b.wth) := blk_cell hb0
  have c2 : V.cell? ⟨W.heap.size, 2, none⟩ = some (.int .i64 b.c0) := blk_cell hb0
  have c3 : V.cell? ⟨W.heap.size, 3, none⟩ = some (.int .i64 b.c1) := blk_cell hb0
  have c4 : V.cell? ⟨W.heap.size, 4, none⟩ = some (.int .i64 b.c2) := blk_cell hb0
  have c5 : V.cell? ⟨W.heap.size, 5, none⟩ = some (.slice ka n2 kc) := blk_cell hb0
  have c6 : V.cell? ⟨W.heap.size, 6, none⟩ = some (.int .i64 b.rate) := blk_cell hb0
  have HB0 := Lib.hid hb0
  have BZ := Lib.hid (show ∀ w, Below V.heap.size V w → BookW w n sa ka n1 sc n2 kc b from fun w h => HVB.out.below HVB.out.hn h)
  have GZ := Lib.hid (show ∀ w, Below V.heap.size V w → Glob w from fun w h => HGV.out.below HGV.out.lt h)
  have HX := Lib.hid (Below.refl V.heap.size V)
  have hn1 : n1 ≤ 9223372036854775807 := by obtain ⟨_, _, e, h1, h2, _⟩ := hv.hs; injection e with _ e2 _; unfold maxLen at h2; omega
  have HL1 := Lib.hid hv.l1
  have HL2 := Lib.hid hv.l2
  clear hb0 hv hG
  simp only [Bk.cells]
  by_cases hok : bkOk b = true
  rotate_left
  · have hok' : bkOk b = false := by simpa using hok
    have HS := Lib.hid hok'
    have HW := Lib.hid (show wrongS b = ([], 60) by unfold wrongS; rw [if_neg hok])
    clear hok hok'
    go_enter Tryd.func13, Tryd.ntmps13
    go_upto_region 1 with fail
    try rw [hV]
    clear hV
    go_upto_region 2 with (first
      | (go_at_call 38; refine (wrong_ex _ b n _ _ _ _ _ _ (BZ.out _ (by first | exact HX.out | exact HX.out.alloc HX.out.size _)) (GZ.out _ (by first | exact HX.out | exact HX.out.alloc HX.out.size _))).mono ?_; rintro e ww ⟨ra, rl, rc, rfl, hb, hsw⟩; rw [HW.out] at hsw ⊢; have HRL := Lib.hid (nat_len hsw); have HSW := Lib.hid hsw; clear hsw; have HX := Lib.hid (show Below V.heap.size V ww from by first | exact HX.out.trans (hb.mono HX.out.size) | exact (HX.out.alloc HX.out.size _).trans (hb.mono (HX.out.alloc HX.out.size _).size)); have hk := (bcell HX.out).1; have hlt := Nat.lt_of_lt_of_le hVz HX.out.size; have HBE := Lib.hid hb; clear hb)
      | fail)
    have hrl0 : rl = 0 := HRL.out
    subst hrl0
    go_wp2_with (first
      | (go_at_call 41; refine (sound_any _ b n _ _ _ _ _ _ (BZ.out _ (by first | exact HX.out | exact HX.out.alloc HX.out.size _))).mono ?_; rintro e ws ⟨rfl, hb⟩; rw [HS.out]; have HX := Lib.hid (show Below V.heap.size V ws from by first | exact HX.out.trans (hb.mono HX.out.size) | exact (HX.out.alloc HX.out.size _).trans (hb.mono (HX.out.alloc HX.out.size _).size)); have hk := (bcell HX.out).1; have hlt := Nat.lt_of_lt_of_le hVz HX.out.size; have HBE := Lib.hid hb; clear hb)
      | (go_at_call 25; refine (billed_any _ (GZ.out _ (by first | exact HX.out | exact HX.out.alloc HX.out.size _))).mono ?_; rintro e wz ⟨rfl, hb⟩; have HX := Lib.hid (show Below V.heap.size V wz from by first | exact HX.out.trans (hb.mono HX.out.size) | exact (HX.out.alloc HX.out.size _).trans (hb.mono (HX.out.alloc HX.out.size _).size)); have hk := (bcell HX.out).1; have hlt := Nat.lt_of_lt_of_le hVz HX.out.size; have HBE := Lib.hid hb; clear hb)
      | fail)
    go_ret
    exact ⟨rfl, hBV.trans (HX.out.mono hBV.size)⟩
  · have HF := Lib.hid hok
    have hn2 : n2 ≤ 4 := by have := HL2.out; have := bkOk_head hok; omega
    obtain ⟨w, hw, hinc, hlt0, hz, hcan, hless⟩ := wrong_law hok
    have HW := Lib.hid hw
    have HINC := Lib.hid hinc
    have HLT := Lib.hid (show ∀ x ∈ w, x < n2 from fun x hx => by rw [HL2.out]; exact hlt0 x hx)
    have HZ := Lib.hid hz
    have FRW := Lib.hid (show rightS (b.but w) = (true, 0) by rw [right_but hok]; cases h : truths (b.but w) with | nil => exact absurd h hcan | cons x l => rfl)
    have HLESS := Lib.hid (show ∀ s' : Nat, s' < 2 ^ n2 → fewerL (bitsL ((s' : Nat) : Int) n2) w = true → truths (b.but (bitsL ((s' : Nat) : Int) n2)) = [] by rw [HL2.out]; exact hless)
    have HRB := Lib.hid (fun l => right_but hok l)
    obtain ⟨is, his⟩ : ∃ is, (!(truths b).isEmpty) = is := ⟨_, rfl⟩
    have FR := Lib.hid (show rightS b = (is, 0) by unfold rightS; rw [if_pos hok, his])
    have HIS := Lib.hid his
    have hpow : 0 < 2 ^ n2 := Nat.two_pow_pos n2
    have hpow2 : 2 ^ n2 ≤ 16 := Nat.le_trans (Nat.pow_le_pow_right (by decide) hn2) (by decide)
    obtain ⟨s, hs, hs1⟩ := wrap_at m hpow
    have h2p : ((2 ^ n2 : Nat) : Int) = (2 : Int) ^ n2 := by simp
    have HSN := Lib.hid (show wrapS m ((2 : Int) ^ n2) = (s : Int) by rw [← h2p]; exact hs)
    have hp16 : (2 : Int) ^ n2 ≤ 16 := by omega
    have hp0 : 0 < (2 : Int) ^ n2 := by omega
    have hshl : IntKind.i64.wrap ((2 : Int) ^ n2) = (2 : Int) ^ n2 := IntWalk.i64_in _ (by omega)
    have HPW := Lib.hid (show (2 : Int) ^ n2 ≤ 9223372036854775807 by omega)
    obtain ⟨fw, hfw⟩ : ∃ fw, fewerL (bitsL (s : Int) n2) w = fw := ⟨_, rfl⟩
    obtain ⟨less, hles⟩ : ∃ less, (!(truths (b.but (bitsL (s : Int) n2))).isEmpty) = less := ⟨_, rfl⟩
    have hfl : fw = true → less = false := fun h => by rw [← hles, HLESS.out s hs1 (by rw [hfw]; exact h)]; rfl
    have FFW := Lib.hid hfw
    have FLS := Lib.hid (show rightS (b.but (bitsL (s : Int) n2)) = (less, 0) by rw [right_but hok, hles])
    have HFL := Lib.hid hfl
    clear h2p hp16 hp0 hfw hles hfl
    have hs15 : s ≤ 15 := by omega
    clear hok hw hinc hlt0 hz hcan hless his hs
    go_enter Tryd.func13, Tryd.ntmps13
    go_upto_region 1 with fail
    try rw [hV]
    clear hV
    go_upto_region 2 with (first
      | (go_at_call 38; refine (wrong_ex _ b n _ _ _ _ _ _ (BZ.out _ (by first | exact HX.out | exact HX.out.alloc HX.out.size _)) (GZ.out _ (by first | exact HX.out | exact HX.out.alloc HX.out.size _))).mono ?_; rintro e ww ⟨ra, rl, rc, rfl, hb, hsw⟩; rw [HW.out] at hsw ⊢; have HRL := Lib.hid (nat_len hsw); have HSW := Lib.hid hsw; clear hsw; have HX := Lib.hid (show Below V.heap.size V ww from by first | exact HX.out.trans (hb.mono HX.out.size) | exact (HX.out.alloc HX.out.size _).trans (hb.mono (HX.out.alloc HX.out.size _).size)); have hk := (bcell HX.out).1; have hlt := Nat.lt_of_lt_of_le hVz HX.out.size; have HBE := Lib.hid hb; clear hb)
      | fail)
    go_upto_region 5 with (first
      | (go_at_call 41; refine (sound_any _ b n _ _ _ _ _ _ (BZ.out _ (by first | exact HX.out | exact HX.out.alloc HX.out.size _))).mono ?_; rintro e ws ⟨rfl, hb⟩; rw [HF.out]; have HX := Lib.hid (show Below V.heap.size V ws from by first | exact HX.out.trans (hb.mono HX.out.size) | exact (HX.out.alloc HX.out.size _).trans (hb.mono (HX.out.alloc HX.out.size _).size)); have hk := (bcell HX.out).1; have hlt := Nat.lt_of_lt_of_le hVz HX.out.size; have HBE := Lib.hid hb; clear hb; have HSW := Lib.hid ((HSW.out.below (Nat.le_refl _) HBE.out).mono HBE.out.size))
      | (go_at_call 15; refine (right_ex _ b n _ _ _ _ _ _ (BZ.out _ (by first | exact HX.out | exact HX.out.alloc HX.out.size _)) (GZ.out _ (by first | exact HX.out | exact HX.out.alloc HX.out.size _))).mono ?_; rintro e wr1 ⟨rfl, hb⟩; rw [FR.out]; have HX := Lib.hid (show Below V.heap.size V wr1 from by first | exact HX.out.trans (hb.mono HX.out.size) | exact (HX.out.alloc HX.out.size _).trans (hb.mono (HX.out.alloc HX.out.size _).size)); have hk := (bcell HX.out).1; have hlt := Nat.lt_of_lt_of_le hVz HX.out.size; have HBE := Lib.hid hb; clear hb; have HSW := Lib.hid ((HSW.out.below (Nat.le_refl _) HBE.out).mono HBE.out.size))
      | fail)
    have hcmp : ((rl : Int) == 0) = is := by
      have h1 := HZ.out
      have h2 := HIS.out
      rw [← HRL.out] at h1
      rw [← h2]
      cases hT : truths b with
      | nil =>
        have : rl ≠ 0 := fun h0 => (h1.1 h0) hT
        simp; omega
      | cons x l =>
        have : rl = 0 := h1.2 (by rw [hT]; simp)
        simp [this]
    go_upto_region 7 with (first
      | (go_at_call 55; refine (rising_any _ _ w _ n2 HSW.out HINC.out HLT.out).mono ?_; rintro e wv ⟨rfl, hb⟩; have HX := Lib.hid (show Below V.heap.size V wv from by first | exact HX.out.trans (hb.mono HX.out.size) | exact (HX.out.alloc HX.out.size _).trans (hb.mono (HX.out.alloc HX.out.size _).size)); have hk := (bcell HX.out).1; have hlt := Nat.lt_of_lt_of_le hVz HX.out.size; have HBE := Lib.hid hb; clear hb; have HSW := Lib.hid ((HSW.out.below (Nat.le_refl _) HBE.out).mono HBE.out.size))
      | fail)
    obtain ⟨X, hX⟩ : ∃ X, wv = X := ⟨_, rfl⟩
    rw [hX] at HX HSW hk hlt ⊢
    have y5 : X.cell? ⟨W.heap.size, 5, none⟩ = some (.slice ka n2 kc) := (HX.out.cell (p := ⟨W.heap.size, 5, none⟩) hVz).trans c5
    have HHK := Lib.hid hk
    clear hX hcmp hk HBE
    go_region_with (first
      | (go_at_call 48; refine (wrap_any _ _ HPW.out _).mono ?_; rintro e wm ⟨rfl, rfl⟩; rw [HSN.out])
      | (go_at_call 56; refine (all_any _ (s : Int) n2 (by omega) hn2).mono ?_; rintro e wa ⟨oa, oc, rfl, hb, hso⟩; have HBA := Lib.hid (bel1 (V := X) hb); have HSO := Lib.hid hso; clear hb hso))
    all_goals
      simp only [Act.put, List.setIfInBounds_toArray]
      have HSW := Lib.hid ((HSW.out.below (Nat.le_refl _) HBA.out).mono HBA.out.size)
      have HX := Lib.hid (HX.out.trans (HBA.out.mono HX.out.size))
      have hk := (bcell HX.out).1
      have hlt := Nat.lt_of_lt_of_le hVz HX.out.size
      obtain ⟨ol, hol⟩ : ∃ ol, (bitsL (s : Int) n2).length = ol := ⟨_, rfl⟩
      rw [hol] at HSO ⊢
      clear y5 HHK HBA hol
      go_upto_region 9 with (first
        | (go_at_call 57; refine (without_any _ b n _ _ _ _ _ _ (BZ.out _ (by first | exact HX.out | exact HX.out.alloc HX.out.size _)) hn2 (.slice ra rl rc) (w) HSW.out).mono ?_; rintro e wb ⟨a1, mm, cc, rfl, hb, hbk⟩; have HBKW := Lib.hid hbk; clear hbk; have HX := Lib.hid (show Below V.heap.size V wb from by first | exact HX.out.trans (hb.mono HX.out.size) | exact (HX.out.alloc HX.out.size _).trans (hb.mono (HX.out.alloc HX.out.size _).size)); have hk := (bcell HX.out).1; have hlt := Nat.lt_of_lt_of_le hVz HX.out.size; have HBE := Lib.hid hb; clear hb; have HSW := Lib.hid ((HSW.out.below (Nat.le_refl _) HBE.out).mono HBE.out.size); have HSO := Lib.hid ((HSO.out.below (Nat.le_refl _) HBE.out).mono HBE.out.size); simp only [Bk.cells, Bk.but])
        | (go_at_call 15; refine (right_ex _ (b.but (w)) _ _ _ _ _ _ _ HBKW.out (GZ.out _ (by first | exact HX.out | exact HX.out.alloc HX.out.size _))).mono ?_; rintro e wc ⟨rfl, hb⟩; rw [FRW.out]; have HX := Lib.hid (show Below V.heap.size V wc from by first | exact HX.out.trans (hb.mono HX.out.size) | exact (HX.out.alloc HX.out.size _).trans (hb.mono (HX.out.alloc HX.out.size _).size)); have hk := (bcell HX.out).1; have hlt := Nat.lt_of_lt_of_le hVz HX.out.size; have HBE := Lib.hid hb; clear hb; have HSW := Lib.hid ((HSW.out.below (Nat.le_refl _) HBE.out).mono HBE.out.size); have HSO := Lib.hid ((HSO.out.below (Nat.le_refl _) HBE.out).mono HBE.out.size))
        | fail)
      go_upto_region 10 with (first
        | (go_at_call 57; refine (without_any _ b n _ _ _ _ _ _ (BZ.out _ (by first | exact HX.out | exact HX.out.alloc HX.out.size _)) hn2 (.slice oa ol oc) (bitsL (s : Int) n2) HSO.out).mono ?_; rintro e wd ⟨a1, mm, cc, rfl, hb, hbk⟩; have HBKW := Lib.hid hbk; clear hbk; have HX := Lib.hid (show Below V.heap.size V wd from by first | exact HX.out.trans (hb.mono HX.out.size) | exact (HX.out.alloc HX.out.size _).trans (hb.mono (HX.out.alloc HX.out.size _).size)); have hk := (bcell HX.out).1; have hlt := Nat.lt_of_lt_of_le hVz HX.out.size; have HBE := Lib.hid hb; clear hb; have HSW := Lib.hid ((HSW.out.below (Nat.le_refl _) HBE.out).mono HBE.out.size); have HSO := Lib.hid ((HSO.out.below (Nat.le_refl _) HBE.out).mono HBE.out.size); simp only [Bk.cells, Bk.but])
        | (go_at_call 15; refine (right_ex _ (b.but (bitsL (s : Int) n2)) _ _ _ _ _ _ _ HBKW.out (GZ.out _ (by first | exact HX.out | exact HX.out.alloc HX.out.size _))).mono ?_; rintro e we ⟨rfl, hb⟩; rw [FLS.out]; have HX := Lib.hid (show Below V.heap.size V we from by first | exact HX.out.trans (hb.mono HX.out.size) | exact (HX.out.alloc HX.out.size _).trans (hb.mono (HX.out.alloc HX.out.size _).size)); have hk := (bcell HX.out).1; have hlt := Nat.lt_of_lt_of_le hVz HX.out.size; have HBE := Lib.hid hb; clear hb; have HSW := Lib.hid ((HSW.out.below (Nat.le_refl _) HBE.out).mono HBE.out.size); have HSO := Lib.hid ((HSO.out.below (Nat.le_refl _) HBE.out).mono HBE.out.size))
        | fail)
      rcases hfb : fw with _ | _
      · go_wp2_with (first
          | (go_at_call 58; refine (fewer_any _ _ _ (bitsL (s : Int) n2) w _ HSO.out HSW.out (Nat.le_refl _)).mono ?_; rintro e wf ⟨rfl, hb⟩; rw [FFW.out, hfb]; have HX := Lib.hid (show Below V.heap.size V wf from by first | exact HX.out.trans (hb.mono HX.out.size) | exact (HX.out.alloc HX.out.size _).trans (hb.mono (HX.out.alloc HX.out.size _).size)); have hk := (bcell HX.out).1; have hlt := Nat.lt_of_lt_of_le hVz HX.out.size; have HBE := Lib.hid hb; clear hb)
          | (go_at_call 25; refine (billed_any _ (GZ.out _ (by first | exact HX.out | exact HX.out.alloc HX.out.size _))).mono ?_; rintro e wz ⟨rfl, hb⟩; have HX := Lib.hid (show Below V.heap.size V wz from by first | exact HX.out.trans (hb.mono HX.out.size) | exact (HX.out.alloc HX.out.size _).trans (hb.mono (HX.out.alloc HX.out.size _).size)); have hk := (bcell HX.out).1; have hlt := Nat.lt_of_lt_of_le hVz HX.out.size; have HBE := Lib.hid hb; clear hb)
          | fail)
        go_ret
        exact ⟨rfl, hBV.trans (HX.out.mono hBV.size)⟩
      · have hlf : less = false := HFL.out hfb
        subst hlf
        go_wp2_with (first
          | (go_at_call 58; refine (fewer_any _ _ _ (bitsL (s : Int) n2) w _ HSO.out HSW.out (Nat.le_refl _)).mono ?_; rintro e wf ⟨rfl, hb⟩; rw [FFW.out, hfb]; have HX := Lib.hid (show Below V.heap.size V wf from by first | exact HX.out.trans (hb.mono HX.out.size) | exact (HX.out.alloc HX.out.size _).trans (hb.mono (HX.out.alloc HX.out.size _).size)); have hk := (bcell HX.out).1; have hlt := Nat.lt_of_lt_of_le hVz HX.out.size; have HBE := Lib.hid hb; clear hb)
          | (go_at_call 25; refine (billed_any _ (GZ.out _ (by first | exact HX.out | exact HX.out.alloc HX.out.size _))).mono ?_; rintro e wz ⟨rfl, hb⟩; have HX := Lib.hid (show Below V.heap.size V wz from by first | exact HX.out.trans (hb.mono HX.out.size) | exact (HX.out.alloc HX.out.size _).trans (hb.mono (HX.out.alloc HX.out.size _).size)); have hk := (bcell HX.out).1; have hlt := Nat.lt_of_lt_of_le hVz HX.out.size; have HBE := Lib.hid hb; clear hb)
          | fail)
        go_ret
        exact ⟨rfl, hBV.trans (HX.out.mono hBV.size)⟩
end Go.Proofs.YtbhjfojbjpbdbaaDoor
