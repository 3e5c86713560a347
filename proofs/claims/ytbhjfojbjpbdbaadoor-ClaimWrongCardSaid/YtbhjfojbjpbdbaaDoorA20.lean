/-
  The contracts of Blame and First (package claim). Written by this session; printed by wip/tools/a20.py.
-/
import Derived.Test.YtbhjfojbjpbdbaaDoorA17
namespace Go.Proofs.YtbhjfojbjpbdbaaDoor
open Go.RowKit

theorem index102 (f0 f1 : Value) : (∀ w, (Instr.index 102 (.agg #[f0, f1]) (.int .i64 0)).run Tryd.prog w = .ok f0 w) ∧ (∀ w, (Instr.index 102 (.agg #[f0, f1]) (.int .i64 1)).run Tryd.prog w = .ok f1 w) :=
  ⟨fun w => by kernel_rfl, fun w => by kernel_rfl⟩

set_option maxRecDepth 100000 in
set_option maxHeartbeats 2000000 in
theorem blame_ex (W : World) (b : Bk) (n : Nat) (sa ka : Option Addr) (n1 sc n2 kc : Nat) (hv : BookW W n sa ka n1 sc n2 kc b) (hG : Glob W) :
    Calls Tryd.prog 28 #[.agg (b.cells (.slice sa n1 sc) (.slice ka n2 kc)).toArray] W fun e W' => e = .returned (.tuple #[.int .i64 (blameS b).1, .int .i64 (blameS b).2]) ∧ Below W.heap.size W W' := by
  obtain ⟨V, hV⟩ : ∃ V, W.alloc (Obj.cells #[.slice sa n1 sc, .int .i64 b.wth, .int .i64 b.c0, .int .i64 b.c1, .int .i64 b.c2, .slice ka n2 kc, .int .i64 b.rate] 26) = V := ⟨_, rfl⟩
  have hBV : Below W.heap.size W V := by rw [← hV]; exact (Below.refl _ _).alloc (Nat.le_refl _) _
  have hb0 : V.heap[W.heap.size]? = some (Obj.cells #[.slice sa n1 sc, .int .i64 b.wth, .int .i64 b.c0, .int .i64 b.c1, .int .i64 b.c2, .slice ka n2 kc, .int .i64 b.rate] 26) := by rw [← hV]; exact World.alloc_heap_new _ _
  have hVz : W.heap.size < V.heap.size := (Array.getElem?_eq_some_iff.1 hb0).1
  have HGV := Lib.hid (hG.below hG.lt hBV)
  have HVB := Lib.hid (hv.below hv.hn hBV)
  have HN := Lib.hid hv.hn
  have c0 : V.cell? ⟨W.heap.size, 0, none⟩ = some (.slice sa n1 sc) := blk_cell hb0
  have c1 : V.cell? ⟨W.heap.size, 1, none⟩ = some (.int .i64 b.wth) := blk_cell hb0
  have c2 : V.cell? ⟨W.heap.size, 2, none⟩ = some (.int .i64 b.c0) := blk_cell hb0
  have c3 : V.cell? ⟨W.heap.size, 3, none⟩ = some (.int .i64 b.c1) := blk_cell hb0
  have c4 : V.cell? ⟨W.heap.size, 4, none⟩ = some (.int .i64 b.c2) := blk_cell hb0
  have c5 : V.cell? ⟨W.heap.size, 5, none⟩ = some (.slice ka n2 kc) := blk_cell hb0
  have c6 : V.cell? ⟨W.heap.size, 6, none⟩ = some (.int .i64 b.rate) := blk_cell hb0
  have HL1 := Lib.hid hv.l1
  clear hv hG hb0
  simp only [Bk.cells]
  go_enter Tryd.func28, Tryd.ntmps28
  go_upto_region 2 with (first
    | (go_at_call 80; refine (asked_any V b true n sa ka n1 sc n2 kc HVB.out HGV.out).mono ?_; rintro e w2 ⟨x, sa', ka', ta, sl', sc', kl', kc', tl, tc, mo, rfl, hb2, hx⟩; have HB2 := Lib.hid hb2; have HX := Lib.hid hx; clear hb2 hx; simp only [Bk.cells9])
    | fail)
  obtain ⟨hBX, _, hC, hX⟩ := asked_new (V := V) (w2 := w2) (ka' := ka') (kl' := kl') (kc' := kc') (mo := mo) (x := x) ⟨HB2.out.os, HB2.out.tape, HB2.out.output, HB2.out.size, HB2.out.block⟩ HX.out
  simp only [Bk.cells9] at hBX hC hX
  obtain ⟨X, hXe⟩ : ∃ X, w2.alloc (.cells #[.slice sa' sl' sc', .int .i64 x.wth, .int .i64 x.c0, .int .i64 x.c1, .int .i64 x.c2, .slice ka' kl' kc', .int .i64 x.rate, .map mo, .slice ta tl tc] 79) = X := ⟨_, rfl⟩
  try rw [hXe]
  rw [hXe] at hBX hC hX
  clear hXe HB2 HX
  obtain ⟨P8, hP8⟩ : ∃ P8, w2.heap.size = P8 := ⟨_, rfl⟩
  rw [hP8] at hC ⊢
  clear hP8
  obtain ⟨E, hE⟩ : ∃ E, askE b true = E := ⟨_, rfl⟩
  rw [hE] at hX ⊢
  have hBW := hBV.trans (hBX.mono hBV.size)
  have HC := Lib.hid hC
  clear c0 c1 c2 c3 c4 c5 c6 hC
  have HGX := Lib.hid (HGV.out.below HGV.out.lt hBX)
  by_cases hE0 : E = 0
  · obtain ⟨rfl, rfl, rfl, rfl, hT⟩ := hX hE0
    have hask : askE x true = 0 := by rw [hE, hE0]
    obtain ⟨hok, _, hne⟩ := askE_zero hask
    have HT := Lib.hid hT
    have HNE := Lib.hid hne
    have HOK := Lib.hid (truths_ok (sound_of hok))
    have HSO := Lib.hid (sound_of hok)
    have HS := Lib.hid ((HVB.out.below (by have := HN.out; omega) hBX).hs)
    have HNX := Lib.hid (show n ≤ X.heap.size from Nat.le_trans HN.out hBW.size)
    have e0 : X.cell? ⟨P8, 0, none⟩ = some (.slice sa' sl' sc') := blk_cell HC.out
    have e1 : X.cell? ⟨P8, 1, none⟩ = some (.int .i64 x.wth) := blk_cell HC.out
    have e2 : X.cell? ⟨P8, 2, none⟩ = some (.int .i64 x.c0) := blk_cell HC.out
    have e3 : X.cell? ⟨P8, 3, none⟩ = some (.int .i64 x.c1) := blk_cell HC.out
    have e4 : X.cell? ⟨P8, 4, none⟩ = some (.int .i64 x.c2) := blk_cell HC.out
    have e5 : X.cell? ⟨P8, 5, none⟩ = some (.slice ka' kl' kc') := blk_cell HC.out
    have e6 : X.cell? ⟨P8, 6, none⟩ = some (.int .i64 x.rate) := blk_cell HC.out
    have e7 : X.cell? ⟨P8, 7, none⟩ = some (.map mo) := blk_cell HC.out
    have e8 : X.cell? ⟨P8, 8, none⟩ = some (.slice ta tl tc) := blk_cell HC.out
    have HSS := Lib.hid (show blameS x = (kindOf x, 0) by simp [blameS, hask])
    have HBD := Lib.hid (bds_of hok)
    clear hX hE hT hne hask hok
    subst hE0
    go_upto_region 5 with (first
      | (go_at_call 81; refine (blame_any X x (.slice sa' sl' sc') (.slice ka' kl' kc') (.map mo) (.slice ta tl tc) (truths x) X.heap.size (Nat.le_refl _) (HS.out.mono HNX.out) HBD.out HT.out HOK.out).mono ?_; rintro e w5 ⟨rfl, hb5⟩; have HB5 := Lib.hid hb5; clear hb5)
      | fail)
    obtain ⟨Y, hY⟩ : ∃ Y, w5.alloc (.cells #[.int .i64 (((truths x).countP (blamed x) : Nat) : Int), .int .i64 (((truths x).length : Nat) : Int)] 99) = Y := ⟨_, rfl⟩
    have hY0 : Y.heap[w5.heap.size]? = some (.cells #[.int .i64 (((truths x).countP (blamed x) : Nat) : Int), .int .i64 (((truths x).length : Nat) : Int)] 99) := by rw [← hY]; exact World.alloc_heap_new _ _
    have hXY : Below X.heap.size X Y := by rw [← hY]; exact HB5.out.alloc HB5.out.size _
    try rw [hY]
    clear hY
    obtain ⟨P7, hP7⟩ : ∃ P7, w5.heap.size = P7 := ⟨_, rfl⟩
    rw [hP7] at hY0 ⊢
    clear hP7
    have HGY := Lib.hid (HGX.out.below HGX.out.lt hXY)
    have kk0 : Y.cell? ⟨0, 0, none⟩ = some (.func (.func 125) #[] #[]) := HGY.out.k0
    have kk1 : Y.cell? ⟨0, 1, none⟩ = some (.func (.func 123) #[] #[]) := HGY.out.k1
    have HXY := Lib.hid hXY
    have HY0 := Lib.hid hY0
    have hWY := hBW.trans (hXY.mono hBW.size)
    have HWY := Lib.hid hWY
    clear hXY hY0 hWY e0 e1 e2 e3 e4 e5 e6 e7 e8
    obtain ⟨hi0, hi1⟩ := index102 (.func (.func 125) #[] #[]) (.func (.func 123) #[] #[])
    obtain ⟨so, hso⟩ : ∃ so, (truths x).countP (blamed x) = so := ⟨_, rfl⟩
    obtain ⟨al, hal⟩ : ∃ al, (truths x).length = al := ⟨_, rfl⟩
    have HK := Lib.hid (show kindOf x = (if 0 < so then 1 else 0) + (if so = al then 1 else 0) by unfold kindOf blames; rw [hso, hal])
    rw [hso, hal] at HY0 ⊢
    clear hso hal
    go_wp2_with fail
    go_loopg [6, 21] 2 (fun n st i wx => ∃ (q : Nat) (m : Int), q ≤ 2 ∧ n = 2 - q ∧ st = .int .i64 m ∧ i = .int .i64 (q : Int) ∧ m = (if 1 ≤ q then (if 0 < so then 1 else 0) else 0) + (if 2 ≤ q then (if so = al then 1 else 0) else 0) ∧ Below Y.heap.size Y wx)
    case atStart => exact ⟨0, 0, by omega, rfl, rfl, rfl, by simp, Below.refl _ _⟩
    case round =>
      obtain ⟨q, m, hq, hgk, rfl, rfl, hm, hbx⟩ := hrel
      have HG2 := Lib.hid hgk
      have HM := Lib.hid hm
      have v0 : wr.cell? ⟨P7, 0, none⟩ = some (.int .i64 (so : Int)) := (hbx.cell (p := ⟨P7, 0, none⟩) (Array.getElem?_eq_some_iff.1 HY0.out).1).trans (blk_cell HY0.out)
      have v1 : wr.cell? ⟨P7, 1, none⟩ = some (.int .i64 (al : Int)) := (hbx.cell (p := ⟨P7, 1, none⟩) (Array.getElem?_eq_some_iff.1 HY0.out).1).trans (blk_cell HY0.out)
      clear hgk hm
      have hmb : 0 ≤ m ∧ m ≤ 2 := by rw [HM.out]; split <;> split <;> (try split) <;> (try split) <;> omega
      have hqq : q = 0 ∨ q = 1 ∨ q = 2 := by omega
      rcases hqq with rfl | rfl | rfl
      · have HM0 := Lib.hid (show m = 0 by rw [HM.out]; simp)
        by_cases hso : 0 < so
        · have hso2 : decide ((0 : Int) < (so : Int)) = true := by simp; omega
          have HM1 := Lib.hid (show m + 1 = (if 1 ≤ 0 + 1 then (if 0 < so then 1 else 0) else 0) + (if 2 ≤ 0 + 1 then (if so = al then 1 else 0) else 0) by rw [HM0.out]; simp [hso])
          clear hso
          go_wp2_with (first | (go_at_call 125; refine (some_any _ _ _).mono ?_; rintro e w6 ⟨rfl, hb6⟩; rw [hso2]; have HB6 := Lib.hid hb6; clear hb6) | fail)
          go_roundg 1
          case measure => rw [HG2.out]; omega
          case rel => exact ⟨0 + 1, m + 1, by omega, rfl, rfl, by go_num, HM1.out, hbx.trans (HB6.out.mono hbx.size)⟩
        · have hso2 : decide ((0 : Int) < (so : Int)) = false := by simp; omega
          have HM1 := Lib.hid (show m = (if 1 ≤ 0 + 1 then (if 0 < so then 1 else 0) else 0) + (if 2 ≤ 0 + 1 then (if so = al then 1 else 0) else 0) by rw [HM0.out]; simp [hso])
          clear hso
          go_wp2_with (first | (go_at_call 125; refine (some_any _ _ _).mono ?_; rintro e w6 ⟨rfl, hb6⟩; rw [hso2]; have HB6 := Lib.hid hb6; clear hb6) | fail)
          go_roundg 1
          case measure => rw [HG2.out]; omega
          case rel => exact ⟨0 + 1, m, by omega, rfl, rfl, by go_num, HM1.out, hbx.trans (HB6.out.mono hbx.size)⟩
      · by_cases hso : so = al
        · have hso2 : ((so : Int) == (al : Int)) = true := by simp; omega
          have HM1 := Lib.hid (show m + 1 = (if 1 ≤ 1 + 1 then (if 0 < so then 1 else 0) else 0) + (if 2 ≤ 1 + 1 then (if so = al then 1 else 0) else 0) by rw [HM.out]; simp [hso])
          clear hso
          go_wp2_with (first | (go_at_call 123; refine (each_any _ _ _).mono ?_; rintro e w6 ⟨rfl, hb6⟩; rw [hso2]; have HB6 := Lib.hid hb6; clear hb6) | fail)
          go_roundg 0
          case measure => rw [HG2.out]; omega
          case rel => exact ⟨1 + 1, m + 1, by omega, rfl, rfl, by go_num, HM1.out, hbx.trans (HB6.out.mono hbx.size)⟩
        · have hso2 : ((so : Int) == (al : Int)) = false := by simp; omega
          have HM1 := Lib.hid (show m = (if 1 ≤ 1 + 1 then (if 0 < so then 1 else 0) else 0) + (if 2 ≤ 1 + 1 then (if so = al then 1 else 0) else 0) by rw [HM.out]; simp [hso])
          clear hso
          go_wp2_with (first | (go_at_call 123; refine (each_any _ _ _).mono ?_; rintro e w6 ⟨rfl, hb6⟩; rw [hso2]; have HB6 := Lib.hid hb6; clear hb6) | fail)
          go_roundg 0
          case measure => rw [HG2.out]; omega
          case rel => exact ⟨1 + 1, m, by omega, rfl, rfl, by go_num, HM1.out, hbx.trans (HB6.out.mono hbx.size)⟩
      · have HMK := Lib.hid (show m = kindOf x by rw [HM.out, HK.out]; simp)
        go_wp2_with fail
        refine bodyPost_ret (results_tmp2 rfl _ _ _) rfl ⟨?_, HWY.out.trans (hbx.mono HWY.out.size)⟩
        rw [HSS.out, ← HMK.out]
        rfl
  · have HSS := Lib.hid (show blameS b = (0, E) by unfold blameS; rw [hE, if_neg hE0])
    clear hX hE
    go_wp2_with fail
    refine bodyPost_ret (results_tmp2 rfl _ _ _) rfl ⟨?_, hBW⟩
    rw [HSS.out]
    rfl

end Go.Proofs.YtbhjfojbjpbdbaaDoor
