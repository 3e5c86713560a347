/-
  The contract of Wrong (package claim). Written by this session; printed by wip/tools/a27.py.
-/
import Derived.Test.YtbhjfojbjpbdbaaDoorA26
namespace Go.Proofs.YtbhjfojbjpbdbaaDoor
open Go.RowKit

theorem SlOf.cut {W : World} {m : Nat} {ra : Option Addr} {rl rc : Nat} {rows : List (List Value)} (h : SlOf W m 1 (.slice ra rl rc) rows) : SlOf W m 1 (.slice ra rl rl) rows ∧ rl ≤ rc ∧ rc ≤ maxLen := by
  obtain ⟨a, c, e, h1, h2, h3, h4⟩ := h
  injection e with e1 e2 e3
  subst e1; subst e2; subst e3
  exact ⟨⟨ra, rows.length, rfl, Nat.le_refl _, by omega, h3, h4⟩, h1, h2⟩

theorem wrongFrom_step (b : Bk) {q N : Nat} (h : q < N) : wrongFrom b q (N - q) = match leaveL b q [] with | some r => some r | none => wrongFrom b (q + 1) (N - (q + 1)) := by
  rw [show N - q = (N - (q + 1)) + 1 by omega, wrongFrom]
  cases leaveL b q [] <;> rfl

set_option maxRecDepth 100000 in
set_option maxHeartbeats 4000000 in
theorem wrong_ex (W : World) (b : Bk) (n : Nat) (sa ka : Option Addr) (n1 sc n2 kc : Nat) (hv : BookW W n sa ka n1 sc n2 kc b) (hG : Glob W) :
    Calls Tryd.prog 38 #[.agg (b.cells (.slice sa n1 sc) (.slice ka n2 kc)).toArray] W fun e W' => ∃ (ra : Option Addr) (rl rc : Nat), e = .returned (.tuple #[.slice ra rl rc, .int .i64 (wrongS b).2]) ∧ Below W.heap.size W W' ∧
      SlOf W' W'.heap.size 1 (.slice ra rl rc) (natCells (wrongS b).1) := by
  obtain ⟨V, hV⟩ : ∃ V, W.alloc (Obj.cells #[.slice sa n1 sc, .int .i64 b.wth, .int .i64 b.c0, .int .i64 b.c1, .int .i64 b.c2, .slice ka n2 kc, .int .i64 b.rate] 26) = V := ⟨_, rfl⟩
  have hBV : Below W.heap.size W V := by rw [← hV]; exact (Below.refl _ _).alloc (Nat.le_refl _) _
  have hb0 : V.heap[W.heap.size]? = some (Obj.cells #[.slice sa n1 sc, .int .i64 b.wth, .int .i64 b.c0, .int .i64 b.c1, .int .i64 b.c2, .slice ka n2 kc, .int .i64 b.rate] 26) := by rw [← hV]; exact World.alloc_heap_new _ _
  have hVz : W.heap.size < V.heap.size := (Array.getElem?_eq_some_iff.1 hb0).1
  have HGV := Lib.hid (hG.below hG.lt hBV)
  have HVB := Lib.hid (hv.below hv.hn hBV)
  have HN := Lib.hid hv.hn
  have c0 : V.cell? ⟨W.heap.size, 0, none⟩ = some (.slice sa n1 sc) := blk_cell hb0
  have c1 : V.cell? ⟨W.heap.size, 1, none⟩ = some (.int .i64 b.wth) := blk_cell hb0
  have c2 : V.cell? ⟨W.heap.size, 2, none⟩ = some (.int .i64 b.c0) := blk_cell hb0
  have c3 : V.cell? ⟨W.heap.size, 3, none⟩ = some (.int .i64 b.c1) := blk_cell hb0
  have c4 : V.cell? ⟨W.heap.size, 4, none⟩ = some (.int .i64 b.c2) := blk_cell hb0
  have c5 : V.cell? ⟨W.heap.size, 5, none⟩ = some (.slice ka n2 kc) := blk_cell hb0
  have c6 : V.cell? ⟨W.heap.size, 6, none⟩ = some (.int .i64 b.rate) := blk_cell hb0
  have HB0 := Lib.hid hb0
  clear hb0 hv hG
  simp only [Bk.cells]
  by_cases hok : bkOk b = true
  · have HCK := Lib.hid (show checkS b = 0 by simp [checkS, hok])
    have HSO := Lib.hid (sound_of hok)
    have HR := Lib.hid (show wrongS b = (wrongL b, 0) by simp [wrongS, hok])
    have h4 : n2 ≤ 4 := by have h := HVB.out.l2; have h2 := bkOk_head hok; omega
    have HL2 := Lib.hid HVB.out.l2
    clear hok
    go_enter Tryd.func38, Tryd.ntmps38
    go_upto_region 1 with fail
    try rw [hV]
    clear hV
    go_upto_region 6 with (first
      | (go_at_call 17; refine (check_any _ _ b HVB.out.v).mono ?_; rintro e w1 ⟨rfl, hb1⟩; rw [HCK.out]; have hk1 := (bcell hb1).1; have hz1 := Nat.lt_of_lt_of_le hVz hb1.size; have HB1 := Lib.hid hb1; clear hb1)
      | fail)
    obtain ⟨PL, hPL⟩ : ∃ PL, w1.heap.size = PL := ⟨_, rfl⟩
    obtain ⟨X, hX⟩ : ∃ X, w1.alloc (.cells #[.func (.func 87) #[] #[.pointer (some ⟨W.heap.size, 0, none⟩), .pointer (some ⟨w1.heap.size, 0, none⟩)]] 108) = X := ⟨_, rfl⟩
    have hl : X.heap[w1.heap.size]? = some (.cells #[.func (.func 87) #[] #[.pointer (some ⟨W.heap.size, 0, none⟩), .pointer (some ⟨w1.heap.size, 0, none⟩)]] 108) := by rw [← hX]; exact World.alloc_heap_new _ _
    have hBX : Below V.heap.size V X := by rw [← hX]; exact HB1.out.alloc HB1.out.size _
    try rw [hX]
    have hEX : LEnv b n sa ka n1 sc n2 kc W.heap.size w1.heap.size X := ⟨HVB.out.below HVB.out.hn hBX, HGV.out.below HGV.out.lt hBX, (hBX.block _ hVz).trans HB0.out, hl⟩
    rw [hPL] at hEX hl ⊢
    have HEX := Lib.hid hEX
    have HBW := Lib.hid (hBV.trans (hBX.mono hBV.size))
    have x5 : X.cell? ⟨W.heap.size, 5, none⟩ = some (.slice ka n2 kc) := blk_cell hEX.hx
    clear hX hl hBX hEX hk1 hz1 hPL c0 c1 c2 c3 c4 c5 c6 HB1
    go_wp2_with fail
    go_loopg [19] (n2 + 1) (fun n0 i wx => ∃ (q : Nat), q ≤ n2 + 1 ∧ n0 = n2 + 1 - q ∧ i = .int .i64 (q : Int) ∧ wrongFrom b q (n2 + 1 - q) = wrongFrom b 0 (n2 + 1) ∧ Below X.heap.size X wx)
    case atStart => exact ⟨0, by omega, rfl, rfl, rfl, Below.refl _ _⟩
    case round =>
      obtain ⟨q, hq, hgk, rfl, hrest, hbx⟩ := hrel
      have HG2 := Lib.hid hgk
      have HRE := Lib.hid hrest
      have HER := Lib.hid (HEX.out.below hbx)
      have HBX := Lib.hid hbx
      have zl : wr.cell? ⟨PL, 0, none⟩ = some (.func (.func 87) #[] #[.pointer (some ⟨W.heap.size, 0, none⟩), .pointer (some ⟨PL, 0, none⟩)]) := blk_cell HER.out.hl
      clear hgk hrest hbx
      by_cases hlt : q < n2 + 1
      · have hqi : (q : Int) < (n2 : Int) + 1 := by omega
        have HCALL := Lib.hid (leave_any HSO.out h4 q [] wr none 0 0 0 (q : Int) HER.out rfl ⟨none, 0, rfl, Nat.le_refl _, by simp [maxLen], by simp [natCells], fun h => absurd h (by simp [natCells])⟩ (Nat.zero_le _) (by simp) (by omega) (by simp))
        rcases hcl : leaveL b q [] with _ | r
        · have HCL := Lib.hid hcl
          clear hcl
          go_wp2_with fail
          refine HCALL.out.mono ?_
          rintro e w2 ⟨ra, rl, rc, rfl, hb2, _⟩
          rw [HCL.out]
          have HB2 := Lib.hid hb2
          clear hb2
          simp only [Option.isSome]
          go_wp2_with fail
          go_roundg (n2 + 1 - (q + 1))
          case measure => rw [HG2.out]; omega
          case rel => exact ⟨q + 1, by omega, rfl, by go_num, by (have h := wrongFrom_step b hlt); rw [HCL.out] at h; rw [← HRE.out]; exact h.symm, HBX.out.trans (HB2.out.mono HBX.out.size)⟩
        · have HCL := Lib.hid hcl
          clear hcl
          go_wp2_with fail
          refine HCALL.out.mono ?_
          rintro e w2 ⟨ra, rl, rc, rfl, hb2, hr⟩
          obtain ⟨hs1, hs2, hs3⟩ := (hr r HCL.out).cut
          unfold maxLen at hs3
          rw [HCL.out]
          have HB2 := Lib.hid hb2
          have HS1 := Lib.hid hs1
          clear hb2 hr hs1
          simp only [Option.isSome]
          go_wp2_with fail
          refine bodyPost_ret (results_tmp2 rfl _ _ _) rfl ⟨ra, rl, rl, ?_, HBW.out.trans ((HBX.out.trans (HB2.out.mono HBX.out.size)).mono HBW.out.size), ?_⟩
          · rw [HR.out]; rfl
          · have h := wrongFrom_step b hlt
            rw [HCL.out, HRE.out] at h
            have hw : (wrongS b).1 = r := by rw [HR.out]; show wrongL b = r; rw [wrongL_eq, ← HL2.out, h]; rfl
            rw [hw]
            exact HS1.out
      · have hqi : ¬ (q : Int) < (n2 : Int) + 1 := by omega
        go_wp2_with fail
        refine bodyPost_ret (results_tmp2 rfl _ _ _) rfl ⟨none, 0, 0, ?_, HBW.out.trans (HBX.out.mono HBW.out.size), ?_⟩
        · rw [HR.out]; rfl
        · have h := HRE.out
          rw [show n2 + 1 - q = 0 by omega] at h
          have hw : (wrongS b).1 = [] := by rw [HR.out]; show wrongL b = []; rw [wrongL_eq, ← HL2.out, ← h]; cases q <;> rfl
          rw [hw]
          exact slOf_nil _ _ _
  · have HCK := Lib.hid (show checkS b = 60 by simp [checkS, hok])
    have HR := Lib.hid (show wrongS b = ([], 60) by simp [wrongS, hok])
    clear hok
    go_enter Tryd.func38, Tryd.ntmps38
    go_upto_region 1 with fail
    try rw [hV]
    clear hV
    go_wp2_with (first
      | (go_at_call 17; refine (check_any _ _ b HVB.out.v).mono ?_; rintro e w1 ⟨rfl, hb1⟩; rw [HCK.out]; have HB1 := Lib.hid hb1; clear hb1)
      | fail)
    refine bodyPost_ret (results_tmp2 rfl _ _ _) rfl ⟨none, 0, 0, ?_, hBV.trans (HB1.out.mono hBV.size), ?_⟩
    · rw [HR.out]; rfl
    · rw [HR.out]; exact slOf_nil _ _ _
end Go.Proofs.YtbhjfojbjpbdbaaDoor
