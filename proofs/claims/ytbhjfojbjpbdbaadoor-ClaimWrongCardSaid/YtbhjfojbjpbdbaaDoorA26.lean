/-
  The contract of the closure by which Wrong chooses clocks (package claim). Written by this session; printed by wip/tools/a26.py.
-/
import Derived.Test.YtbhjfojbjpbdbaaDoorA24
import Derived.Test.YtbhjfojbjpbdbaaDoorA25
import Derived.Deep.RegionLaw
import Derived.Shelf.Abstract
namespace Go.Proofs.YtbhjfojbjpbdbaaDoor
open Go.RowKit

theorem step_append_sl {P : Program} {ops : Array Oper} {o : Oper} {a : Act} {w : World} {K : Act → World → Prop} {Q : Exit → Act → World → Prop} {E : Prop}
    (hg : o.guard = none) (s x : Operand) (t : TypeId) (hop : o.op = Op.call { callee := Callee.builtin Builtin.append, args := #[s, x], argTypes := #[t, t] })
    (e : TypeId) (i : TypeInfo) (z : Value) (size bytes : Nat) (ht : P.underlying t = some (.slice e)) (hi : P.info? e = some i) (hz : i.zero = some z)
    (hsize : i.size = size) (hby : i.bytes = bytes) (hzs : z.cells.size = size) (hsz : 0 < size) {n : Nat} {ad : Option Addr} {len c : Nat} {rows : List (List Value)} (hl : len = rows.length)
    (hs : SlOf w n size (.slice ad len c) rows) (r : List Value) (hr : r.length = size) (h1 : ∀ u ∈ r, u.oneCell' = true) (N : Nat) (hN : ∀ j u, r[j]? = some u → w.cell? ⟨N, j, none⟩ = some u)
    (b1 : len + 1 ≤ maxLen) (b2 : (len + 1) * bytes ≤ 140737488355328) (hsv : a.eval s = .slice ad len len) (hx : a.eval x = .slice (some ⟨N, 0, none⟩) 1 1)
    (hK : ∀ g cap w', SlOf w' w'.heap.size size (.slice (some ⟨g, 0, none⟩) (len + 1) cap) (rows ++ [r]) → Below w.heap.size w w' → K (a.put o.dst (.slice (some ⟨g, 0, none⟩) (len + 1) cap)) w') :
    if Region.wanted o (yielded ops a.tmps) = true then Oper.wp P o a w K Q else E := by
  have hw : Region.wanted o (yielded ops a.tmps) = true := by simp [Region.wanted, hg]
  rw [if_pos hw]
  obtain ⟨g, cap, w', hrun, h2, h3, _⟩ := append_sl (P := P) (w := w) t o.type e i z size bytes ht hi hz hsize hby hzs hsz hl hs r hr h1 N hN b1 b2
  unfold Oper.wp
  simp [execOp, hop, resolve, invoke, builtin, hsv, hx, hrun, Result.andThen]
  exact hK g cap w' h2 h3

theorem info3z : (Tryd.prog.info? 3).map (fun i => (i.zero, i.size, i.bytes)) = some (some (.int .i64 0), 1, 8) := by kernel_rfl

/-- what the closure finds around it. -/
structure LEnv (b : Bk) (n : Nat) (sa ka : Option Addr) (n1 sc n2 kc PX PL : Nat) (W : World) : Prop where
  hv : BookW W n sa ka n1 sc n2 kc b
  hG : Glob W
  hx : W.heap[PX]? = some (Obj.cells #[.slice sa n1 sc, .int .i64 b.wth, .int .i64 b.c0, .int .i64 b.c1, .int .i64 b.c2, .slice ka n2 kc, .int .i64 b.rate] 26)
  hl : W.heap[PL]? = some (.cells #[.func (.func 87) #[] #[.pointer (some ⟨PX, 0, none⟩), .pointer (some ⟨PL, 0, none⟩)]] 108)
theorem LEnv.below {b : Bk} {n : Nat} {sa ka : Option Addr} {n1 sc n2 kc PX PL : Nat} {W V : World} (h : LEnv b n sa ka n1 sc n2 kc PX PL W) (hb : Below W.heap.size W V) : LEnv b n sa ka n1 sc n2 kc PX PL V :=
  ⟨h.hv.below h.hv.hn hb, h.hG.below h.hG.lt hb, (hb.block _ (Array.getElem?_eq_some_iff.1 h.hx).1).trans h.hx, (hb.block _ (Array.getElem?_eq_some_iff.1 h.hl).1).trans h.hl⟩

theorem natCells_append (l : List Nat) (q : Nat) : natCells (l ++ [q]) = natCells l ++ [[.int .i64 (q : Int)]] := by simp [natCells]

def LeaveAt (b : Bk) (n : Nat) (sa ka : Option Addr) (n1 sc n2 kc PX PL d : Nat) : Prop :=
  ∀ (l : List Nat) (W : World) (la : Option Addr) (k lc m : Nat) (many : Int), LEnv b n sa ka n1 sc n2 kc PX PL W → k = l.length → SlOf W m 1 (.slice la k lc) (natCells l) → m ≤ W.heap.size → (∀ x ∈ l, x < n2) → k + d ≤ n2 → many = ((k + d : Nat) : Int) →
    Calls Tryd.prog 87 #[.slice la k lc, .int .i64 many, .pointer (some ⟨PX, 0, none⟩), .pointer (some ⟨PL, 0, none⟩)] W fun e W' => ∃ (ra : Option Addr) (rl rc : Nat), e = .returned (.tuple #[.slice ra rl rc, .bool (leaveL b d l).isSome]) ∧ Below W.heap.size W W' ∧
      ∀ r, leaveL b d l = some r → SlOf W' W'.heap.size 1 (.slice ra rl rc) (natCells r)

set_option maxRecDepth 100000 in
set_option maxHeartbeats 2000000 in
theorem leave_zero {b : Bk} {n : Nat} {sa ka : Option Addr} {n1 sc n2 kc PX PL : Nat} (hS : Sound b) (_h4 : n2 ≤ 4) : LeaveAt b n sa ka n1 sc n2 kc PX PL 0 := by
  intro l W la k lc m many hE hk hs hm hx hle hmany
  subst hmany
  rw [Nat.add_zero] at hle ⊢
  have x0 : W.cell? ⟨PX, 0, none⟩ = some (.slice sa n1 sc) := blk_cell hE.hx
  have x1 : W.cell? ⟨PX, 1, none⟩ = some (.int .i64 b.wth) := blk_cell hE.hx
  have x2 : W.cell? ⟨PX, 2, none⟩ = some (.int .i64 b.c0) := blk_cell hE.hx
  have x3 : W.cell? ⟨PX, 3, none⟩ = some (.int .i64 b.c1) := blk_cell hE.hx
  have x4 : W.cell? ⟨PX, 4, none⟩ = some (.int .i64 b.c2) := blk_cell hE.hx
  have x5 : W.cell? ⟨PX, 5, none⟩ = some (.slice ka n2 kc) := blk_cell hE.hx
  have x6 : W.cell? ⟨PX, 6, none⟩ = some (.int .i64 b.rate) := blk_cell hE.hx
  have HE := Lib.hid hE
  have HS := Lib.hid hs
  have HM := Lib.hid hm
  have HK := Lib.hid hk
  have HSO := Lib.hid hS
  have hfield := field79
  clear hE hs hm hk hS hx hle
  go_enter Tryd.func87, Tryd.ntmps87
  go_wp2_with (first
    | (go_at_call 64; refine (opened_ok W b (.slice sa n1 sc) (.slice ka n2 kc) (.slice la k lc) l W.heap.size (Nat.le_refl _) (HE.out.hv.hs.mono HE.out.hv.hn) (HE.out.hv.hk.mono HE.out.hv.hn) HE.out.hG (HS.out.mono HM.out) HSO.out).mono ?_; rintro e w2 ⟨ka', kl', kc', M, tv, rfl, hb2, ht, hfr⟩; obtain ⟨ta, tc, rfl⟩ := ht.slice; have HB2 := Lib.hid hb2; have HT := Lib.hid ht; clear hb2 ht hfr; simp only [Bk.cells9])
    | fail)
  refine bodyPost_ret (results_tmp2 rfl _ _ _) rfl ⟨la, k, lc, ?_, HB2.out, ?_⟩
  · show Ending.returned (.tuple #[.slice la k lc, .bool (decide (0 < (trCells (truths (b.but l))).length))]) = _
    rw [dec_len]
    have : (leaveL b 0 l).isSome = !(truths (b.but l)).isEmpty := by
      show (if canBe b l then some l else none).isSome = _
      unfold canBe
      cases (truths (b.but l)).isEmpty <;> rfl
    rw [this]
  · intro r hr
    have : r = l := by
      simp only [leaveL] at hr
      split at hr
      · injection hr with h; exact h.symm
      · cases hr
    subst this
    exact (HS.out.below HM.out HB2.out).mono (Nat.le_trans HM.out HB2.out.size)

theorem new_one {w : World} (u : Value) (T : TypeId) : ∀ j v, [u][j]? = some v → (w.drew.alloc (.cells #[u] T)).cell? ⟨w.heap.size, j, none⟩ = some v := by
  intro j v h
  have e := blk_cell (j := j) (World.alloc_heap_new w.drew (.cells #[u] T))
  refine Eq.trans e ?_
  simpa using h
theorem bel3' {V w1 : World} {o : Obj} (h : Below (V.drew.alloc o).heap.size (V.drew.alloc o) w1) : Below V.heap.size V w1 := (((Below.refl V.heap.size V).drew.alloc (Nat.le_refl _) o)).trans (h.mono ((Below.refl V.heap.size V).drew.alloc (Nat.le_refl _) o).size)

set_option maxRecDepth 100000 in
set_option maxHeartbeats 40000000 in
theorem leave_succ {b : Bk} {n : Nat} {sa ka : Option Addr} {n1 sc n2 kc PX PL d : Nat} (h4 : n2 ≤ 4) (hI : LeaveAt b n sa ka n1 sc n2 kc PX PL d) : LeaveAt b n sa ka n1 sc n2 kc PX PL (d + 1) := by
  intro l W la k lc m many hE hk hs hm hx hle hmany
  have ne1 : ((k : Int) == many) = false := by rw [hmany]; simp; omega
  obtain ⟨i3, i3a, i3b, i3c, i3d⟩ := info_parts info3z
  have x5 : W.cell? ⟨PX, 5, none⟩ = some (.slice ka n2 kc) := blk_cell hE.hx
  have hkc : k ≤ lc := by obtain ⟨_, _, e, _, h1, _⟩ := hs; injection e with _ e2 e3; omega
  have hlcm : lc ≤ 9223372036854775807 := by obtain ⟨_, _, e, _, h1, _⟩ := hs; injection e with _ e2 e3; unfold maxLen at h1; omega
  have HE := Lib.hid hE
  have HS := Lib.hid hs
  have HM := Lib.hid hm
  have HK := Lib.hid hk
  have HKL := Lib.hid (show k = (natCells l).length by rw [hk]; simp [natCells])
  have HI := Lib.hid hI
  have HMA := Lib.hid hmany
  have HSX := Lib.hid (show ∀ w, Below W.heap.size W w → SlOf w m 1 (.slice la k lc) (natCells l) from fun w h => hs.below hm h)
  have HXQ := Lib.hid (show ∀ q, q < n2 → ∀ x ∈ l ++ [q], x < n2 from fun q hq x h => by
    rcases List.mem_append.1 h with h | h
    · exact hx x h
    · simp at h; omega)
  have hk4 : k ≤ 3 := by omega
  clear hE hI hmany
  rcases List.eq_nil_or_concat l with hl | ⟨init, last, hl⟩
  · have hk0 : k = 0 := by rw [hk, hl]; rfl
    have HNX := Lib.hid (show nextOf l ≤ n2 by rw [hl]; exact Nat.zero_le _)
    have HFR := Lib.hid (show Value.int .i64 0 = Value.int .i64 ((nextOf l : Nat) : Int) by rw [hl]; rfl)
    clear hs hm hk hl hx
    subst hk0
    have ne0 : ((0 : Int) == many) = false := ne1
    clear ne1
    go_enter Tryd.func87, Tryd.ntmps87
    go_wp2_with fail
    try simp only [ne0]
    clear ne0
    go_loopg [10] (n2 - nextOf l) (fun n0 i wx => ∃ (q : Nat), q ≤ n2 ∧ n0 = n2 - q ∧ i = .int .i64 (q : Int) ∧ restL b d l q = leaveL b (d + 1) l ∧ Below W.heap.size W wx)
    case atStart => exact ⟨nextOf l, HNX.out, rfl, HFR.out, rfl, Below.refl _ _⟩
    case round =>
      obtain ⟨q, hq, hgk, rfl, hrest, hbx⟩ := hrel
      have HG2 := Lib.hid hgk
      have HRE := Lib.hid hrest
      have HER := Lib.hid (HE.out.below hbx)
      have HBX := Lib.hid hbx
      have z5 : wr.cell? ⟨PX, 5, none⟩ = some (.slice ka n2 kc) := blk_cell HER.out.hx
      have zl : wr.cell? ⟨PL, 0, none⟩ = some (.func (.func 87) #[] #[.pointer (some ⟨PX, 0, none⟩), .pointer (some ⟨PL, 0, none⟩)]) := blk_cell HER.out.hl
      have ltl : PL < wr.heap.size := (Array.getElem?_eq_some_iff.1 HER.out.hl).1
      clear hgk hrest hbx
      by_cases hlt : q < n2
      · obtain ⟨fd, hfd⟩ : ∃ fd, (leaveL b d (l ++ [q])).isSome = fd := ⟨_, rfl⟩
        have HFD := Lib.hid hfd
        clear hfd
        go_upto_region 10 with fail
        have HMX := Lib.hid (show many = ((0 + 1 + d : Nat) : Int) by rw [HMA.out]; congr 1; omega)
        have HSM := Lib.hid (show 0 + 1 ≤ maxLen by unfold maxLen; omega)
        have HSB := Lib.hid (show (0 + 1) * 8 ≤ 140737488355328 by omega)
        go_region_law (first
            | (go_simp
               refine (HI.out (l ++ [q]) w1 (some ⟨g, 0, none⟩) (0 + 1) cap w1.heap.size many (HER.out.below HB1.out) (by rw [List.length_append, HK.out]; rfl) (by rw [natCells_append]; exact HS1.out) (Nat.le_refl _) ?hx2 (by omega) (HMX.out)).mono ?_
               case hx2 => exact HXQ.out q hlt
               rintro e w2 ⟨ra, rl, rc, rfl, hb2, hr2⟩
               rw [HFD.out]
               have HRR := Lib.hid hr2
               have HBZ := Lib.hid (HBX.out.trans ((HB1.out.trans (hb2.mono HB1.out.size)).mono HBX.out.size))
               clear hb2 hr2
               go_simp)
            | (refine step_append_sl rfl (.tmp 46) (.tmp 48) 44 rfl 3 i3 (.int .i64 0) 1 8 Tryd.underlying44 i3a i3b i3c i3d rfl (by decide) HKL.out (HSX.out _ (HBX.out.drew.alloc HBX.out.size _)) [.int .i64 (q : Int)] rfl (by simp [Value.oneCell']) wr.heap.size (new_one _ _) HSM.out HSB.out (by simp [Act.eval]) (by simp [Act.eval]) ?_
               intro g cap w1 hs1 hb1
               have hbv := bel3' hb1
               have zl1 : w1.cell? ⟨PL, 0, none⟩ = some (.func (.func 87) #[] #[.pointer (some ⟨PX, 0, none⟩), .pointer (some ⟨PL, 0, none⟩)]) := (hbv.cell (p := ⟨PL, 0, none⟩) ltl).trans zl
               have HS1 := Lib.hid hs1
               have HB1 := Lib.hid hbv
               clear hs1 hb1 hbv))
        all_goals
          rcases hcl : leaveL b d (l ++ [q]) with _ | r
          · have hf : fd = false := by rw [← HFD.out, hcl]; rfl
            have HCL := Lib.hid hcl
            clear hcl
            subst hf
            go_wp2_with fail
            go_roundg (n2 - (q + 1))
            case measure => rw [HG2.out]; omega
            case rel => exact ⟨q + 1, by omega, rfl, by go_num, by (have h := restL_step b d l (q := q) (by rw [← HE.out.hv.l2]; exact hlt)); rw [HCL.out] at h; rw [← HRE.out]; exact h.symm, HBZ.out⟩
          · have hf : fd = true := by rw [← HFD.out, hcl]; rfl
            have HCL := Lib.hid hcl
            clear hcl
            subst hf
            go_wp2_with fail
            refine bodyPost_ret (results_tmp2 rfl _ _ _) rfl ⟨ra, rl, rc, ?_, HBZ.out, ?_⟩
            · rw [← HRE.out, restL_step b d l (by rw [← HE.out.hv.l2]; exact hlt), HCL.out]; rfl
            · intro r' hr'
              rw [← HRE.out, restL_step b d l (by rw [← HE.out.hv.l2]; exact hlt), HCL.out] at hr'
              injection hr' with hr'
              subst hr'
              exact HRR.out _ HCL.out
      · go_wp2_with fail
        refine bodyPost_ret (results_tmp2 rfl _ _ _) rfl ⟨none, 0, 0, ?_, HBX.out, ?_⟩
        · rw [← HRE.out, restL_end b d l (by rw [← HE.out.hv.l2]; omega)]; rfl
        · intro r' hr'; rw [← HRE.out, restL_end b d l (by rw [← HE.out.hv.l2]; omega)] at hr'; cases hr'
  · have hl' : l = init ++ [last] := by rw [hl]; simp
    have hkk : k = init.length + 1 := by rw [hk, hl']; simp
    have hlast : last < n2 := hx last (by rw [hl']; simp)
    have hwk : IntKind.i64.wrap ((k : Int) - 1) = ((k - 1 : Nat) : Int) := by rw [IntWalk.i64_in _ (by omega)]; omega
    obtain ⟨bb, o, hla, hbb, hcc⟩ : ∃ bb o, la = some ⟨bb, o, none⟩ ∧ bb < m ∧ W.cell? ⟨bb, o + (k - 1), none⟩ = some (.int .i64 (last : Int)) := by
      obtain ⟨_, _, e, _, _, _, h5⟩ := hs
      injection e with e1 e2 e3
      obtain ⟨bb, o, h6, h7, h8⟩ := h5 (by omega)
      refine ⟨bb, o, e1.trans h6, h7, ?_⟩
      have := h8 (k - 1) 0 [.int .i64 (last : Int)] (.int .i64 (last : Int)) (by rw [hl', natCells_append, hkk, List.getElem?_append_right (by simp [natCells])]; simp [natCells]) rfl
      simpa using this
    have hk1 : ((k - 1 : Nat) : Int) < (k : Int) := by omega
    have HNX := Lib.hid (show nextOf l ≤ n2 by rw [hl', nextOf_concat]; omega)
    have HFR := Lib.hid (show Value.int .i64 ((last : Int) + 1) = Value.int .i64 ((nextOf l : Nat) : Int) by rw [hl', nextOf_concat]; simp)
    have hkpos : (0 : Int) < (k : Int) := by omega
    have hkp2 : ¬ ((k : Int) ≤ 0) := by omega
    have hl4 : last < 4 := by omega
    clear hs hm hk hl hl' hx hkk
    subst hla
    go_enter Tryd.func87, Tryd.ntmps87
    go_wp2_with fail
    try simp only [ne1]
    clear ne1
    go_loopg [10] (n2 - nextOf l) (fun n0 i wx => ∃ (q : Nat), q ≤ n2 ∧ n0 = n2 - q ∧ i = .int .i64 (q : Int) ∧ restL b d l q = leaveL b (d + 1) l ∧ Below W.heap.size W wx)
    case atStart => exact ⟨nextOf l, HNX.out, rfl, HFR.out, rfl, Below.refl _ _⟩
    case round =>
      obtain ⟨q, hq, hgk, rfl, hrest, hbx⟩ := hrel
      have HG2 := Lib.hid hgk
      have HRE := Lib.hid hrest
      have HER := Lib.hid (HE.out.below hbx)
      have HBX := Lib.hid hbx
      have z5 : wr.cell? ⟨PX, 5, none⟩ = some (.slice ka n2 kc) := blk_cell HER.out.hx
      have zl : wr.cell? ⟨PL, 0, none⟩ = some (.func (.func 87) #[] #[.pointer (some ⟨PX, 0, none⟩), .pointer (some ⟨PL, 0, none⟩)]) := blk_cell HER.out.hl
      have ltl : PL < wr.heap.size := (Array.getElem?_eq_some_iff.1 HER.out.hl).1
      clear hgk hrest hbx
      by_cases hlt : q < n2
      · obtain ⟨fd, hfd⟩ : ∃ fd, (leaveL b d (l ++ [q])).isSome = fd := ⟨_, rfl⟩
        have HFD := Lib.hid hfd
        clear hfd
        go_upto_region 10 with fail
        have HMX := Lib.hid (show many = ((k + 1 + d : Nat) : Int) by rw [HMA.out]; congr 1; omega)
        have HSM := Lib.hid (show k + 1 ≤ maxLen by unfold maxLen; omega)
        have HSB := Lib.hid (show (k + 1) * 8 ≤ 140737488355328 by omega)
        go_region_law (first
            | (go_simp
               refine (HI.out (l ++ [q]) w1 (some ⟨g, 0, none⟩) (k + 1) cap w1.heap.size many (HER.out.below HB1.out) (by rw [List.length_append, HK.out]; rfl) (by rw [natCells_append]; exact HS1.out) (Nat.le_refl _) ?hx2 (by omega) (HMX.out)).mono ?_
               case hx2 => exact HXQ.out q hlt
               rintro e w2 ⟨ra, rl, rc, rfl, hb2, hr2⟩
               rw [HFD.out]
               have HRR := Lib.hid hr2
               have HBZ := Lib.hid (HBX.out.trans ((HB1.out.trans (hb2.mono HB1.out.size)).mono HBX.out.size))
               clear hb2 hr2
               go_simp)
            | (refine step_append_sl rfl (.tmp 46) (.tmp 48) 44 rfl 3 i3 (.int .i64 0) 1 8 Tryd.underlying44 i3a i3b i3c i3d rfl (by decide) HKL.out (HSX.out _ (HBX.out.drew.alloc HBX.out.size _)) [.int .i64 (q : Int)] rfl (by simp [Value.oneCell']) wr.heap.size (new_one _ _) HSM.out HSB.out (by simp [Act.eval]) (by simp [Act.eval]) ?_
               intro g cap w1 hs1 hb1
               have hbv := bel3' hb1
               have zl1 : w1.cell? ⟨PL, 0, none⟩ = some (.func (.func 87) #[] #[.pointer (some ⟨PX, 0, none⟩), .pointer (some ⟨PL, 0, none⟩)]) := (hbv.cell (p := ⟨PL, 0, none⟩) ltl).trans zl
               have HS1 := Lib.hid hs1
               have HB1 := Lib.hid hbv
               clear hs1 hb1 hbv))
        all_goals
          rcases hcl : leaveL b d (l ++ [q]) with _ | r
          · have hf : fd = false := by rw [← HFD.out, hcl]; rfl
            have HCL := Lib.hid hcl
            clear hcl
            subst hf
            go_wp2_with fail
            go_roundg (n2 - (q + 1))
            case measure => rw [HG2.out]; omega
            case rel => exact ⟨q + 1, by omega, rfl, by go_num, by (have h := restL_step b d l (q := q) (by rw [← HE.out.hv.l2]; exact hlt)); rw [HCL.out] at h; rw [← HRE.out]; exact h.symm, HBZ.out⟩
          · have hf : fd = true := by rw [← HFD.out, hcl]; rfl
            have HCL := Lib.hid hcl
            clear hcl
            subst hf
            go_wp2_with fail
            refine bodyPost_ret (results_tmp2 rfl _ _ _) rfl ⟨ra, rl, rc, ?_, HBZ.out, ?_⟩
            · rw [← HRE.out, restL_step b d l (by rw [← HE.out.hv.l2]; exact hlt), HCL.out]; rfl
            · intro r' hr'
              rw [← HRE.out, restL_step b d l (by rw [← HE.out.hv.l2]; exact hlt), HCL.out] at hr'
              injection hr' with hr'
              subst hr'
              exact HRR.out _ HCL.out
      · go_wp2_with fail
        refine bodyPost_ret (results_tmp2 rfl _ _ _) rfl ⟨none, 0, 0, ?_, HBX.out, ?_⟩
        · rw [← HRE.out, restL_end b d l (by rw [← HE.out.hv.l2]; omega)]; rfl
        · intro r' hr'; rw [← HRE.out, restL_end b d l (by rw [← HE.out.hv.l2]; omega)] at hr'; cases hr'

theorem leave_any {b : Bk} {n : Nat} {sa ka : Option Addr} {n1 sc n2 kc PX PL : Nat} (hS : Sound b) (h4 : n2 ≤ 4) : ∀ d, LeaveAt b n sa ka n1 sc n2 kc PX PL d
  | 0 => leave_zero hS h4
  | d + 1 => leave_succ h4 (leave_any hS h4 d)
end Go.Proofs.YtbhjfojbjpbdbaaDoor
