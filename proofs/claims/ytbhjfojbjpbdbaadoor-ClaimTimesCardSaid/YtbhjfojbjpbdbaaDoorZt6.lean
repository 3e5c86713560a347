/-
  What the claim needs, gathered by a program of this session (wip/tools/trim.py) out of the texts YtbhjfojbjpbdbaaDoorPX11, YtbhjfojbjpbdbaaDoorK7, YtbhjfojbjpbdbaaDoorT2, YtbhjfojbjpbdbaaDoorPX1, YtbhjfojbjpbdbaaDoorPX12, YtbhjfojbjpbdbaaDoorPX13, YtbhjfojbjpbdbaaDoorPX14, YtbhjfojbjpbdbaaDoorT3, YtbhjfojbjpbdbaaDoorL3: nothing that stands here is proved for its own sake.
-/
import Derived.Test.YtbhjfojbjpbdbaaDoorZt3
import Derived.Test.YtbhjfojbjpbdbaaDoorZt4
import Derived.Test.YtbhjfojbjpbdbaaDoorZt5
import Derived.Test.YtbhjfojbjpbdbaaDoorZt1
namespace Go.Proofs.YtbhjfojbjpbdbaaDoorPX
open Go.Proofs.YtbhjfojbjpbdbaaDoor (Glob ix3 blk_ix3 bl nrm_ pu_ po_ tk_)
open Go.RowKit Go.Proofs.YtbhjfojbjpbdbaaDoorW.PrintWords Go.Proofs.YtbhjfojbjpbdbaaDoorW.PrintLast Go.Proofs.YtbhjfojbjpbdbaaDoorW.PrintMore

set_option linter.unusedVariables false
set_option linter.unusedSimpArgs false
section
open Go.Proofs.YtbhjfojbjpbdbaaDoor
def claim_Rough.f (l0_0 : List (S56)) (a0_1 : Int) (a0_2 : Int) (a0_3 : Int) (a0_4 : Int) (l0_5 : List (S42)) (a0_6 : Int) (a1 : Int) : Option (Int × Int × Int) := some (roughS (bkOf l0_0 a0_1 a0_2 a0_3 a0_4 l0_5 a0_6) a1)
theorem claim_Rough.calls (A0_0 : Option Addr) (c0_0 : Nat) (l0_0 : List (S56)) (a0_1 : Int) (a0_2 : Int) (a0_3 : Int) (a0_4 : Int) (A0_5 : Option Addr) (c0_5 : Nat) (l0_5 : List (S42)) (a0_6 : Int) (a1 : Int) (r1 : Int) (r2 : Int) (r3 : Int) (w : World) (hG : Glob w) (hr0_0 : Kd.C k56 w A0_0 l0_0.length l0_0) (hc0_0 : l0_0.length ≤ c0_0) (hr0_5 : Kd.C k42 w A0_5 l0_5.length l0_5) (hc0_5 : l0_5.length ≤ c0_5) (h : claim_Rough.f l0_0 a0_1 a0_2 a0_3 a0_4 l0_5 a0_6 a1 = some (r1, r2, r3)) :
    Calls Tryd.prog 23 #[.agg #[.slice A0_0 l0_0.length c0_0, .int .i64 a0_1, .int .i64 a0_2, .int .i64 a0_3, .int .i64 a0_4, .slice A0_5 l0_5.length c0_5, .int .i64 a0_6], .int .i64 a1] w fun e w' => e = .returned (.tuple #[.agg #[.int .i64 r1, .int .i64 r2], .int .i64 r3]) ∧ Below w.heap.size w w' := by
  unfold claim_Rough.f at h
  have h' := Option.some.inj h
  refine (rough_ex w (bkOf l0_0 a0_1 a0_2 a0_3 a0_4 l0_5 a0_6) a1 _ _ _ _ _ _ _ (book_of hr0_0 hc0_0 hr0_5 hc0_5) hG).mono ?_
  rintro e w' ⟨rfl, hb⟩
  rw [h']
  exact ⟨rfl, hb⟩
end
def macadamref06_Rough.l0 : Nat → Int → List (S92) → List Int → Int → Option (Int × Int × Int)
  | 0, _, _, _, _ => none
  | k + 1, x1, x6, x8, x9 => if x9 < (x6.length : Int) then (if 0 ≤ x9 then (if 0 ≤ x1 then (if x1 < (((rd_T92 x6 x9).f1).length : Int) then (if x8.length < 17592186044416 then (macadamref06_Rough.l0 k x1 x6 (x8 ++ [rd ((rd_T92 x6 x9).f1) x1]) (wrap64 (x9 + 1))) else (none)) else (none)) else (none)) else (none)) else ((macadamref06_ends.f k x8).bind fun bt240 => (some (bt240.1, bt240.2, 0)))
def macadamref06_Rough.f (k : Nat) (l0_0 : List (S56)) (a0_1 : Int) (a0_2 : Int) (a0_3 : Int) (a0_4 : Int) (l0_5 : List (S42)) (a0_6 : Int) (a1 : Int) : Option (Int × Int × Int) := (macadamref06_isStage.f l0_0 a0_1 a0_2 a0_3 a0_4 l0_5 a0_6 a1).bind fun t227 => ((macadamref06_asked.f k l0_0 a0_1 a0_2 a0_3 a0_4 l0_5 a0_6 t227).bind fun bt228 => (if bt228.2 = 0 then (macadamref06_Rough.l0 k a1 bt228.1 (([] : List Int)) 0) else (some (0, 0, bt228.2))))
def macadamref06_Rough.T1 : Bool × List (List Nat × List Nat) := (true, [([], []), ([], []), ([], []), ([1, 2], [1, 2]), ([0, 3, 3], [0, 3]), ([4], [4]), ([5], [5]), ([5], [5]), ([6, 4, 0, 1, 2, 3, 4, 5, 6], [6]), ([7, 8, 0, 1, 2, 3, 4, 5, 6, 7, 8], [7])])
def macadamref06_Rough.B1 : List Nat := [0, 0, 0, 6, 15, 31, 63, 63, 127, 511]
theorem macadamref06_Rough.tab1 : rtab .any (opsOf Tryd.f24 1) = macadamref06_Rough.T1 := by kernel_rfl
theorem macadamref06_Rough.bits1 : waitsOk macadamref06_Rough.T1.2 macadamref06_Rough.B1 = true := by kernel_rfl
set_option maxHeartbeats 8000000 in
set_option maxRecDepth 100000 in
theorem macadamref06_Rough.calls (k : Nat) (A0_0 : Option Addr) (c0_0 : Nat) (l0_0 : List (S56)) (a0_1 : Int) (a0_2 : Int) (a0_3 : Int) (a0_4 : Int) (A0_5 : Option Addr) (c0_5 : Nat) (l0_5 : List (S42)) (a0_6 : Int) (a1 : Int) (r1 : Int) (r2 : Int) (r3 : Int) (w : World) (hr0_0 : Kd.C k56 w A0_0 l0_0.length l0_0) (hc0_0 : l0_0.length ≤ c0_0) (hr0_5 : Kd.C k42 w A0_5 l0_5.length l0_5) (hc0_5 : l0_5.length ≤ c0_5) (h : macadamref06_Rough.f k l0_0 a0_1 a0_2 a0_3 a0_4 l0_5 a0_6 a1 = some (r1, r2, r3)) :
    Calls Tryd.prog 24 #[.agg #[.slice A0_0 l0_0.length c0_0, .int .i64 a0_1, .int .i64 a0_2, .int .i64 a0_3, .int .i64 a0_4, .slice A0_5 l0_5.length c0_5, .int .i64 a0_6], .int .i64 a1] w fun e w' => e = .returned (.tuple #[.agg #[.int .i64 r1, .int .i64 r2], .int .i64 r3]) ∧ Below w.heap.size w w' := by
  have hu26 := Tryd.underlying26
  have hu32 := Tryd.underlying32
  have HR0_0 := Aside0.mk hr0_0
  have HC0_0 := Aside0.mk hc0_0
  clear hr0_0 hc0_0
  have HR0_5 := Aside0.mk hr0_5
  have HC0_5 := Aside0.mk hc0_5
  clear hr0_5 hc0_5
  have HB := Aside0.mk (Below.refl w.heap.size w)
  have H : ((macadamref06_isStage.f l0_0 a0_1 a0_2 a0_3 a0_4 l0_5 a0_6 a1).bind fun t227 => ((macadamref06_asked.f k l0_0 a0_1 a0_2 a0_3 a0_4 l0_5 a0_6 t227).bind fun bt228 => (if bt228.2 = 0 then (macadamref06_Rough.l0 k a1 bt228.1 (([] : List Int)) 0) else (some (0, 0, bt228.2))))) = some (r1, r2, r3) := h
  clear h
  replace H := Option.bind_eq_some_iff.mp H
  obtain ⟨t227, A30, H⟩ := H
  replace H : ((macadamref06_asked.f k l0_0 a0_1 a0_2 a0_3 a0_4 l0_5 a0_6 t227).bind fun bt228 => (if bt228.2 = 0 then (macadamref06_Rough.l0 k a1 bt228.1 (([] : List Int)) 0) else (some (0, 0, bt228.2)))) = some (r1, r2, r3) := H
  have A3 := Aside0.mk A30
  clear A30
  replace H := Option.bind_eq_some_iff.mp H
  obtain ⟨⟨t228, t231⟩, A40, H⟩ := H
  replace H : (if t231 = 0 then (macadamref06_Rough.l0 k a1 t228 (([] : List Int)) 0) else (some (0, 0, t231))) = some (r1, r2, r3) := H
  have A4 := Aside0.mk A40
  clear A40
  by_cases c5 : t231 = 0
  · rw [if_pos c5] at H
    have c5b0 : (t231 == 0) = true := beq_iff_eq.mpr c5
    have c5b1 : (t231 != 0) = false := bne_eq_false_iff_eq.mpr c5
    clear c5
    obtain ⟨y232, hy232⟩ : ∃ y_ : List Int, y_ = (([] : List Int)) := ⟨_, rfl⟩
    replace H : (macadamref06_Rough.l0 k a1 t228 y232 0) = some (r1, r2, r3) := by first | (rw [hy232]; with_reducible exact H) | (have H2_ := (Option.bind_some _ _).symm.trans H; rw [hy232]; with_reducible exact H2_) | (have H2_ := (Option.bind_some _ _).symm.trans H; with_reducible exact H2_) | with_reducible exact H | (rw [hy232]; exact H) | exact H
    have Ny232 := Aside0.mk hy232
    clear hy232
    have H' := Aside0.mk H
    clear H
    go_enter Tryd.func24, Tryd.ntmps24
    try go_wp2_with (first | ((with_reducible refine gate_dst (N := 2) rfl ?_); refine box_event ?hg (N := 2) ?hd (cs := #[.slice A0_0 l0_0.length c0_0, .int .i64 a0_1, .int .i64 a0_2, .int .i64 a0_3, .int .i64 a0_4, .slice A0_5 l0_5.length c0_5, .int .i64 a0_6]) (t := 26) ?hr ?_; (case hd => rfl); (case hg => rfl); (case hr => first | (go_simp; done) | (go_simp; rfl)); intro gb225 hg w6 hbox hb; have n0_ := Aside0.mk (below_step (by repeat (first | (with_reducible first | exact HB.out | apply below_alloc | apply pw_below_drewN | apply below_drew1) | exact HB.out)) hb); have n1_ := Aside0.mk (hbox); have n2_ := Aside0.mk ((by rw [hg]; exact (below_size (by repeat (first | (with_reducible first | exact HB.out | apply below_alloc | apply pw_below_drewN | apply below_drew1) | exact HB.out))) : w.heap.size ≤ gb225)); have n3_ := Aside0.mk ((by rw [hg]; exact (below_size (by repeat (first | (with_reducible first | exact HB.out | apply below_alloc | apply pw_below_drewN | apply below_drew1) | exact HB.out))) : w.heap.size ≤ gb225)); clear HB; have HB := n0_; have BK225 := n1_; have GW225 := n2_; have GE225 := n3_; clear n0_ n1_ n2_ n3_; clear hb hbox hg) | ((with_reducible refine gate_dst (N := 4) rfl ?_); refine box_event ?hg (N := 4) ?hd (cs := #[.int .i64 0, .int .i64 0]) (t := 32) ?hr ?_; (case hd => rfl); (case hg => rfl); (case hr => first | (go_simp; done) | (go_simp; rfl)); intro gb226 hg w7 hbox hb; have n0_ := Aside0.mk (blk_below (g := gb225) (o := .cells #[.slice A0_0 l0_0.length c0_0, .int .i64 a0_1, .int .i64 a0_2, .int .i64 a0_3, .int .i64 a0_4, .slice A0_5 l0_5.length c0_5, .int .i64 a0_6] 26 (0, 0)) (by (with_reducible repeat (first | refine blk_drewN ?_ _ | refine blk_drew ?_ | refine blk_alloc ?_ _)); exact BK225.out) hb); have n1_ := Aside0.mk (below_step (by repeat (first | (with_reducible first | exact HB.out | apply below_alloc | apply pw_below_drewN | apply below_drew1 | refine below_set ?_ GE225.out) | exact HB.out)) hb); have n2_ := Aside0.mk (hbox); have n3_ := Aside0.mk ((by rw [hg]; exact (below_size (by repeat (first | (with_reducible first | exact HB.out | apply below_alloc | apply pw_below_drewN | apply below_drew1 | refine below_set ?_ GE225.out) | exact HB.out))) : w.heap.size ≤ gb226)); have n4_ := Aside0.mk ((by rw [hg]; exact (below_size (by repeat (first | (with_reducible first | exact HB.out | apply below_alloc | apply pw_below_drewN | apply below_drew1 | refine below_set ?_ GE225.out) | exact HB.out))) : w.heap.size ≤ gb226)); have n5_ := Aside0.mk ((by rw [hg]; exact Nat.ne_of_lt (blk_lt (g := gb225) (o := .cells #[.slice A0_0 l0_0.length c0_0, .int .i64 a0_1, .int .i64 a0_2, .int .i64 a0_3, .int .i64 a0_4, .slice A0_5 l0_5.length c0_5, .int .i64 a0_6] 26 (0, 0)) (by (with_reducible repeat (first | refine blk_drewN ?_ _ | refine blk_drew ?_ | refine blk_alloc ?_ _)); exact BK225.out)) : gb225 ≠ gb226)); have n6_ := Aside0.mk ((by rw [hg]; exact Nat.ne_of_gt (blk_lt (g := gb225) (o := .cells #[.slice A0_0 l0_0.length c0_0, .int .i64 a0_1, .int .i64 a0_2, .int .i64 a0_3, .int .i64 a0_4, .slice A0_5 l0_5.length c0_5, .int .i64 a0_6] 26 (0, 0)) (by (with_reducible repeat (first | refine blk_drewN ?_ _ | refine blk_drew ?_ | refine blk_alloc ?_ _)); exact BK225.out)) : gb226 ≠ gb225)); clear BK225; clear HB; have BK225 := n0_; have HB := n1_; have BK226 := n2_; have GW226 := n3_; have GE226 := n4_; have NB225_226 := n5_; have NB226_225 := n6_; clear n0_ n1_ n2_ n3_ n4_ n5_ n6_; clear hb hbox hg))
    have n0_ := Aside0.mk (blk_drew BK225.out)
    have n1_ := Aside0.mk (blk_drew BK226.out)
    have n2_ := Aside0.mk (below_drew1 HB.out)
    clear BK225
    clear BK226
    clear HB
    have BK225 := n0_
    have BK226 := n1_
    have HB := n2_
    clear n0_ n1_ n2_
    refine start_ (n := 10) (S := fun w' => w'.cell? ⟨gb225, 0, none⟩ = some (.slice A0_0 l0_0.length c0_0) ∧ w'.cell? ⟨gb225, 1, none⟩ = some (.int .i64 a0_1) ∧ w'.cell? ⟨gb225, 2, none⟩ = some (.int .i64 a0_2) ∧ w'.cell? ⟨gb225, 3, none⟩ = some (.int .i64 a0_3) ∧ w'.cell? ⟨gb225, 4, none⟩ = some (.int .i64 a0_4) ∧ w'.cell? ⟨gb225, 5, none⟩ = some (.slice A0_5 l0_5.length c0_5) ∧ w'.cell? ⟨gb225, 6, none⟩ = some (.int .i64 a0_6)) (ds := []) (bl 10 0) (by kernel_rfl) rfl (by kernel_rfl) ⟨(blk_cell BK225.out 0).trans rfl, (blk_cell BK225.out 1).trans rfl, (blk_cell BK225.out 2).trans rfl, (blk_cell BK225.out 3).trans rfl, (blk_cell BK225.out 4).trans rfl, (blk_cell BK225.out 5).trans rfl, (blk_cell BK225.out 6).trans rfl⟩ (fun hHeld => ?_); refine with_tabW macadamref06_Rough.tab1 macadamref06_Rough.bits1 (fun HT_ HW_ => ?_)
    generalize w7.drew = w8 at BK225 BK226 HB hHeld ⊢
    refine pu_ 2 (some 13) (bl 10 4) rfl rfl (by kernel_rfl) (fun _ _ _ h => h) (by rfl) (by intro w'; go_simp; with_reducible rfl) (by simp only [nrm_]; rfl) ?_
    refine tk_ 0 (some 11) (bl 10 5) rfl rfl (by kernel_rfl) (fun _ _ _ h => h) hHeld (by rfl) (by rintro w' ⟨s0, s1, s2, s3, s4, s5, s6⟩; go_simp; with_reducible rfl) (by simp only [nrm_]; rfl) ?_
    refine tk_ 1 (some 12) (bl 10 7) rfl rfl (by kernel_rfl) (fun _ _ _ h => h) hHeld (by rfl) (by rintro w' ⟨s0, s1, s2, s3, s4, s5, s6⟩; go_simp; with_reducible rfl) (by simp only [nrm_]; rfl) ?_
    refine one_ (i := 3) (N := some 14) (bl 10 15) rfl rfl (one_of HT_.out (by kernel_rfl)) (by decide) (fun K hK => ?_)
    refine goes_ Tryd.func74 (by kernel_rfl) rfl #[.agg #[.slice A0_0 l0_0.length c0_0, .int .i64 a0_1, .int .i64 a0_2, .int .i64 a0_3, .int .i64 a0_4, .slice A0_5 l0_5.length c0_5, .int .i64 a0_6], .int .i64 a1] (by rfl) rfl rfl (by (try simp only [List.map_toArray, List.map_cons, List.map_nil]); first | done | rfl | (simp only [List.length_drop, List.length_take]; rfl)) ?_
    with_reducible refine (macadamref06_isStage.calls _ _ l0_0 a0_1 a0_2 a0_3 a0_4 _ _ l0_5 a0_6 a1 t227 _ ?side1 ?side2 ?side3 ?side4 A3.out).mono ?_
    (case side1 => repeat (first | exact (Kd.C_below HR0_0.out HB.out) | (with_reducible refine Kd.C_alloc ?_ _) | (with_reducible refine Kd.C_drewN ?_ _) | (with_reducible refine Kd.C_drew ?_)))
    (case side2 => exact HC0_0.out)
    (case side3 => repeat (first | exact (Kd.C_below HR0_5.out HB.out) | (with_reducible refine Kd.C_alloc ?_ _) | (with_reducible refine Kd.C_drewN ?_ _) | (with_reducible refine Kd.C_drew ?_)))
    (case side4 => exact HC0_5.out)
    rintro e w9 ⟨rfl, hb⟩
    refine ⟨_, rfl, ?_⟩
    have n0_ := Aside0.mk (blk_below (g := gb225) (o := .cells #[.slice A0_0 l0_0.length c0_0, .int .i64 a0_1, .int .i64 a0_2, .int .i64 a0_3, .int .i64 a0_4, .slice A0_5 l0_5.length c0_5, .int .i64 a0_6] 26 (0, 0)) (by (with_reducible repeat (first | refine blk_drewN ?_ _ | refine blk_drew ?_ | refine blk_alloc ?_ _)); exact BK225.out) hb)
    have n1_ := Aside0.mk (blk_below (g := gb226) (o := .cells #[.int .i64 0, .int .i64 0] 32 (0, 0)) (by (with_reducible repeat (first | refine blk_drewN ?_ _ | refine blk_drew ?_ | refine blk_alloc ?_ _)); exact BK226.out) hb)
    have n2_ := Aside0.mk (below_step (by repeat (first | (with_reducible first | exact HB.out | apply below_alloc | apply pw_below_drewN | apply below_drew1 | refine below_set ?_ GE225.out | refine below_set ?_ GE226.out) | exact HB.out)) hb)
    clear BK225
    clear BK226
    clear HB
    have BK225 := n0_
    have BK226 := n1_
    have HB := n2_
    clear n0_ n1_ n2_
    (try clear hb)
    (try clear hb2)
    (try clear hk)
    (try clear hi)
    refine hK.out _ _ ⟨(blk_cell BK225.out 0).trans rfl, (blk_cell BK225.out 1).trans rfl, (blk_cell BK225.out 2).trans rfl, (blk_cell BK225.out 3).trans rfl, (blk_cell BK225.out 4).trans rfl, (blk_cell BK225.out 5).trans rfl, (blk_cell BK225.out 6).trans rfl⟩ (fun hHeld => ?_)
    clear hK K
    refine norm_ (a' := ?_) ?_ ?_
    rotate_left
    · show Act.put _ (some 14) _ = _
      simp only [nrm_]
      rfl
    refine one_ (i := 4) (N := some 15) (bl 10 31) rfl rfl (one_of HT_.out (by kernel_rfl)) (by decide) (fun K hK => ?_)
    refine goes_ Tryd.func73 (by kernel_rfl) rfl #[.agg #[.slice A0_0 l0_0.length c0_0, .int .i64 a0_1, .int .i64 a0_2, .int .i64 a0_3, .int .i64 a0_4, .slice A0_5 l0_5.length c0_5, .int .i64 a0_6], .bool t227] (by rfl) rfl rfl (by (try simp only [List.map_toArray, List.map_cons, List.map_nil]); first | done | rfl | (simp only [List.length_drop, List.length_take]; rfl)) ?_
    with_reducible refine (macadamref06_asked.calls k _ _ l0_0 a0_1 a0_2 a0_3 a0_4 _ _ l0_5 a0_6 t227 t228 t231 _ ?side1 ?side2 ?side3 ?side4 A4.out).mono ?_
    (case side1 => repeat (first | exact (Kd.C_below HR0_0.out HB.out) | (with_reducible refine Kd.C_alloc ?_ _) | (with_reducible refine Kd.C_drewN ?_ _) | (with_reducible refine Kd.C_drew ?_)))
    (case side2 => exact HC0_0.out)
    (case side3 => repeat (first | exact (Kd.C_below HR0_5.out HB.out) | (with_reducible refine Kd.C_alloc ?_ _) | (with_reducible refine Kd.C_drewN ?_ _) | (with_reducible refine Kd.C_drew ?_)))
    (case side4 => exact HC0_5.out)
    rintro e w10 ⟨v229, rfl, ho0, hb⟩
    refine ⟨_, rfl, ?_⟩
    have n0_ := Aside0.mk (Kd.N_lower (Kd.N_mono (ok' := fun k_ => k_ ≠ gb225 ∧ k_ ≠ gb226) ho0 (fun k_ hk_ => ⟨(Kd.freshB (g := gb225) (o := .cells #[.slice A0_0 l0_0.length c0_0, .int .i64 a0_1, .int .i64 a0_2, .int .i64 a0_3, .int .i64 a0_4, .slice A0_5 l0_5.length c0_5, .int .i64 a0_6] 26 (0, 0)) (by (with_reducible repeat (first | refine blk_drewN ?_ _ | refine blk_drew ?_ | refine blk_alloc ?_ _)); exact BK225.out) k_ hk_), (Kd.freshB (g := gb226) (o := .cells #[.int .i64 0, .int .i64 0] 32 (0, 0)) (by (with_reducible repeat (first | refine blk_drewN ?_ _ | refine blk_drew ?_ | refine blk_alloc ?_ _)); exact BK226.out) k_ hk_)⟩)) (below_size (by repeat (first | (with_reducible first | exact HB.out | apply below_alloc | apply pw_below_drewN | apply below_drew1 | refine below_set ?_ GE225.out | refine below_set ?_ GE226.out) | exact HB.out))))
    have n1_ := Aside0.mk (blk_below (g := gb225) (o := .cells #[.slice A0_0 l0_0.length c0_0, .int .i64 a0_1, .int .i64 a0_2, .int .i64 a0_3, .int .i64 a0_4, .slice A0_5 l0_5.length c0_5, .int .i64 a0_6] 26 (0, 0)) (by (with_reducible repeat (first | refine blk_drewN ?_ _ | refine blk_drew ?_ | refine blk_alloc ?_ _)); exact BK225.out) hb)
    have n2_ := Aside0.mk (blk_below (g := gb226) (o := .cells #[.int .i64 0, .int .i64 0] 32 (0, 0)) (by (with_reducible repeat (first | refine blk_drewN ?_ _ | refine blk_drew ?_ | refine blk_alloc ?_ _)); exact BK226.out) hb)
    have n3_ := Aside0.mk (below_step (by repeat (first | (with_reducible first | exact HB.out | apply below_alloc | apply pw_below_drewN | apply below_drew1 | refine below_set ?_ GE225.out | refine below_set ?_ GE226.out) | exact HB.out)) hb)
    clear BK225
    clear BK226
    clear HB
    have HO230 := n0_
    have BK225 := n1_
    have BK226 := n2_
    have HB := n3_
    clear n0_ n1_ n2_ n3_
    (try clear hb)
    (try clear hb2)
    (try clear hk)
    (try clear hi)
    (try clear ho0)
    refine hK.out _ _ ⟨(blk_cell BK225.out 0).trans rfl, (blk_cell BK225.out 1).trans rfl, (blk_cell BK225.out 2).trans rfl, (blk_cell BK225.out 3).trans rfl, (blk_cell BK225.out 4).trans rfl, (blk_cell BK225.out 5).trans rfl, (blk_cell BK225.out 6).trans rfl⟩ (fun hHeld => ?_)
    clear hK K
    refine norm_ (a' := ?_) ?_ ?_
    rotate_left
    · show Act.put _ (some 15) _ = _
      simp only [nrm_]
      rfl
    refine pu_ 5 (some 10) (bl 10 63) rfl rfl (by kernel_rfl) (fun _ _ _ h => h) (by rfl) (by intro w'; go_simp; with_reducible rfl) (by simp only [nrm_]; rfl) ?_
    refine pu_ 6 (some 16) (bl 10 127) rfl rfl (by kernel_rfl) (fun _ _ _ h => h) (by rfl) (by intro w'; go_simp; with_reducible rfl) (by simp only [nrm_]; rfl) ?_
    refine pu_ 7 (some 17) (bl 10 255) rfl rfl (by kernel_rfl) (fun _ _ _ h => h) (by rfl) (by intro w'; go_simp; with_reducible rfl) (by simp only [nrm_]; rfl) ?_
    refine pu_ 8 (some 6) (bl 10 511) rfl rfl (by kernel_rfl) (fun _ _ _ h => h) (by rfl) (by intro w'; go_simp; with_reducible rfl) (by simp only [nrm_]; rfl) ?_
    refine pu_ 9 (some 7) (bl 10 1023) rfl rfl (by kernel_rfl) (fun _ _ _ h => h) (by rfl) (by intro w'; go_simp; with_reducible rfl) (by simp only [nrm_]; rfl) ?_
    refine done_ (done_of HT_.out (by kernel_rfl)) ?_
    try go_wp2_with (first | ((with_reducible refine gate_dst (N := 22) rfl ?_); refine Kd.R_lit (Kd.int .i64) _ 3 ?hg (N := 22) ?hd (xs := ([] : List Int)) (inner := []) (ok := fun _ => True) (okp := fun _ => True) ?hr ?hp (fun _ hk => hk) trivial (Below.refl _ _) (Nat.le_refl _) (by simp) ?_; (case hd => rfl); (case hg => rfl); (case hr => first | (go_simp; done) | (go_simp; rfl)); (case hp => exact (Reps.none _ _)); intro v233 w11 ho12 hb hg_ hnew_; clear hg_ hnew_; (first | rw [← Ny232.out] at ho12 | (simp only [Int.reduceToNat] at ho12; rw [← Ny232.out] at ho12)); have n0_ := Aside0.mk (Kd.N_elder' (by (with_reducible repeat (first | apply Kd.N_alloc | apply Kd.N_drewN | apply Kd.N_drew)); exact HO230.out) (Kd.R_base ho12) hb); have n1_ := Aside0.mk (Kd.R_lower ho12 (below_size (by repeat (first | (with_reducible first | exact HB.out | apply below_alloc | apply pw_below_drewN | apply below_drew1 | refine below_set ?_ GE225.out | refine below_set ?_ GE226.out) | exact HB.out)))); have n2_ := Aside0.mk (blk_below (g := gb225) (o := .cells #[.slice A0_0 l0_0.length c0_0, .int .i64 a0_1, .int .i64 a0_2, .int .i64 a0_3, .int .i64 a0_4, .slice A0_5 l0_5.length c0_5, .int .i64 a0_6] 26 (0, 0)) (by (with_reducible repeat (first | refine blk_drewN ?_ _ | refine blk_drew ?_ | refine blk_alloc ?_ _)); exact BK225.out) hb); have n3_ := Aside0.mk (blk_below (g := gb226) (o := .cells #[.int .i64 0, .int .i64 0] 32 (0, 0)) (by (with_reducible repeat (first | refine blk_drewN ?_ _ | refine blk_drew ?_ | refine blk_alloc ?_ _)); exact BK226.out) hb); have n4_ := Aside0.mk (below_step (by repeat (first | (with_reducible first | exact HB.out | apply below_alloc | apply pw_below_drewN | apply below_drew1 | refine below_set ?_ GE225.out | refine below_set ?_ GE226.out) | exact HB.out)) hb); clear HO230; clear BK225; clear BK226; clear HB; have HO230 := n0_; have HO234 := n1_; have BK225 := n2_; have BK226 := n3_; have HB := n4_; clear n0_ n1_ n2_ n3_ n4_; clear hb ho12))
    go_loopg [8, 9] k (fun kq v8 v9 w' => ∃ (x8_1 : List Int) (x9_1 : Int), v9 = .int .i64 x9_1 ∧ Aside0 (macadamref06_Rough.l0 kq a1 t228 x8_1 x9_1 = some (r1, r2, r3)) ∧ Aside0 (kq ≤ k) ∧ Aside0 (Kd.N k92 92 w' w.heap.size (fun k_ => some k_ ≠ (v8 : Value).ownBlock ∧ k_ ≠ gb225 ∧ k_ ≠ gb226) v229 t228) ∧ Aside0 (Kd.R (Kd.int .i64) 3 w' w.heap.size (fun _ => True) v8 x8_1) ∧ Aside0 (w'.heap[gb225]? = some (.cells #[(.slice A0_0 l0_0.length c0_0), .int .i64 a0_1, .int .i64 a0_2, .int .i64 a0_3, .int .i64 a0_4, (.slice A0_5 l0_5.length c0_5), .int .i64 a0_6] 26 (0, 0))) ∧ Aside0 (w'.heap[gb226]? = some (.cells #[.int .i64 0, .int .i64 0] 32 (0, 0))) ∧ Aside0 (Below w.heap.size w w'))
    case atStart => exact ⟨(y232), (0), (by first | rfl | (simp; done) | (simp [*]; done)), H', ⟨Nat.le_refl _⟩, ⟨by (with_reducible repeat (first | apply Kd.N_alloc | apply Kd.N_drewN | apply Kd.N_drew)); exact Kd.N_mono HO230.out (fun _ hk => ⟨hk.2, ⟨hk.1.1, hk.1.2⟩⟩)⟩, ⟨by (with_reducible repeat (first | apply Kd.R_alloc | apply Kd.R_drewN | apply Kd.R_drew)); exact HO234.out⟩, ⟨by (with_reducible repeat (first | refine blk_drewN ?_ _ | refine blk_drew ?_ | refine blk_alloc ?_ _)); exact BK225.out⟩, ⟨by (with_reducible repeat (first | refine blk_drewN ?_ _ | refine blk_drew ?_ | refine blk_alloc ?_ _)); exact BK226.out⟩, ⟨by repeat (first | (with_reducible first | exact HB.out | apply below_alloc | apply pw_below_drewN | apply below_drew1 | refine below_set ?_ GE225.out | refine below_set ?_ GE226.out) | exact HB.out)⟩⟩
    case round =>
      clear H'
      try clear c2
      try clear p2
      try clear c5
      try clear c5b0
      try clear c5b1
      try clear c7
      obtain ⟨x8_1, x9_1, rfl, HA, HK1, HO_6, HO_8, BK225, BK226, HB⟩ := hrel
      cases gk with
      | zero => exact absurd HA.out (by simp [macadamref06_Rough.l0])
      | succ k1 =>
        have H := HA.out
        clear HA
        simp only [macadamref06_Rough.l0] at H
        by_cases c13 : x9_1 < (t228.length : Int)
        · rw [if_pos c13] at H
          have c13b0 : decide (x9_1 < (t228.length : Int)) = true := decide_eq_true c13
          clear c13
          by_cases c14 : 0 ≤ x9_1
          · rw [if_pos c14] at H
            have c14b0 : decide (0 ≤ x9_1) = true := decide_eq_true c14
            clear c14
            by_cases c15 : 0 ≤ a1
            · rw [if_pos c15] at H
              have c15b0 : decide (0 ≤ a1) = true := decide_eq_true c15
              clear c15
              by_cases c16 : a1 < (((rd_T92 t228 x9_1).f1).length : Int)
              · rw [if_pos c16] at H
                have c16b0 : decide (a1 < (((rd_T92 t228 x9_1).f1).length : Int)) = true := decide_eq_true c16
                clear c16
                by_cases c17 : x8_1.length < 17592186044416
                · rw [if_pos c17] at H
                  have LMc17 := Aside0.mk c17
                  clear c17
                  obtain ⟨y237, hy237⟩ : ∃ y_ : List Int, y_ = (x8_1 ++ [rd ((rd_T92 t228 x9_1).f1) a1]) := ⟨_, rfl⟩
                  replace H : (macadamref06_Rough.l0 k1 a1 t228 y237 (wrap64 (x9_1 + 1))) = some (r1, r2, r3) := by first | (rw [hy237]; with_reducible exact H) | (have H2_ := (Option.bind_some _ _).symm.trans H; rw [hy237]; with_reducible exact H2_) | (have H2_ := (Option.bind_some _ _).symm.trans H; with_reducible exact H2_) | with_reducible exact H | (rw [hy237]; exact H) | exact H
                  have Ny237 := Aside0.mk hy237
                  clear hy237
                  have H' := Aside0.mk H
                  clear H
                  obtain ⟨Ao18, co18, eo18⟩ := Kd.N_slice HO_6.out
                  subst eo18
                  have p235 : 0 ≤ (x9_1 : Int) := of_decide_eq_true (by first | (with_reducible assumption) | assumption)
                  have q235 : x9_1 < (t228.length : Int) := of_decide_eq_true (by first | (with_reducible assumption) | assumption)
                  obtain ⟨ad235, A235_1, c235_1, A235_2, c235_2, e235, hx235_0, hx235_1, hx235_2, hl235_1, hi235_1, hl235_2, hi235_2⟩ := at_T92 (Kd.N_reads' HO_6.out).2.2 x9_1 p235 q235
                  cases e235
                  obtain ⟨ce235, hce235, hMe235, hcc235⟩ := Kd.N_get HO_6.out z92 x9_1 p235 (by first | exact q235 | exact of_decide_eq_true (by first | (with_reducible assumption) | assumption) | (have e_ := (Kd.N_reads' HO_6.out).1; omega))
                  obtain ⟨ua235_1, uc235_1, ua235_2, uc235_2, rfl, ul235_1, ge235_1, ul235_2, ge235_2⟩ := k92_openF hMe235
                  have hv235_1 := hcc235 1 _ rfl
                  rw [add_field _ _ 1 (by omega)] at hv235_1
                  replace hv235_1 := Option.some.inj (hv235_1.symm.trans hx235_1)
                  injection hv235_1 with hva_ hvn_ hvc_
                  rw [hva_] at ge235_1
                  rw [hvc_] at ul235_1
                  have HL235_1 := Aside0.mk (show Kd.V (Kd.int .i64) 3 _ w.heap.size _ _ ((rd_T92 t228 x9_1).f1) from Kd.V_mk ul235_1 ge235_1)
                  clear hva_ hvn_ hvc_ ge235_1 ul235_1
                  have hv235_2 := hcc235 2 _ rfl
                  rw [add_field _ _ 2 (by omega)] at hv235_2
                  replace hv235_2 := Option.some.inj (hv235_2.symm.trans hx235_2)
                  injection hv235_2 with hva_ hvn_ hvc_
                  rw [hva_] at ge235_2
                  rw [hvc_] at ul235_2
                  have HL235_2 := Aside0.mk (show Kd.V (Kd.int .i64) 3 _ w.heap.size _ _ ((rd_T92 t228 x9_1).f2) from Kd.V_mk ul235_2 ge235_2)
                  clear hva_ hvn_ hvc_ ge235_2 ul235_2
                  clear hcc235 hce235
                  have HR235_1 := Aside0.mk hi235_1
                  have HC235_1 := Aside0.mk hl235_1
                  clear hi235_1 hl235_1
                  have HR235_2 := Aside0.mk hi235_2
                  have HC235_2 := Aside0.mk hl235_2
                  clear hi235_2 hl235_2
                  replace p235 := eq_true p235
                  replace q235 := eq_true q235
                  have p236 : 0 ≤ (a1 : Int) := of_decide_eq_true (by first | (with_reducible assumption) | assumption)
                  have q236 : a1 < (((rd_T92 t228 x9_1).f1).length : Int) := of_decide_eq_true (by first | (with_reducible assumption) | assumption)
                  obtain ⟨ad236, e236, hx236_0⟩ := Kd.at_int (by repeat (first | (with_reducible exact HR235_1.out) | (with_reducible refine Kd.C_alloc ?_ _) | (with_reducible refine Kd.C_drewN ?_ _) | (with_reducible refine Kd.C_drew ?_) | exact HR235_1.out)) a1 p236 q236
                  cases e236
                  replace p236 := eq_true p236
                  replace q236 := eq_true q236
                  go_wp2_with (first | ((with_reducible refine gate_builtin (b := .append) (xs := #[.tmp 29, .tmp 38]) rfl ?_); at_builtin; refine Kd.R_append (Kd.int .i64) (w0 := w) w.heap.size rfl (.tmp 29) (.tmp 38) 44 3 (.int .i64 0) 8 rfl Tryd.underlying44 info3 rfl (by decide) (by omega) u8 x8_1 (rd ((rd_T92 t228 x9_1).f1) a1) [.int .i64 (rd ((rd_T92 t228 x9_1).f1) a1)] (fun _ => True) (fun _ => False) rfl rfl ?aP (fun _ hk => hk.elim) ?aF ?aO ?aB ?aS ?aL ?_; (case aP => exact rfl); (case aB => exact (by repeat (first | (with_reducible first | exact HB.out | apply below_alloc | apply pw_below_drewN | apply below_drew1 | refine below_set ?_ GE225.out | refine below_set ?_ GE226.out) | exact HB.out))); (case aF => exact (fun _ _ => trivial)); (case aO => exact (by (with_reducible repeat (first | apply Kd.R_alloc | apply Kd.R_drewN | apply Kd.R_drew)); exact HO_8.out)); (case aS => exact (below_size (by repeat (first | (with_reducible first | exact HB.out | apply below_alloc | apply pw_below_drewN | apply below_drew1 | refine below_set ?_ GE225.out | refine below_set ?_ GE226.out) | exact HB.out)))); (case aL => have := LMc17.out; omega); intro v238 w19 ho hb hg hat; rw [← Ny237.out] at ho; have n0_ := Aside0.mk (Kd.N_afterv (ok := (fun k_ => k_ ≠ gb225 ∧ k_ ≠ gb226)) (by (with_reducible repeat (first | apply Kd.N_alloc | apply Kd.N_drewN | apply Kd.N_drew)); exact Kd.N_mono HO_6.out (fun _ hk => ⟨⟨hk.2.1, hk.2.2⟩, hk.1⟩)) hg hat); have n1_ := Aside0.mk (blk_grown (g := gb225) (o := .cells #[.slice A0_0 l0_0.length c0_0, .int .i64 a0_1, .int .i64 a0_2, .int .i64 a0_3, .int .i64 a0_4, .slice A0_5 l0_5.length c0_5, .int .i64 a0_6] 26 (0, 0)) (by (with_reducible repeat (first | refine blk_drewN ?_ _ | refine blk_drew ?_ | refine blk_alloc ?_ _)); exact BK225.out) hg (Kd.R_ne HO_8.out BK225.out (by decide))); have n2_ := Aside0.mk (blk_grown (g := gb226) (o := .cells #[.int .i64 0, .int .i64 0] 32 (0, 0)) (by (with_reducible repeat (first | refine blk_drewN ?_ _ | refine blk_drew ?_ | refine blk_alloc ?_ _)); exact BK226.out) hg (Kd.R_ne HO_8.out BK226.out (by decide))); have n3_ := Aside0.mk (Kd.V_afterv (ok := (fun k_ => some k_ ≠ (.slice (some ad235) t228.length co18 : Value).ownBlock ∧ k_ ≠ gb225 ∧ k_ ≠ gb226)) (by (with_reducible repeat (first | apply Kd.V_alloc | apply Kd.V_drewN | apply Kd.V_drew)); exact Kd.V_mono HL235_1.out (fun _ hk => ⟨⟨hk.2, ⟨hk.1.2.1, hk.1.2.2⟩⟩, hk.1.1⟩)) hg hat); have n4_ := Aside0.mk (Kd.V_afterv (ok := (fun k_ => some k_ ≠ (.slice (some ad235) t228.length co18 : Value).ownBlock ∧ k_ ≠ gb225 ∧ k_ ≠ gb226)) (by (with_reducible repeat (first | apply Kd.V_alloc | apply Kd.V_drewN | apply Kd.V_drew)); exact Kd.V_mono HL235_2.out (fun _ hk => ⟨⟨hk.2, ⟨hk.1.2.1, hk.1.2.2⟩⟩, hk.1.1⟩)) hg hat); have n5_ := Aside0.mk (hb); have n6_ := Aside0.mk (ho); clear HO_6; clear BK225; clear BK226; clear HL235_1; clear HL235_2; clear HB; clear HO_8; have HO_6 := n0_; have BK225 := n1_; have BK226 := n2_; have HL235_1 := n3_; have HL235_2 := n4_; have HB := n5_; have HO239 := n6_; clear n0_ n1_ n2_ n3_ n4_ n5_ n6_; clear ho hb hg hat))
                  go_roundg k1
                  case measure => have := HK1.out; omega
                  case rel => exact ⟨(y237), (wrap64 (x9_1 + 1)), (by first | rfl | (simp; done) | (simp [*]; done)), H', ⟨by have := HK1.out; omega⟩, ⟨by (with_reducible repeat (first | apply Kd.N_alloc | apply Kd.N_drewN | apply Kd.N_drew)); exact Kd.N_mono HO_6.out (fun _ hk => ⟨hk.2, ⟨hk.1.1, hk.1.2⟩⟩)⟩, ⟨by (with_reducible repeat (first | apply Kd.R_alloc | apply Kd.R_drewN | apply Kd.R_drew)); exact HO239.out⟩, ⟨by (with_reducible repeat (first | refine blk_drewN ?_ _ | refine blk_drew ?_ | refine blk_alloc ?_ _)); exact BK225.out⟩, ⟨by (with_reducible repeat (first | refine blk_drewN ?_ _ | refine blk_drew ?_ | refine blk_alloc ?_ _)); exact BK226.out⟩, ⟨by repeat (first | (with_reducible first | exact HB.out | apply below_alloc | apply pw_below_drewN | apply below_drew1 | refine below_set ?_ GE225.out | refine below_set ?_ GE226.out) | exact HB.out)⟩⟩
                · rw [if_neg c17] at H
                  exact absurd H (by simp)
              · rw [if_neg c16] at H
                exact absurd H (by simp)
            · rw [if_neg c15] at H
              exact absurd H (by simp)
          · rw [if_neg c14] at H
            exact absurd H (by simp)
        · rw [if_neg c13] at H
          have c13b0 : decide (x9_1 < (t228.length : Int)) = false := decide_eq_false c13
          clear c13
          replace H := Option.bind_eq_some_iff.mp H
          obtain ⟨⟨t240, t241⟩, A200, H⟩ := H
          replace H : (some (t240, t241, 0)) = some (r1, r2, r3) := H
          have A20 := Aside0.mk A200
          clear A200
          simp only [Option.some.injEq, Prod.mk.injEq] at H
          obtain ⟨rfl, rfl, rfl⟩ := H
          obtain ⟨Ao21, co21, eo21⟩ := Kd.N_slice HO_6.out
          subst eo21
          obtain ⟨Ao22, co22, eo22⟩ := Kd.R_slice HO_8.out
          subst eo22
          go_wp2_with (first | ((with_reducible refine gate_callee (f := 75) rfl ?_); refine goesL_ (some 41) rfl rfl Tryd.func75 (by kernel_rfl) rfl #[.slice Ao22 x8_1.length co22] rfl (by (try simp only [List.map_toArray, List.map_cons, List.map_nil]); first | done | rfl | (simp only [List.length_drop, List.length_take]; rfl)) ?_; (with_reducible refine (macadamref06_ends.calls k1 _ _ x8_1 t240 t241 _ ?side1 ?side2 A20.out).mono ?_); (case side1 => repeat (first | exact (Kd.R_reads' HO_8.out).2.2 | (with_reducible refine Kd.C_alloc ?_ _) | (with_reducible refine Kd.C_drewN ?_ _) | (with_reducible refine Kd.C_drew ?_))); (case side2 => exact (Kd.R_reads' HO_8.out).2.1); rintro e w23 ⟨rfl, hb⟩; refine ⟨_, rfl, ?_⟩; have n0_ := Aside0.mk (Kd.N_below (by (with_reducible repeat (first | apply Kd.N_alloc | apply Kd.N_drewN | apply Kd.N_drew)); exact HO_6.out) hb); have n1_ := Aside0.mk (Kd.R_below (by (with_reducible repeat (first | apply Kd.R_alloc | apply Kd.R_drewN | apply Kd.R_drew)); exact HO_8.out) hb); have n2_ := Aside0.mk (blk_below (g := gb225) (o := .cells #[.slice A0_0 l0_0.length c0_0, .int .i64 a0_1, .int .i64 a0_2, .int .i64 a0_3, .int .i64 a0_4, .slice A0_5 l0_5.length c0_5, .int .i64 a0_6] 26 (0, 0)) (by (with_reducible repeat (first | refine blk_drewN ?_ _ | refine blk_drew ?_ | refine blk_alloc ?_ _)); exact BK225.out) hb); have n3_ := Aside0.mk (blk_below (g := gb226) (o := .cells #[.int .i64 0, .int .i64 0] 32 (0, 0)) (by (with_reducible repeat (first | refine blk_drewN ?_ _ | refine blk_drew ?_ | refine blk_alloc ?_ _)); exact BK226.out) hb); have n4_ := Aside0.mk (below_step (by repeat (first | (with_reducible first | exact HB.out | apply below_alloc | apply pw_below_drewN | apply below_drew1 | refine below_set ?_ GE225.out | refine below_set ?_ GE226.out) | exact HB.out)) hb); clear HO_6; clear HO_8; clear BK225; clear BK226; clear HB; have HO_6 := n0_; have HO_8 := n1_; have BK225 := n2_; have BK226 := n3_; have HB := n4_; clear n0_ n1_ n2_ n3_ n4_; (try clear hb); (try clear hb2); (try clear hk); (try clear hi); have hnb24 := NB226_225.out; have hnc24 := NB225_226.out; have hcz25_0 : w23.cell? ⟨gb226, 0, none⟩ = some (.int .i64 0) := (blk_cell BK226.out 0).trans rfl; have hcz25_1 : w23.cell? ⟨gb226, 1, none⟩ = some (.int .i64 0) := (blk_cell BK226.out 1).trans rfl; have hfz25_0 := blk_frozen BK226.out 0; have hfz25_1 := blk_frozen BK226.out 1))
          refine bodyPost_ret (results_ct rfl _ _ gb226 32 #[.int .i64 t240, .int .i64 t241] (0, 0) _ rfl (by (with_reducible repeat (first | refine blk_drewN ?_ _ | refine blk_drew ?_ | refine blk_alloc ?_ _)); refine blk_put (cs := #[.int .i64 t240, .int .i64 0]) ?_ 1 _ rfl; (with_reducible repeat (first | refine blk_drewN ?_ _ | refine blk_drew ?_ | refine blk_alloc ?_ _)); refine blk_put (cs := #[.int .i64 0, .int .i64 0]) ?_ 0 _ rfl; (with_reducible repeat (first | refine blk_drewN ?_ _ | refine blk_drew ?_ | refine blk_alloc ?_ _)); exact BK226.out) Tryd.underlying32 rfl (by kernel_rfl)) rfl ?_
          exact ⟨by first | rfl | (simp [errW_none, errW_some] <;> rfl) | (simp [*, errW_none, errW_some] <;> rfl), by repeat (first | (with_reducible first | exact HB.out | apply below_alloc | apply pw_below_drewN | apply below_drew1 | refine below_set ?_ GE225.out | refine below_set ?_ GE226.out) | exact HB.out)⟩
  · rw [if_neg c5] at H
    have c5b0 : (t231 == 0) = false := beq_eq_false_iff_ne.mpr c5
    have c5b1 : (t231 != 0) = true := bne_iff_ne.mpr c5
    simp only [Option.some.injEq, Prod.mk.injEq] at H
    obtain ⟨rfl, rfl, rfl⟩ := H
    go_enter Tryd.func24, Tryd.ntmps24
    try go_wp2_with (first | ((with_reducible refine gate_dst (N := 2) rfl ?_); refine box_event ?hg (N := 2) ?hd (cs := #[.slice A0_0 l0_0.length c0_0, .int .i64 a0_1, .int .i64 a0_2, .int .i64 a0_3, .int .i64 a0_4, .slice A0_5 l0_5.length c0_5, .int .i64 a0_6]) (t := 26) ?hr ?_; (case hd => rfl); (case hg => rfl); (case hr => first | (go_simp; done) | (go_simp; rfl)); intro gb225 hg w26 hbox hb; have n0_ := Aside0.mk (below_step (by repeat (first | (with_reducible first | exact HB.out | apply below_alloc | apply pw_below_drewN | apply below_drew1) | exact HB.out)) hb); have n1_ := Aside0.mk (hbox); have n2_ := Aside0.mk ((by rw [hg]; exact (below_size (by repeat (first | (with_reducible first | exact HB.out | apply below_alloc | apply pw_below_drewN | apply below_drew1) | exact HB.out))) : w.heap.size ≤ gb225)); have n3_ := Aside0.mk ((by rw [hg]; exact (below_size (by repeat (first | (with_reducible first | exact HB.out | apply below_alloc | apply pw_below_drewN | apply below_drew1) | exact HB.out))) : w.heap.size ≤ gb225)); clear HB; have HB := n0_; have BK225 := n1_; have GW225 := n2_; have GE225 := n3_; clear n0_ n1_ n2_ n3_; clear hb hbox hg) | ((with_reducible refine gate_dst (N := 4) rfl ?_); refine box_event ?hg (N := 4) ?hd (cs := #[.int .i64 0, .int .i64 0]) (t := 32) ?hr ?_; (case hd => rfl); (case hg => rfl); (case hr => first | (go_simp; done) | (go_simp; rfl)); intro gb226 hg w27 hbox hb; have n0_ := Aside0.mk (blk_below (g := gb225) (o := .cells #[.slice A0_0 l0_0.length c0_0, .int .i64 a0_1, .int .i64 a0_2, .int .i64 a0_3, .int .i64 a0_4, .slice A0_5 l0_5.length c0_5, .int .i64 a0_6] 26 (0, 0)) (by (with_reducible repeat (first | refine blk_drewN ?_ _ | refine blk_drew ?_ | refine blk_alloc ?_ _)); exact BK225.out) hb); have n1_ := Aside0.mk (below_step (by repeat (first | (with_reducible first | exact HB.out | apply below_alloc | apply pw_below_drewN | apply below_drew1 | refine below_set ?_ GE225.out) | exact HB.out)) hb); have n2_ := Aside0.mk (hbox); have n3_ := Aside0.mk ((by rw [hg]; exact (below_size (by repeat (first | (with_reducible first | exact HB.out | apply below_alloc | apply pw_below_drewN | apply below_drew1 | refine below_set ?_ GE225.out) | exact HB.out))) : w.heap.size ≤ gb226)); have n4_ := Aside0.mk ((by rw [hg]; exact (below_size (by repeat (first | (with_reducible first | exact HB.out | apply below_alloc | apply pw_below_drewN | apply below_drew1 | refine below_set ?_ GE225.out) | exact HB.out))) : w.heap.size ≤ gb226)); have n5_ := Aside0.mk ((by rw [hg]; exact Nat.ne_of_lt (blk_lt (g := gb225) (o := .cells #[.slice A0_0 l0_0.length c0_0, .int .i64 a0_1, .int .i64 a0_2, .int .i64 a0_3, .int .i64 a0_4, .slice A0_5 l0_5.length c0_5, .int .i64 a0_6] 26 (0, 0)) (by (with_reducible repeat (first | refine blk_drewN ?_ _ | refine blk_drew ?_ | refine blk_alloc ?_ _)); exact BK225.out)) : gb225 ≠ gb226)); have n6_ := Aside0.mk ((by rw [hg]; exact Nat.ne_of_gt (blk_lt (g := gb225) (o := .cells #[.slice A0_0 l0_0.length c0_0, .int .i64 a0_1, .int .i64 a0_2, .int .i64 a0_3, .int .i64 a0_4, .slice A0_5 l0_5.length c0_5, .int .i64 a0_6] 26 (0, 0)) (by (with_reducible repeat (first | refine blk_drewN ?_ _ | refine blk_drew ?_ | refine blk_alloc ?_ _)); exact BK225.out)) : gb226 ≠ gb225)); clear BK225; clear HB; have BK225 := n0_; have HB := n1_; have BK226 := n2_; have GW226 := n3_; have GE226 := n4_; have NB225_226 := n5_; have NB226_225 := n6_; clear n0_ n1_ n2_ n3_ n4_ n5_ n6_; clear hb hbox hg))
    have n0_ := Aside0.mk (blk_drew BK225.out)
    have n1_ := Aside0.mk (blk_drew BK226.out)
    have n2_ := Aside0.mk (below_drew1 HB.out)
    clear BK225
    clear BK226
    clear HB
    have BK225 := n0_
    have BK226 := n1_
    have HB := n2_
    clear n0_ n1_ n2_
    refine start_ (n := 10) (S := fun w' => w'.cell? ⟨gb225, 0, none⟩ = some (.slice A0_0 l0_0.length c0_0) ∧ w'.cell? ⟨gb225, 1, none⟩ = some (.int .i64 a0_1) ∧ w'.cell? ⟨gb225, 2, none⟩ = some (.int .i64 a0_2) ∧ w'.cell? ⟨gb225, 3, none⟩ = some (.int .i64 a0_3) ∧ w'.cell? ⟨gb225, 4, none⟩ = some (.int .i64 a0_4) ∧ w'.cell? ⟨gb225, 5, none⟩ = some (.slice A0_5 l0_5.length c0_5) ∧ w'.cell? ⟨gb225, 6, none⟩ = some (.int .i64 a0_6)) (ds := []) (bl 10 0) (by kernel_rfl) rfl (by kernel_rfl) ⟨(blk_cell BK225.out 0).trans rfl, (blk_cell BK225.out 1).trans rfl, (blk_cell BK225.out 2).trans rfl, (blk_cell BK225.out 3).trans rfl, (blk_cell BK225.out 4).trans rfl, (blk_cell BK225.out 5).trans rfl, (blk_cell BK225.out 6).trans rfl⟩ (fun hHeld => ?_); refine with_tabW macadamref06_Rough.tab1 macadamref06_Rough.bits1 (fun HT_ HW_ => ?_)
    generalize w27.drew = w28 at BK225 BK226 HB hHeld ⊢
    refine pu_ 2 (some 13) (bl 10 4) rfl rfl (by kernel_rfl) (fun _ _ _ h => h) (by rfl) (by intro w'; go_simp; with_reducible rfl) (by simp only [nrm_]; rfl) ?_
    refine tk_ 0 (some 11) (bl 10 5) rfl rfl (by kernel_rfl) (fun _ _ _ h => h) hHeld (by rfl) (by rintro w' ⟨s0, s1, s2, s3, s4, s5, s6⟩; go_simp; with_reducible rfl) (by simp only [nrm_]; rfl) ?_
    refine tk_ 1 (some 12) (bl 10 7) rfl rfl (by kernel_rfl) (fun _ _ _ h => h) hHeld (by rfl) (by rintro w' ⟨s0, s1, s2, s3, s4, s5, s6⟩; go_simp; with_reducible rfl) (by simp only [nrm_]; rfl) ?_
    refine one_ (i := 3) (N := some 14) (bl 10 15) rfl rfl (one_of HT_.out (by kernel_rfl)) (by decide) (fun K hK => ?_)
    refine goes_ Tryd.func74 (by kernel_rfl) rfl #[.agg #[.slice A0_0 l0_0.length c0_0, .int .i64 a0_1, .int .i64 a0_2, .int .i64 a0_3, .int .i64 a0_4, .slice A0_5 l0_5.length c0_5, .int .i64 a0_6], .int .i64 a1] (by rfl) rfl rfl (by (try simp only [List.map_toArray, List.map_cons, List.map_nil]); first | done | rfl | (simp only [List.length_drop, List.length_take]; rfl)) ?_
    with_reducible refine (macadamref06_isStage.calls _ _ l0_0 a0_1 a0_2 a0_3 a0_4 _ _ l0_5 a0_6 a1 t227 _ ?side1 ?side2 ?side3 ?side4 A3.out).mono ?_
    (case side1 => repeat (first | exact (Kd.C_below HR0_0.out HB.out) | (with_reducible refine Kd.C_alloc ?_ _) | (with_reducible refine Kd.C_drewN ?_ _) | (with_reducible refine Kd.C_drew ?_)))
    (case side2 => exact HC0_0.out)
    (case side3 => repeat (first | exact (Kd.C_below HR0_5.out HB.out) | (with_reducible refine Kd.C_alloc ?_ _) | (with_reducible refine Kd.C_drewN ?_ _) | (with_reducible refine Kd.C_drew ?_)))
    (case side4 => exact HC0_5.out)
    rintro e w29 ⟨rfl, hb⟩
    refine ⟨_, rfl, ?_⟩
    have n0_ := Aside0.mk (blk_below (g := gb225) (o := .cells #[.slice A0_0 l0_0.length c0_0, .int .i64 a0_1, .int .i64 a0_2, .int .i64 a0_3, .int .i64 a0_4, .slice A0_5 l0_5.length c0_5, .int .i64 a0_6] 26 (0, 0)) (by (with_reducible repeat (first | refine blk_drewN ?_ _ | refine blk_drew ?_ | refine blk_alloc ?_ _)); exact BK225.out) hb)
    have n1_ := Aside0.mk (blk_below (g := gb226) (o := .cells #[.int .i64 0, .int .i64 0] 32 (0, 0)) (by (with_reducible repeat (first | refine blk_drewN ?_ _ | refine blk_drew ?_ | refine blk_alloc ?_ _)); exact BK226.out) hb)
    have n2_ := Aside0.mk (below_step (by repeat (first | (with_reducible first | exact HB.out | apply below_alloc | apply pw_below_drewN | apply below_drew1 | refine below_set ?_ GE225.out | refine below_set ?_ GE226.out) | exact HB.out)) hb)
    clear BK225
    clear BK226
    clear HB
    have BK225 := n0_
    have BK226 := n1_
    have HB := n2_
    clear n0_ n1_ n2_
    (try clear hb)
    (try clear hb2)
    (try clear hk)
    (try clear hi)
    refine hK.out _ _ ⟨(blk_cell BK225.out 0).trans rfl, (blk_cell BK225.out 1).trans rfl, (blk_cell BK225.out 2).trans rfl, (blk_cell BK225.out 3).trans rfl, (blk_cell BK225.out 4).trans rfl, (blk_cell BK225.out 5).trans rfl, (blk_cell BK225.out 6).trans rfl⟩ (fun hHeld => ?_)
    clear hK K
    refine norm_ (a' := ?_) ?_ ?_
    rotate_left
    · show Act.put _ (some 14) _ = _
      simp only [nrm_]
      rfl
    refine one_ (i := 4) (N := some 15) (bl 10 31) rfl rfl (one_of HT_.out (by kernel_rfl)) (by decide) (fun K hK => ?_)
    refine goes_ Tryd.func73 (by kernel_rfl) rfl #[.agg #[.slice A0_0 l0_0.length c0_0, .int .i64 a0_1, .int .i64 a0_2, .int .i64 a0_3, .int .i64 a0_4, .slice A0_5 l0_5.length c0_5, .int .i64 a0_6], .bool t227] (by rfl) rfl rfl (by (try simp only [List.map_toArray, List.map_cons, List.map_nil]); first | done | rfl | (simp only [List.length_drop, List.length_take]; rfl)) ?_
    with_reducible refine (macadamref06_asked.calls k _ _ l0_0 a0_1 a0_2 a0_3 a0_4 _ _ l0_5 a0_6 t227 t228 t231 _ ?side1 ?side2 ?side3 ?side4 A4.out).mono ?_
    (case side1 => repeat (first | exact (Kd.C_below HR0_0.out HB.out) | (with_reducible refine Kd.C_alloc ?_ _) | (with_reducible refine Kd.C_drewN ?_ _) | (with_reducible refine Kd.C_drew ?_)))
    (case side2 => exact HC0_0.out)
    (case side3 => repeat (first | exact (Kd.C_below HR0_5.out HB.out) | (with_reducible refine Kd.C_alloc ?_ _) | (with_reducible refine Kd.C_drewN ?_ _) | (with_reducible refine Kd.C_drew ?_)))
    (case side4 => exact HC0_5.out)
    rintro e w30 ⟨v229, rfl, ho0, hb⟩
    refine ⟨_, rfl, ?_⟩
    have n0_ := Aside0.mk (Kd.N_lower (Kd.N_mono (ok' := fun k_ => k_ ≠ gb225 ∧ k_ ≠ gb226) ho0 (fun k_ hk_ => ⟨(Kd.freshB (g := gb225) (o := .cells #[.slice A0_0 l0_0.length c0_0, .int .i64 a0_1, .int .i64 a0_2, .int .i64 a0_3, .int .i64 a0_4, .slice A0_5 l0_5.length c0_5, .int .i64 a0_6] 26 (0, 0)) (by (with_reducible repeat (first | refine blk_drewN ?_ _ | refine blk_drew ?_ | refine blk_alloc ?_ _)); exact BK225.out) k_ hk_), (Kd.freshB (g := gb226) (o := .cells #[.int .i64 0, .int .i64 0] 32 (0, 0)) (by (with_reducible repeat (first | refine blk_drewN ?_ _ | refine blk_drew ?_ | refine blk_alloc ?_ _)); exact BK226.out) k_ hk_)⟩)) (below_size (by repeat (first | (with_reducible first | exact HB.out | apply below_alloc | apply pw_below_drewN | apply below_drew1 | refine below_set ?_ GE225.out | refine below_set ?_ GE226.out) | exact HB.out))))
    have n1_ := Aside0.mk (blk_below (g := gb225) (o := .cells #[.slice A0_0 l0_0.length c0_0, .int .i64 a0_1, .int .i64 a0_2, .int .i64 a0_3, .int .i64 a0_4, .slice A0_5 l0_5.length c0_5, .int .i64 a0_6] 26 (0, 0)) (by (with_reducible repeat (first | refine blk_drewN ?_ _ | refine blk_drew ?_ | refine blk_alloc ?_ _)); exact BK225.out) hb)
    have n2_ := Aside0.mk (blk_below (g := gb226) (o := .cells #[.int .i64 0, .int .i64 0] 32 (0, 0)) (by (with_reducible repeat (first | refine blk_drewN ?_ _ | refine blk_drew ?_ | refine blk_alloc ?_ _)); exact BK226.out) hb)
    have n3_ := Aside0.mk (below_step (by repeat (first | (with_reducible first | exact HB.out | apply below_alloc | apply pw_below_drewN | apply below_drew1 | refine below_set ?_ GE225.out | refine below_set ?_ GE226.out) | exact HB.out)) hb)
    clear BK225
    clear BK226
    clear HB
    have HO230 := n0_
    have BK225 := n1_
    have BK226 := n2_
    have HB := n3_
    clear n0_ n1_ n2_ n3_
    (try clear hb)
    (try clear hb2)
    (try clear hk)
    (try clear hi)
    (try clear ho0)
    refine hK.out _ _ ⟨(blk_cell BK225.out 0).trans rfl, (blk_cell BK225.out 1).trans rfl, (blk_cell BK225.out 2).trans rfl, (blk_cell BK225.out 3).trans rfl, (blk_cell BK225.out 4).trans rfl, (blk_cell BK225.out 5).trans rfl, (blk_cell BK225.out 6).trans rfl⟩ (fun hHeld => ?_)
    clear hK K
    refine norm_ (a' := ?_) ?_ ?_
    rotate_left
    · show Act.put _ (some 15) _ = _
      simp only [nrm_]
      rfl
    refine pu_ 5 (some 10) (bl 10 63) rfl rfl (by kernel_rfl) (fun _ _ _ h => h) (by rfl) (by intro w'; go_simp; with_reducible rfl) (by simp only [nrm_]; rfl) ?_
    refine pu_ 6 (some 16) (bl 10 127) rfl rfl (by kernel_rfl) (fun _ _ _ h => h) (by rfl) (by intro w'; go_simp; with_reducible rfl) (by simp only [nrm_]; rfl) ?_
    refine pu_ 7 (some 17) (bl 10 255) rfl rfl (by kernel_rfl) (fun _ _ _ h => h) (by rfl) (by intro w'; go_simp; with_reducible rfl) (by simp only [nrm_]; rfl) ?_
    refine pu_ 8 (some 6) (bl 10 511) rfl rfl (by kernel_rfl) (fun _ _ _ h => h) (by rfl) (by intro w'; go_simp; with_reducible rfl) (by simp only [nrm_]; rfl) ?_
    refine pu_ 9 (some 7) (bl 10 1023) rfl rfl (by kernel_rfl) (fun _ _ _ h => h) (by rfl) (by intro w'; go_simp; with_reducible rfl) (by simp only [nrm_]; rfl) ?_
    refine done_ (done_of HT_.out (by kernel_rfl)) ?_
    have hnb31 := NB226_225.out
    have hnc31 := NB225_226.out
    have hcz32_0 : w30.cell? ⟨gb226, 0, none⟩ = some (.int .i64 0) := (blk_cell BK226.out 0).trans rfl
    have hcz32_1 : w30.cell? ⟨gb226, 1, none⟩ = some (.int .i64 0) := (blk_cell BK226.out 1).trans rfl
    have hfz32_0 := blk_frozen BK226.out 0
    have hfz32_1 := blk_frozen BK226.out 1
    try go_wp2
    refine bodyPost_ret (results_ct rfl _ _ gb226 32 #[.int .i64 0, .int .i64 0] (0, 0) _ rfl (by (with_reducible repeat (first | refine blk_drewN ?_ _ | refine blk_drew ?_ | refine blk_alloc ?_ _)); refine blk_put (cs := #[.int .i64 0, .int .i64 0]) ?_ 1 _ rfl; (with_reducible repeat (first | refine blk_drewN ?_ _ | refine blk_drew ?_ | refine blk_alloc ?_ _)); refine blk_put (cs := #[.int .i64 0, .int .i64 0]) ?_ 0 _ rfl; (with_reducible repeat (first | refine blk_drewN ?_ _ | refine blk_drew ?_ | refine blk_alloc ?_ _)); exact BK226.out) Tryd.underlying32 rfl (by kernel_rfl)) rfl ?_
    exact ⟨by first | rfl | (simp [errW_none, errW_some] <;> rfl) | (simp [*, errW_none, errW_some] <;> rfl), by repeat (first | (with_reducible first | exact HB.out | apply below_alloc | apply pw_below_drewN | apply below_drew1 | refine below_set ?_ GE225.out | refine below_set ?_ GE226.out) | exact HB.out)⟩
end Go.Proofs.YtbhjfojbjpbdbaaDoorPX
namespace Go.Proofs.YtbhjfojbjpbdbaaDoor
end Go.Proofs.YtbhjfojbjpbdbaaDoor
namespace Go.Proofs.YtbhjfojbjpbdbaaDoor
end Go.Proofs.YtbhjfojbjpbdbaaDoor
namespace Go.Proofs.YtbhjfojbjpbdbaaDoor
end Go.Proofs.YtbhjfojbjpbdbaaDoor
namespace Go.Proofs.YtbhjfojbjpbdbaaDoor
def St.later (y : Int) (x : St) : St := { x with due := x.due + y }
def Bk.later (b : Bk) (y : Int) : Bk := { b with sts := b.sts.map (St.later y) }
end Go.Proofs.YtbhjfojbjpbdbaaDoor
namespace Go.Proofs.YtbhjfojbjpbdbaaDoor
end Go.Proofs.YtbhjfojbjpbdbaaDoor
namespace Go.Proofs.YtbhjfojbjpbdbaaDoorPX
open Go Go.RowKit Go.Proofs.YtbhjfojbjpbdbaaDoor Go.Proofs.YtbhjfojbjpbdbaaDoorW.PrintWords Go.Proofs.YtbhjfojbjpbdbaaDoorW.PrintMore
theorem in_key : ∀ s < 32, ∀ n < 6, (Go.bits .and .i64 (shr .i64 ((s : Nat) : Int) ((n : Nat) : Int)) 1 == 1) = bitOf ((s : Nat) : Int) n := by decide +kernel
theorem in_f {s : Int} {n : Nat} (h0 : 0 ≤ s) (h1 : s < 32) (hn : n < 6) : macadamref00_In.f s (n : Int) = some (bitOf s n) := by
  unfold macadamref00_In.f
  rw [if_pos (by omega)]
  have := in_key s.toNat (by omega) n hn
  rw [show ((s.toNat : Nat) : Int) = s by omega] at this
  rw [this]
section
variable {l : List S56} {a1 a2 a3 a4 : Int} {ks : List S42} {a6 : Int}
abbrev BK (l : List S56) (a1 a2 a3 a4 : Int) (ks : List S42) (a6 : Int) : Bk := bkOf l a1 a2 a3 a4 ks a6
theorem lok_of (h : Sound (BK l a1 a2 a3 a4 ks a6)) : LOk l := by
  refine ⟨by have := h.bd.l3; simpa [bkOf] using this, fun x hx => ?_⟩
  have := h.sts (stOf x) (by simp only [bkOf]; exact List.mem_map_of_mem hx)
  simp only [stOf] at this
  omega
theorem kok_of (h : Sound (BK l a1 a2 a3 a4 ks a6)) : KOk ks := by
  refine ⟨by have := h.nc; simpa [bkOf] using this, fun c hc => ?_⟩
  have := h.ck (ckOf c) (by simp only [bkOf]; exact List.mem_map_of_mem hc)
  simp only [ckOf] at this
  omega
theorem cost_ix (w : Nat) (hw : w < 3) : (BK l a1 a2 a3 a4 ks a6).cost w = ix3 a2 a3 a4 (w : Int) := by
  have : w = 0 ∨ w = 1 ∨ w = 2 := by omega
  rcases this with rfl | rfl | rfl <;> rfl
def tFrom (b : Bk) : Nat → List Tr
  | 0 => []
  | d + 1 => (if bitOf b.wth (2 - d) then goes (b.cost (2 - d)) b.cks b.sts 0 (Tr.start (2 - d)) 0 else []) ++ tFrom b d
theorem tFrom_all (b : Bk) : tFrom b 3 = truths b := by
  simp [tFrom, truths, List.range_succ]
theorem truths_ev (h : Sound (BK l a1 a2 a3 a4 ks a6)) : Ev (fun k => macadamref06_truths.f k l a1 a2 a3 a4 ks a6) ((truths (BK l a1 a2 a3 a4 ks a6)).map (trS l.length)) := by
  have hl := truths_len h
  rw [← tFrom_all] at hl ⊢
  have hwt := h.wt
  have key : ∀ (d : Nat) (out : List S92), d ≤ 3 → out.length + (tFrom (BK l a1 a2 a3 a4 ks a6) d).length ≤ 20000 →
      Ev (fun k => macadamref06_truths.l0 k out ((3 - d : Nat) : Int) l a1 a2 a3 a4 ks a6) (out ++ (tFrom (BK l a1 a2 a3 a4 ks a6) d).map (trS l.length)) := by
    intro d
    induction d with
    | zero =>
      intro out _ _
      refine Ev.step (f := fun _ => some out) (fun k => ?_) (by simp only [tFrom, List.map_nil, List.append_nil]; exact Ev.now _)
      rw [macadamref06_truths.l0, if_neg (by omega)]
    | succ d ihd =>
      intro out hd hlo
      have hw3 : 3 - (d + 1) < 3 := by omega
      have e2 : 3 - (d + 1) = 2 - d := by omega
      rw [e2] at hw3 ⊢
      have e1 : wrap64 (((2 - d : Nat) : Int) + 1) = ((3 - d : Nat) : Int) := by rw [w64 (by omega) (by omega)]; omega
      simp only [tFrom] at hlo ⊢
      have hin := in_f (s := a1) (n := 2 - d) (by have : (BK l a1 a2 a3 a4 ks a6).wth = a1 := rfl; omega) (by have : (BK l a1 a2 a3 a4 ks a6).wth = a1 := rfl; omega) (by omega)
      have ewt : (BK l a1 a2 a3 a4 ks a6).wth = a1 := rfl
      rw [ewt] at hlo ⊢
      cases hb : bitOf a1 (2 - d) with
      | false =>
        rw [hb] at hlo hin
        simp only [Bool.false_eq_true, if_false, List.nil_append] at hlo ⊢
        refine Ev.step (fun k => ?_) (ihd out (by omega) hlo)
        rw [macadamref06_truths.l0, if_pos (by omega), hin, Option.bind_some, if_neg (by decide), e1]
      | true =>
        rw [hb] at hlo hin
        simp only [if_true, List.length_append] at hlo ⊢
        have hc := h.co (2 - d)
        rw [cost_ix _ hw3] at hlo hc ⊢
        have hg := goes_ev (lok_of h) (kok_of h) (a2 := a2) (a3 := a3) (a4 := a4) (a1 := a1) (a6 := a6) (w := ((2 - d : Nat) : Int)) (by omega) hc l.length 0 (Tr.start (2 - d)) 0 (by omega) rfl (by omega)
        have h2 := ihd (out ++ (goes (ix3 a2 a3 a4 ((2 - d : Nat) : Int)) (ks.map ckOf) (l.map stOf) 0 (Tr.start (2 - d)) 0).map (trS l.length)) (by omega) (by rw [List.length_append, List.length_map]; simp only [bkOf] at hlo; simp only [bkOf]; omega)
        rw [List.map_append, ← List.append_assoc]
        refine Ev.step (fun k => by rw [macadamref06_truths.l0, if_pos (by omega), hin, Option.bind_some, if_pos rfl]) ?_
        refine Ev.bind hg ?_
        refine Ev.congr (fun k => ?_) h2
        rw [if_pos (by rw [List.length_map]; simp only [bkOf] at hlo; simp only [List.drop_zero]; omega), e1]
        rfl
  have := key 3 [] (Nat.le_refl _) (by simpa using hl)
  exact this
theorem check_zero {b : Bk} : checkS b = 0 ↔ bkOk b = true := by unfold checkS; split <;> simp_all
theorem right_ref : Ev (fun k => macadamref06_Right.f k l a1 a2 a3 a4 ks a6) (rightS (BK l a1 a2 a3 a4 ks a6)) := by
  unfold macadamref06_Right.f macadamref06_Check.f rightS
  by_cases h : bkOk (BK l a1 a2 a3 a4 ks a6) = true
  · rw [if_pos h]
    refine Ev.congr (fun k => by rw [Option.bind_some, if_pos (check_zero.2 h)]) ?_
    refine Ev.bind (truths_ev (sound_of h)) ?_
    rw [List.length_map]
    have : (decide (((truths (BK l a1 a2 a3 a4 ks a6)).length : Int) > 0)) = !(truths (BK l a1 a2 a3 a4 ks a6)).isEmpty := by
      cases truths (BK l a1 a2 a3 a4 ks a6) <;> simp
    rw [this]
    exact Ev.now _
  · have h' : checkS (BK l a1 a2 a3 a4 ks a6) = 60 := by unfold checkS; rw [if_neg h]
    rw [if_neg h]
    refine Ev.congr (f := fun _ => some (false, 60)) (fun k => ?_) (Ev.now _)
    show (some (checkS (BK l a1 a2 a3 a4 ks a6))).bind _ = _
    rw [Option.bind_some, h', if_neg (by decide)]
theorem asked_ref (is : Bool) : Ev (fun k => macadamref06_asked.f k l a1 a2 a3 a4 ks a6 is) (if askE (BK l a1 a2 a3 a4 ks a6) is = 0 then (truths (BK l a1 a2 a3 a4 ks a6)).map (trS l.length) else [], askE (BK l a1 a2 a3 a4 ks a6) is) := by
  unfold macadamref06_asked.f macadamref06_Check.f
  by_cases h : bkOk (BK l a1 a2 a3 a4 ks a6) = true
  · have hc : checkS (BK l a1 a2 a3 a4 ks a6) = 0 := check_zero.2 h
    cases is with
    | false =>
      have ha : askE (BK l a1 a2 a3 a4 ks a6) false = 61 := by unfold askE; rw [if_pos h]; rfl
      rw [ha, if_neg (by decide)]
      refine Ev.congr (fun k => ?_) (Ev.now _)
      show (some (checkS (BK l a1 a2 a3 a4 ks a6))).bind _ = _
      rw [Option.bind_some, hc, if_pos rfl, if_neg (by decide)]
    | true =>
      refine Ev.congr (fun k => by show (some (checkS (BK l a1 a2 a3 a4 ks a6))).bind _ = _; rw [Option.bind_some, hc, if_pos rfl, if_pos rfl]) ?_
      refine Ev.bind (truths_ev (sound_of h)) ?_
      rcases ht : truths (BK l a1 a2 a3 a4 ks a6) with _ | ⟨t, r⟩
      · have ha : askE (BK l a1 a2 a3 a4 ks a6) true = 62 := by unfold askE; rw [if_pos h, ht]; rfl
        rw [ha]
        exact Ev.now _
      · have ha : askE (BK l a1 a2 a3 a4 ks a6) true = 0 := by unfold askE; rw [if_pos h, ht]; rfl
        rw [ha, if_pos rfl, if_neg (by simp; omega)]
        exact Ev.now _
  · have h' : checkS (BK l a1 a2 a3 a4 ks a6) = 60 := by unfold checkS; rw [if_neg h]
    have ha : askE (BK l a1 a2 a3 a4 ks a6) is = 60 := by unfold askE; rw [if_neg h]
    rw [ha, if_neg (by decide)]
    refine Ev.congr (fun k => ?_) (Ev.now _)
    show (some (checkS (BK l a1 a2 a3 a4 ks a6))).bind _ = _
    rw [Option.bind_some, h', if_neg (by decide)]
end
theorem mx_max (a b : Int) : mx a b = max a b := by unfold mx; split <;> omega
theorem mn_min (a b : Int) : mn a b = min a b := by unfold mn; split <;> omega
theorem union_f (a b c d : Int) : macadamref00_Union.f a b c d = some (min a c, max b d) := by unfold macadamref00_Union.f macadamref00_Reach.f; simp [mx_max, mn_min]
theorem just_f (a : Int) : macadamref00_Just.f a = some (a, a) := rfl
theorem ends_ev (xs : List Int) (hl : xs.length ≤ 100000) : ∀ (d i : Nat) (lo hi : Int), i + d = xs.length → Ev (fun k => macadamref06_ends.l0 k xs (i : Int) lo hi) ((xs.drop i).foldl min lo, (xs.drop i).foldl max hi)
  | 0, i, lo, hi, h => by
    rw [List.drop_eq_nil_of_le (by omega)]
    refine Ev.step (f := fun _ => some (lo, hi)) (fun k => ?_) (Ev.now _)
    rw [macadamref06_ends.l0, if_neg (by omega)]
  | d + 1, i, lo, hi, h => by
    have hlt : i < xs.length := by omega
    have er : rd xs (i : Int) = xs[i] := by unfold rd; simp [hlt]
    have e1 : wrap64 ((i : Int) + 1) = ((i + 1 : Nat) : Int) := by rw [w64 (by omega) (by omega)]; omega
    rw [List.drop_eq_getElem_cons hlt, List.foldl_cons, List.foldl_cons]
    refine Ev.step (fun k => ?_) (ends_ev xs hl d (i + 1) (min lo xs[i]) (max hi xs[i]) (by omega))
    rw [macadamref06_ends.l0, if_pos (by omega), if_pos (by omega), just_f, Option.bind_some, union_f, Option.bind_some, er, e1]
theorem fold_map (f : Tr → Int) (g : Int → Int → Int) : ∀ (l : List Tr) (m : Int), (l.map f).foldl g m = l.foldl (fun m t => g m (f t)) m
  | [], _ => rfl
  | t :: l, m => by rw [List.map_cons, List.foldl_cons, List.foldl_cons]; exact fold_map f g l _
theorem ends_ref (f : Tr → Int) (l : List Tr) (hl : l.length ≤ 100000) (hne : l ≠ []) : Ev (fun k => macadamref06_ends.f k (l.map f)) (toldLo f l, toldHi f l) := by
  rcases l with _ | ⟨t, r⟩
  · exact absurd rfl hne
  · unfold macadamref06_ends.f
    have er : rd ((t :: r).map f) 0 = f t := rfl
    refine Ev.congr (fun k => by rw [if_pos (by simp), just_f, Option.bind_some, er]) ?_
    have := ends_ev ((t :: r).map f) (by simpa using hl) (t :: r).length 0 (f t) (f t) (by simp)
    rw [List.drop_zero, fold_map, fold_map] at this
    exact this
section
variable {l : List S56} {a1 a2 a3 a4 : Int} {ks : List S42} {a6 : Int}
theorem stage_f (h : l.length ≤ 9223372036854775807) (n : Int) : macadamref06_isStage.f l a1 a2 a3 a4 ks a6 n = some (isStage (BK l a1 a2 a3 a4 ks a6) n) := by
  unfold macadamref06_isStage.f isStage
  rw [w64 (by omega) (by omega), amid_f]
  simp [bkOf]
theorem rd92 (xs : List S92) (i : Nat) {x : S92} (h : xs[i]? = some x) : rd_T92 xs (i : Int) = x := by
  unfold rd_T92
  simp [List.getD_eq_getElem?_getD, h]
theorem rd_take {x y z : Int} {n k : Nat} (hk : k < n) (hn : n ≤ 3) : rd ([x, y, z].take n) (k : Int) = at3 x y z k := by
  unfold rd
  have hn' : n = 1 ∨ n = 2 ∨ n = 3 := by omega
  rcases hn' with rfl | rfl | rfl
  · obtain rfl : k = 0 := by omega
    rfl
  · have : k = 0 ∨ k = 1 := by omega
    rcases this with rfl | rfl <;> rfl
  · have : k = 0 ∨ k = 1 ∨ k = 2 := by omega
    rcases this with rfl | rfl | rfl <;> rfl
theorem comes_rd (t : Tr) {n k : Nat} (hk : k < n) (hn : n ≤ 3) : rd (trS n t).f2 (k : Int) = t.comes k := by
  simp only [trS, rd_take hk hn]
  unfold Tr.comes at3
  split <;> rfl
theorem rough_rd (t : Tr) {n k : Nat} (hk : k < n) (hn : n ≤ 3) : rd (trS n t).f1 (k : Int) = t.rough k := by
  simp only [trS, rd_take hk hn]
  unfold Tr.rough at3
  split <;> rfl
theorem comes_len (t : Tr) {n : Nat} (hn : n ≤ 3) : ((trS n t).f2).length = n := take3_len hn
theorem rough_len (t : Tr) {n : Nat} (hn : n ≤ 3) : ((trS n t).f1).length = n := take3_len hn
theorem comes_ev {n k : Nat} (hk : k < n) (hn : n ≤ 3) (T : List Tr) (hT : T.length ≤ 100000) (hne : T ≠ []) : ∀ (d i : Nat), i + d = T.length →
    Ev (fun r => macadamref06_Comes.l0 r (k : Int) (T.map (trS n)) ((T.take i).map (fun t => t.comes k)) (i : Int)) (toldLo (fun t => t.comes k) T, toldHi (fun t => t.comes k) T, 0)
  | 0, i, h => by
    rw [List.take_of_length_le (by omega)]
    refine Ev.step (fun r => by rw [macadamref06_Comes.l0, if_neg (by rw [List.length_map]; omega)]) ?_
    refine Ev.bind (ends_ref _ T hT hne) ?_
    exact Ev.now _
  | d + 1, i, h => by
    have hlt : i < T.length := by omega
    have e1 : wrap64 ((i : Int) + 1) = ((i + 1 : Nat) : Int) := by rw [w64 (by omega) (by omega)]; omega
    have er : rd_T92 (T.map (trS n)) (i : Int) = trS n T[i] := rd92 _ _ (by simp [hlt])
    refine Ev.step (fun r => ?_) (comes_ev hk hn T hT hne d (i + 1) (by omega))
    rw [macadamref06_Comes.l0, if_pos (by rw [List.length_map]; omega), if_pos (by omega), if_pos (by omega), er, comes_len _ hn, if_pos (by omega), if_pos (by rw [List.length_map, List.length_take]; omega), comes_rd _ hk hn, e1,
      List.take_succ_eq_append_getElem hlt, List.map_append]
    rfl
theorem rough_ev {n k : Nat} (hk : k < n) (hn : n ≤ 3) (T : List Tr) (hT : T.length ≤ 100000) (hne : T ≠ []) : ∀ (d i : Nat), i + d = T.length →
    Ev (fun r => macadamref06_Rough.l0 r (k : Int) (T.map (trS n)) ((T.take i).map (fun t => t.rough k)) (i : Int)) (toldLo (fun t => t.rough k) T, toldHi (fun t => t.rough k) T, 0)
  | 0, i, h => by
    rw [List.take_of_length_le (by omega)]
    refine Ev.step (fun r => by rw [macadamref06_Rough.l0, if_neg (by rw [List.length_map]; omega)]) ?_
    refine Ev.bind (ends_ref _ T hT hne) ?_
    exact Ev.now _
  | d + 1, i, h => by
    have hlt : i < T.length := by omega
    have e1 : wrap64 ((i : Int) + 1) = ((i + 1 : Nat) : Int) := by rw [w64 (by omega) (by omega)]; omega
    have er : rd_T92 (T.map (trS n)) (i : Int) = trS n T[i] := rd92 _ _ (by simp [hlt])
    refine Ev.step (fun r => ?_) (rough_ev hk hn T hT hne d (i + 1) (by omega))
    rw [macadamref06_Rough.l0, if_pos (by rw [List.length_map]; omega), if_pos (by omega), if_pos (by omega), er, rough_len _ hn, if_pos (by omega), if_pos (by rw [List.length_map, List.length_take]; omega), rough_rd _ hk hn, e1,
      List.take_succ_eq_append_getElem hlt, List.map_append]
    rfl
theorem late_f (h : Sound (BK l a1 a2 a3 a4 ks a6)) {k : Nat} (hk : k < l.length) {t : Tr} (ht : TrOk t) :
    macadamref06_late.f l a1 a2 a3 a4 ks a6 (trS l.length t).f0 (trS l.length t).f1 (trS l.length t).f2 (k : Int) = some (lateT (BK l a1 a2 a3 a4 ks a6) k t) := by
  have hl3 := (lok_of h).1
  obtain ⟨x, hx⟩ : ∃ x, l[k]? = some x := ⟨_, List.getElem?_eq_getElem hk⟩
  have hdue : (BK l a1 a2 a3 a4 ks a6).due k = x.f0 := by simp [Bk.due, bkOf, hx, stOf]
  have hd := h.bd.due k
  rw [hdue] at hd
  obtain ⟨_, c0, c1, c2, _⟩ := ht
  have hc : 0 ≤ t.comes k ∧ t.comes k ≤ 1000 := by unfold Tr.comes; split <;> omega
  unfold macadamref06_late.f lateT
  rw [if_pos (by omega), comes_len _ hl3, if_pos (by omega), if_pos (by omega), rd56 l k hx, comes_rd _ hk hl3, w64 (by omega) (by omega), mx_max, hdue]
theorem late_ev (h : Sound (BK l a1 a2 a3 a4 ks a6)) {k : Nat} (hk : k < l.length) (T : List Tr) (hT : T.length ≤ 100000) (hne : T ≠ []) (hok : ∀ t ∈ T, TrOk t) : ∀ (d i : Nat), i + d = T.length →
    Ev (fun r => macadamref06_Late.l0 r (k : Int) (T.map (trS l.length)) ((T.take i).map (lateT (BK l a1 a2 a3 a4 ks a6) k)) (i : Int) l a1 a2 a3 a4 ks a6) (toldLo (lateT (BK l a1 a2 a3 a4 ks a6) k) T, toldHi (lateT (BK l a1 a2 a3 a4 ks a6) k) T, 0)
  | 0, i, h0 => by
    rw [List.take_of_length_le (by omega)]
    refine Ev.step (fun r => by rw [macadamref06_Late.l0, if_neg (by rw [List.length_map]; omega)]) ?_
    refine Ev.bind (ends_ref _ T hT hne) ?_
    exact Ev.now _
  | d + 1, i, h0 => by
    have hlt : i < T.length := by omega
    have e1 : wrap64 ((i : Int) + 1) = ((i + 1 : Nat) : Int) := by rw [w64 (by omega) (by omega)]; omega
    have er : rd_T92 (T.map (trS l.length)) (i : Int) = trS l.length T[i] := rd92 _ _ (by simp [hlt])
    refine Ev.step (fun r => ?_) (late_ev h hk T hT hne hok d (i + 1) (by omega))
    rw [macadamref06_Late.l0, if_pos (by rw [List.length_map]; omega), if_pos (by omega), er, late_f h hk (hok _ (List.getElem_mem hlt)), Option.bind_some, if_pos (by rw [List.length_map, List.length_take]; omega), e1,
      List.take_succ_eq_append_getElem hlt, List.map_append]
    rfl
theorem span_ref {F : Tr → Int} {is : Bool} {G : Nat → List S92 → Option (Int × Int × Int)} (hG : askE (BK l a1 a2 a3 a4 ks a6) is = 0 → Ev (fun k => G k ((truths (BK l a1 a2 a3 a4 ks a6)).map (trS l.length))) (toldLo F (truths (BK l a1 a2 a3 a4 ks a6)), toldHi F (truths (BK l a1 a2 a3 a4 ks a6)), 0)) :
    Ev (fun k => (macadamref06_asked.f k l a1 a2 a3 a4 ks a6 is).bind fun r => if r.2 = 0 then G k r.1 else some (0, 0, r.2)) (spanE (BK l a1 a2 a3 a4 ks a6) is F) := by
  refine Ev.bind (asked_ref is) ?_
  unfold spanE
  by_cases h : askE (BK l a1 a2 a3 a4 ks a6) is = 0
  · rw [if_pos h, if_pos h]
    refine Ev.congr (fun k => ?_) (hG h)
    rw [if_pos h]
  · rw [if_neg h, if_neg h]
    refine Ev.congr (fun k => ?_) (Ev.now _)
    rw [if_neg h]
theorem asked_zero {is : Bool} (h : askE (BK l a1 a2 a3 a4 ks a6) is = 0) : Sound (BK l a1 a2 a3 a4 ks a6) ∧ is = true ∧ truths (BK l a1 a2 a3 a4 ks a6) ≠ [] := by
  unfold askE at h
  split at h
  · rename_i hb
    split at h
    · rename_i hi
      split at h
      · cases h
      · rename_i ht
        exact ⟨sound_of hb, hi, fun e => ht (by rw [e]; rfl)⟩
    · cases h
  · cases h
theorem stage_at {n : Int} (h : isStage (BK l a1 a2 a3 a4 ks a6) n = true) : ∃ k : Nat, n = (k : Int) ∧ k < l.length := by
  simp only [isStage, within, bkOf, List.length_map, Bool.and_eq_true, decide_eq_true_iff] at h
  exact ⟨n.toNat, by omega, by omega⟩
theorem comes_ref (hl : l.length ≤ 9223372036854775807) (n : Int) : Ev (fun k => macadamref06_Comes.f k l a1 a2 a3 a4 ks a6 n) (comesS (BK l a1 a2 a3 a4 ks a6) n) := by
  unfold macadamref06_Comes.f
  refine Ev.congr (fun k => by rw [stage_f hl, Option.bind_some]) ?_
  unfold comesS
  refine span_ref (G := fun k T => macadamref06_Comes.l0 k n T [] 0) (fun h => ?_)
  obtain ⟨hS, his, hne⟩ := asked_zero h
  obtain ⟨k, rfl, hk⟩ := stage_at his
  have := truths_len hS
  exact comes_ev hk (lok_of hS).1 _ (by omega) hne _ 0 (Nat.zero_add _)
theorem rough_ref (hl : l.length ≤ 9223372036854775807) (n : Int) : Ev (fun k => macadamref06_Rough.f k l a1 a2 a3 a4 ks a6 n) (roughS (BK l a1 a2 a3 a4 ks a6) n) := by
  unfold macadamref06_Rough.f
  refine Ev.congr (fun k => by rw [stage_f hl, Option.bind_some]) ?_
  unfold roughS
  refine span_ref (G := fun k T => macadamref06_Rough.l0 k n T [] 0) (fun h => ?_)
  obtain ⟨hS, his, hne⟩ := asked_zero h
  obtain ⟨k, rfl, hk⟩ := stage_at his
  have := truths_len hS
  exact rough_ev hk (lok_of hS).1 _ (by omega) hne _ 0 (Nat.zero_add _)
theorem late_ref (hl : l.length ≤ 9223372036854775807) (n : Int) : Ev (fun k => macadamref06_Late.f k l a1 a2 a3 a4 ks a6 n) (lateS (BK l a1 a2 a3 a4 ks a6) n) := by
  unfold macadamref06_Late.f
  refine Ev.congr (fun k => by rw [stage_f hl, Option.bind_some]) ?_
  unfold lateS
  refine span_ref (G := fun k T => macadamref06_Late.l0 k n T [] 0 l a1 a2 a3 a4 ks a6) (fun h => ?_)
  obtain ⟨hS, his, hne⟩ := asked_zero h
  obtain ⟨k, rfl, hk⟩ := stage_at his
  have := truths_len hS
  exact late_ev hS hk _ (by omega) hne (truths_ok hS) _ 0 (Nat.zero_add _)
end
end Go.Proofs.YtbhjfojbjpbdbaaDoorPX
namespace Go.Proofs.YtbhjfojbjpbdbaaDoorPX
open Go.Proofs.YtbhjfojbjpbdbaaDoor (Glob ix3 blk_ix3 bl nrm_ pu_ po_ tk_)
open Go.RowKit Go.Proofs.YtbhjfojbjpbdbaaDoorW.PrintWords Go.Proofs.YtbhjfojbjpbdbaaDoorW.PrintLast Go.Proofs.YtbhjfojbjpbdbaaDoorW.PrintMore

set_option linter.unusedVariables false
set_option linter.unusedSimpArgs false
theorem eqA32 (d : Nat) (w : World) (x0 y0 : Int) (x1 y1 : Int) :
    (Op.equalIn (d + 2) 32 (.agg #[.int .i64 x0, .int .i64 x1]) (.agg #[.int .i64 y0, .int .i64 y1])).run Tryd.prog w = .ok (x0 == y0 && (x1 == y1)) w := by
  refine eqA_of Tryd.underlying32 (by kernel_rfl) ?_
  refine eqf_cons (by rfl) (by go_simp; rfl) (by go_simp; rfl) (by go_simp) ?_
  exact eqf_last (by rfl) (by go_simp; rfl) (by go_simp; rfl) (by go_simp)
end Go.Proofs.YtbhjfojbjpbdbaaDoorPX
namespace Go.Proofs.YtbhjfojbjpbdbaaDoorPX
open Go.Proofs.YtbhjfojbjpbdbaaDoor (Glob ix3 blk_ix3 bl nrm_ pu_ po_ tk_)
open Go.RowKit Go.Proofs.YtbhjfojbjpbdbaaDoorW.PrintWords Go.Proofs.YtbhjfojbjpbdbaaDoorW.PrintLast Go.Proofs.YtbhjfojbjpbdbaaDoorW.PrintMore

set_option linter.unusedVariables false
set_option linter.unusedSimpArgs false
end Go.Proofs.YtbhjfojbjpbdbaaDoorPX
namespace Go.Proofs.YtbhjfojbjpbdbaaDoorPX
open Go.Proofs.YtbhjfojbjpbdbaaDoor (Glob ix3 blk_ix3 bl nrm_ pu_ po_ tk_)
open Go.RowKit Go.Proofs.YtbhjfojbjpbdbaaDoorW.PrintWords Go.Proofs.YtbhjfojbjpbdbaaDoorW.PrintLast Go.Proofs.YtbhjfojbjpbdbaaDoorW.PrintMore

set_option linter.unusedVariables false
set_option linter.unusedSimpArgs false
section
open Go.Proofs.YtbhjfojbjpbdbaaDoor
def macadamlaw06_billed.f  : Option (Bool) := some true
theorem macadamlaw06_billed.calls  (r : Bool) (w : World) (hG : Glob w) (h : macadamlaw06_billed.f  = some r) :
    Calls Tryd.prog 25 #[] w fun e w' => e = .returned (.bool r) ∧ Below w.heap.size w w' := by
  unfold macadamlaw06_billed.f at h
  have h' := Option.some.inj h
  subst h'
  exact billed_any w hG
end
end Go.Proofs.YtbhjfojbjpbdbaaDoorPX
namespace Go.Proofs.YtbhjfojbjpbdbaaDoorPX
open Go.Proofs.YtbhjfojbjpbdbaaDoor (Glob ix3 blk_ix3 bl nrm_ pu_ po_ tk_)
open Go.RowKit Go.Proofs.YtbhjfojbjpbdbaaDoorW.PrintWords Go.Proofs.YtbhjfojbjpbdbaaDoorW.PrintLast Go.Proofs.YtbhjfojbjpbdbaaDoorW.PrintMore

set_option linter.unusedVariables false
set_option linter.unusedSimpArgs false
attribute [local go_sem high] eqA32
mutual
def macadamlaw06_ClaimTimes.j0 : Nat → Int → Bool → List (S56) → Int → Int → Int → Int → List (S42) → Int → Option (Bool)
  | 0, _, _, _, _, _, _, _, _, _ => none
  | k + 1, x1, x35, x350000, x350001, x350002, x350003, x350004, x350005, x350006 => if x35 = true then (some false) else ((claim_Comes.f x350000 x350001 x350002 x350003 x350004 x350005 x350006 x1).bind fun bt356 => ((macadamref06_Comes.f k x350000 x350001 x350002 x350003 x350004 x350005 x350006 x1).bind fun bt360 => (if (!(bt356.1 == bt360.1) || (!(bt356.2.1 == bt360.2.1))) = true then (macadamlaw06_ClaimTimes.j1 k x1 true x350000 x350001 x350002 x350003 x350004 x350005 x350006) else (macadamlaw06_ClaimTimes.j1 k x1 (bt356.2.2 != bt360.2.2) x350000 x350001 x350002 x350003 x350004 x350005 x350006))))
def macadamlaw06_ClaimTimes.j1 : Nat → Int → Bool → List (S56) → Int → Int → Int → Int → List (S42) → Int → Option (Bool)
  | 0, _, _, _, _, _, _, _, _, _ => none
  | k + 1, x1, x55, x350000, x350001, x350002, x350003, x350004, x350005, x350006 => if x55 = true then (some false) else ((claim_Late.f x350000 x350001 x350002 x350003 x350004 x350005 x350006 x1).bind fun bt364 => ((macadamref06_Late.f k x350000 x350001 x350002 x350003 x350004 x350005 x350006 x1).bind fun bt367 => (if (!(bt364.1 == bt367.1) || (!(bt364.2.1 == bt367.2.1))) = true then (macadamlaw06_ClaimTimes.j2 k x1 true x350000 x350001 x350002 x350003 x350004 x350005 x350006) else (macadamlaw06_ClaimTimes.j2 k x1 (bt364.2.2 != bt367.2.2) x350000 x350001 x350002 x350003 x350004 x350005 x350006))))
def macadamlaw06_ClaimTimes.j2 : Nat → Int → Bool → List (S56) → Int → Int → Int → Int → List (S42) → Int → Option (Bool)
  | 0, _, _, _, _, _, _, _, _, _ => none
  | k + 1, x1, x75, x350000, x350001, x350002, x350003, x350004, x350005, x350006 => if x75 = true then (some false) else ((claim_Rough.f x350000 x350001 x350002 x350003 x350004 x350005 x350006 x1).bind fun bt370 => ((macadamref06_Rough.f k x350000 x350001 x350002 x350003 x350004 x350005 x350006 x1).bind fun bt373 => (if (bt370.1 == bt373.1 && (bt370.2.1 == bt373.2.1)) = true then (if bt370.2.2 = bt373.2.2 then ((macadamlaw06_billed.f).bind fun t376 => (some t376)) else (some false)) else (some false))))
end
def macadamlaw06_ClaimTimes.f (k : Nat) (l0_0 : List (S56)) (a0_1 : Int) (a0_2 : Int) (a0_3 : Int) (a0_4 : Int) (l0_5 : List (S42)) (a0_6 : Int) (a1 : Int) : Option (Bool) := (claim_Right.f l0_0 a0_1 a0_2 a0_3 a0_4 l0_5 a0_6).bind fun bt350 => ((macadamref06_Right.f k l0_0 a0_1 a0_2 a0_3 a0_4 l0_5 a0_6).bind fun bt352 => (if (bt350.1 != bt352.1) = true then (macadamlaw06_ClaimTimes.j0 k a1 true l0_0 a0_1 a0_2 a0_3 a0_4 l0_5 a0_6) else (if bt350.2 = bt352.2 then ((claim_Check.f l0_0 a0_1 a0_2 a0_3 a0_4 l0_5 a0_6).bind fun t354 => ((macadamref06_Check.f l0_0 a0_1 a0_2 a0_3 a0_4 l0_5 a0_6).bind fun t355 => (macadamlaw06_ClaimTimes.j0 k a1 (t354 != t355) l0_0 a0_1 a0_2 a0_3 a0_4 l0_5 a0_6))) else (macadamlaw06_ClaimTimes.j0 k a1 true l0_0 a0_1 a0_2 a0_3 a0_4 l0_5 a0_6))))
def macadamlaw06_ClaimTimes.T3 : Bool × List (List Nat × List Nat) := (true, [([], []), ([], []), ([0, 1], [0, 1]), ([2], [2]), ([3], [3]), ([3], [3]), ([4, 5, 3], [3, 4, 5]), ([3, 6], [3, 6]), ([7, 3], [7]), ([8], [8]), ([9, 8, 8], [8, 9]), ([8], [8]), ([11, 10, 8], [8, 11]), ([10, 12, 8], [8, 10, 12]), ([8, 13], [8, 13])])
def macadamlaw06_ClaimTimes.B3 : List Nat := [0, 0, 3, 7, 15, 15, 63, 127, 255, 511, 1023, 511, 4095, 8191, 16383]
theorem macadamlaw06_ClaimTimes.tab3 : rtab .any (opsOf Tryd.f3 3) = macadamlaw06_ClaimTimes.T3 := by kernel_rfl
theorem macadamlaw06_ClaimTimes.bits3 : waitsOk macadamlaw06_ClaimTimes.T3.2 macadamlaw06_ClaimTimes.B3 = true := by kernel_rfl
set_option maxHeartbeats 8000000 in
set_option maxRecDepth 100000 in
theorem macadamlaw06_ClaimTimes.calls (k : Nat) (A0_0 : Option Addr) (c0_0 : Nat) (l0_0 : List (S56)) (a0_1 : Int) (a0_2 : Int) (a0_3 : Int) (a0_4 : Int) (A0_5 : Option Addr) (c0_5 : Nat) (l0_5 : List (S42)) (a0_6 : Int) (a1 : Int) (r : Bool) (w : World) (hG : Glob w) (hr0_0 : Kd.C k56 w A0_0 l0_0.length l0_0) (hc0_0 : l0_0.length ≤ c0_0) (hr0_5 : Kd.C k42 w A0_5 l0_5.length l0_5) (hc0_5 : l0_5.length ≤ c0_5) (h : macadamlaw06_ClaimTimes.f k l0_0 a0_1 a0_2 a0_3 a0_4 l0_5 a0_6 a1 = some r) :
    Calls Tryd.prog 3 #[.agg #[.slice A0_0 l0_0.length c0_0, .int .i64 a0_1, .int .i64 a0_2, .int .i64 a0_3, .int .i64 a0_4, .slice A0_5 l0_5.length c0_5, .int .i64 a0_6], .int .i64 a1] w fun e w' => e = .returned (.bool r) ∧ Below w.heap.size w w' := by
  have hu26 := Tryd.underlying26
  have hu32 := Tryd.underlying32
  have HG := Aside0.mk hG
  clear hG
  have HR0_0 := Aside0.mk hr0_0
  have HC0_0 := Aside0.mk hc0_0
  clear hr0_0 hc0_0
  have HR0_5 := Aside0.mk hr0_5
  have HC0_5 := Aside0.mk hc0_5
  clear hr0_5 hc0_5
  have HB := Aside0.mk (Below.refl w.heap.size w)
  have H : ((claim_Right.f l0_0 a0_1 a0_2 a0_3 a0_4 l0_5 a0_6).bind fun bt350 => ((macadamref06_Right.f k l0_0 a0_1 a0_2 a0_3 a0_4 l0_5 a0_6).bind fun bt352 => (if (bt350.1 != bt352.1) = true then (macadamlaw06_ClaimTimes.j0 k a1 true l0_0 a0_1 a0_2 a0_3 a0_4 l0_5 a0_6) else (if bt350.2 = bt352.2 then ((claim_Check.f l0_0 a0_1 a0_2 a0_3 a0_4 l0_5 a0_6).bind fun t354 => ((macadamref06_Check.f l0_0 a0_1 a0_2 a0_3 a0_4 l0_5 a0_6).bind fun t355 => (macadamlaw06_ClaimTimes.j0 k a1 (t354 != t355) l0_0 a0_1 a0_2 a0_3 a0_4 l0_5 a0_6))) else (macadamlaw06_ClaimTimes.j0 k a1 true l0_0 a0_1 a0_2 a0_3 a0_4 l0_5 a0_6))))) = some r := h
  clear h
  replace H := Option.bind_eq_some_iff.mp H
  obtain ⟨⟨t350, t351⟩, A30, H⟩ := H
  replace H : ((macadamref06_Right.f k l0_0 a0_1 a0_2 a0_3 a0_4 l0_5 a0_6).bind fun bt352 => (if (t350 != bt352.1) = true then (macadamlaw06_ClaimTimes.j0 k a1 true l0_0 a0_1 a0_2 a0_3 a0_4 l0_5 a0_6) else (if t351 = bt352.2 then ((claim_Check.f l0_0 a0_1 a0_2 a0_3 a0_4 l0_5 a0_6).bind fun t354 => ((macadamref06_Check.f l0_0 a0_1 a0_2 a0_3 a0_4 l0_5 a0_6).bind fun t355 => (macadamlaw06_ClaimTimes.j0 k a1 (t354 != t355) l0_0 a0_1 a0_2 a0_3 a0_4 l0_5 a0_6))) else (macadamlaw06_ClaimTimes.j0 k a1 true l0_0 a0_1 a0_2 a0_3 a0_4 l0_5 a0_6)))) = some r := H
  have A3 := Aside0.mk A30
  clear A30
  replace H := Option.bind_eq_some_iff.mp H
  obtain ⟨⟨t352, t353⟩, A40, H⟩ := H
  replace H : (if (t350 != t352) = true then (macadamlaw06_ClaimTimes.j0 k a1 true l0_0 a0_1 a0_2 a0_3 a0_4 l0_5 a0_6) else (if t351 = t353 then ((claim_Check.f l0_0 a0_1 a0_2 a0_3 a0_4 l0_5 a0_6).bind fun t354 => ((macadamref06_Check.f l0_0 a0_1 a0_2 a0_3 a0_4 l0_5 a0_6).bind fun t355 => (macadamlaw06_ClaimTimes.j0 k a1 (t354 != t355) l0_0 a0_1 a0_2 a0_3 a0_4 l0_5 a0_6))) else (macadamlaw06_ClaimTimes.j0 k a1 true l0_0 a0_1 a0_2 a0_3 a0_4 l0_5 a0_6))) = some r := H
  have A4 := Aside0.mk A40
  clear A40
  have HC5 := Aside0.mk H
  clear H
  go_enter Tryd.func3, Tryd.ntmps3
  go_upto_region 3 with (first | ((with_reducible refine gate_dst (N := 2) rfl ?_); refine box_event ?hg (N := 2) ?hd (cs := #[.slice A0_0 l0_0.length c0_0, .int .i64 a0_1, .int .i64 a0_2, .int .i64 a0_3, .int .i64 a0_4, .slice A0_5 l0_5.length c0_5, .int .i64 a0_6]) (t := 26) ?hr ?_; (case hd => rfl); (case hg => rfl); (case hr => first | (go_simp; done) | (go_simp; rfl)); intro gb349 hg w6 hbox hb; have n0_ := Aside0.mk (below_step (by repeat (first | (with_reducible first | exact HB.out | apply below_alloc | apply pw_below_drewN | apply below_drew1) | exact HB.out)) hb); have n1_ := Aside0.mk (hbox); have n2_ := Aside0.mk ((by rw [hg]; exact (below_size (by repeat (first | (with_reducible first | exact HB.out | apply below_alloc | apply pw_below_drewN | apply below_drew1) | exact HB.out))) : w.heap.size ≤ gb349)); have n3_ := Aside0.mk ((by rw [hg]; exact (below_size (by repeat (first | (with_reducible first | exact HB.out | apply below_alloc | apply pw_below_drewN | apply below_drew1) | exact HB.out))) : w.heap.size ≤ gb349)); clear HB; have HB := n0_; have BK349 := n1_; have GW349 := n2_; have GE349 := n3_; clear n0_ n1_ n2_ n3_; clear hb hbox hg; have hcz7_0 : w6.cell? ⟨gb349, 0, none⟩ = some (.slice A0_0 l0_0.length c0_0) := (blk_cell BK349.out 0).trans rfl; have hcz7_1 : w6.cell? ⟨gb349, 1, none⟩ = some (.int .i64 a0_1) := (blk_cell BK349.out 1).trans rfl; have hcz7_2 : w6.cell? ⟨gb349, 2, none⟩ = some (.int .i64 a0_2) := (blk_cell BK349.out 2).trans rfl; have hcz7_3 : w6.cell? ⟨gb349, 3, none⟩ = some (.int .i64 a0_3) := (blk_cell BK349.out 3).trans rfl; have hcz7_4 : w6.cell? ⟨gb349, 4, none⟩ = some (.int .i64 a0_4) := (blk_cell BK349.out 4).trans rfl; have hcz7_5 : w6.cell? ⟨gb349, 5, none⟩ = some (.slice A0_5 l0_5.length c0_5) := (blk_cell BK349.out 5).trans rfl; have hcz7_6 : w6.cell? ⟨gb349, 6, none⟩ = some (.int .i64 a0_6) := (blk_cell BK349.out 6).trans rfl; have hfz7_0 := blk_frozen BK349.out 0; have hfz7_1 := blk_frozen BK349.out 1; have hfz7_2 := blk_frozen BK349.out 2; have hfz7_3 := blk_frozen BK349.out 3; have hfz7_4 := blk_frozen BK349.out 4; have hfz7_5 := blk_frozen BK349.out 5; have hfz7_6 := blk_frozen BK349.out 6) | ((with_reducible refine gate_callee (f := 15) rfl ?_); refine goesL_ (some 13) rfl rfl Tryd.func15 (by kernel_rfl) rfl #[.agg #[.slice A0_0 l0_0.length c0_0, .int .i64 a0_1, .int .i64 a0_2, .int .i64 a0_3, .int .i64 a0_4, .slice A0_5 l0_5.length c0_5, .int .i64 a0_6]] rfl (by (try simp only [List.map_toArray, List.map_cons, List.map_nil]); first | done | rfl | (simp only [List.length_drop, List.length_take]; rfl)) ?_; (with_reducible refine (claim_Right.calls _ _ l0_0 a0_1 a0_2 a0_3 a0_4 _ _ l0_5 a0_6 t350 t351 _ ?side1 ?side2 ?side3 ?side4 ?side5 A3.out).mono ?_); (case side1 => first | exact HG.out | exact Glob.step HG.out HB.out | exact Glob.step HG.out (by repeat (first | (with_reducible first | exact HB.out | apply below_alloc | apply pw_below_drewN | apply below_drew1 | refine below_set ?_ GE349.out) | exact HB.out))); (case side2 => repeat (first | exact (Kd.C_below HR0_0.out HB.out) | (with_reducible refine Kd.C_alloc ?_ _) | (with_reducible refine Kd.C_drewN ?_ _) | (with_reducible refine Kd.C_drew ?_))); (case side3 => exact HC0_0.out); (case side4 => repeat (first | exact (Kd.C_below HR0_5.out HB.out) | (with_reducible refine Kd.C_alloc ?_ _) | (with_reducible refine Kd.C_drewN ?_ _) | (with_reducible refine Kd.C_drew ?_))); (case side5 => exact HC0_5.out); rintro e w8 ⟨rfl, hb⟩; refine ⟨_, rfl, ?_⟩; have n0_ := Aside0.mk (blk_below (g := gb349) (o := .cells #[.slice A0_0 l0_0.length c0_0, .int .i64 a0_1, .int .i64 a0_2, .int .i64 a0_3, .int .i64 a0_4, .slice A0_5 l0_5.length c0_5, .int .i64 a0_6] 26 (0, 0)) (by (with_reducible repeat (first | refine blk_drewN ?_ _ | refine blk_drew ?_ | refine blk_alloc ?_ _)); exact BK349.out) hb); have n1_ := Aside0.mk (below_step (by repeat (first | (with_reducible first | exact HB.out | apply below_alloc | apply pw_below_drewN | apply below_drew1 | refine below_set ?_ GE349.out) | exact HB.out)) hb); clear BK349; clear HB; have BK349 := n0_; have HB := n1_; clear n0_ n1_; (try clear hb); (try clear hb2); (try clear hk); (try clear hi); have hcz9_0 : w8.cell? ⟨gb349, 0, none⟩ = some (.slice A0_0 l0_0.length c0_0) := (blk_cell BK349.out 0).trans rfl; have hcz9_1 : w8.cell? ⟨gb349, 1, none⟩ = some (.int .i64 a0_1) := (blk_cell BK349.out 1).trans rfl; have hcz9_2 : w8.cell? ⟨gb349, 2, none⟩ = some (.int .i64 a0_2) := (blk_cell BK349.out 2).trans rfl; have hcz9_3 : w8.cell? ⟨gb349, 3, none⟩ = some (.int .i64 a0_3) := (blk_cell BK349.out 3).trans rfl; have hcz9_4 : w8.cell? ⟨gb349, 4, none⟩ = some (.int .i64 a0_4) := (blk_cell BK349.out 4).trans rfl; have hcz9_5 : w8.cell? ⟨gb349, 5, none⟩ = some (.slice A0_5 l0_5.length c0_5) := (blk_cell BK349.out 5).trans rfl; have hcz9_6 : w8.cell? ⟨gb349, 6, none⟩ = some (.int .i64 a0_6) := (blk_cell BK349.out 6).trans rfl; have hfz9_0 := blk_frozen BK349.out 0; have hfz9_1 := blk_frozen BK349.out 1; have hfz9_2 := blk_frozen BK349.out 2; have hfz9_3 := blk_frozen BK349.out 3; have hfz9_4 := blk_frozen BK349.out 4; have hfz9_5 := blk_frozen BK349.out 5; have hfz9_6 := blk_frozen BK349.out 6) | ((with_reducible refine gate_callee (f := 16) rfl ?_); refine goesL_ (some 18) rfl rfl Tryd.func16 (by kernel_rfl) rfl #[.agg #[.slice A0_0 l0_0.length c0_0, .int .i64 a0_1, .int .i64 a0_2, .int .i64 a0_3, .int .i64 a0_4, .slice A0_5 l0_5.length c0_5, .int .i64 a0_6]] rfl (by (try simp only [List.map_toArray, List.map_cons, List.map_nil]); first | done | rfl | (simp only [List.length_drop, List.length_take]; rfl)) ?_; (with_reducible refine (macadamref06_Right.calls k _ _ l0_0 a0_1 a0_2 a0_3 a0_4 _ _ l0_5 a0_6 t352 t353 _ ?side1 ?side2 ?side3 ?side4 A4.out).mono ?_); (case side1 => repeat (first | exact (Kd.C_below HR0_0.out HB.out) | (with_reducible refine Kd.C_alloc ?_ _) | (with_reducible refine Kd.C_drewN ?_ _) | (with_reducible refine Kd.C_drew ?_))); (case side2 => exact HC0_0.out); (case side3 => repeat (first | exact (Kd.C_below HR0_5.out HB.out) | (with_reducible refine Kd.C_alloc ?_ _) | (with_reducible refine Kd.C_drewN ?_ _) | (with_reducible refine Kd.C_drew ?_))); (case side4 => exact HC0_5.out); rintro e w10 ⟨rfl, hb⟩; refine ⟨_, rfl, ?_⟩; have n0_ := Aside0.mk (blk_below (g := gb349) (o := .cells #[.slice A0_0 l0_0.length c0_0, .int .i64 a0_1, .int .i64 a0_2, .int .i64 a0_3, .int .i64 a0_4, .slice A0_5 l0_5.length c0_5, .int .i64 a0_6] 26 (0, 0)) (by (with_reducible repeat (first | refine blk_drewN ?_ _ | refine blk_drew ?_ | refine blk_alloc ?_ _)); exact BK349.out) hb); have n1_ := Aside0.mk (below_step (by repeat (first | (with_reducible first | exact HB.out | apply below_alloc | apply pw_below_drewN | apply below_drew1 | refine below_set ?_ GE349.out) | exact HB.out)) hb); clear BK349; clear HB; have BK349 := n0_; have HB := n1_; clear n0_ n1_; (try clear hb); (try clear hb2); (try clear hk); (try clear hi)))
  (try simp only [Act.put, List.setIfInBounds_toArray, List.set_cons_zero, List.set_cons_succ])
  go_cut [35] (fun v35 wc => ∃ (kq : Nat) (x35_4 : Bool), v35 = .bool x35_4 ∧ Aside0 (macadamlaw06_ClaimTimes.j0 kq a1 x35_4 l0_0 a0_1 a0_2 a0_3 a0_4 l0_5 a0_6 = some r) ∧ Aside0 (kq ≤ k) ∧ Aside0 (wc.heap[gb349]? = some (.cells #[(.slice A0_0 l0_0.length c0_0), .int .i64 a0_1, .int .i64 a0_2, .int .i64 a0_3, .int .i64 a0_4, (.slice A0_5 l0_5.length c0_5), .int .i64 a0_6] 26 (0, 0))) ∧ Aside0 (Below w.heap.size w wc))
  case first =>
    have H := HC5.out
    clear HC5
    by_cases c11 : (t350 != t352) = true
    · rw [if_pos c11] at H
      have c11b0 : (t350 != t352) = true := c11
      (try (have c11b1 : decide (t350 = t352) = false := by simpa using c11))
      (try (have c11b2 : (t350 == t352) = false := by simpa using c11))
      (try (have c11b3 : ¬ (t350 = t352) := by simpa using c11))
      clear c11
      (first | rw [c11b0] | (simp only [i64_w, i32_w]; rw [c11b0]) | skip)
      have H' := Aside0.mk H
      clear H
      try go_wp2
      have n0_ := Aside0.mk (blk_drew BK349.out)
      have n1_ := Aside0.mk (below_drew1 HB.out)
      clear BK349
      clear HB
      have BK349 := n0_
      have HB := n1_
      clear n0_ n1_
      refine start_ (n := 15) (S := fun w' => True) (ds := []) (bl 15 0) (by kernel_rfl) rfl (by kernel_rfl) trivial (fun hHeld => ?_); refine with_tabW macadamlaw06_ClaimTimes.tab3 macadamlaw06_ClaimTimes.bits3 (fun HT_ HW_ => ?_)
      generalize w10.drew = w12 at BK349 HB hHeld ⊢
      refine pu_ 0 (some 21) (bl 15 1) rfl rfl (by kernel_rfl) (fun _ _ _ h => h) (by rfl) (by intro w'; go_simp; with_reducible rfl) (by simp only [nrm_]; rfl) ?_
      refine pu_ 1 (some 22) (bl 15 3) rfl rfl (by kernel_rfl) (fun _ _ _ h => h) (by rfl) (by intro w'; go_simp; with_reducible rfl) (by simp only [nrm_]; rfl) ?_
      refine pu_ 2 (some 23) (bl 15 7) rfl rfl (by kernel_rfl) (fun _ _ _ h => h) (by rfl) (by intro w'; go_simp; with_reducible rfl) (by simp only [nrm_]; rfl) ?_
      refine pu_ 3 (some 24) (bl 15 15) rfl rfl (by kernel_rfl) (fun _ _ _ h => h) (by rfl) (by intro w'; go_simp; with_reducible rfl) (by simp only [nrm_]; rfl) ?_
      refine po_ 4 (some 25) (bl 15 31) rfl rfl (by kernel_rfl) (fun _ _ _ h => h) (by rfl) (by simp only [nrm_]; rfl) ?_
      refine po_ 5 (some 26) (bl 15 63) rfl rfl (by kernel_rfl) (fun _ _ _ h => h) (by rfl) (by simp only [nrm_]; rfl) ?_
      refine po_ 6 (some 27) (bl 15 127) rfl rfl (by kernel_rfl) (fun _ _ _ h => h) (by rfl) (by simp only [nrm_]; rfl) ?_
      refine pu_ 7 (some 28) (bl 15 255) rfl rfl (by kernel_rfl) (fun _ _ _ h => h) (by rfl) (by intro w'; go_simp; with_reducible rfl) (by simp only [nrm_]; rfl) ?_
      refine pu_ 8 (some 29) (bl 15 511) rfl rfl (by kernel_rfl) (fun _ _ _ h => h) (by rfl) (by intro w'; go_simp; with_reducible rfl) (by simp only [nrm_]; rfl) ?_
      refine po_ 9 (some 30) (bl 15 1023) rfl rfl (by kernel_rfl) (fun _ _ _ h => h) (by rfl) (by simp only [nrm_]; rfl) ?_
      refine po_ 10 (some 31) (bl 15 2047) rfl rfl (by kernel_rfl) (fun _ _ _ h => h) (by rfl) (by simp only [nrm_]; rfl) ?_
      refine po_ 11 (some 32) (bl 15 4095) rfl rfl (by kernel_rfl) (fun _ _ _ h => h) (by rfl) (by simp only [nrm_]; rfl) ?_
      refine po_ 12 (some 33) (bl 15 8191) rfl rfl (by kernel_rfl) (fun _ _ _ h => h) (by rfl) (by simp only [nrm_]; rfl) ?_
      refine po_ 13 (some 34) (bl 15 16383) rfl rfl (by kernel_rfl) (fun _ _ _ h => h) (by rfl) (by simp only [nrm_]; rfl) ?_
      refine pu_ 14 (some 35) (bl 15 32767) rfl rfl (by kernel_rfl) (fun _ _ _ h => h) (by rfl) (by intro w'; go_simp; with_reducible rfl) (by simp only [nrm_]; rfl) ?_
      refine done_ (done_of HT_.out (by kernel_rfl)) ?_
      try go_wp2
      go_meet
      case rel => exact ⟨_, (true), (by first | rfl | (simp; done) | (simp [*]; done)), H', ⟨by first | omega | exact Nat.le_refl _⟩, ⟨by (with_reducible repeat (first | refine blk_drewN ?_ _ | refine blk_drew ?_ | refine blk_alloc ?_ _)); exact BK349.out⟩, ⟨by repeat (first | (with_reducible first | exact HB.out | apply below_alloc | apply pw_below_drewN | apply below_drew1 | refine below_set ?_ GE349.out) | exact HB.out)⟩⟩
    · rw [if_neg c11] at H
      have c11b0 : (t350 != t352) = false := by simpa using c11
      (try (have c11b1 : decide (t350 = t352) = true := by simpa using c11))
      (try (have c11b2 : (t350 == t352) = true := by simpa using c11))
      clear c11
      (first | rw [c11b0] | (simp only [i64_w, i32_w]; rw [c11b0]) | skip)
      by_cases c13 : t351 = t353
      · rw [if_pos c13] at H
        have c13b0 : (t351 == t353) = true := beq_iff_eq.mpr c13
        have c13b1 : (t351 != t353) = false := bne_eq_false_iff_eq.mpr c13
        clear c13
        replace H := Option.bind_eq_some_iff.mp H
        obtain ⟨t354, A140, H⟩ := H
        replace H : ((macadamref06_Check.f l0_0 a0_1 a0_2 a0_3 a0_4 l0_5 a0_6).bind fun t355 => (macadamlaw06_ClaimTimes.j0 k a1 (t354 != t355) l0_0 a0_1 a0_2 a0_3 a0_4 l0_5 a0_6)) = some r := H
        have A14 := Aside0.mk A140
        clear A140
        replace H := Option.bind_eq_some_iff.mp H
        obtain ⟨t355, A150, H⟩ := H
        replace H : (macadamlaw06_ClaimTimes.j0 k a1 (t354 != t355) l0_0 a0_1 a0_2 a0_3 a0_4 l0_5 a0_6) = some r := H
        have A15 := Aside0.mk A150
        clear A150
        have H' := Aside0.mk H
        clear H
        try go_wp2
        have n0_ := Aside0.mk (blk_drew BK349.out)
        have n1_ := Aside0.mk (below_drew1 HB.out)
        clear BK349
        clear HB
        have BK349 := n0_
        have HB := n1_
        clear n0_ n1_
        refine start_ (n := 15) (S := fun w' => w'.cell? ⟨gb349, 0, none⟩ = some (.slice A0_0 l0_0.length c0_0) ∧ w'.cell? ⟨gb349, 1, none⟩ = some (.int .i64 a0_1) ∧ w'.cell? ⟨gb349, 2, none⟩ = some (.int .i64 a0_2) ∧ w'.cell? ⟨gb349, 3, none⟩ = some (.int .i64 a0_3) ∧ w'.cell? ⟨gb349, 4, none⟩ = some (.int .i64 a0_4) ∧ w'.cell? ⟨gb349, 5, none⟩ = some (.slice A0_5 l0_5.length c0_5) ∧ w'.cell? ⟨gb349, 6, none⟩ = some (.int .i64 a0_6)) (ds := []) (bl 15 0) (by kernel_rfl) rfl (by kernel_rfl) ⟨(blk_cell BK349.out 0).trans rfl, (blk_cell BK349.out 1).trans rfl, (blk_cell BK349.out 2).trans rfl, (blk_cell BK349.out 3).trans rfl, (blk_cell BK349.out 4).trans rfl, (blk_cell BK349.out 5).trans rfl, (blk_cell BK349.out 6).trans rfl⟩ (fun hHeld => ?_); refine with_tabW macadamlaw06_ClaimTimes.tab3 macadamlaw06_ClaimTimes.bits3 (fun HT_ HW_ => ?_)
        generalize w10.drew = w16 at BK349 HB hHeld ⊢
        refine pu_ 0 (some 21) (bl 15 1) rfl rfl (by kernel_rfl) (fun _ _ _ h => h) (by rfl) (by intro w'; go_simp; with_reducible rfl) (by simp only [nrm_]; rfl) ?_
        refine pu_ 1 (some 22) (bl 15 3) rfl rfl (by kernel_rfl) (fun _ _ _ h => h) (by rfl) (by intro w'; go_simp; with_reducible rfl) (by simp only [nrm_]; rfl) ?_
        refine pu_ 2 (some 23) (bl 15 7) rfl rfl (by kernel_rfl) (fun _ _ _ h => h) (by rfl) (by intro w'; go_simp; with_reducible rfl) (by simp only [nrm_]; rfl) ?_
        refine pu_ 3 (some 24) (bl 15 15) rfl rfl (by kernel_rfl) (fun _ _ _ h => h) (by rfl) (by intro w'; go_simp; with_reducible rfl) (by simp only [nrm_]; rfl) ?_
        refine pu_ 4 (some 25) (bl 15 31) rfl rfl (by kernel_rfl) (fun _ _ _ h => h) (by rfl) (by intro w'; go_simp; with_reducible rfl) (by simp only [nrm_]; rfl) ?_
        refine pu_ 5 (some 26) (bl 15 63) rfl rfl (by kernel_rfl) (fun _ _ _ h => h) (by rfl) (by intro w'; go_simp; with_reducible rfl) (by simp only [nrm_]; rfl) ?_
        refine pu_ 6 (some 27) (bl 15 127) rfl rfl (by kernel_rfl) (fun _ _ _ h => h) (by rfl) (by intro w'; go_simp; with_reducible rfl) (by simp only [nrm_]; rfl) ?_
        refine pu_ 7 (some 28) (bl 15 255) rfl rfl (by kernel_rfl) (fun _ _ _ h => h) (by rfl) (by intro w'; go_simp; with_reducible rfl) (by simp only [nrm_]; rfl) ?_
        refine pu_ 8 (some 29) (bl 15 511) rfl rfl (by kernel_rfl) (fun _ _ _ h => h) (by rfl) (by intro w'; go_simp; with_reducible rfl) (by simp only [nrm_]; rfl) ?_
        refine tk_ 9 (some 30) (bl 15 1023) rfl rfl (by kernel_rfl) (fun _ _ _ h => h) hHeld (by rfl) (by rintro w' ⟨s0, s1, s2, s3, s4, s5, s6⟩; go_simp; with_reducible rfl) (by simp only [nrm_]; rfl) ?_
        refine tk_ 11 (some 32) (bl 15 3071) rfl rfl (by kernel_rfl) (fun _ _ _ h => h) hHeld (by rfl) (by rintro w' ⟨s0, s1, s2, s3, s4, s5, s6⟩; go_simp; with_reducible rfl) (by simp only [nrm_]; rfl) ?_
        refine one_ (i := 10) (N := some 31) (bl 15 4095) rfl rfl (one_of HT_.out (by kernel_rfl)) (by decide) (fun K hK => ?_)
        refine goes_ Tryd.func17 (by kernel_rfl) rfl #[.agg #[.slice A0_0 l0_0.length c0_0, .int .i64 a0_1, .int .i64 a0_2, .int .i64 a0_3, .int .i64 a0_4, .slice A0_5 l0_5.length c0_5, .int .i64 a0_6]] (by rfl) rfl rfl (by (try simp only [List.map_toArray, List.map_cons, List.map_nil]); first | done | rfl | (simp only [List.length_drop, List.length_take]; rfl)) ?_
        with_reducible refine (claim_Check.calls _ _ l0_0 a0_1 a0_2 a0_3 a0_4 _ _ l0_5 a0_6 t354 _ ?side1 ?side2 ?side3 ?side4 A14.out).mono ?_
        (case side1 => repeat (first | exact (Kd.C_below HR0_0.out HB.out) | (with_reducible refine Kd.C_alloc ?_ _) | (with_reducible refine Kd.C_drewN ?_ _) | (with_reducible refine Kd.C_drew ?_)))
        (case side2 => exact HC0_0.out)
        (case side3 => repeat (first | exact (Kd.C_below HR0_5.out HB.out) | (with_reducible refine Kd.C_alloc ?_ _) | (with_reducible refine Kd.C_drewN ?_ _) | (with_reducible refine Kd.C_drew ?_)))
        (case side4 => exact HC0_5.out)
        rintro e w17 ⟨rfl, hb⟩
        refine ⟨_, rfl, ?_⟩
        have n0_ := Aside0.mk (blk_below (g := gb349) (o := .cells #[.slice A0_0 l0_0.length c0_0, .int .i64 a0_1, .int .i64 a0_2, .int .i64 a0_3, .int .i64 a0_4, .slice A0_5 l0_5.length c0_5, .int .i64 a0_6] 26 (0, 0)) (by (with_reducible repeat (first | refine blk_drewN ?_ _ | refine blk_drew ?_ | refine blk_alloc ?_ _)); exact BK349.out) hb)
        have n1_ := Aside0.mk (below_step (by repeat (first | (with_reducible first | exact HB.out | apply below_alloc | apply pw_below_drewN | apply below_drew1 | refine below_set ?_ GE349.out) | exact HB.out)) hb)
        clear BK349
        clear HB
        have BK349 := n0_
        have HB := n1_
        clear n0_ n1_
        (try clear hb)
        (try clear hb2)
        (try clear hk)
        (try clear hi)
        refine hK.out _ _ ⟨(blk_cell BK349.out 0).trans rfl, (blk_cell BK349.out 1).trans rfl, (blk_cell BK349.out 2).trans rfl, (blk_cell BK349.out 3).trans rfl, (blk_cell BK349.out 4).trans rfl, (blk_cell BK349.out 5).trans rfl, (blk_cell BK349.out 6).trans rfl⟩ (fun hHeld => ?_)
        clear hK K
        refine norm_ (a' := ?_) ?_ ?_
        rotate_left
        · show Act.put _ (some 31) _ = _
          simp only [nrm_]
          rfl
        refine one_ (i := 12) (N := some 33) (bl 15 8191) rfl rfl (one_of HT_.out (by kernel_rfl)) (by decide) (fun K hK => ?_)
        refine goes_ Tryd.func18 (by kernel_rfl) rfl #[.agg #[.slice A0_0 l0_0.length c0_0, .int .i64 a0_1, .int .i64 a0_2, .int .i64 a0_3, .int .i64 a0_4, .slice A0_5 l0_5.length c0_5, .int .i64 a0_6]] (by rfl) rfl rfl (by (try simp only [List.map_toArray, List.map_cons, List.map_nil]); first | done | rfl | (simp only [List.length_drop, List.length_take]; rfl)) ?_
        with_reducible refine (macadamref06_Check.calls _ _ l0_0 a0_1 a0_2 a0_3 a0_4 _ _ l0_5 a0_6 t355 _ ?side1 ?side2 ?side3 ?side4 A15.out).mono ?_
        (case side1 => repeat (first | exact (Kd.C_below HR0_0.out HB.out) | (with_reducible refine Kd.C_alloc ?_ _) | (with_reducible refine Kd.C_drewN ?_ _) | (with_reducible refine Kd.C_drew ?_)))
        (case side2 => exact HC0_0.out)
        (case side3 => repeat (first | exact (Kd.C_below HR0_5.out HB.out) | (with_reducible refine Kd.C_alloc ?_ _) | (with_reducible refine Kd.C_drewN ?_ _) | (with_reducible refine Kd.C_drew ?_)))
        (case side4 => exact HC0_5.out)
        rintro e w18 ⟨rfl, hb⟩
        refine ⟨_, rfl, ?_⟩
        have n0_ := Aside0.mk (blk_below (g := gb349) (o := .cells #[.slice A0_0 l0_0.length c0_0, .int .i64 a0_1, .int .i64 a0_2, .int .i64 a0_3, .int .i64 a0_4, .slice A0_5 l0_5.length c0_5, .int .i64 a0_6] 26 (0, 0)) (by (with_reducible repeat (first | refine blk_drewN ?_ _ | refine blk_drew ?_ | refine blk_alloc ?_ _)); exact BK349.out) hb)
        have n1_ := Aside0.mk (below_step (by repeat (first | (with_reducible first | exact HB.out | apply below_alloc | apply pw_below_drewN | apply below_drew1 | refine below_set ?_ GE349.out) | exact HB.out)) hb)
        clear BK349
        clear HB
        have BK349 := n0_
        have HB := n1_
        clear n0_ n1_
        (try clear hb)
        (try clear hb2)
        (try clear hk)
        (try clear hi)
        refine hK.out _ _ ⟨(blk_cell BK349.out 0).trans rfl, (blk_cell BK349.out 1).trans rfl, (blk_cell BK349.out 2).trans rfl, (blk_cell BK349.out 3).trans rfl, (blk_cell BK349.out 4).trans rfl, (blk_cell BK349.out 5).trans rfl, (blk_cell BK349.out 6).trans rfl⟩ (fun hHeld => ?_)
        clear hK K
        refine norm_ (a' := ?_) ?_ ?_
        rotate_left
        · show Act.put _ (some 33) _ = _
          simp only [nrm_]
          rfl
        refine pu_ 13 (some 34) (bl 15 16383) rfl rfl (by kernel_rfl) (fun _ _ _ h => h) (by rfl) (by intro w'; go_simp; with_reducible rfl) (by simp only [nrm_]; rfl) ?_
        refine pu_ 14 (some 35) (bl 15 32767) rfl rfl (by kernel_rfl) (fun _ _ _ h => h) (by rfl) (by intro w'; go_simp; with_reducible rfl) (by simp only [nrm_]; rfl) ?_
        refine done_ (done_of HT_.out (by kernel_rfl)) ?_
        try go_wp2
        go_meet
        case rel => exact ⟨_, ((t354 != t355)), (by first | rfl | (simp; done) | (simp [*]; done)), H', ⟨by first | omega | exact Nat.le_refl _⟩, ⟨by (with_reducible repeat (first | refine blk_drewN ?_ _ | refine blk_drew ?_ | refine blk_alloc ?_ _)); exact BK349.out⟩, ⟨by repeat (first | (with_reducible first | exact HB.out | apply below_alloc | apply pw_below_drewN | apply below_drew1 | refine below_set ?_ GE349.out) | exact HB.out)⟩⟩
      · rw [if_neg c13] at H
        have c13b0 : (t351 == t353) = false := beq_eq_false_iff_ne.mpr c13
        have c13b1 : (t351 != t353) = true := bne_iff_ne.mpr c13
        have H' := Aside0.mk H
        clear H
        try go_wp2
        have n0_ := Aside0.mk (blk_drew BK349.out)
        have n1_ := Aside0.mk (below_drew1 HB.out)
        clear BK349
        clear HB
        have BK349 := n0_
        have HB := n1_
        clear n0_ n1_
        refine start_ (n := 15) (S := fun w' => True) (ds := []) (bl 15 0) (by kernel_rfl) rfl (by kernel_rfl) trivial (fun hHeld => ?_); refine with_tabW macadamlaw06_ClaimTimes.tab3 macadamlaw06_ClaimTimes.bits3 (fun HT_ HW_ => ?_)
        generalize w10.drew = w19 at BK349 HB hHeld ⊢
        refine pu_ 0 (some 21) (bl 15 1) rfl rfl (by kernel_rfl) (fun _ _ _ h => h) (by rfl) (by intro w'; go_simp; with_reducible rfl) (by simp only [nrm_]; rfl) ?_
        refine pu_ 1 (some 22) (bl 15 3) rfl rfl (by kernel_rfl) (fun _ _ _ h => h) (by rfl) (by intro w'; go_simp; with_reducible rfl) (by simp only [nrm_]; rfl) ?_
        refine pu_ 2 (some 23) (bl 15 7) rfl rfl (by kernel_rfl) (fun _ _ _ h => h) (by rfl) (by intro w'; go_simp; with_reducible rfl) (by simp only [nrm_]; rfl) ?_
        refine pu_ 3 (some 24) (bl 15 15) rfl rfl (by kernel_rfl) (fun _ _ _ h => h) (by rfl) (by intro w'; go_simp; with_reducible rfl) (by simp only [nrm_]; rfl) ?_
        refine pu_ 4 (some 25) (bl 15 31) rfl rfl (by kernel_rfl) (fun _ _ _ h => h) (by rfl) (by intro w'; go_simp; with_reducible rfl) (by simp only [nrm_]; rfl) ?_
        refine pu_ 5 (some 26) (bl 15 63) rfl rfl (by kernel_rfl) (fun _ _ _ h => h) (by rfl) (by intro w'; go_simp; with_reducible rfl) (by simp only [nrm_]; rfl) ?_
        refine pu_ 6 (some 27) (bl 15 127) rfl rfl (by kernel_rfl) (fun _ _ _ h => h) (by rfl) (by intro w'; go_simp; with_reducible rfl) (by simp only [nrm_]; rfl) ?_
        refine pu_ 7 (some 28) (bl 15 255) rfl rfl (by kernel_rfl) (fun _ _ _ h => h) (by rfl) (by intro w'; go_simp; with_reducible rfl) (by simp only [nrm_]; rfl) ?_
        refine pu_ 8 (some 29) (bl 15 511) rfl rfl (by kernel_rfl) (fun _ _ _ h => h) (by rfl) (by intro w'; go_simp; with_reducible rfl) (by simp only [nrm_]; rfl) ?_
        refine po_ 9 (some 30) (bl 15 1023) rfl rfl (by kernel_rfl) (fun _ _ _ h => h) (by rfl) (by simp only [nrm_]; rfl) ?_
        refine po_ 10 (some 31) (bl 15 2047) rfl rfl (by kernel_rfl) (fun _ _ _ h => h) (by rfl) (by simp only [nrm_]; rfl) ?_
        refine po_ 11 (some 32) (bl 15 4095) rfl rfl (by kernel_rfl) (fun _ _ _ h => h) (by rfl) (by simp only [nrm_]; rfl) ?_
        refine po_ 12 (some 33) (bl 15 8191) rfl rfl (by kernel_rfl) (fun _ _ _ h => h) (by rfl) (by simp only [nrm_]; rfl) ?_
        refine po_ 13 (some 34) (bl 15 16383) rfl rfl (by kernel_rfl) (fun _ _ _ h => h) (by rfl) (by simp only [nrm_]; rfl) ?_
        refine pu_ 14 (some 35) (bl 15 32767) rfl rfl (by kernel_rfl) (fun _ _ _ h => h) (by rfl) (by intro w'; go_simp; with_reducible rfl) (by simp only [nrm_]; rfl) ?_
        refine done_ (done_of HT_.out (by kernel_rfl)) ?_
        try go_wp2
        go_meet
        case rel => exact ⟨_, (true), (by first | rfl | (simp; done) | (simp [*]; done)), H', ⟨by first | omega | exact Nat.le_refl _⟩, ⟨by (with_reducible repeat (first | refine blk_drewN ?_ _ | refine blk_drew ?_ | refine blk_alloc ?_ _)); exact BK349.out⟩, ⟨by repeat (first | (with_reducible first | exact HB.out | apply below_alloc | apply pw_below_drewN | apply below_drew1 | refine below_set ?_ GE349.out) | exact HB.out)⟩⟩
  case rest =>
    clear HC5
    try clear c1
    try clear p2
    try clear c3
    try clear c11
    try clear c11b0
    try clear c11b1
    try clear c11b2
    try clear c13
    try clear c13b0
    try clear c13b1
    try clear c15
    try clear c16
    try clear c17
    try clear c18
    try clear hcz7_0
    try clear hcz7_1
    try clear hcz7_2
    try clear hcz7_3
    try clear hcz7_4
    try clear hcz7_5
    try clear hcz7_6
    try clear hcz9_0
    try clear hcz9_1
    try clear hcz9_2
    try clear hcz9_3
    try clear hcz9_4
    try clear hcz9_5
    try clear hcz9_6
    try clear hfz7_0
    try clear hfz7_1
    try clear hfz7_2
    try clear hfz7_3
    try clear hfz7_4
    try clear hfz7_5
    try clear hfz7_6
    try clear hfz9_0
    try clear hfz9_1
    try clear hfz9_2
    try clear hfz9_3
    try clear hfz9_4
    try clear hfz9_5
    try clear hfz9_6
    obtain ⟨kq, x35_4, rfl, HA, HJ4, BK349, HB⟩ := hcut
    cases kq with
    | zero => exact absurd HA.out (by simp [macadamlaw06_ClaimTimes.j0])
    | succ kj4 =>
      have H := HA.out
      clear HA
      simp only [macadamlaw06_ClaimTimes.j0] at H
      by_cases c20 : x35_4 = true
      · subst c20
        have H1 : (some false) = some r := by rw [if_pos rfl] at H; exact H
        clear H
        have H := H1
        clear H1
        obtain rfl := Option.some.inj H
        go_wp2
        go_ret
        exact ⟨by first | rfl | (simp [errW_none, errW_some] <;> rfl) | (simp [*, errW_none, errW_some] <;> rfl), by repeat (first | (with_reducible first | exact HB.out | apply below_alloc | apply pw_below_drewN | apply below_drew1 | refine below_set ?_ GE349.out) | exact HB.out)⟩
      · replace c20 := Bool.eq_false_iff.mpr c20
        subst c20
        have H1 : ((claim_Comes.f l0_0 a0_1 a0_2 a0_3 a0_4 l0_5 a0_6 a1).bind fun bt356 => ((macadamref06_Comes.f kj4 l0_0 a0_1 a0_2 a0_3 a0_4 l0_5 a0_6 a1).bind fun bt360 => (if (!(bt356.1 == bt360.1) || (!(bt356.2.1 == bt360.2.1))) = true then (macadamlaw06_ClaimTimes.j1 kj4 a1 true l0_0 a0_1 a0_2 a0_3 a0_4 l0_5 a0_6) else (macadamlaw06_ClaimTimes.j1 kj4 a1 (bt356.2.2 != bt360.2.2) l0_0 a0_1 a0_2 a0_3 a0_4 l0_5 a0_6)))) = some r := by rw [if_neg (show ¬ (false = true) by decide)] at H; exact H
        clear H
        have H := H1
        clear H1
        replace H := Option.bind_eq_some_iff.mp H
        obtain ⟨⟨t356, t357, t358⟩, A210, H⟩ := H
        replace H : ((macadamref06_Comes.f kj4 l0_0 a0_1 a0_2 a0_3 a0_4 l0_5 a0_6 a1).bind fun bt360 => (if (!(t356 == bt360.1) || (!(t357 == bt360.2.1))) = true then (macadamlaw06_ClaimTimes.j1 kj4 a1 true l0_0 a0_1 a0_2 a0_3 a0_4 l0_5 a0_6) else (macadamlaw06_ClaimTimes.j1 kj4 a1 (t358 != bt360.2.2) l0_0 a0_1 a0_2 a0_3 a0_4 l0_5 a0_6))) = some r := H
        have A21 := Aside0.mk A210
        clear A210
        replace H := Option.bind_eq_some_iff.mp H
        obtain ⟨⟨t360, t361, t362⟩, A220, H⟩ := H
        replace H : (if (!(t356 == t360) || (!(t357 == t361))) = true then (macadamlaw06_ClaimTimes.j1 kj4 a1 true l0_0 a0_1 a0_2 a0_3 a0_4 l0_5 a0_6) else (macadamlaw06_ClaimTimes.j1 kj4 a1 (t358 != t362) l0_0 a0_1 a0_2 a0_3 a0_4 l0_5 a0_6)) = some r := H
        have A22 := Aside0.mk A220
        clear A220
        have HC23 := Aside0.mk H
        clear H
        have hcz24_0 : wc.cell? ⟨gb349, 0, none⟩ = some (.slice A0_0 l0_0.length c0_0) := (blk_cell BK349.out 0).trans rfl
        have hcz24_1 : wc.cell? ⟨gb349, 1, none⟩ = some (.int .i64 a0_1) := (blk_cell BK349.out 1).trans rfl
        have hcz24_2 : wc.cell? ⟨gb349, 2, none⟩ = some (.int .i64 a0_2) := (blk_cell BK349.out 2).trans rfl
        have hcz24_3 : wc.cell? ⟨gb349, 3, none⟩ = some (.int .i64 a0_3) := (blk_cell BK349.out 3).trans rfl
        have hcz24_4 : wc.cell? ⟨gb349, 4, none⟩ = some (.int .i64 a0_4) := (blk_cell BK349.out 4).trans rfl
        have hcz24_5 : wc.cell? ⟨gb349, 5, none⟩ = some (.slice A0_5 l0_5.length c0_5) := (blk_cell BK349.out 5).trans rfl
        have hcz24_6 : wc.cell? ⟨gb349, 6, none⟩ = some (.int .i64 a0_6) := (blk_cell BK349.out 6).trans rfl
        have hfz24_0 := blk_frozen BK349.out 0
        have hfz24_1 := blk_frozen BK349.out 1
        have hfz24_2 := blk_frozen BK349.out 2
        have hfz24_3 := blk_frozen BK349.out 3
        have hfz24_4 := blk_frozen BK349.out 4
        have hfz24_5 := blk_frozen BK349.out 5
        have hfz24_6 := blk_frozen BK349.out 6
        go_upto_region 7 with (first | ((with_reducible refine gate_callee (f := 19) rfl ?_); refine goesL_ (some 39) rfl rfl Tryd.func19 (by kernel_rfl) rfl #[.agg #[.slice A0_0 l0_0.length c0_0, .int .i64 a0_1, .int .i64 a0_2, .int .i64 a0_3, .int .i64 a0_4, .slice A0_5 l0_5.length c0_5, .int .i64 a0_6], .int .i64 a1] rfl (by (try simp only [List.map_toArray, List.map_cons, List.map_nil]); first | done | rfl | (simp only [List.length_drop, List.length_take]; rfl)) ?_; (with_reducible refine (claim_Comes.calls _ _ l0_0 a0_1 a0_2 a0_3 a0_4 _ _ l0_5 a0_6 a1 t356 t357 t358 _ ?side1 ?side2 ?side3 ?side4 ?side5 A21.out).mono ?_); (case side1 => first | exact HG.out | exact Glob.step HG.out HB.out | exact Glob.step HG.out (by repeat (first | (with_reducible first | exact HB.out | apply below_alloc | apply pw_below_drewN | apply below_drew1 | refine below_set ?_ GE349.out) | exact HB.out))); (case side2 => repeat (first | exact (Kd.C_below HR0_0.out HB.out) | (with_reducible refine Kd.C_alloc ?_ _) | (with_reducible refine Kd.C_drewN ?_ _) | (with_reducible refine Kd.C_drew ?_))); (case side3 => exact HC0_0.out); (case side4 => repeat (first | exact (Kd.C_below HR0_5.out HB.out) | (with_reducible refine Kd.C_alloc ?_ _) | (with_reducible refine Kd.C_drewN ?_ _) | (with_reducible refine Kd.C_drew ?_))); (case side5 => exact HC0_5.out); rintro e w25 ⟨rfl, hb⟩; refine ⟨_, rfl, ?_⟩; have n0_ := Aside0.mk (blk_below (g := gb349) (o := .cells #[.slice A0_0 l0_0.length c0_0, .int .i64 a0_1, .int .i64 a0_2, .int .i64 a0_3, .int .i64 a0_4, .slice A0_5 l0_5.length c0_5, .int .i64 a0_6] 26 (0, 0)) (by (with_reducible repeat (first | refine blk_drewN ?_ _ | refine blk_drew ?_ | refine blk_alloc ?_ _)); exact BK349.out) hb); have n1_ := Aside0.mk (below_step (by repeat (first | (with_reducible first | exact HB.out | apply below_alloc | apply pw_below_drewN | apply below_drew1 | refine below_set ?_ GE349.out) | exact HB.out)) hb); clear BK349; clear HB; have BK349 := n0_; have HB := n1_; clear n0_ n1_; (try clear hb); (try clear hb2); (try clear hk); (try clear hi)) | ((with_reducible refine gate_dst (N := 9) rfl ?_); refine box_event ?hg (N := 9) ?hd (cs := #[.int .i64 0, .int .i64 0]) (t := 32) ?hr ?_; (case hd => rfl); (case hg => rfl); (case hr => first | (go_simp; done) | (go_simp; rfl)); intro gb359 hg w26 hbox hb; have n0_ := Aside0.mk (blk_below (g := gb349) (o := .cells #[.slice A0_0 l0_0.length c0_0, .int .i64 a0_1, .int .i64 a0_2, .int .i64 a0_3, .int .i64 a0_4, .slice A0_5 l0_5.length c0_5, .int .i64 a0_6] 26 (0, 0)) (by (with_reducible repeat (first | refine blk_drewN ?_ _ | refine blk_drew ?_ | refine blk_alloc ?_ _)); exact BK349.out) hb); have n1_ := Aside0.mk (below_step (by repeat (first | (with_reducible first | exact HB.out | apply below_alloc | apply pw_below_drewN | apply below_drew1 | refine below_set ?_ GE349.out) | exact HB.out)) hb); have n2_ := Aside0.mk (hbox); have n3_ := Aside0.mk ((by rw [hg]; exact (below_size (by repeat (first | (with_reducible first | exact HB.out | apply below_alloc | apply pw_below_drewN | apply below_drew1 | refine below_set ?_ GE349.out) | exact HB.out))) : w.heap.size ≤ gb359)); have n4_ := Aside0.mk ((by rw [hg]; exact (below_size (by repeat (first | (with_reducible first | exact HB.out | apply below_alloc | apply pw_below_drewN | apply below_drew1 | refine below_set ?_ GE349.out) | exact HB.out))) : w.heap.size ≤ gb359)); have n5_ := Aside0.mk ((by rw [hg]; exact Nat.ne_of_lt (blk_lt (g := gb349) (o := .cells #[.slice A0_0 l0_0.length c0_0, .int .i64 a0_1, .int .i64 a0_2, .int .i64 a0_3, .int .i64 a0_4, .slice A0_5 l0_5.length c0_5, .int .i64 a0_6] 26 (0, 0)) (by (with_reducible repeat (first | refine blk_drewN ?_ _ | refine blk_drew ?_ | refine blk_alloc ?_ _)); exact BK349.out)) : gb349 ≠ gb359)); have n6_ := Aside0.mk ((by rw [hg]; exact Nat.ne_of_gt (blk_lt (g := gb349) (o := .cells #[.slice A0_0 l0_0.length c0_0, .int .i64 a0_1, .int .i64 a0_2, .int .i64 a0_3, .int .i64 a0_4, .slice A0_5 l0_5.length c0_5, .int .i64 a0_6] 26 (0, 0)) (by (with_reducible repeat (first | refine blk_drewN ?_ _ | refine blk_drew ?_ | refine blk_alloc ?_ _)); exact BK349.out)) : gb359 ≠ gb349)); clear BK349; clear HB; have BK349 := n0_; have HB := n1_; have BK359 := n2_; have GW359 := n3_; have GE359 := n4_; have NB349_359 := n5_; have NB359_349 := n6_; clear n0_ n1_ n2_ n3_ n4_ n5_ n6_; clear hb hbox hg; have hnb27 := NB359_349.out; have hnc27 := NB349_359.out; have hcz28_0 : w26.cell? ⟨gb359, 0, none⟩ = some (.int .i64 0) := (blk_cell BK359.out 0).trans rfl; have hcz28_1 : w26.cell? ⟨gb359, 1, none⟩ = some (.int .i64 0) := (blk_cell BK359.out 1).trans rfl; have hfz28_0 := blk_frozen BK359.out 0; have hfz28_1 := blk_frozen BK359.out 1; have hcz29_0 : w26.cell? ⟨gb349, 0, none⟩ = some (.slice A0_0 l0_0.length c0_0) := (blk_cell BK349.out 0).trans rfl; have hcz29_1 : w26.cell? ⟨gb349, 1, none⟩ = some (.int .i64 a0_1) := (blk_cell BK349.out 1).trans rfl; have hcz29_2 : w26.cell? ⟨gb349, 2, none⟩ = some (.int .i64 a0_2) := (blk_cell BK349.out 2).trans rfl; have hcz29_3 : w26.cell? ⟨gb349, 3, none⟩ = some (.int .i64 a0_3) := (blk_cell BK349.out 3).trans rfl; have hcz29_4 : w26.cell? ⟨gb349, 4, none⟩ = some (.int .i64 a0_4) := (blk_cell BK349.out 4).trans rfl; have hcz29_5 : w26.cell? ⟨gb349, 5, none⟩ = some (.slice A0_5 l0_5.length c0_5) := (blk_cell BK349.out 5).trans rfl; have hcz29_6 : w26.cell? ⟨gb349, 6, none⟩ = some (.int .i64 a0_6) := (blk_cell BK349.out 6).trans rfl; have hfz29_0 := blk_frozen BK349.out 0; have hfz29_1 := blk_frozen BK349.out 1; have hfz29_2 := blk_frozen BK349.out 2; have hfz29_3 := blk_frozen BK349.out 3; have hfz29_4 := blk_frozen BK349.out 4; have hfz29_5 := blk_frozen BK349.out 5; have hfz29_6 := blk_frozen BK349.out 6) | ((with_reducible refine gate_callee (f := 20) rfl ?_); refine goesL_ (some 45) rfl rfl Tryd.func20 (by kernel_rfl) rfl #[.agg #[.slice A0_0 l0_0.length c0_0, .int .i64 a0_1, .int .i64 a0_2, .int .i64 a0_3, .int .i64 a0_4, .slice A0_5 l0_5.length c0_5, .int .i64 a0_6], .int .i64 a1] rfl (by (try simp only [List.map_toArray, List.map_cons, List.map_nil]); first | done | rfl | (simp only [List.length_drop, List.length_take]; rfl)) ?_; (with_reducible refine (macadamref06_Comes.calls kj4 _ _ l0_0 a0_1 a0_2 a0_3 a0_4 _ _ l0_5 a0_6 a1 t360 t361 t362 _ ?side1 ?side2 ?side3 ?side4 A22.out).mono ?_); (case side1 => exact Kd.C_below HR0_0.out (by repeat (first | (with_reducible first | exact HB.out | apply below_alloc | apply pw_below_drewN | apply below_drew1 | refine below_set ?_ GE349.out | refine below_set ?_ GE359.out) | exact HB.out))); (case side2 => exact HC0_0.out); (case side3 => exact Kd.C_below HR0_5.out (by repeat (first | (with_reducible first | exact HB.out | apply below_alloc | apply pw_below_drewN | apply below_drew1 | refine below_set ?_ GE349.out | refine below_set ?_ GE359.out) | exact HB.out))); (case side4 => exact HC0_5.out); rintro e w30 ⟨rfl, hb⟩; refine ⟨_, rfl, ?_⟩; have n0_ := Aside0.mk (blk_below (g := gb349) (o := .cells #[.slice A0_0 l0_0.length c0_0, .int .i64 a0_1, .int .i64 a0_2, .int .i64 a0_3, .int .i64 a0_4, .slice A0_5 l0_5.length c0_5, .int .i64 a0_6] 26 (0, 0)) (by (with_reducible repeat (first | refine blk_drewN ?_ _ | refine blk_drew ?_ | refine blk_alloc ?_ _)); refine blk_far ?_ NB349_359.out _; (with_reducible repeat (first | refine blk_drewN ?_ _ | refine blk_drew ?_ | refine blk_alloc ?_ _)); refine blk_far ?_ NB349_359.out _; (with_reducible repeat (first | refine blk_drewN ?_ _ | refine blk_drew ?_ | refine blk_alloc ?_ _)); exact BK349.out) hb); have n1_ := Aside0.mk (blk_below (g := gb359) (o := .cells #[.int .i64 t356, .int .i64 t357] 32 (0, 0)) (by (with_reducible repeat (first | refine blk_drewN ?_ _ | refine blk_drew ?_ | refine blk_alloc ?_ _)); refine blk_put (cs := #[.int .i64 t356, .int .i64 0]) ?_ 1 _ rfl; (with_reducible repeat (first | refine blk_drewN ?_ _ | refine blk_drew ?_ | refine blk_alloc ?_ _)); refine blk_put (cs := #[.int .i64 0, .int .i64 0]) ?_ 0 _ rfl; (with_reducible repeat (first | refine blk_drewN ?_ _ | refine blk_drew ?_ | refine blk_alloc ?_ _)); exact BK359.out) hb); have n2_ := Aside0.mk (below_step (by repeat (first | (with_reducible first | exact HB.out | apply below_alloc | apply pw_below_drewN | apply below_drew1 | refine below_set ?_ GE349.out | refine below_set ?_ GE359.out) | exact HB.out)) hb); clear BK349; clear BK359; clear HB; have BK349 := n0_; have BK359 := n1_; have HB := n2_; clear n0_ n1_ n2_; (try clear hb); (try clear hb2); (try clear hk); (try clear hi)) | ((with_reducible refine gate_dst (N := 10) rfl ?_); refine box_event ?hg (N := 10) ?hd (cs := #[.int .i64 0, .int .i64 0]) (t := 32) ?hr ?_; (case hd => rfl); (case hg => rfl); (case hr => first | (go_simp; done) | (go_simp; rfl)); intro gb363 hg w31 hbox hb; have n0_ := Aside0.mk (blk_below (g := gb349) (o := .cells #[.slice A0_0 l0_0.length c0_0, .int .i64 a0_1, .int .i64 a0_2, .int .i64 a0_3, .int .i64 a0_4, .slice A0_5 l0_5.length c0_5, .int .i64 a0_6] 26 (0, 0)) (by (with_reducible repeat (first | refine blk_drewN ?_ _ | refine blk_drew ?_ | refine blk_alloc ?_ _)); exact BK349.out) hb); have n1_ := Aside0.mk (blk_below (g := gb359) (o := .cells #[.int .i64 t356, .int .i64 t357] 32 (0, 0)) (by (with_reducible repeat (first | refine blk_drewN ?_ _ | refine blk_drew ?_ | refine blk_alloc ?_ _)); exact BK359.out) hb); have n2_ := Aside0.mk (below_step (by repeat (first | (with_reducible first | exact HB.out | apply below_alloc | apply pw_below_drewN | apply below_drew1 | refine below_set ?_ GE349.out | refine below_set ?_ GE359.out) | exact HB.out)) hb); have n3_ := Aside0.mk (hbox); have n4_ := Aside0.mk ((by rw [hg]; exact (below_size (by repeat (first | (with_reducible first | exact HB.out | apply below_alloc | apply pw_below_drewN | apply below_drew1 | refine below_set ?_ GE349.out | refine below_set ?_ GE359.out) | exact HB.out))) : w.heap.size ≤ gb363)); have n5_ := Aside0.mk ((by rw [hg]; exact (below_size (by repeat (first | (with_reducible first | exact HB.out | apply below_alloc | apply pw_below_drewN | apply below_drew1 | refine below_set ?_ GE349.out | refine below_set ?_ GE359.out) | exact HB.out))) : w.heap.size ≤ gb363)); have n6_ := Aside0.mk ((by rw [hg]; exact Nat.ne_of_lt (blk_lt (g := gb349) (o := .cells #[.slice A0_0 l0_0.length c0_0, .int .i64 a0_1, .int .i64 a0_2, .int .i64 a0_3, .int .i64 a0_4, .slice A0_5 l0_5.length c0_5, .int .i64 a0_6] 26 (0, 0)) (by (with_reducible repeat (first | refine blk_drewN ?_ _ | refine blk_drew ?_ | refine blk_alloc ?_ _)); exact BK349.out)) : gb349 ≠ gb363)); have n7_ := Aside0.mk ((by rw [hg]; exact Nat.ne_of_gt (blk_lt (g := gb349) (o := .cells #[.slice A0_0 l0_0.length c0_0, .int .i64 a0_1, .int .i64 a0_2, .int .i64 a0_3, .int .i64 a0_4, .slice A0_5 l0_5.length c0_5, .int .i64 a0_6] 26 (0, 0)) (by (with_reducible repeat (first | refine blk_drewN ?_ _ | refine blk_drew ?_ | refine blk_alloc ?_ _)); exact BK349.out)) : gb363 ≠ gb349)); have n8_ := Aside0.mk ((by rw [hg]; exact Nat.ne_of_lt (blk_lt (g := gb359) (o := .cells #[.int .i64 t356, .int .i64 t357] 32 (0, 0)) (by (with_reducible repeat (first | refine blk_drewN ?_ _ | refine blk_drew ?_ | refine blk_alloc ?_ _)); exact BK359.out)) : gb359 ≠ gb363)); have n9_ := Aside0.mk ((by rw [hg]; exact Nat.ne_of_gt (blk_lt (g := gb359) (o := .cells #[.int .i64 t356, .int .i64 t357] 32 (0, 0)) (by (with_reducible repeat (first | refine blk_drewN ?_ _ | refine blk_drew ?_ | refine blk_alloc ?_ _)); exact BK359.out)) : gb363 ≠ gb359)); clear BK349; clear BK359; clear HB; have BK349 := n0_; have BK359 := n1_; have HB := n2_; have BK363 := n3_; have GW363 := n4_; have GE363 := n5_; have NB349_363 := n6_; have NB363_349 := n7_; have NB359_363 := n8_; have NB363_359 := n9_; clear n0_ n1_ n2_ n3_ n4_ n5_ n6_ n7_ n8_ n9_; clear hb hbox hg; have hnb32 := NB363_349.out; have hnc32 := NB349_363.out; have hnb33 := NB363_359.out; have hnc33 := NB359_363.out; have hcz34_0 : w31.cell? ⟨gb363, 0, none⟩ = some (.int .i64 0) := (blk_cell BK363.out 0).trans rfl; have hcz34_1 : w31.cell? ⟨gb363, 1, none⟩ = some (.int .i64 0) := (blk_cell BK363.out 1).trans rfl; have hfz34_0 := blk_frozen BK363.out 0; have hfz34_1 := blk_frozen BK363.out 1))
        (try simp only [Act.put, List.setIfInBounds_toArray, List.set_cons_zero, List.set_cons_succ])
        go_cut [55] (fun v55 wc => ∃ (kq : Nat) (x55_22 : Bool), v55 = .bool x55_22 ∧ Aside0 (macadamlaw06_ClaimTimes.j1 kq a1 x55_22 l0_0 a0_1 a0_2 a0_3 a0_4 l0_5 a0_6 = some r) ∧ Aside0 (kq ≤ kj4) ∧ Aside0 (wc.heap[gb349]? = some (.cells #[(.slice A0_0 l0_0.length c0_0), .int .i64 a0_1, .int .i64 a0_2, .int .i64 a0_3, .int .i64 a0_4, (.slice A0_5 l0_5.length c0_5), .int .i64 a0_6] 26 (0, 0))) ∧ Aside0 (wc.heap[gb359]? = some (.cells #[.int .i64 t356, .int .i64 t357] 32 (0, 0))) ∧ Aside0 (wc.heap[gb363]? = some (.cells #[.int .i64 t360, .int .i64 t361] 32 (0, 0))) ∧ Aside0 (Below w.heap.size w wc))
        case first =>
          have H := HC23.out
          clear HC23
          by_cases c35 : (!(t356 == t360) || (!(t357 == t361))) = true
          · rw [if_pos c35] at H
            have c35b0 : (!(t356 == t360) || (!(t357 == t361))) = true := c35
            clear c35
            (first | rw [c35b0] | (simp only [i64_w, i32_w]; rw [c35b0]) | skip)
            have H' := Aside0.mk H
            clear H
            have hnb36 := NB359_349.out
            have hnc36 := NB349_359.out
            have hnb37 := NB359_363.out
            have hnc37 := NB363_359.out
            have hcz38_0 : w31.cell? ⟨gb359, 0, none⟩ = some (.int .i64 t356) := (blk_cell BK359.out 0).trans rfl
            have hcz38_1 : w31.cell? ⟨gb359, 1, none⟩ = some (.int .i64 t357) := (blk_cell BK359.out 1).trans rfl
            have hfz38_0 := blk_frozen BK359.out 0
            have hfz38_1 := blk_frozen BK359.out 1
            have hnb39 := NB363_349.out
            have hnc39 := NB349_363.out
            have hcz40_0 : w31.cell? ⟨gb363, 0, none⟩ = some (.int .i64 0) := (blk_cell BK363.out 0).trans rfl
            have hcz40_1 : w31.cell? ⟨gb363, 1, none⟩ = some (.int .i64 0) := (blk_cell BK363.out 1).trans rfl
            have hfz40_0 := blk_frozen BK363.out 0
            have hfz40_1 := blk_frozen BK363.out 1
            go_wp2
            go_meet
            case rel => exact ⟨_, (true), (by first | rfl | (simp; done) | (simp [*]; done)), H', ⟨by have := HJ4.out; first | omega | exact Nat.le_refl _⟩, ⟨by (with_reducible repeat (first | refine blk_drewN ?_ _ | refine blk_drew ?_ | refine blk_alloc ?_ _)); refine blk_far ?_ NB349_363.out _; (with_reducible repeat (first | refine blk_drewN ?_ _ | refine blk_drew ?_ | refine blk_alloc ?_ _)); refine blk_far ?_ NB349_363.out _; (with_reducible repeat (first | refine blk_drewN ?_ _ | refine blk_drew ?_ | refine blk_alloc ?_ _)); exact BK349.out⟩, ⟨by (with_reducible repeat (first | refine blk_drewN ?_ _ | refine blk_drew ?_ | refine blk_alloc ?_ _)); refine blk_far ?_ NB359_363.out _; (with_reducible repeat (first | refine blk_drewN ?_ _ | refine blk_drew ?_ | refine blk_alloc ?_ _)); refine blk_far ?_ NB359_363.out _; (with_reducible repeat (first | refine blk_drewN ?_ _ | refine blk_drew ?_ | refine blk_alloc ?_ _)); exact BK359.out⟩, ⟨by (with_reducible repeat (first | refine blk_drewN ?_ _ | refine blk_drew ?_ | refine blk_alloc ?_ _)); refine blk_put (cs := #[.int .i64 t360, .int .i64 0]) ?_ 1 _ rfl; (with_reducible repeat (first | refine blk_drewN ?_ _ | refine blk_drew ?_ | refine blk_alloc ?_ _)); refine blk_put (cs := #[.int .i64 0, .int .i64 0]) ?_ 0 _ rfl; (with_reducible repeat (first | refine blk_drewN ?_ _ | refine blk_drew ?_ | refine blk_alloc ?_ _)); exact BK363.out⟩, ⟨by repeat (first | (with_reducible first | exact HB.out | apply below_alloc | apply pw_below_drewN | apply below_drew1 | refine below_set ?_ GE349.out | refine below_set ?_ GE359.out | refine below_set ?_ GE363.out) | exact HB.out)⟩⟩
          · rw [if_neg c35] at H
            have c35b0 : (!(t356 == t360) || (!(t357 == t361))) = false := by simpa using c35
            clear c35
            (first | rw [c35b0] | (simp only [i64_w, i32_w]; rw [c35b0]) | skip)
            have H' := Aside0.mk H
            clear H
            have hnb41 := NB359_349.out
            have hnc41 := NB349_359.out
            have hnb42 := NB359_363.out
            have hnc42 := NB363_359.out
            have hcz43_0 : w31.cell? ⟨gb359, 0, none⟩ = some (.int .i64 t356) := (blk_cell BK359.out 0).trans rfl
            have hcz43_1 : w31.cell? ⟨gb359, 1, none⟩ = some (.int .i64 t357) := (blk_cell BK359.out 1).trans rfl
            have hfz43_0 := blk_frozen BK359.out 0
            have hfz43_1 := blk_frozen BK359.out 1
            have hnb44 := NB363_349.out
            have hnc44 := NB349_363.out
            have hcz45_0 : w31.cell? ⟨gb363, 0, none⟩ = some (.int .i64 0) := (blk_cell BK363.out 0).trans rfl
            have hcz45_1 : w31.cell? ⟨gb363, 1, none⟩ = some (.int .i64 0) := (blk_cell BK363.out 1).trans rfl
            have hfz45_0 := blk_frozen BK363.out 0
            have hfz45_1 := blk_frozen BK363.out 1
            go_wp2
            go_meet
            case rel => exact ⟨_, ((t358 != t362)), (by first | rfl | (simp; done) | (simp [*]; done)), H', ⟨by have := HJ4.out; first | omega | exact Nat.le_refl _⟩, ⟨by (with_reducible repeat (first | refine blk_drewN ?_ _ | refine blk_drew ?_ | refine blk_alloc ?_ _)); refine blk_far ?_ NB349_363.out _; (with_reducible repeat (first | refine blk_drewN ?_ _ | refine blk_drew ?_ | refine blk_alloc ?_ _)); refine blk_far ?_ NB349_363.out _; (with_reducible repeat (first | refine blk_drewN ?_ _ | refine blk_drew ?_ | refine blk_alloc ?_ _)); exact BK349.out⟩, ⟨by (with_reducible repeat (first | refine blk_drewN ?_ _ | refine blk_drew ?_ | refine blk_alloc ?_ _)); refine blk_far ?_ NB359_363.out _; (with_reducible repeat (first | refine blk_drewN ?_ _ | refine blk_drew ?_ | refine blk_alloc ?_ _)); refine blk_far ?_ NB359_363.out _; (with_reducible repeat (first | refine blk_drewN ?_ _ | refine blk_drew ?_ | refine blk_alloc ?_ _)); exact BK359.out⟩, ⟨by (with_reducible repeat (first | refine blk_drewN ?_ _ | refine blk_drew ?_ | refine blk_alloc ?_ _)); refine blk_put (cs := #[.int .i64 t360, .int .i64 0]) ?_ 1 _ rfl; (with_reducible repeat (first | refine blk_drewN ?_ _ | refine blk_drew ?_ | refine blk_alloc ?_ _)); refine blk_put (cs := #[.int .i64 0, .int .i64 0]) ?_ 0 _ rfl; (with_reducible repeat (first | refine blk_drewN ?_ _ | refine blk_drew ?_ | refine blk_alloc ?_ _)); exact BK363.out⟩, ⟨by repeat (first | (with_reducible first | exact HB.out | apply below_alloc | apply pw_below_drewN | apply below_drew1 | refine below_set ?_ GE349.out | refine below_set ?_ GE359.out | refine below_set ?_ GE363.out) | exact HB.out)⟩⟩
        case rest =>
          clear HC23
          try clear c1
          try clear c2
          try clear p2
          try clear c3
          try clear c4
          try clear c11
          try clear c11b0
          try clear c11b1
          try clear c11b2
          try clear c13
          try clear c13b0
          try clear c13b1
          try clear c15
          try clear c16
          try clear c17
          try clear c18
          try clear c19
          try clear c20
          try clear c27
          try clear c32
          try clear c33
          try clear c35
          try clear c35b0
          try clear c36
          try clear c37
          try clear c39
          try clear c41
          try clear c42
          try clear c44
          try clear hcz24_0
          try clear hcz24_1
          try clear hcz24_2
          try clear hcz24_3
          try clear hcz24_4
          try clear hcz24_5
          try clear hcz24_6
          try clear hcz28_0
          try clear hcz28_1
          try clear hcz29_0
          try clear hcz29_1
          try clear hcz29_2
          try clear hcz29_3
          try clear hcz29_4
          try clear hcz29_5
          try clear hcz29_6
          try clear hcz34_0
          try clear hcz34_1
          try clear hcz38_0
          try clear hcz38_1
          try clear hcz40_0
          try clear hcz40_1
          try clear hcz43_0
          try clear hcz43_1
          try clear hcz45_0
          try clear hcz45_1
          try clear hcz7_0
          try clear hcz7_1
          try clear hcz7_2
          try clear hcz7_3
          try clear hcz7_4
          try clear hcz7_5
          try clear hcz7_6
          try clear hcz9_0
          try clear hcz9_1
          try clear hcz9_2
          try clear hcz9_3
          try clear hcz9_4
          try clear hcz9_5
          try clear hcz9_6
          try clear hfz24_0
          try clear hfz24_1
          try clear hfz24_2
          try clear hfz24_3
          try clear hfz24_4
          try clear hfz24_5
          try clear hfz24_6
          try clear hfz28_0
          try clear hfz28_1
          try clear hfz29_0
          try clear hfz29_1
          try clear hfz29_2
          try clear hfz29_3
          try clear hfz29_4
          try clear hfz29_5
          try clear hfz29_6
          try clear hfz34_0
          try clear hfz34_1
          try clear hfz38_0
          try clear hfz38_1
          try clear hfz40_0
          try clear hfz40_1
          try clear hfz43_0
          try clear hfz43_1
          try clear hfz45_0
          try clear hfz45_1
          try clear hfz7_0
          try clear hfz7_1
          try clear hfz7_2
          try clear hfz7_3
          try clear hfz7_4
          try clear hfz7_5
          try clear hfz7_6
          try clear hfz9_0
          try clear hfz9_1
          try clear hfz9_2
          try clear hfz9_3
          try clear hfz9_4
          try clear hfz9_5
          try clear hfz9_6
          try clear p2
          obtain ⟨kq, x55_22, rfl, HA, HJ22, BK349, BK359, BK363, HB⟩ := hcut
          cases kq with
          | zero => exact absurd HA.out (by simp [macadamlaw06_ClaimTimes.j1])
          | succ kj22 =>
            have H := HA.out
            clear HA
            simp only [macadamlaw06_ClaimTimes.j1] at H
            by_cases c46 : x55_22 = true
            · subst c46
              have H1 : (some false) = some r := by rw [if_pos rfl] at H; exact H
              clear H
              have H := H1
              clear H1
              obtain rfl := Option.some.inj H
              go_wp2
              go_ret
              exact ⟨by first | rfl | (simp [errW_none, errW_some] <;> rfl) | (simp [*, errW_none, errW_some] <;> rfl), by repeat (first | (with_reducible first | exact HB.out | apply below_alloc | apply pw_below_drewN | apply below_drew1 | refine below_set ?_ GE349.out | refine below_set ?_ GE359.out | refine below_set ?_ GE363.out) | exact HB.out)⟩
            · replace c46 := Bool.eq_false_iff.mpr c46
              subst c46
              have H1 : ((claim_Late.f l0_0 a0_1 a0_2 a0_3 a0_4 l0_5 a0_6 a1).bind fun bt364 => ((macadamref06_Late.f kj22 l0_0 a0_1 a0_2 a0_3 a0_4 l0_5 a0_6 a1).bind fun bt367 => (if (!(bt364.1 == bt367.1) || (!(bt364.2.1 == bt367.2.1))) = true then (macadamlaw06_ClaimTimes.j2 kj22 a1 true l0_0 a0_1 a0_2 a0_3 a0_4 l0_5 a0_6) else (macadamlaw06_ClaimTimes.j2 kj22 a1 (bt364.2.2 != bt367.2.2) l0_0 a0_1 a0_2 a0_3 a0_4 l0_5 a0_6)))) = some r := by rw [if_neg (show ¬ (false = true) by decide)] at H; exact H
              clear H
              have H := H1
              clear H1
              replace H := Option.bind_eq_some_iff.mp H
              obtain ⟨⟨t364, t365, t366⟩, A470, H⟩ := H
              replace H : ((macadamref06_Late.f kj22 l0_0 a0_1 a0_2 a0_3 a0_4 l0_5 a0_6 a1).bind fun bt367 => (if (!(t364 == bt367.1) || (!(t365 == bt367.2.1))) = true then (macadamlaw06_ClaimTimes.j2 kj22 a1 true l0_0 a0_1 a0_2 a0_3 a0_4 l0_5 a0_6) else (macadamlaw06_ClaimTimes.j2 kj22 a1 (t366 != bt367.2.2) l0_0 a0_1 a0_2 a0_3 a0_4 l0_5 a0_6))) = some r := H
              have A47 := Aside0.mk A470
              clear A470
              replace H := Option.bind_eq_some_iff.mp H
              obtain ⟨⟨t367, t368, t369⟩, A480, H⟩ := H
              replace H : (if (!(t364 == t367) || (!(t365 == t368))) = true then (macadamlaw06_ClaimTimes.j2 kj22 a1 true l0_0 a0_1 a0_2 a0_3 a0_4 l0_5 a0_6) else (macadamlaw06_ClaimTimes.j2 kj22 a1 (t366 != t369) l0_0 a0_1 a0_2 a0_3 a0_4 l0_5 a0_6)) = some r := H
              have A48 := Aside0.mk A480
              clear A480
              have HC49 := Aside0.mk H
              clear H
              have hnb50 := NB349_359.out
              have hnc50 := NB359_349.out
              have hnb51 := NB349_363.out
              have hnc51 := NB363_349.out
              have hcz52_0 : wc.cell? ⟨gb349, 0, none⟩ = some (.slice A0_0 l0_0.length c0_0) := (blk_cell BK349.out 0).trans rfl
              have hcz52_1 : wc.cell? ⟨gb349, 1, none⟩ = some (.int .i64 a0_1) := (blk_cell BK349.out 1).trans rfl
              have hcz52_2 : wc.cell? ⟨gb349, 2, none⟩ = some (.int .i64 a0_2) := (blk_cell BK349.out 2).trans rfl
              have hcz52_3 : wc.cell? ⟨gb349, 3, none⟩ = some (.int .i64 a0_3) := (blk_cell BK349.out 3).trans rfl
              have hcz52_4 : wc.cell? ⟨gb349, 4, none⟩ = some (.int .i64 a0_4) := (blk_cell BK349.out 4).trans rfl
              have hcz52_5 : wc.cell? ⟨gb349, 5, none⟩ = some (.slice A0_5 l0_5.length c0_5) := (blk_cell BK349.out 5).trans rfl
              have hcz52_6 : wc.cell? ⟨gb349, 6, none⟩ = some (.int .i64 a0_6) := (blk_cell BK349.out 6).trans rfl
              have hfz52_0 := blk_frozen BK349.out 0
              have hfz52_1 := blk_frozen BK349.out 1
              have hfz52_2 := blk_frozen BK349.out 2
              have hfz52_3 := blk_frozen BK349.out 3
              have hfz52_4 := blk_frozen BK349.out 4
              have hfz52_5 := blk_frozen BK349.out 5
              have hfz52_6 := blk_frozen BK349.out 6
              go_upto_region 11 with (first | ((with_reducible refine gate_callee (f := 21) rfl ?_); refine goesL_ (some 59) rfl rfl Tryd.func21 (by kernel_rfl) rfl #[.agg #[.slice A0_0 l0_0.length c0_0, .int .i64 a0_1, .int .i64 a0_2, .int .i64 a0_3, .int .i64 a0_4, .slice A0_5 l0_5.length c0_5, .int .i64 a0_6], .int .i64 a1] rfl (by (try simp only [List.map_toArray, List.map_cons, List.map_nil]); first | done | rfl | (simp only [List.length_drop, List.length_take]; rfl)) ?_; (with_reducible refine (claim_Late.calls _ _ l0_0 a0_1 a0_2 a0_3 a0_4 _ _ l0_5 a0_6 a1 t364 t365 t366 _ ?side1 ?side2 ?side3 ?side4 ?side5 A47.out).mono ?_); (case side1 => first | exact HG.out | exact Glob.step HG.out HB.out | exact Glob.step HG.out (by repeat (first | (with_reducible first | exact HB.out | apply below_alloc | apply pw_below_drewN | apply below_drew1 | refine below_set ?_ GE349.out | refine below_set ?_ GE359.out | refine below_set ?_ GE363.out) | exact HB.out))); (case side2 => repeat (first | exact (Kd.C_below HR0_0.out HB.out) | (with_reducible refine Kd.C_alloc ?_ _) | (with_reducible refine Kd.C_drewN ?_ _) | (with_reducible refine Kd.C_drew ?_))); (case side3 => exact HC0_0.out); (case side4 => repeat (first | exact (Kd.C_below HR0_5.out HB.out) | (with_reducible refine Kd.C_alloc ?_ _) | (with_reducible refine Kd.C_drewN ?_ _) | (with_reducible refine Kd.C_drew ?_))); (case side5 => exact HC0_5.out); rintro e w53 ⟨rfl, hb⟩; refine ⟨_, rfl, ?_⟩; have n0_ := Aside0.mk (blk_below (g := gb349) (o := .cells #[.slice A0_0 l0_0.length c0_0, .int .i64 a0_1, .int .i64 a0_2, .int .i64 a0_3, .int .i64 a0_4, .slice A0_5 l0_5.length c0_5, .int .i64 a0_6] 26 (0, 0)) (by (with_reducible repeat (first | refine blk_drewN ?_ _ | refine blk_drew ?_ | refine blk_alloc ?_ _)); exact BK349.out) hb); have n1_ := Aside0.mk (blk_below (g := gb359) (o := .cells #[.int .i64 t356, .int .i64 t357] 32 (0, 0)) (by (with_reducible repeat (first | refine blk_drewN ?_ _ | refine blk_drew ?_ | refine blk_alloc ?_ _)); exact BK359.out) hb); have n2_ := Aside0.mk (blk_below (g := gb363) (o := .cells #[.int .i64 t360, .int .i64 t361] 32 (0, 0)) (by (with_reducible repeat (first | refine blk_drewN ?_ _ | refine blk_drew ?_ | refine blk_alloc ?_ _)); exact BK363.out) hb); have n3_ := Aside0.mk (below_step (by repeat (first | (with_reducible first | exact HB.out | apply below_alloc | apply pw_below_drewN | apply below_drew1 | refine below_set ?_ GE349.out | refine below_set ?_ GE359.out | refine below_set ?_ GE363.out) | exact HB.out)) hb); clear BK349; clear BK359; clear BK363; clear HB; have BK349 := n0_; have BK359 := n1_; have BK363 := n2_; have HB := n3_; clear n0_ n1_ n2_ n3_; (try clear hb); (try clear hb2); (try clear hk); (try clear hi); have hnb54 := NB359_363.out; have hnc54 := NB363_359.out; have hcz55_0 : w53.cell? ⟨gb359, 0, none⟩ = some (.int .i64 t356) := (blk_cell BK359.out 0).trans rfl; have hcz55_1 : w53.cell? ⟨gb359, 1, none⟩ = some (.int .i64 t357) := (blk_cell BK359.out 1).trans rfl; have hfz55_0 := blk_frozen BK359.out 0; have hfz55_1 := blk_frozen BK359.out 1; have hcz56_0 : w53.cell? ⟨gb349, 0, none⟩ = some (.slice A0_0 l0_0.length c0_0) := (blk_cell BK349.out 0).trans rfl; have hcz56_1 : w53.cell? ⟨gb349, 1, none⟩ = some (.int .i64 a0_1) := (blk_cell BK349.out 1).trans rfl; have hcz56_2 : w53.cell? ⟨gb349, 2, none⟩ = some (.int .i64 a0_2) := (blk_cell BK349.out 2).trans rfl; have hcz56_3 : w53.cell? ⟨gb349, 3, none⟩ = some (.int .i64 a0_3) := (blk_cell BK349.out 3).trans rfl; have hcz56_4 : w53.cell? ⟨gb349, 4, none⟩ = some (.int .i64 a0_4) := (blk_cell BK349.out 4).trans rfl; have hcz56_5 : w53.cell? ⟨gb349, 5, none⟩ = some (.slice A0_5 l0_5.length c0_5) := (blk_cell BK349.out 5).trans rfl; have hcz56_6 : w53.cell? ⟨gb349, 6, none⟩ = some (.int .i64 a0_6) := (blk_cell BK349.out 6).trans rfl; have hfz56_0 := blk_frozen BK349.out 0; have hfz56_1 := blk_frozen BK349.out 1; have hfz56_2 := blk_frozen BK349.out 2; have hfz56_3 := blk_frozen BK349.out 3; have hfz56_4 := blk_frozen BK349.out 4; have hfz56_5 := blk_frozen BK349.out 5; have hfz56_6 := blk_frozen BK349.out 6) | ((with_reducible refine gate_callee (f := 22) rfl ?_); refine goesL_ (some 65) rfl rfl Tryd.func22 (by kernel_rfl) rfl #[.agg #[.slice A0_0 l0_0.length c0_0, .int .i64 a0_1, .int .i64 a0_2, .int .i64 a0_3, .int .i64 a0_4, .slice A0_5 l0_5.length c0_5, .int .i64 a0_6], .int .i64 a1] rfl (by (try simp only [List.map_toArray, List.map_cons, List.map_nil]); first | done | rfl | (simp only [List.length_drop, List.length_take]; rfl)) ?_; (with_reducible refine (macadamref06_Late.calls kj22 _ _ l0_0 a0_1 a0_2 a0_3 a0_4 _ _ l0_5 a0_6 a1 t367 t368 t369 _ ?side1 ?side2 ?side3 ?side4 A48.out).mono ?_); (case side1 => exact Kd.C_below HR0_0.out (by repeat (first | (with_reducible first | exact HB.out | apply below_alloc | apply pw_below_drewN | apply below_drew1 | refine below_set ?_ GE349.out | refine below_set ?_ GE359.out | refine below_set ?_ GE363.out) | exact HB.out))); (case side2 => exact HC0_0.out); (case side3 => exact Kd.C_below HR0_5.out (by repeat (first | (with_reducible first | exact HB.out | apply below_alloc | apply pw_below_drewN | apply below_drew1 | refine below_set ?_ GE349.out | refine below_set ?_ GE359.out | refine below_set ?_ GE363.out) | exact HB.out))); (case side4 => exact HC0_5.out); rintro e w57 ⟨rfl, hb⟩; refine ⟨_, rfl, ?_⟩; have n0_ := Aside0.mk (blk_below (g := gb349) (o := .cells #[.slice A0_0 l0_0.length c0_0, .int .i64 a0_1, .int .i64 a0_2, .int .i64 a0_3, .int .i64 a0_4, .slice A0_5 l0_5.length c0_5, .int .i64 a0_6] 26 (0, 0)) (by (with_reducible repeat (first | refine blk_drewN ?_ _ | refine blk_drew ?_ | refine blk_alloc ?_ _)); refine blk_far ?_ NB349_359.out _; (with_reducible repeat (first | refine blk_drewN ?_ _ | refine blk_drew ?_ | refine blk_alloc ?_ _)); refine blk_far ?_ NB349_359.out _; (with_reducible repeat (first | refine blk_drewN ?_ _ | refine blk_drew ?_ | refine blk_alloc ?_ _)); exact BK349.out) hb); have n1_ := Aside0.mk (blk_below (g := gb359) (o := .cells #[.int .i64 t364, .int .i64 t365] 32 (0, 0)) (by (with_reducible repeat (first | refine blk_drewN ?_ _ | refine blk_drew ?_ | refine blk_alloc ?_ _)); refine blk_put (cs := #[.int .i64 t364, .int .i64 t357]) ?_ 1 _ rfl; (with_reducible repeat (first | refine blk_drewN ?_ _ | refine blk_drew ?_ | refine blk_alloc ?_ _)); refine blk_put (cs := #[.int .i64 t356, .int .i64 t357]) ?_ 0 _ rfl; (with_reducible repeat (first | refine blk_drewN ?_ _ | refine blk_drew ?_ | refine blk_alloc ?_ _)); exact BK359.out) hb); have n2_ := Aside0.mk (blk_below (g := gb363) (o := .cells #[.int .i64 t360, .int .i64 t361] 32 (0, 0)) (by (with_reducible repeat (first | refine blk_drewN ?_ _ | refine blk_drew ?_ | refine blk_alloc ?_ _)); refine blk_far ?_ NB363_359.out _; (with_reducible repeat (first | refine blk_drewN ?_ _ | refine blk_drew ?_ | refine blk_alloc ?_ _)); refine blk_far ?_ NB363_359.out _; (with_reducible repeat (first | refine blk_drewN ?_ _ | refine blk_drew ?_ | refine blk_alloc ?_ _)); exact BK363.out) hb); have n3_ := Aside0.mk (below_step (by repeat (first | (with_reducible first | exact HB.out | apply below_alloc | apply pw_below_drewN | apply below_drew1 | refine below_set ?_ GE349.out | refine below_set ?_ GE359.out | refine below_set ?_ GE363.out) | exact HB.out)) hb); clear BK349; clear BK359; clear BK363; clear HB; have BK349 := n0_; have BK359 := n1_; have BK363 := n2_; have HB := n3_; clear n0_ n1_ n2_ n3_; (try clear hb); (try clear hb2); (try clear hk); (try clear hi); have hcz58_0 : w57.cell? ⟨gb363, 0, none⟩ = some (.int .i64 t360) := (blk_cell BK363.out 0).trans rfl; have hcz58_1 : w57.cell? ⟨gb363, 1, none⟩ = some (.int .i64 t361) := (blk_cell BK363.out 1).trans rfl; have hfz58_0 := blk_frozen BK363.out 0; have hfz58_1 := blk_frozen BK363.out 1))
              (try simp only [Act.put, List.setIfInBounds_toArray, List.set_cons_zero, List.set_cons_succ])
              go_cut [75] (fun v75 wc => ∃ (kq : Nat) (x75_48 : Bool), v75 = .bool x75_48 ∧ Aside0 (macadamlaw06_ClaimTimes.j2 kq a1 x75_48 l0_0 a0_1 a0_2 a0_3 a0_4 l0_5 a0_6 = some r) ∧ Aside0 (kq ≤ kj22) ∧ Aside0 (wc.heap[gb349]? = some (.cells #[(.slice A0_0 l0_0.length c0_0), .int .i64 a0_1, .int .i64 a0_2, .int .i64 a0_3, .int .i64 a0_4, (.slice A0_5 l0_5.length c0_5), .int .i64 a0_6] 26 (0, 0))) ∧ Aside0 (wc.heap[gb359]? = some (.cells #[.int .i64 t364, .int .i64 t365] 32 (0, 0))) ∧ Aside0 (wc.heap[gb363]? = some (.cells #[.int .i64 t367, .int .i64 t368] 32 (0, 0))) ∧ Aside0 (Below w.heap.size w wc))
              case first =>
                have H := HC49.out
                clear HC49
                by_cases c59 : (!(t364 == t367) || (!(t365 == t368))) = true
                · rw [if_pos c59] at H
                  have c59b0 : (!(t364 == t367) || (!(t365 == t368))) = true := c59
                  clear c59
                  (first | rw [c59b0] | (simp only [i64_w, i32_w]; rw [c59b0]) | skip)
                  have H' := Aside0.mk H
                  clear H
                  have hnb60 := NB359_349.out
                  have hnc60 := NB349_359.out
                  have hnb61 := NB359_363.out
                  have hnc61 := NB363_359.out
                  have hcz62_0 : w57.cell? ⟨gb359, 0, none⟩ = some (.int .i64 t364) := (blk_cell BK359.out 0).trans rfl
                  have hcz62_1 : w57.cell? ⟨gb359, 1, none⟩ = some (.int .i64 t365) := (blk_cell BK359.out 1).trans rfl
                  have hfz62_0 := blk_frozen BK359.out 0
                  have hfz62_1 := blk_frozen BK359.out 1
                  have hnb63 := NB363_349.out
                  have hnc63 := NB349_363.out
                  have hcz64_0 : w57.cell? ⟨gb363, 0, none⟩ = some (.int .i64 t360) := (blk_cell BK363.out 0).trans rfl
                  have hcz64_1 : w57.cell? ⟨gb363, 1, none⟩ = some (.int .i64 t361) := (blk_cell BK363.out 1).trans rfl
                  have hfz64_0 := blk_frozen BK363.out 0
                  have hfz64_1 := blk_frozen BK363.out 1
                  go_wp2
                  go_meet
                  case rel => exact ⟨_, (true), (by first | rfl | (simp; done) | (simp [*]; done)), H', ⟨by have := HJ4.out; have := HJ22.out; first | omega | exact Nat.le_refl _⟩, ⟨by (with_reducible repeat (first | refine blk_drewN ?_ _ | refine blk_drew ?_ | refine blk_alloc ?_ _)); refine blk_far ?_ NB349_363.out _; (with_reducible repeat (first | refine blk_drewN ?_ _ | refine blk_drew ?_ | refine blk_alloc ?_ _)); refine blk_far ?_ NB349_363.out _; (with_reducible repeat (first | refine blk_drewN ?_ _ | refine blk_drew ?_ | refine blk_alloc ?_ _)); exact BK349.out⟩, ⟨by (with_reducible repeat (first | refine blk_drewN ?_ _ | refine blk_drew ?_ | refine blk_alloc ?_ _)); refine blk_far ?_ NB359_363.out _; (with_reducible repeat (first | refine blk_drewN ?_ _ | refine blk_drew ?_ | refine blk_alloc ?_ _)); refine blk_far ?_ NB359_363.out _; (with_reducible repeat (first | refine blk_drewN ?_ _ | refine blk_drew ?_ | refine blk_alloc ?_ _)); exact BK359.out⟩, ⟨by (with_reducible repeat (first | refine blk_drewN ?_ _ | refine blk_drew ?_ | refine blk_alloc ?_ _)); refine blk_put (cs := #[.int .i64 t367, .int .i64 t361]) ?_ 1 _ rfl; (with_reducible repeat (first | refine blk_drewN ?_ _ | refine blk_drew ?_ | refine blk_alloc ?_ _)); refine blk_put (cs := #[.int .i64 t360, .int .i64 t361]) ?_ 0 _ rfl; (with_reducible repeat (first | refine blk_drewN ?_ _ | refine blk_drew ?_ | refine blk_alloc ?_ _)); exact BK363.out⟩, ⟨by repeat (first | (with_reducible first | exact HB.out | apply below_alloc | apply pw_below_drewN | apply below_drew1 | refine below_set ?_ GE349.out | refine below_set ?_ GE359.out | refine below_set ?_ GE363.out) | exact HB.out)⟩⟩
                · rw [if_neg c59] at H
                  have c59b0 : (!(t364 == t367) || (!(t365 == t368))) = false := by simpa using c59
                  clear c59
                  (first | rw [c59b0] | (simp only [i64_w, i32_w]; rw [c59b0]) | skip)
                  have H' := Aside0.mk H
                  clear H
                  have hnb65 := NB359_349.out
                  have hnc65 := NB349_359.out
                  have hnb66 := NB359_363.out
                  have hnc66 := NB363_359.out
                  have hcz67_0 : w57.cell? ⟨gb359, 0, none⟩ = some (.int .i64 t364) := (blk_cell BK359.out 0).trans rfl
                  have hcz67_1 : w57.cell? ⟨gb359, 1, none⟩ = some (.int .i64 t365) := (blk_cell BK359.out 1).trans rfl
                  have hfz67_0 := blk_frozen BK359.out 0
                  have hfz67_1 := blk_frozen BK359.out 1
                  have hnb68 := NB363_349.out
                  have hnc68 := NB349_363.out
                  have hcz69_0 : w57.cell? ⟨gb363, 0, none⟩ = some (.int .i64 t360) := (blk_cell BK363.out 0).trans rfl
                  have hcz69_1 : w57.cell? ⟨gb363, 1, none⟩ = some (.int .i64 t361) := (blk_cell BK363.out 1).trans rfl
                  have hfz69_0 := blk_frozen BK363.out 0
                  have hfz69_1 := blk_frozen BK363.out 1
                  go_wp2
                  go_meet
                  case rel => exact ⟨_, ((t366 != t369)), (by first | rfl | (simp; done) | (simp [*]; done)), H', ⟨by have := HJ4.out; have := HJ22.out; first | omega | exact Nat.le_refl _⟩, ⟨by (with_reducible repeat (first | refine blk_drewN ?_ _ | refine blk_drew ?_ | refine blk_alloc ?_ _)); refine blk_far ?_ NB349_363.out _; (with_reducible repeat (first | refine blk_drewN ?_ _ | refine blk_drew ?_ | refine blk_alloc ?_ _)); refine blk_far ?_ NB349_363.out _; (with_reducible repeat (first | refine blk_drewN ?_ _ | refine blk_drew ?_ | refine blk_alloc ?_ _)); exact BK349.out⟩, ⟨by (with_reducible repeat (first | refine blk_drewN ?_ _ | refine blk_drew ?_ | refine blk_alloc ?_ _)); refine blk_far ?_ NB359_363.out _; (with_reducible repeat (first | refine blk_drewN ?_ _ | refine blk_drew ?_ | refine blk_alloc ?_ _)); refine blk_far ?_ NB359_363.out _; (with_reducible repeat (first | refine blk_drewN ?_ _ | refine blk_drew ?_ | refine blk_alloc ?_ _)); exact BK359.out⟩, ⟨by (with_reducible repeat (first | refine blk_drewN ?_ _ | refine blk_drew ?_ | refine blk_alloc ?_ _)); refine blk_put (cs := #[.int .i64 t367, .int .i64 t361]) ?_ 1 _ rfl; (with_reducible repeat (first | refine blk_drewN ?_ _ | refine blk_drew ?_ | refine blk_alloc ?_ _)); refine blk_put (cs := #[.int .i64 t360, .int .i64 t361]) ?_ 0 _ rfl; (with_reducible repeat (first | refine blk_drewN ?_ _ | refine blk_drew ?_ | refine blk_alloc ?_ _)); exact BK363.out⟩, ⟨by repeat (first | (with_reducible first | exact HB.out | apply below_alloc | apply pw_below_drewN | apply below_drew1 | refine below_set ?_ GE349.out | refine below_set ?_ GE359.out | refine below_set ?_ GE363.out) | exact HB.out)⟩⟩
              case rest =>
                clear HC49
                try clear c1
                try clear c2
                try clear p2
                try clear c3
                try clear c4
                try clear c5
                try clear c6
                try clear c11
                try clear c11b0
                try clear c11b1
                try clear c11b2
                try clear c13
                try clear c13b0
                try clear c13b1
                try clear c15
                try clear c16
                try clear c17
                try clear c18
                try clear c19
                try clear c20
                try clear c21
                try clear c22
                try clear c27
                try clear c32
                try clear c33
                try clear c35
                try clear c35b0
                try clear c36
                try clear c37
                try clear c39
                try clear c41
                try clear c42
                try clear c44
                try clear c46
                try clear c50
                try clear c51
                try clear c54
                try clear c59
                try clear c59b0
                try clear c60
                try clear c61
                try clear c63
                try clear c65
                try clear c66
                try clear c68
                try clear hcz24_0
                try clear hcz24_1
                try clear hcz24_2
                try clear hcz24_3
                try clear hcz24_4
                try clear hcz24_5
                try clear hcz24_6
                try clear hcz28_0
                try clear hcz28_1
                try clear hcz29_0
                try clear hcz29_1
                try clear hcz29_2
                try clear hcz29_3
                try clear hcz29_4
                try clear hcz29_5
                try clear hcz29_6
                try clear hcz34_0
                try clear hcz34_1
                try clear hcz38_0
                try clear hcz38_1
                try clear hcz40_0
                try clear hcz40_1
                try clear hcz43_0
                try clear hcz43_1
                try clear hcz45_0
                try clear hcz45_1
                try clear hcz52_0
                try clear hcz52_1
                try clear hcz52_2
                try clear hcz52_3
                try clear hcz52_4
                try clear hcz52_5
                try clear hcz52_6
                try clear hcz55_0
                try clear hcz55_1
                try clear hcz56_0
                try clear hcz56_1
                try clear hcz56_2
                try clear hcz56_3
                try clear hcz56_4
                try clear hcz56_5
                try clear hcz56_6
                try clear hcz58_0
                try clear hcz58_1
                try clear hcz62_0
                try clear hcz62_1
                try clear hcz64_0
                try clear hcz64_1
                try clear hcz67_0
                try clear hcz67_1
                try clear hcz69_0
                try clear hcz69_1
                try clear hcz7_0
                try clear hcz7_1
                try clear hcz7_2
                try clear hcz7_3
                try clear hcz7_4
                try clear hcz7_5
                try clear hcz7_6
                try clear hcz9_0
                try clear hcz9_1
                try clear hcz9_2
                try clear hcz9_3
                try clear hcz9_4
                try clear hcz9_5
                try clear hcz9_6
                try clear hfz24_0
                try clear hfz24_1
                try clear hfz24_2
                try clear hfz24_3
                try clear hfz24_4
                try clear hfz24_5
                try clear hfz24_6
                try clear hfz28_0
                try clear hfz28_1
                try clear hfz29_0
                try clear hfz29_1
                try clear hfz29_2
                try clear hfz29_3
                try clear hfz29_4
                try clear hfz29_5
                try clear hfz29_6
                try clear hfz34_0
                try clear hfz34_1
                try clear hfz38_0
                try clear hfz38_1
                try clear hfz40_0
                try clear hfz40_1
                try clear hfz43_0
                try clear hfz43_1
                try clear hfz45_0
                try clear hfz45_1
                try clear hfz52_0
                try clear hfz52_1
                try clear hfz52_2
                try clear hfz52_3
                try clear hfz52_4
                try clear hfz52_5
                try clear hfz52_6
                try clear hfz55_0
                try clear hfz55_1
                try clear hfz56_0
                try clear hfz56_1
                try clear hfz56_2
                try clear hfz56_3
                try clear hfz56_4
                try clear hfz56_5
                try clear hfz56_6
                try clear hfz58_0
                try clear hfz58_1
                try clear hfz62_0
                try clear hfz62_1
                try clear hfz64_0
                try clear hfz64_1
                try clear hfz67_0
                try clear hfz67_1
                try clear hfz69_0
                try clear hfz69_1
                try clear hfz7_0
                try clear hfz7_1
                try clear hfz7_2
                try clear hfz7_3
                try clear hfz7_4
                try clear hfz7_5
                try clear hfz7_6
                try clear hfz9_0
                try clear hfz9_1
                try clear hfz9_2
                try clear hfz9_3
                try clear hfz9_4
                try clear hfz9_5
                try clear hfz9_6
                try clear p2
                obtain ⟨kq, x75_48, rfl, HA, HJ48, BK349, BK359, BK363, HB⟩ := hcut
                cases kq with
                | zero => exact absurd HA.out (by simp [macadamlaw06_ClaimTimes.j2])
                | succ kj48 =>
                  have H := HA.out
                  clear HA
                  simp only [macadamlaw06_ClaimTimes.j2] at H
                  by_cases c70 : x75_48 = true
                  · subst c70
                    have H1 : (some false) = some r := by rw [if_pos rfl] at H; exact H
                    clear H
                    have H := H1
                    clear H1
                    obtain rfl := Option.some.inj H
                    go_wp2
                    go_ret
                    exact ⟨by first | rfl | (simp [errW_none, errW_some] <;> rfl) | (simp [*, errW_none, errW_some] <;> rfl), by repeat (first | (with_reducible first | exact HB.out | apply below_alloc | apply pw_below_drewN | apply below_drew1 | refine below_set ?_ GE349.out | refine below_set ?_ GE359.out | refine below_set ?_ GE363.out) | exact HB.out)⟩
                  · replace c70 := Bool.eq_false_iff.mpr c70
                    subst c70
                    have H1 : ((claim_Rough.f l0_0 a0_1 a0_2 a0_3 a0_4 l0_5 a0_6 a1).bind fun bt370 => ((macadamref06_Rough.f kj48 l0_0 a0_1 a0_2 a0_3 a0_4 l0_5 a0_6 a1).bind fun bt373 => (if (bt370.1 == bt373.1 && (bt370.2.1 == bt373.2.1)) = true then (if bt370.2.2 = bt373.2.2 then ((macadamlaw06_billed.f).bind fun t376 => (some t376)) else (some false)) else (some false)))) = some r := by rw [if_neg (show ¬ (false = true) by decide)] at H; exact H
                    clear H
                    have H := H1
                    clear H1
                    replace H := Option.bind_eq_some_iff.mp H
                    obtain ⟨⟨t370, t371, t372⟩, A710, H⟩ := H
                    replace H : ((macadamref06_Rough.f kj48 l0_0 a0_1 a0_2 a0_3 a0_4 l0_5 a0_6 a1).bind fun bt373 => (if (t370 == bt373.1 && (t371 == bt373.2.1)) = true then (if t372 = bt373.2.2 then ((macadamlaw06_billed.f).bind fun t376 => (some t376)) else (some false)) else (some false))) = some r := H
                    have A71 := Aside0.mk A710
                    clear A710
                    replace H := Option.bind_eq_some_iff.mp H
                    obtain ⟨⟨t373, t374, t375⟩, A720, H⟩ := H
                    replace H : (if (t370 == t373 && (t371 == t374)) = true then (if t372 = t375 then ((macadamlaw06_billed.f).bind fun t376 => (some t376)) else (some false)) else (some false)) = some r := H
                    have A72 := Aside0.mk A720
                    clear A720
                    by_cases c73 : (t370 == t373 && (t371 == t374)) = true
                    · rw [if_pos c73] at H
                      have c73b0 : (t370 == t373 && (t371 == t374)) = true := c73
                      (try (have c73b1 : decide (t370 = t373 && (t371 == t374)) = true := by simpa using c73))
                      (try (have c73b2 : (t370 == t373 && (t371 == t374)) = true := by simpa using c73))
                      clear c73
                      by_cases c74 : t372 = t375
                      · rw [if_pos c74] at H
                        have c74b0 : (t372 == t375) = true := beq_iff_eq.mpr c74
                        have c74b1 : (t372 != t375) = false := bne_eq_false_iff_eq.mpr c74
                        clear c74
                        replace H := Option.bind_eq_some_iff.mp H
                        obtain ⟨t376, A750, H⟩ := H
                        replace H : (some t376) = some r := H
                        have A75 := Aside0.mk A750
                        clear A750
                        obtain rfl := Option.some.inj H
                        have hnb76 := NB349_359.out
                        have hnc76 := NB359_349.out
                        have hnb77 := NB349_363.out
                        have hnc77 := NB363_349.out
                        have hcz78_0 : wc.cell? ⟨gb349, 0, none⟩ = some (.slice A0_0 l0_0.length c0_0) := (blk_cell BK349.out 0).trans rfl
                        have hcz78_1 : wc.cell? ⟨gb349, 1, none⟩ = some (.int .i64 a0_1) := (blk_cell BK349.out 1).trans rfl
                        have hcz78_2 : wc.cell? ⟨gb349, 2, none⟩ = some (.int .i64 a0_2) := (blk_cell BK349.out 2).trans rfl
                        have hcz78_3 : wc.cell? ⟨gb349, 3, none⟩ = some (.int .i64 a0_3) := (blk_cell BK349.out 3).trans rfl
                        have hcz78_4 : wc.cell? ⟨gb349, 4, none⟩ = some (.int .i64 a0_4) := (blk_cell BK349.out 4).trans rfl
                        have hcz78_5 : wc.cell? ⟨gb349, 5, none⟩ = some (.slice A0_5 l0_5.length c0_5) := (blk_cell BK349.out 5).trans rfl
                        have hcz78_6 : wc.cell? ⟨gb349, 6, none⟩ = some (.int .i64 a0_6) := (blk_cell BK349.out 6).trans rfl
                        have hfz78_0 := blk_frozen BK349.out 0
                        have hfz78_1 := blk_frozen BK349.out 1
                        have hfz78_2 := blk_frozen BK349.out 2
                        have hfz78_3 := blk_frozen BK349.out 3
                        have hfz78_4 := blk_frozen BK349.out 4
                        have hfz78_5 := blk_frozen BK349.out 5
                        have hfz78_6 := blk_frozen BK349.out 6
                        go_wp2_with (first | ((with_reducible refine gate_callee (f := 23) rfl ?_); refine goesL_ (some 79) rfl rfl Tryd.func23 (by kernel_rfl) rfl #[.agg #[.slice A0_0 l0_0.length c0_0, .int .i64 a0_1, .int .i64 a0_2, .int .i64 a0_3, .int .i64 a0_4, .slice A0_5 l0_5.length c0_5, .int .i64 a0_6], .int .i64 a1] rfl (by (try simp only [List.map_toArray, List.map_cons, List.map_nil]); first | done | rfl | (simp only [List.length_drop, List.length_take]; rfl)) ?_; (with_reducible refine (claim_Rough.calls _ _ l0_0 a0_1 a0_2 a0_3 a0_4 _ _ l0_5 a0_6 a1 t370 t371 t372 _ ?side1 ?side2 ?side3 ?side4 ?side5 A71.out).mono ?_); (case side1 => first | exact HG.out | exact Glob.step HG.out HB.out | exact Glob.step HG.out (by repeat (first | (with_reducible first | exact HB.out | apply below_alloc | apply pw_below_drewN | apply below_drew1 | refine below_set ?_ GE349.out | refine below_set ?_ GE359.out | refine below_set ?_ GE363.out) | exact HB.out))); (case side2 => repeat (first | exact (Kd.C_below HR0_0.out HB.out) | (with_reducible refine Kd.C_alloc ?_ _) | (with_reducible refine Kd.C_drewN ?_ _) | (with_reducible refine Kd.C_drew ?_))); (case side3 => exact HC0_0.out); (case side4 => repeat (first | exact (Kd.C_below HR0_5.out HB.out) | (with_reducible refine Kd.C_alloc ?_ _) | (with_reducible refine Kd.C_drewN ?_ _) | (with_reducible refine Kd.C_drew ?_))); (case side5 => exact HC0_5.out); rintro e w79 ⟨rfl, hb⟩; refine ⟨_, rfl, ?_⟩; have n0_ := Aside0.mk (blk_below (g := gb349) (o := .cells #[.slice A0_0 l0_0.length c0_0, .int .i64 a0_1, .int .i64 a0_2, .int .i64 a0_3, .int .i64 a0_4, .slice A0_5 l0_5.length c0_5, .int .i64 a0_6] 26 (0, 0)) (by (with_reducible repeat (first | refine blk_drewN ?_ _ | refine blk_drew ?_ | refine blk_alloc ?_ _)); exact BK349.out) hb); have n1_ := Aside0.mk (blk_below (g := gb359) (o := .cells #[.int .i64 t364, .int .i64 t365] 32 (0, 0)) (by (with_reducible repeat (first | refine blk_drewN ?_ _ | refine blk_drew ?_ | refine blk_alloc ?_ _)); exact BK359.out) hb); have n2_ := Aside0.mk (blk_below (g := gb363) (o := .cells #[.int .i64 t367, .int .i64 t368] 32 (0, 0)) (by (with_reducible repeat (first | refine blk_drewN ?_ _ | refine blk_drew ?_ | refine blk_alloc ?_ _)); exact BK363.out) hb); have n3_ := Aside0.mk (below_step (by repeat (first | (with_reducible first | exact HB.out | apply below_alloc | apply pw_below_drewN | apply below_drew1 | refine below_set ?_ GE349.out | refine below_set ?_ GE359.out | refine below_set ?_ GE363.out) | exact HB.out)) hb); clear BK349; clear BK359; clear BK363; clear HB; have BK349 := n0_; have BK359 := n1_; have BK363 := n2_; have HB := n3_; clear n0_ n1_ n2_ n3_; (try clear hb); (try clear hb2); (try clear hk); (try clear hi); have hnb80 := NB359_363.out; have hnc80 := NB363_359.out; have hcz81_0 : w79.cell? ⟨gb359, 0, none⟩ = some (.int .i64 t364) := (blk_cell BK359.out 0).trans rfl; have hcz81_1 : w79.cell? ⟨gb359, 1, none⟩ = some (.int .i64 t365) := (blk_cell BK359.out 1).trans rfl; have hfz81_0 := blk_frozen BK359.out 0; have hfz81_1 := blk_frozen BK359.out 1; have hcz82_0 : w79.cell? ⟨gb349, 0, none⟩ = some (.slice A0_0 l0_0.length c0_0) := (blk_cell BK349.out 0).trans rfl; have hcz82_1 : w79.cell? ⟨gb349, 1, none⟩ = some (.int .i64 a0_1) := (blk_cell BK349.out 1).trans rfl; have hcz82_2 : w79.cell? ⟨gb349, 2, none⟩ = some (.int .i64 a0_2) := (blk_cell BK349.out 2).trans rfl; have hcz82_3 : w79.cell? ⟨gb349, 3, none⟩ = some (.int .i64 a0_3) := (blk_cell BK349.out 3).trans rfl; have hcz82_4 : w79.cell? ⟨gb349, 4, none⟩ = some (.int .i64 a0_4) := (blk_cell BK349.out 4).trans rfl; have hcz82_5 : w79.cell? ⟨gb349, 5, none⟩ = some (.slice A0_5 l0_5.length c0_5) := (blk_cell BK349.out 5).trans rfl; have hcz82_6 : w79.cell? ⟨gb349, 6, none⟩ = some (.int .i64 a0_6) := (blk_cell BK349.out 6).trans rfl; have hfz82_0 := blk_frozen BK349.out 0; have hfz82_1 := blk_frozen BK349.out 1; have hfz82_2 := blk_frozen BK349.out 2; have hfz82_3 := blk_frozen BK349.out 3; have hfz82_4 := blk_frozen BK349.out 4; have hfz82_5 := blk_frozen BK349.out 5; have hfz82_6 := blk_frozen BK349.out 6) | ((with_reducible refine gate_callee (f := 24) rfl ?_); refine goesL_ (some 85) rfl rfl Tryd.func24 (by kernel_rfl) rfl #[.agg #[.slice A0_0 l0_0.length c0_0, .int .i64 a0_1, .int .i64 a0_2, .int .i64 a0_3, .int .i64 a0_4, .slice A0_5 l0_5.length c0_5, .int .i64 a0_6], .int .i64 a1] rfl (by (try simp only [List.map_toArray, List.map_cons, List.map_nil]); first | done | rfl | (simp only [List.length_drop, List.length_take]; rfl)) ?_; (with_reducible refine (macadamref06_Rough.calls kj48 _ _ l0_0 a0_1 a0_2 a0_3 a0_4 _ _ l0_5 a0_6 a1 t373 t374 t375 _ ?side1 ?side2 ?side3 ?side4 A72.out).mono ?_); (case side1 => exact Kd.C_below HR0_0.out (by repeat (first | (with_reducible first | exact HB.out | apply below_alloc | apply pw_below_drewN | apply below_drew1 | refine below_set ?_ GE349.out | refine below_set ?_ GE359.out | refine below_set ?_ GE363.out) | exact HB.out))); (case side2 => exact HC0_0.out); (case side3 => exact Kd.C_below HR0_5.out (by repeat (first | (with_reducible first | exact HB.out | apply below_alloc | apply pw_below_drewN | apply below_drew1 | refine below_set ?_ GE349.out | refine below_set ?_ GE359.out | refine below_set ?_ GE363.out) | exact HB.out))); (case side4 => exact HC0_5.out); rintro e w83 ⟨rfl, hb⟩; refine ⟨_, rfl, ?_⟩; have n0_ := Aside0.mk (blk_below (g := gb349) (o := .cells #[.slice A0_0 l0_0.length c0_0, .int .i64 a0_1, .int .i64 a0_2, .int .i64 a0_3, .int .i64 a0_4, .slice A0_5 l0_5.length c0_5, .int .i64 a0_6] 26 (0, 0)) (by (with_reducible repeat (first | refine blk_drewN ?_ _ | refine blk_drew ?_ | refine blk_alloc ?_ _)); refine blk_far ?_ NB349_359.out _; (with_reducible repeat (first | refine blk_drewN ?_ _ | refine blk_drew ?_ | refine blk_alloc ?_ _)); refine blk_far ?_ NB349_359.out _; (with_reducible repeat (first | refine blk_drewN ?_ _ | refine blk_drew ?_ | refine blk_alloc ?_ _)); exact BK349.out) hb); have n1_ := Aside0.mk (blk_below (g := gb359) (o := .cells #[.int .i64 t370, .int .i64 t371] 32 (0, 0)) (by (with_reducible repeat (first | refine blk_drewN ?_ _ | refine blk_drew ?_ | refine blk_alloc ?_ _)); refine blk_put (cs := #[.int .i64 t370, .int .i64 t365]) ?_ 1 _ rfl; (with_reducible repeat (first | refine blk_drewN ?_ _ | refine blk_drew ?_ | refine blk_alloc ?_ _)); refine blk_put (cs := #[.int .i64 t364, .int .i64 t365]) ?_ 0 _ rfl; (with_reducible repeat (first | refine blk_drewN ?_ _ | refine blk_drew ?_ | refine blk_alloc ?_ _)); exact BK359.out) hb); have n2_ := Aside0.mk (blk_below (g := gb363) (o := .cells #[.int .i64 t367, .int .i64 t368] 32 (0, 0)) (by (with_reducible repeat (first | refine blk_drewN ?_ _ | refine blk_drew ?_ | refine blk_alloc ?_ _)); refine blk_far ?_ NB363_359.out _; (with_reducible repeat (first | refine blk_drewN ?_ _ | refine blk_drew ?_ | refine blk_alloc ?_ _)); refine blk_far ?_ NB363_359.out _; (with_reducible repeat (first | refine blk_drewN ?_ _ | refine blk_drew ?_ | refine blk_alloc ?_ _)); exact BK363.out) hb); have n3_ := Aside0.mk (below_step (by repeat (first | (with_reducible first | exact HB.out | apply below_alloc | apply pw_below_drewN | apply below_drew1 | refine below_set ?_ GE349.out | refine below_set ?_ GE359.out | refine below_set ?_ GE363.out) | exact HB.out)) hb); clear BK349; clear BK359; clear BK363; clear HB; have BK349 := n0_; have BK359 := n1_; have BK363 := n2_; have HB := n3_; clear n0_ n1_ n2_ n3_; (try clear hb); (try clear hb2); (try clear hk); (try clear hi); have hcz84_0 : w83.cell? ⟨gb363, 0, none⟩ = some (.int .i64 t367) := (blk_cell BK363.out 0).trans rfl; have hcz84_1 : w83.cell? ⟨gb363, 1, none⟩ = some (.int .i64 t368) := (blk_cell BK363.out 1).trans rfl; have hfz84_0 := blk_frozen BK363.out 0; have hfz84_1 := blk_frozen BK363.out 1; have hcz85_0 : w83.cell? ⟨gb359, 0, none⟩ = some (.int .i64 t370) := (blk_cell BK359.out 0).trans rfl; have hcz85_1 : w83.cell? ⟨gb359, 1, none⟩ = some (.int .i64 t371) := (blk_cell BK359.out 1).trans rfl; have hfz85_0 := blk_frozen BK359.out 0; have hfz85_1 := blk_frozen BK359.out 1) | (go_at_call 25; (with_reducible refine (macadamlaw06_billed.calls  t376 _ ?side1 A75.out).mono ?_); (case side1 => first | exact HG.out | exact Glob.step HG.out HB.out | exact Glob.step HG.out (by repeat (first | (with_reducible first | exact HB.out | apply below_alloc | apply pw_below_drewN | apply below_drew1 | refine below_set ?_ GE349.out | refine below_set ?_ GE359.out | refine below_set ?_ GE363.out) | exact HB.out))); rintro e w86 ⟨rfl, hb⟩; have n0_ := Aside0.mk (blk_below (g := gb349) (o := .cells #[.slice A0_0 l0_0.length c0_0, .int .i64 a0_1, .int .i64 a0_2, .int .i64 a0_3, .int .i64 a0_4, .slice A0_5 l0_5.length c0_5, .int .i64 a0_6] 26 (0, 0)) (by (with_reducible repeat (first | refine blk_drewN ?_ _ | refine blk_drew ?_ | refine blk_alloc ?_ _)); refine blk_far ?_ NB349_363.out _; (with_reducible repeat (first | refine blk_drewN ?_ _ | refine blk_drew ?_ | refine blk_alloc ?_ _)); refine blk_far ?_ NB349_363.out _; (with_reducible repeat (first | refine blk_drewN ?_ _ | refine blk_drew ?_ | refine blk_alloc ?_ _)); exact BK349.out) hb); have n1_ := Aside0.mk (blk_below (g := gb359) (o := .cells #[.int .i64 t370, .int .i64 t371] 32 (0, 0)) (by (with_reducible repeat (first | refine blk_drewN ?_ _ | refine blk_drew ?_ | refine blk_alloc ?_ _)); refine blk_far ?_ NB359_363.out _; (with_reducible repeat (first | refine blk_drewN ?_ _ | refine blk_drew ?_ | refine blk_alloc ?_ _)); refine blk_far ?_ NB359_363.out _; (with_reducible repeat (first | refine blk_drewN ?_ _ | refine blk_drew ?_ | refine blk_alloc ?_ _)); exact BK359.out) hb); have n2_ := Aside0.mk (blk_below (g := gb363) (o := .cells #[.int .i64 t373, .int .i64 t374] 32 (0, 0)) (by (with_reducible repeat (first | refine blk_drewN ?_ _ | refine blk_drew ?_ | refine blk_alloc ?_ _)); refine blk_put (cs := #[.int .i64 t373, .int .i64 t368]) ?_ 1 _ rfl; (with_reducible repeat (first | refine blk_drewN ?_ _ | refine blk_drew ?_ | refine blk_alloc ?_ _)); refine blk_put (cs := #[.int .i64 t367, .int .i64 t368]) ?_ 0 _ rfl; (with_reducible repeat (first | refine blk_drewN ?_ _ | refine blk_drew ?_ | refine blk_alloc ?_ _)); exact BK363.out) hb); have n3_ := Aside0.mk (below_step (by repeat (first | (with_reducible first | exact HB.out | apply below_alloc | apply pw_below_drewN | apply below_drew1 | refine below_set ?_ GE349.out | refine below_set ?_ GE359.out | refine below_set ?_ GE363.out) | exact HB.out)) hb); clear BK349; clear BK359; clear BK363; clear HB; have BK349 := n0_; have BK359 := n1_; have BK363 := n2_; have HB := n3_; clear n0_ n1_ n2_ n3_; (try clear hb); (try clear hb2); (try clear hk); (try clear hi)))
                        go_ret
                        exact ⟨by first | rfl | (simp [errW_none, errW_some] <;> rfl) | (simp [*, errW_none, errW_some] <;> rfl), by repeat (first | (with_reducible first | exact HB.out | apply below_alloc | apply pw_below_drewN | apply below_drew1 | refine below_set ?_ GE349.out | refine below_set ?_ GE359.out | refine below_set ?_ GE363.out) | exact HB.out)⟩
                      · rw [if_neg c74] at H
                        have c74b0 : (t372 == t375) = false := beq_eq_false_iff_ne.mpr c74
                        have c74b1 : (t372 != t375) = true := bne_iff_ne.mpr c74
                        obtain rfl := Option.some.inj H
                        have hnb87 := NB349_359.out
                        have hnc87 := NB359_349.out
                        have hnb88 := NB349_363.out
                        have hnc88 := NB363_349.out
                        have hcz89_0 : wc.cell? ⟨gb349, 0, none⟩ = some (.slice A0_0 l0_0.length c0_0) := (blk_cell BK349.out 0).trans rfl
                        have hcz89_1 : wc.cell? ⟨gb349, 1, none⟩ = some (.int .i64 a0_1) := (blk_cell BK349.out 1).trans rfl
                        have hcz89_2 : wc.cell? ⟨gb349, 2, none⟩ = some (.int .i64 a0_2) := (blk_cell BK349.out 2).trans rfl
                        have hcz89_3 : wc.cell? ⟨gb349, 3, none⟩ = some (.int .i64 a0_3) := (blk_cell BK349.out 3).trans rfl
                        have hcz89_4 : wc.cell? ⟨gb349, 4, none⟩ = some (.int .i64 a0_4) := (blk_cell BK349.out 4).trans rfl
                        have hcz89_5 : wc.cell? ⟨gb349, 5, none⟩ = some (.slice A0_5 l0_5.length c0_5) := (blk_cell BK349.out 5).trans rfl
                        have hcz89_6 : wc.cell? ⟨gb349, 6, none⟩ = some (.int .i64 a0_6) := (blk_cell BK349.out 6).trans rfl
                        have hfz89_0 := blk_frozen BK349.out 0
                        have hfz89_1 := blk_frozen BK349.out 1
                        have hfz89_2 := blk_frozen BK349.out 2
                        have hfz89_3 := blk_frozen BK349.out 3
                        have hfz89_4 := blk_frozen BK349.out 4
                        have hfz89_5 := blk_frozen BK349.out 5
                        have hfz89_6 := blk_frozen BK349.out 6
                        go_wp2_with (first | ((with_reducible refine gate_callee (f := 23) rfl ?_); refine goesL_ (some 79) rfl rfl Tryd.func23 (by kernel_rfl) rfl #[.agg #[.slice A0_0 l0_0.length c0_0, .int .i64 a0_1, .int .i64 a0_2, .int .i64 a0_3, .int .i64 a0_4, .slice A0_5 l0_5.length c0_5, .int .i64 a0_6], .int .i64 a1] rfl (by (try simp only [List.map_toArray, List.map_cons, List.map_nil]); first | done | rfl | (simp only [List.length_drop, List.length_take]; rfl)) ?_; (with_reducible refine (claim_Rough.calls _ _ l0_0 a0_1 a0_2 a0_3 a0_4 _ _ l0_5 a0_6 a1 t370 t371 t372 _ ?side1 ?side2 ?side3 ?side4 ?side5 A71.out).mono ?_); (case side1 => first | exact HG.out | exact Glob.step HG.out HB.out | exact Glob.step HG.out (by repeat (first | (with_reducible first | exact HB.out | apply below_alloc | apply pw_below_drewN | apply below_drew1 | refine below_set ?_ GE349.out | refine below_set ?_ GE359.out | refine below_set ?_ GE363.out) | exact HB.out))); (case side2 => repeat (first | exact (Kd.C_below HR0_0.out HB.out) | (with_reducible refine Kd.C_alloc ?_ _) | (with_reducible refine Kd.C_drewN ?_ _) | (with_reducible refine Kd.C_drew ?_))); (case side3 => exact HC0_0.out); (case side4 => repeat (first | exact (Kd.C_below HR0_5.out HB.out) | (with_reducible refine Kd.C_alloc ?_ _) | (with_reducible refine Kd.C_drewN ?_ _) | (with_reducible refine Kd.C_drew ?_))); (case side5 => exact HC0_5.out); rintro e w90 ⟨rfl, hb⟩; refine ⟨_, rfl, ?_⟩; have n0_ := Aside0.mk (blk_below (g := gb349) (o := .cells #[.slice A0_0 l0_0.length c0_0, .int .i64 a0_1, .int .i64 a0_2, .int .i64 a0_3, .int .i64 a0_4, .slice A0_5 l0_5.length c0_5, .int .i64 a0_6] 26 (0, 0)) (by (with_reducible repeat (first | refine blk_drewN ?_ _ | refine blk_drew ?_ | refine blk_alloc ?_ _)); exact BK349.out) hb); have n1_ := Aside0.mk (blk_below (g := gb359) (o := .cells #[.int .i64 t364, .int .i64 t365] 32 (0, 0)) (by (with_reducible repeat (first | refine blk_drewN ?_ _ | refine blk_drew ?_ | refine blk_alloc ?_ _)); exact BK359.out) hb); have n2_ := Aside0.mk (blk_below (g := gb363) (o := .cells #[.int .i64 t367, .int .i64 t368] 32 (0, 0)) (by (with_reducible repeat (first | refine blk_drewN ?_ _ | refine blk_drew ?_ | refine blk_alloc ?_ _)); exact BK363.out) hb); have n3_ := Aside0.mk (below_step (by repeat (first | (with_reducible first | exact HB.out | apply below_alloc | apply pw_below_drewN | apply below_drew1 | refine below_set ?_ GE349.out | refine below_set ?_ GE359.out | refine below_set ?_ GE363.out) | exact HB.out)) hb); clear BK349; clear BK359; clear BK363; clear HB; have BK349 := n0_; have BK359 := n1_; have BK363 := n2_; have HB := n3_; clear n0_ n1_ n2_ n3_; (try clear hb); (try clear hb2); (try clear hk); (try clear hi); have hnb91 := NB359_363.out; have hnc91 := NB363_359.out; have hcz92_0 : w90.cell? ⟨gb359, 0, none⟩ = some (.int .i64 t364) := (blk_cell BK359.out 0).trans rfl; have hcz92_1 : w90.cell? ⟨gb359, 1, none⟩ = some (.int .i64 t365) := (blk_cell BK359.out 1).trans rfl; have hfz92_0 := blk_frozen BK359.out 0; have hfz92_1 := blk_frozen BK359.out 1; have hcz93_0 : w90.cell? ⟨gb349, 0, none⟩ = some (.slice A0_0 l0_0.length c0_0) := (blk_cell BK349.out 0).trans rfl; have hcz93_1 : w90.cell? ⟨gb349, 1, none⟩ = some (.int .i64 a0_1) := (blk_cell BK349.out 1).trans rfl; have hcz93_2 : w90.cell? ⟨gb349, 2, none⟩ = some (.int .i64 a0_2) := (blk_cell BK349.out 2).trans rfl; have hcz93_3 : w90.cell? ⟨gb349, 3, none⟩ = some (.int .i64 a0_3) := (blk_cell BK349.out 3).trans rfl; have hcz93_4 : w90.cell? ⟨gb349, 4, none⟩ = some (.int .i64 a0_4) := (blk_cell BK349.out 4).trans rfl; have hcz93_5 : w90.cell? ⟨gb349, 5, none⟩ = some (.slice A0_5 l0_5.length c0_5) := (blk_cell BK349.out 5).trans rfl; have hcz93_6 : w90.cell? ⟨gb349, 6, none⟩ = some (.int .i64 a0_6) := (blk_cell BK349.out 6).trans rfl; have hfz93_0 := blk_frozen BK349.out 0; have hfz93_1 := blk_frozen BK349.out 1; have hfz93_2 := blk_frozen BK349.out 2; have hfz93_3 := blk_frozen BK349.out 3; have hfz93_4 := blk_frozen BK349.out 4; have hfz93_5 := blk_frozen BK349.out 5; have hfz93_6 := blk_frozen BK349.out 6) | ((with_reducible refine gate_callee (f := 24) rfl ?_); refine goesL_ (some 85) rfl rfl Tryd.func24 (by kernel_rfl) rfl #[.agg #[.slice A0_0 l0_0.length c0_0, .int .i64 a0_1, .int .i64 a0_2, .int .i64 a0_3, .int .i64 a0_4, .slice A0_5 l0_5.length c0_5, .int .i64 a0_6], .int .i64 a1] rfl (by (try simp only [List.map_toArray, List.map_cons, List.map_nil]); first | done | rfl | (simp only [List.length_drop, List.length_take]; rfl)) ?_; (with_reducible refine (macadamref06_Rough.calls kj48 _ _ l0_0 a0_1 a0_2 a0_3 a0_4 _ _ l0_5 a0_6 a1 t373 t374 t375 _ ?side1 ?side2 ?side3 ?side4 A72.out).mono ?_); (case side1 => exact Kd.C_below HR0_0.out (by repeat (first | (with_reducible first | exact HB.out | apply below_alloc | apply pw_below_drewN | apply below_drew1 | refine below_set ?_ GE349.out | refine below_set ?_ GE359.out | refine below_set ?_ GE363.out) | exact HB.out))); (case side2 => exact HC0_0.out); (case side3 => exact Kd.C_below HR0_5.out (by repeat (first | (with_reducible first | exact HB.out | apply below_alloc | apply pw_below_drewN | apply below_drew1 | refine below_set ?_ GE349.out | refine below_set ?_ GE359.out | refine below_set ?_ GE363.out) | exact HB.out))); (case side4 => exact HC0_5.out); rintro e w94 ⟨rfl, hb⟩; refine ⟨_, rfl, ?_⟩; have n0_ := Aside0.mk (blk_below (g := gb349) (o := .cells #[.slice A0_0 l0_0.length c0_0, .int .i64 a0_1, .int .i64 a0_2, .int .i64 a0_3, .int .i64 a0_4, .slice A0_5 l0_5.length c0_5, .int .i64 a0_6] 26 (0, 0)) (by (with_reducible repeat (first | refine blk_drewN ?_ _ | refine blk_drew ?_ | refine blk_alloc ?_ _)); refine blk_far ?_ NB349_359.out _; (with_reducible repeat (first | refine blk_drewN ?_ _ | refine blk_drew ?_ | refine blk_alloc ?_ _)); refine blk_far ?_ NB349_359.out _; (with_reducible repeat (first | refine blk_drewN ?_ _ | refine blk_drew ?_ | refine blk_alloc ?_ _)); exact BK349.out) hb); have n1_ := Aside0.mk (blk_below (g := gb359) (o := .cells #[.int .i64 t370, .int .i64 t371] 32 (0, 0)) (by (with_reducible repeat (first | refine blk_drewN ?_ _ | refine blk_drew ?_ | refine blk_alloc ?_ _)); refine blk_put (cs := #[.int .i64 t370, .int .i64 t365]) ?_ 1 _ rfl; (with_reducible repeat (first | refine blk_drewN ?_ _ | refine blk_drew ?_ | refine blk_alloc ?_ _)); refine blk_put (cs := #[.int .i64 t364, .int .i64 t365]) ?_ 0 _ rfl; (with_reducible repeat (first | refine blk_drewN ?_ _ | refine blk_drew ?_ | refine blk_alloc ?_ _)); exact BK359.out) hb); have n2_ := Aside0.mk (blk_below (g := gb363) (o := .cells #[.int .i64 t367, .int .i64 t368] 32 (0, 0)) (by (with_reducible repeat (first | refine blk_drewN ?_ _ | refine blk_drew ?_ | refine blk_alloc ?_ _)); refine blk_far ?_ NB363_359.out _; (with_reducible repeat (first | refine blk_drewN ?_ _ | refine blk_drew ?_ | refine blk_alloc ?_ _)); refine blk_far ?_ NB363_359.out _; (with_reducible repeat (first | refine blk_drewN ?_ _ | refine blk_drew ?_ | refine blk_alloc ?_ _)); exact BK363.out) hb); have n3_ := Aside0.mk (below_step (by repeat (first | (with_reducible first | exact HB.out | apply below_alloc | apply pw_below_drewN | apply below_drew1 | refine below_set ?_ GE349.out | refine below_set ?_ GE359.out | refine below_set ?_ GE363.out) | exact HB.out)) hb); clear BK349; clear BK359; clear BK363; clear HB; have BK349 := n0_; have BK359 := n1_; have BK363 := n2_; have HB := n3_; clear n0_ n1_ n2_ n3_; (try clear hb); (try clear hb2); (try clear hk); (try clear hi); have hcz95_0 : w94.cell? ⟨gb363, 0, none⟩ = some (.int .i64 t367) := (blk_cell BK363.out 0).trans rfl; have hcz95_1 : w94.cell? ⟨gb363, 1, none⟩ = some (.int .i64 t368) := (blk_cell BK363.out 1).trans rfl; have hfz95_0 := blk_frozen BK363.out 0; have hfz95_1 := blk_frozen BK363.out 1; have hcz96_0 : w94.cell? ⟨gb359, 0, none⟩ = some (.int .i64 t370) := (blk_cell BK359.out 0).trans rfl; have hcz96_1 : w94.cell? ⟨gb359, 1, none⟩ = some (.int .i64 t371) := (blk_cell BK359.out 1).trans rfl; have hfz96_0 := blk_frozen BK359.out 0; have hfz96_1 := blk_frozen BK359.out 1))
                        go_ret
                        exact ⟨by first | rfl | (simp [errW_none, errW_some] <;> rfl) | (simp [*, errW_none, errW_some] <;> rfl), by repeat (first | (with_reducible first | exact HB.out | apply below_alloc | apply pw_below_drewN | apply below_drew1 | refine below_set ?_ GE349.out | refine below_set ?_ GE359.out | refine below_set ?_ GE363.out) | exact HB.out)⟩
                    · rw [if_neg c73] at H
                      have c73b0 : (t370 == t373 && (t371 == t374)) = false := by simpa using c73
                      (try (have c73b1 : decide (t370 = t373 && (t371 == t374)) = false := by simpa using c73))
                      (try (have c73b2 : (t370 == t373 && (t371 == t374)) = false := by simpa using c73))
                      (try (have c73b3 : ¬ (t370 = t373 && (t371 == t374)) := by simpa using c73))
                      clear c73
                      obtain rfl := Option.some.inj H
                      have hnb97 := NB349_359.out
                      have hnc97 := NB359_349.out
                      have hnb98 := NB349_363.out
                      have hnc98 := NB363_349.out
                      have hcz99_0 : wc.cell? ⟨gb349, 0, none⟩ = some (.slice A0_0 l0_0.length c0_0) := (blk_cell BK349.out 0).trans rfl
                      have hcz99_1 : wc.cell? ⟨gb349, 1, none⟩ = some (.int .i64 a0_1) := (blk_cell BK349.out 1).trans rfl
                      have hcz99_2 : wc.cell? ⟨gb349, 2, none⟩ = some (.int .i64 a0_2) := (blk_cell BK349.out 2).trans rfl
                      have hcz99_3 : wc.cell? ⟨gb349, 3, none⟩ = some (.int .i64 a0_3) := (blk_cell BK349.out 3).trans rfl
                      have hcz99_4 : wc.cell? ⟨gb349, 4, none⟩ = some (.int .i64 a0_4) := (blk_cell BK349.out 4).trans rfl
                      have hcz99_5 : wc.cell? ⟨gb349, 5, none⟩ = some (.slice A0_5 l0_5.length c0_5) := (blk_cell BK349.out 5).trans rfl
                      have hcz99_6 : wc.cell? ⟨gb349, 6, none⟩ = some (.int .i64 a0_6) := (blk_cell BK349.out 6).trans rfl
                      have hfz99_0 := blk_frozen BK349.out 0
                      have hfz99_1 := blk_frozen BK349.out 1
                      have hfz99_2 := blk_frozen BK349.out 2
                      have hfz99_3 := blk_frozen BK349.out 3
                      have hfz99_4 := blk_frozen BK349.out 4
                      have hfz99_5 := blk_frozen BK349.out 5
                      have hfz99_6 := blk_frozen BK349.out 6
                      go_wp2_with (first | ((with_reducible refine gate_callee (f := 23) rfl ?_); refine goesL_ (some 79) rfl rfl Tryd.func23 (by kernel_rfl) rfl #[.agg #[.slice A0_0 l0_0.length c0_0, .int .i64 a0_1, .int .i64 a0_2, .int .i64 a0_3, .int .i64 a0_4, .slice A0_5 l0_5.length c0_5, .int .i64 a0_6], .int .i64 a1] rfl (by (try simp only [List.map_toArray, List.map_cons, List.map_nil]); first | done | rfl | (simp only [List.length_drop, List.length_take]; rfl)) ?_; (with_reducible refine (claim_Rough.calls _ _ l0_0 a0_1 a0_2 a0_3 a0_4 _ _ l0_5 a0_6 a1 t370 t371 t372 _ ?side1 ?side2 ?side3 ?side4 ?side5 A71.out).mono ?_); (case side1 => first | exact HG.out | exact Glob.step HG.out HB.out | exact Glob.step HG.out (by repeat (first | (with_reducible first | exact HB.out | apply below_alloc | apply pw_below_drewN | apply below_drew1 | refine below_set ?_ GE349.out | refine below_set ?_ GE359.out | refine below_set ?_ GE363.out) | exact HB.out))); (case side2 => repeat (first | exact (Kd.C_below HR0_0.out HB.out) | (with_reducible refine Kd.C_alloc ?_ _) | (with_reducible refine Kd.C_drewN ?_ _) | (with_reducible refine Kd.C_drew ?_))); (case side3 => exact HC0_0.out); (case side4 => repeat (first | exact (Kd.C_below HR0_5.out HB.out) | (with_reducible refine Kd.C_alloc ?_ _) | (with_reducible refine Kd.C_drewN ?_ _) | (with_reducible refine Kd.C_drew ?_))); (case side5 => exact HC0_5.out); rintro e w100 ⟨rfl, hb⟩; refine ⟨_, rfl, ?_⟩; have n0_ := Aside0.mk (blk_below (g := gb349) (o := .cells #[.slice A0_0 l0_0.length c0_0, .int .i64 a0_1, .int .i64 a0_2, .int .i64 a0_3, .int .i64 a0_4, .slice A0_5 l0_5.length c0_5, .int .i64 a0_6] 26 (0, 0)) (by (with_reducible repeat (first | refine blk_drewN ?_ _ | refine blk_drew ?_ | refine blk_alloc ?_ _)); exact BK349.out) hb); have n1_ := Aside0.mk (blk_below (g := gb359) (o := .cells #[.int .i64 t364, .int .i64 t365] 32 (0, 0)) (by (with_reducible repeat (first | refine blk_drewN ?_ _ | refine blk_drew ?_ | refine blk_alloc ?_ _)); exact BK359.out) hb); have n2_ := Aside0.mk (blk_below (g := gb363) (o := .cells #[.int .i64 t367, .int .i64 t368] 32 (0, 0)) (by (with_reducible repeat (first | refine blk_drewN ?_ _ | refine blk_drew ?_ | refine blk_alloc ?_ _)); exact BK363.out) hb); have n3_ := Aside0.mk (below_step (by repeat (first | (with_reducible first | exact HB.out | apply below_alloc | apply pw_below_drewN | apply below_drew1 | refine below_set ?_ GE349.out | refine below_set ?_ GE359.out | refine below_set ?_ GE363.out) | exact HB.out)) hb); clear BK349; clear BK359; clear BK363; clear HB; have BK349 := n0_; have BK359 := n1_; have BK363 := n2_; have HB := n3_; clear n0_ n1_ n2_ n3_; (try clear hb); (try clear hb2); (try clear hk); (try clear hi); have hnb101 := NB359_363.out; have hnc101 := NB363_359.out; have hcz102_0 : w100.cell? ⟨gb359, 0, none⟩ = some (.int .i64 t364) := (blk_cell BK359.out 0).trans rfl; have hcz102_1 : w100.cell? ⟨gb359, 1, none⟩ = some (.int .i64 t365) := (blk_cell BK359.out 1).trans rfl; have hfz102_0 := blk_frozen BK359.out 0; have hfz102_1 := blk_frozen BK359.out 1; have hcz103_0 : w100.cell? ⟨gb349, 0, none⟩ = some (.slice A0_0 l0_0.length c0_0) := (blk_cell BK349.out 0).trans rfl; have hcz103_1 : w100.cell? ⟨gb349, 1, none⟩ = some (.int .i64 a0_1) := (blk_cell BK349.out 1).trans rfl; have hcz103_2 : w100.cell? ⟨gb349, 2, none⟩ = some (.int .i64 a0_2) := (blk_cell BK349.out 2).trans rfl; have hcz103_3 : w100.cell? ⟨gb349, 3, none⟩ = some (.int .i64 a0_3) := (blk_cell BK349.out 3).trans rfl; have hcz103_4 : w100.cell? ⟨gb349, 4, none⟩ = some (.int .i64 a0_4) := (blk_cell BK349.out 4).trans rfl; have hcz103_5 : w100.cell? ⟨gb349, 5, none⟩ = some (.slice A0_5 l0_5.length c0_5) := (blk_cell BK349.out 5).trans rfl; have hcz103_6 : w100.cell? ⟨gb349, 6, none⟩ = some (.int .i64 a0_6) := (blk_cell BK349.out 6).trans rfl; have hfz103_0 := blk_frozen BK349.out 0; have hfz103_1 := blk_frozen BK349.out 1; have hfz103_2 := blk_frozen BK349.out 2; have hfz103_3 := blk_frozen BK349.out 3; have hfz103_4 := blk_frozen BK349.out 4; have hfz103_5 := blk_frozen BK349.out 5; have hfz103_6 := blk_frozen BK349.out 6) | ((with_reducible refine gate_callee (f := 24) rfl ?_); refine goesL_ (some 85) rfl rfl Tryd.func24 (by kernel_rfl) rfl #[.agg #[.slice A0_0 l0_0.length c0_0, .int .i64 a0_1, .int .i64 a0_2, .int .i64 a0_3, .int .i64 a0_4, .slice A0_5 l0_5.length c0_5, .int .i64 a0_6], .int .i64 a1] rfl (by (try simp only [List.map_toArray, List.map_cons, List.map_nil]); first | done | rfl | (simp only [List.length_drop, List.length_take]; rfl)) ?_; (with_reducible refine (macadamref06_Rough.calls kj48 _ _ l0_0 a0_1 a0_2 a0_3 a0_4 _ _ l0_5 a0_6 a1 t373 t374 t375 _ ?side1 ?side2 ?side3 ?side4 A72.out).mono ?_); (case side1 => exact Kd.C_below HR0_0.out (by repeat (first | (with_reducible first | exact HB.out | apply below_alloc | apply pw_below_drewN | apply below_drew1 | refine below_set ?_ GE349.out | refine below_set ?_ GE359.out | refine below_set ?_ GE363.out) | exact HB.out))); (case side2 => exact HC0_0.out); (case side3 => exact Kd.C_below HR0_5.out (by repeat (first | (with_reducible first | exact HB.out | apply below_alloc | apply pw_below_drewN | apply below_drew1 | refine below_set ?_ GE349.out | refine below_set ?_ GE359.out | refine below_set ?_ GE363.out) | exact HB.out))); (case side4 => exact HC0_5.out); rintro e w104 ⟨rfl, hb⟩; refine ⟨_, rfl, ?_⟩; have n0_ := Aside0.mk (blk_below (g := gb349) (o := .cells #[.slice A0_0 l0_0.length c0_0, .int .i64 a0_1, .int .i64 a0_2, .int .i64 a0_3, .int .i64 a0_4, .slice A0_5 l0_5.length c0_5, .int .i64 a0_6] 26 (0, 0)) (by (with_reducible repeat (first | refine blk_drewN ?_ _ | refine blk_drew ?_ | refine blk_alloc ?_ _)); refine blk_far ?_ NB349_359.out _; (with_reducible repeat (first | refine blk_drewN ?_ _ | refine blk_drew ?_ | refine blk_alloc ?_ _)); refine blk_far ?_ NB349_359.out _; (with_reducible repeat (first | refine blk_drewN ?_ _ | refine blk_drew ?_ | refine blk_alloc ?_ _)); exact BK349.out) hb); have n1_ := Aside0.mk (blk_below (g := gb359) (o := .cells #[.int .i64 t370, .int .i64 t371] 32 (0, 0)) (by (with_reducible repeat (first | refine blk_drewN ?_ _ | refine blk_drew ?_ | refine blk_alloc ?_ _)); refine blk_put (cs := #[.int .i64 t370, .int .i64 t365]) ?_ 1 _ rfl; (with_reducible repeat (first | refine blk_drewN ?_ _ | refine blk_drew ?_ | refine blk_alloc ?_ _)); refine blk_put (cs := #[.int .i64 t364, .int .i64 t365]) ?_ 0 _ rfl; (with_reducible repeat (first | refine blk_drewN ?_ _ | refine blk_drew ?_ | refine blk_alloc ?_ _)); exact BK359.out) hb); have n2_ := Aside0.mk (blk_below (g := gb363) (o := .cells #[.int .i64 t367, .int .i64 t368] 32 (0, 0)) (by (with_reducible repeat (first | refine blk_drewN ?_ _ | refine blk_drew ?_ | refine blk_alloc ?_ _)); refine blk_far ?_ NB363_359.out _; (with_reducible repeat (first | refine blk_drewN ?_ _ | refine blk_drew ?_ | refine blk_alloc ?_ _)); refine blk_far ?_ NB363_359.out _; (with_reducible repeat (first | refine blk_drewN ?_ _ | refine blk_drew ?_ | refine blk_alloc ?_ _)); exact BK363.out) hb); have n3_ := Aside0.mk (below_step (by repeat (first | (with_reducible first | exact HB.out | apply below_alloc | apply pw_below_drewN | apply below_drew1 | refine below_set ?_ GE349.out | refine below_set ?_ GE359.out | refine below_set ?_ GE363.out) | exact HB.out)) hb); clear BK349; clear BK359; clear BK363; clear HB; have BK349 := n0_; have BK359 := n1_; have BK363 := n2_; have HB := n3_; clear n0_ n1_ n2_ n3_; (try clear hb); (try clear hb2); (try clear hk); (try clear hi); have hcz105_0 : w104.cell? ⟨gb363, 0, none⟩ = some (.int .i64 t367) := (blk_cell BK363.out 0).trans rfl; have hcz105_1 : w104.cell? ⟨gb363, 1, none⟩ = some (.int .i64 t368) := (blk_cell BK363.out 1).trans rfl; have hfz105_0 := blk_frozen BK363.out 0; have hfz105_1 := blk_frozen BK363.out 1; have hcz106_0 : w104.cell? ⟨gb359, 0, none⟩ = some (.int .i64 t370) := (blk_cell BK359.out 0).trans rfl; have hcz106_1 : w104.cell? ⟨gb359, 1, none⟩ = some (.int .i64 t371) := (blk_cell BK359.out 1).trans rfl; have hfz106_0 := blk_frozen BK359.out 0; have hfz106_1 := blk_frozen BK359.out 1))
                      go_ret
                      exact ⟨by first | rfl | (simp [errW_none, errW_some] <;> rfl) | (simp [*, errW_none, errW_some] <;> rfl), by repeat (first | (with_reducible first | exact HB.out | apply below_alloc | apply pw_below_drewN | apply below_drew1 | refine below_set ?_ GE349.out | refine below_set ?_ GE359.out | refine below_set ?_ GE363.out) | exact HB.out)⟩
end Go.Proofs.YtbhjfojbjpbdbaaDoorPX
namespace Go.Proofs.YtbhjfojbjpbdbaaDoorPX
open Go Go.RowKit Go.Proofs.YtbhjfojbjpbdbaaDoor Go.Proofs.YtbhjfojbjpbdbaaDoorW.PrintWords Go.Proofs.YtbhjfojbjpbdbaaDoorW.PrintMore
section
variable {l : List S56} {a1 a2 a3 a4 : Int} {ks : List S42} {a6 : Int}
theorem times_ev (hl : l.length ≤ 9223372036854775807) (n : Int) : Ev (fun k => macadamlaw06_ClaimTimes.f k l a1 a2 a3 a4 ks a6 n) true := by
  unfold macadamlaw06_ClaimTimes.f claim_Right.f claim_Check.f macadamref06_Check.f
  refine Ev.congr (fun k => by rw [Option.bind_some]) ?_
  refine Ev.bind right_ref ?_
  refine Ev.congr (fun k => by rw [if_neg (by simp), if_pos rfl, Option.bind_some, Option.bind_some, bne_self_eq_false]) ?_
  refine Ev.step (fun k => by rw [macadamlaw06_ClaimTimes.j0, if_neg (by decide), claim_Comes.f, Option.bind_some]) ?_
  refine Ev.bind (comes_ref hl n) ?_
  refine Ev.congr (fun k => by rw [if_neg (by simp), bne_self_eq_false]) ?_
  refine Ev.step (fun k => by rw [macadamlaw06_ClaimTimes.j1, if_neg (by decide), claim_Late.f, Option.bind_some]) ?_
  refine Ev.bind (late_ref hl n) ?_
  refine Ev.congr (fun k => by rw [if_neg (by simp), bne_self_eq_false]) ?_
  refine Ev.step (fun k => by rw [macadamlaw06_ClaimTimes.j2, if_neg (by decide), claim_Rough.f, Option.bind_some]) ?_
  refine Ev.bind (rough_ref hl n) ?_
  refine Ev.congr (fun k => ?_) (Ev.now true)
  rw [if_pos (by simp), if_pos rfl]
  rfl
end
end Go.Proofs.YtbhjfojbjpbdbaaDoorPX
namespace Go.Proofs.YtbhjfojbjpbdbaaDoorPX
open Go Go.RowKit Go.Proofs.YtbhjfojbjpbdbaaDoor Go.Proofs.YtbhjfojbjpbdbaaDoorW.PrintWords
def ofSt (x : St) : S56 := ⟨x.due, ⟨x.dl, x.dh⟩, ⟨x.rl, x.rh⟩, ⟨x.sl, x.sh⟩⟩
def ofCk (x : Ck) : S42 := ⟨x.st, x.rd, x.er⟩
theorem map_ofSt (l : List St) : (l.map ofSt).map stOf = l := by
  rw [List.map_map]
  exact List.map_id l
theorem map_ofCk (l : List Ck) : (l.map ofCk).map ckOf = l := by
  rw [List.map_map]
  exact List.map_id l
theorem parts_of {W : World} {b : Bk} {n : Nat} {sa ka : Option Addr} {n1 sc n2 kc : Nat} (hv : BookW W n sa ka n1 sc n2 kc b) :
    Kd.C k56 W sa (b.sts.map ofSt).length (b.sts.map ofSt) ∧ (b.sts.map ofSt).length ≤ sc ∧ Kd.C k42 W ka (b.cks.map ofCk).length (b.cks.map ofCk) ∧ (b.cks.map ofCk).length ≤ kc ∧
    n1 = (b.sts.map ofSt).length ∧ n2 = (b.cks.map ofCk).length ∧ (b.sts.map ofSt).length ≤ 9223372036854775807 := by
  have h1 := hv.hs
  have h2 := hv.hk
  obtain ⟨c1, c2, c3⟩ := reads_of_sl (d := k56) (f := stOf) (xs := b.sts.map ofSt) St.cells (fun x => k56_mk W x) (fun _ => rfl) rfl (by rw [map_ofSt]; exact h1)
  obtain ⟨c4, c5, c6⟩ := reads_of_sl (d := k42) (f := ckOf) (xs := b.cks.map ofCk) Ck.cells (fun x => k42_mk W x) (fun _ => rfl) rfl (by rw [map_ofCk]; exact h2)
  exact ⟨c1, c2, c4, c5, c3, c6, c1.2.1⟩
end Go.Proofs.YtbhjfojbjpbdbaaDoorPX
namespace Go.Proofs.YtbhjfojbjpbdbaaDoor
open Go Go.RowKit Go.Proofs.YtbhjfojbjpbdbaaDoorPX Go.Proofs.YtbhjfojbjpbdbaaDoorW.PrintWords
theorem times_walk (W : World) (m1 : Int) (b : Bk) (n : Nat) (sa ka : Option Addr) (n1 sc n2 kc : Nat) (hv : BookW W n sa ka n1 sc n2 kc b) (hG : Glob W) :
    Calls Tryd.prog 3 #[.agg (b.cells (.slice sa n1 sc) (.slice ka n2 kc)).toArray, .int .i64 m1] W fun e W' => e = .returned (.bool true) ∧ Below W.heap.size W W' := by
  obtain ⟨c1, c2, c3, c4, rfl, rfl, hl⟩ := parts_of hv
  obtain ⟨k, hk⟩ := (times_ev (l := b.sts.map ofSt) (a1 := b.wth) (a2 := b.c0) (a3 := b.c1) (a4 := b.c2) (ks := b.cks.map ofCk) (a6 := b.rate) hl m1).rounds
  exact macadamlaw06_ClaimTimes.calls k sa sc (b.sts.map ofSt) b.wth b.c0 b.c1 b.c2 ka kc (b.cks.map ofCk) b.rate m1 true W hG c1 c2 c3 c4 hk
end Go.Proofs.YtbhjfojbjpbdbaaDoor
