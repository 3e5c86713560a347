/-
  What the claim needs, gathered by a program of this session (wip/tools/trim.py) out of the texts YtbhjfojbjpbdbaaDoorPX7, YtbhjfojbjpbdbaaDoorPX8, YtbhjfojbjpbdbaaDoorPX9, YtbhjfojbjpbdbaaDoorPX10, YtbhjfojbjpbdbaaDoorPX11, YtbhjfojbjpbdbaaDoorK7, YtbhjfojbjpbdbaaDoorT2, YtbhjfojbjpbdbaaDoorPX15, YtbhjfojbjpbdbaaDoorPX16, YtbhjfojbjpbdbaaDoorPX17, YtbhjfojbjpbdbaaDoorPX18: nothing that stands here is proved for its own sake.
-/
import Derived.Test.YtbhjfojbjpbdbaaDoorZp4
import Derived.Test.YtbhjfojbjpbdbaaDoorZp1
namespace Go.Proofs.YtbhjfojbjpbdbaaDoorPX
open Go.Proofs.YtbhjfojbjpbdbaaDoor (Glob ix3 blk_ix3 bl nrm_ pu_ po_ tk_)
open Go.RowKit Go.Proofs.YtbhjfojbjpbdbaaDoorW.PrintWords Go.Proofs.YtbhjfojbjpbdbaaDoorW.PrintLast Go.Proofs.YtbhjfojbjpbdbaaDoorW.PrintMore

set_option linter.unusedVariables false
set_option linter.unusedSimpArgs false
def macadamref06_ends.l0 : Nat → List Int → Int → Int → Int → Option (Int × Int)
 | 0, _, _, _, _ => none
 | k + 1, x0, x4, x182000, x182001 => if x4 < (x0.length : Int) then (if 0 ≤ x4 then ((macadamref00_Just.f (rd x0 x4)).bind fun bt183 => ((macadamref00_Union.f x182000 x182001 bt183.1 bt183.2).bind fun bt185 => (macadamref06_ends.l0 k x0 (wrap64 (x4 + 1)) bt185.1 bt185.2))) else (none)) else (some (x182000, x182001))
def macadamref06_ends.f (k : Nat) (l0 : List Int) : Option (Int × Int) := if 0 < (l0.length : Int) then ((macadamref00_Just.f (rd l0 0)).bind fun bt179 => (macadamref06_ends.l0 k l0 0 bt179.1 bt179.2)) else (none)
def macadamref06_ends.T5 : Bool × List (List Nat × List Nat) := (true, [([], []), ([], []), ([], []), ([1, 2], [1, 2]), ([3], [3]), ([4], [4]), ([0, 5, 5], [0, 5]), ([6, 6, 0, 1, 2, 3, 4, 5, 6], [6])])
def macadamref06_ends.B5 : List Nat := [0, 0, 0, 6, 14, 30, 63, 127]
theorem macadamref06_ends.tab5 : rtab .any (opsOf Tryd.f75 5) = macadamref06_ends.T5 := by kernel_rfl
theorem macadamref06_ends.bits5 : waitsOk macadamref06_ends.T5.2 macadamref06_ends.B5 = true := by kernel_rfl
set_option maxHeartbeats 8000000 in
set_option maxRecDepth 100000 in
theorem macadamref06_ends.calls (k : Nat) (A0 : Option Addr) (c0 : Nat) (l0 : List Int) (r1 : Int) (r2 : Int) (w : World) (hr0 : Kd.C (Kd.int .i64) w A0 l0.length l0) (hc0 : l0.length ≤ c0) (h : macadamref06_ends.f k l0 = some (r1, r2)) :
  Calls Tryd.prog 75 #[.slice A0 l0.length c0] w fun e w' => e = .returned (.agg #[.int .i64 r1, .int .i64 r2]) ∧ Below w.heap.size w w' := by
 have hu32 := Tryd.underlying32
 have HR0 := Aside0.mk hr0
 have HC0 := Aside0.mk hc0
 clear hr0 hc0
 have HB := Aside0.mk (Below.refl w.heap.size w)
 have H : (if 0 < (l0.length : Int) then ((macadamref00_Just.f (rd l0 0)).bind fun bt179 => (macadamref06_ends.l0 k l0 0 bt179.1 bt179.2)) else (none)) = some (r1, r2) := h
 clear h
 by_cases c2 : 0 < (l0.length : Int)
 ·rw [if_pos c2] at H
  have c2b0 : decide (0 < (l0.length : Int)) = true := decide_eq_true c2
  have c2b1 : decide (0 < l0.length) = true := decide_eq_true (by omega)
  clear c2
  replace H := Option.bind_eq_some_iff.mp H
  obtain ⟨⟨t179, t180⟩, A30, H⟩ := H
  replace H : (macadamref06_ends.l0 k l0 0 t179 t180) = some (r1, r2) := H
  have A3 := Aside0.mk A30
  clear A30
  have H' := Aside0.mk H
  clear H
  go_enter Tryd.func75, Tryd.ntmps75
  go_wp2_with (first | ((with_reducible refine gate_dst (N := 2) rfl ?_); refine box_event ?hg (N := 2) ?hd (cs := #[.int .i64 0, .int .i64 0]) (t := 32) ?hr ?_; (case hd => rfl); (case hg => rfl); (case hr => first | (go_simp; done) | (go_simp; rfl)); intro gb177 hg w4 hbox hb; have n0_ := Aside0.mk (below_step (by repeat (first | (with_reducible first | exact HB.out | apply below_alloc | apply pw_below_drewN | apply below_drew1) | exact HB.out)) hb); have n1_ := Aside0.mk (hbox); have n2_ := Aside0.mk ((by rw [hg]; exact (below_size (by repeat (first | (with_reducible first | exact HB.out | apply below_alloc | apply pw_below_drewN | apply below_drew1) | exact HB.out))) : w.heap.size ≤ gb177)); have n3_ := Aside0.mk ((by rw [hg]; exact (below_size (by repeat (first | (with_reducible first | exact HB.out | apply below_alloc | apply pw_below_drewN | apply below_drew1) | exact HB.out))) : w.heap.size ≤ gb177)); clear HB; have HB := n0_; have BK177 := n1_; have GW177 := n2_; have GE177 := n3_; clear n0_ n1_ n2_ n3_; clear hb hbox hg; have p178 : 0 ≤ (0 : Int) := (by omega); have q178 : 0 < (l0.length : Int) := of_decide_eq_true (by first | (with_reducible assumption) | assumption); obtain ⟨ad178, e178, hx178_0⟩ := Kd.at_int HR0.out 0 p178 q178; cases e178; have qi178 : (0 < l0.length) = True := eq_true (by omega); (try rw [show ((0 : Int)).toNat = 0 from rfl] at hx178_0); (try rw [Addr.add_zero'] at hx178_0); replace hx178_0 := (HB.out.cell (World.block_lt_of_cell? w _ hx178_0)).trans hx178_0; replace p178 := eq_true p178; replace q178 := eq_true q178) | ((with_reducible refine gate_callee (f := 50) rfl ?_); refine goesL_ (some 8) rfl rfl Tryd.func50 (by kernel_rfl) rfl #[.int .i64 (rd l0 0)] rfl (by (try simp only [List.map_toArray, List.map_cons, List.map_nil]); first | done | rfl | (simp only [List.length_drop, List.length_take]; rfl)) ?_; (with_reducible refine (macadamref00_Just.calls (rd l0 0) t179 t180 _ A3.out).mono ?_); rintro e w5 ⟨rfl, hb⟩; refine ⟨_, rfl, ?_⟩; have n0_ := Aside0.mk (blk_below (g := gb177) (o := .cells #[.int .i64 0, .int .i64 0] 32 (0, 0)) (by (with_reducible repeat (first | refine blk_drewN ?_ _ | refine blk_drew ?_ | refine blk_alloc ?_ _)); exact BK177.out) hb); have n1_ := Aside0.mk (below_step (by repeat (first | (with_reducible first | exact HB.out | apply below_alloc | apply pw_below_drewN | apply below_drew1 | refine below_set ?_ GE177.out) | exact HB.out)) hb); clear BK177; clear HB; have BK177 := n0_; have HB := n1_; clear n0_ n1_; (try clear hb); (try clear hb2); (try clear hk); (try clear hi)) | ((with_reducible refine gate_dst (N := 3) rfl ?_); refine box_event ?hg (N := 3) ?hd (cs := #[.int .i64 0, .int .i64 0]) (t := 32) ?hr ?_; (case hd => rfl); (case hg => rfl); (case hr => first | (go_simp; done) | (go_simp; rfl)); intro gb181 hg w6 hbox hb; have n0_ := Aside0.mk (blk_below (g := gb177) (o := .cells #[.int .i64 0, .int .i64 0] 32 (0, 0)) (by (with_reducible repeat (first | refine blk_drewN ?_ _ | refine blk_drew ?_ | refine blk_alloc ?_ _)); exact BK177.out) hb); have n1_ := Aside0.mk (below_step (by repeat (first | (with_reducible first | exact HB.out | apply below_alloc | apply pw_below_drewN | apply below_drew1 | refine below_set ?_ GE177.out) | exact HB.out)) hb); have n2_ := Aside0.mk (hbox); have n3_ := Aside0.mk ((by rw [hg]; exact (below_size (by repeat (first | (with_reducible first | exact HB.out | apply below_alloc | apply pw_below_drewN | apply below_drew1 | refine below_set ?_ GE177.out) | exact HB.out))) : w.heap.size ≤ gb181)); have n4_ := Aside0.mk ((by rw [hg]; exact (below_size (by repeat (first | (with_reducible first | exact HB.out | apply below_alloc | apply pw_below_drewN | apply below_drew1 | refine below_set ?_ GE177.out) | exact HB.out))) : w.heap.size ≤ gb181)); have n5_ := Aside0.mk ((by rw [hg]; exact Nat.ne_of_lt (blk_lt (g := gb177) (o := .cells #[.int .i64 0, .int .i64 0] 32 (0, 0)) (by (with_reducible repeat (first | refine blk_drewN ?_ _ | refine blk_drew ?_ | refine blk_alloc ?_ _)); exact BK177.out)) : gb177 ≠ gb181)); have n6_ := Aside0.mk ((by rw [hg]; exact Nat.ne_of_gt (blk_lt (g := gb177) (o := .cells #[.int .i64 0, .int .i64 0] 32 (0, 0)) (by (with_reducible repeat (first | refine blk_drewN ?_ _ | refine blk_drew ?_ | refine blk_alloc ?_ _)); exact BK177.out)) : gb181 ≠ gb177)); clear BK177; clear HB; have BK177 := n0_; have HB := n1_; have BK181 := n2_; have GW181 := n3_; have GE181 := n4_; have NB177_181 := n5_; have NB181_177 := n6_; clear n0_ n1_ n2_ n3_ n4_ n5_ n6_; clear hb hbox hg; have hnb7 := NB181_177.out; have hnc7 := NB177_181.out; have hcz8_0 : w6.cell? ⟨gb181, 0, none⟩ = some (.int .i64 0) := (blk_cell BK181.out 0).trans rfl; have hcz8_1 : w6.cell? ⟨gb181, 1, none⟩ = some (.int .i64 0) := (blk_cell BK181.out 1).trans rfl; have hfz8_0 := blk_frozen BK181.out 0; have hfz8_1 := blk_frozen BK181.out 1))
  go_loopg [4] k (fun kq v4 w' => ∃ (x4_1 : Int) (x182000_1 : Int) (x182001_1 : Int), v4 = .int .i64 x4_1 ∧ Aside0 (macadamref06_ends.l0 kq l0 x4_1 x182000_1 x182001_1 = some (r1, r2)) ∧ Aside0 (kq ≤ k) ∧ Aside0 (w'.heap[gb177]? = some (.cells #[.int .i64 0, .int .i64 0] 32 (0, 0))) ∧ Aside0 (w'.heap[gb181]? = some (.cells #[.int .i64 x182000_1, .int .i64 x182001_1] 32 (0, 0))) ∧ Aside0 (Below w.heap.size w w'))
  case atStart => exact ⟨(0), (t179), (t180), (by first | rfl | (simp; done) | (simp [*]; done)), H', ⟨Nat.le_refl _⟩, ⟨by (with_reducible repeat (first | refine blk_drewN ?_ _ | refine blk_drew ?_ | refine blk_alloc ?_ _)); refine blk_far ?_ NB177_181.out _; (with_reducible repeat (first | refine blk_drewN ?_ _ | refine blk_drew ?_ | refine blk_alloc ?_ _)); refine blk_far ?_ NB177_181.out _; (with_reducible repeat (first | refine blk_drewN ?_ _ | refine blk_drew ?_ | refine blk_alloc ?_ _)); exact BK177.out⟩, ⟨by (with_reducible repeat (first | refine blk_drewN ?_ _ | refine blk_drew ?_ | refine blk_alloc ?_ _)); refine blk_put (cs := #[.int .i64 t179, .int .i64 0]) ?_ 1 _ rfl; (with_reducible repeat (first | refine blk_drewN ?_ _ | refine blk_drew ?_ | refine blk_alloc ?_ _)); refine blk_put (cs := #[.int .i64 0, .int .i64 0]) ?_ 0 _ rfl; (with_reducible repeat (first | refine blk_drewN ?_ _ | refine blk_drew ?_ | refine blk_alloc ?_ _)); exact BK181.out⟩, ⟨by repeat (first | (with_reducible first | exact HB.out | apply below_alloc | apply pw_below_drewN | apply below_drew1 | refine below_set ?_ GE177.out | refine below_set ?_ GE181.out) | exact HB.out)⟩⟩
  case round =>
   clear H'
   try clear p1
   try clear q1
   try clear hx1
   try clear qi1
   try clear c2
   try clear c2b0
   try clear c2b1
   try clear p2
   try clear c5
   try clear c7
   try clear hcz8_0
   try clear hcz8_1
   try clear hfz8_0
   try clear hfz8_1
   try clear hx178_0
   try clear p178
   try clear q178
   obtain ⟨x4_1, x182000_1, x182001_1, rfl, HA, HK1, BK177, BK181, HB⟩ := hrel
   cases gk with
   | zero => exact absurd HA.out (by simp [macadamref06_ends.l0])
   | succ k1 =>
    have H := HA.out
    clear HA
    simp only [macadamref06_ends.l0] at H
    by_cases c9 : x4_1 < (l0.length : Int)
    ·rw [if_pos c9] at H
     have c9b0 : decide (x4_1 < (l0.length : Int)) = true := decide_eq_true c9
     clear c9
     by_cases c10 : 0 ≤ x4_1
     ·rw [if_pos c10] at H
      have c10b0 : decide (0 ≤ x4_1) = true := decide_eq_true c10
      clear c10
      replace H := Option.bind_eq_some_iff.mp H
      obtain ⟨⟨t183, t184⟩, A110, H⟩ := H
      replace H : ((macadamref00_Union.f x182000_1 x182001_1 t183 t184).bind fun bt185 => (macadamref06_ends.l0 k1 l0 (wrap64 (x4_1 + 1)) bt185.1 bt185.2)) = some (r1, r2) := H
      have A11 := Aside0.mk A110
      clear A110
      replace H := Option.bind_eq_some_iff.mp H
      obtain ⟨⟨t185, t186⟩, A120, H⟩ := H
      replace H : (macadamref06_ends.l0 k1 l0 (wrap64 (x4_1 + 1)) t185 t186) = some (r1, r2) := H
      have A12 := Aside0.mk A120
      clear A120
      have H' := Aside0.mk H
      clear H
      try go_wp2
      have n0_ := Aside0.mk (blk_drew BK177.out)
      have n1_ := Aside0.mk (blk_drew BK181.out)
      have n2_ := Aside0.mk (below_drew1 HB.out)
      clear BK177
      clear BK181
      clear HB
      have BK177 := n0_
      have BK181 := n1_
      have HB := n2_
      clear n0_ n1_ n2_
      have p182 : 0 ≤ (x4_1 : Int) := of_decide_eq_true (by first | (with_reducible assumption) | assumption)
      have q182 : x4_1 < (l0.length : Int) := of_decide_eq_true (by first | (with_reducible assumption) | assumption)
      obtain ⟨ad182, e182, hx182_0⟩ := Kd.at_int HR0.out x4_1 p182 q182
      have hw182_0 := hx182_0
      obtain rfl : ad178 = ad182 := (by injection e182)
      replace hx182_0 := (HB.out.cell (World.block_lt_of_cell? w _ hx182_0)).trans hx182_0
      replace p182 := eq_true p182
      replace q182 := eq_true q182
      refine start_ (n := 8) (S := fun w' => w'.cell? ⟨gb181, 0, none⟩ = some (.int .i64 x182000_1) ∧ w'.cell? ⟨gb181, 1, none⟩ = some (.int .i64 x182001_1) ∧ w'.cell? (ad178.add (x4_1).toNat) = some (.int .i64 (rd l0 x4_1))) (ds := [7]) (bl 8 0) (by kernel_rfl) rfl (by kernel_rfl) ⟨(blk_cell BK181.out 0).trans rfl, (blk_cell BK181.out 1).trans rfl, ((HB.out.cell (World.block_lt_of_cell? w _ hw182_0)).trans hw182_0)⟩ (fun hHeld => ?_); refine with_tabW macadamref06_ends.tab5 macadamref06_ends.bits5 (fun HT_ HW_ => ?_)
      generalize wr.drew = w13 at BK177 BK181 HB hx182_0 hHeld ⊢
      refine pu_ 1 (some 16) (bl 8 2) rfl rfl (by kernel_rfl) (fun _ _ _ h => h) (by rfl) (by intro w'; go_simp; with_reducible rfl) (by simp only [nrm_]; rfl) ?_
      refine pu_ 2 (some 17) (bl 8 6) rfl rfl (by kernel_rfl) (fun _ _ _ h => h) (by rfl) (by intro w'; go_simp; with_reducible rfl) (by simp only [nrm_]; rfl) ?_
      refine pu_ 3 (some 18) (bl 8 14) rfl rfl (by kernel_rfl) (fun _ _ _ h => h) (by rfl) (by intro w'; go_simp; with_reducible rfl) (by simp only [nrm_]; rfl) ?_
      refine tk_ 0 (some 15) (bl 8 15) rfl rfl (by kernel_rfl) (fun _ _ _ h => h) hHeld (by rfl) (by rintro w' ⟨s0, s1, s2⟩; go_simp; with_reducible rfl) (by simp only [nrm_]; rfl) ?_
      refine tk_ 4 (some 19) (bl 8 31) rfl rfl (by kernel_rfl) (fun _ _ _ h => h) hHeld (by rfl) (by rintro w' ⟨s0, s1, s2⟩; go_simp; with_reducible rfl) (by simp only [nrm_]; rfl) ?_
      refine one_ (i := 5) (N := some 20) (bl 8 63) rfl rfl (one_of HT_.out (by kernel_rfl)) (by decide) (fun K hK => ?_)
      refine goes_ Tryd.func50 (by kernel_rfl) rfl #[.int .i64 (rd l0 x4_1)] (by rfl) rfl rfl (by (try simp only [List.map_toArray, List.map_cons, List.map_nil]); first | done | rfl | (simp only [List.length_drop, List.length_take]; rfl)) ?_
      with_reducible refine (macadamref00_Just.calls (rd l0 x4_1) t183 t184 _ A11.out).mono ?_
      rintro e w14 ⟨rfl, hb⟩
      refine ⟨_, rfl, ?_⟩
      have n0_ := Aside0.mk (blk_below (g := gb177) (o := .cells #[.int .i64 0, .int .i64 0] 32 (0, 0)) (by (with_reducible repeat (first | refine blk_drewN ?_ _ | refine blk_drew ?_ | refine blk_alloc ?_ _)); exact BK177.out) hb)
      have n1_ := Aside0.mk (blk_below (g := gb181) (o := .cells #[.int .i64 x182000_1, .int .i64 x182001_1] 32 (0, 0)) (by (with_reducible repeat (first | refine blk_drewN ?_ _ | refine blk_drew ?_ | refine blk_alloc ?_ _)); exact BK181.out) hb)
      have n2_ := Aside0.mk (below_step (by repeat (first | (with_reducible first | exact HB.out | apply below_alloc | apply pw_below_drewN | apply below_drew1 | refine below_set ?_ GE177.out | refine below_set ?_ GE181.out) | exact HB.out)) hb)
      clear BK177
      clear BK181
      clear HB
      have BK177 := n0_
      have BK181 := n1_
      have HB := n2_
      clear n0_ n1_ n2_
      (try clear hb)
      (try clear hb2)
      (try clear hk)
      (try clear hi)
      refine hK.out _ _ ⟨(blk_cell BK181.out 0).trans rfl, (blk_cell BK181.out 1).trans rfl, ((HB.out.cell (World.block_lt_of_cell? w _ hw182_0)).trans hw182_0)⟩ (fun hHeld => ?_)
      clear hK K
      refine norm_ (a' := ?_) ?_ ?_
      rotate_left
      ·show Act.put _ (some 20) _ = _
       simp only [nrm_]
       rfl
      refine one_ (i := 6) (N := some 21) (bl 8 127) rfl rfl (one_of HT_.out (by kernel_rfl)) (by decide) (fun K hK => ?_)
      refine goes_ Tryd.func98 (by kernel_rfl) rfl #[.agg #[.int .i64 x182000_1, .int .i64 x182001_1], .agg #[.int .i64 t183, .int .i64 t184]] (by rfl) rfl rfl (by (try simp only [List.map_toArray, List.map_cons, List.map_nil]); first | done | rfl | (simp only [List.length_drop, List.length_take]; rfl)) ?_
      with_reducible refine (macadamref00_Union.calls x182000_1 x182001_1 t183 t184 t185 t186 _ A12.out).mono ?_
      rintro e w15 ⟨rfl, hb⟩
      refine ⟨_, rfl, ?_⟩
      have n0_ := Aside0.mk (blk_below (g := gb177) (o := .cells #[.int .i64 0, .int .i64 0] 32 (0, 0)) (by (with_reducible repeat (first | refine blk_drewN ?_ _ | refine blk_drew ?_ | refine blk_alloc ?_ _)); exact BK177.out) hb)
      have n1_ := Aside0.mk (blk_below (g := gb181) (o := .cells #[.int .i64 x182000_1, .int .i64 x182001_1] 32 (0, 0)) (by (with_reducible repeat (first | refine blk_drewN ?_ _ | refine blk_drew ?_ | refine blk_alloc ?_ _)); exact BK181.out) hb)
      have n2_ := Aside0.mk (below_step (by repeat (first | (with_reducible first | exact HB.out | apply below_alloc | apply pw_below_drewN | apply below_drew1 | refine below_set ?_ GE177.out | refine below_set ?_ GE181.out) | exact HB.out)) hb)
      clear BK177
      clear BK181
      clear HB
      have BK177 := n0_
      have BK181 := n1_
      have HB := n2_
      clear n0_ n1_ n2_
      (try clear hb)
      (try clear hb2)
      (try clear hk)
      (try clear hi)
      refine hK.out _ _ ⟨(blk_cell BK181.out 0).trans rfl, (blk_cell BK181.out 1).trans rfl, ((HB.out.cell (World.block_lt_of_cell? w _ hw182_0)).trans hw182_0)⟩ (fun hHeld => ?_)
      clear hK K
      refine norm_ (a' := ?_) ?_ ?_
      rotate_left
      ·show Act.put _ (some 21) _ = _
       simp only [nrm_]
       rfl
      refine last_ (i := 7) (N := none) (bl 8 255) rfl rfl (one_of HT_.out (by kernel_rfl)) (by decide) (fun K hK => ?_)
      have hs16 : w15.cell? ⟨gb181, 0, none⟩ = some (.int .i64 x182000_1) := (blk_cell BK181.out 0).trans rfl
      have hfs16 := blk_frozen BK181.out 0
      have hns16_0 := NB177_181.out
      have hms16_0 := NB181_177.out
      have hs17 : w15.cell? ⟨gb181, 1, none⟩ = some (.int .i64 x182001_1) := (blk_cell BK181.out 1).trans rfl
      have hfs17 := blk_frozen BK181.out 1
      have hns17_0 := NB177_181.out
      have hms17_0 := NB181_177.out
      refine skip_ (w1 := ?_) (by rfl) rfl ?_ ?_
      rotate_left
      ·go_simp
       rfl
      refine hK.out _ _ ?_
      clear hK K
      refine done_ (done_of HT_.out (by kernel_rfl)) ?_
      try go_wp2
      go_roundg k1
      case measure => have := HK1.out; omega
      case rel => exact ⟨(wrap64 (x4_1 + 1)), (t185), (t186), (by first | rfl | (simp; done) | (simp [*]; done)), H', ⟨by have := HK1.out; omega⟩, ⟨by (with_reducible repeat (first | refine blk_drewN ?_ _ | refine blk_drew ?_ | refine blk_alloc ?_ _)); refine blk_far ?_ NB177_181.out _; (with_reducible repeat (first | refine blk_drewN ?_ _ | refine blk_drew ?_ | refine blk_alloc ?_ _)); refine blk_far ?_ NB177_181.out _; (with_reducible repeat (first | refine blk_drewN ?_ _ | refine blk_drew ?_ | refine blk_alloc ?_ _)); exact BK177.out⟩, ⟨by (with_reducible repeat (first | refine blk_drewN ?_ _ | refine blk_drew ?_ | refine blk_alloc ?_ _)); refine blk_put (cs := #[.int .i64 t185, .int .i64 x182001_1]) ?_ 1 _ rfl; (with_reducible repeat (first | refine blk_drewN ?_ _ | refine blk_drew ?_ | refine blk_alloc ?_ _)); refine blk_put (cs := #[.int .i64 x182000_1, .int .i64 x182001_1]) ?_ 0 _ rfl; (with_reducible repeat (first | refine blk_drewN ?_ _ | refine blk_drew ?_ | refine blk_alloc ?_ _)); exact BK181.out⟩, ⟨by repeat (first | (with_reducible first | exact HB.out | apply below_alloc | apply pw_below_drewN | apply below_drew1 | refine below_set ?_ GE177.out | refine below_set ?_ GE181.out) | exact HB.out)⟩⟩
     ·rw [if_neg c10] at H
      exact absurd H (by simp)
    ·rw [if_neg c9] at H
     have c9b0 : decide (x4_1 < (l0.length : Int)) = false := decide_eq_false c9
     clear c9
     simp only [Option.some.injEq, Prod.mk.injEq] at H
     obtain ⟨rfl, rfl⟩ := H
     have hnb18 := NB181_177.out
     have hnc18 := NB177_181.out
     have hcz19_0 : wr.cell? ⟨gb181, 0, none⟩ = some (.int .i64 x182000_1) := (blk_cell BK181.out 0).trans rfl
     have hcz19_1 : wr.cell? ⟨gb181, 1, none⟩ = some (.int .i64 x182001_1) := (blk_cell BK181.out 1).trans rfl
     have hfz19_0 := blk_frozen BK181.out 0
     have hfz19_1 := blk_frozen BK181.out 1
     have hcz20_0 : wr.cell? ⟨gb177, 0, none⟩ = some (.int .i64 0) := (blk_cell BK177.out 0).trans rfl
     have hcz20_1 : wr.cell? ⟨gb177, 1, none⟩ = some (.int .i64 0) := (blk_cell BK177.out 1).trans rfl
     have hfz20_0 := blk_frozen BK177.out 0
     have hfz20_1 := blk_frozen BK177.out 1
     go_wp2
     refine bodyPost_ret (results_cell_row rfl _ _ gb177 32 #[.int .i64 x182000_1, .int .i64 x182001_1] (0, 0) _ rfl (by (with_reducible repeat (first | refine blk_drewN ?_ _ | refine blk_drew ?_ | refine blk_alloc ?_ _)); refine blk_put (cs := #[.int .i64 x182000_1, .int .i64 0]) ?_ 1 _ rfl; (with_reducible repeat (first | refine blk_drewN ?_ _ | refine blk_drew ?_ | refine blk_alloc ?_ _)); refine blk_put (cs := #[.int .i64 0, .int .i64 0]) ?_ 0 _ rfl; (with_reducible repeat (first | refine blk_drewN ?_ _ | refine blk_drew ?_ | refine blk_alloc ?_ _)); exact BK177.out) Tryd.underlying32 rfl (by kernel_rfl)) rfl ?_
     exact ⟨by first | rfl | (simp [errW_none, errW_some] <;> rfl) | (simp [*, errW_none, errW_some] <;> rfl), by repeat (first | (with_reducible first | exact HB.out | apply below_alloc | apply pw_below_drewN | apply below_drew1 | refine below_set ?_ GE177.out | refine below_set ?_ GE181.out) | exact HB.out)⟩
 ·rw [if_neg c2] at H
  exact absurd H (by simp)
end Go.Proofs.YtbhjfojbjpbdbaaDoorPX
namespace Go.Proofs.YtbhjfojbjpbdbaaDoorPX
open Go.Proofs.YtbhjfojbjpbdbaaDoor (Glob ix3 blk_ix3 bl nrm_ pu_ po_ tk_)
open Go.RowKit Go.Proofs.YtbhjfojbjpbdbaaDoorW.PrintWords Go.Proofs.YtbhjfojbjpbdbaaDoorW.PrintLast Go.Proofs.YtbhjfojbjpbdbaaDoorW.PrintMore

set_option linter.unusedVariables false
set_option linter.unusedSimpArgs false
end Go.Proofs.YtbhjfojbjpbdbaaDoorPX
namespace Go.Proofs.YtbhjfojbjpbdbaaDoorPX
open Go.Proofs.YtbhjfojbjpbdbaaDoor (Glob ix3 blk_ix3 bl nrm_ pu_ po_ tk_)
open Go.RowKit Go.Proofs.YtbhjfojbjpbdbaaDoorW.PrintWords Go.Proofs.YtbhjfojbjpbdbaaDoorW.PrintLast Go.Proofs.YtbhjfojbjpbdbaaDoorW.PrintMore

set_option linter.unusedVariables false
set_option linter.unusedSimpArgs false
def macadamref06_late.f (l0_0 : List (S56)) (a0_1 : Int) (a0_2 : Int) (a0_3 : Int) (a0_4 : Int) (l0_5 : List (S42)) (a0_6 : Int) (a1_0 : Int) (l1_1 : List Int) (l1_2 : List Int) (a2 : Int) : Option (Int) := if 0 ≤ a2 then (if a2 < (l1_2.length : Int) then (if a2 < (l0_0.length : Int) then (some (mx 0 (wrap64 ((rd l1_2 a2) - ((rd_T56 l0_0 a2).f0))))) else (none)) else (none)) else (none)
set_option maxHeartbeats 8000000 in
set_option maxRecDepth 100000 in
theorem macadamref06_late.calls (A0_0 : Option Addr) (c0_0 : Nat) (l0_0 : List (S56)) (a0_1 : Int) (a0_2 : Int) (a0_3 : Int) (a0_4 : Int) (A0_5 : Option Addr) (c0_5 : Nat) (l0_5 : List (S42)) (a0_6 : Int) (a1_0 : Int) (A1_1 : Option Addr) (c1_1 : Nat) (l1_1 : List Int) (A1_2 : Option Addr) (c1_2 : Nat) (l1_2 : List Int) (a2 : Int) (r : Int) (w : World) (hr0_0 : Kd.C k56 w A0_0 l0_0.length l0_0) (hc0_0 : l0_0.length ≤ c0_0) (hr0_5 : Kd.C k42 w A0_5 l0_5.length l0_5) (hc0_5 : l0_5.length ≤ c0_5) (hr1_1 : Kd.C (Kd.int .i64) w A1_1 l1_1.length l1_1) (hc1_1 : l1_1.length ≤ c1_1) (hr1_2 : Kd.C (Kd.int .i64) w A1_2 l1_2.length l1_2) (hc1_2 : l1_2.length ≤ c1_2) (h : macadamref06_late.f l0_0 a0_1 a0_2 a0_3 a0_4 l0_5 a0_6 a1_0 l1_1 l1_2 a2 = some r) :
  Calls Tryd.prog 78 #[.agg #[.slice A0_0 l0_0.length c0_0, .int .i64 a0_1, .int .i64 a0_2, .int .i64 a0_3, .int .i64 a0_4, .slice A0_5 l0_5.length c0_5, .int .i64 a0_6], .agg #[.int .i64 a1_0, .slice A1_1 l1_1.length c1_1, .slice A1_2 l1_2.length c1_2], .int .i64 a2] w fun e w' => e = .returned (.int .i64 r) ∧ Below w.heap.size w w' := by
 have hu26 := Tryd.underlying26
 have hu92 := Tryd.underlying92
 have HR0_0 := Aside0.mk hr0_0
 have HC0_0 := Aside0.mk hc0_0
 clear hr0_0 hc0_0
 have HR0_5 := Aside0.mk hr0_5
 have HC0_5 := Aside0.mk hc0_5
 clear hr0_5 hc0_5
 have HR1_1 := Aside0.mk hr1_1
 have HC1_1 := Aside0.mk hc1_1
 clear hr1_1 hc1_1
 have HR1_2 := Aside0.mk hr1_2
 have HC1_2 := Aside0.mk hc1_2
 clear hr1_2 hc1_2
 have HB := Aside0.mk (Below.refl w.heap.size w)
 have H : (if 0 ≤ a2 then (if a2 < (l1_2.length : Int) then (if a2 < (l0_0.length : Int) then (some (mx 0 (wrap64 ((rd l1_2 a2) - ((rd_T56 l0_0 a2).f0))))) else (none)) else (none)) else (none)) = some r := h
 clear h
 by_cases c4 : 0 ≤ a2
 ·rw [if_pos c4] at H
  have c4b0 : decide (0 ≤ a2) = true := decide_eq_true c4
  clear c4
  by_cases c5 : a2 < (l1_2.length : Int)
  ·rw [if_pos c5] at H
   have c5b0 : decide (a2 < (l1_2.length : Int)) = true := decide_eq_true c5
   clear c5
   by_cases c6 : a2 < (l0_0.length : Int)
   ·rw [if_pos c6] at H
    have c6b0 : decide (a2 < (l0_0.length : Int)) = true := decide_eq_true c6
    clear c6
    obtain ⟨ji7, hji7⟩ : ∃ j_ : Int, (mx 0 (wrap64 ((rd l1_2 a2) - ((rd_T56 l0_0 a2).f0)))) = j_ := ⟨_, rfl⟩
    replace H : (some ji7) = some r := by first | (rw [hji7] at H; exact H) | (simp only [hji7] at H ⊢; exact H)
    (try (have hji7l : 0 ≤ ji7 := by (rw [← hji7]; unfold mx; (repeat' split) <;> omega)))
    (try (have hji7m : 0 ≤ ji7 := by omega))
    have hji7_ : (if 0 < (wrap64 ((rd l1_2 a2) - ((rd_T56 l0_0 a2).f0))) then (wrap64 ((rd l1_2 a2) - ((rd_T56 l0_0 a2).f0))) else 0) = ji7 := hji7
    obtain rfl := Option.some.inj H
    go_enter Tryd.func78, Tryd.ntmps78
    go_wp2_with (first | ((with_reducible refine gate_dst (N := 3) rfl ?_); refine box_event ?hg (N := 3) ?hd (cs := #[.slice A0_0 l0_0.length c0_0, .int .i64 a0_1, .int .i64 a0_2, .int .i64 a0_3, .int .i64 a0_4, .slice A0_5 l0_5.length c0_5, .int .i64 a0_6]) (t := 26) ?hr ?_; (case hd => rfl); (case hg => rfl); (case hr => first | (go_simp; done) | (go_simp; rfl)); intro gb204 hg w8 hbox hb; have n0_ := Aside0.mk (below_step (by repeat (first | (with_reducible first | exact HB.out | apply below_alloc | apply pw_below_drewN | apply below_drew1) | exact HB.out)) hb); have n1_ := Aside0.mk (hbox); have n2_ := Aside0.mk ((by rw [hg]; exact (below_size (by repeat (first | (with_reducible first | exact HB.out | apply below_alloc | apply pw_below_drewN | apply below_drew1) | exact HB.out))) : w.heap.size ≤ gb204)); have n3_ := Aside0.mk ((by rw [hg]; exact (below_size (by repeat (first | (with_reducible first | exact HB.out | apply below_alloc | apply pw_below_drewN | apply below_drew1) | exact HB.out))) : w.heap.size ≤ gb204)); clear HB; have HB := n0_; have BK204 := n1_; have GW204 := n2_; have GE204 := n3_; clear n0_ n1_ n2_ n3_; clear hb hbox hg) | ((with_reducible refine gate_dst (N := 4) rfl ?_); refine box_event ?hg (N := 4) ?hd (cs := #[.int .i64 a1_0, .slice A1_1 l1_1.length c1_1, .slice A1_2 l1_2.length c1_2]) (t := 92) ?hr ?_; (case hd => rfl); (case hg => rfl); (case hr => first | (go_simp; done) | (go_simp; rfl)); intro gb205 hg w9 hbox hb; have n0_ := Aside0.mk (blk_below (g := gb204) (o := .cells #[.slice A0_0 l0_0.length c0_0, .int .i64 a0_1, .int .i64 a0_2, .int .i64 a0_3, .int .i64 a0_4, .slice A0_5 l0_5.length c0_5, .int .i64 a0_6] 26 (0, 0)) (by (with_reducible repeat (first | refine blk_drewN ?_ _ | refine blk_drew ?_ | refine blk_alloc ?_ _)); exact BK204.out) hb); have n1_ := Aside0.mk (below_step (by repeat (first | (with_reducible first | exact HB.out | apply below_alloc | apply pw_below_drewN | apply below_drew1 | refine below_set ?_ GE204.out) | exact HB.out)) hb); have n2_ := Aside0.mk (hbox); have n3_ := Aside0.mk ((by rw [hg]; exact (below_size (by repeat (first | (with_reducible first | exact HB.out | apply below_alloc | apply pw_below_drewN | apply below_drew1 | refine below_set ?_ GE204.out) | exact HB.out))) : w.heap.size ≤ gb205)); have n4_ := Aside0.mk ((by rw [hg]; exact (below_size (by repeat (first | (with_reducible first | exact HB.out | apply below_alloc | apply pw_below_drewN | apply below_drew1 | refine below_set ?_ GE204.out) | exact HB.out))) : w.heap.size ≤ gb205)); have n5_ := Aside0.mk ((by rw [hg]; exact Nat.ne_of_lt (blk_lt (g := gb204) (o := .cells #[.slice A0_0 l0_0.length c0_0, .int .i64 a0_1, .int .i64 a0_2, .int .i64 a0_3, .int .i64 a0_4, .slice A0_5 l0_5.length c0_5, .int .i64 a0_6] 26 (0, 0)) (by (with_reducible repeat (first | refine blk_drewN ?_ _ | refine blk_drew ?_ | refine blk_alloc ?_ _)); exact BK204.out)) : gb204 ≠ gb205)); have n6_ := Aside0.mk ((by rw [hg]; exact Nat.ne_of_gt (blk_lt (g := gb204) (o := .cells #[.slice A0_0 l0_0.length c0_0, .int .i64 a0_1, .int .i64 a0_2, .int .i64 a0_3, .int .i64 a0_4, .slice A0_5 l0_5.length c0_5, .int .i64 a0_6] 26 (0, 0)) (by (with_reducible repeat (first | refine blk_drewN ?_ _ | refine blk_drew ?_ | refine blk_alloc ?_ _)); exact BK204.out)) : gb205 ≠ gb204)); clear BK204; clear HB; have BK204 := n0_; have HB := n1_; have BK205 := n2_; have GW205 := n3_; have GE205 := n4_; have NB204_205 := n5_; have NB205_204 := n6_; clear n0_ n1_ n2_ n3_ n4_ n5_ n6_; clear hb hbox hg; have hnb10 := NB205_204.out; have hnc10 := NB204_205.out; have hcz11_0 : w9.cell? ⟨gb205, 0, none⟩ = some (.int .i64 a1_0) := (blk_cell BK205.out 0).trans rfl; have hcz11_1 : w9.cell? ⟨gb205, 1, none⟩ = some (.slice A1_1 l1_1.length c1_1) := (blk_cell BK205.out 1).trans rfl; have hcz11_2 : w9.cell? ⟨gb205, 2, none⟩ = some (.slice A1_2 l1_2.length c1_2) := (blk_cell BK205.out 2).trans rfl; have hfz11_0 := blk_frozen BK205.out 0; have hfz11_1 := blk_frozen BK205.out 1; have hfz11_2 := blk_frozen BK205.out 2; have p206 : 0 ≤ (a2 : Int) := of_decide_eq_true (by first | (with_reducible assumption) | assumption); have q206 : a2 < (l1_2.length : Int) := of_decide_eq_true (by first | (with_reducible assumption) | assumption); obtain ⟨ad206, e206, hx206_0⟩ := Kd.at_int HR1_2.out a2 p206 q206; cases e206; replace hx206_0 := (HB.out.cell (World.block_lt_of_cell? w _ hx206_0)).trans hx206_0; replace p206 := eq_true p206; replace q206 := eq_true q206; have hcz12_0 : w9.cell? ⟨gb204, 0, none⟩ = some (.slice A0_0 l0_0.length c0_0) := (blk_cell BK204.out 0).trans rfl; have hcz12_1 : w9.cell? ⟨gb204, 1, none⟩ = some (.int .i64 a0_1) := (blk_cell BK204.out 1).trans rfl; have hcz12_2 : w9.cell? ⟨gb204, 2, none⟩ = some (.int .i64 a0_2) := (blk_cell BK204.out 2).trans rfl; have hcz12_3 : w9.cell? ⟨gb204, 3, none⟩ = some (.int .i64 a0_3) := (blk_cell BK204.out 3).trans rfl; have hcz12_4 : w9.cell? ⟨gb204, 4, none⟩ = some (.int .i64 a0_4) := (blk_cell BK204.out 4).trans rfl; have hcz12_5 : w9.cell? ⟨gb204, 5, none⟩ = some (.slice A0_5 l0_5.length c0_5) := (blk_cell BK204.out 5).trans rfl; have hcz12_6 : w9.cell? ⟨gb204, 6, none⟩ = some (.int .i64 a0_6) := (blk_cell BK204.out 6).trans rfl; have hfz12_0 := blk_frozen BK204.out 0; have hfz12_1 := blk_frozen BK204.out 1; have hfz12_2 := blk_frozen BK204.out 2; have hfz12_3 := blk_frozen BK204.out 3; have hfz12_4 := blk_frozen BK204.out 4; have hfz12_5 := blk_frozen BK204.out 5; have hfz12_6 := blk_frozen BK204.out 6; have p207 : 0 ≤ (a2 : Int) := of_decide_eq_true (by first | (with_reducible assumption) | assumption); have q207 : a2 < (l0_0.length : Int) := of_decide_eq_true (by first | (with_reducible assumption) | assumption); obtain ⟨ad207, e207, hx207_0, hx207_1, hx207_2, hx207_3, hx207_4, hx207_5, hx207_6⟩ := at_T56 HR0_0.out a2 p207 q207; cases e207; replace hx207_0 := (HB.out.cell (World.block_lt_of_cell? w _ hx207_0)).trans hx207_0; replace hx207_1 := (HB.out.cell (World.block_lt_of_cell? w _ hx207_1)).trans hx207_1; replace hx207_2 := (HB.out.cell (World.block_lt_of_cell? w _ hx207_2)).trans hx207_2; replace hx207_3 := (HB.out.cell (World.block_lt_of_cell? w _ hx207_3)).trans hx207_3; replace hx207_4 := (HB.out.cell (World.block_lt_of_cell? w _ hx207_4)).trans hx207_4; replace hx207_5 := (HB.out.cell (World.block_lt_of_cell? w _ hx207_5)).trans hx207_5; replace hx207_6 := (HB.out.cell (World.block_lt_of_cell? w _ hx207_6)).trans hx207_6; replace p207 := eq_true p207; replace q207 := eq_true q207))
    repeat (go_quiet (first | ((with_reducible refine gate_dst (N := 3) rfl ?_); refine box_event ?hg (N := 3) ?hd (cs := #[.slice A0_0 l0_0.length c0_0, .int .i64 a0_1, .int .i64 a0_2, .int .i64 a0_3, .int .i64 a0_4, .slice A0_5 l0_5.length c0_5, .int .i64 a0_6]) (t := 26) ?hr ?_; (case hd => rfl); (case hg => rfl); (case hr => first | (go_simp; done) | (go_simp; rfl)); intro gb204 hg w8 hbox hb; have n0_ := Aside0.mk (below_step (by repeat (first | (with_reducible first | exact HB.out | apply below_alloc | apply pw_below_drewN | apply below_drew1) | exact HB.out)) hb); have n1_ := Aside0.mk (hbox); have n2_ := Aside0.mk ((by rw [hg]; exact (below_size (by repeat (first | (with_reducible first | exact HB.out | apply below_alloc | apply pw_below_drewN | apply below_drew1) | exact HB.out))) : w.heap.size ≤ gb204)); have n3_ := Aside0.mk ((by rw [hg]; exact (below_size (by repeat (first | (with_reducible first | exact HB.out | apply below_alloc | apply pw_below_drewN | apply below_drew1) | exact HB.out))) : w.heap.size ≤ gb204)); clear HB; have HB := n0_; have BK204 := n1_; have GW204 := n2_; have GE204 := n3_; clear n0_ n1_ n2_ n3_; clear hb hbox hg) | ((with_reducible refine gate_dst (N := 4) rfl ?_); refine box_event ?hg (N := 4) ?hd (cs := #[.int .i64 a1_0, .slice A1_1 l1_1.length c1_1, .slice A1_2 l1_2.length c1_2]) (t := 92) ?hr ?_; (case hd => rfl); (case hg => rfl); (case hr => first | (go_simp; done) | (go_simp; rfl)); intro gb205 hg w9 hbox hb; have n0_ := Aside0.mk (blk_below (g := gb204) (o := .cells #[.slice A0_0 l0_0.length c0_0, .int .i64 a0_1, .int .i64 a0_2, .int .i64 a0_3, .int .i64 a0_4, .slice A0_5 l0_5.length c0_5, .int .i64 a0_6] 26 (0, 0)) (by (with_reducible repeat (first | refine blk_drewN ?_ _ | refine blk_drew ?_ | refine blk_alloc ?_ _)); exact BK204.out) hb); have n1_ := Aside0.mk (below_step (by repeat (first | (with_reducible first | exact HB.out | apply below_alloc | apply pw_below_drewN | apply below_drew1 | refine below_set ?_ GE204.out) | exact HB.out)) hb); have n2_ := Aside0.mk (hbox); have n3_ := Aside0.mk ((by rw [hg]; exact (below_size (by repeat (first | (with_reducible first | exact HB.out | apply below_alloc | apply pw_below_drewN | apply below_drew1 | refine below_set ?_ GE204.out) | exact HB.out))) : w.heap.size ≤ gb205)); have n4_ := Aside0.mk ((by rw [hg]; exact (below_size (by repeat (first | (with_reducible first | exact HB.out | apply below_alloc | apply pw_below_drewN | apply below_drew1 | refine below_set ?_ GE204.out) | exact HB.out))) : w.heap.size ≤ gb205)); have n5_ := Aside0.mk ((by rw [hg]; exact Nat.ne_of_lt (blk_lt (g := gb204) (o := .cells #[.slice A0_0 l0_0.length c0_0, .int .i64 a0_1, .int .i64 a0_2, .int .i64 a0_3, .int .i64 a0_4, .slice A0_5 l0_5.length c0_5, .int .i64 a0_6] 26 (0, 0)) (by (with_reducible repeat (first | refine blk_drewN ?_ _ | refine blk_drew ?_ | refine blk_alloc ?_ _)); exact BK204.out)) : gb204 ≠ gb205)); have n6_ := Aside0.mk ((by rw [hg]; exact Nat.ne_of_gt (blk_lt (g := gb204) (o := .cells #[.slice A0_0 l0_0.length c0_0, .int .i64 a0_1, .int .i64 a0_2, .int .i64 a0_3, .int .i64 a0_4, .slice A0_5 l0_5.length c0_5, .int .i64 a0_6] 26 (0, 0)) (by (with_reducible repeat (first | refine blk_drewN ?_ _ | refine blk_drew ?_ | refine blk_alloc ?_ _)); exact BK204.out)) : gb205 ≠ gb204)); clear BK204; clear HB; have BK204 := n0_; have HB := n1_; have BK205 := n2_; have GW205 := n3_; have GE205 := n4_; have NB204_205 := n5_; have NB205_204 := n6_; clear n0_ n1_ n2_ n3_ n4_ n5_ n6_; clear hb hbox hg; have hnb10 := NB205_204.out; have hnc10 := NB204_205.out; have hcz11_0 : w9.cell? ⟨gb205, 0, none⟩ = some (.int .i64 a1_0) := (blk_cell BK205.out 0).trans rfl; have hcz11_1 : w9.cell? ⟨gb205, 1, none⟩ = some (.slice A1_1 l1_1.length c1_1) := (blk_cell BK205.out 1).trans rfl; have hcz11_2 : w9.cell? ⟨gb205, 2, none⟩ = some (.slice A1_2 l1_2.length c1_2) := (blk_cell BK205.out 2).trans rfl; have hfz11_0 := blk_frozen BK205.out 0; have hfz11_1 := blk_frozen BK205.out 1; have hfz11_2 := blk_frozen BK205.out 2; have p206 : 0 ≤ (a2 : Int) := of_decide_eq_true (by first | (with_reducible assumption) | assumption); have q206 : a2 < (l1_2.length : Int) := of_decide_eq_true (by first | (with_reducible assumption) | assumption); obtain ⟨ad206, e206, hx206_0⟩ := Kd.at_int HR1_2.out a2 p206 q206; cases e206; replace hx206_0 := (HB.out.cell (World.block_lt_of_cell? w _ hx206_0)).trans hx206_0; replace p206 := eq_true p206; replace q206 := eq_true q206; have hcz12_0 : w9.cell? ⟨gb204, 0, none⟩ = some (.slice A0_0 l0_0.length c0_0) := (blk_cell BK204.out 0).trans rfl; have hcz12_1 : w9.cell? ⟨gb204, 1, none⟩ = some (.int .i64 a0_1) := (blk_cell BK204.out 1).trans rfl; have hcz12_2 : w9.cell? ⟨gb204, 2, none⟩ = some (.int .i64 a0_2) := (blk_cell BK204.out 2).trans rfl; have hcz12_3 : w9.cell? ⟨gb204, 3, none⟩ = some (.int .i64 a0_3) := (blk_cell BK204.out 3).trans rfl; have hcz12_4 : w9.cell? ⟨gb204, 4, none⟩ = some (.int .i64 a0_4) := (blk_cell BK204.out 4).trans rfl; have hcz12_5 : w9.cell? ⟨gb204, 5, none⟩ = some (.slice A0_5 l0_5.length c0_5) := (blk_cell BK204.out 5).trans rfl; have hcz12_6 : w9.cell? ⟨gb204, 6, none⟩ = some (.int .i64 a0_6) := (blk_cell BK204.out 6).trans rfl; have hfz12_0 := blk_frozen BK204.out 0; have hfz12_1 := blk_frozen BK204.out 1; have hfz12_2 := blk_frozen BK204.out 2; have hfz12_3 := blk_frozen BK204.out 3; have hfz12_4 := blk_frozen BK204.out 4; have hfz12_5 := blk_frozen BK204.out 5; have hfz12_6 := blk_frozen BK204.out 6; have p207 : 0 ≤ (a2 : Int) := of_decide_eq_true (by first | (with_reducible assumption) | assumption); have q207 : a2 < (l0_0.length : Int) := of_decide_eq_true (by first | (with_reducible assumption) | assumption); obtain ⟨ad207, e207, hx207_0, hx207_1, hx207_2, hx207_3, hx207_4, hx207_5, hx207_6⟩ := at_T56 HR0_0.out a2 p207 q207; cases e207; replace hx207_0 := (HB.out.cell (World.block_lt_of_cell? w _ hx207_0)).trans hx207_0; replace hx207_1 := (HB.out.cell (World.block_lt_of_cell? w _ hx207_1)).trans hx207_1; replace hx207_2 := (HB.out.cell (World.block_lt_of_cell? w _ hx207_2)).trans hx207_2; replace hx207_3 := (HB.out.cell (World.block_lt_of_cell? w _ hx207_3)).trans hx207_3; replace hx207_4 := (HB.out.cell (World.block_lt_of_cell? w _ hx207_4)).trans hx207_4; replace hx207_5 := (HB.out.cell (World.block_lt_of_cell? w _ hx207_5)).trans hx207_5; replace hx207_6 := (HB.out.cell (World.block_lt_of_cell? w _ hx207_6)).trans hx207_6; replace p207 := eq_true p207; replace q207 := eq_true q207)); try go_wp2_with (first | ((with_reducible refine gate_dst (N := 3) rfl ?_); refine box_event ?hg (N := 3) ?hd (cs := #[.slice A0_0 l0_0.length c0_0, .int .i64 a0_1, .int .i64 a0_2, .int .i64 a0_3, .int .i64 a0_4, .slice A0_5 l0_5.length c0_5, .int .i64 a0_6]) (t := 26) ?hr ?_; (case hd => rfl); (case hg => rfl); (case hr => first | (go_simp; done) | (go_simp; rfl)); intro gb204 hg w8 hbox hb; have n0_ := Aside0.mk (below_step (by repeat (first | (with_reducible first | exact HB.out | apply below_alloc | apply pw_below_drewN | apply below_drew1) | exact HB.out)) hb); have n1_ := Aside0.mk (hbox); have n2_ := Aside0.mk ((by rw [hg]; exact (below_size (by repeat (first | (with_reducible first | exact HB.out | apply below_alloc | apply pw_below_drewN | apply below_drew1) | exact HB.out))) : w.heap.size ≤ gb204)); have n3_ := Aside0.mk ((by rw [hg]; exact (below_size (by repeat (first | (with_reducible first | exact HB.out | apply below_alloc | apply pw_below_drewN | apply below_drew1) | exact HB.out))) : w.heap.size ≤ gb204)); clear HB; have HB := n0_; have BK204 := n1_; have GW204 := n2_; have GE204 := n3_; clear n0_ n1_ n2_ n3_; clear hb hbox hg) | ((with_reducible refine gate_dst (N := 4) rfl ?_); refine box_event ?hg (N := 4) ?hd (cs := #[.int .i64 a1_0, .slice A1_1 l1_1.length c1_1, .slice A1_2 l1_2.length c1_2]) (t := 92) ?hr ?_; (case hd => rfl); (case hg => rfl); (case hr => first | (go_simp; done) | (go_simp; rfl)); intro gb205 hg w9 hbox hb; have n0_ := Aside0.mk (blk_below (g := gb204) (o := .cells #[.slice A0_0 l0_0.length c0_0, .int .i64 a0_1, .int .i64 a0_2, .int .i64 a0_3, .int .i64 a0_4, .slice A0_5 l0_5.length c0_5, .int .i64 a0_6] 26 (0, 0)) (by (with_reducible repeat (first | refine blk_drewN ?_ _ | refine blk_drew ?_ | refine blk_alloc ?_ _)); exact BK204.out) hb); have n1_ := Aside0.mk (below_step (by repeat (first | (with_reducible first | exact HB.out | apply below_alloc | apply pw_below_drewN | apply below_drew1 | refine below_set ?_ GE204.out) | exact HB.out)) hb); have n2_ := Aside0.mk (hbox); have n3_ := Aside0.mk ((by rw [hg]; exact (below_size (by repeat (first | (with_reducible first | exact HB.out | apply below_alloc | apply pw_below_drewN | apply below_drew1 | refine below_set ?_ GE204.out) | exact HB.out))) : w.heap.size ≤ gb205)); have n4_ := Aside0.mk ((by rw [hg]; exact (below_size (by repeat (first | (with_reducible first | exact HB.out | apply below_alloc | apply pw_below_drewN | apply below_drew1 | refine below_set ?_ GE204.out) | exact HB.out))) : w.heap.size ≤ gb205)); have n5_ := Aside0.mk ((by rw [hg]; exact Nat.ne_of_lt (blk_lt (g := gb204) (o := .cells #[.slice A0_0 l0_0.length c0_0, .int .i64 a0_1, .int .i64 a0_2, .int .i64 a0_3, .int .i64 a0_4, .slice A0_5 l0_5.length c0_5, .int .i64 a0_6] 26 (0, 0)) (by (with_reducible repeat (first | refine blk_drewN ?_ _ | refine blk_drew ?_ | refine blk_alloc ?_ _)); exact BK204.out)) : gb204 ≠ gb205)); have n6_ := Aside0.mk ((by rw [hg]; exact Nat.ne_of_gt (blk_lt (g := gb204) (o := .cells #[.slice A0_0 l0_0.length c0_0, .int .i64 a0_1, .int .i64 a0_2, .int .i64 a0_3, .int .i64 a0_4, .slice A0_5 l0_5.length c0_5, .int .i64 a0_6] 26 (0, 0)) (by (with_reducible repeat (first | refine blk_drewN ?_ _ | refine blk_drew ?_ | refine blk_alloc ?_ _)); exact BK204.out)) : gb205 ≠ gb204)); clear BK204; clear HB; have BK204 := n0_; have HB := n1_; have BK205 := n2_; have GW205 := n3_; have GE205 := n4_; have NB204_205 := n5_; have NB205_204 := n6_; clear n0_ n1_ n2_ n3_ n4_ n5_ n6_; clear hb hbox hg; have hnb10 := NB205_204.out; have hnc10 := NB204_205.out; have hcz11_0 : w9.cell? ⟨gb205, 0, none⟩ = some (.int .i64 a1_0) := (blk_cell BK205.out 0).trans rfl; have hcz11_1 : w9.cell? ⟨gb205, 1, none⟩ = some (.slice A1_1 l1_1.length c1_1) := (blk_cell BK205.out 1).trans rfl; have hcz11_2 : w9.cell? ⟨gb205, 2, none⟩ = some (.slice A1_2 l1_2.length c1_2) := (blk_cell BK205.out 2).trans rfl; have hfz11_0 := blk_frozen BK205.out 0; have hfz11_1 := blk_frozen BK205.out 1; have hfz11_2 := blk_frozen BK205.out 2; have p206 : 0 ≤ (a2 : Int) := of_decide_eq_true (by first | (with_reducible assumption) | assumption); have q206 : a2 < (l1_2.length : Int) := of_decide_eq_true (by first | (with_reducible assumption) | assumption); obtain ⟨ad206, e206, hx206_0⟩ := Kd.at_int HR1_2.out a2 p206 q206; cases e206; replace hx206_0 := (HB.out.cell (World.block_lt_of_cell? w _ hx206_0)).trans hx206_0; replace p206 := eq_true p206; replace q206 := eq_true q206; have hcz12_0 : w9.cell? ⟨gb204, 0, none⟩ = some (.slice A0_0 l0_0.length c0_0) := (blk_cell BK204.out 0).trans rfl; have hcz12_1 : w9.cell? ⟨gb204, 1, none⟩ = some (.int .i64 a0_1) := (blk_cell BK204.out 1).trans rfl; have hcz12_2 : w9.cell? ⟨gb204, 2, none⟩ = some (.int .i64 a0_2) := (blk_cell BK204.out 2).trans rfl; have hcz12_3 : w9.cell? ⟨gb204, 3, none⟩ = some (.int .i64 a0_3) := (blk_cell BK204.out 3).trans rfl; have hcz12_4 : w9.cell? ⟨gb204, 4, none⟩ = some (.int .i64 a0_4) := (blk_cell BK204.out 4).trans rfl; have hcz12_5 : w9.cell? ⟨gb204, 5, none⟩ = some (.slice A0_5 l0_5.length c0_5) := (blk_cell BK204.out 5).trans rfl; have hcz12_6 : w9.cell? ⟨gb204, 6, none⟩ = some (.int .i64 a0_6) := (blk_cell BK204.out 6).trans rfl; have hfz12_0 := blk_frozen BK204.out 0; have hfz12_1 := blk_frozen BK204.out 1; have hfz12_2 := blk_frozen BK204.out 2; have hfz12_3 := blk_frozen BK204.out 3; have hfz12_4 := blk_frozen BK204.out 4; have hfz12_5 := blk_frozen BK204.out 5; have hfz12_6 := blk_frozen BK204.out 6; have p207 : 0 ≤ (a2 : Int) := of_decide_eq_true (by first | (with_reducible assumption) | assumption); have q207 : a2 < (l0_0.length : Int) := of_decide_eq_true (by first | (with_reducible assumption) | assumption); obtain ⟨ad207, e207, hx207_0, hx207_1, hx207_2, hx207_3, hx207_4, hx207_5, hx207_6⟩ := at_T56 HR0_0.out a2 p207 q207; cases e207; replace hx207_0 := (HB.out.cell (World.block_lt_of_cell? w _ hx207_0)).trans hx207_0; replace hx207_1 := (HB.out.cell (World.block_lt_of_cell? w _ hx207_1)).trans hx207_1; replace hx207_2 := (HB.out.cell (World.block_lt_of_cell? w _ hx207_2)).trans hx207_2; replace hx207_3 := (HB.out.cell (World.block_lt_of_cell? w _ hx207_3)).trans hx207_3; replace hx207_4 := (HB.out.cell (World.block_lt_of_cell? w _ hx207_4)).trans hx207_4; replace hx207_5 := (HB.out.cell (World.block_lt_of_cell? w _ hx207_5)).trans hx207_5; replace hx207_6 := (HB.out.cell (World.block_lt_of_cell? w _ hx207_6)).trans hx207_6; replace p207 := eq_true p207; replace q207 := eq_true q207)))
    go_ret
    exact ⟨by first | rfl | (simp [errW_none, errW_some] <;> rfl) | (simp only [← hji7]; first | rfl | (simp [errW_none, errW_some] <;> rfl)) | (simp [*, errW_none, errW_some] <;> rfl), by repeat (first | (with_reducible first | exact HB.out | apply below_alloc | apply pw_below_drewN | apply below_drew1 | refine below_set ?_ GE204.out | refine below_set ?_ GE205.out) | exact HB.out)⟩
   ·rw [if_neg c6] at H
    exact absurd H (by simp)
  ·rw [if_neg c5] at H
   exact absurd H (by simp)
 ·rw [if_neg c4] at H
  exact absurd H (by simp)
end Go.Proofs.YtbhjfojbjpbdbaaDoorPX
namespace Go.Proofs.YtbhjfojbjpbdbaaDoorPX
open Go.Proofs.YtbhjfojbjpbdbaaDoor (Glob ix3 blk_ix3 bl nrm_ pu_ po_ tk_)
open Go.RowKit Go.Proofs.YtbhjfojbjpbdbaaDoorW.PrintWords Go.Proofs.YtbhjfojbjpbdbaaDoorW.PrintLast Go.Proofs.YtbhjfojbjpbdbaaDoorW.PrintMore

set_option linter.unusedVariables false
set_option linter.unusedSimpArgs false
end Go.Proofs.YtbhjfojbjpbdbaaDoorPX
namespace Go.Proofs.YtbhjfojbjpbdbaaDoorPX
open Go.Proofs.YtbhjfojbjpbdbaaDoor (Glob ix3 blk_ix3 bl nrm_ pu_ po_ tk_)
open Go.RowKit Go.Proofs.YtbhjfojbjpbdbaaDoorW.PrintWords Go.Proofs.YtbhjfojbjpbdbaaDoorW.PrintLast Go.Proofs.YtbhjfojbjpbdbaaDoorW.PrintMore

set_option linter.unusedVariables false
set_option linter.unusedSimpArgs false
end Go.Proofs.YtbhjfojbjpbdbaaDoorPX
namespace Go.Proofs.YtbhjfojbjpbdbaaDoor
theorem minL_le (f : Tr → Int) : ∀ (l : List Tr) (m : Int), minL f m l ≤ m ∧ ∀ t ∈ l, minL f m l ≤ f t
 | [], m => ⟨Int.le_refl _, by simp⟩
 | x :: l, m => by
  obtain ⟨h1, h2⟩ := minL_le f l (min m (f x))
  have e : minL f m (x :: l) = minL f (min m (f x)) l := rfl
  rw [e]
  refine ⟨by omega, fun t ht => ?_⟩
  rcases List.mem_cons.1 ht with rfl | ht
  ·omega
  ·exact h2 t ht
theorem minL_mem (f : Tr → Int) : ∀ (l : List Tr) (m : Int), minL f m l = m ∨ ∃ t ∈ l, minL f m l = f t
 | [], m => .inl rfl
 | x :: l, m => by
  have e : minL f m (x :: l) = minL f (min m (f x)) l := rfl
  rw [e]
  rcases minL_mem f l (min m (f x)) with h | ⟨t, ht, h⟩
  ·rw [h]
   by_cases hm : m ≤ f x
   ·left; omega
   ·right; exact ⟨x, List.mem_cons_self, by omega⟩
  ·exact .inr ⟨t, List.mem_cons_of_mem _ ht, h⟩
theorem toldLo_le (f : Tr → Int) {l : List Tr} {t : Tr} (h : t ∈ l) : toldLo f l ≤ f t := by
 cases l with
 | nil => cases h
 | cons x l => exact (minL_le f (x :: l) (f x)).2 t h
theorem toldLo_mem (f : Tr → Int) {l : List Tr} (h : l ≠ []) : ∃ t ∈ l, toldLo f l = f t := by
 cases l with
 | nil => exact absurd rfl h
 | cons x l =>
  rcases minL_mem f (x :: l) (f x) with h | ⟨t, ht, h⟩
  ·exact ⟨x, List.mem_cons_self, h⟩
  ·exact ⟨t, ht, h⟩
end Go.Proofs.YtbhjfojbjpbdbaaDoor
namespace Go.Proofs.YtbhjfojbjpbdbaaDoor
end Go.Proofs.YtbhjfojbjpbdbaaDoor
namespace Go.Proofs.YtbhjfojbjpbdbaaDoor
def Way (cost : Int) (cks : List Ck) : List St → Nat → Tr → Int → Tr → Prop
 | [], _, t, _, y => y = t
 | x :: l, j, t, fr, y => ∃ d r s, (x.dl ≤ d ∧ d ≤ x.dh) ∧ (x.rl ≤ r ∧ r ≤ x.rh) ∧ (x.sl ≤ s ∧ s ≤ x.sh) ∧ rightL cks j (fr + d + r + cost) = true ∧ Way cost cks l (j + 1) (t.put j (fr + d + r + cost) r) (fr + d + r + cost + s) y
theorem mem_goes (cost : Int) (cks : List Ck) : ∀ (l : List St) (j : Nat) (t : Tr) (fr : Int) (y : Tr), y ∈ goes cost cks l j t fr ↔ Way cost cks l j t fr y
 | [], _, t, _, y => by simp [goes, Way]
 | x :: l, j, t, fr, y => by
  simp only [goes, Way, List.mem_flatMap]
  constructor
  ·rintro ⟨d, hd, r, hr, hy⟩
   split at hy
   ·rename_i hR
    rw [List.mem_flatMap] at hy
    obtain ⟨s, hs, hy⟩ := hy
    exact ⟨d, r, s, upto_mem.1 hd, upto_mem.1 hr, upto_mem.1 hs, hR, (mem_goes cost cks l _ _ _ _).1 hy⟩
   ·cases hy
  ·rintro ⟨d, r, s, hd, hr, hs, hR, hy⟩
   refine ⟨d, upto_mem.2 hd, r, upto_mem.2 hr, ?_⟩
   rw [if_pos hR, List.mem_flatMap]
   exact ⟨s, upto_mem.2 hs, (mem_goes cost cks l _ _ _ _).2 hy⟩
theorem mem_truths {b : Bk} {y : Tr} : y ∈ truths b ↔ ∃ w, w < 3 ∧ bitOf b.wth w = true ∧ Way (b.cost w) b.cks b.sts 0 (Tr.start w) 0 y := by
 simp only [truths, List.mem_flatMap, List.mem_range]
 constructor
 ·rintro ⟨w, hw, hy⟩
  split at hy
  ·rename_i hb; exact ⟨w, hw, hb, (mem_goes _ _ _ _ _ _ _).1 hy⟩
  ·cases hy
 ·rintro ⟨w, hw, hb, hy⟩
  exact ⟨w, hw, by rw [if_pos hb]; exact (mem_goes _ _ _ _ _ _ _).2 hy⟩
theorem put_wth (t : Tr) (k : Nat) (m r : Int) : (t.put k m r).w = t.w := by unfold Tr.put; split <;> rfl
theorem put_rough_same (t : Tr) (k : Nat) (m r : Int) (hk : k ≤ 2) : (t.put k m r).rough k = r ∧ (t.put k m r).comes k = m := by
 unfold Tr.put Tr.rough Tr.comes
 match k, hk with
 | 0, _ => exact ⟨rfl, rfl⟩
 | 1, _ => exact ⟨rfl, rfl⟩
 | 2, _ => exact ⟨rfl, rfl⟩
theorem put_rough_other (t : Tr) (k i : Nat) (m r : Int) (hk : k ≤ 2) (hi : i ≤ 2) (h : i ≠ k) : (t.put k m r).rough i = t.rough i ∧ (t.put k m r).comes i = t.comes i := by
 have h1 : k = 0 ∨ k = 1 ∨ k = 2 := by omega
 have h2 : i = 0 ∨ i = 1 ∨ i = 2 := by omega
 rcases h1 with rfl | rfl | rfl <;> rcases h2 with rfl | rfl | rfl <;> first | exact absurd rfl h | exact ⟨rfl, rfl⟩
theorem way_frame {cost : Int} {cks : List Ck} : ∀ {l : List St} {j : Nat} {t : Tr} {fr : Int} {y : Tr}, j + l.length ≤ 3 → Way cost cks l j t fr y → y.w = t.w ∧ ∀ i, i ≤ 2 → i < j ∨ j + l.length ≤ i → y.rough i = t.rough i ∧ y.comes i = t.comes i
 | [], _, _, _, _, _, h => by cases h; exact ⟨rfl, fun _ _ _ => ⟨rfl, rfl⟩⟩
 | x :: l, j, t, fr, y, hj, h => by
  obtain ⟨d, r, s, _, _, _, _, hy⟩ := h
  simp only [List.length_cons] at hj
  obtain ⟨h1, h2⟩ := way_frame (by omega) hy
  refine ⟨h1.trans (put_wth _ _ _ _), fun i hi hij => ?_⟩
  simp only [List.length_cons] at hij
  obtain ⟨e1, e2⟩ := h2 i hi (by omega)
  obtain ⟨e3, e4⟩ := put_rough_other t j i (fr + d + r + cost) r (by omega) hi (by omega)
  exact ⟨e1.trans e3, e2.trans e4⟩
theorem way_rough {cost : Int} {cks : List Ck} : ∀ {l : List St} {j : Nat} {t : Tr} {fr : Int} {y : Tr}, j + l.length ≤ 3 → Way cost cks l j t fr y → ∀ i x, l[i]? = some x → x.rl ≤ y.rough (j + i) ∧ y.rough (j + i) ≤ x.rh
 | [], _, _, _, _, _, _, i, x, hx => by simp at hx
 | x :: l, j, t, fr, y, hj, h, i, z, hz => by
  obtain ⟨d, r, s, _, hr, _, _, hy⟩ := h
  simp only [List.length_cons] at hj
  cases i with
  | zero =>
   simp at hz; subst hz
   obtain ⟨e1, _⟩ := (way_frame (by omega) hy).2 j (by omega) (by omega)
   rw [Nat.add_zero, e1, (put_rough_same t j _ r (by omega)).1]
   exact hr
  | succ i =>
   simp only [List.getElem?_cons_succ] at hz
   have := way_rough (by omega) hy i z hz
   rwa [show j + 1 + i = j + (i + 1) by omega] at this
theorem truth_rough {b : Bk} (hs : b.sts.length ≤ 3) {t : Tr} (ht : t ∈ truths b) : (∀ i x, b.sts[i]? = some x → x.rl ≤ t.rough i ∧ t.rough i ≤ x.rh) ∧ ∀ i, i ≤ 2 → b.sts.length ≤ i → t.rough i = 0 ∧ t.comes i = 0 := by
 obtain ⟨w, _, _, hy⟩ := mem_truths.1 ht
 refine ⟨fun i x hx => ?_, fun i hi hl => ?_⟩
 ·have := way_rough (by omega) hy i x hx
  rwa [Nat.zero_add] at this
 ·obtain ⟨e1, e2⟩ := (way_frame (by omega) hy).2 i hi (by omega)
  rw [e1, e2]
  unfold Tr.start Tr.rough Tr.comes
  constructor
  ·split <;> rfl
  ·split <;> rfl
theorem kind_cases {b : Bk} (hT : truths b ≠ []) :
  (kindOf b = 0 ∧ blames b = 0 ∧ blames b ≠ (truths b).length) ∨ (kindOf b = 1 ∧ 0 < blames b ∧ blames b ≠ (truths b).length) ∨ (kindOf b = 2 ∧ 0 < blames b ∧ blames b = (truths b).length) := by
 have hl : 0 < (truths b).length := List.length_pos_iff.2 hT
 unfold kindOf
 by_cases h1 : 0 < blames b
 ·by_cases h2 : blames b = (truths b).length
  ·right; right; rw [if_pos h1, if_pos h2]; exact ⟨rfl, h1, h2⟩
  ·right; left; rw [if_pos h1, if_neg h2]; exact ⟨rfl, h1, h2⟩
 ·left
  have h2 : blames b ≠ (truths b).length := by omega
  rw [if_neg h1, if_neg h2]; exact ⟨rfl, by omega, h2⟩
end Go.Proofs.YtbhjfojbjpbdbaaDoor
namespace Go.Proofs.YtbhjfojbjpbdbaaDoor
def St.later (y : Int) (x : St) : St := { x with due := x.due + y }
def Bk.later (b : Bk) (y : Int) : Bk := { b with sts := b.sts.map (St.later y) }
end Go.Proofs.YtbhjfojbjpbdbaaDoor
namespace Go.Proofs.YtbhjfojbjpbdbaaDoor
end Go.Proofs.YtbhjfojbjpbdbaaDoor
namespace Go.Proofs.YtbhjfojbjpbdbaaDoorPX
open Go Go.RowKit Go.Proofs.YtbhjfojbjpbdbaaDoor Go.Proofs.YtbhjfojbjpbdbaaDoorW.PrintWords Go.Proofs.YtbhjfojbjpbdbaaDoorW.PrintMore
theorem in_key : ∀ s < 32, ∀ n < 6, (Go.bits .and .i64 (shr .i64 ((s : Nat) : Int) ((n : Nat) : Int)) 1 == 1) = bitOf ((s : Nat) : Int) n := by decide +kernel
theorem in_f {s : Int} {n : Nat} (h0 : 0 ≤ s) (h1 : s < 32) (hn : n < 6) : macadamref00_In.f s (n : Int) = some (bitOf s n) := by
 unfold macadamref00_In.f
 rw [if_pos (by omega)]
 have := in_key s.toNat (by omega) n hn
 rw [show ((s.toNat : Nat) : Int) = s by omega] at this
 rw [this]
section
variable {l : List S56} {a1 a2 a3 a4 : Int} {ks : List S42} {a6 : Int}
abbrev BK (l : List S56) (a1 a2 a3 a4 : Int) (ks : List S42) (a6 : Int) : Bk := bkOf l a1 a2 a3 a4 ks a6
theorem lok_of (h : Sound (BK l a1 a2 a3 a4 ks a6)) : LOk l := by
 refine ⟨by have := h.bd.l3; simpa [bkOf] using this, fun x hx => ?_⟩
 have := h.sts (stOf x) (by simp only [bkOf]; exact List.mem_map_of_mem hx)
 simp only [stOf] at this
 omega
theorem kok_of (h : Sound (BK l a1 a2 a3 a4 ks a6)) : KOk ks := by
 refine ⟨by have := h.nc; simpa [bkOf] using this, fun c hc => ?_⟩
 have := h.ck (ckOf c) (by simp only [bkOf]; exact List.mem_map_of_mem hc)
 simp only [ckOf] at this
 omega
theorem cost_ix (w : Nat) (hw : w < 3) : (BK l a1 a2 a3 a4 ks a6).cost w = ix3 a2 a3 a4 (w : Int) := by
 have : w = 0 ∨ w = 1 ∨ w = 2 := by omega
 rcases this with rfl | rfl | rfl <;> rfl
def tFrom (b : Bk) : Nat → List Tr
 | 0 => []
 | d + 1 => (if bitOf b.wth (2 - d) then goes (b.cost (2 - d)) b.cks b.sts 0 (Tr.start (2 - d)) 0 else []) ++ tFrom b d
theorem tFrom_all (b : Bk) : tFrom b 3 = truths b := by
 simp [tFrom, truths, List.range_succ]
theorem truths_ev (h : Sound (BK l a1 a2 a3 a4 ks a6)) : Ev (fun k => macadamref06_truths.f k l a1 a2 a3 a4 ks a6) ((truths (BK l a1 a2 a3 a4 ks a6)).map (trS l.length)) := by
 have hl := truths_len h
 rw [← tFrom_all] at hl ⊢
 have hwt := h.wt
 have key : ∀ (d : Nat) (out : List S92), d ≤ 3 → out.length + (tFrom (BK l a1 a2 a3 a4 ks a6) d).length ≤ 20000 →
   Ev (fun k => macadamref06_truths.l0 k out ((3 - d : Nat) : Int) l a1 a2 a3 a4 ks a6) (out ++ (tFrom (BK l a1 a2 a3 a4 ks a6) d).map (trS l.length)) := by
  intro d
  induction d with
  | zero =>
   intro out _ _
   refine Ev.step (f := fun _ => some out) (fun k => ?_) (by simp only [tFrom, List.map_nil, List.append_nil]; exact Ev.now _)
   rw [macadamref06_truths.l0, if_neg (by omega)]
  | succ d ihd =>
   intro out hd hlo
   have hw3 : 3 - (d + 1) < 3 := by omega
   have e2 : 3 - (d + 1) = 2 - d := by omega
   rw [e2] at hw3 ⊢
   have e1 : wrap64 (((2 - d : Nat) : Int) + 1) = ((3 - d : Nat) : Int) := by rw [w64 (by omega) (by omega)]; omega
   simp only [tFrom] at hlo ⊢
   have hin := in_f (s := a1) (n := 2 - d) (by have : (BK l a1 a2 a3 a4 ks a6).wth = a1 := rfl; omega) (by have : (BK l a1 a2 a3 a4 ks a6).wth = a1 := rfl; omega) (by omega)
   have ewt : (BK l a1 a2 a3 a4 ks a6).wth = a1 := rfl
   rw [ewt] at hlo ⊢
   cases hb : bitOf a1 (2 - d) with
   | false =>
    rw [hb] at hlo hin
    simp only [Bool.false_eq_true, if_false, List.nil_append] at hlo ⊢
    refine Ev.step (fun k => ?_) (ihd out (by omega) hlo)
    rw [macadamref06_truths.l0, if_pos (by omega), hin, Option.bind_some, if_neg (by decide), e1]
   | true =>
    rw [hb] at hlo hin
    simp only [if_true, List.length_append] at hlo ⊢
    have hc := h.co (2 - d)
    rw [cost_ix _ hw3] at hlo hc ⊢
    have hg := goes_ev (lok_of h) (kok_of h) (a2 := a2) (a3 := a3) (a4 := a4) (a1 := a1) (a6 := a6) (w := ((2 - d : Nat) : Int)) (by omega) hc l.length 0 (Tr.start (2 - d)) 0 (by omega) rfl (by omega)
    have h2 := ihd (out ++ (goes (ix3 a2 a3 a4 ((2 - d : Nat) : Int)) (ks.map ckOf) (l.map stOf) 0 (Tr.start (2 - d)) 0).map (trS l.length)) (by omega) (by rw [List.length_append, List.length_map]; simp only [bkOf] at hlo; simp only [bkOf]; omega)
    rw [List.map_append, ← List.append_assoc]
    refine Ev.step (fun k => by rw [macadamref06_truths.l0, if_pos (by omega), hin, Option.bind_some, if_pos rfl]) ?_
    refine Ev.bind hg ?_
    refine Ev.congr (fun k => ?_) h2
    rw [if_pos (by rw [List.length_map]; simp only [bkOf] at hlo; simp only [List.drop_zero]; omega), e1]
    rfl
 have := key 3 [] (Nat.le_refl _) (by simpa using hl)
 exact this
theorem check_zero {b : Bk} : checkS b = 0 ↔ bkOk b = true := by unfold checkS; split <;> simp_all
theorem asked_ref (is : Bool) : Ev (fun k => macadamref06_asked.f k l a1 a2 a3 a4 ks a6 is) (if askE (BK l a1 a2 a3 a4 ks a6) is = 0 then (truths (BK l a1 a2 a3 a4 ks a6)).map (trS l.length) else [], askE (BK l a1 a2 a3 a4 ks a6) is) := by
 unfold macadamref06_asked.f macadamref06_Check.f
 by_cases h : bkOk (BK l a1 a2 a3 a4 ks a6) = true
 ·have hc : checkS (BK l a1 a2 a3 a4 ks a6) = 0 := check_zero.2 h
  cases is with
  | false =>
   have ha : askE (BK l a1 a2 a3 a4 ks a6) false = 61 := by unfold askE; rw [if_pos h]; rfl
   rw [ha, if_neg (by decide)]
   refine Ev.congr (fun k => ?_) (Ev.now _)
   show (some (checkS (BK l a1 a2 a3 a4 ks a6))).bind _ = _
   rw [Option.bind_some, hc, if_pos rfl, if_neg (by decide)]
  | true =>
   refine Ev.congr (fun k => by show (some (checkS (BK l a1 a2 a3 a4 ks a6))).bind _ = _; rw [Option.bind_some, hc, if_pos rfl, if_pos rfl]) ?_
   refine Ev.bind (truths_ev (sound_of h)) ?_
   rcases ht : truths (BK l a1 a2 a3 a4 ks a6) with _ | ⟨t, r⟩
   ·have ha : askE (BK l a1 a2 a3 a4 ks a6) true = 62 := by unfold askE; rw [if_pos h, ht]; rfl
    rw [ha]
    exact Ev.now _
   ·have ha : askE (BK l a1 a2 a3 a4 ks a6) true = 0 := by unfold askE; rw [if_pos h, ht]; rfl
    rw [ha, if_pos rfl, if_neg (by simp; omega)]
    exact Ev.now _
 ·have h' : checkS (BK l a1 a2 a3 a4 ks a6) = 60 := by unfold checkS; rw [if_neg h]
  have ha : askE (BK l a1 a2 a3 a4 ks a6) is = 60 := by unfold askE; rw [if_neg h]
  rw [ha, if_neg (by decide)]
  refine Ev.congr (fun k => ?_) (Ev.now _)
  show (some (checkS (BK l a1 a2 a3 a4 ks a6))).bind _ = _
  rw [Option.bind_some, h', if_neg (by decide)]
end
theorem mx_max (a b : Int) : mx a b = max a b := by unfold mx; split <;> omega
theorem mn_min (a b : Int) : mn a b = min a b := by unfold mn; split <;> omega
theorem union_f (a b c d : Int) : macadamref00_Union.f a b c d = some (min a c, max b d) := by unfold macadamref00_Union.f macadamref00_Reach.f; simp [mx_max, mn_min]
theorem just_f (a : Int) : macadamref00_Just.f a = some (a, a) := rfl
theorem ends_ev (xs : List Int) (hl : xs.length ≤ 100000) : ∀ (d i : Nat) (lo hi : Int), i + d = xs.length → Ev (fun k => macadamref06_ends.l0 k xs (i : Int) lo hi) ((xs.drop i).foldl min lo, (xs.drop i).foldl max hi)
 | 0, i, lo, hi, h => by
  rw [List.drop_eq_nil_of_le (by omega)]
  refine Ev.step (f := fun _ => some (lo, hi)) (fun k => ?_) (Ev.now _)
  rw [macadamref06_ends.l0, if_neg (by omega)]
 | d + 1, i, lo, hi, h => by
  have hlt : i < xs.length := by omega
  have er : rd xs (i : Int) = xs[i] := by unfold rd; simp [hlt]
  have e1 : wrap64 ((i : Int) + 1) = ((i + 1 : Nat) : Int) := by rw [w64 (by omega) (by omega)]; omega
  rw [List.drop_eq_getElem_cons hlt, List.foldl_cons, List.foldl_cons]
  refine Ev.step (fun k => ?_) (ends_ev xs hl d (i + 1) (min lo xs[i]) (max hi xs[i]) (by omega))
  rw [macadamref06_ends.l0, if_pos (by omega), if_pos (by omega), just_f, Option.bind_some, union_f, Option.bind_some, er, e1]
theorem fold_map (f : Tr → Int) (g : Int → Int → Int) : ∀ (l : List Tr) (m : Int), (l.map f).foldl g m = l.foldl (fun m t => g m (f t)) m
 | [], _ => rfl
 | t :: l, m => by rw [List.map_cons, List.foldl_cons, List.foldl_cons]; exact fold_map f g l _
theorem ends_ref (f : Tr → Int) (l : List Tr) (hl : l.length ≤ 100000) (hne : l ≠ []) : Ev (fun k => macadamref06_ends.f k (l.map f)) (toldLo f l, toldHi f l) := by
 rcases l with _ | ⟨t, r⟩
 ·exact absurd rfl hne
 ·unfold macadamref06_ends.f
  have er : rd ((t :: r).map f) 0 = f t := rfl
  refine Ev.congr (fun k => by rw [if_pos (by simp), just_f, Option.bind_some, er]) ?_
  have := ends_ev ((t :: r).map f) (by simpa using hl) (t :: r).length 0 (f t) (f t) (by simp)
  rw [List.drop_zero, fold_map, fold_map] at this
  exact this
section
variable {l : List S56} {a1 a2 a3 a4 : Int} {ks : List S42} {a6 : Int}
theorem rd92 (xs : List S92) (i : Nat) {x : S92} (h : xs[i]? = some x) : rd_T92 xs (i : Int) = x := by
 unfold rd_T92
 simp [List.getD_eq_getElem?_getD, h]
theorem rd_take {x y z : Int} {n k : Nat} (hk : k < n) (hn : n ≤ 3) : rd ([x, y, z].take n) (k : Int) = at3 x y z k := by
 unfold rd
 have hn' : n = 1 ∨ n = 2 ∨ n = 3 := by omega
 rcases hn' with rfl | rfl | rfl
 ·obtain rfl : k = 0 := by omega
  rfl
 ·have : k = 0 ∨ k = 1 := by omega
  rcases this with rfl | rfl <;> rfl
 ·have : k = 0 ∨ k = 1 ∨ k = 2 := by omega
  rcases this with rfl | rfl | rfl <;> rfl
theorem comes_rd (t : Tr) {n k : Nat} (hk : k < n) (hn : n ≤ 3) : rd (trS n t).f2 (k : Int) = t.comes k := by
 simp only [trS, rd_take hk hn]
 unfold Tr.comes at3
 split <;> rfl
theorem comes_len (t : Tr) {n : Nat} (hn : n ≤ 3) : ((trS n t).f2).length = n := take3_len hn
theorem rough_len (t : Tr) {n : Nat} (hn : n ≤ 3) : ((trS n t).f1).length = n := take3_len hn
theorem late_f (h : Sound (BK l a1 a2 a3 a4 ks a6)) {k : Nat} (hk : k < l.length) {t : Tr} (ht : TrOk t) :
  macadamref06_late.f l a1 a2 a3 a4 ks a6 (trS l.length t).f0 (trS l.length t).f1 (trS l.length t).f2 (k : Int) = some (lateT (BK l a1 a2 a3 a4 ks a6) k t) := by
 have hl3 := (lok_of h).1
 obtain ⟨x, hx⟩ : ∃ x, l[k]? = some x := ⟨_, List.getElem?_eq_getElem hk⟩
 have hdue : (BK l a1 a2 a3 a4 ks a6).due k = x.f0 := by simp [Bk.due, bkOf, hx, stOf]
 have hd := h.bd.due k
 rw [hdue] at hd
 obtain ⟨_, c0, c1, c2, _⟩ := ht
 have hc : 0 ≤ t.comes k ∧ t.comes k ≤ 1000 := by unfold Tr.comes; split <;> omega
 unfold macadamref06_late.f lateT
 rw [if_pos (by omega), comes_len _ hl3, if_pos (by omega), if_pos (by omega), rd56 l k hx, comes_rd _ hk hl3, w64 (by omega) (by omega), mx_max, hdue]
theorem span_ref {F : Tr → Int} {is : Bool} {G : Nat → List S92 → Option (Int × Int × Int)} (hG : askE (BK l a1 a2 a3 a4 ks a6) is = 0 → Ev (fun k => G k ((truths (BK l a1 a2 a3 a4 ks a6)).map (trS l.length))) (toldLo F (truths (BK l a1 a2 a3 a4 ks a6)), toldHi F (truths (BK l a1 a2 a3 a4 ks a6)), 0)) :
  Ev (fun k => (macadamref06_asked.f k l a1 a2 a3 a4 ks a6 is).bind fun r => if r.2 = 0 then G k r.1 else some (0, 0, r.2)) (spanE (BK l a1 a2 a3 a4 ks a6) is F) := by
 refine Ev.bind (asked_ref is) ?_
 unfold spanE
 by_cases h : askE (BK l a1 a2 a3 a4 ks a6) is = 0
 ·rw [if_pos h, if_pos h]
  refine Ev.congr (fun k => ?_) (hG h)
  rw [if_pos h]
 ·rw [if_neg h, if_neg h]
  refine Ev.congr (fun k => ?_) (Ev.now _)
  rw [if_neg h]
theorem asked_zero {is : Bool} (h : askE (BK l a1 a2 a3 a4 ks a6) is = 0) : Sound (BK l a1 a2 a3 a4 ks a6) ∧ is = true ∧ truths (BK l a1 a2 a3 a4 ks a6) ≠ [] := by
 unfold askE at h
 split at h
 ·rename_i hb
  split at h
  ·rename_i hi
   split at h
   ·cases h
   ·rename_i ht
    exact ⟨sound_of hb, hi, fun e => ht (by rw [e]; rfl)⟩
  ·cases h
 ·cases h
end
end Go.Proofs.YtbhjfojbjpbdbaaDoorPX
namespace Go.Proofs.YtbhjfojbjpbdbaaDoorPX
open Go.Proofs.YtbhjfojbjpbdbaaDoor (Glob ix3 blk_ix3 bl nrm_ pu_ po_ tk_)
open Go.RowKit Go.Proofs.YtbhjfojbjpbdbaaDoorW.PrintWords Go.Proofs.YtbhjfojbjpbdbaaDoorW.PrintLast Go.Proofs.YtbhjfojbjpbdbaaDoorW.PrintMore

set_option linter.unusedVariables false
set_option linter.unusedSimpArgs false
def macadamref06_Weather.l0 : Nat → List (S92) → Int → Int → Option (Int × Int)
 | 0, _, _, _ => none
 | k + 1, x4, x6, x7 => if x7 < (x4.length : Int) then (if 0 ≤ x7 then (if 0 ≤ ((rd_T92 x4 x7).f0) then (macadamref06_Weather.l0 k x4 (Go.bits .or .i64 x6 (shl .i64 1 ((rd_T92 x4 x7).f0))) (wrap64 (x7 + 1))) else (none)) else (none)) else (some (x6, 0))
def macadamref06_Weather.f (k : Nat) (l0_0 : List (S56)) (a0_1 : Int) (a0_2 : Int) (a0_3 : Int) (a0_4 : Int) (l0_5 : List (S42)) (a0_6 : Int) : Option (Int × Int) := (macadamref06_asked.f k l0_0 a0_1 a0_2 a0_3 a0_4 l0_5 a0_6 true).bind fun bt378 => (if bt378.2 = 0 then (macadamref06_Weather.l0 k bt378.1 0 0) else (some (0, bt378.2)))
set_option maxHeartbeats 8000000 in
set_option maxRecDepth 100000 in
theorem macadamref06_Weather.calls (k : Nat) (A0_0 : Option Addr) (c0_0 : Nat) (l0_0 : List (S56)) (a0_1 : Int) (a0_2 : Int) (a0_3 : Int) (a0_4 : Int) (A0_5 : Option Addr) (c0_5 : Nat) (l0_5 : List (S42)) (a0_6 : Int) (r1 : Int) (r2 : Int) (w : World) (hr0_0 : Kd.C k56 w A0_0 l0_0.length l0_0) (hc0_0 : l0_0.length ≤ c0_0) (hr0_5 : Kd.C k42 w A0_5 l0_5.length l0_5) (hc0_5 : l0_5.length ≤ c0_5) (h : macadamref06_Weather.f k l0_0 a0_1 a0_2 a0_3 a0_4 l0_5 a0_6 = some (r1, r2)) :
  Calls Tryd.prog 27 #[.agg #[.slice A0_0 l0_0.length c0_0, .int .i64 a0_1, .int .i64 a0_2, .int .i64 a0_3, .int .i64 a0_4, .slice A0_5 l0_5.length c0_5, .int .i64 a0_6]] w fun e w' => e = .returned (.tuple #[.int .i64 r1, .int .i64 r2]) ∧ Below w.heap.size w w' := by
 have hu26 := Tryd.underlying26
 have HR0_0 := Aside0.mk hr0_0
 have HC0_0 := Aside0.mk hc0_0
 clear hr0_0 hc0_0
 have HR0_5 := Aside0.mk hr0_5
 have HC0_5 := Aside0.mk hc0_5
 clear hr0_5 hc0_5
 have HB := Aside0.mk (Below.refl w.heap.size w)
 have H : ((macadamref06_asked.f k l0_0 a0_1 a0_2 a0_3 a0_4 l0_5 a0_6 true).bind fun bt378 => (if bt378.2 = 0 then (macadamref06_Weather.l0 k bt378.1 0 0) else (some (0, bt378.2)))) = some (r1, r2) := h
 clear h
 replace H := Option.bind_eq_some_iff.mp H
 obtain ⟨⟨t378, t381⟩, A20, H⟩ := H
 replace H : (if t381 = 0 then (macadamref06_Weather.l0 k t378 0 0) else (some (0, t381))) = some (r1, r2) := H
 have A2 := Aside0.mk A20
 clear A20
 by_cases c3 : t381 = 0
 ·rw [if_pos c3] at H
  have c3b0 : (t381 == 0) = true := beq_iff_eq.mpr c3
  have c3b1 : (t381 != 0) = false := bne_eq_false_iff_eq.mpr c3
  clear c3
  have H' := Aside0.mk H
  clear H
  go_enter Tryd.func27, Tryd.ntmps27
  go_wp2_with (first | ((with_reducible refine gate_dst (N := 1) rfl ?_); refine box_event ?hg (N := 1) ?hd (cs := #[.slice A0_0 l0_0.length c0_0, .int .i64 a0_1, .int .i64 a0_2, .int .i64 a0_3, .int .i64 a0_4, .slice A0_5 l0_5.length c0_5, .int .i64 a0_6]) (t := 26) ?hr ?_; (case hd => rfl); (case hg => rfl); (case hr => first | (go_simp; done) | (go_simp; rfl)); intro gb377 hg w4 hbox hb; have n0_ := Aside0.mk (below_step (by repeat (first | (with_reducible first | exact HB.out | apply below_alloc | apply pw_below_drewN | apply below_drew1) | exact HB.out)) hb); have n1_ := Aside0.mk (hbox); have n2_ := Aside0.mk ((by rw [hg]; exact (below_size (by repeat (first | (with_reducible first | exact HB.out | apply below_alloc | apply pw_below_drewN | apply below_drew1) | exact HB.out))) : w.heap.size ≤ gb377)); have n3_ := Aside0.mk ((by rw [hg]; exact (below_size (by repeat (first | (with_reducible first | exact HB.out | apply below_alloc | apply pw_below_drewN | apply below_drew1) | exact HB.out))) : w.heap.size ≤ gb377)); clear HB; have HB := n0_; have BK377 := n1_; have GW377 := n2_; have GE377 := n3_; clear n0_ n1_ n2_ n3_; clear hb hbox hg; have hcz5_0 : w4.cell? ⟨gb377, 0, none⟩ = some (.slice A0_0 l0_0.length c0_0) := (blk_cell BK377.out 0).trans rfl; have hcz5_1 : w4.cell? ⟨gb377, 1, none⟩ = some (.int .i64 a0_1) := (blk_cell BK377.out 1).trans rfl; have hcz5_2 : w4.cell? ⟨gb377, 2, none⟩ = some (.int .i64 a0_2) := (blk_cell BK377.out 2).trans rfl; have hcz5_3 : w4.cell? ⟨gb377, 3, none⟩ = some (.int .i64 a0_3) := (blk_cell BK377.out 3).trans rfl; have hcz5_4 : w4.cell? ⟨gb377, 4, none⟩ = some (.int .i64 a0_4) := (blk_cell BK377.out 4).trans rfl; have hcz5_5 : w4.cell? ⟨gb377, 5, none⟩ = some (.slice A0_5 l0_5.length c0_5) := (blk_cell BK377.out 5).trans rfl; have hcz5_6 : w4.cell? ⟨gb377, 6, none⟩ = some (.int .i64 a0_6) := (blk_cell BK377.out 6).trans rfl; have hfz5_0 := blk_frozen BK377.out 0; have hfz5_1 := blk_frozen BK377.out 1; have hfz5_2 := blk_frozen BK377.out 2; have hfz5_3 := blk_frozen BK377.out 3; have hfz5_4 := blk_frozen BK377.out 4; have hfz5_5 := blk_frozen BK377.out 5; have hfz5_6 := blk_frozen BK377.out 6) | ((with_reducible refine gate_callee (f := 73) rfl ?_); refine goesL_ (some 10) rfl rfl Tryd.func73 (by kernel_rfl) rfl #[.agg #[.slice A0_0 l0_0.length c0_0, .int .i64 a0_1, .int .i64 a0_2, .int .i64 a0_3, .int .i64 a0_4, .slice A0_5 l0_5.length c0_5, .int .i64 a0_6], .bool true] rfl (by (try simp only [List.map_toArray, List.map_cons, List.map_nil]); first | done | rfl | (simp only [List.length_drop, List.length_take]; rfl)) ?_; (with_reducible refine (macadamref06_asked.calls k _ _ l0_0 a0_1 a0_2 a0_3 a0_4 _ _ l0_5 a0_6 true t378 t381 _ ?side1 ?side2 ?side3 ?side4 A2.out).mono ?_); (case side1 => repeat (first | exact (Kd.C_below HR0_0.out HB.out) | (with_reducible refine Kd.C_alloc ?_ _) | (with_reducible refine Kd.C_drewN ?_ _) | (with_reducible refine Kd.C_drew ?_))); (case side2 => exact HC0_0.out); (case side3 => repeat (first | exact (Kd.C_below HR0_5.out HB.out) | (with_reducible refine Kd.C_alloc ?_ _) | (with_reducible refine Kd.C_drewN ?_ _) | (with_reducible refine Kd.C_drew ?_))); (case side4 => exact HC0_5.out); rintro e w6 ⟨v379, rfl, ho0, hb⟩; refine ⟨_, rfl, ?_⟩; have n0_ := Aside0.mk (Kd.N_lower (Kd.N_mono (ok' := fun k_ => k_ ≠ gb377) ho0 (fun k_ hk_ => (Kd.freshB (g := gb377) (o := .cells #[.slice A0_0 l0_0.length c0_0, .int .i64 a0_1, .int .i64 a0_2, .int .i64 a0_3, .int .i64 a0_4, .slice A0_5 l0_5.length c0_5, .int .i64 a0_6] 26 (0, 0)) (by (with_reducible repeat (first | refine blk_drewN ?_ _ | refine blk_drew ?_ | refine blk_alloc ?_ _)); exact BK377.out) k_ hk_))) (below_size (by repeat (first | (with_reducible first | exact HB.out | apply below_alloc | apply pw_below_drewN | apply below_drew1 | refine below_set ?_ GE377.out) | exact HB.out)))); have n1_ := Aside0.mk (blk_below (g := gb377) (o := .cells #[.slice A0_0 l0_0.length c0_0, .int .i64 a0_1, .int .i64 a0_2, .int .i64 a0_3, .int .i64 a0_4, .slice A0_5 l0_5.length c0_5, .int .i64 a0_6] 26 (0, 0)) (by (with_reducible repeat (first | refine blk_drewN ?_ _ | refine blk_drew ?_ | refine blk_alloc ?_ _)); exact BK377.out) hb); have n2_ := Aside0.mk (below_step (by repeat (first | (with_reducible first | exact HB.out | apply below_alloc | apply pw_below_drewN | apply below_drew1 | refine below_set ?_ GE377.out) | exact HB.out)) hb); clear BK377; clear HB; have HO380 := n0_; have BK377 := n1_; have HB := n2_; clear n0_ n1_ n2_; (try clear hb); (try clear hb2); (try clear hk); (try clear hi); (try clear ho0)))
  go_loopg [6, 7] k (fun kq v6 v7 w' => ∃ (x6_1 : Int) (x7_1 : Int), v6 = .int .i64 x6_1 ∧ v7 = .int .i64 x7_1 ∧ Aside0 (macadamref06_Weather.l0 kq t378 x6_1 x7_1 = some (r1, r2)) ∧ Aside0 (kq ≤ k) ∧ Aside0 (Kd.N k92 92 w' w.heap.size (fun k_ => k_ ≠ gb377) v379 t378) ∧ Aside0 (w'.heap[gb377]? = some (.cells #[(.slice A0_0 l0_0.length c0_0), .int .i64 a0_1, .int .i64 a0_2, .int .i64 a0_3, .int .i64 a0_4, (.slice A0_5 l0_5.length c0_5), .int .i64 a0_6] 26 (0, 0))) ∧ Aside0 (Below w.heap.size w w'))
  case atStart => exact ⟨(0), (0), (by first | rfl | (simp; done) | (simp [*]; done)), (by first | rfl | (simp; done) | (simp [*]; done)), H', ⟨Nat.le_refl _⟩, ⟨by (with_reducible repeat (first | apply Kd.N_alloc | apply Kd.N_drewN | apply Kd.N_drew)); exact HO380.out⟩, ⟨by (with_reducible repeat (first | refine blk_drewN ?_ _ | refine blk_drew ?_ | refine blk_alloc ?_ _)); exact BK377.out⟩, ⟨by repeat (first | (with_reducible first | exact HB.out | apply below_alloc | apply pw_below_drewN | apply below_drew1 | refine below_set ?_ GE377.out) | exact HB.out)⟩⟩
  case round =>
   clear H'
   try clear c2
   try clear p2
   try clear c3
   try clear c3b0
   try clear c3b1
   try clear hcz5_0
   try clear hcz5_1
   try clear hcz5_2
   try clear hcz5_3
   try clear hcz5_4
   try clear hcz5_5
   try clear hcz5_6
   try clear hfz5_0
   try clear hfz5_1
   try clear hfz5_2
   try clear hfz5_3
   try clear hfz5_4
   try clear hfz5_5
   try clear hfz5_6
   obtain ⟨x6_1, x7_1, rfl, rfl, HA, HK1, HO_4, BK377, HB⟩ := hrel
   cases gk with
   | zero => exact absurd HA.out (by simp [macadamref06_Weather.l0])
   | succ k1 =>
    have H := HA.out
    clear HA
    simp only [macadamref06_Weather.l0] at H
    by_cases c7 : x7_1 < (t378.length : Int)
    ·rw [if_pos c7] at H
     have c7b0 : decide (x7_1 < (t378.length : Int)) = true := decide_eq_true c7
     clear c7
     by_cases c8 : 0 ≤ x7_1
     ·rw [if_pos c8] at H
      have c8b0 : decide (0 ≤ x7_1) = true := decide_eq_true c8
      clear c8
      by_cases c9 : 0 ≤ ((rd_T92 t378 x7_1).f0)
      ·rw [if_pos c9] at H
       have c9b0 := eq_true c9
       have c9b1 : decide (0 ≤ ((rd_T92 t378 x7_1).f0)) = true := decide_eq_true c9
       clear c9
       obtain ⟨ji10, hji10⟩ : ∃ j_ : Int, (shl .i64 1 ((rd_T92 t378 x7_1).f0)) = j_ := ⟨_, rfl⟩
       replace H : (macadamref06_Weather.l0 k1 t378 (Go.bits .or .i64 x6_1 (ji10)) (wrap64 (x7_1 + 1))) = some (r1, r2) := by first | (rw [hji10] at H; exact H) | (simp only [hji10] at H ⊢; exact H)
       have hji10_ : (IntKind.i64.wrap (1 * 2 ^ min ((rd_T92 t378 x7_1).f0).toNat 64)) = ji10 := hji10
       have hji10z : ((rd_T92 t378 x7_1).f0) ≤ 64 → (IntKind.i64.wrap (1 * 2 ^ ((rd_T92 t378 x7_1).f0).toNat)) = ji10 := shl_small hji10
       have hji10u : (IntKind.i64.wrap (2 ^ min ((rd_T92 t378 x7_1).f0).toNat 64)) = ji10 := by have h_ := hji10_; rw [Int.one_mul] at h_; exact h_
       have hji10v : ((rd_T92 t378 x7_1).f0) ≤ 64 → (IntKind.i64.wrap (2 ^ ((rd_T92 t378 x7_1).f0).toNat)) = ji10 := fun hle_ => by have h_ := hji10z hle_; rw [Int.one_mul] at h_; exact h_
       have hji10y : (wrap64 (1 * 2 ^ min ((rd_T92 t378 x7_1).f0).toNat 64)) = ji10 := (i64_w _).symm.trans hji10_
       have hji10x : ((rd_T92 t378 x7_1).f0) ≤ 64 → (wrap64 (1 * 2 ^ ((rd_T92 t378 x7_1).f0).toNat)) = ji10 := fun h_ => (i64_w _).symm.trans (hji10z h_)
       have H' := Aside0.mk H
       clear H
       obtain ⟨Ao11, co11, eo11⟩ := Kd.N_slice HO_4.out
       subst eo11
       have p382 : 0 ≤ (x7_1 : Int) := of_decide_eq_true (by first | (with_reducible assumption) | assumption)
       have q382 : x7_1 < (t378.length : Int) := of_decide_eq_true (by first | (with_reducible assumption) | assumption)
       obtain ⟨ad382, A382_1, c382_1, A382_2, c382_2, e382, hx382_0, hx382_1, hx382_2, hl382_1, hi382_1, hl382_2, hi382_2⟩ := at_T92 (Kd.N_reads' HO_4.out).2.2 x7_1 p382 q382
       cases e382
       obtain ⟨ce382, hce382, hMe382, hcc382⟩ := Kd.N_get HO_4.out z92 x7_1 p382 (by first | exact q382 | exact of_decide_eq_true (by first | (with_reducible assumption) | assumption) | (have e_ := (Kd.N_reads' HO_4.out).1; omega))
       obtain ⟨ua382_1, uc382_1, ua382_2, uc382_2, rfl, ul382_1, ge382_1, ul382_2, ge382_2⟩ := k92_openF hMe382
       have hv382_1 := hcc382 1 _ rfl
       rw [add_field _ _ 1 (by omega)] at hv382_1
       replace hv382_1 := Option.some.inj (hv382_1.symm.trans hx382_1)
       injection hv382_1 with hva_ hvn_ hvc_
       rw [hva_] at ge382_1
       rw [hvc_] at ul382_1
       have HL382_1 := Aside0.mk (show Kd.V (Kd.int .i64) 3 _ w.heap.size _ _ ((rd_T92 t378 x7_1).f1) from Kd.V_mk ul382_1 ge382_1)
       clear hva_ hvn_ hvc_ ge382_1 ul382_1
       have hv382_2 := hcc382 2 _ rfl
       rw [add_field _ _ 2 (by omega)] at hv382_2
       replace hv382_2 := Option.some.inj (hv382_2.symm.trans hx382_2)
       injection hv382_2 with hva_ hvn_ hvc_
       rw [hva_] at ge382_2
       rw [hvc_] at ul382_2
       have HL382_2 := Aside0.mk (show Kd.V (Kd.int .i64) 3 _ w.heap.size _ _ ((rd_T92 t378 x7_1).f2) from Kd.V_mk ul382_2 ge382_2)
       clear hva_ hvn_ hvc_ ge382_2 ul382_2
       clear hcc382 hce382
       have HR382_1 := Aside0.mk hi382_1
       have HC382_1 := Aside0.mk hl382_1
       clear hi382_1 hl382_1
       have HR382_2 := Aside0.mk hi382_2
       have HC382_2 := Aside0.mk hl382_2
       clear hi382_2 hl382_2
       replace p382 := eq_true p382
       replace q382 := eq_true q382
       go_wp2
       go_roundg k1
       case measure => have := HK1.out; omega
       case rel => exact ⟨(Go.bits .or .i64 x6_1 (ji10)), (wrap64 (x7_1 + 1)), (by first | rfl | (simp; done) | (simp only [← hji10] <;> (first | rfl | simp)) | (simp [*]; done)), (by first | rfl | (simp; done) | (simp [*]; done)), H', ⟨by have := HK1.out; omega⟩, ⟨by (with_reducible repeat (first | apply Kd.N_alloc | apply Kd.N_drewN | apply Kd.N_drew)); exact HO_4.out⟩, ⟨by (with_reducible repeat (first | refine blk_drewN ?_ _ | refine blk_drew ?_ | refine blk_alloc ?_ _)); exact BK377.out⟩, ⟨by repeat (first | (with_reducible first | exact HB.out | apply below_alloc | apply pw_below_drewN | apply below_drew1 | refine below_set ?_ GE377.out) | exact HB.out)⟩⟩
      ·rw [if_neg c9] at H
       exact absurd H (by simp)
     ·rw [if_neg c8] at H
      exact absurd H (by simp)
    ·rw [if_neg c7] at H
     have c7b0 : decide (x7_1 < (t378.length : Int)) = false := decide_eq_false c7
     clear c7
     simp only [Option.some.injEq, Prod.mk.injEq] at H
     obtain ⟨rfl, rfl⟩ := H
     obtain ⟨Ao12, co12, eo12⟩ := Kd.N_slice HO_4.out
     subst eo12
     go_wp2
     go_ret2
     exact ⟨by first | rfl | (simp [errW_none, errW_some] <;> rfl) | (simp only [i64_w, i32_w] <;> rfl) | (simp [*, errW_none, errW_some] <;> rfl), by repeat (first | (with_reducible first | exact HB.out | apply below_alloc | apply pw_below_drewN | apply below_drew1 | refine below_set ?_ GE377.out) | exact HB.out)⟩
 ·rw [if_neg c3] at H
  have c3b0 : (t381 == 0) = false := beq_eq_false_iff_ne.mpr c3
  have c3b1 : (t381 != 0) = true := bne_iff_ne.mpr c3
  simp only [Option.some.injEq, Prod.mk.injEq] at H
  obtain ⟨rfl, rfl⟩ := H
  go_enter Tryd.func27, Tryd.ntmps27
  go_wp2_with (first | ((with_reducible refine gate_dst (N := 1) rfl ?_); refine box_event ?hg (N := 1) ?hd (cs := #[.slice A0_0 l0_0.length c0_0, .int .i64 a0_1, .int .i64 a0_2, .int .i64 a0_3, .int .i64 a0_4, .slice A0_5 l0_5.length c0_5, .int .i64 a0_6]) (t := 26) ?hr ?_; (case hd => rfl); (case hg => rfl); (case hr => first | (go_simp; done) | (go_simp; rfl)); intro gb377 hg w13 hbox hb; have n0_ := Aside0.mk (below_step (by repeat (first | (with_reducible first | exact HB.out | apply below_alloc | apply pw_below_drewN | apply below_drew1) | exact HB.out)) hb); have n1_ := Aside0.mk (hbox); have n2_ := Aside0.mk ((by rw [hg]; exact (below_size (by repeat (first | (with_reducible first | exact HB.out | apply below_alloc | apply pw_below_drewN | apply below_drew1) | exact HB.out))) : w.heap.size ≤ gb377)); have n3_ := Aside0.mk ((by rw [hg]; exact (below_size (by repeat (first | (with_reducible first | exact HB.out | apply below_alloc | apply pw_below_drewN | apply below_drew1) | exact HB.out))) : w.heap.size ≤ gb377)); clear HB; have HB := n0_; have BK377 := n1_; have GW377 := n2_; have GE377 := n3_; clear n0_ n1_ n2_ n3_; clear hb hbox hg; have hcz14_0 : w13.cell? ⟨gb377, 0, none⟩ = some (.slice A0_0 l0_0.length c0_0) := (blk_cell BK377.out 0).trans rfl; have hcz14_1 : w13.cell? ⟨gb377, 1, none⟩ = some (.int .i64 a0_1) := (blk_cell BK377.out 1).trans rfl; have hcz14_2 : w13.cell? ⟨gb377, 2, none⟩ = some (.int .i64 a0_2) := (blk_cell BK377.out 2).trans rfl; have hcz14_3 : w13.cell? ⟨gb377, 3, none⟩ = some (.int .i64 a0_3) := (blk_cell BK377.out 3).trans rfl; have hcz14_4 : w13.cell? ⟨gb377, 4, none⟩ = some (.int .i64 a0_4) := (blk_cell BK377.out 4).trans rfl; have hcz14_5 : w13.cell? ⟨gb377, 5, none⟩ = some (.slice A0_5 l0_5.length c0_5) := (blk_cell BK377.out 5).trans rfl; have hcz14_6 : w13.cell? ⟨gb377, 6, none⟩ = some (.int .i64 a0_6) := (blk_cell BK377.out 6).trans rfl; have hfz14_0 := blk_frozen BK377.out 0; have hfz14_1 := blk_frozen BK377.out 1; have hfz14_2 := blk_frozen BK377.out 2; have hfz14_3 := blk_frozen BK377.out 3; have hfz14_4 := blk_frozen BK377.out 4; have hfz14_5 := blk_frozen BK377.out 5; have hfz14_6 := blk_frozen BK377.out 6) | ((with_reducible refine gate_callee (f := 73) rfl ?_); refine goesL_ (some 10) rfl rfl Tryd.func73 (by kernel_rfl) rfl #[.agg #[.slice A0_0 l0_0.length c0_0, .int .i64 a0_1, .int .i64 a0_2, .int .i64 a0_3, .int .i64 a0_4, .slice A0_5 l0_5.length c0_5, .int .i64 a0_6], .bool true] rfl (by (try simp only [List.map_toArray, List.map_cons, List.map_nil]); first | done | rfl | (simp only [List.length_drop, List.length_take]; rfl)) ?_; (with_reducible refine (macadamref06_asked.calls k _ _ l0_0 a0_1 a0_2 a0_3 a0_4 _ _ l0_5 a0_6 true t378 t381 _ ?side1 ?side2 ?side3 ?side4 A2.out).mono ?_); (case side1 => repeat (first | exact (Kd.C_below HR0_0.out HB.out) | (with_reducible refine Kd.C_alloc ?_ _) | (with_reducible refine Kd.C_drewN ?_ _) | (with_reducible refine Kd.C_drew ?_))); (case side2 => exact HC0_0.out); (case side3 => repeat (first | exact (Kd.C_below HR0_5.out HB.out) | (with_reducible refine Kd.C_alloc ?_ _) | (with_reducible refine Kd.C_drewN ?_ _) | (with_reducible refine Kd.C_drew ?_))); (case side4 => exact HC0_5.out); rintro e w15 ⟨v379, rfl, ho0, hb⟩; refine ⟨_, rfl, ?_⟩; have n0_ := Aside0.mk (Kd.N_lower (Kd.N_mono (ok' := fun k_ => k_ ≠ gb377) ho0 (fun k_ hk_ => (Kd.freshB (g := gb377) (o := .cells #[.slice A0_0 l0_0.length c0_0, .int .i64 a0_1, .int .i64 a0_2, .int .i64 a0_3, .int .i64 a0_4, .slice A0_5 l0_5.length c0_5, .int .i64 a0_6] 26 (0, 0)) (by (with_reducible repeat (first | refine blk_drewN ?_ _ | refine blk_drew ?_ | refine blk_alloc ?_ _)); exact BK377.out) k_ hk_))) (below_size (by repeat (first | (with_reducible first | exact HB.out | apply below_alloc | apply pw_below_drewN | apply below_drew1 | refine below_set ?_ GE377.out) | exact HB.out)))); have n1_ := Aside0.mk (blk_below (g := gb377) (o := .cells #[.slice A0_0 l0_0.length c0_0, .int .i64 a0_1, .int .i64 a0_2, .int .i64 a0_3, .int .i64 a0_4, .slice A0_5 l0_5.length c0_5, .int .i64 a0_6] 26 (0, 0)) (by (with_reducible repeat (first | refine blk_drewN ?_ _ | refine blk_drew ?_ | refine blk_alloc ?_ _)); exact BK377.out) hb); have n2_ := Aside0.mk (below_step (by repeat (first | (with_reducible first | exact HB.out | apply below_alloc | apply pw_below_drewN | apply below_drew1 | refine below_set ?_ GE377.out) | exact HB.out)) hb); clear BK377; clear HB; have HO380 := n0_; have BK377 := n1_; have HB := n2_; clear n0_ n1_ n2_; (try clear hb); (try clear hb2); (try clear hk); (try clear hi); (try clear ho0)))
  go_ret2
  exact ⟨by first | rfl | (simp [errW_none, errW_some] <;> rfl) | (simp only [i64_w, i32_w] <;> rfl) | (simp [*, errW_none, errW_some] <;> rfl), by repeat (first | (with_reducible first | exact HB.out | apply below_alloc | apply pw_below_drewN | apply below_drew1 | refine below_set ?_ GE377.out) | exact HB.out)⟩
def macadamref00_Total.l0 : Nat → List Int → Int → Int → Option (Int)
 | 0, _, _, _ => none
 | k + 1, x0, x3, x4 => if x4 < (x0.length : Int) then (if 0 ≤ x4 then (macadamref00_Total.l0 k x0 (wrap64 (x3 + (rd x0 x4))) (wrap64 (x4 + 1))) else (none)) else (some x3)
def macadamref00_Total.f (k : Nat) (l0 : List Int) : Option (Int) := macadamref00_Total.l0 k l0 0 0
set_option maxHeartbeats 8000000 in
set_option maxRecDepth 100000 in
theorem macadamref00_Total.calls (k : Nat) (A0 : Option Addr) (c0 : Nat) (l0 : List Int) (r : Int) (w : World) (hr0 : Kd.C (Kd.int .i64) w A0 l0.length l0) (hc0 : l0.length ≤ c0) (h : macadamref00_Total.f k l0 = some r) :
  Calls Tryd.prog 47 #[.slice A0 l0.length c0] w fun e w' => e = .returned (.int .i64 r) ∧ Drawn0 w w' := by
 have HR0 := Aside0.mk hr0
 have HC0 := Aside0.mk hc0
 clear hr0 hc0
 have H : (macadamref00_Total.l0 k l0 0 0) = some r := h
 clear h
 have H' := Aside0.mk H
 clear H
 go_enter Tryd.func47, Tryd.ntmps47
 go_wp2
 go_loopg [3, 4] k (fun kq v3 v4 w' => ∃ (x3_1 : Int) (x4_1 : Int), v3 = .int .i64 x3_1 ∧ v4 = .int .i64 x4_1 ∧ Aside0 (macadamref00_Total.l0 kq l0 x3_1 x4_1 = some r) ∧ Aside0 (kq ≤ k) ∧ Drawn0 w w')
 case atStart => exact ⟨(0), (0), (by first | rfl | (simp; done) | (simp [*]; done)), (by first | rfl | (simp; done) | (simp [*]; done)), H', ⟨Nat.le_refl _⟩, by repeat (first | exact Drawn0.refl _ | apply Drawn0.step)⟩
 case round =>
  clear H'
  obtain ⟨x3_1, x4_1, rfl, rfl, HA, HK1, ⟨m1, rfl⟩⟩ := hrel
  cases gk with
  | zero => exact absurd HA.out (by simp [macadamref00_Total.l0])
  | succ k1 =>
   have H := HA.out
   clear HA
   simp only [macadamref00_Total.l0] at H
   by_cases c2 : x4_1 < (l0.length : Int)
   ·rw [if_pos c2] at H
    have c2b0 : decide (x4_1 < (l0.length : Int)) = true := decide_eq_true c2
    clear c2
    by_cases c3 : 0 ≤ x4_1
    ·rw [if_pos c3] at H
     have c3b0 : decide (0 ≤ x4_1) = true := decide_eq_true c3
     clear c3
     have H' := Aside0.mk H
     clear H
     have p383 : 0 ≤ (x4_1 : Int) := of_decide_eq_true (by first | (with_reducible assumption) | assumption)
     have q383 : x4_1 < (l0.length : Int) := of_decide_eq_true (by first | (with_reducible assumption) | assumption)
     obtain ⟨ad383, e383, hx383_0⟩ := Kd.at_int HR0.out x4_1 p383 q383
     cases e383
     replace p383 := eq_true p383
     replace q383 := eq_true q383
     go_wp2
     go_roundg k1
     case measure => have := HK1.out; omega
     case rel => exact ⟨(wrap64 (x3_1 + (rd l0 x4_1))), (wrap64 (x4_1 + 1)), (by first | rfl | (simp; done) | (simp [*]; done)), (by first | rfl | (simp; done) | (simp [*]; done)), H', ⟨by have := HK1.out; omega⟩, by repeat (first | exact Drawn0.refl _ | apply Drawn0.step)⟩
    ·rw [if_neg c3] at H
     exact absurd H (by simp)
   ·rw [if_neg c2] at H
    have c2b0 : decide (x4_1 < (l0.length : Int)) = false := decide_eq_false c2
    clear c2
    obtain rfl := Option.some.inj H
    go_wp2
    go_ret
    exact ⟨by first | rfl | (simp; done) | (simp [*]; done), by repeat (first | exact Drawn0.refl _ | apply Drawn0.step)⟩
def macadamref06_blamed.f (k : Nat) (l0_0 : List (S56)) (a0_1 : Int) (a0_2 : Int) (a0_3 : Int) (a0_4 : Int) (l0_5 : List (S42)) (a0_6 : Int) (a1_0 : Int) (l1_1 : List Int) (l1_2 : List Int) : Option (Bool) := (macadamref06_late.f l0_0 a0_1 a0_2 a0_3 a0_4 l0_5 a0_6 a1_0 l1_1 l1_2 (wrap64 ((l0_0.length : Int) - 1))).bind fun t386 => (if t386 > 0 then (if 0 ≤ (wrap64 ((l0_0.length : Int) - 1)) then (if (wrap64 ((l0_0.length : Int) - 1)) < (l1_2.length : Int) then ((macadamref00_Total.f k l1_1).bind fun t388 => (if (wrap64 ((l0_0.length : Int) - 1)) < (l0_0.length : Int) then (some (decide ((wrap64 ((rd l1_2 (wrap64 ((l0_0.length : Int) - 1))) - t388)) ≤ ((rd_T56 l0_0 (wrap64 ((l0_0.length : Int) - 1))).f0)))) else (none))) else (none)) else (none)) else (some false))
set_option maxHeartbeats 8000000 in
set_option maxRecDepth 100000 in
theorem macadamref06_blamed.calls (k : Nat) (A0_0 : Option Addr) (c0_0 : Nat) (l0_0 : List (S56)) (a0_1 : Int) (a0_2 : Int) (a0_3 : Int) (a0_4 : Int) (A0_5 : Option Addr) (c0_5 : Nat) (l0_5 : List (S42)) (a0_6 : Int) (a1_0 : Int) (A1_1 : Option Addr) (c1_1 : Nat) (l1_1 : List Int) (A1_2 : Option Addr) (c1_2 : Nat) (l1_2 : List Int) (r : Bool) (w : World) (hr0_0 : Kd.C k56 w A0_0 l0_0.length l0_0) (hc0_0 : l0_0.length ≤ c0_0) (hr0_5 : Kd.C k42 w A0_5 l0_5.length l0_5) (hc0_5 : l0_5.length ≤ c0_5) (hr1_1 : Kd.C (Kd.int .i64) w A1_1 l1_1.length l1_1) (hc1_1 : l1_1.length ≤ c1_1) (hr1_2 : Kd.C (Kd.int .i64) w A1_2 l1_2.length l1_2) (hc1_2 : l1_2.length ≤ c1_2) (h : macadamref06_blamed.f k l0_0 a0_1 a0_2 a0_3 a0_4 l0_5 a0_6 a1_0 l1_1 l1_2 = some r) :
  Calls Tryd.prog 82 #[.agg #[.slice A0_0 l0_0.length c0_0, .int .i64 a0_1, .int .i64 a0_2, .int .i64 a0_3, .int .i64 a0_4, .slice A0_5 l0_5.length c0_5, .int .i64 a0_6], .agg #[.int .i64 a1_0, .slice A1_1 l1_1.length c1_1, .slice A1_2 l1_2.length c1_2]] w fun e w' => e = .returned (.bool r) ∧ Below w.heap.size w w' := by
 have hu26 := Tryd.underlying26
 have hu92 := Tryd.underlying92
 have HR0_0 := Aside0.mk hr0_0
 have HC0_0 := Aside0.mk hc0_0
 clear hr0_0 hc0_0
 have HR0_5 := Aside0.mk hr0_5
 have HC0_5 := Aside0.mk hc0_5
 clear hr0_5 hc0_5
 have HR1_1 := Aside0.mk hr1_1
 have HC1_1 := Aside0.mk hc1_1
 clear hr1_1 hc1_1
 have HR1_2 := Aside0.mk hr1_2
 have HC1_2 := Aside0.mk hc1_2
 clear hr1_2 hc1_2
 have HB := Aside0.mk (Below.refl w.heap.size w)
 have H : ((macadamref06_late.f l0_0 a0_1 a0_2 a0_3 a0_4 l0_5 a0_6 a1_0 l1_1 l1_2 (wrap64 ((l0_0.length : Int) - 1))).bind fun t386 => (if t386 > 0 then (if 0 ≤ (wrap64 ((l0_0.length : Int) - 1)) then (if (wrap64 ((l0_0.length : Int) - 1)) < (l1_2.length : Int) then ((macadamref00_Total.f k l1_1).bind fun t388 => (if (wrap64 ((l0_0.length : Int) - 1)) < (l0_0.length : Int) then (some (decide ((wrap64 ((rd l1_2 (wrap64 ((l0_0.length : Int) - 1))) - t388)) ≤ ((rd_T56 l0_0 (wrap64 ((l0_0.length : Int) - 1))).f0)))) else (none))) else (none)) else (none)) else (some false))) = some r := h
 clear h
 replace H := Option.bind_eq_some_iff.mp H
 obtain ⟨t386, A30, H⟩ := H
 replace H : (if t386 > 0 then (if 0 ≤ (wrap64 ((l0_0.length : Int) - 1)) then (if (wrap64 ((l0_0.length : Int) - 1)) < (l1_2.length : Int) then ((macadamref00_Total.f k l1_1).bind fun t388 => (if (wrap64 ((l0_0.length : Int) - 1)) < (l0_0.length : Int) then (some (decide ((wrap64 ((rd l1_2 (wrap64 ((l0_0.length : Int) - 1))) - t388)) ≤ ((rd_T56 l0_0 (wrap64 ((l0_0.length : Int) - 1))).f0)))) else (none))) else (none)) else (none)) else (some false)) = some r := H
 have A3 := Aside0.mk A30
 clear A30
 by_cases c4 : t386 > 0
 ·rw [if_pos c4] at H
  have c4b0 : decide (0 < t386) = true := decide_eq_true c4
  clear c4
  obtain ⟨ji5, hji5⟩ : ∃ j_ : Int, (wrap64 ((l0_0.length : Int) - 1)) = j_ := ⟨_, rfl⟩
  replace H : (if 0 ≤ (ji5) then (if (ji5) < (l1_2.length : Int) then ((macadamref00_Total.f k l1_1).bind fun t388 => (if (ji5) < (l0_0.length : Int) then (some (decide ((wrap64 ((rd l1_2 (ji5)) - t388)) ≤ ((rd_T56 l0_0 (ji5)).f0)))) else (none))) else (none)) else (none)) = some r := by first | (rw [hji5] at H; exact H) | (simp only [hji5] at H ⊢; exact H)
  (try rw [hji5] at A3)
  have hji5w : (IntKind.i64.wrap ((l0_0.length : Int) - 1)) = ji5 := (i64_w _).trans hji5
  by_cases c6 : 0 ≤ (ji5)
  ·rw [if_pos c6] at H
   have c6b0 : decide (0 ≤ (ji5)) = true := decide_eq_true c6
   clear c6
   by_cases c7 : (ji5) < (l1_2.length : Int)
   ·rw [if_pos c7] at H
    have c7b0 : decide ((ji5) < (l1_2.length : Int)) = true := decide_eq_true c7
    clear c7
    replace H := Option.bind_eq_some_iff.mp H
    obtain ⟨t388, A80, H⟩ := H
    replace H : (if (ji5) < (l0_0.length : Int) then (some (decide ((wrap64 ((rd l1_2 (ji5)) - t388)) ≤ ((rd_T56 l0_0 (ji5)).f0)))) else (none)) = some r := H
    have A8 := Aside0.mk A80
    clear A80
    by_cases c9 : (ji5) < (l0_0.length : Int)
    ·rw [if_pos c9] at H
     have c9b0 : decide ((ji5) < (l0_0.length : Int)) = true := decide_eq_true c9
     clear c9
     obtain rfl := Option.some.inj H
     go_enter Tryd.func82, Tryd.ntmps82
     go_wp2_with (first | ((with_reducible refine gate_dst (N := 2) rfl ?_); refine box_event ?hg (N := 2) ?hd (cs := #[.slice A0_0 l0_0.length c0_0, .int .i64 a0_1, .int .i64 a0_2, .int .i64 a0_3, .int .i64 a0_4, .slice A0_5 l0_5.length c0_5, .int .i64 a0_6]) (t := 26) ?hr ?_; (case hd => rfl); (case hg => rfl); (case hr => first | (go_simp; done) | (go_simp; rfl)); intro gb384 hg w10 hbox hb; have n0_ := Aside0.mk (below_step (by repeat (first | (with_reducible first | exact HB.out | apply below_alloc | apply pw_below_drewN | apply below_drew1) | exact HB.out)) hb); have n1_ := Aside0.mk (hbox); have n2_ := Aside0.mk ((by rw [hg]; exact (below_size (by repeat (first | (with_reducible first | exact HB.out | apply below_alloc | apply pw_below_drewN | apply below_drew1) | exact HB.out))) : w.heap.size ≤ gb384)); have n3_ := Aside0.mk ((by rw [hg]; exact (below_size (by repeat (first | (with_reducible first | exact HB.out | apply below_alloc | apply pw_below_drewN | apply below_drew1) | exact HB.out))) : w.heap.size ≤ gb384)); clear HB; have HB := n0_; have BK384 := n1_; have GW384 := n2_; have GE384 := n3_; clear n0_ n1_ n2_ n3_; clear hb hbox hg) | ((with_reducible refine gate_dst (N := 3) rfl ?_); refine box_event ?hg (N := 3) ?hd (cs := #[.int .i64 a1_0, .slice A1_1 l1_1.length c1_1, .slice A1_2 l1_2.length c1_2]) (t := 92) ?hr ?_; (case hd => rfl); (case hg => rfl); (case hr => first | (go_simp; done) | (go_simp; rfl)); intro gb385 hg w11 hbox hb; have n0_ := Aside0.mk (blk_below (g := gb384) (o := .cells #[.slice A0_0 l0_0.length c0_0, .int .i64 a0_1, .int .i64 a0_2, .int .i64 a0_3, .int .i64 a0_4, .slice A0_5 l0_5.length c0_5, .int .i64 a0_6] 26 (0, 0)) (by (with_reducible repeat (first | refine blk_drewN ?_ _ | refine blk_drew ?_ | refine blk_alloc ?_ _)); exact BK384.out) hb); have n1_ := Aside0.mk (below_step (by repeat (first | (with_reducible first | exact HB.out | apply below_alloc | apply pw_below_drewN | apply below_drew1 | refine below_set ?_ GE384.out) | exact HB.out)) hb); have n2_ := Aside0.mk (hbox); have n3_ := Aside0.mk ((by rw [hg]; exact (below_size (by repeat (first | (with_reducible first | exact HB.out | apply below_alloc | apply pw_below_drewN | apply below_drew1 | refine below_set ?_ GE384.out) | exact HB.out))) : w.heap.size ≤ gb385)); have n4_ := Aside0.mk ((by rw [hg]; exact (below_size (by repeat (first | (with_reducible first | exact HB.out | apply below_alloc | apply pw_below_drewN | apply below_drew1 | refine below_set ?_ GE384.out) | exact HB.out))) : w.heap.size ≤ gb385)); have n5_ := Aside0.mk ((by rw [hg]; exact Nat.ne_of_lt (blk_lt (g := gb384) (o := .cells #[.slice A0_0 l0_0.length c0_0, .int .i64 a0_1, .int .i64 a0_2, .int .i64 a0_3, .int .i64 a0_4, .slice A0_5 l0_5.length c0_5, .int .i64 a0_6] 26 (0, 0)) (by (with_reducible repeat (first | refine blk_drewN ?_ _ | refine blk_drew ?_ | refine blk_alloc ?_ _)); exact BK384.out)) : gb384 ≠ gb385)); have n6_ := Aside0.mk ((by rw [hg]; exact Nat.ne_of_gt (blk_lt (g := gb384) (o := .cells #[.slice A0_0 l0_0.length c0_0, .int .i64 a0_1, .int .i64 a0_2, .int .i64 a0_3, .int .i64 a0_4, .slice A0_5 l0_5.length c0_5, .int .i64 a0_6] 26 (0, 0)) (by (with_reducible repeat (first | refine blk_drewN ?_ _ | refine blk_drew ?_ | refine blk_alloc ?_ _)); exact BK384.out)) : gb385 ≠ gb384)); clear BK384; clear HB; have BK384 := n0_; have HB := n1_; have BK385 := n2_; have GW385 := n3_; have GE385 := n4_; have NB384_385 := n5_; have NB385_384 := n6_; clear n0_ n1_ n2_ n3_ n4_ n5_ n6_; clear hb hbox hg; have hnb12 := NB384_385.out; have hnc12 := NB385_384.out; have hcz13_0 : w11.cell? ⟨gb384, 0, none⟩ = some (.slice A0_0 l0_0.length c0_0) := (blk_cell BK384.out 0).trans rfl; have hcz13_1 : w11.cell? ⟨gb384, 1, none⟩ = some (.int .i64 a0_1) := (blk_cell BK384.out 1).trans rfl; have hcz13_2 : w11.cell? ⟨gb384, 2, none⟩ = some (.int .i64 a0_2) := (blk_cell BK384.out 2).trans rfl; have hcz13_3 : w11.cell? ⟨gb384, 3, none⟩ = some (.int .i64 a0_3) := (blk_cell BK384.out 3).trans rfl; have hcz13_4 : w11.cell? ⟨gb384, 4, none⟩ = some (.int .i64 a0_4) := (blk_cell BK384.out 4).trans rfl; have hcz13_5 : w11.cell? ⟨gb384, 5, none⟩ = some (.slice A0_5 l0_5.length c0_5) := (blk_cell BK384.out 5).trans rfl; have hcz13_6 : w11.cell? ⟨gb384, 6, none⟩ = some (.int .i64 a0_6) := (blk_cell BK384.out 6).trans rfl; have hfz13_0 := blk_frozen BK384.out 0; have hfz13_1 := blk_frozen BK384.out 1; have hfz13_2 := blk_frozen BK384.out 2; have hfz13_3 := blk_frozen BK384.out 3; have hfz13_4 := blk_frozen BK384.out 4; have hfz13_5 := blk_frozen BK384.out 5; have hfz13_6 := blk_frozen BK384.out 6; have hcz14_0 : w11.cell? ⟨gb385, 0, none⟩ = some (.int .i64 a1_0) := (blk_cell BK385.out 0).trans rfl; have hcz14_1 : w11.cell? ⟨gb385, 1, none⟩ = some (.slice A1_1 l1_1.length c1_1) := (blk_cell BK385.out 1).trans rfl; have hcz14_2 : w11.cell? ⟨gb385, 2, none⟩ = some (.slice A1_2 l1_2.length c1_2) := (blk_cell BK385.out 2).trans rfl; have hfz14_0 := blk_frozen BK385.out 0; have hfz14_1 := blk_frozen BK385.out 1; have hfz14_2 := blk_frozen BK385.out 2) | (go_at_call 78; (with_reducible refine (macadamref06_late.calls _ _ l0_0 a0_1 a0_2 a0_3 a0_4 _ _ l0_5 a0_6 a1_0 _ _ l1_1 _ _ l1_2 ji5 t386 _ ?side1 ?side2 ?side3 ?side4 ?side5 ?side6 ?side7 ?side8 A3.out).mono ?_); (case side1 => repeat (first | exact (Kd.C_below HR0_0.out HB.out) | (with_reducible refine Kd.C_alloc ?_ _) | (with_reducible refine Kd.C_drewN ?_ _) | (with_reducible refine Kd.C_drew ?_))); (case side2 => exact HC0_0.out); (case side3 => repeat (first | exact (Kd.C_below HR0_5.out HB.out) | (with_reducible refine Kd.C_alloc ?_ _) | (with_reducible refine Kd.C_drewN ?_ _) | (with_reducible refine Kd.C_drew ?_))); (case side4 => exact HC0_5.out); (case side5 => repeat (first | exact (Kd.C_below HR1_1.out HB.out) | (with_reducible refine Kd.C_alloc ?_ _) | (with_reducible refine Kd.C_drewN ?_ _) | (with_reducible refine Kd.C_drew ?_))); (case side6 => exact HC1_1.out); (case side7 => repeat (first | exact (Kd.C_below HR1_2.out HB.out) | (with_reducible refine Kd.C_alloc ?_ _) | (with_reducible refine Kd.C_drewN ?_ _) | (with_reducible refine Kd.C_drew ?_))); (case side8 => exact HC1_2.out); rintro e w15 ⟨rfl, hb⟩; have n0_ := Aside0.mk (blk_below (g := gb384) (o := .cells #[.slice A0_0 l0_0.length c0_0, .int .i64 a0_1, .int .i64 a0_2, .int .i64 a0_3, .int .i64 a0_4, .slice A0_5 l0_5.length c0_5, .int .i64 a0_6] 26 (0, 0)) (by (with_reducible repeat (first | refine blk_drewN ?_ _ | refine blk_drew ?_ | refine blk_alloc ?_ _)); exact BK384.out) hb); have n1_ := Aside0.mk (blk_below (g := gb385) (o := .cells #[.int .i64 a1_0, .slice A1_1 l1_1.length c1_1, .slice A1_2 l1_2.length c1_2] 92 (0, 0)) (by (with_reducible repeat (first | refine blk_drewN ?_ _ | refine blk_drew ?_ | refine blk_alloc ?_ _)); exact BK385.out) hb); have n2_ := Aside0.mk (below_step (by repeat (first | (with_reducible first | exact HB.out | apply below_alloc | apply pw_below_drewN | apply below_drew1 | refine below_set ?_ GE384.out | refine below_set ?_ GE385.out) | exact HB.out)) hb); clear BK384; clear BK385; clear HB; have BK384 := n0_; have BK385 := n1_; have HB := n2_; clear n0_ n1_ n2_; (try clear hb); (try clear hb2); (try clear hk); (try clear hi); have hcz16_0 : w15.cell? ⟨gb385, 0, none⟩ = some (.int .i64 a1_0) := (blk_cell BK385.out 0).trans rfl; have hcz16_1 : w15.cell? ⟨gb385, 1, none⟩ = some (.slice A1_1 l1_1.length c1_1) := (blk_cell BK385.out 1).trans rfl; have hcz16_2 : w15.cell? ⟨gb385, 2, none⟩ = some (.slice A1_2 l1_2.length c1_2) := (blk_cell BK385.out 2).trans rfl; have hfz16_0 := blk_frozen BK385.out 0; have hfz16_1 := blk_frozen BK385.out 1; have hfz16_2 := blk_frozen BK385.out 2; have p387 : 0 ≤ ((ji5) : Int) := of_decide_eq_true (by first | (with_reducible assumption) | assumption); have q387 : (ji5) < (l1_2.length : Int) := of_decide_eq_true (by first | (with_reducible assumption) | assumption); obtain ⟨ad387, e387, hx387_0⟩ := Kd.at_int HR1_2.out (ji5) p387 q387; cases e387; replace hx387_0 := (HB.out.cell (World.block_lt_of_cell? w _ hx387_0)).trans hx387_0; replace p387 := eq_true p387; replace q387 := eq_true q387) | (go_at_call 47; (with_reducible refine (macadamref00_Total.calls k _ _ l1_1 t388 _ ?side1 ?side2 A8.out).mono ?_); (case side1 => repeat (first | exact (Kd.C_below HR1_1.out HB.out) | (with_reducible refine Kd.C_alloc ?_ _) | (with_reducible refine Kd.C_drewN ?_ _) | (with_reducible refine Kd.C_drew ?_))); (case side2 => exact HC1_1.out); rintro e w' ⟨rfl, ⟨nd, rfl⟩⟩; (try first | exact ⟨rfl, _, World.drewN_drewN _ _ _⟩ | exact ⟨rfl, _, Eq.trans (World.drewN_drewN _ _ _) (congrArg (World.drewN _) (Nat.add_assoc _ _ _))⟩); have hcz17_0 : w15.cell? ⟨gb384, 0, none⟩ = some (.slice A0_0 l0_0.length c0_0) := (blk_cell BK384.out 0).trans rfl; have hcz17_1 : w15.cell? ⟨gb384, 1, none⟩ = some (.int .i64 a0_1) := (blk_cell BK384.out 1).trans rfl; have hcz17_2 : w15.cell? ⟨gb384, 2, none⟩ = some (.int .i64 a0_2) := (blk_cell BK384.out 2).trans rfl; have hcz17_3 : w15.cell? ⟨gb384, 3, none⟩ = some (.int .i64 a0_3) := (blk_cell BK384.out 3).trans rfl; have hcz17_4 : w15.cell? ⟨gb384, 4, none⟩ = some (.int .i64 a0_4) := (blk_cell BK384.out 4).trans rfl; have hcz17_5 : w15.cell? ⟨gb384, 5, none⟩ = some (.slice A0_5 l0_5.length c0_5) := (blk_cell BK384.out 5).trans rfl; have hcz17_6 : w15.cell? ⟨gb384, 6, none⟩ = some (.int .i64 a0_6) := (blk_cell BK384.out 6).trans rfl; have hfz17_0 := blk_frozen BK384.out 0; have hfz17_1 := blk_frozen BK384.out 1; have hfz17_2 := blk_frozen BK384.out 2; have hfz17_3 := blk_frozen BK384.out 3; have hfz17_4 := blk_frozen BK384.out 4; have hfz17_5 := blk_frozen BK384.out 5; have hfz17_6 := blk_frozen BK384.out 6; have p389 : 0 ≤ ((ji5) : Int) := of_decide_eq_true (by first | (with_reducible assumption) | assumption); have q389 : (ji5) < (l0_0.length : Int) := of_decide_eq_true (by first | (with_reducible assumption) | assumption); obtain ⟨ad389, e389, hx389_0, hx389_1, hx389_2, hx389_3, hx389_4, hx389_5, hx389_6⟩ := at_T56 HR0_0.out (ji5) p389 q389; cases e389; replace hx389_0 := (HB.out.cell (World.block_lt_of_cell? w _ hx389_0)).trans hx389_0; replace hx389_1 := (HB.out.cell (World.block_lt_of_cell? w _ hx389_1)).trans hx389_1; replace hx389_2 := (HB.out.cell (World.block_lt_of_cell? w _ hx389_2)).trans hx389_2; replace hx389_3 := (HB.out.cell (World.block_lt_of_cell? w _ hx389_3)).trans hx389_3; replace hx389_4 := (HB.out.cell (World.block_lt_of_cell? w _ hx389_4)).trans hx389_4; replace hx389_5 := (HB.out.cell (World.block_lt_of_cell? w _ hx389_5)).trans hx389_5; replace hx389_6 := (HB.out.cell (World.block_lt_of_cell? w _ hx389_6)).trans hx389_6; replace p389 := eq_true p389; replace q389 := eq_true q389))
     repeat (go_quiet (first | ((with_reducible refine gate_dst (N := 2) rfl ?_); refine box_event ?hg (N := 2) ?hd (cs := #[.slice A0_0 l0_0.length c0_0, .int .i64 a0_1, .int .i64 a0_2, .int .i64 a0_3, .int .i64 a0_4, .slice A0_5 l0_5.length c0_5, .int .i64 a0_6]) (t := 26) ?hr ?_; (case hd => rfl); (case hg => rfl); (case hr => first | (go_simp; done) | (go_simp; rfl)); intro gb384 hg w10 hbox hb; have n0_ := Aside0.mk (below_step (by repeat (first | (with_reducible first | exact HB.out | apply below_alloc | apply pw_below_drewN | apply below_drew1) | exact HB.out)) hb); have n1_ := Aside0.mk (hbox); have n2_ := Aside0.mk ((by rw [hg]; exact (below_size (by repeat (first | (with_reducible first | exact HB.out | apply below_alloc | apply pw_below_drewN | apply below_drew1) | exact HB.out))) : w.heap.size ≤ gb384)); have n3_ := Aside0.mk ((by rw [hg]; exact (below_size (by repeat (first | (with_reducible first | exact HB.out | apply below_alloc | apply pw_below_drewN | apply below_drew1) | exact HB.out))) : w.heap.size ≤ gb384)); clear HB; have HB := n0_; have BK384 := n1_; have GW384 := n2_; have GE384 := n3_; clear n0_ n1_ n2_ n3_; clear hb hbox hg) | ((with_reducible refine gate_dst (N := 3) rfl ?_); refine box_event ?hg (N := 3) ?hd (cs := #[.int .i64 a1_0, .slice A1_1 l1_1.length c1_1, .slice A1_2 l1_2.length c1_2]) (t := 92) ?hr ?_; (case hd => rfl); (case hg => rfl); (case hr => first | (go_simp; done) | (go_simp; rfl)); intro gb385 hg w11 hbox hb; have n0_ := Aside0.mk (blk_below (g := gb384) (o := .cells #[.slice A0_0 l0_0.length c0_0, .int .i64 a0_1, .int .i64 a0_2, .int .i64 a0_3, .int .i64 a0_4, .slice A0_5 l0_5.length c0_5, .int .i64 a0_6] 26 (0, 0)) (by (with_reducible repeat (first | refine blk_drewN ?_ _ | refine blk_drew ?_ | refine blk_alloc ?_ _)); exact BK384.out) hb); have n1_ := Aside0.mk (below_step (by repeat (first | (with_reducible first | exact HB.out | apply below_alloc | apply pw_below_drewN | apply below_drew1 | refine below_set ?_ GE384.out) | exact HB.out)) hb); have n2_ := Aside0.mk (hbox); have n3_ := Aside0.mk ((by rw [hg]; exact (below_size (by repeat (first | (with_reducible first | exact HB.out | apply below_alloc | apply pw_below_drewN | apply below_drew1 | refine below_set ?_ GE384.out) | exact HB.out))) : w.heap.size ≤ gb385)); have n4_ := Aside0.mk ((by rw [hg]; exact (below_size (by repeat (first | (with_reducible first | exact HB.out | apply below_alloc | apply pw_below_drewN | apply below_drew1 | refine below_set ?_ GE384.out) | exact HB.out))) : w.heap.size ≤ gb385)); have n5_ := Aside0.mk ((by rw [hg]; exact Nat.ne_of_lt (blk_lt (g := gb384) (o := .cells #[.slice A0_0 l0_0.length c0_0, .int .i64 a0_1, .int .i64 a0_2, .int .i64 a0_3, .int .i64 a0_4, .slice A0_5 l0_5.length c0_5, .int .i64 a0_6] 26 (0, 0)) (by (with_reducible repeat (first | refine blk_drewN ?_ _ | refine blk_drew ?_ | refine blk_alloc ?_ _)); exact BK384.out)) : gb384 ≠ gb385)); have n6_ := Aside0.mk ((by rw [hg]; exact Nat.ne_of_gt (blk_lt (g := gb384) (o := .cells #[.slice A0_0 l0_0.length c0_0, .int .i64 a0_1, .int .i64 a0_2, .int .i64 a0_3, .int .i64 a0_4, .slice A0_5 l0_5.length c0_5, .int .i64 a0_6] 26 (0, 0)) (by (with_reducible repeat (first | refine blk_drewN ?_ _ | refine blk_drew ?_ | refine blk_alloc ?_ _)); exact BK384.out)) : gb385 ≠ gb384)); clear BK384; clear HB; have BK384 := n0_; have HB := n1_; have BK385 := n2_; have GW385 := n3_; have GE385 := n4_; have NB384_385 := n5_; have NB385_384 := n6_; clear n0_ n1_ n2_ n3_ n4_ n5_ n6_; clear hb hbox hg; have hnb12 := NB384_385.out; have hnc12 := NB385_384.out; have hcz13_0 : w11.cell? ⟨gb384, 0, none⟩ = some (.slice A0_0 l0_0.length c0_0) := (blk_cell BK384.out 0).trans rfl; have hcz13_1 : w11.cell? ⟨gb384, 1, none⟩ = some (.int .i64 a0_1) := (blk_cell BK384.out 1).trans rfl; have hcz13_2 : w11.cell? ⟨gb384, 2, none⟩ = some (.int .i64 a0_2) := (blk_cell BK384.out 2).trans rfl; have hcz13_3 : w11.cell? ⟨gb384, 3, none⟩ = some (.int .i64 a0_3) := (blk_cell BK384.out 3).trans rfl; have hcz13_4 : w11.cell? ⟨gb384, 4, none⟩ = some (.int .i64 a0_4) := (blk_cell BK384.out 4).trans rfl; have hcz13_5 : w11.cell? ⟨gb384, 5, none⟩ = some (.slice A0_5 l0_5.length c0_5) := (blk_cell BK384.out 5).trans rfl; have hcz13_6 : w11.cell? ⟨gb384, 6, none⟩ = some (.int .i64 a0_6) := (blk_cell BK384.out 6).trans rfl; have hfz13_0 := blk_frozen BK384.out 0; have hfz13_1 := blk_frozen BK384.out 1; have hfz13_2 := blk_frozen BK384.out 2; have hfz13_3 := blk_frozen BK384.out 3; have hfz13_4 := blk_frozen BK384.out 4; have hfz13_5 := blk_frozen BK384.out 5; have hfz13_6 := blk_frozen BK384.out 6; have hcz14_0 : w11.cell? ⟨gb385, 0, none⟩ = some (.int .i64 a1_0) := (blk_cell BK385.out 0).trans rfl; have hcz14_1 : w11.cell? ⟨gb385, 1, none⟩ = some (.slice A1_1 l1_1.length c1_1) := (blk_cell BK385.out 1).trans rfl; have hcz14_2 : w11.cell? ⟨gb385, 2, none⟩ = some (.slice A1_2 l1_2.length c1_2) := (blk_cell BK385.out 2).trans rfl; have hfz14_0 := blk_frozen BK385.out 0; have hfz14_1 := blk_frozen BK385.out 1; have hfz14_2 := blk_frozen BK385.out 2) | (go_at_call 78; (with_reducible refine (macadamref06_late.calls _ _ l0_0 a0_1 a0_2 a0_3 a0_4 _ _ l0_5 a0_6 a1_0 _ _ l1_1 _ _ l1_2 ji5 t386 _ ?side1 ?side2 ?side3 ?side4 ?side5 ?side6 ?side7 ?side8 A3.out).mono ?_); (case side1 => repeat (first | exact (Kd.C_below HR0_0.out HB.out) | (with_reducible refine Kd.C_alloc ?_ _) | (with_reducible refine Kd.C_drewN ?_ _) | (with_reducible refine Kd.C_drew ?_))); (case side2 => exact HC0_0.out); (case side3 => repeat (first | exact (Kd.C_below HR0_5.out HB.out) | (with_reducible refine Kd.C_alloc ?_ _) | (with_reducible refine Kd.C_drewN ?_ _) | (with_reducible refine Kd.C_drew ?_))); (case side4 => exact HC0_5.out); (case side5 => repeat (first | exact (Kd.C_below HR1_1.out HB.out) | (with_reducible refine Kd.C_alloc ?_ _) | (with_reducible refine Kd.C_drewN ?_ _) | (with_reducible refine Kd.C_drew ?_))); (case side6 => exact HC1_1.out); (case side7 => repeat (first | exact (Kd.C_below HR1_2.out HB.out) | (with_reducible refine Kd.C_alloc ?_ _) | (with_reducible refine Kd.C_drewN ?_ _) | (with_reducible refine Kd.C_drew ?_))); (case side8 => exact HC1_2.out); rintro e w15 ⟨rfl, hb⟩; have n0_ := Aside0.mk (blk_below (g := gb384) (o := .cells #[.slice A0_0 l0_0.length c0_0, .int .i64 a0_1, .int .i64 a0_2, .int .i64 a0_3, .int .i64 a0_4, .slice A0_5 l0_5.length c0_5, .int .i64 a0_6] 26 (0, 0)) (by (with_reducible repeat (first | refine blk_drewN ?_ _ | refine blk_drew ?_ | refine blk_alloc ?_ _)); exact BK384.out) hb); have n1_ := Aside0.mk (blk_below (g := gb385) (o := .cells #[.int .i64 a1_0, .slice A1_1 l1_1.length c1_1, .slice A1_2 l1_2.length c1_2] 92 (0, 0)) (by (with_reducible repeat (first | refine blk_drewN ?_ _ | refine blk_drew ?_ | refine blk_alloc ?_ _)); exact BK385.out) hb); have n2_ := Aside0.mk (below_step (by repeat (first | (with_reducible first | exact HB.out | apply below_alloc | apply pw_below_drewN | apply below_drew1 | refine below_set ?_ GE384.out | refine below_set ?_ GE385.out) | exact HB.out)) hb); clear BK384; clear BK385; clear HB; have BK384 := n0_; have BK385 := n1_; have HB := n2_; clear n0_ n1_ n2_; (try clear hb); (try clear hb2); (try clear hk); (try clear hi); have hcz16_0 : w15.cell? ⟨gb385, 0, none⟩ = some (.int .i64 a1_0) := (blk_cell BK385.out 0).trans rfl; have hcz16_1 : w15.cell? ⟨gb385, 1, none⟩ = some (.slice A1_1 l1_1.length c1_1) := (blk_cell BK385.out 1).trans rfl; have hcz16_2 : w15.cell? ⟨gb385, 2, none⟩ = some (.slice A1_2 l1_2.length c1_2) := (blk_cell BK385.out 2).trans rfl; have hfz16_0 := blk_frozen BK385.out 0; have hfz16_1 := blk_frozen BK385.out 1; have hfz16_2 := blk_frozen BK385.out 2; have p387 : 0 ≤ ((ji5) : Int) := of_decide_eq_true (by first | (with_reducible assumption) | assumption); have q387 : (ji5) < (l1_2.length : Int) := of_decide_eq_true (by first | (with_reducible assumption) | assumption); obtain ⟨ad387, e387, hx387_0⟩ := Kd.at_int HR1_2.out (ji5) p387 q387; cases e387; replace hx387_0 := (HB.out.cell (World.block_lt_of_cell? w _ hx387_0)).trans hx387_0; replace p387 := eq_true p387; replace q387 := eq_true q387) | (go_at_call 47; (with_reducible refine (macadamref00_Total.calls k _ _ l1_1 t388 _ ?side1 ?side2 A8.out).mono ?_); (case side1 => repeat (first | exact (Kd.C_below HR1_1.out HB.out) | (with_reducible refine Kd.C_alloc ?_ _) | (with_reducible refine Kd.C_drewN ?_ _) | (with_reducible refine Kd.C_drew ?_))); (case side2 => exact HC1_1.out); rintro e w' ⟨rfl, ⟨nd, rfl⟩⟩; (try first | exact ⟨rfl, _, World.drewN_drewN _ _ _⟩ | exact ⟨rfl, _, Eq.trans (World.drewN_drewN _ _ _) (congrArg (World.drewN _) (Nat.add_assoc _ _ _))⟩); have hcz17_0 : w15.cell? ⟨gb384, 0, none⟩ = some (.slice A0_0 l0_0.length c0_0) := (blk_cell BK384.out 0).trans rfl; have hcz17_1 : w15.cell? ⟨gb384, 1, none⟩ = some (.int .i64 a0_1) := (blk_cell BK384.out 1).trans rfl; have hcz17_2 : w15.cell? ⟨gb384, 2, none⟩ = some (.int .i64 a0_2) := (blk_cell BK384.out 2).trans rfl; have hcz17_3 : w15.cell? ⟨gb384, 3, none⟩ = some (.int .i64 a0_3) := (blk_cell BK384.out 3).trans rfl; have hcz17_4 : w15.cell? ⟨gb384, 4, none⟩ = some (.int .i64 a0_4) := (blk_cell BK384.out 4).trans rfl; have hcz17_5 : w15.cell? ⟨gb384, 5, none⟩ = some (.slice A0_5 l0_5.length c0_5) := (blk_cell BK384.out 5).trans rfl; have hcz17_6 : w15.cell? ⟨gb384, 6, none⟩ = some (.int .i64 a0_6) := (blk_cell BK384.out 6).trans rfl; have hfz17_0 := blk_frozen BK384.out 0; have hfz17_1 := blk_frozen BK384.out 1; have hfz17_2 := blk_frozen BK384.out 2; have hfz17_3 := blk_frozen BK384.out 3; have hfz17_4 := blk_frozen BK384.out 4; have hfz17_5 := blk_frozen BK384.out 5; have hfz17_6 := blk_frozen BK384.out 6; have p389 : 0 ≤ ((ji5) : Int) := of_decide_eq_true (by first | (with_reducible assumption) | assumption); have q389 : (ji5) < (l0_0.length : Int) := of_decide_eq_true (by first | (with_reducible assumption) | assumption); obtain ⟨ad389, e389, hx389_0, hx389_1, hx389_2, hx389_3, hx389_4, hx389_5, hx389_6⟩ := at_T56 HR0_0.out (ji5) p389 q389; cases e389; replace hx389_0 := (HB.out.cell (World.block_lt_of_cell? w _ hx389_0)).trans hx389_0; replace hx389_1 := (HB.out.cell (World.block_lt_of_cell? w _ hx389_1)).trans hx389_1; replace hx389_2 := (HB.out.cell (World.block_lt_of_cell? w _ hx389_2)).trans hx389_2; replace hx389_3 := (HB.out.cell (World.block_lt_of_cell? w _ hx389_3)).trans hx389_3; replace hx389_4 := (HB.out.cell (World.block_lt_of_cell? w _ hx389_4)).trans hx389_4; replace hx389_5 := (HB.out.cell (World.block_lt_of_cell? w _ hx389_5)).trans hx389_5; replace hx389_6 := (HB.out.cell (World.block_lt_of_cell? w _ hx389_6)).trans hx389_6; replace p389 := eq_true p389; replace q389 := eq_true q389)); try go_wp2_with (first | ((with_reducible refine gate_dst (N := 2) rfl ?_); refine box_event ?hg (N := 2) ?hd (cs := #[.slice A0_0 l0_0.length c0_0, .int .i64 a0_1, .int .i64 a0_2, .int .i64 a0_3, .int .i64 a0_4, .slice A0_5 l0_5.length c0_5, .int .i64 a0_6]) (t := 26) ?hr ?_; (case hd => rfl); (case hg => rfl); (case hr => first | (go_simp; done) | (go_simp; rfl)); intro gb384 hg w10 hbox hb; have n0_ := Aside0.mk (below_step (by repeat (first | (with_reducible first | exact HB.out | apply below_alloc | apply pw_below_drewN | apply below_drew1) | exact HB.out)) hb); have n1_ := Aside0.mk (hbox); have n2_ := Aside0.mk ((by rw [hg]; exact (below_size (by repeat (first | (with_reducible first | exact HB.out | apply below_alloc | apply pw_below_drewN | apply below_drew1) | exact HB.out))) : w.heap.size ≤ gb384)); have n3_ := Aside0.mk ((by rw [hg]; exact (below_size (by repeat (first | (with_reducible first | exact HB.out | apply below_alloc | apply pw_below_drewN | apply below_drew1) | exact HB.out))) : w.heap.size ≤ gb384)); clear HB; have HB := n0_; have BK384 := n1_; have GW384 := n2_; have GE384 := n3_; clear n0_ n1_ n2_ n3_; clear hb hbox hg) | ((with_reducible refine gate_dst (N := 3) rfl ?_); refine box_event ?hg (N := 3) ?hd (cs := #[.int .i64 a1_0, .slice A1_1 l1_1.length c1_1, .slice A1_2 l1_2.length c1_2]) (t := 92) ?hr ?_; (case hd => rfl); (case hg => rfl); (case hr => first | (go_simp; done) | (go_simp; rfl)); intro gb385 hg w11 hbox hb; have n0_ := Aside0.mk (blk_below (g := gb384) (o := .cells #[.slice A0_0 l0_0.length c0_0, .int .i64 a0_1, .int .i64 a0_2, .int .i64 a0_3, .int .i64 a0_4, .slice A0_5 l0_5.length c0_5, .int .i64 a0_6] 26 (0, 0)) (by (with_reducible repeat (first | refine blk_drewN ?_ _ | refine blk_drew ?_ | refine blk_alloc ?_ _)); exact BK384.out) hb); have n1_ := Aside0.mk (below_step (by repeat (first | (with_reducible first | exact HB.out | apply below_alloc | apply pw_below_drewN | apply below_drew1 | refine below_set ?_ GE384.out) | exact HB.out)) hb); have n2_ := Aside0.mk (hbox); have n3_ := Aside0.mk ((by rw [hg]; exact (below_size (by repeat (first | (with_reducible first | exact HB.out | apply below_alloc | apply pw_below_drewN | apply below_drew1 | refine below_set ?_ GE384.out) | exact HB.out))) : w.heap.size ≤ gb385)); have n4_ := Aside0.mk ((by rw [hg]; exact (below_size (by repeat (first | (with_reducible first | exact HB.out | apply below_alloc | apply pw_below_drewN | apply below_drew1 | refine below_set ?_ GE384.out) | exact HB.out))) : w.heap.size ≤ gb385)); have n5_ := Aside0.mk ((by rw [hg]; exact Nat.ne_of_lt (blk_lt (g := gb384) (o := .cells #[.slice A0_0 l0_0.length c0_0, .int .i64 a0_1, .int .i64 a0_2, .int .i64 a0_3, .int .i64 a0_4, .slice A0_5 l0_5.length c0_5, .int .i64 a0_6] 26 (0, 0)) (by (with_reducible repeat (first | refine blk_drewN ?_ _ | refine blk_drew ?_ | refine blk_alloc ?_ _)); exact BK384.out)) : gb384 ≠ gb385)); have n6_ := Aside0.mk ((by rw [hg]; exact Nat.ne_of_gt (blk_lt (g := gb384) (o := .cells #[.slice A0_0 l0_0.length c0_0, .int .i64 a0_1, .int .i64 a0_2, .int .i64 a0_3, .int .i64 a0_4, .slice A0_5 l0_5.length c0_5, .int .i64 a0_6] 26 (0, 0)) (by (with_reducible repeat (first | refine blk_drewN ?_ _ | refine blk_drew ?_ | refine blk_alloc ?_ _)); exact BK384.out)) : gb385 ≠ gb384)); clear BK384; clear HB; have BK384 := n0_; have HB := n1_; have BK385 := n2_; have GW385 := n3_; have GE385 := n4_; have NB384_385 := n5_; have NB385_384 := n6_; clear n0_ n1_ n2_ n3_ n4_ n5_ n6_; clear hb hbox hg; have hnb12 := NB384_385.out; have hnc12 := NB385_384.out; have hcz13_0 : w11.cell? ⟨gb384, 0, none⟩ = some (.slice A0_0 l0_0.length c0_0) := (blk_cell BK384.out 0).trans rfl; have hcz13_1 : w11.cell? ⟨gb384, 1, none⟩ = some (.int .i64 a0_1) := (blk_cell BK384.out 1).trans rfl; have hcz13_2 : w11.cell? ⟨gb384, 2, none⟩ = some (.int .i64 a0_2) := (blk_cell BK384.out 2).trans rfl; have hcz13_3 : w11.cell? ⟨gb384, 3, none⟩ = some (.int .i64 a0_3) := (blk_cell BK384.out 3).trans rfl; have hcz13_4 : w11.cell? ⟨gb384, 4, none⟩ = some (.int .i64 a0_4) := (blk_cell BK384.out 4).trans rfl; have hcz13_5 : w11.cell? ⟨gb384, 5, none⟩ = some (.slice A0_5 l0_5.length c0_5) := (blk_cell BK384.out 5).trans rfl; have hcz13_6 : w11.cell? ⟨gb384, 6, none⟩ = some (.int .i64 a0_6) := (blk_cell BK384.out 6).trans rfl; have hfz13_0 := blk_frozen BK384.out 0; have hfz13_1 := blk_frozen BK384.out 1; have hfz13_2 := blk_frozen BK384.out 2; have hfz13_3 := blk_frozen BK384.out 3; have hfz13_4 := blk_frozen BK384.out 4; have hfz13_5 := blk_frozen BK384.out 5; have hfz13_6 := blk_frozen BK384.out 6; have hcz14_0 : w11.cell? ⟨gb385, 0, none⟩ = some (.int .i64 a1_0) := (blk_cell BK385.out 0).trans rfl; have hcz14_1 : w11.cell? ⟨gb385, 1, none⟩ = some (.slice A1_1 l1_1.length c1_1) := (blk_cell BK385.out 1).trans rfl; have hcz14_2 : w11.cell? ⟨gb385, 2, none⟩ = some (.slice A1_2 l1_2.length c1_2) := (blk_cell BK385.out 2).trans rfl; have hfz14_0 := blk_frozen BK385.out 0; have hfz14_1 := blk_frozen BK385.out 1; have hfz14_2 := blk_frozen BK385.out 2) | (go_at_call 78; (with_reducible refine (macadamref06_late.calls _ _ l0_0 a0_1 a0_2 a0_3 a0_4 _ _ l0_5 a0_6 a1_0 _ _ l1_1 _ _ l1_2 ji5 t386 _ ?side1 ?side2 ?side3 ?side4 ?side5 ?side6 ?side7 ?side8 A3.out).mono ?_); (case side1 => repeat (first | exact (Kd.C_below HR0_0.out HB.out) | (with_reducible refine Kd.C_alloc ?_ _) | (with_reducible refine Kd.C_drewN ?_ _) | (with_reducible refine Kd.C_drew ?_))); (case side2 => exact HC0_0.out); (case side3 => repeat (first | exact (Kd.C_below HR0_5.out HB.out) | (with_reducible refine Kd.C_alloc ?_ _) | (with_reducible refine Kd.C_drewN ?_ _) | (with_reducible refine Kd.C_drew ?_))); (case side4 => exact HC0_5.out); (case side5 => repeat (first | exact (Kd.C_below HR1_1.out HB.out) | (with_reducible refine Kd.C_alloc ?_ _) | (with_reducible refine Kd.C_drewN ?_ _) | (with_reducible refine Kd.C_drew ?_))); (case side6 => exact HC1_1.out); (case side7 => repeat (first | exact (Kd.C_below HR1_2.out HB.out) | (with_reducible refine Kd.C_alloc ?_ _) | (with_reducible refine Kd.C_drewN ?_ _) | (with_reducible refine Kd.C_drew ?_))); (case side8 => exact HC1_2.out); rintro e w15 ⟨rfl, hb⟩; have n0_ := Aside0.mk (blk_below (g := gb384) (o := .cells #[.slice A0_0 l0_0.length c0_0, .int .i64 a0_1, .int .i64 a0_2, .int .i64 a0_3, .int .i64 a0_4, .slice A0_5 l0_5.length c0_5, .int .i64 a0_6] 26 (0, 0)) (by (with_reducible repeat (first | refine blk_drewN ?_ _ | refine blk_drew ?_ | refine blk_alloc ?_ _)); exact BK384.out) hb); have n1_ := Aside0.mk (blk_below (g := gb385) (o := .cells #[.int .i64 a1_0, .slice A1_1 l1_1.length c1_1, .slice A1_2 l1_2.length c1_2] 92 (0, 0)) (by (with_reducible repeat (first | refine blk_drewN ?_ _ | refine blk_drew ?_ | refine blk_alloc ?_ _)); exact BK385.out) hb); have n2_ := Aside0.mk (below_step (by repeat (first | (with_reducible first | exact HB.out | apply below_alloc | apply pw_below_drewN | apply below_drew1 | refine below_set ?_ GE384.out | refine below_set ?_ GE385.out) | exact HB.out)) hb); clear BK384; clear BK385; clear HB; have BK384 := n0_; have BK385 := n1_; have HB := n2_; clear n0_ n1_ n2_; (try clear hb); (try clear hb2); (try clear hk); (try clear hi); have hcz16_0 : w15.cell? ⟨gb385, 0, none⟩ = some (.int .i64 a1_0) := (blk_cell BK385.out 0).trans rfl; have hcz16_1 : w15.cell? ⟨gb385, 1, none⟩ = some (.slice A1_1 l1_1.length c1_1) := (blk_cell BK385.out 1).trans rfl; have hcz16_2 : w15.cell? ⟨gb385, 2, none⟩ = some (.slice A1_2 l1_2.length c1_2) := (blk_cell BK385.out 2).trans rfl; have hfz16_0 := blk_frozen BK385.out 0; have hfz16_1 := blk_frozen BK385.out 1; have hfz16_2 := blk_frozen BK385.out 2; have p387 : 0 ≤ ((ji5) : Int) := of_decide_eq_true (by first | (with_reducible assumption) | assumption); have q387 : (ji5) < (l1_2.length : Int) := of_decide_eq_true (by first | (with_reducible assumption) | assumption); obtain ⟨ad387, e387, hx387_0⟩ := Kd.at_int HR1_2.out (ji5) p387 q387; cases e387; replace hx387_0 := (HB.out.cell (World.block_lt_of_cell? w _ hx387_0)).trans hx387_0; replace p387 := eq_true p387; replace q387 := eq_true q387) | (go_at_call 47; (with_reducible refine (macadamref00_Total.calls k _ _ l1_1 t388 _ ?side1 ?side2 A8.out).mono ?_); (case side1 => repeat (first | exact (Kd.C_below HR1_1.out HB.out) | (with_reducible refine Kd.C_alloc ?_ _) | (with_reducible refine Kd.C_drewN ?_ _) | (with_reducible refine Kd.C_drew ?_))); (case side2 => exact HC1_1.out); rintro e w' ⟨rfl, ⟨nd, rfl⟩⟩; (try first | exact ⟨rfl, _, World.drewN_drewN _ _ _⟩ | exact ⟨rfl, _, Eq.trans (World.drewN_drewN _ _ _) (congrArg (World.drewN _) (Nat.add_assoc _ _ _))⟩); have hcz17_0 : w15.cell? ⟨gb384, 0, none⟩ = some (.slice A0_0 l0_0.length c0_0) := (blk_cell BK384.out 0).trans rfl; have hcz17_1 : w15.cell? ⟨gb384, 1, none⟩ = some (.int .i64 a0_1) := (blk_cell BK384.out 1).trans rfl; have hcz17_2 : w15.cell? ⟨gb384, 2, none⟩ = some (.int .i64 a0_2) := (blk_cell BK384.out 2).trans rfl; have hcz17_3 : w15.cell? ⟨gb384, 3, none⟩ = some (.int .i64 a0_3) := (blk_cell BK384.out 3).trans rfl; have hcz17_4 : w15.cell? ⟨gb384, 4, none⟩ = some (.int .i64 a0_4) := (blk_cell BK384.out 4).trans rfl; have hcz17_5 : w15.cell? ⟨gb384, 5, none⟩ = some (.slice A0_5 l0_5.length c0_5) := (blk_cell BK384.out 5).trans rfl; have hcz17_6 : w15.cell? ⟨gb384, 6, none⟩ = some (.int .i64 a0_6) := (blk_cell BK384.out 6).trans rfl; have hfz17_0 := blk_frozen BK384.out 0; have hfz17_1 := blk_frozen BK384.out 1; have hfz17_2 := blk_frozen BK384.out 2; have hfz17_3 := blk_frozen BK384.out 3; have hfz17_4 := blk_frozen BK384.out 4; have hfz17_5 := blk_frozen BK384.out 5; have hfz17_6 := blk_frozen BK384.out 6; have p389 : 0 ≤ ((ji5) : Int) := of_decide_eq_true (by first | (with_reducible assumption) | assumption); have q389 : (ji5) < (l0_0.length : Int) := of_decide_eq_true (by first | (with_reducible assumption) | assumption); obtain ⟨ad389, e389, hx389_0, hx389_1, hx389_2, hx389_3, hx389_4, hx389_5, hx389_6⟩ := at_T56 HR0_0.out (ji5) p389 q389; cases e389; replace hx389_0 := (HB.out.cell (World.block_lt_of_cell? w _ hx389_0)).trans hx389_0; replace hx389_1 := (HB.out.cell (World.block_lt_of_cell? w _ hx389_1)).trans hx389_1; replace hx389_2 := (HB.out.cell (World.block_lt_of_cell? w _ hx389_2)).trans hx389_2; replace hx389_3 := (HB.out.cell (World.block_lt_of_cell? w _ hx389_3)).trans hx389_3; replace hx389_4 := (HB.out.cell (World.block_lt_of_cell? w _ hx389_4)).trans hx389_4; replace hx389_5 := (HB.out.cell (World.block_lt_of_cell? w _ hx389_5)).trans hx389_5; replace hx389_6 := (HB.out.cell (World.block_lt_of_cell? w _ hx389_6)).trans hx389_6; replace p389 := eq_true p389; replace q389 := eq_true q389)))
     go_ret
     exact ⟨by first | rfl | (simp [errW_none, errW_some] <;> rfl) | (simp only [i64_w, i32_w] <;> rfl) | (simp only [← hji5]; first | rfl | (simp [errW_none, errW_some] <;> rfl)) | (simp [*, errW_none, errW_some] <;> rfl), by repeat (first | (with_reducible first | exact HB.out | apply below_alloc | apply pw_below_drewN | apply below_drew1 | refine below_set ?_ GE384.out | refine below_set ?_ GE385.out) | exact HB.out)⟩
    ·rw [if_neg c9] at H
     exact absurd H (by simp)
   ·rw [if_neg c7] at H
    exact absurd H (by simp)
  ·rw [if_neg c6] at H
   exact absurd H (by simp)
 ·rw [if_neg c4] at H
  have c4b0 : decide (0 < t386) = false := decide_eq_false c4
  clear c4
  obtain rfl := Option.some.inj H
  go_enter Tryd.func82, Tryd.ntmps82
  go_wp2_with (first | ((with_reducible refine gate_dst (N := 2) rfl ?_); refine box_event ?hg (N := 2) ?hd (cs := #[.slice A0_0 l0_0.length c0_0, .int .i64 a0_1, .int .i64 a0_2, .int .i64 a0_3, .int .i64 a0_4, .slice A0_5 l0_5.length c0_5, .int .i64 a0_6]) (t := 26) ?hr ?_; (case hd => rfl); (case hg => rfl); (case hr => first | (go_simp; done) | (go_simp; rfl)); intro gb384 hg w18 hbox hb; have n0_ := Aside0.mk (below_step (by repeat (first | (with_reducible first | exact HB.out | apply below_alloc | apply pw_below_drewN | apply below_drew1) | exact HB.out)) hb); have n1_ := Aside0.mk (hbox); have n2_ := Aside0.mk ((by rw [hg]; exact (below_size (by repeat (first | (with_reducible first | exact HB.out | apply below_alloc | apply pw_below_drewN | apply below_drew1) | exact HB.out))) : w.heap.size ≤ gb384)); have n3_ := Aside0.mk ((by rw [hg]; exact (below_size (by repeat (first | (with_reducible first | exact HB.out | apply below_alloc | apply pw_below_drewN | apply below_drew1) | exact HB.out))) : w.heap.size ≤ gb384)); clear HB; have HB := n0_; have BK384 := n1_; have GW384 := n2_; have GE384 := n3_; clear n0_ n1_ n2_ n3_; clear hb hbox hg) | ((with_reducible refine gate_dst (N := 3) rfl ?_); refine box_event ?hg (N := 3) ?hd (cs := #[.int .i64 a1_0, .slice A1_1 l1_1.length c1_1, .slice A1_2 l1_2.length c1_2]) (t := 92) ?hr ?_; (case hd => rfl); (case hg => rfl); (case hr => first | (go_simp; done) | (go_simp; rfl)); intro gb385 hg w19 hbox hb; have n0_ := Aside0.mk (blk_below (g := gb384) (o := .cells #[.slice A0_0 l0_0.length c0_0, .int .i64 a0_1, .int .i64 a0_2, .int .i64 a0_3, .int .i64 a0_4, .slice A0_5 l0_5.length c0_5, .int .i64 a0_6] 26 (0, 0)) (by (with_reducible repeat (first | refine blk_drewN ?_ _ | refine blk_drew ?_ | refine blk_alloc ?_ _)); exact BK384.out) hb); have n1_ := Aside0.mk (below_step (by repeat (first | (with_reducible first | exact HB.out | apply below_alloc | apply pw_below_drewN | apply below_drew1 | refine below_set ?_ GE384.out) | exact HB.out)) hb); have n2_ := Aside0.mk (hbox); have n3_ := Aside0.mk ((by rw [hg]; exact (below_size (by repeat (first | (with_reducible first | exact HB.out | apply below_alloc | apply pw_below_drewN | apply below_drew1 | refine below_set ?_ GE384.out) | exact HB.out))) : w.heap.size ≤ gb385)); have n4_ := Aside0.mk ((by rw [hg]; exact (below_size (by repeat (first | (with_reducible first | exact HB.out | apply below_alloc | apply pw_below_drewN | apply below_drew1 | refine below_set ?_ GE384.out) | exact HB.out))) : w.heap.size ≤ gb385)); have n5_ := Aside0.mk ((by rw [hg]; exact Nat.ne_of_lt (blk_lt (g := gb384) (o := .cells #[.slice A0_0 l0_0.length c0_0, .int .i64 a0_1, .int .i64 a0_2, .int .i64 a0_3, .int .i64 a0_4, .slice A0_5 l0_5.length c0_5, .int .i64 a0_6] 26 (0, 0)) (by (with_reducible repeat (first | refine blk_drewN ?_ _ | refine blk_drew ?_ | refine blk_alloc ?_ _)); exact BK384.out)) : gb384 ≠ gb385)); have n6_ := Aside0.mk ((by rw [hg]; exact Nat.ne_of_gt (blk_lt (g := gb384) (o := .cells #[.slice A0_0 l0_0.length c0_0, .int .i64 a0_1, .int .i64 a0_2, .int .i64 a0_3, .int .i64 a0_4, .slice A0_5 l0_5.length c0_5, .int .i64 a0_6] 26 (0, 0)) (by (with_reducible repeat (first | refine blk_drewN ?_ _ | refine blk_drew ?_ | refine blk_alloc ?_ _)); exact BK384.out)) : gb385 ≠ gb384)); clear BK384; clear HB; have BK384 := n0_; have HB := n1_; have BK385 := n2_; have GW385 := n3_; have GE385 := n4_; have NB384_385 := n5_; have NB385_384 := n6_; clear n0_ n1_ n2_ n3_ n4_ n5_ n6_; clear hb hbox hg; have hnb20 := NB384_385.out; have hnc20 := NB385_384.out; have hcz21_0 : w19.cell? ⟨gb384, 0, none⟩ = some (.slice A0_0 l0_0.length c0_0) := (blk_cell BK384.out 0).trans rfl; have hcz21_1 : w19.cell? ⟨gb384, 1, none⟩ = some (.int .i64 a0_1) := (blk_cell BK384.out 1).trans rfl; have hcz21_2 : w19.cell? ⟨gb384, 2, none⟩ = some (.int .i64 a0_2) := (blk_cell BK384.out 2).trans rfl; have hcz21_3 : w19.cell? ⟨gb384, 3, none⟩ = some (.int .i64 a0_3) := (blk_cell BK384.out 3).trans rfl; have hcz21_4 : w19.cell? ⟨gb384, 4, none⟩ = some (.int .i64 a0_4) := (blk_cell BK384.out 4).trans rfl; have hcz21_5 : w19.cell? ⟨gb384, 5, none⟩ = some (.slice A0_5 l0_5.length c0_5) := (blk_cell BK384.out 5).trans rfl; have hcz21_6 : w19.cell? ⟨gb384, 6, none⟩ = some (.int .i64 a0_6) := (blk_cell BK384.out 6).trans rfl; have hfz21_0 := blk_frozen BK384.out 0; have hfz21_1 := blk_frozen BK384.out 1; have hfz21_2 := blk_frozen BK384.out 2; have hfz21_3 := blk_frozen BK384.out 3; have hfz21_4 := blk_frozen BK384.out 4; have hfz21_5 := blk_frozen BK384.out 5; have hfz21_6 := blk_frozen BK384.out 6; have hcz22_0 : w19.cell? ⟨gb385, 0, none⟩ = some (.int .i64 a1_0) := (blk_cell BK385.out 0).trans rfl; have hcz22_1 : w19.cell? ⟨gb385, 1, none⟩ = some (.slice A1_1 l1_1.length c1_1) := (blk_cell BK385.out 1).trans rfl; have hcz22_2 : w19.cell? ⟨gb385, 2, none⟩ = some (.slice A1_2 l1_2.length c1_2) := (blk_cell BK385.out 2).trans rfl; have hfz22_0 := blk_frozen BK385.out 0; have hfz22_1 := blk_frozen BK385.out 1; have hfz22_2 := blk_frozen BK385.out 2) | (go_at_call 78; (with_reducible refine (macadamref06_late.calls _ _ l0_0 a0_1 a0_2 a0_3 a0_4 _ _ l0_5 a0_6 a1_0 _ _ l1_1 _ _ l1_2 (wrap64 ((l0_0.length : Int) - 1)) t386 _ ?side1 ?side2 ?side3 ?side4 ?side5 ?side6 ?side7 ?side8 A3.out).mono ?_); (case side1 => repeat (first | exact (Kd.C_below HR0_0.out HB.out) | (with_reducible refine Kd.C_alloc ?_ _) | (with_reducible refine Kd.C_drewN ?_ _) | (with_reducible refine Kd.C_drew ?_))); (case side2 => exact HC0_0.out); (case side3 => repeat (first | exact (Kd.C_below HR0_5.out HB.out) | (with_reducible refine Kd.C_alloc ?_ _) | (with_reducible refine Kd.C_drewN ?_ _) | (with_reducible refine Kd.C_drew ?_))); (case side4 => exact HC0_5.out); (case side5 => repeat (first | exact (Kd.C_below HR1_1.out HB.out) | (with_reducible refine Kd.C_alloc ?_ _) | (with_reducible refine Kd.C_drewN ?_ _) | (with_reducible refine Kd.C_drew ?_))); (case side6 => exact HC1_1.out); (case side7 => repeat (first | exact (Kd.C_below HR1_2.out HB.out) | (with_reducible refine Kd.C_alloc ?_ _) | (with_reducible refine Kd.C_drewN ?_ _) | (with_reducible refine Kd.C_drew ?_))); (case side8 => exact HC1_2.out); rintro e w23 ⟨rfl, hb⟩; have n0_ := Aside0.mk (blk_below (g := gb384) (o := .cells #[.slice A0_0 l0_0.length c0_0, .int .i64 a0_1, .int .i64 a0_2, .int .i64 a0_3, .int .i64 a0_4, .slice A0_5 l0_5.length c0_5, .int .i64 a0_6] 26 (0, 0)) (by (with_reducible repeat (first | refine blk_drewN ?_ _ | refine blk_drew ?_ | refine blk_alloc ?_ _)); exact BK384.out) hb); have n1_ := Aside0.mk (blk_below (g := gb385) (o := .cells #[.int .i64 a1_0, .slice A1_1 l1_1.length c1_1, .slice A1_2 l1_2.length c1_2] 92 (0, 0)) (by (with_reducible repeat (first | refine blk_drewN ?_ _ | refine blk_drew ?_ | refine blk_alloc ?_ _)); exact BK385.out) hb); have n2_ := Aside0.mk (below_step (by repeat (first | (with_reducible first | exact HB.out | apply below_alloc | apply pw_below_drewN | apply below_drew1 | refine below_set ?_ GE384.out | refine below_set ?_ GE385.out) | exact HB.out)) hb); clear BK384; clear BK385; clear HB; have BK384 := n0_; have BK385 := n1_; have HB := n2_; clear n0_ n1_ n2_; (try clear hb); (try clear hb2); (try clear hk); (try clear hi)))
  repeat (go_quiet (first | ((with_reducible refine gate_dst (N := 2) rfl ?_); refine box_event ?hg (N := 2) ?hd (cs := #[.slice A0_0 l0_0.length c0_0, .int .i64 a0_1, .int .i64 a0_2, .int .i64 a0_3, .int .i64 a0_4, .slice A0_5 l0_5.length c0_5, .int .i64 a0_6]) (t := 26) ?hr ?_; (case hd => rfl); (case hg => rfl); (case hr => first | (go_simp; done) | (go_simp; rfl)); intro gb384 hg w18 hbox hb; have n0_ := Aside0.mk (below_step (by repeat (first | (with_reducible first | exact HB.out | apply below_alloc | apply pw_below_drewN | apply below_drew1) | exact HB.out)) hb); have n1_ := Aside0.mk (hbox); have n2_ := Aside0.mk ((by rw [hg]; exact (below_size (by repeat (first | (with_reducible first | exact HB.out | apply below_alloc | apply pw_below_drewN | apply below_drew1) | exact HB.out))) : w.heap.size ≤ gb384)); have n3_ := Aside0.mk ((by rw [hg]; exact (below_size (by repeat (first | (with_reducible first | exact HB.out | apply below_alloc | apply pw_below_drewN | apply below_drew1) | exact HB.out))) : w.heap.size ≤ gb384)); clear HB; have HB := n0_; have BK384 := n1_; have GW384 := n2_; have GE384 := n3_; clear n0_ n1_ n2_ n3_; clear hb hbox hg) | ((with_reducible refine gate_dst (N := 3) rfl ?_); refine box_event ?hg (N := 3) ?hd (cs := #[.int .i64 a1_0, .slice A1_1 l1_1.length c1_1, .slice A1_2 l1_2.length c1_2]) (t := 92) ?hr ?_; (case hd => rfl); (case hg => rfl); (case hr => first | (go_simp; done) | (go_simp; rfl)); intro gb385 hg w19 hbox hb; have n0_ := Aside0.mk (blk_below (g := gb384) (o := .cells #[.slice A0_0 l0_0.length c0_0, .int .i64 a0_1, .int .i64 a0_2, .int .i64 a0_3, .int .i64 a0_4, .slice A0_5 l0_5.length c0_5, .int .i64 a0_6] 26 (0, 0)) (by (with_reducible repeat (first | refine blk_drewN ?_ _ | refine blk_drew ?_ | refine blk_alloc ?_ _)); exact BK384.out) hb); have n1_ := Aside0.mk (below_step (by repeat (first | (with_reducible first | exact HB.out | apply below_alloc | apply pw_below_drewN | apply below_drew1 | refine below_set ?_ GE384.out) | exact HB.out)) hb); have n2_ := Aside0.mk (hbox); have n3_ := Aside0.mk ((by rw [hg]; exact (below_size (by repeat (first | (with_reducible first | exact HB.out | apply below_alloc | apply pw_below_drewN | apply below_drew1 | refine below_set ?_ GE384.out) | exact HB.out))) : w.heap.size ≤ gb385)); have n4_ := Aside0.mk ((by rw [hg]; exact (below_size (by repeat (first | (with_reducible first | exact HB.out | apply below_alloc | apply pw_below_drewN | apply below_drew1 | refine below_set ?_ GE384.out) | exact HB.out))) : w.heap.size ≤ gb385)); have n5_ := Aside0.mk ((by rw [hg]; exact Nat.ne_of_lt (blk_lt (g := gb384) (o := .cells #[.slice A0_0 l0_0.length c0_0, .int .i64 a0_1, .int .i64 a0_2, .int .i64 a0_3, .int .i64 a0_4, .slice A0_5 l0_5.length c0_5, .int .i64 a0_6] 26 (0, 0)) (by (with_reducible repeat (first | refine blk_drewN ?_ _ | refine blk_drew ?_ | refine blk_alloc ?_ _)); exact BK384.out)) : gb384 ≠ gb385)); have n6_ := Aside0.mk ((by rw [hg]; exact Nat.ne_of_gt (blk_lt (g := gb384) (o := .cells #[.slice A0_0 l0_0.length c0_0, .int .i64 a0_1, .int .i64 a0_2, .int .i64 a0_3, .int .i64 a0_4, .slice A0_5 l0_5.length c0_5, .int .i64 a0_6] 26 (0, 0)) (by (with_reducible repeat (first | refine blk_drewN ?_ _ | refine blk_drew ?_ | refine blk_alloc ?_ _)); exact BK384.out)) : gb385 ≠ gb384)); clear BK384; clear HB; have BK384 := n0_; have HB := n1_; have BK385 := n2_; have GW385 := n3_; have GE385 := n4_; have NB384_385 := n5_; have NB385_384 := n6_; clear n0_ n1_ n2_ n3_ n4_ n5_ n6_; clear hb hbox hg; have hnb20 := NB384_385.out; have hnc20 := NB385_384.out; have hcz21_0 : w19.cell? ⟨gb384, 0, none⟩ = some (.slice A0_0 l0_0.length c0_0) := (blk_cell BK384.out 0).trans rfl; have hcz21_1 : w19.cell? ⟨gb384, 1, none⟩ = some (.int .i64 a0_1) := (blk_cell BK384.out 1).trans rfl; have hcz21_2 : w19.cell? ⟨gb384, 2, none⟩ = some (.int .i64 a0_2) := (blk_cell BK384.out 2).trans rfl; have hcz21_3 : w19.cell? ⟨gb384, 3, none⟩ = some (.int .i64 a0_3) := (blk_cell BK384.out 3).trans rfl; have hcz21_4 : w19.cell? ⟨gb384, 4, none⟩ = some (.int .i64 a0_4) := (blk_cell BK384.out 4).trans rfl; have hcz21_5 : w19.cell? ⟨gb384, 5, none⟩ = some (.slice A0_5 l0_5.length c0_5) := (blk_cell BK384.out 5).trans rfl; have hcz21_6 : w19.cell? ⟨gb384, 6, none⟩ = some (.int .i64 a0_6) := (blk_cell BK384.out 6).trans rfl; have hfz21_0 := blk_frozen BK384.out 0; have hfz21_1 := blk_frozen BK384.out 1; have hfz21_2 := blk_frozen BK384.out 2; have hfz21_3 := blk_frozen BK384.out 3; have hfz21_4 := blk_frozen BK384.out 4; have hfz21_5 := blk_frozen BK384.out 5; have hfz21_6 := blk_frozen BK384.out 6; have hcz22_0 : w19.cell? ⟨gb385, 0, none⟩ = some (.int .i64 a1_0) := (blk_cell BK385.out 0).trans rfl; have hcz22_1 : w19.cell? ⟨gb385, 1, none⟩ = some (.slice A1_1 l1_1.length c1_1) := (blk_cell BK385.out 1).trans rfl; have hcz22_2 : w19.cell? ⟨gb385, 2, none⟩ = some (.slice A1_2 l1_2.length c1_2) := (blk_cell BK385.out 2).trans rfl; have hfz22_0 := blk_frozen BK385.out 0; have hfz22_1 := blk_frozen BK385.out 1; have hfz22_2 := blk_frozen BK385.out 2) | (go_at_call 78; (with_reducible refine (macadamref06_late.calls _ _ l0_0 a0_1 a0_2 a0_3 a0_4 _ _ l0_5 a0_6 a1_0 _ _ l1_1 _ _ l1_2 (wrap64 ((l0_0.length : Int) - 1)) t386 _ ?side1 ?side2 ?side3 ?side4 ?side5 ?side6 ?side7 ?side8 A3.out).mono ?_); (case side1 => repeat (first | exact (Kd.C_below HR0_0.out HB.out) | (with_reducible refine Kd.C_alloc ?_ _) | (with_reducible refine Kd.C_drewN ?_ _) | (with_reducible refine Kd.C_drew ?_))); (case side2 => exact HC0_0.out); (case side3 => repeat (first | exact (Kd.C_below HR0_5.out HB.out) | (with_reducible refine Kd.C_alloc ?_ _) | (with_reducible refine Kd.C_drewN ?_ _) | (with_reducible refine Kd.C_drew ?_))); (case side4 => exact HC0_5.out); (case side5 => repeat (first | exact (Kd.C_below HR1_1.out HB.out) | (with_reducible refine Kd.C_alloc ?_ _) | (with_reducible refine Kd.C_drewN ?_ _) | (with_reducible refine Kd.C_drew ?_))); (case side6 => exact HC1_1.out); (case side7 => repeat (first | exact (Kd.C_below HR1_2.out HB.out) | (with_reducible refine Kd.C_alloc ?_ _) | (with_reducible refine Kd.C_drewN ?_ _) | (with_reducible refine Kd.C_drew ?_))); (case side8 => exact HC1_2.out); rintro e w23 ⟨rfl, hb⟩; have n0_ := Aside0.mk (blk_below (g := gb384) (o := .cells #[.slice A0_0 l0_0.length c0_0, .int .i64 a0_1, .int .i64 a0_2, .int .i64 a0_3, .int .i64 a0_4, .slice A0_5 l0_5.length c0_5, .int .i64 a0_6] 26 (0, 0)) (by (with_reducible repeat (first | refine blk_drewN ?_ _ | refine blk_drew ?_ | refine blk_alloc ?_ _)); exact BK384.out) hb); have n1_ := Aside0.mk (blk_below (g := gb385) (o := .cells #[.int .i64 a1_0, .slice A1_1 l1_1.length c1_1, .slice A1_2 l1_2.length c1_2] 92 (0, 0)) (by (with_reducible repeat (first | refine blk_drewN ?_ _ | refine blk_drew ?_ | refine blk_alloc ?_ _)); exact BK385.out) hb); have n2_ := Aside0.mk (below_step (by repeat (first | (with_reducible first | exact HB.out | apply below_alloc | apply pw_below_drewN | apply below_drew1 | refine below_set ?_ GE384.out | refine below_set ?_ GE385.out) | exact HB.out)) hb); clear BK384; clear BK385; clear HB; have BK384 := n0_; have BK385 := n1_; have HB := n2_; clear n0_ n1_ n2_; (try clear hb); (try clear hb2); (try clear hk); (try clear hi))); try go_wp2_with (first | ((with_reducible refine gate_dst (N := 2) rfl ?_); refine box_event ?hg (N := 2) ?hd (cs := #[.slice A0_0 l0_0.length c0_0, .int .i64 a0_1, .int .i64 a0_2, .int .i64 a0_3, .int .i64 a0_4, .slice A0_5 l0_5.length c0_5, .int .i64 a0_6]) (t := 26) ?hr ?_; (case hd => rfl); (case hg => rfl); (case hr => first | (go_simp; done) | (go_simp; rfl)); intro gb384 hg w18 hbox hb; have n0_ := Aside0.mk (below_step (by repeat (first | (with_reducible first | exact HB.out | apply below_alloc | apply pw_below_drewN | apply below_drew1) | exact HB.out)) hb); have n1_ := Aside0.mk (hbox); have n2_ := Aside0.mk ((by rw [hg]; exact (below_size (by repeat (first | (with_reducible first | exact HB.out | apply below_alloc | apply pw_below_drewN | apply below_drew1) | exact HB.out))) : w.heap.size ≤ gb384)); have n3_ := Aside0.mk ((by rw [hg]; exact (below_size (by repeat (first | (with_reducible first | exact HB.out | apply below_alloc | apply pw_below_drewN | apply below_drew1) | exact HB.out))) : w.heap.size ≤ gb384)); clear HB; have HB := n0_; have BK384 := n1_; have GW384 := n2_; have GE384 := n3_; clear n0_ n1_ n2_ n3_; clear hb hbox hg) | ((with_reducible refine gate_dst (N := 3) rfl ?_); refine box_event ?hg (N := 3) ?hd (cs := #[.int .i64 a1_0, .slice A1_1 l1_1.length c1_1, .slice A1_2 l1_2.length c1_2]) (t := 92) ?hr ?_; (case hd => rfl); (case hg => rfl); (case hr => first | (go_simp; done) | (go_simp; rfl)); intro gb385 hg w19 hbox hb; have n0_ := Aside0.mk (blk_below (g := gb384) (o := .cells #[.slice A0_0 l0_0.length c0_0, .int .i64 a0_1, .int .i64 a0_2, .int .i64 a0_3, .int .i64 a0_4, .slice A0_5 l0_5.length c0_5, .int .i64 a0_6] 26 (0, 0)) (by (with_reducible repeat (first | refine blk_drewN ?_ _ | refine blk_drew ?_ | refine blk_alloc ?_ _)); exact BK384.out) hb); have n1_ := Aside0.mk (below_step (by repeat (first | (with_reducible first | exact HB.out | apply below_alloc | apply pw_below_drewN | apply below_drew1 | refine below_set ?_ GE384.out) | exact HB.out)) hb); have n2_ := Aside0.mk (hbox); have n3_ := Aside0.mk ((by rw [hg]; exact (below_size (by repeat (first | (with_reducible first | exact HB.out | apply below_alloc | apply pw_below_drewN | apply below_drew1 | refine below_set ?_ GE384.out) | exact HB.out))) : w.heap.size ≤ gb385)); have n4_ := Aside0.mk ((by rw [hg]; exact (below_size (by repeat (first | (with_reducible first | exact HB.out | apply below_alloc | apply pw_below_drewN | apply below_drew1 | refine below_set ?_ GE384.out) | exact HB.out))) : w.heap.size ≤ gb385)); have n5_ := Aside0.mk ((by rw [hg]; exact Nat.ne_of_lt (blk_lt (g := gb384) (o := .cells #[.slice A0_0 l0_0.length c0_0, .int .i64 a0_1, .int .i64 a0_2, .int .i64 a0_3, .int .i64 a0_4, .slice A0_5 l0_5.length c0_5, .int .i64 a0_6] 26 (0, 0)) (by (with_reducible repeat (first | refine blk_drewN ?_ _ | refine blk_drew ?_ | refine blk_alloc ?_ _)); exact BK384.out)) : gb384 ≠ gb385)); have n6_ := Aside0.mk ((by rw [hg]; exact Nat.ne_of_gt (blk_lt (g := gb384) (o := .cells #[.slice A0_0 l0_0.length c0_0, .int .i64 a0_1, .int .i64 a0_2, .int .i64 a0_3, .int .i64 a0_4, .slice A0_5 l0_5.length c0_5, .int .i64 a0_6] 26 (0, 0)) (by (with_reducible repeat (first | refine blk_drewN ?_ _ | refine blk_drew ?_ | refine blk_alloc ?_ _)); exact BK384.out)) : gb385 ≠ gb384)); clear BK384; clear HB; have BK384 := n0_; have HB := n1_; have BK385 := n2_; have GW385 := n3_; have GE385 := n4_; have NB384_385 := n5_; have NB385_384 := n6_; clear n0_ n1_ n2_ n3_ n4_ n5_ n6_; clear hb hbox hg; have hnb20 := NB384_385.out; have hnc20 := NB385_384.out; have hcz21_0 : w19.cell? ⟨gb384, 0, none⟩ = some (.slice A0_0 l0_0.length c0_0) := (blk_cell BK384.out 0).trans rfl; have hcz21_1 : w19.cell? ⟨gb384, 1, none⟩ = some (.int .i64 a0_1) := (blk_cell BK384.out 1).trans rfl; have hcz21_2 : w19.cell? ⟨gb384, 2, none⟩ = some (.int .i64 a0_2) := (blk_cell BK384.out 2).trans rfl; have hcz21_3 : w19.cell? ⟨gb384, 3, none⟩ = some (.int .i64 a0_3) := (blk_cell BK384.out 3).trans rfl; have hcz21_4 : w19.cell? ⟨gb384, 4, none⟩ = some (.int .i64 a0_4) := (blk_cell BK384.out 4).trans rfl; have hcz21_5 : w19.cell? ⟨gb384, 5, none⟩ = some (.slice A0_5 l0_5.length c0_5) := (blk_cell BK384.out 5).trans rfl; have hcz21_6 : w19.cell? ⟨gb384, 6, none⟩ = some (.int .i64 a0_6) := (blk_cell BK384.out 6).trans rfl; have hfz21_0 := blk_frozen BK384.out 0; have hfz21_1 := blk_frozen BK384.out 1; have hfz21_2 := blk_frozen BK384.out 2; have hfz21_3 := blk_frozen BK384.out 3; have hfz21_4 := blk_frozen BK384.out 4; have hfz21_5 := blk_frozen BK384.out 5; have hfz21_6 := blk_frozen BK384.out 6; have hcz22_0 : w19.cell? ⟨gb385, 0, none⟩ = some (.int .i64 a1_0) := (blk_cell BK385.out 0).trans rfl; have hcz22_1 : w19.cell? ⟨gb385, 1, none⟩ = some (.slice A1_1 l1_1.length c1_1) := (blk_cell BK385.out 1).trans rfl; have hcz22_2 : w19.cell? ⟨gb385, 2, none⟩ = some (.slice A1_2 l1_2.length c1_2) := (blk_cell BK385.out 2).trans rfl; have hfz22_0 := blk_frozen BK385.out 0; have hfz22_1 := blk_frozen BK385.out 1; have hfz22_2 := blk_frozen BK385.out 2) | (go_at_call 78; (with_reducible refine (macadamref06_late.calls _ _ l0_0 a0_1 a0_2 a0_3 a0_4 _ _ l0_5 a0_6 a1_0 _ _ l1_1 _ _ l1_2 (wrap64 ((l0_0.length : Int) - 1)) t386 _ ?side1 ?side2 ?side3 ?side4 ?side5 ?side6 ?side7 ?side8 A3.out).mono ?_); (case side1 => repeat (first | exact (Kd.C_below HR0_0.out HB.out) | (with_reducible refine Kd.C_alloc ?_ _) | (with_reducible refine Kd.C_drewN ?_ _) | (with_reducible refine Kd.C_drew ?_))); (case side2 => exact HC0_0.out); (case side3 => repeat (first | exact (Kd.C_below HR0_5.out HB.out) | (with_reducible refine Kd.C_alloc ?_ _) | (with_reducible refine Kd.C_drewN ?_ _) | (with_reducible refine Kd.C_drew ?_))); (case side4 => exact HC0_5.out); (case side5 => repeat (first | exact (Kd.C_below HR1_1.out HB.out) | (with_reducible refine Kd.C_alloc ?_ _) | (with_reducible refine Kd.C_drewN ?_ _) | (with_reducible refine Kd.C_drew ?_))); (case side6 => exact HC1_1.out); (case side7 => repeat (first | exact (Kd.C_below HR1_2.out HB.out) | (with_reducible refine Kd.C_alloc ?_ _) | (with_reducible refine Kd.C_drewN ?_ _) | (with_reducible refine Kd.C_drew ?_))); (case side8 => exact HC1_2.out); rintro e w23 ⟨rfl, hb⟩; have n0_ := Aside0.mk (blk_below (g := gb384) (o := .cells #[.slice A0_0 l0_0.length c0_0, .int .i64 a0_1, .int .i64 a0_2, .int .i64 a0_3, .int .i64 a0_4, .slice A0_5 l0_5.length c0_5, .int .i64 a0_6] 26 (0, 0)) (by (with_reducible repeat (first | refine blk_drewN ?_ _ | refine blk_drew ?_ | refine blk_alloc ?_ _)); exact BK384.out) hb); have n1_ := Aside0.mk (blk_below (g := gb385) (o := .cells #[.int .i64 a1_0, .slice A1_1 l1_1.length c1_1, .slice A1_2 l1_2.length c1_2] 92 (0, 0)) (by (with_reducible repeat (first | refine blk_drewN ?_ _ | refine blk_drew ?_ | refine blk_alloc ?_ _)); exact BK385.out) hb); have n2_ := Aside0.mk (below_step (by repeat (first | (with_reducible first | exact HB.out | apply below_alloc | apply pw_below_drewN | apply below_drew1 | refine below_set ?_ GE384.out | refine below_set ?_ GE385.out) | exact HB.out)) hb); clear BK384; clear BK385; clear HB; have BK384 := n0_; have BK385 := n1_; have HB := n2_; clear n0_ n1_ n2_; (try clear hb); (try clear hb2); (try clear hk); (try clear hi))))
  go_ret
  exact ⟨by first | rfl | (simp [errW_none, errW_some] <;> rfl) | (simp only [i64_w, i32_w] <;> rfl) | (simp [*, errW_none, errW_some] <;> rfl), by repeat (first | (with_reducible first | exact HB.out | apply below_alloc | apply pw_below_drewN | apply below_drew1 | refine below_set ?_ GE384.out | refine below_set ?_ GE385.out) | exact HB.out)⟩
end Go.Proofs.YtbhjfojbjpbdbaaDoorPX
namespace Go.Proofs.YtbhjfojbjpbdbaaDoorPX
open Go.Proofs.YtbhjfojbjpbdbaaDoor (Glob ix3 blk_ix3 bl nrm_ pu_ po_ tk_)
open Go.RowKit Go.Proofs.YtbhjfojbjpbdbaaDoorW.PrintWords Go.Proofs.YtbhjfojbjpbdbaaDoorW.PrintLast Go.Proofs.YtbhjfojbjpbdbaaDoorW.PrintMore

set_option linter.unusedVariables false
set_option linter.unusedSimpArgs false
def macadamref06_Blame.l0 : Nat → List (S92) → Int → Int → List (S56) → Int → Int → Int → Int → List (S42) → Int → Option (Int × Int)
 | 0, _, _, _, _, _, _, _, _, _, _ => none
 | k + 1, x4, x6, x7, x391000, x391001, x391002, x391003, x391004, x391005, x391006 => if x7 < (x4.length : Int) then (if 0 ≤ x7 then ((macadamref06_blamed.f k x391000 x391001 x391002 x391003 x391004 x391005 x391006 ((rd_T92 x4 x7).f0) ((rd_T92 x4 x7).f1) ((rd_T92 x4 x7).f2)).bind fun t396 => (if t396 = true then (macadamref06_Blame.l0 k x4 (wrap64 (x6 + 1)) (wrap64 (x7 + 1)) x391000 x391001 x391002 x391003 x391004 x391005 x391006) else (macadamref06_Blame.l0 k x4 x6 (wrap64 (x7 + 1)) x391000 x391001 x391002 x391003 x391004 x391005 x391006))) else (none)) else (if x6 = 0 then (some (0, 0)) else (if x6 = (x4.length : Int) then (some (2, 0)) else (some (1, 0))))
def macadamref06_Blame.f (k : Nat) (l0_0 : List (S56)) (a0_1 : Int) (a0_2 : Int) (a0_3 : Int) (a0_4 : Int) (l0_5 : List (S42)) (a0_6 : Int) : Option (Int × Int) := (macadamref06_asked.f k l0_0 a0_1 a0_2 a0_3 a0_4 l0_5 a0_6 true).bind fun bt391 => (if bt391.2 = 0 then (macadamref06_Blame.l0 k bt391.1 0 0 l0_0 a0_1 a0_2 a0_3 a0_4 l0_5 a0_6) else (some (0, bt391.2)))
set_option maxHeartbeats 8000000 in
set_option maxRecDepth 100000 in
theorem macadamref06_Blame.calls (k : Nat) (A0_0 : Option Addr) (c0_0 : Nat) (l0_0 : List (S56)) (a0_1 : Int) (a0_2 : Int) (a0_3 : Int) (a0_4 : Int) (A0_5 : Option Addr) (c0_5 : Nat) (l0_5 : List (S42)) (a0_6 : Int) (r1 : Int) (r2 : Int) (w : World) (hr0_0 : Kd.C k56 w A0_0 l0_0.length l0_0) (hc0_0 : l0_0.length ≤ c0_0) (hr0_5 : Kd.C k42 w A0_5 l0_5.length l0_5) (hc0_5 : l0_5.length ≤ c0_5) (h : macadamref06_Blame.f k l0_0 a0_1 a0_2 a0_3 a0_4 l0_5 a0_6 = some (r1, r2)) :
  Calls Tryd.prog 29 #[.agg #[.slice A0_0 l0_0.length c0_0, .int .i64 a0_1, .int .i64 a0_2, .int .i64 a0_3, .int .i64 a0_4, .slice A0_5 l0_5.length c0_5, .int .i64 a0_6]] w fun e w' => e = .returned (.tuple #[.int .i64 r1, .int .i64 r2]) ∧ Below w.heap.size w w' := by
 have hu26 := Tryd.underlying26
 have hu92 := Tryd.underlying92
 have HR0_0 := Aside0.mk hr0_0
 have HC0_0 := Aside0.mk hc0_0
 clear hr0_0 hc0_0
 have HR0_5 := Aside0.mk hr0_5
 have HC0_5 := Aside0.mk hc0_5
 clear hr0_5 hc0_5
 have HB := Aside0.mk (Below.refl w.heap.size w)
 have H : ((macadamref06_asked.f k l0_0 a0_1 a0_2 a0_3 a0_4 l0_5 a0_6 true).bind fun bt391 => (if bt391.2 = 0 then (macadamref06_Blame.l0 k bt391.1 0 0 l0_0 a0_1 a0_2 a0_3 a0_4 l0_5 a0_6) else (some (0, bt391.2)))) = some (r1, r2) := h
 clear h
 replace H := Option.bind_eq_some_iff.mp H
 obtain ⟨⟨t391, t394⟩, A20, H⟩ := H
 replace H : (if t394 = 0 then (macadamref06_Blame.l0 k t391 0 0 l0_0 a0_1 a0_2 a0_3 a0_4 l0_5 a0_6) else (some (0, t394))) = some (r1, r2) := H
 have A2 := Aside0.mk A20
 clear A20
 by_cases c3 : t394 = 0
 ·rw [if_pos c3] at H
  have c3b0 : (t394 == 0) = true := beq_iff_eq.mpr c3
  have c3b1 : (t394 != 0) = false := bne_eq_false_iff_eq.mpr c3
  clear c3
  have H' := Aside0.mk H
  clear H
  go_enter Tryd.func29, Tryd.ntmps29
  go_wp2_with (first | ((with_reducible refine gate_dst (N := 1) rfl ?_); refine box_event ?hg (N := 1) ?hd (cs := #[.slice A0_0 l0_0.length c0_0, .int .i64 a0_1, .int .i64 a0_2, .int .i64 a0_3, .int .i64 a0_4, .slice A0_5 l0_5.length c0_5, .int .i64 a0_6]) (t := 26) ?hr ?_; (case hd => rfl); (case hg => rfl); (case hr => first | (go_simp; done) | (go_simp; rfl)); intro gb390 hg w4 hbox hb; have n0_ := Aside0.mk (below_step (by repeat (first | (with_reducible first | exact HB.out | apply below_alloc | apply pw_below_drewN | apply below_drew1) | exact HB.out)) hb); have n1_ := Aside0.mk (hbox); have n2_ := Aside0.mk ((by rw [hg]; exact (below_size (by repeat (first | (with_reducible first | exact HB.out | apply below_alloc | apply pw_below_drewN | apply below_drew1) | exact HB.out))) : w.heap.size ≤ gb390)); have n3_ := Aside0.mk ((by rw [hg]; exact (below_size (by repeat (first | (with_reducible first | exact HB.out | apply below_alloc | apply pw_below_drewN | apply below_drew1) | exact HB.out))) : w.heap.size ≤ gb390)); clear HB; have HB := n0_; have BK390 := n1_; have GW390 := n2_; have GE390 := n3_; clear n0_ n1_ n2_ n3_; clear hb hbox hg; have hcz5_0 : w4.cell? ⟨gb390, 0, none⟩ = some (.slice A0_0 l0_0.length c0_0) := (blk_cell BK390.out 0).trans rfl; have hcz5_1 : w4.cell? ⟨gb390, 1, none⟩ = some (.int .i64 a0_1) := (blk_cell BK390.out 1).trans rfl; have hcz5_2 : w4.cell? ⟨gb390, 2, none⟩ = some (.int .i64 a0_2) := (blk_cell BK390.out 2).trans rfl; have hcz5_3 : w4.cell? ⟨gb390, 3, none⟩ = some (.int .i64 a0_3) := (blk_cell BK390.out 3).trans rfl; have hcz5_4 : w4.cell? ⟨gb390, 4, none⟩ = some (.int .i64 a0_4) := (blk_cell BK390.out 4).trans rfl; have hcz5_5 : w4.cell? ⟨gb390, 5, none⟩ = some (.slice A0_5 l0_5.length c0_5) := (blk_cell BK390.out 5).trans rfl; have hcz5_6 : w4.cell? ⟨gb390, 6, none⟩ = some (.int .i64 a0_6) := (blk_cell BK390.out 6).trans rfl; have hfz5_0 := blk_frozen BK390.out 0; have hfz5_1 := blk_frozen BK390.out 1; have hfz5_2 := blk_frozen BK390.out 2; have hfz5_3 := blk_frozen BK390.out 3; have hfz5_4 := blk_frozen BK390.out 4; have hfz5_5 := blk_frozen BK390.out 5; have hfz5_6 := blk_frozen BK390.out 6) | ((with_reducible refine gate_callee (f := 73) rfl ?_); refine goesL_ (some 10) rfl rfl Tryd.func73 (by kernel_rfl) rfl #[.agg #[.slice A0_0 l0_0.length c0_0, .int .i64 a0_1, .int .i64 a0_2, .int .i64 a0_3, .int .i64 a0_4, .slice A0_5 l0_5.length c0_5, .int .i64 a0_6], .bool true] rfl (by (try simp only [List.map_toArray, List.map_cons, List.map_nil]); first | done | rfl | (simp only [List.length_drop, List.length_take]; rfl)) ?_; (with_reducible refine (macadamref06_asked.calls k _ _ l0_0 a0_1 a0_2 a0_3 a0_4 _ _ l0_5 a0_6 true t391 t394 _ ?side1 ?side2 ?side3 ?side4 A2.out).mono ?_); (case side1 => repeat (first | exact (Kd.C_below HR0_0.out HB.out) | (with_reducible refine Kd.C_alloc ?_ _) | (with_reducible refine Kd.C_drewN ?_ _) | (with_reducible refine Kd.C_drew ?_))); (case side2 => exact HC0_0.out); (case side3 => repeat (first | exact (Kd.C_below HR0_5.out HB.out) | (with_reducible refine Kd.C_alloc ?_ _) | (with_reducible refine Kd.C_drewN ?_ _) | (with_reducible refine Kd.C_drew ?_))); (case side4 => exact HC0_5.out); rintro e w6 ⟨v392, rfl, ho0, hb⟩; refine ⟨_, rfl, ?_⟩; have n0_ := Aside0.mk (Kd.N_lower (Kd.N_mono (ok' := fun k_ => k_ ≠ gb390) ho0 (fun k_ hk_ => (Kd.freshB (g := gb390) (o := .cells #[.slice A0_0 l0_0.length c0_0, .int .i64 a0_1, .int .i64 a0_2, .int .i64 a0_3, .int .i64 a0_4, .slice A0_5 l0_5.length c0_5, .int .i64 a0_6] 26 (0, 0)) (by (with_reducible repeat (first | refine blk_drewN ?_ _ | refine blk_drew ?_ | refine blk_alloc ?_ _)); exact BK390.out) k_ hk_))) (below_size (by repeat (first | (with_reducible first | exact HB.out | apply below_alloc | apply pw_below_drewN | apply below_drew1 | refine below_set ?_ GE390.out) | exact HB.out)))); have n1_ := Aside0.mk (blk_below (g := gb390) (o := .cells #[.slice A0_0 l0_0.length c0_0, .int .i64 a0_1, .int .i64 a0_2, .int .i64 a0_3, .int .i64 a0_4, .slice A0_5 l0_5.length c0_5, .int .i64 a0_6] 26 (0, 0)) (by (with_reducible repeat (first | refine blk_drewN ?_ _ | refine blk_drew ?_ | refine blk_alloc ?_ _)); exact BK390.out) hb); have n2_ := Aside0.mk (below_step (by repeat (first | (with_reducible first | exact HB.out | apply below_alloc | apply pw_below_drewN | apply below_drew1 | refine below_set ?_ GE390.out) | exact HB.out)) hb); clear BK390; clear HB; have HO393 := n0_; have BK390 := n1_; have HB := n2_; clear n0_ n1_ n2_; (try clear hb); (try clear hb2); (try clear hk); (try clear hi); (try clear ho0)))
  go_loopg [6, 7] k (fun kq v6 v7 w' => ∃ (x6_1 : Int) (x7_1 : Int), v6 = .int .i64 x6_1 ∧ v7 = .int .i64 x7_1 ∧ Aside0 (macadamref06_Blame.l0 kq t391 x6_1 x7_1 l0_0 a0_1 a0_2 a0_3 a0_4 l0_5 a0_6 = some (r1, r2)) ∧ Aside0 (kq ≤ k) ∧ Aside0 (Kd.N k92 92 w' w.heap.size (fun k_ => k_ ≠ gb390) v392 t391) ∧ Aside0 (w'.heap[gb390]? = some (.cells #[(.slice A0_0 l0_0.length c0_0), .int .i64 a0_1, .int .i64 a0_2, .int .i64 a0_3, .int .i64 a0_4, (.slice A0_5 l0_5.length c0_5), .int .i64 a0_6] 26 (0, 0))) ∧ Aside0 (Below w.heap.size w w'))
  case atStart => exact ⟨(0), (0), (by first | rfl | (simp; done) | (simp [*]; done)), (by first | rfl | (simp; done) | (simp [*]; done)), H', ⟨Nat.le_refl _⟩, ⟨by (with_reducible repeat (first | apply Kd.N_alloc | apply Kd.N_drewN | apply Kd.N_drew)); exact HO393.out⟩, ⟨by (with_reducible repeat (first | refine blk_drewN ?_ _ | refine blk_drew ?_ | refine blk_alloc ?_ _)); exact BK390.out⟩, ⟨by repeat (first | (with_reducible first | exact HB.out | apply below_alloc | apply pw_below_drewN | apply below_drew1 | refine below_set ?_ GE390.out) | exact HB.out)⟩⟩
  case round =>
   clear H'
   try clear c2
   try clear p2
   try clear c3
   try clear c3b0
   try clear c3b1
   try clear hcz5_0
   try clear hcz5_1
   try clear hcz5_2
   try clear hcz5_3
   try clear hcz5_4
   try clear hcz5_5
   try clear hcz5_6
   try clear hfz5_0
   try clear hfz5_1
   try clear hfz5_2
   try clear hfz5_3
   try clear hfz5_4
   try clear hfz5_5
   try clear hfz5_6
   obtain ⟨x6_1, x7_1, rfl, rfl, HA, HK1, HO_4, BK390, HB⟩ := hrel
   cases gk with
   | zero => exact absurd HA.out (by simp [macadamref06_Blame.l0])
   | succ k1 =>
    have H := HA.out
    clear HA
    simp only [macadamref06_Blame.l0] at H
    by_cases c7 : x7_1 < (t391.length : Int)
    ·rw [if_pos c7] at H
     have c7b0 : decide (x7_1 < (t391.length : Int)) = true := decide_eq_true c7
     clear c7
     by_cases c8 : 0 ≤ x7_1
     ·rw [if_pos c8] at H
      have c8b0 : decide (0 ≤ x7_1) = true := decide_eq_true c8
      clear c8
      replace H := Option.bind_eq_some_iff.mp H
      obtain ⟨t396, A90, H⟩ := H
      replace H : (if t396 = true then (macadamref06_Blame.l0 k1 t391 (wrap64 (x6_1 + 1)) (wrap64 (x7_1 + 1)) l0_0 a0_1 a0_2 a0_3 a0_4 l0_5 a0_6) else (macadamref06_Blame.l0 k1 t391 x6_1 (wrap64 (x7_1 + 1)) l0_0 a0_1 a0_2 a0_3 a0_4 l0_5 a0_6)) = some (r1, r2) := H
      have A9 := Aside0.mk A90
      clear A90
      by_cases c10 : t396 = true
      ·subst c10
       have H1 : (macadamref06_Blame.l0 k1 t391 (wrap64 (x6_1 + 1)) (wrap64 (x7_1 + 1)) l0_0 a0_1 a0_2 a0_3 a0_4 l0_5 a0_6) = some (r1, r2) := by rw [if_pos rfl] at H; exact H
       clear H
       have H := H1
       clear H1
       have H' := Aside0.mk H
       clear H
       obtain ⟨Ao11, co11, eo11⟩ := Kd.N_slice HO_4.out
       subst eo11
       try go_wp2
       have n0_ := Aside0.mk (Kd.N_drew HO_4.out)
       have n1_ := Aside0.mk (blk_drew BK390.out)
       have n2_ := Aside0.mk (below_drew1 HB.out)
       clear HO_4
       clear BK390
       clear HB
       have HO_4 := n0_
       have BK390 := n1_
       have HB := n2_
       clear n0_ n1_ n2_
       have p395 : 0 ≤ (x7_1 : Int) := of_decide_eq_true (by first | (with_reducible assumption) | assumption)
       have q395 : x7_1 < (t391.length : Int) := of_decide_eq_true (by first | (with_reducible assumption) | assumption)
       obtain ⟨ad395, A395_1, c395_1, A395_2, c395_2, e395, hx395_0, hx395_1, hx395_2, hl395_1, hi395_1, hl395_2, hi395_2⟩ := at_T92 (Kd.N_reads' HO_4.out).2.2 x7_1 p395 q395
       cases e395
       obtain ⟨ce395, hce395, hMe395, hcc395⟩ := Kd.N_get HO_4.out z92 x7_1 p395 (by first | exact q395 | exact of_decide_eq_true (by first | (with_reducible assumption) | assumption) | (have e_ := (Kd.N_reads' HO_4.out).1; omega))
       obtain ⟨ua395_1, uc395_1, ua395_2, uc395_2, rfl, ul395_1, ge395_1, ul395_2, ge395_2⟩ := k92_openF hMe395
       have hv395_1 := hcc395 1 _ rfl
       rw [add_field _ _ 1 (by omega)] at hv395_1
       replace hv395_1 := Option.some.inj (hv395_1.symm.trans hx395_1)
       injection hv395_1 with hva_ hvn_ hvc_
       rw [hva_] at ge395_1
       rw [hvc_] at ul395_1
       have HL395_1 := Aside0.mk (show Kd.V (Kd.int .i64) 3 _ w.heap.size _ _ ((rd_T92 t391 x7_1).f1) from Kd.V_mk ul395_1 ge395_1)
       clear hva_ hvn_ hvc_ ge395_1 ul395_1
       have hv395_2 := hcc395 2 _ rfl
       rw [add_field _ _ 2 (by omega)] at hv395_2
       replace hv395_2 := Option.some.inj (hv395_2.symm.trans hx395_2)
       injection hv395_2 with hva_ hvn_ hvc_
       rw [hva_] at ge395_2
       rw [hvc_] at ul395_2
       have HL395_2 := Aside0.mk (show Kd.V (Kd.int .i64) 3 _ w.heap.size _ _ ((rd_T92 t391 x7_1).f2) from Kd.V_mk ul395_2 ge395_2)
       clear hva_ hvn_ hvc_ ge395_2 ul395_2
       clear hcc395 hce395
       have HR395_1 := Aside0.mk hi395_1
       have HC395_1 := Aside0.mk hl395_1
       clear hi395_1 hl395_1
       have HR395_2 := Aside0.mk hi395_2
       have HC395_2 := Aside0.mk hl395_2
       clear hi395_2 hl395_2
       replace p395 := eq_true p395
       replace q395 := eq_true q395
       refine start_ (n := 6) (S := fun w' => w'.cell? ⟨gb390, 0, none⟩ = some (.slice A0_0 l0_0.length c0_0) ∧ w'.cell? ⟨gb390, 1, none⟩ = some (.int .i64 a0_1) ∧ w'.cell? ⟨gb390, 2, none⟩ = some (.int .i64 a0_2) ∧ w'.cell? ⟨gb390, 3, none⟩ = some (.int .i64 a0_3) ∧ w'.cell? ⟨gb390, 4, none⟩ = some (.int .i64 a0_4) ∧ w'.cell? ⟨gb390, 5, none⟩ = some (.slice A0_5 l0_5.length c0_5) ∧ w'.cell? ⟨gb390, 6, none⟩ = some (.int .i64 a0_6) ∧ w'.cell? (ad395.add ((x7_1).toNat * 3)) = some (.int .i64 ((rd_T92 t391 x7_1).f0)) ∧ w'.cell? ⟨(ad395.add ((x7_1).toNat * 3)).block, (ad395.add ((x7_1).toNat * 3)).off + 1, none⟩ = some (.slice A395_1 ((rd_T92 t391 x7_1).f1).length c395_1) ∧ w'.cell? ⟨(ad395.add ((x7_1).toNat * 3)).block, (ad395.add ((x7_1).toNat * 3)).off + 2, none⟩ = some (.slice A395_2 ((rd_T92 t391 x7_1).f2).length c395_2)) (ds := []) (bl 6 0) (by kernel_rfl) rfl (by kernel_rfl) ⟨(blk_cell BK390.out 0).trans rfl, (blk_cell BK390.out 1).trans rfl, (blk_cell BK390.out 2).trans rfl, (blk_cell BK390.out 3).trans rfl, (blk_cell BK390.out 4).trans rfl, (blk_cell BK390.out 5).trans rfl, (blk_cell BK390.out 6).trans rfl, hx395_0, hx395_1, hx395_2⟩ (fun hHeld => ?_)
       generalize wr.drew = w12 at HO_4 BK390 HB HL395_1 HL395_2 HR395_1 HR395_2 hx395_0 hx395_1 hx395_2 hHeld ⊢
       refine pu_ 1 (some 23) (bl 6 2) rfl rfl (by kernel_rfl) (fun _ _ _ h => h) (by rfl) (by intro w'; go_simp; with_reducible rfl) (by simp only [nrm_]; rfl) ?_
       refine pu_ 2 (some 24) (bl 6 6) rfl rfl (by kernel_rfl) (fun _ _ _ h => h) (by rfl) (by intro w'; go_simp; with_reducible rfl) (by simp only [nrm_]; rfl) ?_
       refine pu_ 3 (some 25) (bl 6 14) rfl rfl (by kernel_rfl) (fun _ _ _ h => h) (by rfl) (by intro w'; go_simp; with_reducible rfl) (by simp only [nrm_]; rfl) ?_
       refine tk_ 0 (some 22) (bl 6 15) rfl rfl (by kernel_rfl) (fun _ _ _ h => h) hHeld (by rfl) (by rintro w' ⟨s0, s1, s2, s3, s4, s5, s6, s7, s8, s9⟩; go_simp; with_reducible rfl) (by simp only [nrm_]; rfl) ?_
       refine tk_ 4 (some 26) (bl 6 31) rfl rfl (by kernel_rfl) (fun _ _ _ h => h) hHeld (by rfl) (by rintro w' ⟨s0, s1, s2, s3, s4, s5, s6, s7, s8, s9⟩; go_simp; with_reducible rfl) (by simp only [nrm_]; rfl) ?_
       refine one_ (i := 5) (N := some 27) (bl 6 63) rfl rfl (by kernel_rfl) (by decide) (fun K hK => ?_)
       refine goes_ Tryd.func82 (by kernel_rfl) rfl #[.agg #[.slice A0_0 l0_0.length c0_0, .int .i64 a0_1, .int .i64 a0_2, .int .i64 a0_3, .int .i64 a0_4, .slice A0_5 l0_5.length c0_5, .int .i64 a0_6], .agg #[.int .i64 ((rd_T92 t391 x7_1).f0), .slice A395_1 ((rd_T92 t391 x7_1).f1).length c395_1, .slice A395_2 ((rd_T92 t391 x7_1).f2).length c395_2]] (by rfl) rfl rfl (by (try simp only [List.map_toArray, List.map_cons, List.map_nil]); first | done | rfl | (simp only [List.length_drop, List.length_take]; rfl)) ?_
       with_reducible refine (macadamref06_blamed.calls k1 _ _ l0_0 a0_1 a0_2 a0_3 a0_4 _ _ l0_5 a0_6 ((rd_T92 t391 x7_1).f0) _ _ ((rd_T92 t391 x7_1).f1) _ _ ((rd_T92 t391 x7_1).f2) true _ ?side1 ?side2 ?side3 ?side4 ?side5 ?side6 ?side7 ?side8 A9.out).mono ?_
       (case side1 => repeat (first | exact (Kd.C_below HR0_0.out HB.out) | (with_reducible refine Kd.C_alloc ?_ _) | (with_reducible refine Kd.C_drewN ?_ _) | (with_reducible refine Kd.C_drew ?_)))
       (case side2 => exact HC0_0.out)
       (case side3 => repeat (first | exact (Kd.C_below HR0_5.out HB.out) | (with_reducible refine Kd.C_alloc ?_ _) | (with_reducible refine Kd.C_drewN ?_ _) | (with_reducible refine Kd.C_drew ?_)))
       (case side4 => exact HC0_5.out)
       (case side5 => repeat (first | exact (by repeat (first | (with_reducible exact HR395_1.out) | (with_reducible refine Kd.C_alloc ?_ _) | (with_reducible refine Kd.C_drewN ?_ _) | (with_reducible refine Kd.C_drew ?_) | exact HR395_1.out)) | (with_reducible refine Kd.C_alloc ?_ _) | (with_reducible refine Kd.C_drewN ?_ _) | (with_reducible refine Kd.C_drew ?_)))
       (case side6 => exact HC395_1.out)
       (case side7 => repeat (first | exact (by repeat (first | (with_reducible exact HR395_2.out) | (with_reducible refine Kd.C_alloc ?_ _) | (with_reducible refine Kd.C_drewN ?_ _) | (with_reducible refine Kd.C_drew ?_) | exact HR395_2.out)) | (with_reducible refine Kd.C_alloc ?_ _) | (with_reducible refine Kd.C_drewN ?_ _) | (with_reducible refine Kd.C_drew ?_)))
       (case side8 => exact HC395_2.out)
       rintro e w13 ⟨rfl, hb⟩
       have HS7_ := (hb.cell (World.block_lt_of_cell? _ _ (hHeld.2.2.2.2.2.2.2.1))).trans (hHeld.2.2.2.2.2.2.2.1)
       have HS8_ := (hb.cell (World.block_lt_of_cell? _ _ (hHeld.2.2.2.2.2.2.2.2.1))).trans (hHeld.2.2.2.2.2.2.2.2.1)
       have HS9_ := (hb.cell (World.block_lt_of_cell? _ _ (hHeld.2.2.2.2.2.2.2.2.2))).trans (hHeld.2.2.2.2.2.2.2.2.2)
       refine ⟨_, rfl, ?_⟩
       have n0_ := Aside0.mk (Kd.N_below (by (with_reducible repeat (first | apply Kd.N_alloc | apply Kd.N_drewN | apply Kd.N_drew)); exact HO_4.out) hb)
       have n1_ := Aside0.mk (Kd.V_below (by (with_reducible repeat (first | apply Kd.V_alloc | apply Kd.V_drewN | apply Kd.V_drew)); exact HL395_1.out) hb)
       have n2_ := Aside0.mk (Kd.V_below (by (with_reducible repeat (first | apply Kd.V_alloc | apply Kd.V_drewN | apply Kd.V_drew)); exact HL395_2.out) hb)
       have n3_ := Aside0.mk (blk_below (g := gb390) (o := .cells #[.slice A0_0 l0_0.length c0_0, .int .i64 a0_1, .int .i64 a0_2, .int .i64 a0_3, .int .i64 a0_4, .slice A0_5 l0_5.length c0_5, .int .i64 a0_6] 26 (0, 0)) (by (with_reducible repeat (first | refine blk_drewN ?_ _ | refine blk_drew ?_ | refine blk_alloc ?_ _)); exact BK390.out) hb)
       have n4_ := Aside0.mk (Kd.C_below (by repeat (first | (with_reducible exact HR395_1.out) | (with_reducible refine Kd.C_alloc ?_ _) | (with_reducible refine Kd.C_drewN ?_ _) | (with_reducible refine Kd.C_drew ?_) | exact HR395_1.out)) hb)
       have n5_ := Aside0.mk (Kd.C_below (by repeat (first | (with_reducible exact HR395_2.out) | (with_reducible refine Kd.C_alloc ?_ _) | (with_reducible refine Kd.C_drewN ?_ _) | (with_reducible refine Kd.C_drew ?_) | exact HR395_2.out)) hb)
       have n6_ := Aside0.mk (below_step (by repeat (first | (with_reducible first | exact HB.out | apply below_alloc | apply pw_below_drewN | apply below_drew1 | refine below_set ?_ GE390.out) | exact HB.out)) hb)
       clear HO_4
       clear HL395_1
       clear HL395_2
       clear BK390
       clear HR395_1
       clear HR395_2
       clear HB
       have HO_4 := n0_
       have HL395_1 := n1_
       have HL395_2 := n2_
       have BK390 := n3_
       have HR395_1 := n4_
       have HR395_2 := n5_
       have HB := n6_
       clear n0_ n1_ n2_ n3_ n4_ n5_ n6_
       (try clear hb)
       (try clear hb2)
       (try clear hk)
       (try clear hi)
       refine hK.out _ _ ⟨(blk_cell BK390.out 0).trans rfl, (blk_cell BK390.out 1).trans rfl, (blk_cell BK390.out 2).trans rfl, (blk_cell BK390.out 3).trans rfl, (blk_cell BK390.out 4).trans rfl, (blk_cell BK390.out 5).trans rfl, (blk_cell BK390.out 6).trans rfl, HS7_, HS8_, HS9_⟩ (fun hHeld => ?_)
       clear hK K
       refine norm_ (a' := ?_) ?_ ?_
       rotate_left
       ·show Act.put _ (some 27) _ = _
        simp only [nrm_]
        rfl
       refine done_ (by kernel_rfl) ?_
       try go_wp2
       go_roundg k1
       case measure => have := HK1.out; omega
       case rel => exact ⟨(wrap64 (x6_1 + 1)), (wrap64 (x7_1 + 1)), (by first | rfl | (simp; done) | (simp [*]; done)), (by first | rfl | (simp; done) | (simp [*]; done)), H', ⟨by have := HK1.out; omega⟩, ⟨by (with_reducible repeat (first | apply Kd.N_alloc | apply Kd.N_drewN | apply Kd.N_drew)); exact HO_4.out⟩, ⟨by (with_reducible repeat (first | refine blk_drewN ?_ _ | refine blk_drew ?_ | refine blk_alloc ?_ _)); exact BK390.out⟩, ⟨by repeat (first | (with_reducible first | exact HB.out | apply below_alloc | apply pw_below_drewN | apply below_drew1 | refine below_set ?_ GE390.out) | exact HB.out)⟩⟩
      ·replace c10 := Bool.eq_false_iff.mpr c10
       subst c10
       have H1 : (macadamref06_Blame.l0 k1 t391 x6_1 (wrap64 (x7_1 + 1)) l0_0 a0_1 a0_2 a0_3 a0_4 l0_5 a0_6) = some (r1, r2) := by rw [if_neg (show ¬ (false = true) by decide)] at H; exact H
       clear H
       have H := H1
       clear H1
       have H' := Aside0.mk H
       clear H
       obtain ⟨Ao14, co14, eo14⟩ := Kd.N_slice HO_4.out
       subst eo14
       try go_wp2
       have n0_ := Aside0.mk (Kd.N_drew HO_4.out)
       have n1_ := Aside0.mk (blk_drew BK390.out)
       have n2_ := Aside0.mk (below_drew1 HB.out)
       clear HO_4
       clear BK390
       clear HB
       have HO_4 := n0_
       have BK390 := n1_
       have HB := n2_
       clear n0_ n1_ n2_
       have p395 : 0 ≤ (x7_1 : Int) := of_decide_eq_true (by first | (with_reducible assumption) | assumption)
       have q395 : x7_1 < (t391.length : Int) := of_decide_eq_true (by first | (with_reducible assumption) | assumption)
       obtain ⟨ad395, A395_1, c395_1, A395_2, c395_2, e395, hx395_0, hx395_1, hx395_2, hl395_1, hi395_1, hl395_2, hi395_2⟩ := at_T92 (Kd.N_reads' HO_4.out).2.2 x7_1 p395 q395
       cases e395
       obtain ⟨ce395, hce395, hMe395, hcc395⟩ := Kd.N_get HO_4.out z92 x7_1 p395 (by first | exact q395 | exact of_decide_eq_true (by first | (with_reducible assumption) | assumption) | (have e_ := (Kd.N_reads' HO_4.out).1; omega))
       obtain ⟨ua395_1, uc395_1, ua395_2, uc395_2, rfl, ul395_1, ge395_1, ul395_2, ge395_2⟩ := k92_openF hMe395
       have hv395_1 := hcc395 1 _ rfl
       rw [add_field _ _ 1 (by omega)] at hv395_1
       replace hv395_1 := Option.some.inj (hv395_1.symm.trans hx395_1)
       injection hv395_1 with hva_ hvn_ hvc_
       rw [hva_] at ge395_1
       rw [hvc_] at ul395_1
       have HL395_1 := Aside0.mk (show Kd.V (Kd.int .i64) 3 _ w.heap.size _ _ ((rd_T92 t391 x7_1).f1) from Kd.V_mk ul395_1 ge395_1)
       clear hva_ hvn_ hvc_ ge395_1 ul395_1
       have hv395_2 := hcc395 2 _ rfl
       rw [add_field _ _ 2 (by omega)] at hv395_2
       replace hv395_2 := Option.some.inj (hv395_2.symm.trans hx395_2)
       injection hv395_2 with hva_ hvn_ hvc_
       rw [hva_] at ge395_2
       rw [hvc_] at ul395_2
       have HL395_2 := Aside0.mk (show Kd.V (Kd.int .i64) 3 _ w.heap.size _ _ ((rd_T92 t391 x7_1).f2) from Kd.V_mk ul395_2 ge395_2)
       clear hva_ hvn_ hvc_ ge395_2 ul395_2
       clear hcc395 hce395
       have HR395_1 := Aside0.mk hi395_1
       have HC395_1 := Aside0.mk hl395_1
       clear hi395_1 hl395_1
       have HR395_2 := Aside0.mk hi395_2
       have HC395_2 := Aside0.mk hl395_2
       clear hi395_2 hl395_2
       replace p395 := eq_true p395
       replace q395 := eq_true q395
       refine start_ (n := 6) (S := fun w' => w'.cell? ⟨gb390, 0, none⟩ = some (.slice A0_0 l0_0.length c0_0) ∧ w'.cell? ⟨gb390, 1, none⟩ = some (.int .i64 a0_1) ∧ w'.cell? ⟨gb390, 2, none⟩ = some (.int .i64 a0_2) ∧ w'.cell? ⟨gb390, 3, none⟩ = some (.int .i64 a0_3) ∧ w'.cell? ⟨gb390, 4, none⟩ = some (.int .i64 a0_4) ∧ w'.cell? ⟨gb390, 5, none⟩ = some (.slice A0_5 l0_5.length c0_5) ∧ w'.cell? ⟨gb390, 6, none⟩ = some (.int .i64 a0_6) ∧ w'.cell? (ad395.add ((x7_1).toNat * 3)) = some (.int .i64 ((rd_T92 t391 x7_1).f0)) ∧ w'.cell? ⟨(ad395.add ((x7_1).toNat * 3)).block, (ad395.add ((x7_1).toNat * 3)).off + 1, none⟩ = some (.slice A395_1 ((rd_T92 t391 x7_1).f1).length c395_1) ∧ w'.cell? ⟨(ad395.add ((x7_1).toNat * 3)).block, (ad395.add ((x7_1).toNat * 3)).off + 2, none⟩ = some (.slice A395_2 ((rd_T92 t391 x7_1).f2).length c395_2)) (ds := []) (bl 6 0) (by kernel_rfl) rfl (by kernel_rfl) ⟨(blk_cell BK390.out 0).trans rfl, (blk_cell BK390.out 1).trans rfl, (blk_cell BK390.out 2).trans rfl, (blk_cell BK390.out 3).trans rfl, (blk_cell BK390.out 4).trans rfl, (blk_cell BK390.out 5).trans rfl, (blk_cell BK390.out 6).trans rfl, hx395_0, hx395_1, hx395_2⟩ (fun hHeld => ?_)
       generalize wr.drew = w15 at HO_4 BK390 HB HL395_1 HL395_2 HR395_1 HR395_2 hx395_0 hx395_1 hx395_2 hHeld ⊢
       refine pu_ 1 (some 23) (bl 6 2) rfl rfl (by kernel_rfl) (fun _ _ _ h => h) (by rfl) (by intro w'; go_simp; with_reducible rfl) (by simp only [nrm_]; rfl) ?_
       refine pu_ 2 (some 24) (bl 6 6) rfl rfl (by kernel_rfl) (fun _ _ _ h => h) (by rfl) (by intro w'; go_simp; with_reducible rfl) (by simp only [nrm_]; rfl) ?_
       refine pu_ 3 (some 25) (bl 6 14) rfl rfl (by kernel_rfl) (fun _ _ _ h => h) (by rfl) (by intro w'; go_simp; with_reducible rfl) (by simp only [nrm_]; rfl) ?_
       refine tk_ 0 (some 22) (bl 6 15) rfl rfl (by kernel_rfl) (fun _ _ _ h => h) hHeld (by rfl) (by rintro w' ⟨s0, s1, s2, s3, s4, s5, s6, s7, s8, s9⟩; go_simp; with_reducible rfl) (by simp only [nrm_]; rfl) ?_
       refine tk_ 4 (some 26) (bl 6 31) rfl rfl (by kernel_rfl) (fun _ _ _ h => h) hHeld (by rfl) (by rintro w' ⟨s0, s1, s2, s3, s4, s5, s6, s7, s8, s9⟩; go_simp; with_reducible rfl) (by simp only [nrm_]; rfl) ?_
       refine one_ (i := 5) (N := some 27) (bl 6 63) rfl rfl (by kernel_rfl) (by decide) (fun K hK => ?_)
       refine goes_ Tryd.func82 (by kernel_rfl) rfl #[.agg #[.slice A0_0 l0_0.length c0_0, .int .i64 a0_1, .int .i64 a0_2, .int .i64 a0_3, .int .i64 a0_4, .slice A0_5 l0_5.length c0_5, .int .i64 a0_6], .agg #[.int .i64 ((rd_T92 t391 x7_1).f0), .slice A395_1 ((rd_T92 t391 x7_1).f1).length c395_1, .slice A395_2 ((rd_T92 t391 x7_1).f2).length c395_2]] (by rfl) rfl rfl (by (try simp only [List.map_toArray, List.map_cons, List.map_nil]); first | done | rfl | (simp only [List.length_drop, List.length_take]; rfl)) ?_
       with_reducible refine (macadamref06_blamed.calls k1 _ _ l0_0 a0_1 a0_2 a0_3 a0_4 _ _ l0_5 a0_6 ((rd_T92 t391 x7_1).f0) _ _ ((rd_T92 t391 x7_1).f1) _ _ ((rd_T92 t391 x7_1).f2) false _ ?side1 ?side2 ?side3 ?side4 ?side5 ?side6 ?side7 ?side8 A9.out).mono ?_
       (case side1 => repeat (first | exact (Kd.C_below HR0_0.out HB.out) | (with_reducible refine Kd.C_alloc ?_ _) | (with_reducible refine Kd.C_drewN ?_ _) | (with_reducible refine Kd.C_drew ?_)))
       (case side2 => exact HC0_0.out)
       (case side3 => repeat (first | exact (Kd.C_below HR0_5.out HB.out) | (with_reducible refine Kd.C_alloc ?_ _) | (with_reducible refine Kd.C_drewN ?_ _) | (with_reducible refine Kd.C_drew ?_)))
       (case side4 => exact HC0_5.out)
       (case side5 => repeat (first | exact (by repeat (first | (with_reducible exact HR395_1.out) | (with_reducible refine Kd.C_alloc ?_ _) | (with_reducible refine Kd.C_drewN ?_ _) | (with_reducible refine Kd.C_drew ?_) | exact HR395_1.out)) | (with_reducible refine Kd.C_alloc ?_ _) | (with_reducible refine Kd.C_drewN ?_ _) | (with_reducible refine Kd.C_drew ?_)))
       (case side6 => exact HC395_1.out)
       (case side7 => repeat (first | exact (by repeat (first | (with_reducible exact HR395_2.out) | (with_reducible refine Kd.C_alloc ?_ _) | (with_reducible refine Kd.C_drewN ?_ _) | (with_reducible refine Kd.C_drew ?_) | exact HR395_2.out)) | (with_reducible refine Kd.C_alloc ?_ _) | (with_reducible refine Kd.C_drewN ?_ _) | (with_reducible refine Kd.C_drew ?_)))
       (case side8 => exact HC395_2.out)
       rintro e w16 ⟨rfl, hb⟩
       have HS7_ := (hb.cell (World.block_lt_of_cell? _ _ (hHeld.2.2.2.2.2.2.2.1))).trans (hHeld.2.2.2.2.2.2.2.1)
       have HS8_ := (hb.cell (World.block_lt_of_cell? _ _ (hHeld.2.2.2.2.2.2.2.2.1))).trans (hHeld.2.2.2.2.2.2.2.2.1)
       have HS9_ := (hb.cell (World.block_lt_of_cell? _ _ (hHeld.2.2.2.2.2.2.2.2.2))).trans (hHeld.2.2.2.2.2.2.2.2.2)
       refine ⟨_, rfl, ?_⟩
       have n0_ := Aside0.mk (Kd.N_below (by (with_reducible repeat (first | apply Kd.N_alloc | apply Kd.N_drewN | apply Kd.N_drew)); exact HO_4.out) hb)
       have n1_ := Aside0.mk (Kd.V_below (by (with_reducible repeat (first | apply Kd.V_alloc | apply Kd.V_drewN | apply Kd.V_drew)); exact HL395_1.out) hb)
       have n2_ := Aside0.mk (Kd.V_below (by (with_reducible repeat (first | apply Kd.V_alloc | apply Kd.V_drewN | apply Kd.V_drew)); exact HL395_2.out) hb)
       have n3_ := Aside0.mk (blk_below (g := gb390) (o := .cells #[.slice A0_0 l0_0.length c0_0, .int .i64 a0_1, .int .i64 a0_2, .int .i64 a0_3, .int .i64 a0_4, .slice A0_5 l0_5.length c0_5, .int .i64 a0_6] 26 (0, 0)) (by (with_reducible repeat (first | refine blk_drewN ?_ _ | refine blk_drew ?_ | refine blk_alloc ?_ _)); exact BK390.out) hb)
       have n4_ := Aside0.mk (Kd.C_below (by repeat (first | (with_reducible exact HR395_1.out) | (with_reducible refine Kd.C_alloc ?_ _) | (with_reducible refine Kd.C_drewN ?_ _) | (with_reducible refine Kd.C_drew ?_) | exact HR395_1.out)) hb)
       have n5_ := Aside0.mk (Kd.C_below (by repeat (first | (with_reducible exact HR395_2.out) | (with_reducible refine Kd.C_alloc ?_ _) | (with_reducible refine Kd.C_drewN ?_ _) | (with_reducible refine Kd.C_drew ?_) | exact HR395_2.out)) hb)
       have n6_ := Aside0.mk (below_step (by repeat (first | (with_reducible first | exact HB.out | apply below_alloc | apply pw_below_drewN | apply below_drew1 | refine below_set ?_ GE390.out) | exact HB.out)) hb)
       clear HO_4
       clear HL395_1
       clear HL395_2
       clear BK390
       clear HR395_1
       clear HR395_2
       clear HB
       have HO_4 := n0_
       have HL395_1 := n1_
       have HL395_2 := n2_
       have BK390 := n3_
       have HR395_1 := n4_
       have HR395_2 := n5_
       have HB := n6_
       clear n0_ n1_ n2_ n3_ n4_ n5_ n6_
       (try clear hb)
       (try clear hb2)
       (try clear hk)
       (try clear hi)
       refine hK.out _ _ ⟨(blk_cell BK390.out 0).trans rfl, (blk_cell BK390.out 1).trans rfl, (blk_cell BK390.out 2).trans rfl, (blk_cell BK390.out 3).trans rfl, (blk_cell BK390.out 4).trans rfl, (blk_cell BK390.out 5).trans rfl, (blk_cell BK390.out 6).trans rfl, HS7_, HS8_, HS9_⟩ (fun hHeld => ?_)
       clear hK K
       refine norm_ (a' := ?_) ?_ ?_
       rotate_left
       ·show Act.put _ (some 27) _ = _
        simp only [nrm_]
        rfl
       refine done_ (by kernel_rfl) ?_
       try go_wp2
       go_roundg k1
       case measure => have := HK1.out; omega
       case rel => exact ⟨(x6_1), (wrap64 (x7_1 + 1)), (by first | rfl | (simp; done) | (simp [*]; done)), (by first | rfl | (simp; done) | (simp [*]; done)), H', ⟨by have := HK1.out; omega⟩, ⟨by (with_reducible repeat (first | apply Kd.N_alloc | apply Kd.N_drewN | apply Kd.N_drew)); exact HO_4.out⟩, ⟨by (with_reducible repeat (first | refine blk_drewN ?_ _ | refine blk_drew ?_ | refine blk_alloc ?_ _)); exact BK390.out⟩, ⟨by repeat (first | (with_reducible first | exact HB.out | apply below_alloc | apply pw_below_drewN | apply below_drew1 | refine below_set ?_ GE390.out) | exact HB.out)⟩⟩
     ·rw [if_neg c8] at H
      exact absurd H (by simp)
    ·rw [if_neg c7] at H
     have c7b0 : decide (x7_1 < (t391.length : Int)) = false := decide_eq_false c7
     clear c7
     by_cases c17 : x6_1 = 0
     ·rw [if_pos c17] at H
      have c17b0 : (x6_1 == 0) = true := beq_iff_eq.mpr c17
      have c17b1 : (x6_1 != 0) = false := bne_eq_false_iff_eq.mpr c17
      clear c17
      simp only [Option.some.injEq, Prod.mk.injEq] at H
      obtain ⟨rfl, rfl⟩ := H
      obtain ⟨Ao18, co18, eo18⟩ := Kd.N_slice HO_4.out
      subst eo18
      go_wp2
      go_ret2
      exact ⟨by first | rfl | (simp [errW_none, errW_some] <;> rfl) | (simp only [i64_w, i32_w] <;> rfl) | (simp [*, errW_none, errW_some] <;> rfl), by repeat (first | (with_reducible first | exact HB.out | apply below_alloc | apply pw_below_drewN | apply below_drew1 | refine below_set ?_ GE390.out) | exact HB.out)⟩
     ·rw [if_neg c17] at H
      have c17b0 : (x6_1 == 0) = false := beq_eq_false_iff_ne.mpr c17
      have c17b1 : (x6_1 != 0) = true := bne_iff_ne.mpr c17
      by_cases c19 : x6_1 = (t391.length : Int)
      ·rw [if_pos c19] at H
       have c19b0 : (x6_1 == (t391.length : Int)) = true := beq_iff_eq.mpr c19
       have c19b1 : (x6_1 != (t391.length : Int)) = false := bne_eq_false_iff_eq.mpr c19
       clear c19
       simp only [Option.some.injEq, Prod.mk.injEq] at H
       obtain ⟨rfl, rfl⟩ := H
       obtain ⟨Ao20, co20, eo20⟩ := Kd.N_slice HO_4.out
       subst eo20
       go_wp2
       go_ret2
       exact ⟨by first | rfl | (simp [errW_none, errW_some] <;> rfl) | (simp only [i64_w, i32_w] <;> rfl) | (simp [*, errW_none, errW_some] <;> rfl), by repeat (first | (with_reducible first | exact HB.out | apply below_alloc | apply pw_below_drewN | apply below_drew1 | refine below_set ?_ GE390.out) | exact HB.out)⟩
      ·rw [if_neg c19] at H
       have c19b0 : (x6_1 == (t391.length : Int)) = false := beq_eq_false_iff_ne.mpr c19
       have c19b1 : (x6_1 != (t391.length : Int)) = true := bne_iff_ne.mpr c19
       simp only [Option.some.injEq, Prod.mk.injEq] at H
       obtain ⟨rfl, rfl⟩ := H
       obtain ⟨Ao21, co21, eo21⟩ := Kd.N_slice HO_4.out
       subst eo21
       go_wp2
       go_ret2
       exact ⟨by first | rfl | (simp [errW_none, errW_some] <;> rfl) | (simp only [i64_w, i32_w] <;> rfl) | (simp [*, errW_none, errW_some] <;> rfl), by repeat (first | (with_reducible first | exact HB.out | apply below_alloc | apply pw_below_drewN | apply below_drew1 | refine below_set ?_ GE390.out) | exact HB.out)⟩
 ·rw [if_neg c3] at H
  have c3b0 : (t394 == 0) = false := beq_eq_false_iff_ne.mpr c3
  have c3b1 : (t394 != 0) = true := bne_iff_ne.mpr c3
  simp only [Option.some.injEq, Prod.mk.injEq] at H
  obtain ⟨rfl, rfl⟩ := H
  go_enter Tryd.func29, Tryd.ntmps29
  go_wp2_with (first | ((with_reducible refine gate_dst (N := 1) rfl ?_); refine box_event ?hg (N := 1) ?hd (cs := #[.slice A0_0 l0_0.length c0_0, .int .i64 a0_1, .int .i64 a0_2, .int .i64 a0_3, .int .i64 a0_4, .slice A0_5 l0_5.length c0_5, .int .i64 a0_6]) (t := 26) ?hr ?_; (case hd => rfl); (case hg => rfl); (case hr => first | (go_simp; done) | (go_simp; rfl)); intro gb390 hg w22 hbox hb; have n0_ := Aside0.mk (below_step (by repeat (first | (with_reducible first | exact HB.out | apply below_alloc | apply pw_below_drewN | apply below_drew1) | exact HB.out)) hb); have n1_ := Aside0.mk (hbox); have n2_ := Aside0.mk ((by rw [hg]; exact (below_size (by repeat (first | (with_reducible first | exact HB.out | apply below_alloc | apply pw_below_drewN | apply below_drew1) | exact HB.out))) : w.heap.size ≤ gb390)); have n3_ := Aside0.mk ((by rw [hg]; exact (below_size (by repeat (first | (with_reducible first | exact HB.out | apply below_alloc | apply pw_below_drewN | apply below_drew1) | exact HB.out))) : w.heap.size ≤ gb390)); clear HB; have HB := n0_; have BK390 := n1_; have GW390 := n2_; have GE390 := n3_; clear n0_ n1_ n2_ n3_; clear hb hbox hg; have hcz23_0 : w22.cell? ⟨gb390, 0, none⟩ = some (.slice A0_0 l0_0.length c0_0) := (blk_cell BK390.out 0).trans rfl; have hcz23_1 : w22.cell? ⟨gb390, 1, none⟩ = some (.int .i64 a0_1) := (blk_cell BK390.out 1).trans rfl; have hcz23_2 : w22.cell? ⟨gb390, 2, none⟩ = some (.int .i64 a0_2) := (blk_cell BK390.out 2).trans rfl; have hcz23_3 : w22.cell? ⟨gb390, 3, none⟩ = some (.int .i64 a0_3) := (blk_cell BK390.out 3).trans rfl; have hcz23_4 : w22.cell? ⟨gb390, 4, none⟩ = some (.int .i64 a0_4) := (blk_cell BK390.out 4).trans rfl; have hcz23_5 : w22.cell? ⟨gb390, 5, none⟩ = some (.slice A0_5 l0_5.length c0_5) := (blk_cell BK390.out 5).trans rfl; have hcz23_6 : w22.cell? ⟨gb390, 6, none⟩ = some (.int .i64 a0_6) := (blk_cell BK390.out 6).trans rfl; have hfz23_0 := blk_frozen BK390.out 0; have hfz23_1 := blk_frozen BK390.out 1; have hfz23_2 := blk_frozen BK390.out 2; have hfz23_3 := blk_frozen BK390.out 3; have hfz23_4 := blk_frozen BK390.out 4; have hfz23_5 := blk_frozen BK390.out 5; have hfz23_6 := blk_frozen BK390.out 6) | ((with_reducible refine gate_callee (f := 73) rfl ?_); refine goesL_ (some 10) rfl rfl Tryd.func73 (by kernel_rfl) rfl #[.agg #[.slice A0_0 l0_0.length c0_0, .int .i64 a0_1, .int .i64 a0_2, .int .i64 a0_3, .int .i64 a0_4, .slice A0_5 l0_5.length c0_5, .int .i64 a0_6], .bool true] rfl (by (try simp only [List.map_toArray, List.map_cons, List.map_nil]); first | done | rfl | (simp only [List.length_drop, List.length_take]; rfl)) ?_; (with_reducible refine (macadamref06_asked.calls k _ _ l0_0 a0_1 a0_2 a0_3 a0_4 _ _ l0_5 a0_6 true t391 t394 _ ?side1 ?side2 ?side3 ?side4 A2.out).mono ?_); (case side1 => repeat (first | exact (Kd.C_below HR0_0.out HB.out) | (with_reducible refine Kd.C_alloc ?_ _) | (with_reducible refine Kd.C_drewN ?_ _) | (with_reducible refine Kd.C_drew ?_))); (case side2 => exact HC0_0.out); (case side3 => repeat (first | exact (Kd.C_below HR0_5.out HB.out) | (with_reducible refine Kd.C_alloc ?_ _) | (with_reducible refine Kd.C_drewN ?_ _) | (with_reducible refine Kd.C_drew ?_))); (case side4 => exact HC0_5.out); rintro e w24 ⟨v392, rfl, ho0, hb⟩; refine ⟨_, rfl, ?_⟩; have n0_ := Aside0.mk (Kd.N_lower (Kd.N_mono (ok' := fun k_ => k_ ≠ gb390) ho0 (fun k_ hk_ => (Kd.freshB (g := gb390) (o := .cells #[.slice A0_0 l0_0.length c0_0, .int .i64 a0_1, .int .i64 a0_2, .int .i64 a0_3, .int .i64 a0_4, .slice A0_5 l0_5.length c0_5, .int .i64 a0_6] 26 (0, 0)) (by (with_reducible repeat (first | refine blk_drewN ?_ _ | refine blk_drew ?_ | refine blk_alloc ?_ _)); exact BK390.out) k_ hk_))) (below_size (by repeat (first | (with_reducible first | exact HB.out | apply below_alloc | apply pw_below_drewN | apply below_drew1 | refine below_set ?_ GE390.out) | exact HB.out)))); have n1_ := Aside0.mk (blk_below (g := gb390) (o := .cells #[.slice A0_0 l0_0.length c0_0, .int .i64 a0_1, .int .i64 a0_2, .int .i64 a0_3, .int .i64 a0_4, .slice A0_5 l0_5.length c0_5, .int .i64 a0_6] 26 (0, 0)) (by (with_reducible repeat (first | refine blk_drewN ?_ _ | refine blk_drew ?_ | refine blk_alloc ?_ _)); exact BK390.out) hb); have n2_ := Aside0.mk (below_step (by repeat (first | (with_reducible first | exact HB.out | apply below_alloc | apply pw_below_drewN | apply below_drew1 | refine below_set ?_ GE390.out) | exact HB.out)) hb); clear BK390; clear HB; have HO393 := n0_; have BK390 := n1_; have HB := n2_; clear n0_ n1_ n2_; (try clear hb); (try clear hb2); (try clear hk); (try clear hi); (try clear ho0)))
  go_ret2
  exact ⟨by first | rfl | (simp [errW_none, errW_some] <;> rfl) | (simp only [i64_w, i32_w] <;> rfl) | (simp [*, errW_none, errW_some] <;> rfl), by repeat (first | (with_reducible first | exact HB.out | apply below_alloc | apply pw_below_drewN | apply below_drew1 | refine below_set ?_ GE390.out) | exact HB.out)⟩
end Go.Proofs.YtbhjfojbjpbdbaaDoorPX
namespace Go.Proofs.YtbhjfojbjpbdbaaDoorPX
open Go.Proofs.YtbhjfojbjpbdbaaDoor (Glob ix3 blk_ix3 bl nrm_ pu_ po_ tk_)
open Go.RowKit Go.Proofs.YtbhjfojbjpbdbaaDoorW.PrintWords Go.Proofs.YtbhjfojbjpbdbaaDoorW.PrintLast Go.Proofs.YtbhjfojbjpbdbaaDoorW.PrintMore

set_option linter.unusedVariables false
set_option linter.unusedSimpArgs false
def macadamref06_Owes.l0 : Nat → List (S92) → List Int → Int → List (S56) → Int → Int → Int → Int → List (S42) → Int → Option (Int × Int × Int)
 | 0, _, _, _, _, _, _, _, _, _, _ => none
 | k + 1, x4, x6, x7, x398000, x398001, x398002, x398003, x398004, x398005, x398006 => if x7 < (x4.length : Int) then (if 0 ≤ x7 then ((macadamref06_late.f x398000 x398001 x398002 x398003 x398004 x398005 x398006 ((rd_T92 x4 x7).f0) ((rd_T92 x4 x7).f1) ((rd_T92 x4 x7).f2) (wrap64 ((x398000.length : Int) - 1))).bind fun t407 => ((macadamref00_Total.f k ((rd_T92 x4 x7).f1)).bind fun t409 => (if x6.length < 17592186044416 then (macadamref06_Owes.l0 k x4 (x6 ++ [wrap64 (x398006 * (mn t407 t409))]) (wrap64 (x7 + 1)) x398000 x398001 x398002 x398003 x398004 x398005 x398006) else (none)))) else (none)) else ((macadamref06_ends.f k x6).bind fun bt413 => (some (bt413.1, bt413.2, 0)))
def macadamref06_Owes.f (k : Nat) (l0_0 : List (S56)) (a0_1 : Int) (a0_2 : Int) (a0_3 : Int) (a0_4 : Int) (l0_5 : List (S42)) (a0_6 : Int) : Option (Int × Int × Int) := (macadamref06_asked.f k l0_0 a0_1 a0_2 a0_3 a0_4 l0_5 a0_6 true).bind fun bt399 => (if bt399.2 = 0 then (macadamref06_Owes.l0 k bt399.1 (([] : List Int)) 0 l0_0 a0_1 a0_2 a0_3 a0_4 l0_5 a0_6) else (some (0, 0, bt399.2)))
def macadamref06_Owes.T8 : Bool × List (List Nat × List Nat) := (true, [([], []), ([], []), ([1], [1]), ([], []), ([], []), ([], []), ([4, 5], [4, 5]), ([6], [6]), ([], []), ([8], [8]), ([9], [9]), ([10], [10]), ([3, 7, 11], [3, 7, 11]), ([], []), ([], []), ([13, 14], [13, 14]), ([15], [15]), ([16], [16]), ([17, 12], [17]), ([12, 18], [12, 18]), ([2, 19], [2, 19]), ([20], [20]), ([0, 21, 18], [0, 21]), ([22, 22, 0, 1, 2, 3, 4, 5, 6, 7, 8, 9, 10, 11, 12, 13, 14, 15, 16, 17, 18, 19, 20, 21, 22], [0, 22])])
def macadamref06_Owes.B8 : List Nat := [0, 0, 2, 0, 0, 0, 48, 112, 0, 256, 768, 1792, 4088, 0, 0, 24576, 57344, 122880, 262136, 524280, 1048574, 2097150, 4194303, 8388607]
theorem macadamref06_Owes.tab8 : rtab .any (opsOf Tryd.f31 8) = macadamref06_Owes.T8 := by kernel_rfl
theorem macadamref06_Owes.bits8 : waitsOk macadamref06_Owes.T8.2 macadamref06_Owes.B8 = true := by kernel_rfl
set_option maxHeartbeats 8000000 in
set_option maxRecDepth 100000 in
theorem macadamref06_Owes.calls (k : Nat) (A0_0 : Option Addr) (c0_0 : Nat) (l0_0 : List (S56)) (a0_1 : Int) (a0_2 : Int) (a0_3 : Int) (a0_4 : Int) (A0_5 : Option Addr) (c0_5 : Nat) (l0_5 : List (S42)) (a0_6 : Int) (r1 : Int) (r2 : Int) (r3 : Int) (w : World) (hr0_0 : Kd.C k56 w A0_0 l0_0.length l0_0) (hc0_0 : l0_0.length ≤ c0_0) (hr0_5 : Kd.C k42 w A0_5 l0_5.length l0_5) (hc0_5 : l0_5.length ≤ c0_5) (h : macadamref06_Owes.f k l0_0 a0_1 a0_2 a0_3 a0_4 l0_5 a0_6 = some (r1, r2, r3)) :
  Calls Tryd.prog 31 #[.agg #[.slice A0_0 l0_0.length c0_0, .int .i64 a0_1, .int .i64 a0_2, .int .i64 a0_3, .int .i64 a0_4, .slice A0_5 l0_5.length c0_5, .int .i64 a0_6]] w fun e w' => e = .returned (.tuple #[.agg #[.int .i64 r1, .int .i64 r2], .int .i64 r3]) ∧ Below w.heap.size w w' := by
 have hu26 := Tryd.underlying26
 have hu32 := Tryd.underlying32
 have hu92 := Tryd.underlying92
 have HR0_0 := Aside0.mk hr0_0
 have HC0_0 := Aside0.mk hc0_0
 clear hr0_0 hc0_0
 have HR0_5 := Aside0.mk hr0_5
 have HC0_5 := Aside0.mk hc0_5
 clear hr0_5 hc0_5
 have HB := Aside0.mk (Below.refl w.heap.size w)
 have H : ((macadamref06_asked.f k l0_0 a0_1 a0_2 a0_3 a0_4 l0_5 a0_6 true).bind fun bt399 => (if bt399.2 = 0 then (macadamref06_Owes.l0 k bt399.1 (([] : List Int)) 0 l0_0 a0_1 a0_2 a0_3 a0_4 l0_5 a0_6) else (some (0, 0, bt399.2)))) = some (r1, r2, r3) := h
 clear h
 replace H := Option.bind_eq_some_iff.mp H
 obtain ⟨⟨t399, t402⟩, A20, H⟩ := H
 replace H : (if t402 = 0 then (macadamref06_Owes.l0 k t399 (([] : List Int)) 0 l0_0 a0_1 a0_2 a0_3 a0_4 l0_5 a0_6) else (some (0, 0, t402))) = some (r1, r2, r3) := H
 have A2 := Aside0.mk A20
 clear A20
 by_cases c3 : t402 = 0
 ·rw [if_pos c3] at H
  have c3b0 : (t402 == 0) = true := beq_iff_eq.mpr c3
  have c3b1 : (t402 != 0) = false := bne_eq_false_iff_eq.mpr c3
  clear c3
  obtain ⟨y403, hy403⟩ : ∃ y_ : List Int, y_ = (([] : List Int)) := ⟨_, rfl⟩
  replace H : (macadamref06_Owes.l0 k t399 y403 0 l0_0 a0_1 a0_2 a0_3 a0_4 l0_5 a0_6) = some (r1, r2, r3) := by first | (rw [hy403]; with_reducible exact H) | (have H2_ := (Option.bind_some _ _).symm.trans H; rw [hy403]; with_reducible exact H2_) | (have H2_ := (Option.bind_some _ _).symm.trans H; with_reducible exact H2_) | with_reducible exact H | (rw [hy403]; exact H) | exact H
  have Ny403 := Aside0.mk hy403
  clear hy403
  have H' := Aside0.mk H
  clear H
  go_enter Tryd.func31, Tryd.ntmps31
  go_wp2_with (first | ((with_reducible refine gate_dst (N := 1) rfl ?_); refine box_event ?hg (N := 1) ?hd (cs := #[.slice A0_0 l0_0.length c0_0, .int .i64 a0_1, .int .i64 a0_2, .int .i64 a0_3, .int .i64 a0_4, .slice A0_5 l0_5.length c0_5, .int .i64 a0_6]) (t := 26) ?hr ?_; (case hd => rfl); (case hg => rfl); (case hr => first | (go_simp; done) | (go_simp; rfl)); intro gb397 hg w4 hbox hb; have n0_ := Aside0.mk (below_step (by repeat (first | (with_reducible first | exact HB.out | apply below_alloc | apply pw_below_drewN | apply below_drew1) | exact HB.out)) hb); have n1_ := Aside0.mk (hbox); have n2_ := Aside0.mk ((by rw [hg]; exact (below_size (by repeat (first | (with_reducible first | exact HB.out | apply below_alloc | apply pw_below_drewN | apply below_drew1) | exact HB.out))) : w.heap.size ≤ gb397)); have n3_ := Aside0.mk ((by rw [hg]; exact (below_size (by repeat (first | (with_reducible first | exact HB.out | apply below_alloc | apply pw_below_drewN | apply below_drew1) | exact HB.out))) : w.heap.size ≤ gb397)); clear HB; have HB := n0_; have BK397 := n1_; have GW397 := n2_; have GE397 := n3_; clear n0_ n1_ n2_ n3_; clear hb hbox hg) | ((with_reducible refine gate_dst (N := 2) rfl ?_); refine box_event ?hg (N := 2) ?hd (cs := #[.int .i64 0, .int .i64 0]) (t := 32) ?hr ?_; (case hd => rfl); (case hg => rfl); (case hr => first | (go_simp; done) | (go_simp; rfl)); intro gb398 hg w5 hbox hb; have n0_ := Aside0.mk (blk_below (g := gb397) (o := .cells #[.slice A0_0 l0_0.length c0_0, .int .i64 a0_1, .int .i64 a0_2, .int .i64 a0_3, .int .i64 a0_4, .slice A0_5 l0_5.length c0_5, .int .i64 a0_6] 26 (0, 0)) (by (with_reducible repeat (first | refine blk_drewN ?_ _ | refine blk_drew ?_ | refine blk_alloc ?_ _)); exact BK397.out) hb); have n1_ := Aside0.mk (below_step (by repeat (first | (with_reducible first | exact HB.out | apply below_alloc | apply pw_below_drewN | apply below_drew1 | refine below_set ?_ GE397.out) | exact HB.out)) hb); have n2_ := Aside0.mk (hbox); have n3_ := Aside0.mk ((by rw [hg]; exact (below_size (by repeat (first | (with_reducible first | exact HB.out | apply below_alloc | apply pw_below_drewN | apply below_drew1 | refine below_set ?_ GE397.out) | exact HB.out))) : w.heap.size ≤ gb398)); have n4_ := Aside0.mk ((by rw [hg]; exact (below_size (by repeat (first | (with_reducible first | exact HB.out | apply below_alloc | apply pw_below_drewN | apply below_drew1 | refine below_set ?_ GE397.out) | exact HB.out))) : w.heap.size ≤ gb398)); have n5_ := Aside0.mk ((by rw [hg]; exact Nat.ne_of_lt (blk_lt (g := gb397) (o := .cells #[.slice A0_0 l0_0.length c0_0, .int .i64 a0_1, .int .i64 a0_2, .int .i64 a0_3, .int .i64 a0_4, .slice A0_5 l0_5.length c0_5, .int .i64 a0_6] 26 (0, 0)) (by (with_reducible repeat (first | refine blk_drewN ?_ _ | refine blk_drew ?_ | refine blk_alloc ?_ _)); exact BK397.out)) : gb397 ≠ gb398)); have n6_ := Aside0.mk ((by rw [hg]; exact Nat.ne_of_gt (blk_lt (g := gb397) (o := .cells #[.slice A0_0 l0_0.length c0_0, .int .i64 a0_1, .int .i64 a0_2, .int .i64 a0_3, .int .i64 a0_4, .slice A0_5 l0_5.length c0_5, .int .i64 a0_6] 26 (0, 0)) (by (with_reducible repeat (first | refine blk_drewN ?_ _ | refine blk_drew ?_ | refine blk_alloc ?_ _)); exact BK397.out)) : gb398 ≠ gb397)); clear BK397; clear HB; have BK397 := n0_; have HB := n1_; have BK398 := n2_; have GW398 := n3_; have GE398 := n4_; have NB397_398 := n5_; have NB398_397 := n6_; clear n0_ n1_ n2_ n3_ n4_ n5_ n6_; clear hb hbox hg; have hnb6 := NB397_398.out; have hnc6 := NB398_397.out; have hcz7_0 : w5.cell? ⟨gb397, 0, none⟩ = some (.slice A0_0 l0_0.length c0_0) := (blk_cell BK397.out 0).trans rfl; have hcz7_1 : w5.cell? ⟨gb397, 1, none⟩ = some (.int .i64 a0_1) := (blk_cell BK397.out 1).trans rfl; have hcz7_2 : w5.cell? ⟨gb397, 2, none⟩ = some (.int .i64 a0_2) := (blk_cell BK397.out 2).trans rfl; have hcz7_3 : w5.cell? ⟨gb397, 3, none⟩ = some (.int .i64 a0_3) := (blk_cell BK397.out 3).trans rfl; have hcz7_4 : w5.cell? ⟨gb397, 4, none⟩ = some (.int .i64 a0_4) := (blk_cell BK397.out 4).trans rfl; have hcz7_5 : w5.cell? ⟨gb397, 5, none⟩ = some (.slice A0_5 l0_5.length c0_5) := (blk_cell BK397.out 5).trans rfl; have hcz7_6 : w5.cell? ⟨gb397, 6, none⟩ = some (.int .i64 a0_6) := (blk_cell BK397.out 6).trans rfl; have hfz7_0 := blk_frozen BK397.out 0; have hfz7_1 := blk_frozen BK397.out 1; have hfz7_2 := blk_frozen BK397.out 2; have hfz7_3 := blk_frozen BK397.out 3; have hfz7_4 := blk_frozen BK397.out 4; have hfz7_5 := blk_frozen BK397.out 5; have hfz7_6 := blk_frozen BK397.out 6) | ((with_reducible refine gate_callee (f := 73) rfl ?_); refine goesL_ (some 10) rfl rfl Tryd.func73 (by kernel_rfl) rfl #[.agg #[.slice A0_0 l0_0.length c0_0, .int .i64 a0_1, .int .i64 a0_2, .int .i64 a0_3, .int .i64 a0_4, .slice A0_5 l0_5.length c0_5, .int .i64 a0_6], .bool true] rfl (by (try simp only [List.map_toArray, List.map_cons, List.map_nil]); first | done | rfl | (simp only [List.length_drop, List.length_take]; rfl)) ?_; (with_reducible refine (macadamref06_asked.calls k _ _ l0_0 a0_1 a0_2 a0_3 a0_4 _ _ l0_5 a0_6 true t399 t402 _ ?side1 ?side2 ?side3 ?side4 A2.out).mono ?_); (case side1 => repeat (first | exact (Kd.C_below HR0_0.out HB.out) | (with_reducible refine Kd.C_alloc ?_ _) | (with_reducible refine Kd.C_drewN ?_ _) | (with_reducible refine Kd.C_drew ?_))); (case side2 => exact HC0_0.out); (case side3 => repeat (first | exact (Kd.C_below HR0_5.out HB.out) | (with_reducible refine Kd.C_alloc ?_ _) | (with_reducible refine Kd.C_drewN ?_ _) | (with_reducible refine Kd.C_drew ?_))); (case side4 => exact HC0_5.out); rintro e w8 ⟨v400, rfl, ho0, hb⟩; refine ⟨_, rfl, ?_⟩; have n0_ := Aside0.mk (Kd.N_lower (Kd.N_mono (ok' := fun k_ => k_ ≠ gb397 ∧ k_ ≠ gb398) ho0 (fun k_ hk_ => ⟨(Kd.freshB (g := gb397) (o := .cells #[.slice A0_0 l0_0.length c0_0, .int .i64 a0_1, .int .i64 a0_2, .int .i64 a0_3, .int .i64 a0_4, .slice A0_5 l0_5.length c0_5, .int .i64 a0_6] 26 (0, 0)) (by (with_reducible repeat (first | refine blk_drewN ?_ _ | refine blk_drew ?_ | refine blk_alloc ?_ _)); exact BK397.out) k_ hk_), (Kd.freshB (g := gb398) (o := .cells #[.int .i64 0, .int .i64 0] 32 (0, 0)) (by (with_reducible repeat (first | refine blk_drewN ?_ _ | refine blk_drew ?_ | refine blk_alloc ?_ _)); exact BK398.out) k_ hk_)⟩)) (below_size (by repeat (first | (with_reducible first | exact HB.out | apply below_alloc | apply pw_below_drewN | apply below_drew1 | refine below_set ?_ GE397.out | refine below_set ?_ GE398.out) | exact HB.out)))); have n1_ := Aside0.mk (blk_below (g := gb397) (o := .cells #[.slice A0_0 l0_0.length c0_0, .int .i64 a0_1, .int .i64 a0_2, .int .i64 a0_3, .int .i64 a0_4, .slice A0_5 l0_5.length c0_5, .int .i64 a0_6] 26 (0, 0)) (by (with_reducible repeat (first | refine blk_drewN ?_ _ | refine blk_drew ?_ | refine blk_alloc ?_ _)); exact BK397.out) hb); have n2_ := Aside0.mk (blk_below (g := gb398) (o := .cells #[.int .i64 0, .int .i64 0] 32 (0, 0)) (by (with_reducible repeat (first | refine blk_drewN ?_ _ | refine blk_drew ?_ | refine blk_alloc ?_ _)); exact BK398.out) hb); have n3_ := Aside0.mk (below_step (by repeat (first | (with_reducible first | exact HB.out | apply below_alloc | apply pw_below_drewN | apply below_drew1 | refine below_set ?_ GE397.out | refine below_set ?_ GE398.out) | exact HB.out)) hb); clear BK397; clear BK398; clear HB; have HO401 := n0_; have BK397 := n1_; have BK398 := n2_; have HB := n3_; clear n0_ n1_ n2_ n3_; (try clear hb); (try clear hb2); (try clear hk); (try clear hi); (try clear ho0)) | ((with_reducible refine gate_dst (N := 17) rfl ?_); refine Kd.R_lit (Kd.int .i64) _ 3 ?hg (N := 17) ?hd (xs := ([] : List Int)) (inner := []) (ok := fun _ => True) (okp := fun _ => True) ?hr ?hp (fun _ hk => hk) trivial (Below.refl _ _) (Nat.le_refl _) (by simp) ?_; (case hd => rfl); (case hg => rfl); (case hr => first | (go_simp; done) | (go_simp; rfl)); (case hp => exact (Reps.none _ _)); intro v404 w9 ho10 hb hg_ hnew_; clear hg_ hnew_; (first | rw [← Ny403.out] at ho10 | (simp only [Int.reduceToNat] at ho10; rw [← Ny403.out] at ho10)); have n0_ := Aside0.mk (Kd.N_elder' (by (with_reducible repeat (first | apply Kd.N_alloc | apply Kd.N_drewN | apply Kd.N_drew)); exact HO401.out) (Kd.R_base ho10) hb); have n1_ := Aside0.mk (Kd.R_lower ho10 (below_size (by repeat (first | (with_reducible first | exact HB.out | apply below_alloc | apply pw_below_drewN | apply below_drew1 | refine below_set ?_ GE397.out | refine below_set ?_ GE398.out) | exact HB.out)))); have n2_ := Aside0.mk (blk_below (g := gb397) (o := .cells #[.slice A0_0 l0_0.length c0_0, .int .i64 a0_1, .int .i64 a0_2, .int .i64 a0_3, .int .i64 a0_4, .slice A0_5 l0_5.length c0_5, .int .i64 a0_6] 26 (0, 0)) (by (with_reducible repeat (first | refine blk_drewN ?_ _ | refine blk_drew ?_ | refine blk_alloc ?_ _)); exact BK397.out) hb); have n3_ := Aside0.mk (blk_below (g := gb398) (o := .cells #[.int .i64 0, .int .i64 0] 32 (0, 0)) (by (with_reducible repeat (first | refine blk_drewN ?_ _ | refine blk_drew ?_ | refine blk_alloc ?_ _)); exact BK398.out) hb); have n4_ := Aside0.mk (below_step (by repeat (first | (with_reducible first | exact HB.out | apply below_alloc | apply pw_below_drewN | apply below_drew1 | refine below_set ?_ GE397.out | refine below_set ?_ GE398.out) | exact HB.out)) hb); clear HO401; clear BK397; clear BK398; clear HB; have HO401 := n0_; have HO405 := n1_; have BK397 := n2_; have BK398 := n3_; have HB := n4_; clear n0_ n1_ n2_ n3_ n4_; clear hb ho10))
  go_loopg [6, 7] k (fun kq v6 v7 w' => ∃ (x6_1 : List Int) (x7_1 : Int), v7 = .int .i64 x7_1 ∧ Aside0 (macadamref06_Owes.l0 kq t399 x6_1 x7_1 l0_0 a0_1 a0_2 a0_3 a0_4 l0_5 a0_6 = some (r1, r2, r3)) ∧ Aside0 (kq ≤ k) ∧ Aside0 (Kd.N k92 92 w' w.heap.size (fun k_ => some k_ ≠ (v6 : Value).ownBlock ∧ k_ ≠ gb397 ∧ k_ ≠ gb398) v400 t399) ∧ Aside0 (Kd.R (Kd.int .i64) 3 w' w.heap.size (fun _ => True) v6 x6_1) ∧ Aside0 (w'.heap[gb397]? = some (.cells #[(.slice A0_0 l0_0.length c0_0), .int .i64 a0_1, .int .i64 a0_2, .int .i64 a0_3, .int .i64 a0_4, (.slice A0_5 l0_5.length c0_5), .int .i64 a0_6] 26 (0, 0))) ∧ Aside0 (w'.heap[gb398]? = some (.cells #[.int .i64 0, .int .i64 0] 32 (0, 0))) ∧ Aside0 (Below w.heap.size w w'))
  case atStart => exact ⟨(y403), (0), (by first | rfl | (simp; done) | (simp [*]; done)), H', ⟨Nat.le_refl _⟩, ⟨by (with_reducible repeat (first | apply Kd.N_alloc | apply Kd.N_drewN | apply Kd.N_drew)); exact Kd.N_mono HO401.out (fun _ hk => ⟨hk.2, ⟨hk.1.1, hk.1.2⟩⟩)⟩, ⟨by (with_reducible repeat (first | apply Kd.R_alloc | apply Kd.R_drewN | apply Kd.R_drew)); exact HO405.out⟩, ⟨by (with_reducible repeat (first | refine blk_drewN ?_ _ | refine blk_drew ?_ | refine blk_alloc ?_ _)); exact BK397.out⟩, ⟨by (with_reducible repeat (first | refine blk_drewN ?_ _ | refine blk_drew ?_ | refine blk_alloc ?_ _)); exact BK398.out⟩, ⟨by repeat (first | (with_reducible first | exact HB.out | apply below_alloc | apply pw_below_drewN | apply below_drew1 | refine below_set ?_ GE397.out | refine below_set ?_ GE398.out) | exact HB.out)⟩⟩
  case round =>
   clear H'
   try clear p2
   try clear c3
   try clear c3b0
   try clear c3b1
   try clear c6
   try clear c7
   try clear hcz7_0
   try clear hcz7_1
   try clear hcz7_2
   try clear hcz7_3
   try clear hcz7_4
   try clear hcz7_5
   try clear hcz7_6
   try clear hfz7_0
   try clear hfz7_1
   try clear hfz7_2
   try clear hfz7_3
   try clear hfz7_4
   try clear hfz7_5
   try clear hfz7_6
   obtain ⟨x6_1, x7_1, rfl, HA, HK1, HO_4, HO_6, BK397, BK398, HB⟩ := hrel
   cases gk with
   | zero => exact absurd HA.out (by simp [macadamref06_Owes.l0])
   | succ k1 =>
    have H := HA.out
    clear HA
    simp only [macadamref06_Owes.l0] at H
    by_cases c11 : x7_1 < (t399.length : Int)
    ·rw [if_pos c11] at H
     have c11b0 : decide (x7_1 < (t399.length : Int)) = true := decide_eq_true c11
     clear c11
     by_cases c12 : 0 ≤ x7_1
     ·rw [if_pos c12] at H
      have c12b0 : decide (0 ≤ x7_1) = true := decide_eq_true c12
      clear c12
      replace H := Option.bind_eq_some_iff.mp H
      obtain ⟨t407, A130, H⟩ := H
      replace H : ((macadamref00_Total.f k1 ((rd_T92 t399 x7_1).f1)).bind fun t409 => (if x6_1.length < 17592186044416 then (macadamref06_Owes.l0 k1 t399 (x6_1 ++ [wrap64 (a0_6 * (mn t407 t409))]) (wrap64 (x7_1 + 1)) l0_0 a0_1 a0_2 a0_3 a0_4 l0_5 a0_6) else (none))) = some (r1, r2, r3) := H
      have A13 := Aside0.mk A130
      clear A130
      replace H := Option.bind_eq_some_iff.mp H
      obtain ⟨t409, A140, H⟩ := H
      replace H : (if x6_1.length < 17592186044416 then (macadamref06_Owes.l0 k1 t399 (x6_1 ++ [wrap64 (a0_6 * (mn t407 t409))]) (wrap64 (x7_1 + 1)) l0_0 a0_1 a0_2 a0_3 a0_4 l0_5 a0_6) else (none)) = some (r1, r2, r3) := H
      have A14 := Aside0.mk A140
      clear A140
      obtain ⟨ji15, hji15⟩ : ∃ j_ : Int, (mn t407 t409) = j_ := ⟨_, rfl⟩
      replace H : (if x6_1.length < 17592186044416 then (macadamref06_Owes.l0 k1 t399 (x6_1 ++ [wrap64 (a0_6 * (ji15))]) (wrap64 (x7_1 + 1)) l0_0 a0_1 a0_2 a0_3 a0_4 l0_5 a0_6) else (none)) = some (r1, r2, r3) := by first | (rw [hji15] at H; exact H) | (simp only [hji15] at H ⊢; exact H)
      (try rw [hji15] at A13)
      (try rw [hji15] at A14)
      have hji15_ : (if t409 < t407 then t409 else t407) = ji15 := hji15
      by_cases c16 : x6_1.length < 17592186044416
      ·rw [if_pos c16] at H
       have LMc16 := Aside0.mk c16
       clear c16
       obtain ⟨y410, hy410⟩ : ∃ y_ : List Int, y_ = (x6_1 ++ [wrap64 (a0_6 * (ji15))]) := ⟨_, rfl⟩
       replace H : (macadamref06_Owes.l0 k1 t399 y410 (wrap64 (x7_1 + 1)) l0_0 a0_1 a0_2 a0_3 a0_4 l0_5 a0_6) = some (r1, r2, r3) := by first | (rw [hy410]; with_reducible exact H) | (have H2_ := (Option.bind_some _ _).symm.trans H; rw [hy410]; with_reducible exact H2_) | (have H2_ := (Option.bind_some _ _).symm.trans H; with_reducible exact H2_) | with_reducible exact H | (rw [hy410]; exact H) | exact H
       have Ny410 := Aside0.mk hy410
       clear hy410
       have H' := Aside0.mk H
       clear H
       obtain ⟨Ao17, co17, eo17⟩ := Kd.N_slice HO_4.out
       subst eo17
       try go_wp2
       have n0_ := Aside0.mk (Kd.N_drew HO_4.out)
       have n1_ := Aside0.mk (Kd.R_drew HO_6.out)
       have n2_ := Aside0.mk (blk_drew BK397.out)
       have n3_ := Aside0.mk (blk_drew BK398.out)
       have n4_ := Aside0.mk (below_drew1 HB.out)
       clear HO_4
       clear HO_6
       clear BK397
       clear BK398
       clear HB
       have HO_4 := n0_
       have HO_6 := n1_
       have BK397 := n2_
       have BK398 := n3_
       have HB := n4_
       clear n0_ n1_ n2_ n3_ n4_
       have p406 : 0 ≤ (x7_1 : Int) := of_decide_eq_true (by first | (with_reducible assumption) | assumption)
       have q406 : x7_1 < (t399.length : Int) := of_decide_eq_true (by first | (with_reducible assumption) | assumption)
       obtain ⟨ad406, A406_1, c406_1, A406_2, c406_2, e406, hx406_0, hx406_1, hx406_2, hl406_1, hi406_1, hl406_2, hi406_2⟩ := at_T92 (Kd.N_reads' HO_4.out).2.2 x7_1 p406 q406
       cases e406
       obtain ⟨ce406, hce406, hMe406, hcc406⟩ := Kd.N_get HO_4.out z92 x7_1 p406 (by first | exact q406 | exact of_decide_eq_true (by first | (with_reducible assumption) | assumption) | (have e_ := (Kd.N_reads' HO_4.out).1; omega))
       obtain ⟨ua406_1, uc406_1, ua406_2, uc406_2, rfl, ul406_1, ge406_1, ul406_2, ge406_2⟩ := k92_openF hMe406
       have hv406_1 := hcc406 1 _ rfl
       rw [add_field _ _ 1 (by omega)] at hv406_1
       replace hv406_1 := Option.some.inj (hv406_1.symm.trans hx406_1)
       injection hv406_1 with hva_ hvn_ hvc_
       rw [hva_] at ge406_1
       rw [hvc_] at ul406_1
       have HL406_1 := Aside0.mk (show Kd.V (Kd.int .i64) 3 _ w.heap.size _ _ ((rd_T92 t399 x7_1).f1) from Kd.V_mk ul406_1 ge406_1)
       clear hva_ hvn_ hvc_ ge406_1 ul406_1
       have hv406_2 := hcc406 2 _ rfl
       rw [add_field _ _ 2 (by omega)] at hv406_2
       replace hv406_2 := Option.some.inj (hv406_2.symm.trans hx406_2)
       injection hv406_2 with hva_ hvn_ hvc_
       rw [hva_] at ge406_2
       rw [hvc_] at ul406_2
       have HL406_2 := Aside0.mk (show Kd.V (Kd.int .i64) 3 _ w.heap.size _ _ ((rd_T92 t399 x7_1).f2) from Kd.V_mk ul406_2 ge406_2)
       clear hva_ hvn_ hvc_ ge406_2 ul406_2
       clear hcc406 hce406
       have HR406_1 := Aside0.mk hi406_1
       have HC406_1 := Aside0.mk hl406_1
       clear hi406_1 hl406_1
       have HR406_2 := Aside0.mk hi406_2
       have HC406_2 := Aside0.mk hl406_2
       clear hi406_2 hl406_2
       replace p406 := eq_true p406
       replace q406 := eq_true q406
       have p408 : 0 ≤ (x7_1 : Int) := of_decide_eq_true (by first | (with_reducible assumption) | assumption)
       have q408 : x7_1 < (t399.length : Int) := of_decide_eq_true (by first | (with_reducible assumption) | assumption)
       obtain ⟨ad408, A408_1, c408_1, A408_2, c408_2, e408, hx408_0, hx408_1, hx408_2, hl408_1, hi408_1, hl408_2, hi408_2⟩ := at_T92 (Kd.N_reads' HO_4.out).2.2 x7_1 p408 q408
       obtain rfl : ad406 = ad408 := (by injection e408)
       obtain ⟨ce408, hce408, hMe408, hcc408⟩ := Kd.N_get HO_4.out z92 x7_1 p408 (by first | exact q408 | exact of_decide_eq_true (by first | (with_reducible assumption) | assumption) | (have e_ := (Kd.N_reads' HO_4.out).1; omega))
       obtain ⟨ua408_1, uc408_1, ua408_2, uc408_2, rfl, ul408_1, ge408_1, ul408_2, ge408_2⟩ := k92_openF hMe408
       have hv408_1 := hcc408 1 _ rfl
       rw [add_field _ _ 1 (by omega)] at hv408_1
       replace hv408_1 := Option.some.inj (hv408_1.symm.trans hx408_1)
       injection hv408_1 with hva_ hvn_ hvc_
       rw [hva_] at ge408_1
       rw [hvc_] at ul408_1
       have HL408_1 := Aside0.mk (show Kd.V (Kd.int .i64) 3 _ w.heap.size _ _ ((rd_T92 t399 x7_1).f1) from Kd.V_mk ul408_1 ge408_1)
       clear hva_ hvn_ hvc_ ge408_1 ul408_1
       have hv408_2 := hcc408 2 _ rfl
       rw [add_field _ _ 2 (by omega)] at hv408_2
       replace hv408_2 := Option.some.inj (hv408_2.symm.trans hx408_2)
       injection hv408_2 with hva_ hvn_ hvc_
       rw [hva_] at ge408_2
       rw [hvc_] at ul408_2
       have HL408_2 := Aside0.mk (show Kd.V (Kd.int .i64) 3 _ w.heap.size _ _ ((rd_T92 t399 x7_1).f2) from Kd.V_mk ul408_2 ge408_2)
       clear hva_ hvn_ hvc_ ge408_2 ul408_2
       clear hcc408 hce408
       have HR408_1 := Aside0.mk hi408_1
       have HC408_1 := Aside0.mk hl408_1
       clear hi408_1 hl408_1
       have HR408_2 := Aside0.mk hi408_2
       have HC408_2 := Aside0.mk hl408_2
       clear hi408_2 hl408_2
       replace p408 := eq_true p408
       replace q408 := eq_true q408
       have ea_ := Option.some.inj (hx406_1.symm.trans hx408_1)
       injection ea_ with ea_ en_ ec_
       subst ea_
       subst ec_
       clear en_
       have ea_ := Option.some.inj (hx406_2.symm.trans hx408_2)
       injection ea_ with ea_ en_ ec_
       subst ea_
       subst ec_
       clear en_
       refine start_ (n := 24) (S := fun w' => w'.cell? ⟨gb397, 0, none⟩ = some (.slice A0_0 l0_0.length c0_0) ∧ w'.cell? ⟨gb397, 1, none⟩ = some (.int .i64 a0_1) ∧ w'.cell? ⟨gb397, 2, none⟩ = some (.int .i64 a0_2) ∧ w'.cell? ⟨gb397, 3, none⟩ = some (.int .i64 a0_3) ∧ w'.cell? ⟨gb397, 4, none⟩ = some (.int .i64 a0_4) ∧ w'.cell? ⟨gb397, 5, none⟩ = some (.slice A0_5 l0_5.length c0_5) ∧ w'.cell? ⟨gb397, 6, none⟩ = some (.int .i64 a0_6) ∧ w'.cell? (ad406.add ((x7_1).toNat * 3)) = some (.int .i64 ((rd_T92 t399 x7_1).f0)) ∧ w'.cell? ⟨(ad406.add ((x7_1).toNat * 3)).block, (ad406.add ((x7_1).toNat * 3)).off + 1, none⟩ = some (.slice A406_1 ((rd_T92 t399 x7_1).f1).length c406_1) ∧ w'.cell? ⟨(ad406.add ((x7_1).toNat * 3)).block, (ad406.add ((x7_1).toNat * 3)).off + 2, none⟩ = some (.slice A406_2 ((rd_T92 t399 x7_1).f2).length c406_2) ∧ w'.cell? (ad406.add ((x7_1).toNat * 3)) = some (.int .i64 ((rd_T92 t399 x7_1).f0)) ∧ w'.cell? ⟨(ad406.add ((x7_1).toNat * 3)).block, (ad406.add ((x7_1).toNat * 3)).off + 1, none⟩ = some (.slice A406_1 ((rd_T92 t399 x7_1).f1).length c406_1) ∧ w'.cell? ⟨(ad406.add ((x7_1).toNat * 3)).block, (ad406.add ((x7_1).toNat * 3)).off + 2, none⟩ = some (.slice A406_2 ((rd_T92 t399 x7_1).f2).length c406_2)) (ds := [21, 22]) (bl 24 0) (by kernel_rfl) rfl (by kernel_rfl) ⟨(blk_cell BK397.out 0).trans rfl, (blk_cell BK397.out 1).trans rfl, (blk_cell BK397.out 2).trans rfl, (blk_cell BK397.out 3).trans rfl, (blk_cell BK397.out 4).trans rfl, (blk_cell BK397.out 5).trans rfl, (blk_cell BK397.out 6).trans rfl, hx406_0, hx406_1, hx406_2, hx408_0, hx408_1, hx408_2⟩ (fun hHeld => ?_); refine with_tabW macadamref06_Owes.tab8 macadamref06_Owes.bits8 (fun HT_ HW_ => ?_)
       generalize wr.drew = w18 at HO_4 HO_6 BK397 BK398 HB HL406_1 HL406_2 HL408_1 HL408_2 HR406_1 HR406_2 HR408_1 HR408_2 hx406_0 hx406_1 hx406_2 hx408_0 hx408_1 hx408_2 hHeld ⊢
       refine pu_ 0 (some 24) (bl 24 1) rfl rfl (by kernel_rfl) (fun _ _ _ h => h) (by rfl) (by intro w'; go_simp; with_reducible rfl) (by simp only [nrm_]; rfl) ?_
       refine pu_ 1 (some 25) (bl 24 3) rfl rfl (by kernel_rfl) (fun _ _ _ h => h) (by rfl) (by intro w'; go_simp; with_reducible rfl) (by simp only [nrm_]; rfl) ?_
       refine pu_ 4 (some 28) (bl 24 19) rfl rfl (by kernel_rfl) (fun _ _ _ h => h) (by rfl) (by intro w'; go_simp; with_reducible rfl) (by simp only [nrm_]; rfl) ?_
       refine pu_ 5 (some 29) (bl 24 51) rfl rfl (by kernel_rfl) (fun _ _ _ h => h) (by rfl) (by intro w'; go_simp; with_reducible rfl) (by simp only [nrm_]; rfl) ?_
       refine pu_ 6 (some 30) (bl 24 115) rfl rfl (by kernel_rfl) (fun _ _ _ h => h) (by rfl) (by intro w'; go_simp; with_reducible rfl) (by simp only [nrm_]; rfl) ?_
       refine pu_ 8 (some 32) (bl 24 371) rfl rfl (by kernel_rfl) (fun _ _ _ h => h) (by rfl) (by intro w'; go_simp; with_reducible rfl) (by simp only [nrm_]; rfl) ?_
       refine pu_ 13 (some 37) (bl 24 8563) rfl rfl (by kernel_rfl) (fun _ _ _ h => h) (by rfl) (by intro w'; go_simp; with_reducible rfl) (by simp only [nrm_]; rfl) ?_
       refine pu_ 14 (some 38) (bl 24 24947) rfl rfl (by kernel_rfl) (fun _ _ _ h => h) (by rfl) (by intro w'; go_simp; with_reducible rfl) (by simp only [nrm_]; rfl) ?_
       refine pu_ 15 (some 39) (bl 24 57715) rfl rfl (by kernel_rfl) (fun _ _ _ h => h) (by rfl) (by intro w'; go_simp; with_reducible rfl) (by simp only [nrm_]; rfl) ?_
       refine pu_ 16 (some 40) (bl 24 123251) rfl rfl (by kernel_rfl) (fun _ _ _ h => h) (by rfl) (by intro w'; go_simp; with_reducible rfl) (by simp only [nrm_]; rfl) ?_
       refine tk_ 2 (some 26) (bl 24 123255) rfl rfl (by kernel_rfl) (fun _ _ _ h => h) hHeld (by rfl) (by rintro w' ⟨s0, s1, s2, s3, s4, s5, s6, s7, s8, s9, s10, s11, s12⟩; go_simp; with_reducible rfl) (by simp only [nrm_]; rfl) ?_
       refine tk_ 3 (some 27) (bl 24 123263) rfl rfl (by kernel_rfl) (fun _ _ _ h => h) hHeld (by rfl) (by rintro w' ⟨s0, s1, s2, s3, s4, s5, s6, s7, s8, s9, s10, s11, s12⟩; go_simp; with_reducible rfl) (by simp only [nrm_]; rfl) ?_
       refine tk_ 7 (some 31) (bl 24 123391) rfl rfl (by kernel_rfl) (fun _ _ _ h => h) hHeld (by rfl) (by rintro w' ⟨s0, s1, s2, s3, s4, s5, s6, s7, s8, s9, s10, s11, s12⟩; go_simp; with_reducible rfl) (by simp only [nrm_]; rfl) ?_
       refine tk_ 9 (some 33) (bl 24 123903) rfl rfl (by kernel_rfl) (fun _ _ _ h => h) hHeld (by rfl) (by rintro w' ⟨s0, s1, s2, s3, s4, s5, s6, s7, s8, s9, s10, s11, s12⟩; go_simp; with_reducible rfl) (by simp only [nrm_]; rfl) ?_
       refine pu_ 10 (some 34) (bl 24 124927) rfl rfl (by kernel_rfl) (fun _ _ _ h => h) (by rfl) (by intro w'; go_simp; with_reducible rfl) (by simp only [nrm_]; rfl) ?_
       refine pu_ 11 (some 35) (bl 24 126975) rfl rfl (by kernel_rfl) (fun _ _ _ h => h) (by rfl) (by intro w'; go_simp; with_reducible rfl) (by simp only [nrm_]; rfl) ?_
       refine tk_ 17 (some 41) (bl 24 258047) rfl rfl (by kernel_rfl) (fun _ _ _ h => h) hHeld (by rfl) (by rintro w' ⟨s0, s1, s2, s3, s4, s5, s6, s7, s8, s9, s10, s11, s12⟩; go_simp; with_reducible rfl) (by simp only [nrm_]; rfl) ?_
       refine one_ (i := 12) (N := some 36) (bl 24 262143) rfl rfl (one_of HT_.out (by kernel_rfl)) (by decide) (fun K hK => ?_)
       refine goes_ Tryd.func78 (by kernel_rfl) rfl #[.agg #[.slice A0_0 l0_0.length c0_0, .int .i64 a0_1, .int .i64 a0_2, .int .i64 a0_3, .int .i64 a0_4, .slice A0_5 l0_5.length c0_5, .int .i64 a0_6], .agg #[.int .i64 ((rd_T92 t399 x7_1).f0), .slice A406_1 ((rd_T92 t399 x7_1).f1).length c406_1, .slice A406_2 ((rd_T92 t399 x7_1).f2).length c406_2], .int .i64 (wrap64 ((l0_0.length : Int) - 1))] (by rfl) rfl rfl (by (try simp only [List.map_toArray, List.map_cons, List.map_nil]); first | done | rfl | (simp only [List.length_drop, List.length_take]; rfl)) ?_
       with_reducible refine (macadamref06_late.calls _ _ l0_0 a0_1 a0_2 a0_3 a0_4 _ _ l0_5 a0_6 ((rd_T92 t399 x7_1).f0) _ _ ((rd_T92 t399 x7_1).f1) _ _ ((rd_T92 t399 x7_1).f2) (wrap64 ((l0_0.length : Int) - 1)) t407 _ ?side1 ?side2 ?side3 ?side4 ?side5 ?side6 ?side7 ?side8 A13.out).mono ?_
       (case side1 => repeat (first | exact (Kd.C_below HR0_0.out HB.out) | (with_reducible refine Kd.C_alloc ?_ _) | (with_reducible refine Kd.C_drewN ?_ _) | (with_reducible refine Kd.C_drew ?_)))
       (case side2 => exact HC0_0.out)
       (case side3 => repeat (first | exact (Kd.C_below HR0_5.out HB.out) | (with_reducible refine Kd.C_alloc ?_ _) | (with_reducible refine Kd.C_drewN ?_ _) | (with_reducible refine Kd.C_drew ?_)))
       (case side4 => exact HC0_5.out)
       (case side5 => repeat (first | exact (by repeat (first | (with_reducible exact HR406_1.out) | (with_reducible refine Kd.C_alloc ?_ _) | (with_reducible refine Kd.C_drewN ?_ _) | (with_reducible refine Kd.C_drew ?_) | exact HR406_1.out)) | (with_reducible refine Kd.C_alloc ?_ _) | (with_reducible refine Kd.C_drewN ?_ _) | (with_reducible refine Kd.C_drew ?_)))
       (case side6 => exact HC406_1.out)
       (case side7 => repeat (first | exact (by repeat (first | (with_reducible exact HR406_2.out) | (with_reducible refine Kd.C_alloc ?_ _) | (with_reducible refine Kd.C_drewN ?_ _) | (with_reducible refine Kd.C_drew ?_) | exact HR406_2.out)) | (with_reducible refine Kd.C_alloc ?_ _) | (with_reducible refine Kd.C_drewN ?_ _) | (with_reducible refine Kd.C_drew ?_)))
       (case side8 => exact HC406_2.out)
       rintro e w19 ⟨rfl, hb⟩
       have HS7_ := (hb.cell (World.block_lt_of_cell? _ _ (hHeld.2.2.2.2.2.2.2.1))).trans (hHeld.2.2.2.2.2.2.2.1)
       have HS8_ := (hb.cell (World.block_lt_of_cell? _ _ (hHeld.2.2.2.2.2.2.2.2.1))).trans (hHeld.2.2.2.2.2.2.2.2.1)
       have HS9_ := (hb.cell (World.block_lt_of_cell? _ _ (hHeld.2.2.2.2.2.2.2.2.2.1))).trans (hHeld.2.2.2.2.2.2.2.2.2.1)
       have HS10_ := (hb.cell (World.block_lt_of_cell? _ _ (hHeld.2.2.2.2.2.2.2.2.2.2.1))).trans (hHeld.2.2.2.2.2.2.2.2.2.2.1)
       have HS11_ := (hb.cell (World.block_lt_of_cell? _ _ (hHeld.2.2.2.2.2.2.2.2.2.2.2.1))).trans (hHeld.2.2.2.2.2.2.2.2.2.2.2.1)
       have HS12_ := (hb.cell (World.block_lt_of_cell? _ _ (hHeld.2.2.2.2.2.2.2.2.2.2.2.2))).trans (hHeld.2.2.2.2.2.2.2.2.2.2.2.2)
       refine ⟨_, rfl, ?_⟩
       have n0_ := Aside0.mk (Kd.N_below (by (with_reducible repeat (first | apply Kd.N_alloc | apply Kd.N_drewN | apply Kd.N_drew)); exact HO_4.out) hb)
       have n1_ := Aside0.mk (Kd.R_below (by (with_reducible repeat (first | apply Kd.R_alloc | apply Kd.R_drewN | apply Kd.R_drew)); exact HO_6.out) hb)
       have n2_ := Aside0.mk (Kd.V_below (by (with_reducible repeat (first | apply Kd.V_alloc | apply Kd.V_drewN | apply Kd.V_drew)); exact HL406_1.out) hb)
       have n3_ := Aside0.mk (Kd.V_below (by (with_reducible repeat (first | apply Kd.V_alloc | apply Kd.V_drewN | apply Kd.V_drew)); exact HL406_2.out) hb)
       have n4_ := Aside0.mk (Kd.V_below (by (with_reducible repeat (first | apply Kd.V_alloc | apply Kd.V_drewN | apply Kd.V_drew)); exact HL408_1.out) hb)
       have n5_ := Aside0.mk (Kd.V_below (by (with_reducible repeat (first | apply Kd.V_alloc | apply Kd.V_drewN | apply Kd.V_drew)); exact HL408_2.out) hb)
       have n6_ := Aside0.mk (blk_below (g := gb397) (o := .cells #[.slice A0_0 l0_0.length c0_0, .int .i64 a0_1, .int .i64 a0_2, .int .i64 a0_3, .int .i64 a0_4, .slice A0_5 l0_5.length c0_5, .int .i64 a0_6] 26 (0, 0)) (by (with_reducible repeat (first | refine blk_drewN ?_ _ | refine blk_drew ?_ | refine blk_alloc ?_ _)); exact BK397.out) hb)
       have n7_ := Aside0.mk (blk_below (g := gb398) (o := .cells #[.int .i64 0, .int .i64 0] 32 (0, 0)) (by (with_reducible repeat (first | refine blk_drewN ?_ _ | refine blk_drew ?_ | refine blk_alloc ?_ _)); exact BK398.out) hb)
       have n8_ := Aside0.mk (Kd.C_below (by repeat (first | (with_reducible exact HR406_1.out) | (with_reducible refine Kd.C_alloc ?_ _) | (with_reducible refine Kd.C_drewN ?_ _) | (with_reducible refine Kd.C_drew ?_) | exact HR406_1.out)) hb)
       have n9_ := Aside0.mk (Kd.C_below (by repeat (first | (with_reducible exact HR406_2.out) | (with_reducible refine Kd.C_alloc ?_ _) | (with_reducible refine Kd.C_drewN ?_ _) | (with_reducible refine Kd.C_drew ?_) | exact HR406_2.out)) hb)
       have n10_ := Aside0.mk (Kd.C_below (by repeat (first | (with_reducible exact HR408_1.out) | (with_reducible refine Kd.C_alloc ?_ _) | (with_reducible refine Kd.C_drewN ?_ _) | (with_reducible refine Kd.C_drew ?_) | exact HR408_1.out)) hb)
       have n11_ := Aside0.mk (Kd.C_below (by repeat (first | (with_reducible exact HR408_2.out) | (with_reducible refine Kd.C_alloc ?_ _) | (with_reducible refine Kd.C_drewN ?_ _) | (with_reducible refine Kd.C_drew ?_) | exact HR408_2.out)) hb)
       have n12_ := Aside0.mk (below_step (by repeat (first | (with_reducible first | exact HB.out | apply below_alloc | apply pw_below_drewN | apply below_drew1 | refine below_set ?_ GE397.out | refine below_set ?_ GE398.out) | exact HB.out)) hb)
       clear HO_4
       clear HO_6
       clear HL406_1
       clear HL406_2
       clear HL408_1
       clear HL408_2
       clear BK397
       clear BK398
       clear HR406_1
       clear HR406_2
       clear HR408_1
       clear HR408_2
       clear HB
       have HO_4 := n0_
       have HO_6 := n1_
       have HL406_1 := n2_
       have HL406_2 := n3_
       have HL408_1 := n4_
       have HL408_2 := n5_
       have BK397 := n6_
       have BK398 := n7_
       have HR406_1 := n8_
       have HR406_2 := n9_
       have HR408_1 := n10_
       have HR408_2 := n11_
       have HB := n12_
       clear n0_ n1_ n2_ n3_ n4_ n5_ n6_ n7_ n8_ n9_ n10_ n11_ n12_
       (try clear hb)
       (try clear hb2)
       (try clear hk)
       (try clear hi)
       refine hK.out _ _ ⟨(blk_cell BK397.out 0).trans rfl, (blk_cell BK397.out 1).trans rfl, (blk_cell BK397.out 2).trans rfl, (blk_cell BK397.out 3).trans rfl, (blk_cell BK397.out 4).trans rfl, (blk_cell BK397.out 5).trans rfl, (blk_cell BK397.out 6).trans rfl, HS7_, HS8_, HS9_, HS10_, HS11_, HS12_⟩ (fun hHeld => ?_)
       clear hK K
       refine norm_ (a' := ?_) ?_ ?_
       rotate_left
       ·show Act.put _ (some 36) _ = _
        simp only [nrm_]
        rfl
       refine one_ (i := 18) (N := some 42) (bl 24 524287) rfl rfl (one_of HT_.out (by kernel_rfl)) (by decide) (fun K hK => ?_)
       refine goes_ Tryd.func47 (by kernel_rfl) rfl #[.slice A406_1 ((rd_T92 t399 x7_1).f1).length c406_1] (by rfl) rfl rfl (by (try simp only [List.map_toArray, List.map_cons, List.map_nil]); first | done | rfl | (simp only [List.length_drop, List.length_take]; rfl)) ?_
       with_reducible refine (macadamref00_Total.calls k1 _ _ ((rd_T92 t399 x7_1).f1) t409 _ ?side1 ?side2 A14.out).mono ?_
       (case side1 => repeat (first | exact (by repeat (first | (with_reducible exact HR408_1.out) | (with_reducible refine Kd.C_alloc ?_ _) | (with_reducible refine Kd.C_drewN ?_ _) | (with_reducible refine Kd.C_drew ?_) | exact HR408_1.out)) | (with_reducible refine Kd.C_alloc ?_ _) | (with_reducible refine Kd.C_drewN ?_ _) | (with_reducible refine Kd.C_drew ?_)))
       (case side2 => exact HC408_1.out)
       rintro e w' ⟨rfl, ⟨nd, rfl⟩⟩
       refine ⟨_, rfl, ?_⟩
       refine hK.out _ _ ⟨(blk_cell BK397.out 0).trans rfl, (blk_cell BK397.out 1).trans rfl, (blk_cell BK397.out 2).trans rfl, (blk_cell BK397.out 3).trans rfl, (blk_cell BK397.out 4).trans rfl, (blk_cell BK397.out 5).trans rfl, (blk_cell BK397.out 6).trans rfl, hHeld.2.2.2.2.2.2.2.1, hHeld.2.2.2.2.2.2.2.2.1, hHeld.2.2.2.2.2.2.2.2.2.1, hHeld.2.2.2.2.2.2.2.2.2.2.1, hHeld.2.2.2.2.2.2.2.2.2.2.2.1, hHeld.2.2.2.2.2.2.2.2.2.2.2.2⟩ (fun hHeld => ?_)
       clear hK K
       refine norm_ (a' := ?_) ?_ ?_
       rotate_left
       ·show Act.put _ (some 42) _ = _
        simp only [nrm_]
        rfl
       refine pu_ 19 (some 43) (bl 24 1048575) rfl rfl (by kernel_rfl) (fun _ _ _ h => h) (by rfl) (by intro w'; go_simp; with_reducible rfl) (by simp only [nrm_]; rfl) ?_
       refine pu_ 20 (some 44) (bl 24 2097151) rfl rfl (by kernel_rfl) (fun _ _ _ h => h) (by rfl) (by intro w'; go_simp; with_reducible rfl) (by simp only [nrm_]; rfl) ?_
       refine last_ (i := 21) (N := some 45) (bl 24 4194303) rfl rfl (one_of HT_.out (by kernel_rfl)) (by decide) (fun K hK => ?_)
       refine value_ (w1 := ?_) (v := ?_) (by rfl) rfl ?_ ?_
       rotate_left 2
       ·go_simp
        constructor
        ·rfl
        ·rfl
       refine hK.out _ _ ?_
       clear hK K
       refine norm_ (a' := ?_) ?_ ?_
       rotate_left
       ·show Act.put _ (some 45) _ = _
        simp only [nrm_]
        rfl
       refine last_ (i := 22) (N := some 46) (bl 24 8388607) rfl rfl (one_of HT_.out (by kernel_rfl)) (by decide) (fun K hK => ?_)
       refine Kd.R_append_step (Kd.int .i64) (w0 := w) w.heap.size (by rfl) (.tmp 24) (.tmp 45) 44 3 (.int .i64 0) 8 rfl Tryd.underlying44 info3 rfl (by decide) (by omega) u6 x6_1 (wrap64 (a0_6 * (ji15))) [.int .i64 (wrap64 (a0_6 * (ji15)))] (fun _ => True) (fun _ => False) rfl rfl ?aP (fun _ hk => hk.elim) ?aF ?aO ?aB ?aS ?aL ?_
       (case aP => exact rfl)
       (case aB => exact (by repeat (first | (with_reducible first | exact HB.out | apply below_alloc | apply pw_below_drewN | apply below_drew1 | refine below_set ?_ GE397.out | refine below_set ?_ GE398.out) | exact HB.out)))
       (case aF => exact (fun _ _ => trivial))
       (case aO => exact (by (with_reducible repeat (first | apply Kd.R_alloc | apply Kd.R_drewN | apply Kd.R_drew)); exact HO_6.out))
       (case aS => exact (below_size (by repeat (first | (with_reducible first | exact HB.out | apply below_alloc | apply pw_below_drewN | apply below_drew1 | refine below_set ?_ GE397.out | refine below_set ?_ GE398.out) | exact HB.out))))
       (case aL => have := LMc16.out; omega)
       intro v411 w20 ho hb hg hat
       rw [← Ny410.out] at ho
       have n0_ := Aside0.mk (Kd.N_afterv (ok := (fun k_ => k_ ≠ gb397 ∧ k_ ≠ gb398)) (by (with_reducible repeat (first | apply Kd.N_alloc | apply Kd.N_drewN | apply Kd.N_drew)); exact Kd.N_mono HO_4.out (fun _ hk => ⟨⟨hk.2.1, hk.2.2⟩, hk.1⟩)) hg hat)
       have n1_ := Aside0.mk (blk_grown (g := gb397) (o := .cells #[.slice A0_0 l0_0.length c0_0, .int .i64 a0_1, .int .i64 a0_2, .int .i64 a0_3, .int .i64 a0_4, .slice A0_5 l0_5.length c0_5, .int .i64 a0_6] 26 (0, 0)) (by (with_reducible repeat (first | refine blk_drewN ?_ _ | refine blk_drew ?_ | refine blk_alloc ?_ _)); exact BK397.out) hg (Kd.R_ne HO_6.out BK397.out (by decide)))
       have n2_ := Aside0.mk (blk_grown (g := gb398) (o := .cells #[.int .i64 0, .int .i64 0] 32 (0, 0)) (by (with_reducible repeat (first | refine blk_drewN ?_ _ | refine blk_drew ?_ | refine blk_alloc ?_ _)); exact BK398.out) hg (Kd.R_ne HO_6.out BK398.out (by decide)))
       have n3_ := Aside0.mk (Kd.V_afterv (ok := (fun k_ => some k_ ≠ (.slice (some ad406) t399.length co17 : Value).ownBlock ∧ k_ ≠ gb397 ∧ k_ ≠ gb398)) (by (with_reducible repeat (first | apply Kd.V_alloc | apply Kd.V_drewN | apply Kd.V_drew)); exact Kd.V_mono HL406_1.out (fun _ hk => ⟨⟨hk.2, ⟨hk.1.2.1, hk.1.2.2⟩⟩, hk.1.1⟩)) hg hat)
       have n4_ := Aside0.mk (Kd.V_afterv (ok := (fun k_ => some k_ ≠ (.slice (some ad406) t399.length co17 : Value).ownBlock ∧ k_ ≠ gb397 ∧ k_ ≠ gb398)) (by (with_reducible repeat (first | apply Kd.V_alloc | apply Kd.V_drewN | apply Kd.V_drew)); exact Kd.V_mono HL406_2.out (fun _ hk => ⟨⟨hk.2, ⟨hk.1.2.1, hk.1.2.2⟩⟩, hk.1.1⟩)) hg hat)
       have n5_ := Aside0.mk (Kd.V_afterv (ok := (fun k_ => some k_ ≠ (.slice (some ad406) t399.length co17 : Value).ownBlock ∧ k_ ≠ gb397 ∧ k_ ≠ gb398)) (by (with_reducible repeat (first | apply Kd.V_alloc | apply Kd.V_drewN | apply Kd.V_drew)); exact Kd.V_mono HL408_1.out (fun _ hk => ⟨⟨hk.2, ⟨hk.1.2.1, hk.1.2.2⟩⟩, hk.1.1⟩)) hg hat)
       have n6_ := Aside0.mk (Kd.V_afterv (ok := (fun k_ => some k_ ≠ (.slice (some ad406) t399.length co17 : Value).ownBlock ∧ k_ ≠ gb397 ∧ k_ ≠ gb398)) (by (with_reducible repeat (first | apply Kd.V_alloc | apply Kd.V_drewN | apply Kd.V_drew)); exact Kd.V_mono HL408_2.out (fun _ hk => ⟨⟨hk.2, ⟨hk.1.2.1, hk.1.2.2⟩⟩, hk.1.1⟩)) hg hat)
       have n7_ := Aside0.mk (hb)
       have n8_ := Aside0.mk (ho)
       clear HO_4
       clear BK397
       clear BK398
       clear HL406_1
       clear HL406_2
       clear HL408_1
       clear HL408_2
       clear HB
       clear HO_6
       have HO_4 := n0_
       have BK397 := n1_
       have BK398 := n2_
       have HL406_1 := n3_
       have HL406_2 := n4_
       have HL408_1 := n5_
       have HL408_2 := n6_
       have HB := n7_
       have HO412 := n8_
       clear n0_ n1_ n2_ n3_ n4_ n5_ n6_ n7_ n8_
       clear ho hb hg hat
       refine hK.out _ _ ?_
       clear hK K
       refine norm_ (a' := ?_) ?_ ?_
       rotate_left
       ·show Act.put _ (some 46) _ = _
        simp only [nrm_]
        rfl
       refine pu_ 23 (some 6) (bl 24 16777215) rfl rfl (by kernel_rfl) (fun _ _ _ h => h) (by rfl) (by intro w'; go_simp; with_reducible rfl) (by simp only [nrm_]; rfl) ?_
       refine done_ (done_of HT_.out (by kernel_rfl)) ?_
       try go_wp2
       go_roundg k1
       case measure => have := HK1.out; omega
       case rel => exact ⟨(y410), (wrap64 (x7_1 + 1)), (by first | rfl | (simp; done) | (simp [*]; done)), H', ⟨by have := HK1.out; omega⟩, ⟨by (with_reducible repeat (first | apply Kd.N_alloc | apply Kd.N_drewN | apply Kd.N_drew)); exact Kd.N_mono HO_4.out (fun _ hk => ⟨hk.2, ⟨hk.1.1, hk.1.2⟩⟩)⟩, ⟨by (with_reducible repeat (first | apply Kd.R_alloc | apply Kd.R_drewN | apply Kd.R_drew)); exact HO412.out⟩, ⟨by (with_reducible repeat (first | refine blk_drewN ?_ _ | refine blk_drew ?_ | refine blk_alloc ?_ _)); exact BK397.out⟩, ⟨by (with_reducible repeat (first | refine blk_drewN ?_ _ | refine blk_drew ?_ | refine blk_alloc ?_ _)); exact BK398.out⟩, ⟨by repeat (first | (with_reducible first | exact HB.out | apply below_alloc | apply pw_below_drewN | apply below_drew1 | refine below_set ?_ GE397.out | refine below_set ?_ GE398.out) | exact HB.out)⟩⟩
      ·rw [if_neg c16] at H
       exact absurd H (by simp)
     ·rw [if_neg c12] at H
      exact absurd H (by simp)
    ·rw [if_neg c11] at H
     have c11b0 : decide (x7_1 < (t399.length : Int)) = false := decide_eq_false c11
     clear c11
     replace H := Option.bind_eq_some_iff.mp H
     obtain ⟨⟨t413, t414⟩, A210, H⟩ := H
     replace H : (some (t413, t414, 0)) = some (r1, r2, r3) := H
     have A21 := Aside0.mk A210
     clear A210
     simp only [Option.some.injEq, Prod.mk.injEq] at H
     obtain ⟨rfl, rfl, rfl⟩ := H
     obtain ⟨Ao22, co22, eo22⟩ := Kd.N_slice HO_4.out
     subst eo22
     obtain ⟨Ao23, co23, eo23⟩ := Kd.R_slice HO_6.out
     subst eo23
     go_wp2_with (first | ((with_reducible refine gate_callee (f := 75) rfl ?_); refine goesL_ (some 48) rfl rfl Tryd.func75 (by kernel_rfl) rfl #[.slice Ao23 x6_1.length co23] rfl (by (try simp only [List.map_toArray, List.map_cons, List.map_nil]); first | done | rfl | (simp only [List.length_drop, List.length_take]; rfl)) ?_; (with_reducible refine (macadamref06_ends.calls k1 _ _ x6_1 t413 t414 _ ?side1 ?side2 A21.out).mono ?_); (case side1 => repeat (first | exact (Kd.R_reads' HO_6.out).2.2 | (with_reducible refine Kd.C_alloc ?_ _) | (with_reducible refine Kd.C_drewN ?_ _) | (with_reducible refine Kd.C_drew ?_))); (case side2 => exact (Kd.R_reads' HO_6.out).2.1); rintro e w24 ⟨rfl, hb⟩; refine ⟨_, rfl, ?_⟩; have n0_ := Aside0.mk (Kd.N_below (by (with_reducible repeat (first | apply Kd.N_alloc | apply Kd.N_drewN | apply Kd.N_drew)); exact HO_4.out) hb); have n1_ := Aside0.mk (Kd.R_below (by (with_reducible repeat (first | apply Kd.R_alloc | apply Kd.R_drewN | apply Kd.R_drew)); exact HO_6.out) hb); have n2_ := Aside0.mk (blk_below (g := gb397) (o := .cells #[.slice A0_0 l0_0.length c0_0, .int .i64 a0_1, .int .i64 a0_2, .int .i64 a0_3, .int .i64 a0_4, .slice A0_5 l0_5.length c0_5, .int .i64 a0_6] 26 (0, 0)) (by (with_reducible repeat (first | refine blk_drewN ?_ _ | refine blk_drew ?_ | refine blk_alloc ?_ _)); exact BK397.out) hb); have n3_ := Aside0.mk (blk_below (g := gb398) (o := .cells #[.int .i64 0, .int .i64 0] 32 (0, 0)) (by (with_reducible repeat (first | refine blk_drewN ?_ _ | refine blk_drew ?_ | refine blk_alloc ?_ _)); exact BK398.out) hb); have n4_ := Aside0.mk (below_step (by repeat (first | (with_reducible first | exact HB.out | apply below_alloc | apply pw_below_drewN | apply below_drew1 | refine below_set ?_ GE397.out | refine below_set ?_ GE398.out) | exact HB.out)) hb); clear HO_4; clear HO_6; clear BK397; clear BK398; clear HB; have HO_4 := n0_; have HO_6 := n1_; have BK397 := n2_; have BK398 := n3_; have HB := n4_; clear n0_ n1_ n2_ n3_ n4_; (try clear hb); (try clear hb2); (try clear hk); (try clear hi); have hnb25 := NB398_397.out; have hnc25 := NB397_398.out; have hcz26_0 : w24.cell? ⟨gb398, 0, none⟩ = some (.int .i64 0) := (blk_cell BK398.out 0).trans rfl; have hcz26_1 : w24.cell? ⟨gb398, 1, none⟩ = some (.int .i64 0) := (blk_cell BK398.out 1).trans rfl; have hfz26_0 := blk_frozen BK398.out 0; have hfz26_1 := blk_frozen BK398.out 1))
     refine bodyPost_ret (results_ct rfl _ _ gb398 32 #[.int .i64 t413, .int .i64 t414] (0, 0) _ rfl (by (with_reducible repeat (first | refine blk_drewN ?_ _ | refine blk_drew ?_ | refine blk_alloc ?_ _)); refine blk_put (cs := #[.int .i64 t413, .int .i64 0]) ?_ 1 _ rfl; (with_reducible repeat (first | refine blk_drewN ?_ _ | refine blk_drew ?_ | refine blk_alloc ?_ _)); refine blk_put (cs := #[.int .i64 0, .int .i64 0]) ?_ 0 _ rfl; (with_reducible repeat (first | refine blk_drewN ?_ _ | refine blk_drew ?_ | refine blk_alloc ?_ _)); exact BK398.out) Tryd.underlying32 rfl (by kernel_rfl)) rfl ?_
     exact ⟨by first | rfl | (simp [errW_none, errW_some] <;> rfl) | (simp only [i64_w, i32_w] <;> rfl) | (simp [*, errW_none, errW_some] <;> rfl), by repeat (first | (with_reducible first | exact HB.out | apply below_alloc | apply pw_below_drewN | apply below_drew1 | refine below_set ?_ GE397.out | refine below_set ?_ GE398.out) | exact HB.out)⟩
 ·rw [if_neg c3] at H
  have c3b0 : (t402 == 0) = false := beq_eq_false_iff_ne.mpr c3
  have c3b1 : (t402 != 0) = true := bne_iff_ne.mpr c3
  simp only [Option.some.injEq, Prod.mk.injEq] at H
  obtain ⟨rfl, rfl, rfl⟩ := H
  go_enter Tryd.func31, Tryd.ntmps31
  go_wp2_with (first | ((with_reducible refine gate_dst (N := 1) rfl ?_); refine box_event ?hg (N := 1) ?hd (cs := #[.slice A0_0 l0_0.length c0_0, .int .i64 a0_1, .int .i64 a0_2, .int .i64 a0_3, .int .i64 a0_4, .slice A0_5 l0_5.length c0_5, .int .i64 a0_6]) (t := 26) ?hr ?_; (case hd => rfl); (case hg => rfl); (case hr => first | (go_simp; done) | (go_simp; rfl)); intro gb397 hg w27 hbox hb; have n0_ := Aside0.mk (below_step (by repeat (first | (with_reducible first | exact HB.out | apply below_alloc | apply pw_below_drewN | apply below_drew1) | exact HB.out)) hb); have n1_ := Aside0.mk (hbox); have n2_ := Aside0.mk ((by rw [hg]; exact (below_size (by repeat (first | (with_reducible first | exact HB.out | apply below_alloc | apply pw_below_drewN | apply below_drew1) | exact HB.out))) : w.heap.size ≤ gb397)); have n3_ := Aside0.mk ((by rw [hg]; exact (below_size (by repeat (first | (with_reducible first | exact HB.out | apply below_alloc | apply pw_below_drewN | apply below_drew1) | exact HB.out))) : w.heap.size ≤ gb397)); clear HB; have HB := n0_; have BK397 := n1_; have GW397 := n2_; have GE397 := n3_; clear n0_ n1_ n2_ n3_; clear hb hbox hg) | ((with_reducible refine gate_dst (N := 2) rfl ?_); refine box_event ?hg (N := 2) ?hd (cs := #[.int .i64 0, .int .i64 0]) (t := 32) ?hr ?_; (case hd => rfl); (case hg => rfl); (case hr => first | (go_simp; done) | (go_simp; rfl)); intro gb398 hg w28 hbox hb; have n0_ := Aside0.mk (blk_below (g := gb397) (o := .cells #[.slice A0_0 l0_0.length c0_0, .int .i64 a0_1, .int .i64 a0_2, .int .i64 a0_3, .int .i64 a0_4, .slice A0_5 l0_5.length c0_5, .int .i64 a0_6] 26 (0, 0)) (by (with_reducible repeat (first | refine blk_drewN ?_ _ | refine blk_drew ?_ | refine blk_alloc ?_ _)); exact BK397.out) hb); have n1_ := Aside0.mk (below_step (by repeat (first | (with_reducible first | exact HB.out | apply below_alloc | apply pw_below_drewN | apply below_drew1 | refine below_set ?_ GE397.out) | exact HB.out)) hb); have n2_ := Aside0.mk (hbox); have n3_ := Aside0.mk ((by rw [hg]; exact (below_size (by repeat (first | (with_reducible first | exact HB.out | apply below_alloc | apply pw_below_drewN | apply below_drew1 | refine below_set ?_ GE397.out) | exact HB.out))) : w.heap.size ≤ gb398)); have n4_ := Aside0.mk ((by rw [hg]; exact (below_size (by repeat (first | (with_reducible first | exact HB.out | apply below_alloc | apply pw_below_drewN | apply below_drew1 | refine below_set ?_ GE397.out) | exact HB.out))) : w.heap.size ≤ gb398)); have n5_ := Aside0.mk ((by rw [hg]; exact Nat.ne_of_lt (blk_lt (g := gb397) (o := .cells #[.slice A0_0 l0_0.length c0_0, .int .i64 a0_1, .int .i64 a0_2, .int .i64 a0_3, .int .i64 a0_4, .slice A0_5 l0_5.length c0_5, .int .i64 a0_6] 26 (0, 0)) (by (with_reducible repeat (first | refine blk_drewN ?_ _ | refine blk_drew ?_ | refine blk_alloc ?_ _)); exact BK397.out)) : gb397 ≠ gb398)); have n6_ := Aside0.mk ((by rw [hg]; exact Nat.ne_of_gt (blk_lt (g := gb397) (o := .cells #[.slice A0_0 l0_0.length c0_0, .int .i64 a0_1, .int .i64 a0_2, .int .i64 a0_3, .int .i64 a0_4, .slice A0_5 l0_5.length c0_5, .int .i64 a0_6] 26 (0, 0)) (by (with_reducible repeat (first | refine blk_drewN ?_ _ | refine blk_drew ?_ | refine blk_alloc ?_ _)); exact BK397.out)) : gb398 ≠ gb397)); clear BK397; clear HB; have BK397 := n0_; have HB := n1_; have BK398 := n2_; have GW398 := n3_; have GE398 := n4_; have NB397_398 := n5_; have NB398_397 := n6_; clear n0_ n1_ n2_ n3_ n4_ n5_ n6_; clear hb hbox hg; have hnb29 := NB397_398.out; have hnc29 := NB398_397.out; have hcz30_0 : w28.cell? ⟨gb397, 0, none⟩ = some (.slice A0_0 l0_0.length c0_0) := (blk_cell BK397.out 0).trans rfl; have hcz30_1 : w28.cell? ⟨gb397, 1, none⟩ = some (.int .i64 a0_1) := (blk_cell BK397.out 1).trans rfl; have hcz30_2 : w28.cell? ⟨gb397, 2, none⟩ = some (.int .i64 a0_2) := (blk_cell BK397.out 2).trans rfl; have hcz30_3 : w28.cell? ⟨gb397, 3, none⟩ = some (.int .i64 a0_3) := (blk_cell BK397.out 3).trans rfl; have hcz30_4 : w28.cell? ⟨gb397, 4, none⟩ = some (.int .i64 a0_4) := (blk_cell BK397.out 4).trans rfl; have hcz30_5 : w28.cell? ⟨gb397, 5, none⟩ = some (.slice A0_5 l0_5.length c0_5) := (blk_cell BK397.out 5).trans rfl; have hcz30_6 : w28.cell? ⟨gb397, 6, none⟩ = some (.int .i64 a0_6) := (blk_cell BK397.out 6).trans rfl; have hfz30_0 := blk_frozen BK397.out 0; have hfz30_1 := blk_frozen BK397.out 1; have hfz30_2 := blk_frozen BK397.out 2; have hfz30_3 := blk_frozen BK397.out 3; have hfz30_4 := blk_frozen BK397.out 4; have hfz30_5 := blk_frozen BK397.out 5; have hfz30_6 := blk_frozen BK397.out 6) | ((with_reducible refine gate_callee (f := 73) rfl ?_); refine goesL_ (some 10) rfl rfl Tryd.func73 (by kernel_rfl) rfl #[.agg #[.slice A0_0 l0_0.length c0_0, .int .i64 a0_1, .int .i64 a0_2, .int .i64 a0_3, .int .i64 a0_4, .slice A0_5 l0_5.length c0_5, .int .i64 a0_6], .bool true] rfl (by (try simp only [List.map_toArray, List.map_cons, List.map_nil]); first | done | rfl | (simp only [List.length_drop, List.length_take]; rfl)) ?_; (with_reducible refine (macadamref06_asked.calls k _ _ l0_0 a0_1 a0_2 a0_3 a0_4 _ _ l0_5 a0_6 true t399 t402 _ ?side1 ?side2 ?side3 ?side4 A2.out).mono ?_); (case side1 => repeat (first | exact (Kd.C_below HR0_0.out HB.out) | (with_reducible refine Kd.C_alloc ?_ _) | (with_reducible refine Kd.C_drewN ?_ _) | (with_reducible refine Kd.C_drew ?_))); (case side2 => exact HC0_0.out); (case side3 => repeat (first | exact (Kd.C_below HR0_5.out HB.out) | (with_reducible refine Kd.C_alloc ?_ _) | (with_reducible refine Kd.C_drewN ?_ _) | (with_reducible refine Kd.C_drew ?_))); (case side4 => exact HC0_5.out); rintro e w31 ⟨v400, rfl, ho0, hb⟩; refine ⟨_, rfl, ?_⟩; have n0_ := Aside0.mk (Kd.N_lower (Kd.N_mono (ok' := fun k_ => k_ ≠ gb397 ∧ k_ ≠ gb398) ho0 (fun k_ hk_ => ⟨(Kd.freshB (g := gb397) (o := .cells #[.slice A0_0 l0_0.length c0_0, .int .i64 a0_1, .int .i64 a0_2, .int .i64 a0_3, .int .i64 a0_4, .slice A0_5 l0_5.length c0_5, .int .i64 a0_6] 26 (0, 0)) (by (with_reducible repeat (first | refine blk_drewN ?_ _ | refine blk_drew ?_ | refine blk_alloc ?_ _)); exact BK397.out) k_ hk_), (Kd.freshB (g := gb398) (o := .cells #[.int .i64 0, .int .i64 0] 32 (0, 0)) (by (with_reducible repeat (first | refine blk_drewN ?_ _ | refine blk_drew ?_ | refine blk_alloc ?_ _)); exact BK398.out) k_ hk_)⟩)) (below_size (by repeat (first | (with_reducible first | exact HB.out | apply below_alloc | apply pw_below_drewN | apply below_drew1 | refine below_set ?_ GE397.out | refine below_set ?_ GE398.out) | exact HB.out)))); have n1_ := Aside0.mk (blk_below (g := gb397) (o := .cells #[.slice A0_0 l0_0.length c0_0, .int .i64 a0_1, .int .i64 a0_2, .int .i64 a0_3, .int .i64 a0_4, .slice A0_5 l0_5.length c0_5, .int .i64 a0_6] 26 (0, 0)) (by (with_reducible repeat (first | refine blk_drewN ?_ _ | refine blk_drew ?_ | refine blk_alloc ?_ _)); exact BK397.out) hb); have n2_ := Aside0.mk (blk_below (g := gb398) (o := .cells #[.int .i64 0, .int .i64 0] 32 (0, 0)) (by (with_reducible repeat (first | refine blk_drewN ?_ _ | refine blk_drew ?_ | refine blk_alloc ?_ _)); exact BK398.out) hb); have n3_ := Aside0.mk (below_step (by repeat (first | (with_reducible first | exact HB.out | apply below_alloc | apply pw_below_drewN | apply below_drew1 | refine below_set ?_ GE397.out | refine below_set ?_ GE398.out) | exact HB.out)) hb); clear BK397; clear BK398; clear HB; have HO401 := n0_; have BK397 := n1_; have BK398 := n2_; have HB := n3_; clear n0_ n1_ n2_ n3_; (try clear hb); (try clear hb2); (try clear hk); (try clear hi); (try clear ho0); have hcz32_0 : w31.cell? ⟨gb398, 0, none⟩ = some (.int .i64 0) := (blk_cell BK398.out 0).trans rfl; have hcz32_1 : w31.cell? ⟨gb398, 1, none⟩ = some (.int .i64 0) := (blk_cell BK398.out 1).trans rfl; have hfz32_0 := blk_frozen BK398.out 0; have hfz32_1 := blk_frozen BK398.out 1))
  refine bodyPost_ret (results_ct rfl _ _ gb398 32 #[.int .i64 0, .int .i64 0] (0, 0) _ rfl (by (with_reducible repeat (first | refine blk_drewN ?_ _ | refine blk_drew ?_ | refine blk_alloc ?_ _)); refine blk_put (cs := #[.int .i64 0, .int .i64 0]) ?_ 1 _ rfl; (with_reducible repeat (first | refine blk_drewN ?_ _ | refine blk_drew ?_ | refine blk_alloc ?_ _)); refine blk_put (cs := #[.int .i64 0, .int .i64 0]) ?_ 0 _ rfl; (with_reducible repeat (first | refine blk_drewN ?_ _ | refine blk_drew ?_ | refine blk_alloc ?_ _)); exact BK398.out) Tryd.underlying32 rfl (by kernel_rfl)) rfl ?_
  exact ⟨by first | rfl | (simp [errW_none, errW_some] <;> rfl) | (simp only [i64_w, i32_w] <;> rfl) | (simp [*, errW_none, errW_some] <;> rfl), by repeat (first | (with_reducible first | exact HB.out | apply below_alloc | apply pw_below_drewN | apply below_drew1 | refine below_set ?_ GE397.out | refine below_set ?_ GE398.out) | exact HB.out)⟩
end Go.Proofs.YtbhjfojbjpbdbaaDoorPX
namespace Go.Proofs.YtbhjfojbjpbdbaaDoorPX
open Go.Proofs.YtbhjfojbjpbdbaaDoor (Glob ix3 blk_ix3 bl nrm_ pu_ po_ tk_)
open Go.RowKit Go.Proofs.YtbhjfojbjpbdbaaDoorW.PrintWords Go.Proofs.YtbhjfojbjpbdbaaDoorW.PrintLast Go.Proofs.YtbhjfojbjpbdbaaDoorW.PrintMore

set_option linter.unusedVariables false
set_option linter.unusedSimpArgs false
def macadamref06_Pays.f (k : Nat) (l0_0 : List (S56)) (a0_1 : Int) (a0_2 : Int) (a0_3 : Int) (a0_4 : Int) (l0_5 : List (S42)) (a0_6 : Int) : Option (Int × Int) := (macadamref06_Owes.f k l0_0 a0_1 a0_2 a0_3 a0_4 l0_5 a0_6).bind fun bt416 => (if bt416.2.2 = 0 then ((macadamref06_Blame.f k l0_0 a0_1 a0_2 a0_3 a0_4 l0_5 a0_6).bind fun bt420 => (if bt420.1 < 2 then (some (0, 0)) else (some (bt416.1, 0)))) else (some (0, bt416.2.2)))
set_option maxHeartbeats 8000000 in
set_option maxRecDepth 100000 in
theorem macadamref06_Pays.calls (k : Nat) (A0_0 : Option Addr) (c0_0 : Nat) (l0_0 : List (S56)) (a0_1 : Int) (a0_2 : Int) (a0_3 : Int) (a0_4 : Int) (A0_5 : Option Addr) (c0_5 : Nat) (l0_5 : List (S42)) (a0_6 : Int) (r1 : Int) (r2 : Int) (w : World) (hr0_0 : Kd.C k56 w A0_0 l0_0.length l0_0) (hc0_0 : l0_0.length ≤ c0_0) (hr0_5 : Kd.C k42 w A0_5 l0_5.length l0_5) (hc0_5 : l0_5.length ≤ c0_5) (h : macadamref06_Pays.f k l0_0 a0_1 a0_2 a0_3 a0_4 l0_5 a0_6 = some (r1, r2)) :
  Calls Tryd.prog 33 #[.agg #[.slice A0_0 l0_0.length c0_0, .int .i64 a0_1, .int .i64 a0_2, .int .i64 a0_3, .int .i64 a0_4, .slice A0_5 l0_5.length c0_5, .int .i64 a0_6]] w fun e w' => e = .returned (.tuple #[.int .i64 r1, .int .i64 r2]) ∧ Below w.heap.size w w' := by
 have hu26 := Tryd.underlying26
 have hu32 := Tryd.underlying32
 have HR0_0 := Aside0.mk hr0_0
 have HC0_0 := Aside0.mk hc0_0
 clear hr0_0 hc0_0
 have HR0_5 := Aside0.mk hr0_5
 have HC0_5 := Aside0.mk hc0_5
 clear hr0_5 hc0_5
 have HB := Aside0.mk (Below.refl w.heap.size w)
 have H : ((macadamref06_Owes.f k l0_0 a0_1 a0_2 a0_3 a0_4 l0_5 a0_6).bind fun bt416 => (if bt416.2.2 = 0 then ((macadamref06_Blame.f k l0_0 a0_1 a0_2 a0_3 a0_4 l0_5 a0_6).bind fun bt420 => (if bt420.1 < 2 then (some (0, 0)) else (some (bt416.1, 0)))) else (some (0, bt416.2.2)))) = some (r1, r2) := h
 clear h
 replace H := Option.bind_eq_some_iff.mp H
 obtain ⟨⟨t416, t417, t418⟩, A20, H⟩ := H
 replace H : (if t418 = 0 then ((macadamref06_Blame.f k l0_0 a0_1 a0_2 a0_3 a0_4 l0_5 a0_6).bind fun bt420 => (if bt420.1 < 2 then (some (0, 0)) else (some (t416, 0)))) else (some (0, t418))) = some (r1, r2) := H
 have A2 := Aside0.mk A20
 clear A20
 by_cases c3 : t418 = 0
 ·rw [if_pos c3] at H
  have c3b0 : (t418 == 0) = true := beq_iff_eq.mpr c3
  have c3b1 : (t418 != 0) = false := bne_eq_false_iff_eq.mpr c3
  clear c3
  replace H := Option.bind_eq_some_iff.mp H
  obtain ⟨⟨t420, t421⟩, A40, H⟩ := H
  replace H : (if t420 < 2 then (some (0, 0)) else (some (t416, 0))) = some (r1, r2) := H
  have A4 := Aside0.mk A40
  clear A40
  by_cases c5 : t420 < 2
  ·rw [if_pos c5] at H
   have c5b0 : decide (t420 < 2) = true := decide_eq_true c5
   clear c5
   simp only [Option.some.injEq, Prod.mk.injEq] at H
   obtain ⟨rfl, rfl⟩ := H
   go_enter Tryd.func33, Tryd.ntmps33
   go_wp2_with (first | ((with_reducible refine gate_dst (N := 1) rfl ?_); refine box_event ?hg (N := 1) ?hd (cs := #[.slice A0_0 l0_0.length c0_0, .int .i64 a0_1, .int .i64 a0_2, .int .i64 a0_3, .int .i64 a0_4, .slice A0_5 l0_5.length c0_5, .int .i64 a0_6]) (t := 26) ?hr ?_; (case hd => rfl); (case hg => rfl); (case hr => first | (go_simp; done) | (go_simp; rfl)); intro gb415 hg w6 hbox hb; have n0_ := Aside0.mk (below_step (by repeat (first | (with_reducible first | exact HB.out | apply below_alloc | apply pw_below_drewN | apply below_drew1) | exact HB.out)) hb); have n1_ := Aside0.mk (hbox); have n2_ := Aside0.mk ((by rw [hg]; exact (below_size (by repeat (first | (with_reducible first | exact HB.out | apply below_alloc | apply pw_below_drewN | apply below_drew1) | exact HB.out))) : w.heap.size ≤ gb415)); have n3_ := Aside0.mk ((by rw [hg]; exact (below_size (by repeat (first | (with_reducible first | exact HB.out | apply below_alloc | apply pw_below_drewN | apply below_drew1) | exact HB.out))) : w.heap.size ≤ gb415)); clear HB; have HB := n0_; have BK415 := n1_; have GW415 := n2_; have GE415 := n3_; clear n0_ n1_ n2_ n3_; clear hb hbox hg; have hcz7_0 : w6.cell? ⟨gb415, 0, none⟩ = some (.slice A0_0 l0_0.length c0_0) := (blk_cell BK415.out 0).trans rfl; have hcz7_1 : w6.cell? ⟨gb415, 1, none⟩ = some (.int .i64 a0_1) := (blk_cell BK415.out 1).trans rfl; have hcz7_2 : w6.cell? ⟨gb415, 2, none⟩ = some (.int .i64 a0_2) := (blk_cell BK415.out 2).trans rfl; have hcz7_3 : w6.cell? ⟨gb415, 3, none⟩ = some (.int .i64 a0_3) := (blk_cell BK415.out 3).trans rfl; have hcz7_4 : w6.cell? ⟨gb415, 4, none⟩ = some (.int .i64 a0_4) := (blk_cell BK415.out 4).trans rfl; have hcz7_5 : w6.cell? ⟨gb415, 5, none⟩ = some (.slice A0_5 l0_5.length c0_5) := (blk_cell BK415.out 5).trans rfl; have hcz7_6 : w6.cell? ⟨gb415, 6, none⟩ = some (.int .i64 a0_6) := (blk_cell BK415.out 6).trans rfl; have hfz7_0 := blk_frozen BK415.out 0; have hfz7_1 := blk_frozen BK415.out 1; have hfz7_2 := blk_frozen BK415.out 2; have hfz7_3 := blk_frozen BK415.out 3; have hfz7_4 := blk_frozen BK415.out 4; have hfz7_5 := blk_frozen BK415.out 5; have hfz7_6 := blk_frozen BK415.out 6) | ((with_reducible refine gate_callee (f := 31) rfl ?_); refine goesL_ (some 10) rfl rfl Tryd.func31 (by kernel_rfl) rfl #[.agg #[.slice A0_0 l0_0.length c0_0, .int .i64 a0_1, .int .i64 a0_2, .int .i64 a0_3, .int .i64 a0_4, .slice A0_5 l0_5.length c0_5, .int .i64 a0_6]] rfl (by (try simp only [List.map_toArray, List.map_cons, List.map_nil]); first | done | rfl | (simp only [List.length_drop, List.length_take]; rfl)) ?_; (with_reducible refine (macadamref06_Owes.calls k _ _ l0_0 a0_1 a0_2 a0_3 a0_4 _ _ l0_5 a0_6 t416 t417 t418 _ ?side1 ?side2 ?side3 ?side4 A2.out).mono ?_); (case side1 => repeat (first | exact (Kd.C_below HR0_0.out HB.out) | (with_reducible refine Kd.C_alloc ?_ _) | (with_reducible refine Kd.C_drewN ?_ _) | (with_reducible refine Kd.C_drew ?_))); (case side2 => exact HC0_0.out); (case side3 => repeat (first | exact (Kd.C_below HR0_5.out HB.out) | (with_reducible refine Kd.C_alloc ?_ _) | (with_reducible refine Kd.C_drewN ?_ _) | (with_reducible refine Kd.C_drew ?_))); (case side4 => exact HC0_5.out); rintro e w8 ⟨rfl, hb⟩; refine ⟨_, rfl, ?_⟩; have n0_ := Aside0.mk (blk_below (g := gb415) (o := .cells #[.slice A0_0 l0_0.length c0_0, .int .i64 a0_1, .int .i64 a0_2, .int .i64 a0_3, .int .i64 a0_4, .slice A0_5 l0_5.length c0_5, .int .i64 a0_6] 26 (0, 0)) (by (with_reducible repeat (first | refine blk_drewN ?_ _ | refine blk_drew ?_ | refine blk_alloc ?_ _)); exact BK415.out) hb); have n1_ := Aside0.mk (below_step (by repeat (first | (with_reducible first | exact HB.out | apply below_alloc | apply pw_below_drewN | apply below_drew1 | refine below_set ?_ GE415.out) | exact HB.out)) hb); clear BK415; clear HB; have BK415 := n0_; have HB := n1_; clear n0_ n1_; (try clear hb); (try clear hb2); (try clear hk); (try clear hi)) | ((with_reducible refine gate_dst (N := 4) rfl ?_); refine box_event ?hg (N := 4) ?hd (cs := #[.int .i64 0, .int .i64 0]) (t := 32) ?hr ?_; (case hd => rfl); (case hg => rfl); (case hr => first | (go_simp; done) | (go_simp; rfl)); intro gb419 hg w9 hbox hb; have n0_ := Aside0.mk (blk_below (g := gb415) (o := .cells #[.slice A0_0 l0_0.length c0_0, .int .i64 a0_1, .int .i64 a0_2, .int .i64 a0_3, .int .i64 a0_4, .slice A0_5 l0_5.length c0_5, .int .i64 a0_6] 26 (0, 0)) (by (with_reducible repeat (first | refine blk_drewN ?_ _ | refine blk_drew ?_ | refine blk_alloc ?_ _)); exact BK415.out) hb); have n1_ := Aside0.mk (below_step (by repeat (first | (with_reducible first | exact HB.out | apply below_alloc | apply pw_below_drewN | apply below_drew1 | refine below_set ?_ GE415.out) | exact HB.out)) hb); have n2_ := Aside0.mk (hbox); have n3_ := Aside0.mk ((by rw [hg]; exact (below_size (by repeat (first | (with_reducible first | exact HB.out | apply below_alloc | apply pw_below_drewN | apply below_drew1 | refine below_set ?_ GE415.out) | exact HB.out))) : w.heap.size ≤ gb419)); have n4_ := Aside0.mk ((by rw [hg]; exact (below_size (by repeat (first | (with_reducible first | exact HB.out | apply below_alloc | apply pw_below_drewN | apply below_drew1 | refine below_set ?_ GE415.out) | exact HB.out))) : w.heap.size ≤ gb419)); have n5_ := Aside0.mk ((by rw [hg]; exact Nat.ne_of_lt (blk_lt (g := gb415) (o := .cells #[.slice A0_0 l0_0.length c0_0, .int .i64 a0_1, .int .i64 a0_2, .int .i64 a0_3, .int .i64 a0_4, .slice A0_5 l0_5.length c0_5, .int .i64 a0_6] 26 (0, 0)) (by (with_reducible repeat (first | refine blk_drewN ?_ _ | refine blk_drew ?_ | refine blk_alloc ?_ _)); exact BK415.out)) : gb415 ≠ gb419)); have n6_ := Aside0.mk ((by rw [hg]; exact Nat.ne_of_gt (blk_lt (g := gb415) (o := .cells #[.slice A0_0 l0_0.length c0_0, .int .i64 a0_1, .int .i64 a0_2, .int .i64 a0_3, .int .i64 a0_4, .slice A0_5 l0_5.length c0_5, .int .i64 a0_6] 26 (0, 0)) (by (with_reducible repeat (first | refine blk_drewN ?_ _ | refine blk_drew ?_ | refine blk_alloc ?_ _)); exact BK415.out)) : gb419 ≠ gb415)); clear BK415; clear HB; have BK415 := n0_; have HB := n1_; have BK419 := n2_; have GW419 := n3_; have GE419 := n4_; have NB415_419 := n5_; have NB419_415 := n6_; clear n0_ n1_ n2_ n3_ n4_ n5_ n6_; clear hb hbox hg; have hnb10 := NB419_415.out; have hnc10 := NB415_419.out; have hcz11_0 : w9.cell? ⟨gb419, 0, none⟩ = some (.int .i64 0) := (blk_cell BK419.out 0).trans rfl; have hcz11_1 : w9.cell? ⟨gb419, 1, none⟩ = some (.int .i64 0) := (blk_cell BK419.out 1).trans rfl; have hfz11_0 := blk_frozen BK419.out 0; have hfz11_1 := blk_frozen BK419.out 1; have hcz12_0 : w9.cell? ⟨gb415, 0, none⟩ = some (.slice A0_0 l0_0.length c0_0) := (blk_cell BK415.out 0).trans rfl; have hcz12_1 : w9.cell? ⟨gb415, 1, none⟩ = some (.int .i64 a0_1) := (blk_cell BK415.out 1).trans rfl; have hcz12_2 : w9.cell? ⟨gb415, 2, none⟩ = some (.int .i64 a0_2) := (blk_cell BK415.out 2).trans rfl; have hcz12_3 : w9.cell? ⟨gb415, 3, none⟩ = some (.int .i64 a0_3) := (blk_cell BK415.out 3).trans rfl; have hcz12_4 : w9.cell? ⟨gb415, 4, none⟩ = some (.int .i64 a0_4) := (blk_cell BK415.out 4).trans rfl; have hcz12_5 : w9.cell? ⟨gb415, 5, none⟩ = some (.slice A0_5 l0_5.length c0_5) := (blk_cell BK415.out 5).trans rfl; have hcz12_6 : w9.cell? ⟨gb415, 6, none⟩ = some (.int .i64 a0_6) := (blk_cell BK415.out 6).trans rfl; have hfz12_0 := blk_frozen BK415.out 0; have hfz12_1 := blk_frozen BK415.out 1; have hfz12_2 := blk_frozen BK415.out 2; have hfz12_3 := blk_frozen BK415.out 3; have hfz12_4 := blk_frozen BK415.out 4; have hfz12_5 := blk_frozen BK415.out 5; have hfz12_6 := blk_frozen BK415.out 6) | ((with_reducible refine gate_callee (f := 29) rfl ?_); refine goesL_ (some 18) rfl rfl Tryd.func29 (by kernel_rfl) rfl #[.agg #[.slice A0_0 l0_0.length c0_0, .int .i64 a0_1, .int .i64 a0_2, .int .i64 a0_3, .int .i64 a0_4, .slice A0_5 l0_5.length c0_5, .int .i64 a0_6]] rfl (by (try simp only [List.map_toArray, List.map_cons, List.map_nil]); first | done | rfl | (simp only [List.length_drop, List.length_take]; rfl)) ?_; (with_reducible refine (macadamref06_Blame.calls k _ _ l0_0 a0_1 a0_2 a0_3 a0_4 _ _ l0_5 a0_6 t420 t421 _ ?side1 ?side2 ?side3 ?side4 A4.out).mono ?_); (case side1 => exact Kd.C_below HR0_0.out (by repeat (first | (with_reducible first | exact HB.out | apply below_alloc | apply pw_below_drewN | apply below_drew1 | refine below_set ?_ GE415.out | refine below_set ?_ GE419.out) | exact HB.out))); (case side2 => exact HC0_0.out); (case side3 => exact Kd.C_below HR0_5.out (by repeat (first | (with_reducible first | exact HB.out | apply below_alloc | apply pw_below_drewN | apply below_drew1 | refine below_set ?_ GE415.out | refine below_set ?_ GE419.out) | exact HB.out))); (case side4 => exact HC0_5.out); rintro e w13 ⟨rfl, hb⟩; refine ⟨_, rfl, ?_⟩; have n0_ := Aside0.mk (blk_below (g := gb415) (o := .cells #[.slice A0_0 l0_0.length c0_0, .int .i64 a0_1, .int .i64 a0_2, .int .i64 a0_3, .int .i64 a0_4, .slice A0_5 l0_5.length c0_5, .int .i64 a0_6] 26 (0, 0)) (by (with_reducible repeat (first | refine blk_drewN ?_ _ | refine blk_drew ?_ | refine blk_alloc ?_ _)); refine blk_far ?_ NB415_419.out _; (with_reducible repeat (first | refine blk_drewN ?_ _ | refine blk_drew ?_ | refine blk_alloc ?_ _)); refine blk_far ?_ NB415_419.out _; (with_reducible repeat (first | refine blk_drewN ?_ _ | refine blk_drew ?_ | refine blk_alloc ?_ _)); exact BK415.out) hb); have n1_ := Aside0.mk (blk_below (g := gb419) (o := .cells #[.int .i64 t416, .int .i64 t417] 32 (0, 0)) (by (with_reducible repeat (first | refine blk_drewN ?_ _ | refine blk_drew ?_ | refine blk_alloc ?_ _)); refine blk_put (cs := #[.int .i64 t416, .int .i64 0]) ?_ 1 _ rfl; (with_reducible repeat (first | refine blk_drewN ?_ _ | refine blk_drew ?_ | refine blk_alloc ?_ _)); refine blk_put (cs := #[.int .i64 0, .int .i64 0]) ?_ 0 _ rfl; (with_reducible repeat (first | refine blk_drewN ?_ _ | refine blk_drew ?_ | refine blk_alloc ?_ _)); exact BK419.out) hb); have n2_ := Aside0.mk (below_step (by repeat (first | (with_reducible first | exact HB.out | apply below_alloc | apply pw_below_drewN | apply below_drew1 | refine below_set ?_ GE415.out | refine below_set ?_ GE419.out) | exact HB.out)) hb); clear BK415; clear BK419; clear HB; have BK415 := n0_; have BK419 := n1_; have HB := n2_; clear n0_ n1_ n2_; (try clear hb); (try clear hb2); (try clear hk); (try clear hi)))
   go_ret2
   exact ⟨by first | rfl | (simp [errW_none, errW_some] <;> rfl) | (simp only [i64_w, i32_w] <;> rfl) | (simp [*, errW_none, errW_some] <;> rfl), by repeat (first | (with_reducible first | exact HB.out | apply below_alloc | apply pw_below_drewN | apply below_drew1 | refine below_set ?_ GE415.out | refine below_set ?_ GE419.out) | exact HB.out)⟩
  ·rw [if_neg c5] at H
   have c5b0 : decide (t420 < 2) = false := decide_eq_false c5
   clear c5
   simp only [Option.some.injEq, Prod.mk.injEq] at H
   obtain ⟨rfl, rfl⟩ := H
   go_enter Tryd.func33, Tryd.ntmps33
   go_wp2_with (first | ((with_reducible refine gate_dst (N := 1) rfl ?_); refine box_event ?hg (N := 1) ?hd (cs := #[.slice A0_0 l0_0.length c0_0, .int .i64 a0_1, .int .i64 a0_2, .int .i64 a0_3, .int .i64 a0_4, .slice A0_5 l0_5.length c0_5, .int .i64 a0_6]) (t := 26) ?hr ?_; (case hd => rfl); (case hg => rfl); (case hr => first | (go_simp; done) | (go_simp; rfl)); intro gb415 hg w14 hbox hb; have n0_ := Aside0.mk (below_step (by repeat (first | (with_reducible first | exact HB.out | apply below_alloc | apply pw_below_drewN | apply below_drew1) | exact HB.out)) hb); have n1_ := Aside0.mk (hbox); have n2_ := Aside0.mk ((by rw [hg]; exact (below_size (by repeat (first | (with_reducible first | exact HB.out | apply below_alloc | apply pw_below_drewN | apply below_drew1) | exact HB.out))) : w.heap.size ≤ gb415)); have n3_ := Aside0.mk ((by rw [hg]; exact (below_size (by repeat (first | (with_reducible first | exact HB.out | apply below_alloc | apply pw_below_drewN | apply below_drew1) | exact HB.out))) : w.heap.size ≤ gb415)); clear HB; have HB := n0_; have BK415 := n1_; have GW415 := n2_; have GE415 := n3_; clear n0_ n1_ n2_ n3_; clear hb hbox hg; have hcz15_0 : w14.cell? ⟨gb415, 0, none⟩ = some (.slice A0_0 l0_0.length c0_0) := (blk_cell BK415.out 0).trans rfl; have hcz15_1 : w14.cell? ⟨gb415, 1, none⟩ = some (.int .i64 a0_1) := (blk_cell BK415.out 1).trans rfl; have hcz15_2 : w14.cell? ⟨gb415, 2, none⟩ = some (.int .i64 a0_2) := (blk_cell BK415.out 2).trans rfl; have hcz15_3 : w14.cell? ⟨gb415, 3, none⟩ = some (.int .i64 a0_3) := (blk_cell BK415.out 3).trans rfl; have hcz15_4 : w14.cell? ⟨gb415, 4, none⟩ = some (.int .i64 a0_4) := (blk_cell BK415.out 4).trans rfl; have hcz15_5 : w14.cell? ⟨gb415, 5, none⟩ = some (.slice A0_5 l0_5.length c0_5) := (blk_cell BK415.out 5).trans rfl; have hcz15_6 : w14.cell? ⟨gb415, 6, none⟩ = some (.int .i64 a0_6) := (blk_cell BK415.out 6).trans rfl; have hfz15_0 := blk_frozen BK415.out 0; have hfz15_1 := blk_frozen BK415.out 1; have hfz15_2 := blk_frozen BK415.out 2; have hfz15_3 := blk_frozen BK415.out 3; have hfz15_4 := blk_frozen BK415.out 4; have hfz15_5 := blk_frozen BK415.out 5; have hfz15_6 := blk_frozen BK415.out 6) | ((with_reducible refine gate_callee (f := 31) rfl ?_); refine goesL_ (some 10) rfl rfl Tryd.func31 (by kernel_rfl) rfl #[.agg #[.slice A0_0 l0_0.length c0_0, .int .i64 a0_1, .int .i64 a0_2, .int .i64 a0_3, .int .i64 a0_4, .slice A0_5 l0_5.length c0_5, .int .i64 a0_6]] rfl (by (try simp only [List.map_toArray, List.map_cons, List.map_nil]); first | done | rfl | (simp only [List.length_drop, List.length_take]; rfl)) ?_; (with_reducible refine (macadamref06_Owes.calls k _ _ l0_0 a0_1 a0_2 a0_3 a0_4 _ _ l0_5 a0_6 t416 t417 t418 _ ?side1 ?side2 ?side3 ?side4 A2.out).mono ?_); (case side1 => repeat (first | exact (Kd.C_below HR0_0.out HB.out) | (with_reducible refine Kd.C_alloc ?_ _) | (with_reducible refine Kd.C_drewN ?_ _) | (with_reducible refine Kd.C_drew ?_))); (case side2 => exact HC0_0.out); (case side3 => repeat (first | exact (Kd.C_below HR0_5.out HB.out) | (with_reducible refine Kd.C_alloc ?_ _) | (with_reducible refine Kd.C_drewN ?_ _) | (with_reducible refine Kd.C_drew ?_))); (case side4 => exact HC0_5.out); rintro e w16 ⟨rfl, hb⟩; refine ⟨_, rfl, ?_⟩; have n0_ := Aside0.mk (blk_below (g := gb415) (o := .cells #[.slice A0_0 l0_0.length c0_0, .int .i64 a0_1, .int .i64 a0_2, .int .i64 a0_3, .int .i64 a0_4, .slice A0_5 l0_5.length c0_5, .int .i64 a0_6] 26 (0, 0)) (by (with_reducible repeat (first | refine blk_drewN ?_ _ | refine blk_drew ?_ | refine blk_alloc ?_ _)); exact BK415.out) hb); have n1_ := Aside0.mk (below_step (by repeat (first | (with_reducible first | exact HB.out | apply below_alloc | apply pw_below_drewN | apply below_drew1 | refine below_set ?_ GE415.out) | exact HB.out)) hb); clear BK415; clear HB; have BK415 := n0_; have HB := n1_; clear n0_ n1_; (try clear hb); (try clear hb2); (try clear hk); (try clear hi)) | ((with_reducible refine gate_dst (N := 4) rfl ?_); refine box_event ?hg (N := 4) ?hd (cs := #[.int .i64 0, .int .i64 0]) (t := 32) ?hr ?_; (case hd => rfl); (case hg => rfl); (case hr => first | (go_simp; done) | (go_simp; rfl)); intro gb419 hg w17 hbox hb; have n0_ := Aside0.mk (blk_below (g := gb415) (o := .cells #[.slice A0_0 l0_0.length c0_0, .int .i64 a0_1, .int .i64 a0_2, .int .i64 a0_3, .int .i64 a0_4, .slice A0_5 l0_5.length c0_5, .int .i64 a0_6] 26 (0, 0)) (by (with_reducible repeat (first | refine blk_drewN ?_ _ | refine blk_drew ?_ | refine blk_alloc ?_ _)); exact BK415.out) hb); have n1_ := Aside0.mk (below_step (by repeat (first | (with_reducible first | exact HB.out | apply below_alloc | apply pw_below_drewN | apply below_drew1 | refine below_set ?_ GE415.out) | exact HB.out)) hb); have n2_ := Aside0.mk (hbox); have n3_ := Aside0.mk ((by rw [hg]; exact (below_size (by repeat (first | (with_reducible first | exact HB.out | apply below_alloc | apply pw_below_drewN | apply below_drew1 | refine below_set ?_ GE415.out) | exact HB.out))) : w.heap.size ≤ gb419)); have n4_ := Aside0.mk ((by rw [hg]; exact (below_size (by repeat (first | (with_reducible first | exact HB.out | apply below_alloc | apply pw_below_drewN | apply below_drew1 | refine below_set ?_ GE415.out) | exact HB.out))) : w.heap.size ≤ gb419)); have n5_ := Aside0.mk ((by rw [hg]; exact Nat.ne_of_lt (blk_lt (g := gb415) (o := .cells #[.slice A0_0 l0_0.length c0_0, .int .i64 a0_1, .int .i64 a0_2, .int .i64 a0_3, .int .i64 a0_4, .slice A0_5 l0_5.length c0_5, .int .i64 a0_6] 26 (0, 0)) (by (with_reducible repeat (first | refine blk_drewN ?_ _ | refine blk_drew ?_ | refine blk_alloc ?_ _)); exact BK415.out)) : gb415 ≠ gb419)); have n6_ := Aside0.mk ((by rw [hg]; exact Nat.ne_of_gt (blk_lt (g := gb415) (o := .cells #[.slice A0_0 l0_0.length c0_0, .int .i64 a0_1, .int .i64 a0_2, .int .i64 a0_3, .int .i64 a0_4, .slice A0_5 l0_5.length c0_5, .int .i64 a0_6] 26 (0, 0)) (by (with_reducible repeat (first | refine blk_drewN ?_ _ | refine blk_drew ?_ | refine blk_alloc ?_ _)); exact BK415.out)) : gb419 ≠ gb415)); clear BK415; clear HB; have BK415 := n0_; have HB := n1_; have BK419 := n2_; have GW419 := n3_; have GE419 := n4_; have NB415_419 := n5_; have NB419_415 := n6_; clear n0_ n1_ n2_ n3_ n4_ n5_ n6_; clear hb hbox hg; have hnb18 := NB419_415.out; have hnc18 := NB415_419.out; have hcz19_0 : w17.cell? ⟨gb419, 0, none⟩ = some (.int .i64 0) := (blk_cell BK419.out 0).trans rfl; have hcz19_1 : w17.cell? ⟨gb419, 1, none⟩ = some (.int .i64 0) := (blk_cell BK419.out 1).trans rfl; have hfz19_0 := blk_frozen BK419.out 0; have hfz19_1 := blk_frozen BK419.out 1; have hcz20_0 : w17.cell? ⟨gb415, 0, none⟩ = some (.slice A0_0 l0_0.length c0_0) := (blk_cell BK415.out 0).trans rfl; have hcz20_1 : w17.cell? ⟨gb415, 1, none⟩ = some (.int .i64 a0_1) := (blk_cell BK415.out 1).trans rfl; have hcz20_2 : w17.cell? ⟨gb415, 2, none⟩ = some (.int .i64 a0_2) := (blk_cell BK415.out 2).trans rfl; have hcz20_3 : w17.cell? ⟨gb415, 3, none⟩ = some (.int .i64 a0_3) := (blk_cell BK415.out 3).trans rfl; have hcz20_4 : w17.cell? ⟨gb415, 4, none⟩ = some (.int .i64 a0_4) := (blk_cell BK415.out 4).trans rfl; have hcz20_5 : w17.cell? ⟨gb415, 5, none⟩ = some (.slice A0_5 l0_5.length c0_5) := (blk_cell BK415.out 5).trans rfl; have hcz20_6 : w17.cell? ⟨gb415, 6, none⟩ = some (.int .i64 a0_6) := (blk_cell BK415.out 6).trans rfl; have hfz20_0 := blk_frozen BK415.out 0; have hfz20_1 := blk_frozen BK415.out 1; have hfz20_2 := blk_frozen BK415.out 2; have hfz20_3 := blk_frozen BK415.out 3; have hfz20_4 := blk_frozen BK415.out 4; have hfz20_5 := blk_frozen BK415.out 5; have hfz20_6 := blk_frozen BK415.out 6) | ((with_reducible refine gate_callee (f := 29) rfl ?_); refine goesL_ (some 18) rfl rfl Tryd.func29 (by kernel_rfl) rfl #[.agg #[.slice A0_0 l0_0.length c0_0, .int .i64 a0_1, .int .i64 a0_2, .int .i64 a0_3, .int .i64 a0_4, .slice A0_5 l0_5.length c0_5, .int .i64 a0_6]] rfl (by (try simp only [List.map_toArray, List.map_cons, List.map_nil]); first | done | rfl | (simp only [List.length_drop, List.length_take]; rfl)) ?_; (with_reducible refine (macadamref06_Blame.calls k _ _ l0_0 a0_1 a0_2 a0_3 a0_4 _ _ l0_5 a0_6 t420 t421 _ ?side1 ?side2 ?side3 ?side4 A4.out).mono ?_); (case side1 => exact Kd.C_below HR0_0.out (by repeat (first | (with_reducible first | exact HB.out | apply below_alloc | apply pw_below_drewN | apply below_drew1 | refine below_set ?_ GE415.out | refine below_set ?_ GE419.out) | exact HB.out))); (case side2 => exact HC0_0.out); (case side3 => exact Kd.C_below HR0_5.out (by repeat (first | (with_reducible first | exact HB.out | apply below_alloc | apply pw_below_drewN | apply below_drew1 | refine below_set ?_ GE415.out | refine below_set ?_ GE419.out) | exact HB.out))); (case side4 => exact HC0_5.out); rintro e w21 ⟨rfl, hb⟩; refine ⟨_, rfl, ?_⟩; have n0_ := Aside0.mk (blk_below (g := gb415) (o := .cells #[.slice A0_0 l0_0.length c0_0, .int .i64 a0_1, .int .i64 a0_2, .int .i64 a0_3, .int .i64 a0_4, .slice A0_5 l0_5.length c0_5, .int .i64 a0_6] 26 (0, 0)) (by (with_reducible repeat (first | refine blk_drewN ?_ _ | refine blk_drew ?_ | refine blk_alloc ?_ _)); refine blk_far ?_ NB415_419.out _; (with_reducible repeat (first | refine blk_drewN ?_ _ | refine blk_drew ?_ | refine blk_alloc ?_ _)); refine blk_far ?_ NB415_419.out _; (with_reducible repeat (first | refine blk_drewN ?_ _ | refine blk_drew ?_ | refine blk_alloc ?_ _)); exact BK415.out) hb); have n1_ := Aside0.mk (blk_below (g := gb419) (o := .cells #[.int .i64 t416, .int .i64 t417] 32 (0, 0)) (by (with_reducible repeat (first | refine blk_drewN ?_ _ | refine blk_drew ?_ | refine blk_alloc ?_ _)); refine blk_put (cs := #[.int .i64 t416, .int .i64 0]) ?_ 1 _ rfl; (with_reducible repeat (first | refine blk_drewN ?_ _ | refine blk_drew ?_ | refine blk_alloc ?_ _)); refine blk_put (cs := #[.int .i64 0, .int .i64 0]) ?_ 0 _ rfl; (with_reducible repeat (first | refine blk_drewN ?_ _ | refine blk_drew ?_ | refine blk_alloc ?_ _)); exact BK419.out) hb); have n2_ := Aside0.mk (below_step (by repeat (first | (with_reducible first | exact HB.out | apply below_alloc | apply pw_below_drewN | apply below_drew1 | refine below_set ?_ GE415.out | refine below_set ?_ GE419.out) | exact HB.out)) hb); clear BK415; clear BK419; clear HB; have BK415 := n0_; have BK419 := n1_; have HB := n2_; clear n0_ n1_ n2_; (try clear hb); (try clear hb2); (try clear hk); (try clear hi); have hcz22_0 : w21.cell? ⟨gb419, 0, none⟩ = some (.int .i64 t416) := (blk_cell BK419.out 0).trans rfl; have hcz22_1 : w21.cell? ⟨gb419, 1, none⟩ = some (.int .i64 t417) := (blk_cell BK419.out 1).trans rfl; have hfz22_0 := blk_frozen BK419.out 0; have hfz22_1 := blk_frozen BK419.out 1))
   go_ret2
   exact ⟨by first | rfl | (simp [errW_none, errW_some] <;> rfl) | (simp only [i64_w, i32_w] <;> rfl) | (simp [*, errW_none, errW_some] <;> rfl), by repeat (first | (with_reducible first | exact HB.out | apply below_alloc | apply pw_below_drewN | apply below_drew1 | refine below_set ?_ GE415.out | refine below_set ?_ GE419.out) | exact HB.out)⟩
 ·rw [if_neg c3] at H
  have c3b0 : (t418 == 0) = false := beq_eq_false_iff_ne.mpr c3
  have c3b1 : (t418 != 0) = true := bne_iff_ne.mpr c3
  simp only [Option.some.injEq, Prod.mk.injEq] at H
  obtain ⟨rfl, rfl⟩ := H
  go_enter Tryd.func33, Tryd.ntmps33
  go_wp2_with (first | ((with_reducible refine gate_dst (N := 1) rfl ?_); refine box_event ?hg (N := 1) ?hd (cs := #[.slice A0_0 l0_0.length c0_0, .int .i64 a0_1, .int .i64 a0_2, .int .i64 a0_3, .int .i64 a0_4, .slice A0_5 l0_5.length c0_5, .int .i64 a0_6]) (t := 26) ?hr ?_; (case hd => rfl); (case hg => rfl); (case hr => first | (go_simp; done) | (go_simp; rfl)); intro gb415 hg w23 hbox hb; have n0_ := Aside0.mk (below_step (by repeat (first | (with_reducible first | exact HB.out | apply below_alloc | apply pw_below_drewN | apply below_drew1) | exact HB.out)) hb); have n1_ := Aside0.mk (hbox); have n2_ := Aside0.mk ((by rw [hg]; exact (below_size (by repeat (first | (with_reducible first | exact HB.out | apply below_alloc | apply pw_below_drewN | apply below_drew1) | exact HB.out))) : w.heap.size ≤ gb415)); have n3_ := Aside0.mk ((by rw [hg]; exact (below_size (by repeat (first | (with_reducible first | exact HB.out | apply below_alloc | apply pw_below_drewN | apply below_drew1) | exact HB.out))) : w.heap.size ≤ gb415)); clear HB; have HB := n0_; have BK415 := n1_; have GW415 := n2_; have GE415 := n3_; clear n0_ n1_ n2_ n3_; clear hb hbox hg; have hcz24_0 : w23.cell? ⟨gb415, 0, none⟩ = some (.slice A0_0 l0_0.length c0_0) := (blk_cell BK415.out 0).trans rfl; have hcz24_1 : w23.cell? ⟨gb415, 1, none⟩ = some (.int .i64 a0_1) := (blk_cell BK415.out 1).trans rfl; have hcz24_2 : w23.cell? ⟨gb415, 2, none⟩ = some (.int .i64 a0_2) := (blk_cell BK415.out 2).trans rfl; have hcz24_3 : w23.cell? ⟨gb415, 3, none⟩ = some (.int .i64 a0_3) := (blk_cell BK415.out 3).trans rfl; have hcz24_4 : w23.cell? ⟨gb415, 4, none⟩ = some (.int .i64 a0_4) := (blk_cell BK415.out 4).trans rfl; have hcz24_5 : w23.cell? ⟨gb415, 5, none⟩ = some (.slice A0_5 l0_5.length c0_5) := (blk_cell BK415.out 5).trans rfl; have hcz24_6 : w23.cell? ⟨gb415, 6, none⟩ = some (.int .i64 a0_6) := (blk_cell BK415.out 6).trans rfl; have hfz24_0 := blk_frozen BK415.out 0; have hfz24_1 := blk_frozen BK415.out 1; have hfz24_2 := blk_frozen BK415.out 2; have hfz24_3 := blk_frozen BK415.out 3; have hfz24_4 := blk_frozen BK415.out 4; have hfz24_5 := blk_frozen BK415.out 5; have hfz24_6 := blk_frozen BK415.out 6) | ((with_reducible refine gate_callee (f := 31) rfl ?_); refine goesL_ (some 10) rfl rfl Tryd.func31 (by kernel_rfl) rfl #[.agg #[.slice A0_0 l0_0.length c0_0, .int .i64 a0_1, .int .i64 a0_2, .int .i64 a0_3, .int .i64 a0_4, .slice A0_5 l0_5.length c0_5, .int .i64 a0_6]] rfl (by (try simp only [List.map_toArray, List.map_cons, List.map_nil]); first | done | rfl | (simp only [List.length_drop, List.length_take]; rfl)) ?_; (with_reducible refine (macadamref06_Owes.calls k _ _ l0_0 a0_1 a0_2 a0_3 a0_4 _ _ l0_5 a0_6 t416 t417 t418 _ ?side1 ?side2 ?side3 ?side4 A2.out).mono ?_); (case side1 => repeat (first | exact (Kd.C_below HR0_0.out HB.out) | (with_reducible refine Kd.C_alloc ?_ _) | (with_reducible refine Kd.C_drewN ?_ _) | (with_reducible refine Kd.C_drew ?_))); (case side2 => exact HC0_0.out); (case side3 => repeat (first | exact (Kd.C_below HR0_5.out HB.out) | (with_reducible refine Kd.C_alloc ?_ _) | (with_reducible refine Kd.C_drewN ?_ _) | (with_reducible refine Kd.C_drew ?_))); (case side4 => exact HC0_5.out); rintro e w25 ⟨rfl, hb⟩; refine ⟨_, rfl, ?_⟩; have n0_ := Aside0.mk (blk_below (g := gb415) (o := .cells #[.slice A0_0 l0_0.length c0_0, .int .i64 a0_1, .int .i64 a0_2, .int .i64 a0_3, .int .i64 a0_4, .slice A0_5 l0_5.length c0_5, .int .i64 a0_6] 26 (0, 0)) (by (with_reducible repeat (first | refine blk_drewN ?_ _ | refine blk_drew ?_ | refine blk_alloc ?_ _)); exact BK415.out) hb); have n1_ := Aside0.mk (below_step (by repeat (first | (with_reducible first | exact HB.out | apply below_alloc | apply pw_below_drewN | apply below_drew1 | refine below_set ?_ GE415.out) | exact HB.out)) hb); clear BK415; clear HB; have BK415 := n0_; have HB := n1_; clear n0_ n1_; (try clear hb); (try clear hb2); (try clear hk); (try clear hi)) | ((with_reducible refine gate_dst (N := 4) rfl ?_); refine box_event ?hg (N := 4) ?hd (cs := #[.int .i64 0, .int .i64 0]) (t := 32) ?hr ?_; (case hd => rfl); (case hg => rfl); (case hr => first | (go_simp; done) | (go_simp; rfl)); intro gb419 hg w26 hbox hb; have n0_ := Aside0.mk (blk_below (g := gb415) (o := .cells #[.slice A0_0 l0_0.length c0_0, .int .i64 a0_1, .int .i64 a0_2, .int .i64 a0_3, .int .i64 a0_4, .slice A0_5 l0_5.length c0_5, .int .i64 a0_6] 26 (0, 0)) (by (with_reducible repeat (first | refine blk_drewN ?_ _ | refine blk_drew ?_ | refine blk_alloc ?_ _)); exact BK415.out) hb); have n1_ := Aside0.mk (below_step (by repeat (first | (with_reducible first | exact HB.out | apply below_alloc | apply pw_below_drewN | apply below_drew1 | refine below_set ?_ GE415.out) | exact HB.out)) hb); have n2_ := Aside0.mk (hbox); have n3_ := Aside0.mk ((by rw [hg]; exact (below_size (by repeat (first | (with_reducible first | exact HB.out | apply below_alloc | apply pw_below_drewN | apply below_drew1 | refine below_set ?_ GE415.out) | exact HB.out))) : w.heap.size ≤ gb419)); have n4_ := Aside0.mk ((by rw [hg]; exact (below_size (by repeat (first | (with_reducible first | exact HB.out | apply below_alloc | apply pw_below_drewN | apply below_drew1 | refine below_set ?_ GE415.out) | exact HB.out))) : w.heap.size ≤ gb419)); have n5_ := Aside0.mk ((by rw [hg]; exact Nat.ne_of_lt (blk_lt (g := gb415) (o := .cells #[.slice A0_0 l0_0.length c0_0, .int .i64 a0_1, .int .i64 a0_2, .int .i64 a0_3, .int .i64 a0_4, .slice A0_5 l0_5.length c0_5, .int .i64 a0_6] 26 (0, 0)) (by (with_reducible repeat (first | refine blk_drewN ?_ _ | refine blk_drew ?_ | refine blk_alloc ?_ _)); exact BK415.out)) : gb415 ≠ gb419)); have n6_ := Aside0.mk ((by rw [hg]; exact Nat.ne_of_gt (blk_lt (g := gb415) (o := .cells #[.slice A0_0 l0_0.length c0_0, .int .i64 a0_1, .int .i64 a0_2, .int .i64 a0_3, .int .i64 a0_4, .slice A0_5 l0_5.length c0_5, .int .i64 a0_6] 26 (0, 0)) (by (with_reducible repeat (first | refine blk_drewN ?_ _ | refine blk_drew ?_ | refine blk_alloc ?_ _)); exact BK415.out)) : gb419 ≠ gb415)); clear BK415; clear HB; have BK415 := n0_; have HB := n1_; have BK419 := n2_; have GW419 := n3_; have GE419 := n4_; have NB415_419 := n5_; have NB419_415 := n6_; clear n0_ n1_ n2_ n3_ n4_ n5_ n6_; clear hb hbox hg; have hnb27 := NB419_415.out; have hnc27 := NB415_419.out; have hcz28_0 : w26.cell? ⟨gb419, 0, none⟩ = some (.int .i64 0) := (blk_cell BK419.out 0).trans rfl; have hcz28_1 : w26.cell? ⟨gb419, 1, none⟩ = some (.int .i64 0) := (blk_cell BK419.out 1).trans rfl; have hfz28_0 := blk_frozen BK419.out 0; have hfz28_1 := blk_frozen BK419.out 1))
  go_ret2
  exact ⟨by first | rfl | (simp [errW_none, errW_some] <;> rfl) | (simp only [i64_w, i32_w] <;> rfl) | (simp [*, errW_none, errW_some] <;> rfl), by repeat (first | (with_reducible first | exact HB.out | apply below_alloc | apply pw_below_drewN | apply below_drew1 | refine below_set ?_ GE415.out | refine below_set ?_ GE419.out) | exact HB.out)⟩
end Go.Proofs.YtbhjfojbjpbdbaaDoorPX
