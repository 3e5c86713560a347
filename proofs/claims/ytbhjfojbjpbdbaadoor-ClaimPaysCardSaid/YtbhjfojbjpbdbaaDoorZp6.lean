/-
  What the claim needs, gathered by a program of this session (wip/tools/trim.py) out of the texts YtbhjfojbjpbdbaaDoorPX19, YtbhjfojbjpbdbaaDoorPX1, YtbhjfojbjpbdbaaDoorPX12, YtbhjfojbjpbdbaaDoorPX13, YtbhjfojbjpbdbaaDoorPX20, YtbhjfojbjpbdbaaDoorT4, YtbhjfojbjpbdbaaDoorPX14, YtbhjfojbjpbdbaaDoorT3, YtbhjfojbjpbdbaaDoorL3, YtbhjfojbjpbdbaaDoorL4: nothing that stands here is proved for its own sake.
-/
import Derived.Test.YtbhjfojbjpbdbaaDoorZp3
import Derived.Test.YtbhjfojbjpbdbaaDoorZp4
import Derived.Test.YtbhjfojbjpbdbaaDoorZp5
namespace Go.Proofs.YtbhjfojbjpbdbaaDoorPX
open Go.Proofs.YtbhjfojbjpbdbaaDoor (Glob ix3 blk_ix3 bl nrm_ pu_ po_ tk_)
open Go.RowKit Go.Proofs.YtbhjfojbjpbdbaaDoorW.PrintWords Go.Proofs.YtbhjfojbjpbdbaaDoorW.PrintLast Go.Proofs.YtbhjfojbjpbdbaaDoorW.PrintMore

set_option linter.unusedVariables false
set_option linter.unusedSimpArgs false
mutual
def macadamref06_First.l0 : Nat → List (S92) → Int → List (S56) → Int → Int → Int → Int → List (S42) → Int → Option (Int × Int)
 | 0, _, _, _, _, _, _, _, _, _ => none
 | k + 1, x4, x6, x423000, x423001, x423002, x423003, x423004, x423005, x423006 => if x6 < (x423000.length : Int) then (macadamref06_First.l1 k x4 x6 true 0 x423000 x423001 x423002 x423003 x423004 x423005 x423006) else (some (0, 4))
def macadamref06_First.l1 : Nat → List (S92) → Int → Bool → Int → List (S56) → Int → Int → Int → Int → List (S42) → Int → Option (Int × Int)
 | 0, _, _, _, _, _, _, _, _, _, _, _ => none
 | k + 1, x4, x6, x7, x8, x423000, x423001, x423002, x423003, x423004, x423005, x423006 => if x8 < (x4.length : Int) then (if x7 = true then (if 0 ≤ x8 then ((macadamref06_late.f x423000 x423001 x423002 x423003 x423004 x423005 x423006 ((rd_T92 x4 x8).f0) ((rd_T92 x4 x8).f1) ((rd_T92 x4 x8).f2) x6).bind fun t428 => (macadamref06_First.l1 k x4 x6 (decide (t428 > 0)) (wrap64 (x8 + 1)) x423000 x423001 x423002 x423003 x423004 x423005 x423006)) else (none)) else (macadamref06_First.l1 k x4 x6 false (wrap64 (x8 + 1)) x423000 x423001 x423002 x423003 x423004 x423005 x423006)) else (if x7 = true then (some (x6, 0)) else (macadamref06_First.l0 k x4 (wrap64 (x6 + 1)) x423000 x423001 x423002 x423003 x423004 x423005 x423006))
end
def macadamref06_First.f (k : Nat) (l0_0 : List (S56)) (a0_1 : Int) (a0_2 : Int) (a0_3 : Int) (a0_4 : Int) (l0_5 : List (S42)) (a0_6 : Int) : Option (Int × Int) := (macadamref06_asked.f k l0_0 a0_1 a0_2 a0_3 a0_4 l0_5 a0_6 true).bind fun bt423 => (if bt423.2 = 0 then (macadamref06_First.l0 k bt423.1 0 l0_0 a0_1 a0_2 a0_3 a0_4 l0_5 a0_6) else (some (0, bt423.2)))
def macadamref06_First.T11 : Bool × List (List Nat × List Nat) := (true, [([], []), ([0], [0]), ([1], [1]), ([1], [1]), ([1], [1]), ([3, 4, 1], [1, 3, 4]), ([5, 1], [1, 5]), ([1], [1]), ([2, 6, 7, 1, 1], [1, 2, 6, 7]), ([8, 1], [1, 8]), ([1, 9], [1, 9]), ([10, 8, 0, 1, 2, 3, 4, 5, 6, 7, 8, 9, 10], [0, 10])])
def macadamref06_First.B11 : List Nat := [0, 1, 3, 3, 3, 27, 59, 3, 255, 511, 1023, 2047]
theorem macadamref06_First.tab11 : rtab .any (opsOf Tryd.f35 11) = macadamref06_First.T11 := by kernel_rfl
theorem macadamref06_First.bits11 : waitsOk macadamref06_First.T11.2 macadamref06_First.B11 = true := by kernel_rfl
set_option maxHeartbeats 8000000 in
set_option maxRecDepth 100000 in
theorem macadamref06_First.calls (k : Nat) (A0_0 : Option Addr) (c0_0 : Nat) (l0_0 : List (S56)) (a0_1 : Int) (a0_2 : Int) (a0_3 : Int) (a0_4 : Int) (A0_5 : Option Addr) (c0_5 : Nat) (l0_5 : List (S42)) (a0_6 : Int) (r1 : Int) (r2 : Int) (w : World) (hr0_0 : Kd.C k56 w A0_0 l0_0.length l0_0) (hc0_0 : l0_0.length ≤ c0_0) (hr0_5 : Kd.C k42 w A0_5 l0_5.length l0_5) (hc0_5 : l0_5.length ≤ c0_5) (h : macadamref06_First.f k l0_0 a0_1 a0_2 a0_3 a0_4 l0_5 a0_6 = some (r1, r2)) :
  Calls Tryd.prog 35 #[.agg #[.slice A0_0 l0_0.length c0_0, .int .i64 a0_1, .int .i64 a0_2, .int .i64 a0_3, .int .i64 a0_4, .slice A0_5 l0_5.length c0_5, .int .i64 a0_6]] w fun e w' => e = .returned (.tuple #[.int .i64 r1, .int .i64 r2]) ∧ Below w.heap.size w w' := by
 have hu26 := Tryd.underlying26
 have hu92 := Tryd.underlying92
 have HR0_0 := Aside0.mk hr0_0
 have HC0_0 := Aside0.mk hc0_0
 clear hr0_0 hc0_0
 have HR0_5 := Aside0.mk hr0_5
 have HC0_5 := Aside0.mk hc0_5
 clear hr0_5 hc0_5
 have HB := Aside0.mk (Below.refl w.heap.size w)
 have H : ((macadamref06_asked.f k l0_0 a0_1 a0_2 a0_3 a0_4 l0_5 a0_6 true).bind fun bt423 => (if bt423.2 = 0 then (macadamref06_First.l0 k bt423.1 0 l0_0 a0_1 a0_2 a0_3 a0_4 l0_5 a0_6) else (some (0, bt423.2)))) = some (r1, r2) := h
 clear h
 replace H := Option.bind_eq_some_iff.mp H
 obtain ⟨⟨t423, t426⟩, A20, H⟩ := H
 replace H : (if t426 = 0 then (macadamref06_First.l0 k t423 0 l0_0 a0_1 a0_2 a0_3 a0_4 l0_5 a0_6) else (some (0, t426))) = some (r1, r2) := H
 have A2 := Aside0.mk A20
 clear A20
 by_cases c3 : t426 = 0
 ·rw [if_pos c3] at H
  have c3b0 : (t426 == 0) = true := beq_iff_eq.mpr c3
  have c3b1 : (t426 != 0) = false := bne_eq_false_iff_eq.mpr c3
  clear c3
  have H' := Aside0.mk H
  clear H
  go_enter Tryd.func35, Tryd.ntmps35
  go_wp2_with (first | ((with_reducible refine gate_dst (N := 1) rfl ?_); refine box_event ?hg (N := 1) ?hd (cs := #[.slice A0_0 l0_0.length c0_0, .int .i64 a0_1, .int .i64 a0_2, .int .i64 a0_3, .int .i64 a0_4, .slice A0_5 l0_5.length c0_5, .int .i64 a0_6]) (t := 26) ?hr ?_; (case hd => rfl); (case hg => rfl); (case hr => first | (go_simp; done) | (go_simp; rfl)); intro gb422 hg w4 hbox hb; have n0_ := Aside0.mk (below_step (by repeat (first | (with_reducible first | exact HB.out | apply below_alloc | apply pw_below_drewN | apply below_drew1) | exact HB.out)) hb); have n1_ := Aside0.mk (hbox); have n2_ := Aside0.mk ((by rw [hg]; exact (below_size (by repeat (first | (with_reducible first | exact HB.out | apply below_alloc | apply pw_below_drewN | apply below_drew1) | exact HB.out))) : w.heap.size ≤ gb422)); have n3_ := Aside0.mk ((by rw [hg]; exact (below_size (by repeat (first | (with_reducible first | exact HB.out | apply below_alloc | apply pw_below_drewN | apply below_drew1) | exact HB.out))) : w.heap.size ≤ gb422)); clear HB; have HB := n0_; have BK422 := n1_; have GW422 := n2_; have GE422 := n3_; clear n0_ n1_ n2_ n3_; clear hb hbox hg; have hcz5_0 : w4.cell? ⟨gb422, 0, none⟩ = some (.slice A0_0 l0_0.length c0_0) := (blk_cell BK422.out 0).trans rfl; have hcz5_1 : w4.cell? ⟨gb422, 1, none⟩ = some (.int .i64 a0_1) := (blk_cell BK422.out 1).trans rfl; have hcz5_2 : w4.cell? ⟨gb422, 2, none⟩ = some (.int .i64 a0_2) := (blk_cell BK422.out 2).trans rfl; have hcz5_3 : w4.cell? ⟨gb422, 3, none⟩ = some (.int .i64 a0_3) := (blk_cell BK422.out 3).trans rfl; have hcz5_4 : w4.cell? ⟨gb422, 4, none⟩ = some (.int .i64 a0_4) := (blk_cell BK422.out 4).trans rfl; have hcz5_5 : w4.cell? ⟨gb422, 5, none⟩ = some (.slice A0_5 l0_5.length c0_5) := (blk_cell BK422.out 5).trans rfl; have hcz5_6 : w4.cell? ⟨gb422, 6, none⟩ = some (.int .i64 a0_6) := (blk_cell BK422.out 6).trans rfl; have hfz5_0 := blk_frozen BK422.out 0; have hfz5_1 := blk_frozen BK422.out 1; have hfz5_2 := blk_frozen BK422.out 2; have hfz5_3 := blk_frozen BK422.out 3; have hfz5_4 := blk_frozen BK422.out 4; have hfz5_5 := blk_frozen BK422.out 5; have hfz5_6 := blk_frozen BK422.out 6) | ((with_reducible refine gate_callee (f := 73) rfl ?_); refine goesL_ (some 11) rfl rfl Tryd.func73 (by kernel_rfl) rfl #[.agg #[.slice A0_0 l0_0.length c0_0, .int .i64 a0_1, .int .i64 a0_2, .int .i64 a0_3, .int .i64 a0_4, .slice A0_5 l0_5.length c0_5, .int .i64 a0_6], .bool true] rfl (by (try simp only [List.map_toArray, List.map_cons, List.map_nil]); first | done | rfl | (simp only [List.length_drop, List.length_take]; rfl)) ?_; (with_reducible refine (macadamref06_asked.calls k _ _ l0_0 a0_1 a0_2 a0_3 a0_4 _ _ l0_5 a0_6 true t423 t426 _ ?side1 ?side2 ?side3 ?side4 A2.out).mono ?_); (case side1 => repeat (first | exact (Kd.C_below HR0_0.out HB.out) | (with_reducible refine Kd.C_alloc ?_ _) | (with_reducible refine Kd.C_drewN ?_ _) | (with_reducible refine Kd.C_drew ?_))); (case side2 => exact HC0_0.out); (case side3 => repeat (first | exact (Kd.C_below HR0_5.out HB.out) | (with_reducible refine Kd.C_alloc ?_ _) | (with_reducible refine Kd.C_drewN ?_ _) | (with_reducible refine Kd.C_drew ?_))); (case side4 => exact HC0_5.out); rintro e w6 ⟨v424, rfl, ho0, hb⟩; refine ⟨_, rfl, ?_⟩; have n0_ := Aside0.mk (Kd.N_lower (Kd.N_mono (ok' := fun k_ => k_ ≠ gb422) ho0 (fun k_ hk_ => (Kd.freshB (g := gb422) (o := .cells #[.slice A0_0 l0_0.length c0_0, .int .i64 a0_1, .int .i64 a0_2, .int .i64 a0_3, .int .i64 a0_4, .slice A0_5 l0_5.length c0_5, .int .i64 a0_6] 26 (0, 0)) (by (with_reducible repeat (first | refine blk_drewN ?_ _ | refine blk_drew ?_ | refine blk_alloc ?_ _)); exact BK422.out) k_ hk_))) (below_size (by repeat (first | (with_reducible first | exact HB.out | apply below_alloc | apply pw_below_drewN | apply below_drew1 | refine below_set ?_ GE422.out) | exact HB.out)))); have n1_ := Aside0.mk (blk_below (g := gb422) (o := .cells #[.slice A0_0 l0_0.length c0_0, .int .i64 a0_1, .int .i64 a0_2, .int .i64 a0_3, .int .i64 a0_4, .slice A0_5 l0_5.length c0_5, .int .i64 a0_6] 26 (0, 0)) (by (with_reducible repeat (first | refine blk_drewN ?_ _ | refine blk_drew ?_ | refine blk_alloc ?_ _)); exact BK422.out) hb); have n2_ := Aside0.mk (below_step (by repeat (first | (with_reducible first | exact HB.out | apply below_alloc | apply pw_below_drewN | apply below_drew1 | refine below_set ?_ GE422.out) | exact HB.out)) hb); clear BK422; clear HB; have HO425 := n0_; have BK422 := n1_; have HB := n2_; clear n0_ n1_ n2_; (try clear hb); (try clear hb2); (try clear hk); (try clear hi); (try clear ho0)))
  go_loopg [6] k (fun kq v6 w' => ∃ (x6_1 : Int), v6 = .int .i64 x6_1 ∧ Aside0 (macadamref06_First.l0 kq t423 x6_1 l0_0 a0_1 a0_2 a0_3 a0_4 l0_5 a0_6 = some (r1, r2)) ∧ Aside0 (kq ≤ k) ∧ Aside0 (Kd.N k92 92 w' w.heap.size (fun k_ => k_ ≠ gb422) v424 t423) ∧ Aside0 (w'.heap[gb422]? = some (.cells #[(.slice A0_0 l0_0.length c0_0), .int .i64 a0_1, .int .i64 a0_2, .int .i64 a0_3, .int .i64 a0_4, (.slice A0_5 l0_5.length c0_5), .int .i64 a0_6] 26 (0, 0))) ∧ Aside0 (Below w.heap.size w w'))
  case atStart => exact ⟨(0), (by first | rfl | (simp; done) | (simp [*]; done)), H', ⟨Nat.le_refl _⟩, ⟨by (with_reducible repeat (first | apply Kd.N_alloc | apply Kd.N_drewN | apply Kd.N_drew)); exact HO425.out⟩, ⟨by (with_reducible repeat (first | refine blk_drewN ?_ _ | refine blk_drew ?_ | refine blk_alloc ?_ _)); exact BK422.out⟩, ⟨by repeat (first | (with_reducible first | exact HB.out | apply below_alloc | apply pw_below_drewN | apply below_drew1 | refine below_set ?_ GE422.out) | exact HB.out)⟩⟩
  case round =>
   clear H'
   try clear p2
   try clear c3
   try clear c3b0
   try clear c3b1
   try clear hcz5_0
   try clear hcz5_1
   try clear hcz5_2
   try clear hcz5_3
   try clear hcz5_4
   try clear hcz5_5
   try clear hcz5_6
   try clear hfz5_0
   try clear hfz5_1
   try clear hfz5_2
   try clear hfz5_3
   try clear hfz5_4
   try clear hfz5_5
   try clear hfz5_6
   obtain ⟨x6_1, rfl, HA, HK1, HO_4, BK422, HB⟩ := hrel
   cases gk with
   | zero => exact absurd HA.out (by simp [macadamref06_First.l0])
   | succ k1 =>
    have H := HA.out
    clear HA
    simp only [macadamref06_First.l0] at H
    by_cases c7 : x6_1 < (l0_0.length : Int)
    ·rw [if_pos c7] at H
     have c7b0 : decide (x6_1 < (l0_0.length : Int)) = true := decide_eq_true c7
     clear c7
     have H' := Aside0.mk H
     clear H
     have hcz8_0 : wr.cell? ⟨gb422, 0, none⟩ = some (.slice A0_0 l0_0.length c0_0) := (blk_cell BK422.out 0).trans rfl
     have hcz8_1 : wr.cell? ⟨gb422, 1, none⟩ = some (.int .i64 a0_1) := (blk_cell BK422.out 1).trans rfl
     have hcz8_2 : wr.cell? ⟨gb422, 2, none⟩ = some (.int .i64 a0_2) := (blk_cell BK422.out 2).trans rfl
     have hcz8_3 : wr.cell? ⟨gb422, 3, none⟩ = some (.int .i64 a0_3) := (blk_cell BK422.out 3).trans rfl
     have hcz8_4 : wr.cell? ⟨gb422, 4, none⟩ = some (.int .i64 a0_4) := (blk_cell BK422.out 4).trans rfl
     have hcz8_5 : wr.cell? ⟨gb422, 5, none⟩ = some (.slice A0_5 l0_5.length c0_5) := (blk_cell BK422.out 5).trans rfl
     have hcz8_6 : wr.cell? ⟨gb422, 6, none⟩ = some (.int .i64 a0_6) := (blk_cell BK422.out 6).trans rfl
     have hfz8_0 := blk_frozen BK422.out 0
     have hfz8_1 := blk_frozen BK422.out 1
     have hfz8_2 := blk_frozen BK422.out 2
     have hfz8_3 := blk_frozen BK422.out 3
     have hfz8_4 := blk_frozen BK422.out 4
     have hfz8_5 := blk_frozen BK422.out 5
     have hfz8_6 := blk_frozen BK422.out 6
     go_wp2
     go_loopg [7, 8] k1 (fun kq v7 v8 w' => ∃ (x7_2 : Bool) (x8_2 : Int), v7 = .bool x7_2 ∧ v8 = .int .i64 x8_2 ∧ Aside0 (macadamref06_First.l1 kq t423 x6_1 x7_2 x8_2 l0_0 a0_1 a0_2 a0_3 a0_4 l0_5 a0_6 = some (r1, r2)) ∧ Aside0 (kq ≤ k1) ∧ Aside0 (Kd.N k92 92 w' w.heap.size (fun k_ => k_ ≠ gb422) v424 t423) ∧ Aside0 (w'.heap[gb422]? = some (.cells #[(.slice A0_0 l0_0.length c0_0), .int .i64 a0_1, .int .i64 a0_2, .int .i64 a0_3, .int .i64 a0_4, (.slice A0_5 l0_5.length c0_5), .int .i64 a0_6] 26 (0, 0))) ∧ Aside0 (Below w.heap.size w w'))
     case atStart => exact ⟨(true), (0), (by first | rfl | (simp; done) | (simp [*]; done)), (by first | rfl | (simp; done) | (simp [*]; done)), H', ⟨Nat.le_refl _⟩, ⟨by (with_reducible repeat (first | apply Kd.N_alloc | apply Kd.N_drewN | apply Kd.N_drew)); exact HO_4.out⟩, ⟨by (with_reducible repeat (first | refine blk_drewN ?_ _ | refine blk_drew ?_ | refine blk_alloc ?_ _)); exact BK422.out⟩, ⟨by repeat (first | (with_reducible first | exact HB.out | apply below_alloc | apply pw_below_drewN | apply below_drew1 | refine below_set ?_ GE422.out) | exact HB.out)⟩⟩
     case round =>
      clear H'
      try clear p2
      try clear c3
      try clear c3b0
      try clear c3b1
      try clear c7
      try clear c7b0
      try clear hcz5_0
      try clear hcz5_1
      try clear hcz5_2
      try clear hcz5_3
      try clear hcz5_4
      try clear hcz5_5
      try clear hcz5_6
      try clear hcz8_0
      try clear hcz8_1
      try clear hcz8_2
      try clear hcz8_3
      try clear hcz8_4
      try clear hcz8_5
      try clear hcz8_6
      try clear hfz5_0
      try clear hfz5_1
      try clear hfz5_2
      try clear hfz5_3
      try clear hfz5_4
      try clear hfz5_5
      try clear hfz5_6
      try clear hfz8_0
      try clear hfz8_1
      try clear hfz8_2
      try clear hfz8_3
      try clear hfz8_4
      try clear hfz8_5
      try clear hfz8_6
      try clear p2
      obtain ⟨x7_2, x8_2, rfl, rfl, HA, HK2, HO_4, BK422, HB⟩ := hrel
      cases gk with
      | zero => exact absurd HA.out (by simp [macadamref06_First.l1])
      | succ k2 =>
       have H := HA.out
       clear HA
       simp only [macadamref06_First.l1] at H
       by_cases c9 : x8_2 < (t423.length : Int)
       ·rw [if_pos c9] at H
        have c9b0 : decide (x8_2 < (t423.length : Int)) = true := decide_eq_true c9
        clear c9
        by_cases c10 : x7_2 = true
        ·subst c10
         have H1 : (if 0 ≤ x8_2 then ((macadamref06_late.f l0_0 a0_1 a0_2 a0_3 a0_4 l0_5 a0_6 ((rd_T92 t423 x8_2).f0) ((rd_T92 t423 x8_2).f1) ((rd_T92 t423 x8_2).f2) x6_1).bind fun t428 => (macadamref06_First.l1 k2 t423 x6_1 (decide (t428 > 0)) (wrap64 (x8_2 + 1)) l0_0 a0_1 a0_2 a0_3 a0_4 l0_5 a0_6)) else (none)) = some (r1, r2) := by rw [if_pos rfl] at H; exact H
         clear H
         have H := H1
         clear H1
         by_cases c11 : 0 ≤ x8_2
         ·rw [if_pos c11] at H
          have c11b0 : decide (0 ≤ x8_2) = true := decide_eq_true c11
          clear c11
          replace H := Option.bind_eq_some_iff.mp H
          obtain ⟨t428, A120, H⟩ := H
          replace H : (macadamref06_First.l1 k2 t423 x6_1 (decide (t428 > 0)) (wrap64 (x8_2 + 1)) l0_0 a0_1 a0_2 a0_3 a0_4 l0_5 a0_6) = some (r1, r2) := H
          have A12 := Aside0.mk A120
          clear A120
          have H' := Aside0.mk H
          clear H
          obtain ⟨Ao13, co13, eo13⟩ := Kd.N_slice HO_4.out
          subst eo13
          try go_wp2
          have n0_ := Aside0.mk (Kd.N_drew HO_4.out)
          have n1_ := Aside0.mk (blk_drew BK422.out)
          have n2_ := Aside0.mk (below_drew1 HB.out)
          clear HO_4
          clear BK422
          clear HB
          have HO_4 := n0_
          have BK422 := n1_
          have HB := n2_
          clear n0_ n1_ n2_
          have p427 : 0 ≤ (x8_2 : Int) := of_decide_eq_true (by first | (with_reducible assumption) | assumption)
          have q427 : x8_2 < (t423.length : Int) := of_decide_eq_true (by first | (with_reducible assumption) | assumption)
          obtain ⟨ad427, A427_1, c427_1, A427_2, c427_2, e427, hx427_0, hx427_1, hx427_2, hl427_1, hi427_1, hl427_2, hi427_2⟩ := at_T92 (Kd.N_reads' HO_4.out).2.2 x8_2 p427 q427
          cases e427
          obtain ⟨ce427, hce427, hMe427, hcc427⟩ := Kd.N_get HO_4.out z92 x8_2 p427 (by first | exact q427 | exact of_decide_eq_true (by first | (with_reducible assumption) | assumption) | (have e_ := (Kd.N_reads' HO_4.out).1; omega))
          obtain ⟨ua427_1, uc427_1, ua427_2, uc427_2, rfl, ul427_1, ge427_1, ul427_2, ge427_2⟩ := k92_openF hMe427
          have hv427_1 := hcc427 1 _ rfl
          rw [add_field _ _ 1 (by omega)] at hv427_1
          replace hv427_1 := Option.some.inj (hv427_1.symm.trans hx427_1)
          injection hv427_1 with hva_ hvn_ hvc_
          rw [hva_] at ge427_1
          rw [hvc_] at ul427_1
          have HL427_1 := Aside0.mk (show Kd.V (Kd.int .i64) 3 _ w.heap.size _ _ ((rd_T92 t423 x8_2).f1) from Kd.V_mk ul427_1 ge427_1)
          clear hva_ hvn_ hvc_ ge427_1 ul427_1
          have hv427_2 := hcc427 2 _ rfl
          rw [add_field _ _ 2 (by omega)] at hv427_2
          replace hv427_2 := Option.some.inj (hv427_2.symm.trans hx427_2)
          injection hv427_2 with hva_ hvn_ hvc_
          rw [hva_] at ge427_2
          rw [hvc_] at ul427_2
          have HL427_2 := Aside0.mk (show Kd.V (Kd.int .i64) 3 _ w.heap.size _ _ ((rd_T92 t423 x8_2).f2) from Kd.V_mk ul427_2 ge427_2)
          clear hva_ hvn_ hvc_ ge427_2 ul427_2
          clear hcc427 hce427
          have HR427_1 := Aside0.mk hi427_1
          have HC427_1 := Aside0.mk hl427_1
          clear hi427_1 hl427_1
          have HR427_2 := Aside0.mk hi427_2
          have HC427_2 := Aside0.mk hl427_2
          clear hi427_2 hl427_2
          replace p427 := eq_true p427
          replace q427 := eq_true q427
          refine start_ (n := 12) (S := fun w' => w'.cell? ⟨gb422, 0, none⟩ = some (.slice A0_0 l0_0.length c0_0) ∧ w'.cell? ⟨gb422, 1, none⟩ = some (.int .i64 a0_1) ∧ w'.cell? ⟨gb422, 2, none⟩ = some (.int .i64 a0_2) ∧ w'.cell? ⟨gb422, 3, none⟩ = some (.int .i64 a0_3) ∧ w'.cell? ⟨gb422, 4, none⟩ = some (.int .i64 a0_4) ∧ w'.cell? ⟨gb422, 5, none⟩ = some (.slice A0_5 l0_5.length c0_5) ∧ w'.cell? ⟨gb422, 6, none⟩ = some (.int .i64 a0_6) ∧ w'.cell? (ad427.add ((x8_2).toNat * 3)) = some (.int .i64 ((rd_T92 t423 x8_2).f0)) ∧ w'.cell? ⟨(ad427.add ((x8_2).toNat * 3)).block, (ad427.add ((x8_2).toNat * 3)).off + 1, none⟩ = some (.slice A427_1 ((rd_T92 t423 x8_2).f1).length c427_1) ∧ w'.cell? ⟨(ad427.add ((x8_2).toNat * 3)).block, (ad427.add ((x8_2).toNat * 3)).off + 2, none⟩ = some (.slice A427_2 ((rd_T92 t423 x8_2).f2).length c427_2)) (ds := []) (bl 12 0) (by kernel_rfl) rfl (by kernel_rfl) ⟨(blk_cell BK422.out 0).trans rfl, (blk_cell BK422.out 1).trans rfl, (blk_cell BK422.out 2).trans rfl, (blk_cell BK422.out 3).trans rfl, (blk_cell BK422.out 4).trans rfl, (blk_cell BK422.out 5).trans rfl, (blk_cell BK422.out 6).trans rfl, hx427_0, hx427_1, hx427_2⟩ (fun hHeld => ?_); refine with_tabW macadamref06_First.tab11 macadamref06_First.bits11 (fun HT_ HW_ => ?_)
          generalize wr.drew = w14 at HO_4 BK422 HB HL427_1 HL427_2 HR427_1 HR427_2 hx427_0 hx427_1 hx427_2 hHeld ⊢
          refine pu_ 0 (some 30) (bl 12 1) rfl rfl (by kernel_rfl) (fun _ _ _ h => h) (by rfl) (by intro w'; go_simp; with_reducible rfl) (by simp only [nrm_]; rfl) ?_
          refine pu_ 1 (some 31) (bl 12 3) rfl rfl (by kernel_rfl) (fun _ _ _ h => h) (by rfl) (by intro w'; go_simp; with_reducible rfl) (by simp only [nrm_]; rfl) ?_
          refine pu_ 3 (some 33) (bl 12 11) rfl rfl (by kernel_rfl) (fun _ _ _ h => h) (by rfl) (by intro w'; go_simp; with_reducible rfl) (by simp only [nrm_]; rfl) ?_
          refine pu_ 4 (some 34) (bl 12 27) rfl rfl (by kernel_rfl) (fun _ _ _ h => h) (by rfl) (by intro w'; go_simp; with_reducible rfl) (by simp only [nrm_]; rfl) ?_
          refine pu_ 5 (some 35) (bl 12 59) rfl rfl (by kernel_rfl) (fun _ _ _ h => h) (by rfl) (by intro w'; go_simp; with_reducible rfl) (by simp only [nrm_]; rfl) ?_
          refine pu_ 7 (some 37) (bl 12 187) rfl rfl (by kernel_rfl) (fun _ _ _ h => h) (by rfl) (by intro w'; go_simp; with_reducible rfl) (by simp only [nrm_]; rfl) ?_
          refine tk_ 2 (some 32) (bl 12 191) rfl rfl (by kernel_rfl) (fun _ _ _ h => h) hHeld (by rfl) (by rintro w' ⟨s0, s1, s2, s3, s4, s5, s6, s7, s8, s9⟩; go_simp; with_reducible rfl) (by simp only [nrm_]; rfl) ?_
          refine tk_ 6 (some 36) (bl 12 255) rfl rfl (by kernel_rfl) (fun _ _ _ h => h) hHeld (by rfl) (by rintro w' ⟨s0, s1, s2, s3, s4, s5, s6, s7, s8, s9⟩; go_simp; with_reducible rfl) (by simp only [nrm_]; rfl) ?_
          refine one_ (i := 8) (N := some 38) (bl 12 511) rfl rfl (one_of HT_.out (by kernel_rfl)) (by decide) (fun K hK => ?_)
          refine goes_ Tryd.func78 (by kernel_rfl) rfl #[.agg #[.slice A0_0 l0_0.length c0_0, .int .i64 a0_1, .int .i64 a0_2, .int .i64 a0_3, .int .i64 a0_4, .slice A0_5 l0_5.length c0_5, .int .i64 a0_6], .agg #[.int .i64 ((rd_T92 t423 x8_2).f0), .slice A427_1 ((rd_T92 t423 x8_2).f1).length c427_1, .slice A427_2 ((rd_T92 t423 x8_2).f2).length c427_2], .int .i64 x6_1] (by rfl) rfl rfl (by (try simp only [List.map_toArray, List.map_cons, List.map_nil]); first | done | rfl | (simp only [List.length_drop, List.length_take]; rfl)) ?_
          with_reducible refine (macadamref06_late.calls _ _ l0_0 a0_1 a0_2 a0_3 a0_4 _ _ l0_5 a0_6 ((rd_T92 t423 x8_2).f0) _ _ ((rd_T92 t423 x8_2).f1) _ _ ((rd_T92 t423 x8_2).f2) x6_1 t428 _ ?side1 ?side2 ?side3 ?side4 ?side5 ?side6 ?side7 ?side8 A12.out).mono ?_
          (case side1 => repeat (first | exact (Kd.C_below HR0_0.out HB.out) | (with_reducible refine Kd.C_alloc ?_ _) | (with_reducible refine Kd.C_drewN ?_ _) | (with_reducible refine Kd.C_drew ?_)))
          (case side2 => exact HC0_0.out)
          (case side3 => repeat (first | exact (Kd.C_below HR0_5.out HB.out) | (with_reducible refine Kd.C_alloc ?_ _) | (with_reducible refine Kd.C_drewN ?_ _) | (with_reducible refine Kd.C_drew ?_)))
          (case side4 => exact HC0_5.out)
          (case side5 => repeat (first | exact (by repeat (first | (with_reducible exact HR427_1.out) | (with_reducible refine Kd.C_alloc ?_ _) | (with_reducible refine Kd.C_drewN ?_ _) | (with_reducible refine Kd.C_drew ?_) | exact HR427_1.out)) | (with_reducible refine Kd.C_alloc ?_ _) | (with_reducible refine Kd.C_drewN ?_ _) | (with_reducible refine Kd.C_drew ?_)))
          (case side6 => exact HC427_1.out)
          (case side7 => repeat (first | exact (by repeat (first | (with_reducible exact HR427_2.out) | (with_reducible refine Kd.C_alloc ?_ _) | (with_reducible refine Kd.C_drewN ?_ _) | (with_reducible refine Kd.C_drew ?_) | exact HR427_2.out)) | (with_reducible refine Kd.C_alloc ?_ _) | (with_reducible refine Kd.C_drewN ?_ _) | (with_reducible refine Kd.C_drew ?_)))
          (case side8 => exact HC427_2.out)
          rintro e w15 ⟨rfl, hb⟩
          have HS7_ := (hb.cell (World.block_lt_of_cell? _ _ (hHeld.2.2.2.2.2.2.2.1))).trans (hHeld.2.2.2.2.2.2.2.1)
          have HS8_ := (hb.cell (World.block_lt_of_cell? _ _ (hHeld.2.2.2.2.2.2.2.2.1))).trans (hHeld.2.2.2.2.2.2.2.2.1)
          have HS9_ := (hb.cell (World.block_lt_of_cell? _ _ (hHeld.2.2.2.2.2.2.2.2.2))).trans (hHeld.2.2.2.2.2.2.2.2.2)
          refine ⟨_, rfl, ?_⟩
          have n0_ := Aside0.mk (Kd.N_below (by (with_reducible repeat (first | apply Kd.N_alloc | apply Kd.N_drewN | apply Kd.N_drew)); exact HO_4.out) hb)
          have n1_ := Aside0.mk (Kd.V_below (by (with_reducible repeat (first | apply Kd.V_alloc | apply Kd.V_drewN | apply Kd.V_drew)); exact HL427_1.out) hb)
          have n2_ := Aside0.mk (Kd.V_below (by (with_reducible repeat (first | apply Kd.V_alloc | apply Kd.V_drewN | apply Kd.V_drew)); exact HL427_2.out) hb)
          have n3_ := Aside0.mk (blk_below (g := gb422) (o := .cells #[.slice A0_0 l0_0.length c0_0, .int .i64 a0_1, .int .i64 a0_2, .int .i64 a0_3, .int .i64 a0_4, .slice A0_5 l0_5.length c0_5, .int .i64 a0_6] 26 (0, 0)) (by (with_reducible repeat (first | refine blk_drewN ?_ _ | refine blk_drew ?_ | refine blk_alloc ?_ _)); exact BK422.out) hb)
          have n4_ := Aside0.mk (Kd.C_below (by repeat (first | (with_reducible exact HR427_1.out) | (with_reducible refine Kd.C_alloc ?_ _) | (with_reducible refine Kd.C_drewN ?_ _) | (with_reducible refine Kd.C_drew ?_) | exact HR427_1.out)) hb)
          have n5_ := Aside0.mk (Kd.C_below (by repeat (first | (with_reducible exact HR427_2.out) | (with_reducible refine Kd.C_alloc ?_ _) | (with_reducible refine Kd.C_drewN ?_ _) | (with_reducible refine Kd.C_drew ?_) | exact HR427_2.out)) hb)
          have n6_ := Aside0.mk (below_step (by repeat (first | (with_reducible first | exact HB.out | apply below_alloc | apply pw_below_drewN | apply below_drew1 | refine below_set ?_ GE422.out) | exact HB.out)) hb)
          clear HO_4
          clear HL427_1
          clear HL427_2
          clear BK422
          clear HR427_1
          clear HR427_2
          clear HB
          have HO_4 := n0_
          have HL427_1 := n1_
          have HL427_2 := n2_
          have BK422 := n3_
          have HR427_1 := n4_
          have HR427_2 := n5_
          have HB := n6_
          clear n0_ n1_ n2_ n3_ n4_ n5_ n6_
          (try clear hb)
          (try clear hb2)
          (try clear hk)
          (try clear hi)
          refine hK.out _ _ ⟨(blk_cell BK422.out 0).trans rfl, (blk_cell BK422.out 1).trans rfl, (blk_cell BK422.out 2).trans rfl, (blk_cell BK422.out 3).trans rfl, (blk_cell BK422.out 4).trans rfl, (blk_cell BK422.out 5).trans rfl, (blk_cell BK422.out 6).trans rfl, HS7_, HS8_, HS9_⟩ (fun hHeld => ?_)
          clear hK K
          refine norm_ (a' := ?_) ?_ ?_
          rotate_left
          ·show Act.put _ (some 38) _ = _
           simp only [nrm_]
           rfl
          refine pu_ 9 (some 39) (bl 12 1023) rfl rfl (by kernel_rfl) (fun _ _ _ h => h) (by rfl) (by intro w'; go_simp; with_reducible rfl) (by simp only [nrm_]; rfl) ?_
          refine pu_ 10 (some 40) (bl 12 2047) rfl rfl (by kernel_rfl) (fun _ _ _ h => h) (by rfl) (by intro w'; go_simp; with_reducible rfl) (by simp only [nrm_]; rfl) ?_
          refine pu_ 11 (some 7) (bl 12 4095) rfl rfl (by kernel_rfl) (fun _ _ _ h => h) (by rfl) (by intro w'; go_simp; with_reducible rfl) (by simp only [nrm_]; rfl) ?_
          refine done_ (done_of HT_.out (by kernel_rfl)) ?_
          try go_wp2
          go_roundg k2
          case measure => have := HK1.out; have := HK2.out; omega
          case rel => exact ⟨(decide (t428 > 0)), (wrap64 (x8_2 + 1)), (by first | rfl | (simp; done) | (simp [*]; done)), (by first | rfl | (simp; done) | (simp [*]; done)), H', ⟨by have := HK1.out; have := HK2.out; omega⟩, ⟨by (with_reducible repeat (first | apply Kd.N_alloc | apply Kd.N_drewN | apply Kd.N_drew)); exact HO_4.out⟩, ⟨by (with_reducible repeat (first | refine blk_drewN ?_ _ | refine blk_drew ?_ | refine blk_alloc ?_ _)); exact BK422.out⟩, ⟨by repeat (first | (with_reducible first | exact HB.out | apply below_alloc | apply pw_below_drewN | apply below_drew1 | refine below_set ?_ GE422.out) | exact HB.out)⟩⟩
         ·rw [if_neg c11] at H
          exact absurd H (by simp)
        ·replace c10 := Bool.eq_false_iff.mpr c10
         subst c10
         have H1 : (macadamref06_First.l1 k2 t423 x6_1 false (wrap64 (x8_2 + 1)) l0_0 a0_1 a0_2 a0_3 a0_4 l0_5 a0_6) = some (r1, r2) := by rw [if_neg (show ¬ (false = true) by decide)] at H; exact H
         clear H
         have H := H1
         clear H1
         have H' := Aside0.mk H
         clear H
         obtain ⟨Ao16, co16, eo16⟩ := Kd.N_slice HO_4.out
         subst eo16
         try go_wp2
         have n0_ := Aside0.mk (Kd.N_drew HO_4.out)
         have n1_ := Aside0.mk (blk_drew BK422.out)
         have n2_ := Aside0.mk (below_drew1 HB.out)
         clear HO_4
         clear BK422
         clear HB
         have HO_4 := n0_
         have BK422 := n1_
         have HB := n2_
         clear n0_ n1_ n2_
         refine start_ (n := 12) (S := fun w' => True) (ds := []) (bl 12 0) (by kernel_rfl) rfl (by kernel_rfl) trivial (fun hHeld => ?_); refine with_tabW macadamref06_First.tab11 macadamref06_First.bits11 (fun HT_ HW_ => ?_)
         generalize wr.drew = w17 at HO_4 BK422 HB hHeld ⊢
         refine pu_ 0 (some 30) (bl 12 1) rfl rfl (by kernel_rfl) (fun _ _ _ h => h) (by rfl) (by intro w'; go_simp; with_reducible rfl) (by simp only [nrm_]; rfl) ?_
         refine pu_ 1 (some 31) (bl 12 3) rfl rfl (by kernel_rfl) (fun _ _ _ h => h) (by rfl) (by intro w'; go_simp; with_reducible rfl) (by simp only [nrm_]; rfl) ?_
         refine po_ 2 (some 32) (bl 12 7) rfl rfl (by kernel_rfl) (fun _ _ _ h => h) (by rfl) (by simp only [nrm_]; rfl) ?_
         refine po_ 3 (some 33) (bl 12 15) rfl rfl (by kernel_rfl) (fun _ _ _ h => h) (by rfl) (by simp only [nrm_]; rfl) ?_
         refine po_ 4 (some 34) (bl 12 31) rfl rfl (by kernel_rfl) (fun _ _ _ h => h) (by rfl) (by simp only [nrm_]; rfl) ?_
         refine po_ 5 (some 35) (bl 12 63) rfl rfl (by kernel_rfl) (fun _ _ _ h => h) (by rfl) (by simp only [nrm_]; rfl) ?_
         refine po_ 6 (some 36) (bl 12 127) rfl rfl (by kernel_rfl) (fun _ _ _ h => h) (by rfl) (by simp only [nrm_]; rfl) ?_
         refine po_ 7 (some 37) (bl 12 255) rfl rfl (by kernel_rfl) (fun _ _ _ h => h) (by rfl) (by simp only [nrm_]; rfl) ?_
         refine po_ 8 (some 38) (bl 12 511) rfl rfl (by kernel_rfl) (fun _ _ _ h => h) (by rfl) (by simp only [nrm_]; rfl) ?_
         refine po_ 9 (some 39) (bl 12 1023) rfl rfl (by kernel_rfl) (fun _ _ _ h => h) (by rfl) (by simp only [nrm_]; rfl) ?_
         refine pu_ 10 (some 40) (bl 12 2047) rfl rfl (by kernel_rfl) (fun _ _ _ h => h) (by rfl) (by intro w'; go_simp; with_reducible rfl) (by simp only [nrm_]; rfl) ?_
         refine pu_ 11 (some 7) (bl 12 4095) rfl rfl (by kernel_rfl) (fun _ _ _ h => h) (by rfl) (by intro w'; go_simp; with_reducible rfl) (by simp only [nrm_]; rfl) ?_
         refine done_ (done_of HT_.out (by kernel_rfl)) ?_
         try go_wp2
         go_roundg k2
         case measure => have := HK1.out; have := HK2.out; omega
         case rel => exact ⟨(false), (wrap64 (x8_2 + 1)), (by first | rfl | (simp; done) | (simp [*]; done)), (by first | rfl | (simp; done) | (simp [*]; done)), H', ⟨by have := HK1.out; have := HK2.out; omega⟩, ⟨by (with_reducible repeat (first | apply Kd.N_alloc | apply Kd.N_drewN | apply Kd.N_drew)); exact HO_4.out⟩, ⟨by (with_reducible repeat (first | refine blk_drewN ?_ _ | refine blk_drew ?_ | refine blk_alloc ?_ _)); exact BK422.out⟩, ⟨by repeat (first | (with_reducible first | exact HB.out | apply below_alloc | apply pw_below_drewN | apply below_drew1 | refine below_set ?_ GE422.out) | exact HB.out)⟩⟩
       ·rw [if_neg c9] at H
        have c9b0 : decide (x8_2 < (t423.length : Int)) = false := decide_eq_false c9
        clear c9
        by_cases c18 : x7_2 = true
        ·subst c18
         have H1 : (some (x6_1, 0)) = some (r1, r2) := by rw [if_pos rfl] at H; exact H
         clear H
         have H := H1
         clear H1
         simp only [Option.some.injEq, Prod.mk.injEq] at H
         obtain ⟨rfl, rfl⟩ := H
         obtain ⟨Ao19, co19, eo19⟩ := Kd.N_slice HO_4.out
         subst eo19
         go_wp2
         go_ret2
         exact ⟨by first | rfl | (simp [errW_none, errW_some] <;> rfl) | (simp only [i64_w, i32_w] <;> rfl) | (simp [*, errW_none, errW_some] <;> rfl), by repeat (first | (with_reducible first | exact HB.out | apply below_alloc | apply pw_below_drewN | apply below_drew1 | refine below_set ?_ GE422.out) | exact HB.out)⟩
        ·replace c18 := Bool.eq_false_iff.mpr c18
         subst c18
         have H1 : (macadamref06_First.l0 k2 t423 (wrap64 (x6_1 + 1)) l0_0 a0_1 a0_2 a0_3 a0_4 l0_5 a0_6) = some (r1, r2) := by rw [if_neg (show ¬ (false = true) by decide)] at H; exact H
         clear H
         have H := H1
         clear H1
         have H' := Aside0.mk H
         clear H
         obtain ⟨Ao20, co20, eo20⟩ := Kd.N_slice HO_4.out
         subst eo20
         go_wp2
         go_roundg k2
         case measure => have := HK1.out; have := HK2.out; omega
         case rel => exact ⟨(wrap64 (x6_1 + 1)), (by first | rfl | (simp; done) | (simp [*]; done)), H', ⟨by have := HK1.out; have := HK2.out; omega⟩, ⟨by (with_reducible repeat (first | apply Kd.N_alloc | apply Kd.N_drewN | apply Kd.N_drew)); exact HO_4.out⟩, ⟨by (with_reducible repeat (first | refine blk_drewN ?_ _ | refine blk_drew ?_ | refine blk_alloc ?_ _)); exact BK422.out⟩, ⟨by repeat (first | (with_reducible first | exact HB.out | apply below_alloc | apply pw_below_drewN | apply below_drew1 | refine below_set ?_ GE422.out) | exact HB.out)⟩⟩
    ·rw [if_neg c7] at H
     have c7b0 : decide (x6_1 < (l0_0.length : Int)) = false := decide_eq_false c7
     clear c7
     simp only [Option.some.injEq, Prod.mk.injEq] at H
     obtain ⟨rfl, rfl⟩ := H
     have hcz21_0 : wr.cell? ⟨gb422, 0, none⟩ = some (.slice A0_0 l0_0.length c0_0) := (blk_cell BK422.out 0).trans rfl
     have hcz21_1 : wr.cell? ⟨gb422, 1, none⟩ = some (.int .i64 a0_1) := (blk_cell BK422.out 1).trans rfl
     have hcz21_2 : wr.cell? ⟨gb422, 2, none⟩ = some (.int .i64 a0_2) := (blk_cell BK422.out 2).trans rfl
     have hcz21_3 : wr.cell? ⟨gb422, 3, none⟩ = some (.int .i64 a0_3) := (blk_cell BK422.out 3).trans rfl
     have hcz21_4 : wr.cell? ⟨gb422, 4, none⟩ = some (.int .i64 a0_4) := (blk_cell BK422.out 4).trans rfl
     have hcz21_5 : wr.cell? ⟨gb422, 5, none⟩ = some (.slice A0_5 l0_5.length c0_5) := (blk_cell BK422.out 5).trans rfl
     have hcz21_6 : wr.cell? ⟨gb422, 6, none⟩ = some (.int .i64 a0_6) := (blk_cell BK422.out 6).trans rfl
     have hfz21_0 := blk_frozen BK422.out 0
     have hfz21_1 := blk_frozen BK422.out 1
     have hfz21_2 := blk_frozen BK422.out 2
     have hfz21_3 := blk_frozen BK422.out 3
     have hfz21_4 := blk_frozen BK422.out 4
     have hfz21_5 := blk_frozen BK422.out 5
     have hfz21_6 := blk_frozen BK422.out 6
     go_wp2
     go_ret2
     exact ⟨by first | rfl | (simp [errW_none, errW_some] <;> rfl) | (simp only [i64_w, i32_w] <;> rfl) | (simp [*, errW_none, errW_some] <;> rfl), by repeat (first | (with_reducible first | exact HB.out | apply below_alloc | apply pw_below_drewN | apply below_drew1 | refine below_set ?_ GE422.out) | exact HB.out)⟩
 ·rw [if_neg c3] at H
  have c3b0 : (t426 == 0) = false := beq_eq_false_iff_ne.mpr c3
  have c3b1 : (t426 != 0) = true := bne_iff_ne.mpr c3
  simp only [Option.some.injEq, Prod.mk.injEq] at H
  obtain ⟨rfl, rfl⟩ := H
  go_enter Tryd.func35, Tryd.ntmps35
  go_wp2_with (first | ((with_reducible refine gate_dst (N := 1) rfl ?_); refine box_event ?hg (N := 1) ?hd (cs := #[.slice A0_0 l0_0.length c0_0, .int .i64 a0_1, .int .i64 a0_2, .int .i64 a0_3, .int .i64 a0_4, .slice A0_5 l0_5.length c0_5, .int .i64 a0_6]) (t := 26) ?hr ?_; (case hd => rfl); (case hg => rfl); (case hr => first | (go_simp; done) | (go_simp; rfl)); intro gb422 hg w22 hbox hb; have n0_ := Aside0.mk (below_step (by repeat (first | (with_reducible first | exact HB.out | apply below_alloc | apply pw_below_drewN | apply below_drew1) | exact HB.out)) hb); have n1_ := Aside0.mk (hbox); have n2_ := Aside0.mk ((by rw [hg]; exact (below_size (by repeat (first | (with_reducible first | exact HB.out | apply below_alloc | apply pw_below_drewN | apply below_drew1) | exact HB.out))) : w.heap.size ≤ gb422)); have n3_ := Aside0.mk ((by rw [hg]; exact (below_size (by repeat (first | (with_reducible first | exact HB.out | apply below_alloc | apply pw_below_drewN | apply below_drew1) | exact HB.out))) : w.heap.size ≤ gb422)); clear HB; have HB := n0_; have BK422 := n1_; have GW422 := n2_; have GE422 := n3_; clear n0_ n1_ n2_ n3_; clear hb hbox hg; have hcz23_0 : w22.cell? ⟨gb422, 0, none⟩ = some (.slice A0_0 l0_0.length c0_0) := (blk_cell BK422.out 0).trans rfl; have hcz23_1 : w22.cell? ⟨gb422, 1, none⟩ = some (.int .i64 a0_1) := (blk_cell BK422.out 1).trans rfl; have hcz23_2 : w22.cell? ⟨gb422, 2, none⟩ = some (.int .i64 a0_2) := (blk_cell BK422.out 2).trans rfl; have hcz23_3 : w22.cell? ⟨gb422, 3, none⟩ = some (.int .i64 a0_3) := (blk_cell BK422.out 3).trans rfl; have hcz23_4 : w22.cell? ⟨gb422, 4, none⟩ = some (.int .i64 a0_4) := (blk_cell BK422.out 4).trans rfl; have hcz23_5 : w22.cell? ⟨gb422, 5, none⟩ = some (.slice A0_5 l0_5.length c0_5) := (blk_cell BK422.out 5).trans rfl; have hcz23_6 : w22.cell? ⟨gb422, 6, none⟩ = some (.int .i64 a0_6) := (blk_cell BK422.out 6).trans rfl; have hfz23_0 := blk_frozen BK422.out 0; have hfz23_1 := blk_frozen BK422.out 1; have hfz23_2 := blk_frozen BK422.out 2; have hfz23_3 := blk_frozen BK422.out 3; have hfz23_4 := blk_frozen BK422.out 4; have hfz23_5 := blk_frozen BK422.out 5; have hfz23_6 := blk_frozen BK422.out 6) | ((with_reducible refine gate_callee (f := 73) rfl ?_); refine goesL_ (some 11) rfl rfl Tryd.func73 (by kernel_rfl) rfl #[.agg #[.slice A0_0 l0_0.length c0_0, .int .i64 a0_1, .int .i64 a0_2, .int .i64 a0_3, .int .i64 a0_4, .slice A0_5 l0_5.length c0_5, .int .i64 a0_6], .bool true] rfl (by (try simp only [List.map_toArray, List.map_cons, List.map_nil]); first | done | rfl | (simp only [List.length_drop, List.length_take]; rfl)) ?_; (with_reducible refine (macadamref06_asked.calls k _ _ l0_0 a0_1 a0_2 a0_3 a0_4 _ _ l0_5 a0_6 true t423 t426 _ ?side1 ?side2 ?side3 ?side4 A2.out).mono ?_); (case side1 => repeat (first | exact (Kd.C_below HR0_0.out HB.out) | (with_reducible refine Kd.C_alloc ?_ _) | (with_reducible refine Kd.C_drewN ?_ _) | (with_reducible refine Kd.C_drew ?_))); (case side2 => exact HC0_0.out); (case side3 => repeat (first | exact (Kd.C_below HR0_5.out HB.out) | (with_reducible refine Kd.C_alloc ?_ _) | (with_reducible refine Kd.C_drewN ?_ _) | (with_reducible refine Kd.C_drew ?_))); (case side4 => exact HC0_5.out); rintro e w24 ⟨v424, rfl, ho0, hb⟩; refine ⟨_, rfl, ?_⟩; have n0_ := Aside0.mk (Kd.N_lower (Kd.N_mono (ok' := fun k_ => k_ ≠ gb422) ho0 (fun k_ hk_ => (Kd.freshB (g := gb422) (o := .cells #[.slice A0_0 l0_0.length c0_0, .int .i64 a0_1, .int .i64 a0_2, .int .i64 a0_3, .int .i64 a0_4, .slice A0_5 l0_5.length c0_5, .int .i64 a0_6] 26 (0, 0)) (by (with_reducible repeat (first | refine blk_drewN ?_ _ | refine blk_drew ?_ | refine blk_alloc ?_ _)); exact BK422.out) k_ hk_))) (below_size (by repeat (first | (with_reducible first | exact HB.out | apply below_alloc | apply pw_below_drewN | apply below_drew1 | refine below_set ?_ GE422.out) | exact HB.out)))); have n1_ := Aside0.mk (blk_below (g := gb422) (o := .cells #[.slice A0_0 l0_0.length c0_0, .int .i64 a0_1, .int .i64 a0_2, .int .i64 a0_3, .int .i64 a0_4, .slice A0_5 l0_5.length c0_5, .int .i64 a0_6] 26 (0, 0)) (by (with_reducible repeat (first | refine blk_drewN ?_ _ | refine blk_drew ?_ | refine blk_alloc ?_ _)); exact BK422.out) hb); have n2_ := Aside0.mk (below_step (by repeat (first | (with_reducible first | exact HB.out | apply below_alloc | apply pw_below_drewN | apply below_drew1 | refine below_set ?_ GE422.out) | exact HB.out)) hb); clear BK422; clear HB; have HO425 := n0_; have BK422 := n1_; have HB := n2_; clear n0_ n1_ n2_; (try clear hb); (try clear hb2); (try clear hk); (try clear hi); (try clear ho0)))
  go_ret2
  exact ⟨by first | rfl | (simp [errW_none, errW_some] <;> rfl) | (simp only [i64_w, i32_w] <;> rfl) | (simp [*, errW_none, errW_some] <;> rfl), by repeat (first | (with_reducible first | exact HB.out | apply below_alloc | apply pw_below_drewN | apply below_drew1 | refine below_set ?_ GE422.out) | exact HB.out)⟩
end Go.Proofs.YtbhjfojbjpbdbaaDoorPX
namespace Go.Proofs.YtbhjfojbjpbdbaaDoorPX
open Go.Proofs.YtbhjfojbjpbdbaaDoor (Glob ix3 blk_ix3 bl nrm_ pu_ po_ tk_)
open Go.RowKit Go.Proofs.YtbhjfojbjpbdbaaDoorW.PrintWords Go.Proofs.YtbhjfojbjpbdbaaDoorW.PrintLast Go.Proofs.YtbhjfojbjpbdbaaDoorW.PrintMore

set_option linter.unusedVariables false
set_option linter.unusedSimpArgs false
theorem eqA32 (d : Nat) (w : World) (x0 y0 : Int) (x1 y1 : Int) :
  (Op.equalIn (d + 2) 32 (.agg #[.int .i64 x0, .int .i64 x1]) (.agg #[.int .i64 y0, .int .i64 y1])).run Tryd.prog w = .ok (x0 == y0 && (x1 == y1)) w := by
 refine eqA_of Tryd.underlying32 (by kernel_rfl) ?_
 refine eqf_cons (by rfl) (by go_simp; rfl) (by go_simp; rfl) (by go_simp) ?_
 exact eqf_last (by rfl) (by go_simp; rfl) (by go_simp; rfl) (by go_simp)
end Go.Proofs.YtbhjfojbjpbdbaaDoorPX
namespace Go.Proofs.YtbhjfojbjpbdbaaDoorPX
open Go.Proofs.YtbhjfojbjpbdbaaDoor (Glob ix3 blk_ix3 bl nrm_ pu_ po_ tk_)
open Go.RowKit Go.Proofs.YtbhjfojbjpbdbaaDoorW.PrintWords Go.Proofs.YtbhjfojbjpbdbaaDoorW.PrintLast Go.Proofs.YtbhjfojbjpbdbaaDoorW.PrintMore

set_option linter.unusedVariables false
set_option linter.unusedSimpArgs false
section
open Go.Proofs.YtbhjfojbjpbdbaaDoor
def claim_Weather.f (l0_0 : List (S56)) (a0_1 : Int) (a0_2 : Int) (a0_3 : Int) (a0_4 : Int) (l0_5 : List (S42)) (a0_6 : Int) : Option (Int × Int) := some (weatherS (bkOf l0_0 a0_1 a0_2 a0_3 a0_4 l0_5 a0_6))
theorem claim_Weather.calls (A0_0 : Option Addr) (c0_0 : Nat) (l0_0 : List (S56)) (a0_1 : Int) (a0_2 : Int) (a0_3 : Int) (a0_4 : Int) (A0_5 : Option Addr) (c0_5 : Nat) (l0_5 : List (S42)) (a0_6 : Int) (r1 : Int) (r2 : Int) (w : World) (hG : Glob w) (hr0_0 : Kd.C k56 w A0_0 l0_0.length l0_0) (hc0_0 : l0_0.length ≤ c0_0) (hr0_5 : Kd.C k42 w A0_5 l0_5.length l0_5) (hc0_5 : l0_5.length ≤ c0_5) (h : claim_Weather.f l0_0 a0_1 a0_2 a0_3 a0_4 l0_5 a0_6 = some (r1, r2)) :
  Calls Tryd.prog 26 #[.agg #[.slice A0_0 l0_0.length c0_0, .int .i64 a0_1, .int .i64 a0_2, .int .i64 a0_3, .int .i64 a0_4, .slice A0_5 l0_5.length c0_5, .int .i64 a0_6]] w fun e w' => e = .returned (.tuple #[.int .i64 r1, .int .i64 r2]) ∧ Below w.heap.size w w' := by
 unfold claim_Weather.f at h
 have h' := Option.some.inj h
 refine (weather_ex w (bkOf l0_0 a0_1 a0_2 a0_3 a0_4 l0_5 a0_6) _ _ _ _ _ _ _ (book_of hr0_0 hc0_0 hr0_5 hc0_5) hG).mono ?_
 rintro e w' ⟨rfl, hb⟩
 rw [h']
 exact ⟨rfl, hb⟩
end
section
open Go.Proofs.YtbhjfojbjpbdbaaDoor
def claim_Blame.f (l0_0 : List (S56)) (a0_1 : Int) (a0_2 : Int) (a0_3 : Int) (a0_4 : Int) (l0_5 : List (S42)) (a0_6 : Int) : Option (Int × Int) := some (blameS (bkOf l0_0 a0_1 a0_2 a0_3 a0_4 l0_5 a0_6))
theorem claim_Blame.calls (A0_0 : Option Addr) (c0_0 : Nat) (l0_0 : List (S56)) (a0_1 : Int) (a0_2 : Int) (a0_3 : Int) (a0_4 : Int) (A0_5 : Option Addr) (c0_5 : Nat) (l0_5 : List (S42)) (a0_6 : Int) (r1 : Int) (r2 : Int) (w : World) (hG : Glob w) (hr0_0 : Kd.C k56 w A0_0 l0_0.length l0_0) (hc0_0 : l0_0.length ≤ c0_0) (hr0_5 : Kd.C k42 w A0_5 l0_5.length l0_5) (hc0_5 : l0_5.length ≤ c0_5) (h : claim_Blame.f l0_0 a0_1 a0_2 a0_3 a0_4 l0_5 a0_6 = some (r1, r2)) :
  Calls Tryd.prog 28 #[.agg #[.slice A0_0 l0_0.length c0_0, .int .i64 a0_1, .int .i64 a0_2, .int .i64 a0_3, .int .i64 a0_4, .slice A0_5 l0_5.length c0_5, .int .i64 a0_6]] w fun e w' => e = .returned (.tuple #[.int .i64 r1, .int .i64 r2]) ∧ Below w.heap.size w w' := by
 unfold claim_Blame.f at h
 have h' := Option.some.inj h
 refine (blame_ex w (bkOf l0_0 a0_1 a0_2 a0_3 a0_4 l0_5 a0_6) _ _ _ _ _ _ _ (book_of hr0_0 hc0_0 hr0_5 hc0_5) hG).mono ?_
 rintro e w' ⟨rfl, hb⟩
 rw [h']
 exact ⟨rfl, hb⟩
end
section
open Go.Proofs.YtbhjfojbjpbdbaaDoor
def claim_Owes.f (l0_0 : List (S56)) (a0_1 : Int) (a0_2 : Int) (a0_3 : Int) (a0_4 : Int) (l0_5 : List (S42)) (a0_6 : Int) : Option (Int × Int × Int) := some (owesS (bkOf l0_0 a0_1 a0_2 a0_3 a0_4 l0_5 a0_6))
theorem claim_Owes.calls (A0_0 : Option Addr) (c0_0 : Nat) (l0_0 : List (S56)) (a0_1 : Int) (a0_2 : Int) (a0_3 : Int) (a0_4 : Int) (A0_5 : Option Addr) (c0_5 : Nat) (l0_5 : List (S42)) (a0_6 : Int) (r1 : Int) (r2 : Int) (r3 : Int) (w : World) (hG : Glob w) (hr0_0 : Kd.C k56 w A0_0 l0_0.length l0_0) (hc0_0 : l0_0.length ≤ c0_0) (hr0_5 : Kd.C k42 w A0_5 l0_5.length l0_5) (hc0_5 : l0_5.length ≤ c0_5) (h : claim_Owes.f l0_0 a0_1 a0_2 a0_3 a0_4 l0_5 a0_6 = some (r1, r2, r3)) :
  Calls Tryd.prog 30 #[.agg #[.slice A0_0 l0_0.length c0_0, .int .i64 a0_1, .int .i64 a0_2, .int .i64 a0_3, .int .i64 a0_4, .slice A0_5 l0_5.length c0_5, .int .i64 a0_6]] w fun e w' => e = .returned (.tuple #[.agg #[.int .i64 r1, .int .i64 r2], .int .i64 r3]) ∧ Below w.heap.size w w' := by
 unfold claim_Owes.f at h
 have h' := Option.some.inj h
 refine (owes_ex w (bkOf l0_0 a0_1 a0_2 a0_3 a0_4 l0_5 a0_6) _ _ _ _ _ _ _ (book_of hr0_0 hc0_0 hr0_5 hc0_5) hG).mono ?_
 rintro e w' ⟨rfl, hb⟩
 rw [h']
 exact ⟨rfl, hb⟩
end
section
open Go.Proofs.YtbhjfojbjpbdbaaDoor
def claim_Pays.f (l0_0 : List (S56)) (a0_1 : Int) (a0_2 : Int) (a0_3 : Int) (a0_4 : Int) (l0_5 : List (S42)) (a0_6 : Int) : Option (Int × Int) := some (paysS (bkOf l0_0 a0_1 a0_2 a0_3 a0_4 l0_5 a0_6))
theorem claim_Pays.calls (A0_0 : Option Addr) (c0_0 : Nat) (l0_0 : List (S56)) (a0_1 : Int) (a0_2 : Int) (a0_3 : Int) (a0_4 : Int) (A0_5 : Option Addr) (c0_5 : Nat) (l0_5 : List (S42)) (a0_6 : Int) (r1 : Int) (r2 : Int) (w : World) (hG : Glob w) (hr0_0 : Kd.C k56 w A0_0 l0_0.length l0_0) (hc0_0 : l0_0.length ≤ c0_0) (hr0_5 : Kd.C k42 w A0_5 l0_5.length l0_5) (hc0_5 : l0_5.length ≤ c0_5) (h : claim_Pays.f l0_0 a0_1 a0_2 a0_3 a0_4 l0_5 a0_6 = some (r1, r2)) :
  Calls Tryd.prog 32 #[.agg #[.slice A0_0 l0_0.length c0_0, .int .i64 a0_1, .int .i64 a0_2, .int .i64 a0_3, .int .i64 a0_4, .slice A0_5 l0_5.length c0_5, .int .i64 a0_6]] w fun e w' => e = .returned (.tuple #[.int .i64 r1, .int .i64 r2]) ∧ Below w.heap.size w w' := by
 unfold claim_Pays.f at h
 have h' := Option.some.inj h
 refine (pays_ex w (bkOf l0_0 a0_1 a0_2 a0_3 a0_4 l0_5 a0_6) _ _ _ _ _ _ _ (book_of hr0_0 hc0_0 hr0_5 hc0_5) hG).mono ?_
 rintro e w' ⟨rfl, hb⟩
 rw [h']
 exact ⟨rfl, hb⟩
end
section
open Go.Proofs.YtbhjfojbjpbdbaaDoor
def claim_First.f (l0_0 : List (S56)) (a0_1 : Int) (a0_2 : Int) (a0_3 : Int) (a0_4 : Int) (l0_5 : List (S42)) (a0_6 : Int) : Option (Int × Int) := some (firstS (bkOf l0_0 a0_1 a0_2 a0_3 a0_4 l0_5 a0_6))
theorem claim_First.calls (A0_0 : Option Addr) (c0_0 : Nat) (l0_0 : List (S56)) (a0_1 : Int) (a0_2 : Int) (a0_3 : Int) (a0_4 : Int) (A0_5 : Option Addr) (c0_5 : Nat) (l0_5 : List (S42)) (a0_6 : Int) (r1 : Int) (r2 : Int) (w : World) (hG : Glob w) (hr0_0 : Kd.C k56 w A0_0 l0_0.length l0_0) (hc0_0 : l0_0.length ≤ c0_0) (hr0_5 : Kd.C k42 w A0_5 l0_5.length l0_5) (hc0_5 : l0_5.length ≤ c0_5) (h : claim_First.f l0_0 a0_1 a0_2 a0_3 a0_4 l0_5 a0_6 = some (r1, r2)) :
  Calls Tryd.prog 34 #[.agg #[.slice A0_0 l0_0.length c0_0, .int .i64 a0_1, .int .i64 a0_2, .int .i64 a0_3, .int .i64 a0_4, .slice A0_5 l0_5.length c0_5, .int .i64 a0_6]] w fun e w' => e = .returned (.tuple #[.int .i64 r1, .int .i64 r2]) ∧ Below w.heap.size w w' := by
 unfold claim_First.f at h
 have h' := Option.some.inj h
 refine (first_ex w (bkOf l0_0 a0_1 a0_2 a0_3 a0_4 l0_5 a0_6) _ _ _ _ _ _ _ (book_of hr0_0 hc0_0 hr0_5 hc0_5) hG).mono ?_
 rintro e w' ⟨rfl, hb⟩
 rw [h']
 exact ⟨rfl, hb⟩
end
end Go.Proofs.YtbhjfojbjpbdbaaDoorPX
namespace Go.Proofs.YtbhjfojbjpbdbaaDoorPX
open Go.Proofs.YtbhjfojbjpbdbaaDoor (Glob ix3 blk_ix3 bl nrm_ pu_ po_ tk_)
open Go.RowKit Go.Proofs.YtbhjfojbjpbdbaaDoorW.PrintWords Go.Proofs.YtbhjfojbjpbdbaaDoorW.PrintLast Go.Proofs.YtbhjfojbjpbdbaaDoorW.PrintMore

set_option linter.unusedVariables false
set_option linter.unusedSimpArgs false
section
open Go.Proofs.YtbhjfojbjpbdbaaDoor
def macadamlaw06_billed.f  : Option (Bool) := some true
theorem macadamlaw06_billed.calls  (r : Bool) (w : World) (hG : Glob w) (h : macadamlaw06_billed.f  = some r) :
  Calls Tryd.prog 25 #[] w fun e w' => e = .returned (.bool r) ∧ Below w.heap.size w w' := by
 unfold macadamlaw06_billed.f at h
 have h' := Option.some.inj h
 subst h'
 exact billed_any w hG
end
end Go.Proofs.YtbhjfojbjpbdbaaDoorPX
namespace Go.Proofs.YtbhjfojbjpbdbaaDoorPX
open Go.Proofs.YtbhjfojbjpbdbaaDoor (Glob ix3 blk_ix3 bl nrm_ pu_ po_ tk_)
open Go.RowKit Go.Proofs.YtbhjfojbjpbdbaaDoorW.PrintWords Go.Proofs.YtbhjfojbjpbdbaaDoorW.PrintLast Go.Proofs.YtbhjfojbjpbdbaaDoorW.PrintMore

set_option linter.unusedVariables false
set_option linter.unusedSimpArgs false
attribute [local go_sem high] eqA32
mutual
def macadamlaw06_ClaimPays.j0 : Nat → Bool → List (S56) → Int → Int → Int → Int → List (S42) → Int → Option (Bool)
 | 0, _, _, _, _, _, _, _, _ => none
 | k + 1, x26, x430000, x430001, x430002, x430003, x430004, x430005, x430006 => if x26 = true then (some false) else ((claim_Blame.f x430000 x430001 x430002 x430003 x430004 x430005 x430006).bind fun bt434 => ((macadamref06_Blame.f k x430000 x430001 x430002 x430003 x430004 x430005 x430006).bind fun bt436 => (if bt434.1 = bt436.1 then (macadamlaw06_ClaimPays.j1 k (bt434.2 != bt436.2) x430000 x430001 x430002 x430003 x430004 x430005 x430006) else (macadamlaw06_ClaimPays.j1 k true x430000 x430001 x430002 x430003 x430004 x430005 x430006))))
def macadamlaw06_ClaimPays.j1 : Nat → Bool → List (S56) → Int → Int → Int → Int → List (S42) → Int → Option (Bool)
 | 0, _, _, _, _, _, _, _, _ => none
 | k + 1, x44, x430000, x430001, x430002, x430003, x430004, x430005, x430006 => if x44 = true then (some false) else ((claim_Owes.f x430000 x430001 x430002 x430003 x430004 x430005 x430006).bind fun bt438 => ((macadamref06_Owes.f k x430000 x430001 x430002 x430003 x430004 x430005 x430006).bind fun bt442 => (if (!(bt438.1 == bt442.1) || (!(bt438.2.1 == bt442.2.1))) = true then (macadamlaw06_ClaimPays.j2 k true x430000 x430001 x430002 x430003 x430004 x430005 x430006) else (macadamlaw06_ClaimPays.j2 k (bt438.2.2 != bt442.2.2) x430000 x430001 x430002 x430003 x430004 x430005 x430006))))
def macadamlaw06_ClaimPays.j2 : Nat → Bool → List (S56) → Int → Int → Int → Int → List (S42) → Int → Option (Bool)
 | 0, _, _, _, _, _, _, _, _ => none
 | k + 1, x62, x430000, x430001, x430002, x430003, x430004, x430005, x430006 => if x62 = true then (some false) else ((claim_Pays.f x430000 x430001 x430002 x430003 x430004 x430005 x430006).bind fun bt446 => ((macadamref06_Pays.f k x430000 x430001 x430002 x430003 x430004 x430005 x430006).bind fun bt448 => (if bt446.1 = bt448.1 then (macadamlaw06_ClaimPays.j3 k (bt446.2 != bt448.2) x430000 x430001 x430002 x430003 x430004 x430005 x430006) else (macadamlaw06_ClaimPays.j3 k true x430000 x430001 x430002 x430003 x430004 x430005 x430006))))
def macadamlaw06_ClaimPays.j3 : Nat → Bool → List (S56) → Int → Int → Int → Int → List (S42) → Int → Option (Bool)
 | 0, _, _, _, _, _, _, _, _ => none
 | k + 1, x80, x430000, x430001, x430002, x430003, x430004, x430005, x430006 => if x80 = true then (some false) else ((claim_First.f x430000 x430001 x430002 x430003 x430004 x430005 x430006).bind fun bt450 => ((macadamref06_First.f k x430000 x430001 x430002 x430003 x430004 x430005 x430006).bind fun bt452 => (if bt450.1 = bt452.1 then (if bt450.2 = bt452.2 then ((macadamlaw06_billed.f).bind fun t454 => (some t454)) else (some false)) else (some false))))
end
def macadamlaw06_ClaimPays.f (k : Nat) (l0_0 : List (S56)) (a0_1 : Int) (a0_2 : Int) (a0_3 : Int) (a0_4 : Int) (l0_5 : List (S42)) (a0_6 : Int) : Option (Bool) := (claim_Weather.f l0_0 a0_1 a0_2 a0_3 a0_4 l0_5 a0_6).bind fun bt430 => ((macadamref06_Weather.f k l0_0 a0_1 a0_2 a0_3 a0_4 l0_5 a0_6).bind fun bt432 => (if bt430.1 = bt432.1 then (macadamlaw06_ClaimPays.j0 k (bt430.2 != bt432.2) l0_0 a0_1 a0_2 a0_3 a0_4 l0_5 a0_6) else (macadamlaw06_ClaimPays.j0 k true l0_0 a0_1 a0_2 a0_3 a0_4 l0_5 a0_6)))
set_option maxHeartbeats 8000000 in
set_option maxRecDepth 100000 in
theorem macadamlaw06_ClaimPays.calls (k : Nat) (A0_0 : Option Addr) (c0_0 : Nat) (l0_0 : List (S56)) (a0_1 : Int) (a0_2 : Int) (a0_3 : Int) (a0_4 : Int) (A0_5 : Option Addr) (c0_5 : Nat) (l0_5 : List (S42)) (a0_6 : Int) (r : Bool) (w : World) (hG : Glob w) (hr0_0 : Kd.C k56 w A0_0 l0_0.length l0_0) (hc0_0 : l0_0.length ≤ c0_0) (hr0_5 : Kd.C k42 w A0_5 l0_5.length l0_5) (hc0_5 : l0_5.length ≤ c0_5) (h : macadamlaw06_ClaimPays.f k l0_0 a0_1 a0_2 a0_3 a0_4 l0_5 a0_6 = some r) :
  Calls Tryd.prog 4 #[.agg #[.slice A0_0 l0_0.length c0_0, .int .i64 a0_1, .int .i64 a0_2, .int .i64 a0_3, .int .i64 a0_4, .slice A0_5 l0_5.length c0_5, .int .i64 a0_6]] w fun e w' => e = .returned (.bool r) ∧ Below w.heap.size w w' := by
 have hu26 := Tryd.underlying26
 have hu32 := Tryd.underlying32
 have HG := Aside0.mk hG
 clear hG
 have HR0_0 := Aside0.mk hr0_0
 have HC0_0 := Aside0.mk hc0_0
 clear hr0_0 hc0_0
 have HR0_5 := Aside0.mk hr0_5
 have HC0_5 := Aside0.mk hc0_5
 clear hr0_5 hc0_5
 have HB := Aside0.mk (Below.refl w.heap.size w)
 have H : ((claim_Weather.f l0_0 a0_1 a0_2 a0_3 a0_4 l0_5 a0_6).bind fun bt430 => ((macadamref06_Weather.f k l0_0 a0_1 a0_2 a0_3 a0_4 l0_5 a0_6).bind fun bt432 => (if bt430.1 = bt432.1 then (macadamlaw06_ClaimPays.j0 k (bt430.2 != bt432.2) l0_0 a0_1 a0_2 a0_3 a0_4 l0_5 a0_6) else (macadamlaw06_ClaimPays.j0 k true l0_0 a0_1 a0_2 a0_3 a0_4 l0_5 a0_6)))) = some r := h
 clear h
 replace H := Option.bind_eq_some_iff.mp H
 obtain ⟨⟨t430, t431⟩, A20, H⟩ := H
 replace H : ((macadamref06_Weather.f k l0_0 a0_1 a0_2 a0_3 a0_4 l0_5 a0_6).bind fun bt432 => (if t430 = bt432.1 then (macadamlaw06_ClaimPays.j0 k (t431 != bt432.2) l0_0 a0_1 a0_2 a0_3 a0_4 l0_5 a0_6) else (macadamlaw06_ClaimPays.j0 k true l0_0 a0_1 a0_2 a0_3 a0_4 l0_5 a0_6))) = some r := H
 have A2 := Aside0.mk A20
 clear A20
 replace H := Option.bind_eq_some_iff.mp H
 obtain ⟨⟨t432, t433⟩, A30, H⟩ := H
 replace H : (if t430 = t432 then (macadamlaw06_ClaimPays.j0 k (t431 != t433) l0_0 a0_1 a0_2 a0_3 a0_4 l0_5 a0_6) else (macadamlaw06_ClaimPays.j0 k true l0_0 a0_1 a0_2 a0_3 a0_4 l0_5 a0_6)) = some r := H
 have A3 := Aside0.mk A30
 clear A30
 have HC4 := Aside0.mk H
 clear H
 go_enter Tryd.func4, Tryd.ntmps4
 go_upto_region 3 with (first | ((with_reducible refine gate_dst (N := 1) rfl ?_); refine box_event ?hg (N := 1) ?hd (cs := #[.slice A0_0 l0_0.length c0_0, .int .i64 a0_1, .int .i64 a0_2, .int .i64 a0_3, .int .i64 a0_4, .slice A0_5 l0_5.length c0_5, .int .i64 a0_6]) (t := 26) ?hr ?_; (case hd => rfl); (case hg => rfl); (case hr => first | (go_simp; done) | (go_simp; rfl)); intro gb429 hg w5 hbox hb; have n0_ := Aside0.mk (below_step (by repeat (first | (with_reducible first | exact HB.out | apply below_alloc | apply pw_below_drewN | apply below_drew1) | exact HB.out)) hb); have n1_ := Aside0.mk (hbox); have n2_ := Aside0.mk ((by rw [hg]; exact (below_size (by repeat (first | (with_reducible first | exact HB.out | apply below_alloc | apply pw_below_drewN | apply below_drew1) | exact HB.out))) : w.heap.size ≤ gb429)); have n3_ := Aside0.mk ((by rw [hg]; exact (below_size (by repeat (first | (with_reducible first | exact HB.out | apply below_alloc | apply pw_below_drewN | apply below_drew1) | exact HB.out))) : w.heap.size ≤ gb429)); clear HB; have HB := n0_; have BK429 := n1_; have GW429 := n2_; have GE429 := n3_; clear n0_ n1_ n2_ n3_; clear hb hbox hg; have hcz6_0 : w5.cell? ⟨gb429, 0, none⟩ = some (.slice A0_0 l0_0.length c0_0) := (blk_cell BK429.out 0).trans rfl; have hcz6_1 : w5.cell? ⟨gb429, 1, none⟩ = some (.int .i64 a0_1) := (blk_cell BK429.out 1).trans rfl; have hcz6_2 : w5.cell? ⟨gb429, 2, none⟩ = some (.int .i64 a0_2) := (blk_cell BK429.out 2).trans rfl; have hcz6_3 : w5.cell? ⟨gb429, 3, none⟩ = some (.int .i64 a0_3) := (blk_cell BK429.out 3).trans rfl; have hcz6_4 : w5.cell? ⟨gb429, 4, none⟩ = some (.int .i64 a0_4) := (blk_cell BK429.out 4).trans rfl; have hcz6_5 : w5.cell? ⟨gb429, 5, none⟩ = some (.slice A0_5 l0_5.length c0_5) := (blk_cell BK429.out 5).trans rfl; have hcz6_6 : w5.cell? ⟨gb429, 6, none⟩ = some (.int .i64 a0_6) := (blk_cell BK429.out 6).trans rfl; have hfz6_0 := blk_frozen BK429.out 0; have hfz6_1 := blk_frozen BK429.out 1; have hfz6_2 := blk_frozen BK429.out 2; have hfz6_3 := blk_frozen BK429.out 3; have hfz6_4 := blk_frozen BK429.out 4; have hfz6_5 := blk_frozen BK429.out 5; have hfz6_6 := blk_frozen BK429.out 6) | ((with_reducible refine gate_callee (f := 26) rfl ?_); refine goesL_ (some 11) rfl rfl Tryd.func26 (by kernel_rfl) rfl #[.agg #[.slice A0_0 l0_0.length c0_0, .int .i64 a0_1, .int .i64 a0_2, .int .i64 a0_3, .int .i64 a0_4, .slice A0_5 l0_5.length c0_5, .int .i64 a0_6]] rfl (by (try simp only [List.map_toArray, List.map_cons, List.map_nil]); first | done | rfl | (simp only [List.length_drop, List.length_take]; rfl)) ?_; (with_reducible refine (claim_Weather.calls _ _ l0_0 a0_1 a0_2 a0_3 a0_4 _ _ l0_5 a0_6 t430 t431 _ ?side1 ?side2 ?side3 ?side4 ?side5 A2.out).mono ?_); (case side1 => first | exact HG.out | exact Glob.step HG.out HB.out | exact Glob.step HG.out (by repeat (first | (with_reducible first | exact HB.out | apply below_alloc | apply pw_below_drewN | apply below_drew1 | refine below_set ?_ GE429.out) | exact HB.out))); (case side2 => repeat (first | exact (Kd.C_below HR0_0.out HB.out) | (with_reducible refine Kd.C_alloc ?_ _) | (with_reducible refine Kd.C_drewN ?_ _) | (with_reducible refine Kd.C_drew ?_))); (case side3 => exact HC0_0.out); (case side4 => repeat (first | exact (Kd.C_below HR0_5.out HB.out) | (with_reducible refine Kd.C_alloc ?_ _) | (with_reducible refine Kd.C_drewN ?_ _) | (with_reducible refine Kd.C_drew ?_))); (case side5 => exact HC0_5.out); rintro e w7 ⟨rfl, hb⟩; refine ⟨_, rfl, ?_⟩; have n0_ := Aside0.mk (blk_below (g := gb429) (o := .cells #[.slice A0_0 l0_0.length c0_0, .int .i64 a0_1, .int .i64 a0_2, .int .i64 a0_3, .int .i64 a0_4, .slice A0_5 l0_5.length c0_5, .int .i64 a0_6] 26 (0, 0)) (by (with_reducible repeat (first | refine blk_drewN ?_ _ | refine blk_drew ?_ | refine blk_alloc ?_ _)); exact BK429.out) hb); have n1_ := Aside0.mk (below_step (by repeat (first | (with_reducible first | exact HB.out | apply below_alloc | apply pw_below_drewN | apply below_drew1 | refine below_set ?_ GE429.out) | exact HB.out)) hb); clear BK429; clear HB; have BK429 := n0_; have HB := n1_; clear n0_ n1_; (try clear hb); (try clear hb2); (try clear hk); (try clear hi); have hcz8_0 : w7.cell? ⟨gb429, 0, none⟩ = some (.slice A0_0 l0_0.length c0_0) := (blk_cell BK429.out 0).trans rfl; have hcz8_1 : w7.cell? ⟨gb429, 1, none⟩ = some (.int .i64 a0_1) := (blk_cell BK429.out 1).trans rfl; have hcz8_2 : w7.cell? ⟨gb429, 2, none⟩ = some (.int .i64 a0_2) := (blk_cell BK429.out 2).trans rfl; have hcz8_3 : w7.cell? ⟨gb429, 3, none⟩ = some (.int .i64 a0_3) := (blk_cell BK429.out 3).trans rfl; have hcz8_4 : w7.cell? ⟨gb429, 4, none⟩ = some (.int .i64 a0_4) := (blk_cell BK429.out 4).trans rfl; have hcz8_5 : w7.cell? ⟨gb429, 5, none⟩ = some (.slice A0_5 l0_5.length c0_5) := (blk_cell BK429.out 5).trans rfl; have hcz8_6 : w7.cell? ⟨gb429, 6, none⟩ = some (.int .i64 a0_6) := (blk_cell BK429.out 6).trans rfl; have hfz8_0 := blk_frozen BK429.out 0; have hfz8_1 := blk_frozen BK429.out 1; have hfz8_2 := blk_frozen BK429.out 2; have hfz8_3 := blk_frozen BK429.out 3; have hfz8_4 := blk_frozen BK429.out 4; have hfz8_5 := blk_frozen BK429.out 5; have hfz8_6 := blk_frozen BK429.out 6) | ((with_reducible refine gate_callee (f := 27) rfl ?_); refine goesL_ (some 16) rfl rfl Tryd.func27 (by kernel_rfl) rfl #[.agg #[.slice A0_0 l0_0.length c0_0, .int .i64 a0_1, .int .i64 a0_2, .int .i64 a0_3, .int .i64 a0_4, .slice A0_5 l0_5.length c0_5, .int .i64 a0_6]] rfl (by (try simp only [List.map_toArray, List.map_cons, List.map_nil]); first | done | rfl | (simp only [List.length_drop, List.length_take]; rfl)) ?_; (with_reducible refine (macadamref06_Weather.calls k _ _ l0_0 a0_1 a0_2 a0_3 a0_4 _ _ l0_5 a0_6 t432 t433 _ ?side1 ?side2 ?side3 ?side4 A3.out).mono ?_); (case side1 => repeat (first | exact (Kd.C_below HR0_0.out HB.out) | (with_reducible refine Kd.C_alloc ?_ _) | (with_reducible refine Kd.C_drewN ?_ _) | (with_reducible refine Kd.C_drew ?_))); (case side2 => exact HC0_0.out); (case side3 => repeat (first | exact (Kd.C_below HR0_5.out HB.out) | (with_reducible refine Kd.C_alloc ?_ _) | (with_reducible refine Kd.C_drewN ?_ _) | (with_reducible refine Kd.C_drew ?_))); (case side4 => exact HC0_5.out); rintro e w9 ⟨rfl, hb⟩; refine ⟨_, rfl, ?_⟩; have n0_ := Aside0.mk (blk_below (g := gb429) (o := .cells #[.slice A0_0 l0_0.length c0_0, .int .i64 a0_1, .int .i64 a0_2, .int .i64 a0_3, .int .i64 a0_4, .slice A0_5 l0_5.length c0_5, .int .i64 a0_6] 26 (0, 0)) (by (with_reducible repeat (first | refine blk_drewN ?_ _ | refine blk_drew ?_ | refine blk_alloc ?_ _)); exact BK429.out) hb); have n1_ := Aside0.mk (below_step (by repeat (first | (with_reducible first | exact HB.out | apply below_alloc | apply pw_below_drewN | apply below_drew1 | refine below_set ?_ GE429.out) | exact HB.out)) hb); clear BK429; clear HB; have BK429 := n0_; have HB := n1_; clear n0_ n1_; (try clear hb); (try clear hb2); (try clear hk); (try clear hi)))
 (try simp only [Act.put, List.setIfInBounds_toArray, List.set_cons_zero, List.set_cons_succ])
 go_cut [26] (fun v26 wc => ∃ (kq : Nat) (x26_3 : Bool), v26 = .bool x26_3 ∧ Aside0 (macadamlaw06_ClaimPays.j0 kq x26_3 l0_0 a0_1 a0_2 a0_3 a0_4 l0_5 a0_6 = some r) ∧ Aside0 (kq ≤ k) ∧ Aside0 (wc.heap[gb429]? = some (.cells #[(.slice A0_0 l0_0.length c0_0), .int .i64 a0_1, .int .i64 a0_2, .int .i64 a0_3, .int .i64 a0_4, (.slice A0_5 l0_5.length c0_5), .int .i64 a0_6] 26 (0, 0))) ∧ Aside0 (Below w.heap.size w wc))
 case first =>
  have H := HC4.out
  clear HC4
  by_cases c10 : t430 = t432
  ·rw [if_pos c10] at H
   have c10b0 : (t430 == t432) = true := beq_iff_eq.mpr c10
   have c10b1 : (t430 != t432) = false := bne_eq_false_iff_eq.mpr c10
   clear c10
   (first | rw [c10b0] | (simp only [i64_w, i32_w]; rw [c10b0]) | skip)
   have H' := Aside0.mk H
   clear H
   go_wp2
   go_meet
   case rel => exact ⟨_, ((t431 != t433)), (by first | rfl | (simp; done) | (simp [*]; done)), H', ⟨by first | omega | exact Nat.le_refl _⟩, ⟨by (with_reducible repeat (first | refine blk_drewN ?_ _ | refine blk_drew ?_ | refine blk_alloc ?_ _)); exact BK429.out⟩, ⟨by repeat (first | (with_reducible first | exact HB.out | apply below_alloc | apply pw_below_drewN | apply below_drew1 | refine below_set ?_ GE429.out) | exact HB.out)⟩⟩
  ·rw [if_neg c10] at H
   have c10b0 : (t430 == t432) = false := beq_eq_false_iff_ne.mpr c10
   have c10b1 : (t430 != t432) = true := bne_iff_ne.mpr c10
   (first | rw [c10b0] | (simp only [i64_w, i32_w]; rw [c10b0]) | skip)
   have H' := Aside0.mk H
   clear H
   go_wp2
   go_meet
   case rel => exact ⟨_, (true), (by first | rfl | (simp; done) | (simp [*]; done)), H', ⟨by first | omega | exact Nat.le_refl _⟩, ⟨by (with_reducible repeat (first | refine blk_drewN ?_ _ | refine blk_drew ?_ | refine blk_alloc ?_ _)); exact BK429.out⟩, ⟨by repeat (first | (with_reducible first | exact HB.out | apply below_alloc | apply pw_below_drewN | apply below_drew1 | refine below_set ?_ GE429.out) | exact HB.out)⟩⟩
 case rest =>
  clear HC4
  try clear c1
  try clear c2
  try clear p2
  try clear c4
  try clear c10
  try clear c10b0
  try clear c10b1
  try clear hcz6_0
  try clear hcz6_1
  try clear hcz6_2
  try clear hcz6_3
  try clear hcz6_4
  try clear hcz6_5
  try clear hcz6_6
  try clear hcz8_0
  try clear hcz8_1
  try clear hcz8_2
  try clear hcz8_3
  try clear hcz8_4
  try clear hcz8_5
  try clear hcz8_6
  try clear hfz6_0
  try clear hfz6_1
  try clear hfz6_2
  try clear hfz6_3
  try clear hfz6_4
  try clear hfz6_5
  try clear hfz6_6
  try clear hfz8_0
  try clear hfz8_1
  try clear hfz8_2
  try clear hfz8_3
  try clear hfz8_4
  try clear hfz8_5
  try clear hfz8_6
  obtain ⟨kq, x26_3, rfl, HA, HJ3, BK429, HB⟩ := hcut
  cases kq with
  | zero => exact absurd HA.out (by simp [macadamlaw06_ClaimPays.j0])
  | succ kj3 =>
   have H := HA.out
   clear HA
   simp only [macadamlaw06_ClaimPays.j0] at H
   by_cases c11 : x26_3 = true
   ·subst c11
    have H1 : (some false) = some r := by rw [if_pos rfl] at H; exact H
    clear H
    have H := H1
    clear H1
    obtain rfl := Option.some.inj H
    go_wp2
    go_ret
    exact ⟨by first | rfl | (simp [errW_none, errW_some] <;> rfl) | (simp only [i64_w, i32_w] <;> rfl) | (simp [*, errW_none, errW_some] <;> rfl), by repeat (first | (with_reducible first | exact HB.out | apply below_alloc | apply pw_below_drewN | apply below_drew1 | refine below_set ?_ GE429.out) | exact HB.out)⟩
   ·replace c11 := Bool.eq_false_iff.mpr c11
    subst c11
    have H1 : ((claim_Blame.f l0_0 a0_1 a0_2 a0_3 a0_4 l0_5 a0_6).bind fun bt434 => ((macadamref06_Blame.f kj3 l0_0 a0_1 a0_2 a0_3 a0_4 l0_5 a0_6).bind fun bt436 => (if bt434.1 = bt436.1 then (macadamlaw06_ClaimPays.j1 kj3 (bt434.2 != bt436.2) l0_0 a0_1 a0_2 a0_3 a0_4 l0_5 a0_6) else (macadamlaw06_ClaimPays.j1 kj3 true l0_0 a0_1 a0_2 a0_3 a0_4 l0_5 a0_6)))) = some r := by rw [if_neg (show ¬ (false = true) by decide)] at H; exact H
    clear H
    have H := H1
    clear H1
    replace H := Option.bind_eq_some_iff.mp H
    obtain ⟨⟨t434, t435⟩, A120, H⟩ := H
    replace H : ((macadamref06_Blame.f kj3 l0_0 a0_1 a0_2 a0_3 a0_4 l0_5 a0_6).bind fun bt436 => (if t434 = bt436.1 then (macadamlaw06_ClaimPays.j1 kj3 (t435 != bt436.2) l0_0 a0_1 a0_2 a0_3 a0_4 l0_5 a0_6) else (macadamlaw06_ClaimPays.j1 kj3 true l0_0 a0_1 a0_2 a0_3 a0_4 l0_5 a0_6))) = some r := H
    have A12 := Aside0.mk A120
    clear A120
    replace H := Option.bind_eq_some_iff.mp H
    obtain ⟨⟨t436, t437⟩, A130, H⟩ := H
    replace H : (if t434 = t436 then (macadamlaw06_ClaimPays.j1 kj3 (t435 != t437) l0_0 a0_1 a0_2 a0_3 a0_4 l0_5 a0_6) else (macadamlaw06_ClaimPays.j1 kj3 true l0_0 a0_1 a0_2 a0_3 a0_4 l0_5 a0_6)) = some r := H
    have A13 := Aside0.mk A130
    clear A130
    have HC14 := Aside0.mk H
    clear H
    have hcz15_0 : wc.cell? ⟨gb429, 0, none⟩ = some (.slice A0_0 l0_0.length c0_0) := (blk_cell BK429.out 0).trans rfl
    have hcz15_1 : wc.cell? ⟨gb429, 1, none⟩ = some (.int .i64 a0_1) := (blk_cell BK429.out 1).trans rfl
    have hcz15_2 : wc.cell? ⟨gb429, 2, none⟩ = some (.int .i64 a0_2) := (blk_cell BK429.out 2).trans rfl
    have hcz15_3 : wc.cell? ⟨gb429, 3, none⟩ = some (.int .i64 a0_3) := (blk_cell BK429.out 3).trans rfl
    have hcz15_4 : wc.cell? ⟨gb429, 4, none⟩ = some (.int .i64 a0_4) := (blk_cell BK429.out 4).trans rfl
    have hcz15_5 : wc.cell? ⟨gb429, 5, none⟩ = some (.slice A0_5 l0_5.length c0_5) := (blk_cell BK429.out 5).trans rfl
    have hcz15_6 : wc.cell? ⟨gb429, 6, none⟩ = some (.int .i64 a0_6) := (blk_cell BK429.out 6).trans rfl
    have hfz15_0 := blk_frozen BK429.out 0
    have hfz15_1 := blk_frozen BK429.out 1
    have hfz15_2 := blk_frozen BK429.out 2
    have hfz15_3 := blk_frozen BK429.out 3
    have hfz15_4 := blk_frozen BK429.out 4
    have hfz15_5 := blk_frozen BK429.out 5
    have hfz15_6 := blk_frozen BK429.out 6
    go_upto_region 7 with (first | ((with_reducible refine gate_callee (f := 28) rfl ?_); refine goesL_ (some 29) rfl rfl Tryd.func28 (by kernel_rfl) rfl #[.agg #[.slice A0_0 l0_0.length c0_0, .int .i64 a0_1, .int .i64 a0_2, .int .i64 a0_3, .int .i64 a0_4, .slice A0_5 l0_5.length c0_5, .int .i64 a0_6]] rfl (by (try simp only [List.map_toArray, List.map_cons, List.map_nil]); first | done | rfl | (simp only [List.length_drop, List.length_take]; rfl)) ?_; (with_reducible refine (claim_Blame.calls _ _ l0_0 a0_1 a0_2 a0_3 a0_4 _ _ l0_5 a0_6 t434 t435 _ ?side1 ?side2 ?side3 ?side4 ?side5 A12.out).mono ?_); (case side1 => first | exact HG.out | exact Glob.step HG.out HB.out | exact Glob.step HG.out (by repeat (first | (with_reducible first | exact HB.out | apply below_alloc | apply pw_below_drewN | apply below_drew1 | refine below_set ?_ GE429.out) | exact HB.out))); (case side2 => repeat (first | exact (Kd.C_below HR0_0.out HB.out) | (with_reducible refine Kd.C_alloc ?_ _) | (with_reducible refine Kd.C_drewN ?_ _) | (with_reducible refine Kd.C_drew ?_))); (case side3 => exact HC0_0.out); (case side4 => repeat (first | exact (Kd.C_below HR0_5.out HB.out) | (with_reducible refine Kd.C_alloc ?_ _) | (with_reducible refine Kd.C_drewN ?_ _) | (with_reducible refine Kd.C_drew ?_))); (case side5 => exact HC0_5.out); rintro e w16 ⟨rfl, hb⟩; refine ⟨_, rfl, ?_⟩; have n0_ := Aside0.mk (blk_below (g := gb429) (o := .cells #[.slice A0_0 l0_0.length c0_0, .int .i64 a0_1, .int .i64 a0_2, .int .i64 a0_3, .int .i64 a0_4, .slice A0_5 l0_5.length c0_5, .int .i64 a0_6] 26 (0, 0)) (by (with_reducible repeat (first | refine blk_drewN ?_ _ | refine blk_drew ?_ | refine blk_alloc ?_ _)); exact BK429.out) hb); have n1_ := Aside0.mk (below_step (by repeat (first | (with_reducible first | exact HB.out | apply below_alloc | apply pw_below_drewN | apply below_drew1 | refine below_set ?_ GE429.out) | exact HB.out)) hb); clear BK429; clear HB; have BK429 := n0_; have HB := n1_; clear n0_ n1_; (try clear hb); (try clear hb2); (try clear hk); (try clear hi); have hcz17_0 : w16.cell? ⟨gb429, 0, none⟩ = some (.slice A0_0 l0_0.length c0_0) := (blk_cell BK429.out 0).trans rfl; have hcz17_1 : w16.cell? ⟨gb429, 1, none⟩ = some (.int .i64 a0_1) := (blk_cell BK429.out 1).trans rfl; have hcz17_2 : w16.cell? ⟨gb429, 2, none⟩ = some (.int .i64 a0_2) := (blk_cell BK429.out 2).trans rfl; have hcz17_3 : w16.cell? ⟨gb429, 3, none⟩ = some (.int .i64 a0_3) := (blk_cell BK429.out 3).trans rfl; have hcz17_4 : w16.cell? ⟨gb429, 4, none⟩ = some (.int .i64 a0_4) := (blk_cell BK429.out 4).trans rfl; have hcz17_5 : w16.cell? ⟨gb429, 5, none⟩ = some (.slice A0_5 l0_5.length c0_5) := (blk_cell BK429.out 5).trans rfl; have hcz17_6 : w16.cell? ⟨gb429, 6, none⟩ = some (.int .i64 a0_6) := (blk_cell BK429.out 6).trans rfl; have hfz17_0 := blk_frozen BK429.out 0; have hfz17_1 := blk_frozen BK429.out 1; have hfz17_2 := blk_frozen BK429.out 2; have hfz17_3 := blk_frozen BK429.out 3; have hfz17_4 := blk_frozen BK429.out 4; have hfz17_5 := blk_frozen BK429.out 5; have hfz17_6 := blk_frozen BK429.out 6) | ((with_reducible refine gate_callee (f := 29) rfl ?_); refine goesL_ (some 34) rfl rfl Tryd.func29 (by kernel_rfl) rfl #[.agg #[.slice A0_0 l0_0.length c0_0, .int .i64 a0_1, .int .i64 a0_2, .int .i64 a0_3, .int .i64 a0_4, .slice A0_5 l0_5.length c0_5, .int .i64 a0_6]] rfl (by (try simp only [List.map_toArray, List.map_cons, List.map_nil]); first | done | rfl | (simp only [List.length_drop, List.length_take]; rfl)) ?_; (with_reducible refine (macadamref06_Blame.calls kj3 _ _ l0_0 a0_1 a0_2 a0_3 a0_4 _ _ l0_5 a0_6 t436 t437 _ ?side1 ?side2 ?side3 ?side4 A13.out).mono ?_); (case side1 => repeat (first | exact (Kd.C_below HR0_0.out HB.out) | (with_reducible refine Kd.C_alloc ?_ _) | (with_reducible refine Kd.C_drewN ?_ _) | (with_reducible refine Kd.C_drew ?_))); (case side2 => exact HC0_0.out); (case side3 => repeat (first | exact (Kd.C_below HR0_5.out HB.out) | (with_reducible refine Kd.C_alloc ?_ _) | (with_reducible refine Kd.C_drewN ?_ _) | (with_reducible refine Kd.C_drew ?_))); (case side4 => exact HC0_5.out); rintro e w18 ⟨rfl, hb⟩; refine ⟨_, rfl, ?_⟩; have n0_ := Aside0.mk (blk_below (g := gb429) (o := .cells #[.slice A0_0 l0_0.length c0_0, .int .i64 a0_1, .int .i64 a0_2, .int .i64 a0_3, .int .i64 a0_4, .slice A0_5 l0_5.length c0_5, .int .i64 a0_6] 26 (0, 0)) (by (with_reducible repeat (first | refine blk_drewN ?_ _ | refine blk_drew ?_ | refine blk_alloc ?_ _)); exact BK429.out) hb); have n1_ := Aside0.mk (below_step (by repeat (first | (with_reducible first | exact HB.out | apply below_alloc | apply pw_below_drewN | apply below_drew1 | refine below_set ?_ GE429.out) | exact HB.out)) hb); clear BK429; clear HB; have BK429 := n0_; have HB := n1_; clear n0_ n1_; (try clear hb); (try clear hb2); (try clear hk); (try clear hi)))
    (try simp only [Act.put, List.setIfInBounds_toArray, List.set_cons_zero, List.set_cons_succ])
    go_cut [44] (fun v44 wc => ∃ (kq : Nat) (x44_13 : Bool), v44 = .bool x44_13 ∧ Aside0 (macadamlaw06_ClaimPays.j1 kq x44_13 l0_0 a0_1 a0_2 a0_3 a0_4 l0_5 a0_6 = some r) ∧ Aside0 (kq ≤ kj3) ∧ Aside0 (wc.heap[gb429]? = some (.cells #[(.slice A0_0 l0_0.length c0_0), .int .i64 a0_1, .int .i64 a0_2, .int .i64 a0_3, .int .i64 a0_4, (.slice A0_5 l0_5.length c0_5), .int .i64 a0_6] 26 (0, 0))) ∧ Aside0 (Below w.heap.size w wc))
    case first =>
     have H := HC14.out
     clear HC14
     by_cases c19 : t434 = t436
     ·rw [if_pos c19] at H
      have c19b0 : (t434 == t436) = true := beq_iff_eq.mpr c19
      have c19b1 : (t434 != t436) = false := bne_eq_false_iff_eq.mpr c19
      clear c19
      (first | rw [c19b0] | (simp only [i64_w, i32_w]; rw [c19b0]) | skip)
      have H' := Aside0.mk H
      clear H
      go_wp2
      go_meet
      case rel => exact ⟨_, ((t435 != t437)), (by first | rfl | (simp; done) | (simp [*]; done)), H', ⟨by have := HJ3.out; first | omega | exact Nat.le_refl _⟩, ⟨by (with_reducible repeat (first | refine blk_drewN ?_ _ | refine blk_drew ?_ | refine blk_alloc ?_ _)); exact BK429.out⟩, ⟨by repeat (first | (with_reducible first | exact HB.out | apply below_alloc | apply pw_below_drewN | apply below_drew1 | refine below_set ?_ GE429.out) | exact HB.out)⟩⟩
     ·rw [if_neg c19] at H
      have c19b0 : (t434 == t436) = false := beq_eq_false_iff_ne.mpr c19
      have c19b1 : (t434 != t436) = true := bne_iff_ne.mpr c19
      (first | rw [c19b0] | (simp only [i64_w, i32_w]; rw [c19b0]) | skip)
      have H' := Aside0.mk H
      clear H
      go_wp2
      go_meet
      case rel => exact ⟨_, (true), (by first | rfl | (simp; done) | (simp [*]; done)), H', ⟨by have := HJ3.out; first | omega | exact Nat.le_refl _⟩, ⟨by (with_reducible repeat (first | refine blk_drewN ?_ _ | refine blk_drew ?_ | refine blk_alloc ?_ _)); exact BK429.out⟩, ⟨by repeat (first | (with_reducible first | exact HB.out | apply below_alloc | apply pw_below_drewN | apply below_drew1 | refine below_set ?_ GE429.out) | exact HB.out)⟩⟩
    case rest =>
     clear HC14
     try clear c1
     try clear c2
     try clear p2
     try clear c4
     try clear c10
     try clear c10b0
     try clear c10b1
     try clear c11
     try clear c19
     try clear c19b0
     try clear c19b1
     try clear hcz15_0
     try clear hcz15_1
     try clear hcz15_2
     try clear hcz15_3
     try clear hcz15_4
     try clear hcz15_5
     try clear hcz15_6
     try clear hcz17_0
     try clear hcz17_1
     try clear hcz17_2
     try clear hcz17_3
     try clear hcz17_4
     try clear hcz17_5
     try clear hcz17_6
     try clear hcz6_0
     try clear hcz6_1
     try clear hcz6_2
     try clear hcz6_3
     try clear hcz6_4
     try clear hcz6_5
     try clear hcz6_6
     try clear hcz8_0
     try clear hcz8_1
     try clear hcz8_2
     try clear hcz8_3
     try clear hcz8_4
     try clear hcz8_5
     try clear hcz8_6
     try clear hfz15_0
     try clear hfz15_1
     try clear hfz15_2
     try clear hfz15_3
     try clear hfz15_4
     try clear hfz15_5
     try clear hfz15_6
     try clear hfz17_0
     try clear hfz17_1
     try clear hfz17_2
     try clear hfz17_3
     try clear hfz17_4
     try clear hfz17_5
     try clear hfz17_6
     try clear hfz6_0
     try clear hfz6_1
     try clear hfz6_2
     try clear hfz6_3
     try clear hfz6_4
     try clear hfz6_5
     try clear hfz6_6
     try clear hfz8_0
     try clear hfz8_1
     try clear hfz8_2
     try clear hfz8_3
     try clear hfz8_4
     try clear hfz8_5
     try clear hfz8_6
     try clear p2
     obtain ⟨kq, x44_13, rfl, HA, HJ13, BK429, HB⟩ := hcut
     cases kq with
     | zero => exact absurd HA.out (by simp [macadamlaw06_ClaimPays.j1])
     | succ kj13 =>
      have H := HA.out
      clear HA
      simp only [macadamlaw06_ClaimPays.j1] at H
      by_cases c20 : x44_13 = true
      ·subst c20
       have H1 : (some false) = some r := by rw [if_pos rfl] at H; exact H
       clear H
       have H := H1
       clear H1
       obtain rfl := Option.some.inj H
       go_wp2
       go_ret
       exact ⟨by first | rfl | (simp [errW_none, errW_some] <;> rfl) | (simp only [i64_w, i32_w] <;> rfl) | (simp [*, errW_none, errW_some] <;> rfl), by repeat (first | (with_reducible first | exact HB.out | apply below_alloc | apply pw_below_drewN | apply below_drew1 | refine below_set ?_ GE429.out) | exact HB.out)⟩
      ·replace c20 := Bool.eq_false_iff.mpr c20
       subst c20
       have H1 : ((claim_Owes.f l0_0 a0_1 a0_2 a0_3 a0_4 l0_5 a0_6).bind fun bt438 => ((macadamref06_Owes.f kj13 l0_0 a0_1 a0_2 a0_3 a0_4 l0_5 a0_6).bind fun bt442 => (if (!(bt438.1 == bt442.1) || (!(bt438.2.1 == bt442.2.1))) = true then (macadamlaw06_ClaimPays.j2 kj13 true l0_0 a0_1 a0_2 a0_3 a0_4 l0_5 a0_6) else (macadamlaw06_ClaimPays.j2 kj13 (bt438.2.2 != bt442.2.2) l0_0 a0_1 a0_2 a0_3 a0_4 l0_5 a0_6)))) = some r := by rw [if_neg (show ¬ (false = true) by decide)] at H; exact H
       clear H
       have H := H1
       clear H1
       replace H := Option.bind_eq_some_iff.mp H
       obtain ⟨⟨t438, t439, t440⟩, A210, H⟩ := H
       replace H : ((macadamref06_Owes.f kj13 l0_0 a0_1 a0_2 a0_3 a0_4 l0_5 a0_6).bind fun bt442 => (if (!(t438 == bt442.1) || (!(t439 == bt442.2.1))) = true then (macadamlaw06_ClaimPays.j2 kj13 true l0_0 a0_1 a0_2 a0_3 a0_4 l0_5 a0_6) else (macadamlaw06_ClaimPays.j2 kj13 (t440 != bt442.2.2) l0_0 a0_1 a0_2 a0_3 a0_4 l0_5 a0_6))) = some r := H
       have A21 := Aside0.mk A210
       clear A210
       replace H := Option.bind_eq_some_iff.mp H
       obtain ⟨⟨t442, t443, t444⟩, A220, H⟩ := H
       replace H : (if (!(t438 == t442) || (!(t439 == t443))) = true then (macadamlaw06_ClaimPays.j2 kj13 true l0_0 a0_1 a0_2 a0_3 a0_4 l0_5 a0_6) else (macadamlaw06_ClaimPays.j2 kj13 (t440 != t444) l0_0 a0_1 a0_2 a0_3 a0_4 l0_5 a0_6)) = some r := H
       have A22 := Aside0.mk A220
       clear A220
       have HC23 := Aside0.mk H
       clear H
       have hcz24_0 : wc.cell? ⟨gb429, 0, none⟩ = some (.slice A0_0 l0_0.length c0_0) := (blk_cell BK429.out 0).trans rfl
       have hcz24_1 : wc.cell? ⟨gb429, 1, none⟩ = some (.int .i64 a0_1) := (blk_cell BK429.out 1).trans rfl
       have hcz24_2 : wc.cell? ⟨gb429, 2, none⟩ = some (.int .i64 a0_2) := (blk_cell BK429.out 2).trans rfl
       have hcz24_3 : wc.cell? ⟨gb429, 3, none⟩ = some (.int .i64 a0_3) := (blk_cell BK429.out 3).trans rfl
       have hcz24_4 : wc.cell? ⟨gb429, 4, none⟩ = some (.int .i64 a0_4) := (blk_cell BK429.out 4).trans rfl
       have hcz24_5 : wc.cell? ⟨gb429, 5, none⟩ = some (.slice A0_5 l0_5.length c0_5) := (blk_cell BK429.out 5).trans rfl
       have hcz24_6 : wc.cell? ⟨gb429, 6, none⟩ = some (.int .i64 a0_6) := (blk_cell BK429.out 6).trans rfl
       have hfz24_0 := blk_frozen BK429.out 0
       have hfz24_1 := blk_frozen BK429.out 1
       have hfz24_2 := blk_frozen BK429.out 2
       have hfz24_3 := blk_frozen BK429.out 3
       have hfz24_4 := blk_frozen BK429.out 4
       have hfz24_5 := blk_frozen BK429.out 5
       have hfz24_6 := blk_frozen BK429.out 6
       go_upto_region 11 with (first | ((with_reducible refine gate_callee (f := 30) rfl ?_); refine goesL_ (some 47) rfl rfl Tryd.func30 (by kernel_rfl) rfl #[.agg #[.slice A0_0 l0_0.length c0_0, .int .i64 a0_1, .int .i64 a0_2, .int .i64 a0_3, .int .i64 a0_4, .slice A0_5 l0_5.length c0_5, .int .i64 a0_6]] rfl (by (try simp only [List.map_toArray, List.map_cons, List.map_nil]); first | done | rfl | (simp only [List.length_drop, List.length_take]; rfl)) ?_; (with_reducible refine (claim_Owes.calls _ _ l0_0 a0_1 a0_2 a0_3 a0_4 _ _ l0_5 a0_6 t438 t439 t440 _ ?side1 ?side2 ?side3 ?side4 ?side5 A21.out).mono ?_); (case side1 => first | exact HG.out | exact Glob.step HG.out HB.out | exact Glob.step HG.out (by repeat (first | (with_reducible first | exact HB.out | apply below_alloc | apply pw_below_drewN | apply below_drew1 | refine below_set ?_ GE429.out) | exact HB.out))); (case side2 => repeat (first | exact (Kd.C_below HR0_0.out HB.out) | (with_reducible refine Kd.C_alloc ?_ _) | (with_reducible refine Kd.C_drewN ?_ _) | (with_reducible refine Kd.C_drew ?_))); (case side3 => exact HC0_0.out); (case side4 => repeat (first | exact (Kd.C_below HR0_5.out HB.out) | (with_reducible refine Kd.C_alloc ?_ _) | (with_reducible refine Kd.C_drewN ?_ _) | (with_reducible refine Kd.C_drew ?_))); (case side5 => exact HC0_5.out); rintro e w25 ⟨rfl, hb⟩; refine ⟨_, rfl, ?_⟩; have n0_ := Aside0.mk (blk_below (g := gb429) (o := .cells #[.slice A0_0 l0_0.length c0_0, .int .i64 a0_1, .int .i64 a0_2, .int .i64 a0_3, .int .i64 a0_4, .slice A0_5 l0_5.length c0_5, .int .i64 a0_6] 26 (0, 0)) (by (with_reducible repeat (first | refine blk_drewN ?_ _ | refine blk_drew ?_ | refine blk_alloc ?_ _)); exact BK429.out) hb); have n1_ := Aside0.mk (below_step (by repeat (first | (with_reducible first | exact HB.out | apply below_alloc | apply pw_below_drewN | apply below_drew1 | refine below_set ?_ GE429.out) | exact HB.out)) hb); clear BK429; clear HB; have BK429 := n0_; have HB := n1_; clear n0_ n1_; (try clear hb); (try clear hb2); (try clear hk); (try clear hi)) | ((with_reducible refine gate_dst (N := 7) rfl ?_); refine box_event ?hg (N := 7) ?hd (cs := #[.int .i64 0, .int .i64 0]) (t := 32) ?hr ?_; (case hd => rfl); (case hg => rfl); (case hr => first | (go_simp; done) | (go_simp; rfl)); intro gb441 hg w26 hbox hb; have n0_ := Aside0.mk (blk_below (g := gb429) (o := .cells #[.slice A0_0 l0_0.length c0_0, .int .i64 a0_1, .int .i64 a0_2, .int .i64 a0_3, .int .i64 a0_4, .slice A0_5 l0_5.length c0_5, .int .i64 a0_6] 26 (0, 0)) (by (with_reducible repeat (first | refine blk_drewN ?_ _ | refine blk_drew ?_ | refine blk_alloc ?_ _)); exact BK429.out) hb); have n1_ := Aside0.mk (below_step (by repeat (first | (with_reducible first | exact HB.out | apply below_alloc | apply pw_below_drewN | apply below_drew1 | refine below_set ?_ GE429.out) | exact HB.out)) hb); have n2_ := Aside0.mk (hbox); have n3_ := Aside0.mk ((by rw [hg]; exact (below_size (by repeat (first | (with_reducible first | exact HB.out | apply below_alloc | apply pw_below_drewN | apply below_drew1 | refine below_set ?_ GE429.out) | exact HB.out))) : w.heap.size ≤ gb441)); have n4_ := Aside0.mk ((by rw [hg]; exact (below_size (by repeat (first | (with_reducible first | exact HB.out | apply below_alloc | apply pw_below_drewN | apply below_drew1 | refine below_set ?_ GE429.out) | exact HB.out))) : w.heap.size ≤ gb441)); have n5_ := Aside0.mk ((by rw [hg]; exact Nat.ne_of_lt (blk_lt (g := gb429) (o := .cells #[.slice A0_0 l0_0.length c0_0, .int .i64 a0_1, .int .i64 a0_2, .int .i64 a0_3, .int .i64 a0_4, .slice A0_5 l0_5.length c0_5, .int .i64 a0_6] 26 (0, 0)) (by (with_reducible repeat (first | refine blk_drewN ?_ _ | refine blk_drew ?_ | refine blk_alloc ?_ _)); exact BK429.out)) : gb429 ≠ gb441)); have n6_ := Aside0.mk ((by rw [hg]; exact Nat.ne_of_gt (blk_lt (g := gb429) (o := .cells #[.slice A0_0 l0_0.length c0_0, .int .i64 a0_1, .int .i64 a0_2, .int .i64 a0_3, .int .i64 a0_4, .slice A0_5 l0_5.length c0_5, .int .i64 a0_6] 26 (0, 0)) (by (with_reducible repeat (first | refine blk_drewN ?_ _ | refine blk_drew ?_ | refine blk_alloc ?_ _)); exact BK429.out)) : gb441 ≠ gb429)); clear BK429; clear HB; have BK429 := n0_; have HB := n1_; have BK441 := n2_; have GW441 := n3_; have GE441 := n4_; have NB429_441 := n5_; have NB441_429 := n6_; clear n0_ n1_ n2_ n3_ n4_ n5_ n6_; clear hb hbox hg; have hnb27 := NB441_429.out; have hnc27 := NB429_441.out; have hcz28_0 : w26.cell? ⟨gb441, 0, none⟩ = some (.int .i64 0) := (blk_cell BK441.out 0).trans rfl; have hcz28_1 : w26.cell? ⟨gb441, 1, none⟩ = some (.int .i64 0) := (blk_cell BK441.out 1).trans rfl; have hfz28_0 := blk_frozen BK441.out 0; have hfz28_1 := blk_frozen BK441.out 1; have hcz29_0 : w26.cell? ⟨gb429, 0, none⟩ = some (.slice A0_0 l0_0.length c0_0) := (blk_cell BK429.out 0).trans rfl; have hcz29_1 : w26.cell? ⟨gb429, 1, none⟩ = some (.int .i64 a0_1) := (blk_cell BK429.out 1).trans rfl; have hcz29_2 : w26.cell? ⟨gb429, 2, none⟩ = some (.int .i64 a0_2) := (blk_cell BK429.out 2).trans rfl; have hcz29_3 : w26.cell? ⟨gb429, 3, none⟩ = some (.int .i64 a0_3) := (blk_cell BK429.out 3).trans rfl; have hcz29_4 : w26.cell? ⟨gb429, 4, none⟩ = some (.int .i64 a0_4) := (blk_cell BK429.out 4).trans rfl; have hcz29_5 : w26.cell? ⟨gb429, 5, none⟩ = some (.slice A0_5 l0_5.length c0_5) := (blk_cell BK429.out 5).trans rfl; have hcz29_6 : w26.cell? ⟨gb429, 6, none⟩ = some (.int .i64 a0_6) := (blk_cell BK429.out 6).trans rfl; have hfz29_0 := blk_frozen BK429.out 0; have hfz29_1 := blk_frozen BK429.out 1; have hfz29_2 := blk_frozen BK429.out 2; have hfz29_3 := blk_frozen BK429.out 3; have hfz29_4 := blk_frozen BK429.out 4; have hfz29_5 := blk_frozen BK429.out 5; have hfz29_6 := blk_frozen BK429.out 6) | ((with_reducible refine gate_callee (f := 31) rfl ?_); refine goesL_ (some 52) rfl rfl Tryd.func31 (by kernel_rfl) rfl #[.agg #[.slice A0_0 l0_0.length c0_0, .int .i64 a0_1, .int .i64 a0_2, .int .i64 a0_3, .int .i64 a0_4, .slice A0_5 l0_5.length c0_5, .int .i64 a0_6]] rfl (by (try simp only [List.map_toArray, List.map_cons, List.map_nil]); first | done | rfl | (simp only [List.length_drop, List.length_take]; rfl)) ?_; (with_reducible refine (macadamref06_Owes.calls kj13 _ _ l0_0 a0_1 a0_2 a0_3 a0_4 _ _ l0_5 a0_6 t442 t443 t444 _ ?side1 ?side2 ?side3 ?side4 A22.out).mono ?_); (case side1 => exact Kd.C_below HR0_0.out (by repeat (first | (with_reducible first | exact HB.out | apply below_alloc | apply pw_below_drewN | apply below_drew1 | refine below_set ?_ GE429.out | refine below_set ?_ GE441.out) | exact HB.out))); (case side2 => exact HC0_0.out); (case side3 => exact Kd.C_below HR0_5.out (by repeat (first | (with_reducible first | exact HB.out | apply below_alloc | apply pw_below_drewN | apply below_drew1 | refine below_set ?_ GE429.out | refine below_set ?_ GE441.out) | exact HB.out))); (case side4 => exact HC0_5.out); rintro e w30 ⟨rfl, hb⟩; refine ⟨_, rfl, ?_⟩; have n0_ := Aside0.mk (blk_below (g := gb429) (o := .cells #[.slice A0_0 l0_0.length c0_0, .int .i64 a0_1, .int .i64 a0_2, .int .i64 a0_3, .int .i64 a0_4, .slice A0_5 l0_5.length c0_5, .int .i64 a0_6] 26 (0, 0)) (by (with_reducible repeat (first | refine blk_drewN ?_ _ | refine blk_drew ?_ | refine blk_alloc ?_ _)); refine blk_far ?_ NB429_441.out _; (with_reducible repeat (first | refine blk_drewN ?_ _ | refine blk_drew ?_ | refine blk_alloc ?_ _)); refine blk_far ?_ NB429_441.out _; (with_reducible repeat (first | refine blk_drewN ?_ _ | refine blk_drew ?_ | refine blk_alloc ?_ _)); exact BK429.out) hb); have n1_ := Aside0.mk (blk_below (g := gb441) (o := .cells #[.int .i64 t438, .int .i64 t439] 32 (0, 0)) (by (with_reducible repeat (first | refine blk_drewN ?_ _ | refine blk_drew ?_ | refine blk_alloc ?_ _)); refine blk_put (cs := #[.int .i64 t438, .int .i64 0]) ?_ 1 _ rfl; (with_reducible repeat (first | refine blk_drewN ?_ _ | refine blk_drew ?_ | refine blk_alloc ?_ _)); refine blk_put (cs := #[.int .i64 0, .int .i64 0]) ?_ 0 _ rfl; (with_reducible repeat (first | refine blk_drewN ?_ _ | refine blk_drew ?_ | refine blk_alloc ?_ _)); exact BK441.out) hb); have n2_ := Aside0.mk (below_step (by repeat (first | (with_reducible first | exact HB.out | apply below_alloc | apply pw_below_drewN | apply below_drew1 | refine below_set ?_ GE429.out | refine below_set ?_ GE441.out) | exact HB.out)) hb); clear BK429; clear BK441; clear HB; have BK429 := n0_; have BK441 := n1_; have HB := n2_; clear n0_ n1_ n2_; (try clear hb); (try clear hb2); (try clear hk); (try clear hi)) | ((with_reducible refine gate_dst (N := 8) rfl ?_); refine box_event ?hg (N := 8) ?hd (cs := #[.int .i64 0, .int .i64 0]) (t := 32) ?hr ?_; (case hd => rfl); (case hg => rfl); (case hr => first | (go_simp; done) | (go_simp; rfl)); intro gb445 hg w31 hbox hb; have n0_ := Aside0.mk (blk_below (g := gb429) (o := .cells #[.slice A0_0 l0_0.length c0_0, .int .i64 a0_1, .int .i64 a0_2, .int .i64 a0_3, .int .i64 a0_4, .slice A0_5 l0_5.length c0_5, .int .i64 a0_6] 26 (0, 0)) (by (with_reducible repeat (first | refine blk_drewN ?_ _ | refine blk_drew ?_ | refine blk_alloc ?_ _)); exact BK429.out) hb); have n1_ := Aside0.mk (blk_below (g := gb441) (o := .cells #[.int .i64 t438, .int .i64 t439] 32 (0, 0)) (by (with_reducible repeat (first | refine blk_drewN ?_ _ | refine blk_drew ?_ | refine blk_alloc ?_ _)); exact BK441.out) hb); have n2_ := Aside0.mk (below_step (by repeat (first | (with_reducible first | exact HB.out | apply below_alloc | apply pw_below_drewN | apply below_drew1 | refine below_set ?_ GE429.out | refine below_set ?_ GE441.out) | exact HB.out)) hb); have n3_ := Aside0.mk (hbox); have n4_ := Aside0.mk ((by rw [hg]; exact (below_size (by repeat (first | (with_reducible first | exact HB.out | apply below_alloc | apply pw_below_drewN | apply below_drew1 | refine below_set ?_ GE429.out | refine below_set ?_ GE441.out) | exact HB.out))) : w.heap.size ≤ gb445)); have n5_ := Aside0.mk ((by rw [hg]; exact (below_size (by repeat (first | (with_reducible first | exact HB.out | apply below_alloc | apply pw_below_drewN | apply below_drew1 | refine below_set ?_ GE429.out | refine below_set ?_ GE441.out) | exact HB.out))) : w.heap.size ≤ gb445)); have n6_ := Aside0.mk ((by rw [hg]; exact Nat.ne_of_lt (blk_lt (g := gb429) (o := .cells #[.slice A0_0 l0_0.length c0_0, .int .i64 a0_1, .int .i64 a0_2, .int .i64 a0_3, .int .i64 a0_4, .slice A0_5 l0_5.length c0_5, .int .i64 a0_6] 26 (0, 0)) (by (with_reducible repeat (first | refine blk_drewN ?_ _ | refine blk_drew ?_ | refine blk_alloc ?_ _)); exact BK429.out)) : gb429 ≠ gb445)); have n7_ := Aside0.mk ((by rw [hg]; exact Nat.ne_of_gt (blk_lt (g := gb429) (o := .cells #[.slice A0_0 l0_0.length c0_0, .int .i64 a0_1, .int .i64 a0_2, .int .i64 a0_3, .int .i64 a0_4, .slice A0_5 l0_5.length c0_5, .int .i64 a0_6] 26 (0, 0)) (by (with_reducible repeat (first | refine blk_drewN ?_ _ | refine blk_drew ?_ | refine blk_alloc ?_ _)); exact BK429.out)) : gb445 ≠ gb429)); have n8_ := Aside0.mk ((by rw [hg]; exact Nat.ne_of_lt (blk_lt (g := gb441) (o := .cells #[.int .i64 t438, .int .i64 t439] 32 (0, 0)) (by (with_reducible repeat (first | refine blk_drewN ?_ _ | refine blk_drew ?_ | refine blk_alloc ?_ _)); exact BK441.out)) : gb441 ≠ gb445)); have n9_ := Aside0.mk ((by rw [hg]; exact Nat.ne_of_gt (blk_lt (g := gb441) (o := .cells #[.int .i64 t438, .int .i64 t439] 32 (0, 0)) (by (with_reducible repeat (first | refine blk_drewN ?_ _ | refine blk_drew ?_ | refine blk_alloc ?_ _)); exact BK441.out)) : gb445 ≠ gb441)); clear BK429; clear BK441; clear HB; have BK429 := n0_; have BK441 := n1_; have HB := n2_; have BK445 := n3_; have GW445 := n4_; have GE445 := n5_; have NB429_445 := n6_; have NB445_429 := n7_; have NB441_445 := n8_; have NB445_441 := n9_; clear n0_ n1_ n2_ n3_ n4_ n5_ n6_ n7_ n8_ n9_; clear hb hbox hg; have hnb32 := NB445_429.out; have hnc32 := NB429_445.out; have hnb33 := NB445_441.out; have hnc33 := NB441_445.out; have hcz34_0 : w31.cell? ⟨gb445, 0, none⟩ = some (.int .i64 0) := (blk_cell BK445.out 0).trans rfl; have hcz34_1 : w31.cell? ⟨gb445, 1, none⟩ = some (.int .i64 0) := (blk_cell BK445.out 1).trans rfl; have hfz34_0 := blk_frozen BK445.out 0; have hfz34_1 := blk_frozen BK445.out 1))
       (try simp only [Act.put, List.setIfInBounds_toArray, List.set_cons_zero, List.set_cons_succ])
       go_cut [62] (fun v62 wc => ∃ (kq : Nat) (x62_22 : Bool), v62 = .bool x62_22 ∧ Aside0 (macadamlaw06_ClaimPays.j2 kq x62_22 l0_0 a0_1 a0_2 a0_3 a0_4 l0_5 a0_6 = some r) ∧ Aside0 (kq ≤ kj13) ∧ Aside0 (wc.heap[gb429]? = some (.cells #[(.slice A0_0 l0_0.length c0_0), .int .i64 a0_1, .int .i64 a0_2, .int .i64 a0_3, .int .i64 a0_4, (.slice A0_5 l0_5.length c0_5), .int .i64 a0_6] 26 (0, 0))) ∧ Aside0 (wc.heap[gb441]? = some (.cells #[.int .i64 t438, .int .i64 t439] 32 (0, 0))) ∧ Aside0 (wc.heap[gb445]? = some (.cells #[.int .i64 t442, .int .i64 t443] 32 (0, 0))) ∧ Aside0 (Below w.heap.size w wc))
       case first =>
        have H := HC23.out
        clear HC23
        by_cases c35 : (!(t438 == t442) || (!(t439 == t443))) = true
        ·rw [if_pos c35] at H
         have c35b0 : (!(t438 == t442) || (!(t439 == t443))) = true := c35
         clear c35
         (first | rw [c35b0] | (simp only [i64_w, i32_w]; rw [c35b0]) | skip)
         have H' := Aside0.mk H
         clear H
         have hnb36 := NB441_429.out
         have hnc36 := NB429_441.out
         have hnb37 := NB441_445.out
         have hnc37 := NB445_441.out
         have hcz38_0 : w31.cell? ⟨gb441, 0, none⟩ = some (.int .i64 t438) := (blk_cell BK441.out 0).trans rfl
         have hcz38_1 : w31.cell? ⟨gb441, 1, none⟩ = some (.int .i64 t439) := (blk_cell BK441.out 1).trans rfl
         have hfz38_0 := blk_frozen BK441.out 0
         have hfz38_1 := blk_frozen BK441.out 1
         have hnb39 := NB445_429.out
         have hnc39 := NB429_445.out
         have hcz40_0 : w31.cell? ⟨gb445, 0, none⟩ = some (.int .i64 0) := (blk_cell BK445.out 0).trans rfl
         have hcz40_1 : w31.cell? ⟨gb445, 1, none⟩ = some (.int .i64 0) := (blk_cell BK445.out 1).trans rfl
         have hfz40_0 := blk_frozen BK445.out 0
         have hfz40_1 := blk_frozen BK445.out 1
         go_wp2
         go_meet
         case rel => exact ⟨_, (true), (by first | rfl | (simp; done) | (simp [*]; done)), H', ⟨by have := HJ3.out; have := HJ13.out; first | omega | exact Nat.le_refl _⟩, ⟨by (with_reducible repeat (first | refine blk_drewN ?_ _ | refine blk_drew ?_ | refine blk_alloc ?_ _)); refine blk_far ?_ NB429_445.out _; (with_reducible repeat (first | refine blk_drewN ?_ _ | refine blk_drew ?_ | refine blk_alloc ?_ _)); refine blk_far ?_ NB429_445.out _; (with_reducible repeat (first | refine blk_drewN ?_ _ | refine blk_drew ?_ | refine blk_alloc ?_ _)); exact BK429.out⟩, ⟨by (with_reducible repeat (first | refine blk_drewN ?_ _ | refine blk_drew ?_ | refine blk_alloc ?_ _)); refine blk_far ?_ NB441_445.out _; (with_reducible repeat (first | refine blk_drewN ?_ _ | refine blk_drew ?_ | refine blk_alloc ?_ _)); refine blk_far ?_ NB441_445.out _; (with_reducible repeat (first | refine blk_drewN ?_ _ | refine blk_drew ?_ | refine blk_alloc ?_ _)); exact BK441.out⟩, ⟨by (with_reducible repeat (first | refine blk_drewN ?_ _ | refine blk_drew ?_ | refine blk_alloc ?_ _)); refine blk_put (cs := #[.int .i64 t442, .int .i64 0]) ?_ 1 _ rfl; (with_reducible repeat (first | refine blk_drewN ?_ _ | refine blk_drew ?_ | refine blk_alloc ?_ _)); refine blk_put (cs := #[.int .i64 0, .int .i64 0]) ?_ 0 _ rfl; (with_reducible repeat (first | refine blk_drewN ?_ _ | refine blk_drew ?_ | refine blk_alloc ?_ _)); exact BK445.out⟩, ⟨by repeat (first | (with_reducible first | exact HB.out | apply below_alloc | apply pw_below_drewN | apply below_drew1 | refine below_set ?_ GE429.out | refine below_set ?_ GE441.out | refine below_set ?_ GE445.out) | exact HB.out)⟩⟩
        ·rw [if_neg c35] at H
         have c35b0 : (!(t438 == t442) || (!(t439 == t443))) = false := by simpa using c35
         clear c35
         (first | rw [c35b0] | (simp only [i64_w, i32_w]; rw [c35b0]) | skip)
         have H' := Aside0.mk H
         clear H
         have hnb41 := NB441_429.out
         have hnc41 := NB429_441.out
         have hnb42 := NB441_445.out
         have hnc42 := NB445_441.out
         have hcz43_0 : w31.cell? ⟨gb441, 0, none⟩ = some (.int .i64 t438) := (blk_cell BK441.out 0).trans rfl
         have hcz43_1 : w31.cell? ⟨gb441, 1, none⟩ = some (.int .i64 t439) := (blk_cell BK441.out 1).trans rfl
         have hfz43_0 := blk_frozen BK441.out 0
         have hfz43_1 := blk_frozen BK441.out 1
         have hnb44 := NB445_429.out
         have hnc44 := NB429_445.out
         have hcz45_0 : w31.cell? ⟨gb445, 0, none⟩ = some (.int .i64 0) := (blk_cell BK445.out 0).trans rfl
         have hcz45_1 : w31.cell? ⟨gb445, 1, none⟩ = some (.int .i64 0) := (blk_cell BK445.out 1).trans rfl
         have hfz45_0 := blk_frozen BK445.out 0
         have hfz45_1 := blk_frozen BK445.out 1
         go_wp2
         go_meet
         case rel => exact ⟨_, ((t440 != t444)), (by first | rfl | (simp; done) | (simp [*]; done)), H', ⟨by have := HJ3.out; have := HJ13.out; first | omega | exact Nat.le_refl _⟩, ⟨by (with_reducible repeat (first | refine blk_drewN ?_ _ | refine blk_drew ?_ | refine blk_alloc ?_ _)); refine blk_far ?_ NB429_445.out _; (with_reducible repeat (first | refine blk_drewN ?_ _ | refine blk_drew ?_ | refine blk_alloc ?_ _)); refine blk_far ?_ NB429_445.out _; (with_reducible repeat (first | refine blk_drewN ?_ _ | refine blk_drew ?_ | refine blk_alloc ?_ _)); exact BK429.out⟩, ⟨by (with_reducible repeat (first | refine blk_drewN ?_ _ | refine blk_drew ?_ | refine blk_alloc ?_ _)); refine blk_far ?_ NB441_445.out _; (with_reducible repeat (first | refine blk_drewN ?_ _ | refine blk_drew ?_ | refine blk_alloc ?_ _)); refine blk_far ?_ NB441_445.out _; (with_reducible repeat (first | refine blk_drewN ?_ _ | refine blk_drew ?_ | refine blk_alloc ?_ _)); exact BK441.out⟩, ⟨by (with_reducible repeat (first | refine blk_drewN ?_ _ | refine blk_drew ?_ | refine blk_alloc ?_ _)); refine blk_put (cs := #[.int .i64 t442, .int .i64 0]) ?_ 1 _ rfl; (with_reducible repeat (first | refine blk_drewN ?_ _ | refine blk_drew ?_ | refine blk_alloc ?_ _)); refine blk_put (cs := #[.int .i64 0, .int .i64 0]) ?_ 0 _ rfl; (with_reducible repeat (first | refine blk_drewN ?_ _ | refine blk_drew ?_ | refine blk_alloc ?_ _)); exact BK445.out⟩, ⟨by repeat (first | (with_reducible first | exact HB.out | apply below_alloc | apply pw_below_drewN | apply below_drew1 | refine below_set ?_ GE429.out | refine below_set ?_ GE441.out | refine below_set ?_ GE445.out) | exact HB.out)⟩⟩
       case rest =>
        clear HC23
        try clear c1
        try clear c2
        try clear p2
        try clear c3
        try clear c4
        try clear c10
        try clear c10b0
        try clear c10b1
        try clear c11
        try clear c19
        try clear c19b0
        try clear c19b1
        try clear c20
        try clear c26
        try clear c27
        try clear c28
        try clear c29
        try clear c30
        try clear c31
        try clear c32
        try clear c33
        try clear c35
        try clear c35b0
        try clear c36
        try clear c37
        try clear c39
        try clear c41
        try clear c42
        try clear c44
        try clear hcz15_0
        try clear hcz15_1
        try clear hcz15_2
        try clear hcz15_3
        try clear hcz15_4
        try clear hcz15_5
        try clear hcz15_6
        try clear hcz17_0
        try clear hcz17_1
        try clear hcz17_2
        try clear hcz17_3
        try clear hcz17_4
        try clear hcz17_5
        try clear hcz17_6
        try clear hcz24_0
        try clear hcz24_1
        try clear hcz24_2
        try clear hcz24_3
        try clear hcz24_4
        try clear hcz24_5
        try clear hcz24_6
        try clear hcz28_0
        try clear hcz28_1
        try clear hcz29_0
        try clear hcz29_1
        try clear hcz29_2
        try clear hcz29_3
        try clear hcz29_4
        try clear hcz29_5
        try clear hcz29_6
        try clear hcz34_0
        try clear hcz34_1
        try clear hcz38_0
        try clear hcz38_1
        try clear hcz40_0
        try clear hcz40_1
        try clear hcz43_0
        try clear hcz43_1
        try clear hcz45_0
        try clear hcz45_1
        try clear hcz6_0
        try clear hcz6_1
        try clear hcz6_2
        try clear hcz6_3
        try clear hcz6_4
        try clear hcz6_5
        try clear hcz6_6
        try clear hcz8_0
        try clear hcz8_1
        try clear hcz8_2
        try clear hcz8_3
        try clear hcz8_4
        try clear hcz8_5
        try clear hcz8_6
        try clear hfz15_0
        try clear hfz15_1
        try clear hfz15_2
        try clear hfz15_3
        try clear hfz15_4
        try clear hfz15_5
        try clear hfz15_6
        try clear hfz17_0
        try clear hfz17_1
        try clear hfz17_2
        try clear hfz17_3
        try clear hfz17_4
        try clear hfz17_5
        try clear hfz17_6
        try clear hfz24_0
        try clear hfz24_1
        try clear hfz24_2
        try clear hfz24_3
        try clear hfz24_4
        try clear hfz24_5
        try clear hfz24_6
        try clear hfz28_0
        try clear hfz28_1
        try clear hfz29_0
        try clear hfz29_1
        try clear hfz29_2
        try clear hfz29_3
        try clear hfz29_4
        try clear hfz29_5
        try clear hfz29_6
        try clear hfz34_0
        try clear hfz34_1
        try clear hfz38_0
        try clear hfz38_1
        try clear hfz40_0
        try clear hfz40_1
        try clear hfz43_0
        try clear hfz43_1
        try clear hfz45_0
        try clear hfz45_1
        try clear hfz6_0
        try clear hfz6_1
        try clear hfz6_2
        try clear hfz6_3
        try clear hfz6_4
        try clear hfz6_5
        try clear hfz6_6
        try clear hfz8_0
        try clear hfz8_1
        try clear hfz8_2
        try clear hfz8_3
        try clear hfz8_4
        try clear hfz8_5
        try clear hfz8_6
        try clear p2
        obtain ⟨kq, x62_22, rfl, HA, HJ22, BK429, BK441, BK445, HB⟩ := hcut
        cases kq with
        | zero => exact absurd HA.out (by simp [macadamlaw06_ClaimPays.j2])
        | succ kj22 =>
         have H := HA.out
         clear HA
         simp only [macadamlaw06_ClaimPays.j2] at H
         by_cases c46 : x62_22 = true
         ·subst c46
          have H1 : (some false) = some r := by rw [if_pos rfl] at H; exact H
          clear H
          have H := H1
          clear H1
          obtain rfl := Option.some.inj H
          go_wp2
          go_ret
          exact ⟨by first | rfl | (simp [errW_none, errW_some] <;> rfl) | (simp only [i64_w, i32_w] <;> rfl) | (simp [*, errW_none, errW_some] <;> rfl), by repeat (first | (with_reducible first | exact HB.out | apply below_alloc | apply pw_below_drewN | apply below_drew1 | refine below_set ?_ GE429.out | refine below_set ?_ GE441.out | refine below_set ?_ GE445.out) | exact HB.out)⟩
         ·replace c46 := Bool.eq_false_iff.mpr c46
          subst c46
          have H1 : ((claim_Pays.f l0_0 a0_1 a0_2 a0_3 a0_4 l0_5 a0_6).bind fun bt446 => ((macadamref06_Pays.f kj22 l0_0 a0_1 a0_2 a0_3 a0_4 l0_5 a0_6).bind fun bt448 => (if bt446.1 = bt448.1 then (macadamlaw06_ClaimPays.j3 kj22 (bt446.2 != bt448.2) l0_0 a0_1 a0_2 a0_3 a0_4 l0_5 a0_6) else (macadamlaw06_ClaimPays.j3 kj22 true l0_0 a0_1 a0_2 a0_3 a0_4 l0_5 a0_6)))) = some r := by rw [if_neg (show ¬ (false = true) by decide)] at H; exact H
          clear H
          have H := H1
          clear H1
          replace H := Option.bind_eq_some_iff.mp H
          obtain ⟨⟨t446, t447⟩, A470, H⟩ := H
          replace H : ((macadamref06_Pays.f kj22 l0_0 a0_1 a0_2 a0_3 a0_4 l0_5 a0_6).bind fun bt448 => (if t446 = bt448.1 then (macadamlaw06_ClaimPays.j3 kj22 (t447 != bt448.2) l0_0 a0_1 a0_2 a0_3 a0_4 l0_5 a0_6) else (macadamlaw06_ClaimPays.j3 kj22 true l0_0 a0_1 a0_2 a0_3 a0_4 l0_5 a0_6))) = some r := H
          have A47 := Aside0.mk A470
          clear A470
          replace H := Option.bind_eq_some_iff.mp H
          obtain ⟨⟨t448, t449⟩, A480, H⟩ := H
          replace H : (if t446 = t448 then (macadamlaw06_ClaimPays.j3 kj22 (t447 != t449) l0_0 a0_1 a0_2 a0_3 a0_4 l0_5 a0_6) else (macadamlaw06_ClaimPays.j3 kj22 true l0_0 a0_1 a0_2 a0_3 a0_4 l0_5 a0_6)) = some r := H
          have A48 := Aside0.mk A480
          clear A480
          have HC49 := Aside0.mk H
          clear H
          have hnb50 := NB429_441.out
          have hnc50 := NB441_429.out
          have hnb51 := NB429_445.out
          have hnc51 := NB445_429.out
          have hcz52_0 : wc.cell? ⟨gb429, 0, none⟩ = some (.slice A0_0 l0_0.length c0_0) := (blk_cell BK429.out 0).trans rfl
          have hcz52_1 : wc.cell? ⟨gb429, 1, none⟩ = some (.int .i64 a0_1) := (blk_cell BK429.out 1).trans rfl
          have hcz52_2 : wc.cell? ⟨gb429, 2, none⟩ = some (.int .i64 a0_2) := (blk_cell BK429.out 2).trans rfl
          have hcz52_3 : wc.cell? ⟨gb429, 3, none⟩ = some (.int .i64 a0_3) := (blk_cell BK429.out 3).trans rfl
          have hcz52_4 : wc.cell? ⟨gb429, 4, none⟩ = some (.int .i64 a0_4) := (blk_cell BK429.out 4).trans rfl
          have hcz52_5 : wc.cell? ⟨gb429, 5, none⟩ = some (.slice A0_5 l0_5.length c0_5) := (blk_cell BK429.out 5).trans rfl
          have hcz52_6 : wc.cell? ⟨gb429, 6, none⟩ = some (.int .i64 a0_6) := (blk_cell BK429.out 6).trans rfl
          have hfz52_0 := blk_frozen BK429.out 0
          have hfz52_1 := blk_frozen BK429.out 1
          have hfz52_2 := blk_frozen BK429.out 2
          have hfz52_3 := blk_frozen BK429.out 3
          have hfz52_4 := blk_frozen BK429.out 4
          have hfz52_5 := blk_frozen BK429.out 5
          have hfz52_6 := blk_frozen BK429.out 6
          go_upto_region 15 with (first | ((with_reducible refine gate_callee (f := 32) rfl ?_); refine goesL_ (some 65) rfl rfl Tryd.func32 (by kernel_rfl) rfl #[.agg #[.slice A0_0 l0_0.length c0_0, .int .i64 a0_1, .int .i64 a0_2, .int .i64 a0_3, .int .i64 a0_4, .slice A0_5 l0_5.length c0_5, .int .i64 a0_6]] rfl (by (try simp only [List.map_toArray, List.map_cons, List.map_nil]); first | done | rfl | (simp only [List.length_drop, List.length_take]; rfl)) ?_; (with_reducible refine (claim_Pays.calls _ _ l0_0 a0_1 a0_2 a0_3 a0_4 _ _ l0_5 a0_6 t446 t447 _ ?side1 ?side2 ?side3 ?side4 ?side5 A47.out).mono ?_); (case side1 => first | exact HG.out | exact Glob.step HG.out HB.out | exact Glob.step HG.out (by repeat (first | (with_reducible first | exact HB.out | apply below_alloc | apply pw_below_drewN | apply below_drew1 | refine below_set ?_ GE429.out | refine below_set ?_ GE441.out | refine below_set ?_ GE445.out) | exact HB.out))); (case side2 => repeat (first | exact (Kd.C_below HR0_0.out HB.out) | (with_reducible refine Kd.C_alloc ?_ _) | (with_reducible refine Kd.C_drewN ?_ _) | (with_reducible refine Kd.C_drew ?_))); (case side3 => exact HC0_0.out); (case side4 => repeat (first | exact (Kd.C_below HR0_5.out HB.out) | (with_reducible refine Kd.C_alloc ?_ _) | (with_reducible refine Kd.C_drewN ?_ _) | (with_reducible refine Kd.C_drew ?_))); (case side5 => exact HC0_5.out); rintro e w53 ⟨rfl, hb⟩; refine ⟨_, rfl, ?_⟩; have n0_ := Aside0.mk (blk_below (g := gb429) (o := .cells #[.slice A0_0 l0_0.length c0_0, .int .i64 a0_1, .int .i64 a0_2, .int .i64 a0_3, .int .i64 a0_4, .slice A0_5 l0_5.length c0_5, .int .i64 a0_6] 26 (0, 0)) (by (with_reducible repeat (first | refine blk_drewN ?_ _ | refine blk_drew ?_ | refine blk_alloc ?_ _)); exact BK429.out) hb); have n1_ := Aside0.mk (blk_below (g := gb441) (o := .cells #[.int .i64 t438, .int .i64 t439] 32 (0, 0)) (by (with_reducible repeat (first | refine blk_drewN ?_ _ | refine blk_drew ?_ | refine blk_alloc ?_ _)); exact BK441.out) hb); have n2_ := Aside0.mk (blk_below (g := gb445) (o := .cells #[.int .i64 t442, .int .i64 t443] 32 (0, 0)) (by (with_reducible repeat (first | refine blk_drewN ?_ _ | refine blk_drew ?_ | refine blk_alloc ?_ _)); exact BK445.out) hb); have n3_ := Aside0.mk (below_step (by repeat (first | (with_reducible first | exact HB.out | apply below_alloc | apply pw_below_drewN | apply below_drew1 | refine below_set ?_ GE429.out | refine below_set ?_ GE441.out | refine below_set ?_ GE445.out) | exact HB.out)) hb); clear BK429; clear BK441; clear BK445; clear HB; have BK429 := n0_; have BK441 := n1_; have BK445 := n2_; have HB := n3_; clear n0_ n1_ n2_ n3_; (try clear hb); (try clear hb2); (try clear hk); (try clear hi); have hcz54_0 : w53.cell? ⟨gb429, 0, none⟩ = some (.slice A0_0 l0_0.length c0_0) := (blk_cell BK429.out 0).trans rfl; have hcz54_1 : w53.cell? ⟨gb429, 1, none⟩ = some (.int .i64 a0_1) := (blk_cell BK429.out 1).trans rfl; have hcz54_2 : w53.cell? ⟨gb429, 2, none⟩ = some (.int .i64 a0_2) := (blk_cell BK429.out 2).trans rfl; have hcz54_3 : w53.cell? ⟨gb429, 3, none⟩ = some (.int .i64 a0_3) := (blk_cell BK429.out 3).trans rfl; have hcz54_4 : w53.cell? ⟨gb429, 4, none⟩ = some (.int .i64 a0_4) := (blk_cell BK429.out 4).trans rfl; have hcz54_5 : w53.cell? ⟨gb429, 5, none⟩ = some (.slice A0_5 l0_5.length c0_5) := (blk_cell BK429.out 5).trans rfl; have hcz54_6 : w53.cell? ⟨gb429, 6, none⟩ = some (.int .i64 a0_6) := (blk_cell BK429.out 6).trans rfl; have hfz54_0 := blk_frozen BK429.out 0; have hfz54_1 := blk_frozen BK429.out 1; have hfz54_2 := blk_frozen BK429.out 2; have hfz54_3 := blk_frozen BK429.out 3; have hfz54_4 := blk_frozen BK429.out 4; have hfz54_5 := blk_frozen BK429.out 5; have hfz54_6 := blk_frozen BK429.out 6) | ((with_reducible refine gate_callee (f := 33) rfl ?_); refine goesL_ (some 70) rfl rfl Tryd.func33 (by kernel_rfl) rfl #[.agg #[.slice A0_0 l0_0.length c0_0, .int .i64 a0_1, .int .i64 a0_2, .int .i64 a0_3, .int .i64 a0_4, .slice A0_5 l0_5.length c0_5, .int .i64 a0_6]] rfl (by (try simp only [List.map_toArray, List.map_cons, List.map_nil]); first | done | rfl | (simp only [List.length_drop, List.length_take]; rfl)) ?_; (with_reducible refine (macadamref06_Pays.calls kj22 _ _ l0_0 a0_1 a0_2 a0_3 a0_4 _ _ l0_5 a0_6 t448 t449 _ ?side1 ?side2 ?side3 ?side4 A48.out).mono ?_); (case side1 => repeat (first | exact (Kd.C_below HR0_0.out HB.out) | (with_reducible refine Kd.C_alloc ?_ _) | (with_reducible refine Kd.C_drewN ?_ _) | (with_reducible refine Kd.C_drew ?_))); (case side2 => exact HC0_0.out); (case side3 => repeat (first | exact (Kd.C_below HR0_5.out HB.out) | (with_reducible refine Kd.C_alloc ?_ _) | (with_reducible refine Kd.C_drewN ?_ _) | (with_reducible refine Kd.C_drew ?_))); (case side4 => exact HC0_5.out); rintro e w55 ⟨rfl, hb⟩; refine ⟨_, rfl, ?_⟩; have n0_ := Aside0.mk (blk_below (g := gb429) (o := .cells #[.slice A0_0 l0_0.length c0_0, .int .i64 a0_1, .int .i64 a0_2, .int .i64 a0_3, .int .i64 a0_4, .slice A0_5 l0_5.length c0_5, .int .i64 a0_6] 26 (0, 0)) (by (with_reducible repeat (first | refine blk_drewN ?_ _ | refine blk_drew ?_ | refine blk_alloc ?_ _)); exact BK429.out) hb); have n1_ := Aside0.mk (blk_below (g := gb441) (o := .cells #[.int .i64 t438, .int .i64 t439] 32 (0, 0)) (by (with_reducible repeat (first | refine blk_drewN ?_ _ | refine blk_drew ?_ | refine blk_alloc ?_ _)); exact BK441.out) hb); have n2_ := Aside0.mk (blk_below (g := gb445) (o := .cells #[.int .i64 t442, .int .i64 t443] 32 (0, 0)) (by (with_reducible repeat (first | refine blk_drewN ?_ _ | refine blk_drew ?_ | refine blk_alloc ?_ _)); exact BK445.out) hb); have n3_ := Aside0.mk (below_step (by repeat (first | (with_reducible first | exact HB.out | apply below_alloc | apply pw_below_drewN | apply below_drew1 | refine below_set ?_ GE429.out | refine below_set ?_ GE441.out | refine below_set ?_ GE445.out) | exact HB.out)) hb); clear BK429; clear BK441; clear BK445; clear HB; have BK429 := n0_; have BK441 := n1_; have BK445 := n2_; have HB := n3_; clear n0_ n1_ n2_ n3_; (try clear hb); (try clear hb2); (try clear hk); (try clear hi)))
          (try simp only [Act.put, List.setIfInBounds_toArray, List.set_cons_zero, List.set_cons_succ])
          go_cut [80] (fun v80 wc => ∃ (kq : Nat) (x80_48 : Bool), v80 = .bool x80_48 ∧ Aside0 (macadamlaw06_ClaimPays.j3 kq x80_48 l0_0 a0_1 a0_2 a0_3 a0_4 l0_5 a0_6 = some r) ∧ Aside0 (kq ≤ kj22) ∧ Aside0 (wc.heap[gb429]? = some (.cells #[(.slice A0_0 l0_0.length c0_0), .int .i64 a0_1, .int .i64 a0_2, .int .i64 a0_3, .int .i64 a0_4, (.slice A0_5 l0_5.length c0_5), .int .i64 a0_6] 26 (0, 0))) ∧ Aside0 (wc.heap[gb441]? = some (.cells #[.int .i64 t438, .int .i64 t439] 32 (0, 0))) ∧ Aside0 (wc.heap[gb445]? = some (.cells #[.int .i64 t442, .int .i64 t443] 32 (0, 0))) ∧ Aside0 (Below w.heap.size w wc))
          case first =>
           have H := HC49.out
           clear HC49
           by_cases c56 : t446 = t448
           ·rw [if_pos c56] at H
            have c56b0 : (t446 == t448) = true := beq_iff_eq.mpr c56
            have c56b1 : (t446 != t448) = false := bne_eq_false_iff_eq.mpr c56
            clear c56
            (first | rw [c56b0] | (simp only [i64_w, i32_w]; rw [c56b0]) | skip)
            have H' := Aside0.mk H
            clear H
            go_wp2
            go_meet
            case rel => exact ⟨_, ((t447 != t449)), (by first | rfl | (simp; done) | (simp [*]; done)), H', ⟨by have := HJ3.out; have := HJ13.out; have := HJ22.out; first | omega | exact Nat.le_refl _⟩, ⟨by (with_reducible repeat (first | refine blk_drewN ?_ _ | refine blk_drew ?_ | refine blk_alloc ?_ _)); exact BK429.out⟩, ⟨by (with_reducible repeat (first | refine blk_drewN ?_ _ | refine blk_drew ?_ | refine blk_alloc ?_ _)); exact BK441.out⟩, ⟨by (with_reducible repeat (first | refine blk_drewN ?_ _ | refine blk_drew ?_ | refine blk_alloc ?_ _)); exact BK445.out⟩, ⟨by repeat (first | (with_reducible first | exact HB.out | apply below_alloc | apply pw_below_drewN | apply below_drew1 | refine below_set ?_ GE429.out | refine below_set ?_ GE441.out | refine below_set ?_ GE445.out) | exact HB.out)⟩⟩
           ·rw [if_neg c56] at H
            have c56b0 : (t446 == t448) = false := beq_eq_false_iff_ne.mpr c56
            have c56b1 : (t446 != t448) = true := bne_iff_ne.mpr c56
            (first | rw [c56b0] | (simp only [i64_w, i32_w]; rw [c56b0]) | skip)
            have H' := Aside0.mk H
            clear H
            go_wp2
            go_meet
            case rel => exact ⟨_, (true), (by first | rfl | (simp; done) | (simp [*]; done)), H', ⟨by have := HJ3.out; have := HJ13.out; have := HJ22.out; first | omega | exact Nat.le_refl _⟩, ⟨by (with_reducible repeat (first | refine blk_drewN ?_ _ | refine blk_drew ?_ | refine blk_alloc ?_ _)); exact BK429.out⟩, ⟨by (with_reducible repeat (first | refine blk_drewN ?_ _ | refine blk_drew ?_ | refine blk_alloc ?_ _)); exact BK441.out⟩, ⟨by (with_reducible repeat (first | refine blk_drewN ?_ _ | refine blk_drew ?_ | refine blk_alloc ?_ _)); exact BK445.out⟩, ⟨by repeat (first | (with_reducible first | exact HB.out | apply below_alloc | apply pw_below_drewN | apply below_drew1 | refine below_set ?_ GE429.out | refine below_set ?_ GE441.out | refine below_set ?_ GE445.out) | exact HB.out)⟩⟩
          case rest =>
           clear HC49
           try clear c1
           try clear c2
           try clear p2
           try clear c3
           try clear c4
           try clear c5
           try clear c10
           try clear c10b0
           try clear c10b1
           try clear c11
           try clear c19
           try clear c19b0
           try clear c19b1
           try clear c20
           try clear c26
           try clear c27
           try clear c28
           try clear c29
           try clear c30
           try clear c31
           try clear c32
           try clear c33
           try clear c35
           try clear c35b0
           try clear c36
           try clear c37
           try clear c39
           try clear c41
           try clear c42
           try clear c44
           try clear c46
           try clear c50
           try clear c51
           try clear c56
           try clear c56b0
           try clear c56b1
           try clear hcz15_0
           try clear hcz15_1
           try clear hcz15_2
           try clear hcz15_3
           try clear hcz15_4
           try clear hcz15_5
           try clear hcz15_6
           try clear hcz17_0
           try clear hcz17_1
           try clear hcz17_2
           try clear hcz17_3
           try clear hcz17_4
           try clear hcz17_5
           try clear hcz17_6
           try clear hcz24_0
           try clear hcz24_1
           try clear hcz24_2
           try clear hcz24_3
           try clear hcz24_4
           try clear hcz24_5
           try clear hcz24_6
           try clear hcz28_0
           try clear hcz28_1
           try clear hcz29_0
           try clear hcz29_1
           try clear hcz29_2
           try clear hcz29_3
           try clear hcz29_4
           try clear hcz29_5
           try clear hcz29_6
           try clear hcz34_0
           try clear hcz34_1
           try clear hcz38_0
           try clear hcz38_1
           try clear hcz40_0
           try clear hcz40_1
           try clear hcz43_0
           try clear hcz43_1
           try clear hcz45_0
           try clear hcz45_1
           try clear hcz52_0
           try clear hcz52_1
           try clear hcz52_2
           try clear hcz52_3
           try clear hcz52_4
           try clear hcz52_5
           try clear hcz52_6
           try clear hcz54_0
           try clear hcz54_1
           try clear hcz54_2
           try clear hcz54_3
           try clear hcz54_4
           try clear hcz54_5
           try clear hcz54_6
           try clear hcz6_0
           try clear hcz6_1
           try clear hcz6_2
           try clear hcz6_3
           try clear hcz6_4
           try clear hcz6_5
           try clear hcz6_6
           try clear hcz8_0
           try clear hcz8_1
           try clear hcz8_2
           try clear hcz8_3
           try clear hcz8_4
           try clear hcz8_5
           try clear hcz8_6
           try clear hfz15_0
           try clear hfz15_1
           try clear hfz15_2
           try clear hfz15_3
           try clear hfz15_4
           try clear hfz15_5
           try clear hfz15_6
           try clear hfz17_0
           try clear hfz17_1
           try clear hfz17_2
           try clear hfz17_3
           try clear hfz17_4
           try clear hfz17_5
           try clear hfz17_6
           try clear hfz24_0
           try clear hfz24_1
           try clear hfz24_2
           try clear hfz24_3
           try clear hfz24_4
           try clear hfz24_5
           try clear hfz24_6
           try clear hfz28_0
           try clear hfz28_1
           try clear hfz29_0
           try clear hfz29_1
           try clear hfz29_2
           try clear hfz29_3
           try clear hfz29_4
           try clear hfz29_5
           try clear hfz29_6
           try clear hfz34_0
           try clear hfz34_1
           try clear hfz38_0
           try clear hfz38_1
           try clear hfz40_0
           try clear hfz40_1
           try clear hfz43_0
           try clear hfz43_1
           try clear hfz45_0
           try clear hfz45_1
           try clear hfz52_0
           try clear hfz52_1
           try clear hfz52_2
           try clear hfz52_3
           try clear hfz52_4
           try clear hfz52_5
           try clear hfz52_6
           try clear hfz54_0
           try clear hfz54_1
           try clear hfz54_2
           try clear hfz54_3
           try clear hfz54_4
           try clear hfz54_5
           try clear hfz54_6
           try clear hfz6_0
           try clear hfz6_1
           try clear hfz6_2
           try clear hfz6_3
           try clear hfz6_4
           try clear hfz6_5
           try clear hfz6_6
           try clear hfz8_0
           try clear hfz8_1
           try clear hfz8_2
           try clear hfz8_3
           try clear hfz8_4
           try clear hfz8_5
           try clear hfz8_6
           try clear p2
           obtain ⟨kq, x80_48, rfl, HA, HJ48, BK429, BK441, BK445, HB⟩ := hcut
           cases kq with
           | zero => exact absurd HA.out (by simp [macadamlaw06_ClaimPays.j3])
           | succ kj48 =>
            have H := HA.out
            clear HA
            simp only [macadamlaw06_ClaimPays.j3] at H
            by_cases c57 : x80_48 = true
            ·subst c57
             have H1 : (some false) = some r := by rw [if_pos rfl] at H; exact H
             clear H
             have H := H1
             clear H1
             obtain rfl := Option.some.inj H
             go_wp2
             go_ret
             exact ⟨by first | rfl | (simp [errW_none, errW_some] <;> rfl) | (simp only [i64_w, i32_w] <;> rfl) | (simp [*, errW_none, errW_some] <;> rfl), by repeat (first | (with_reducible first | exact HB.out | apply below_alloc | apply pw_below_drewN | apply below_drew1 | refine below_set ?_ GE429.out | refine below_set ?_ GE441.out | refine below_set ?_ GE445.out) | exact HB.out)⟩
            ·replace c57 := Bool.eq_false_iff.mpr c57
             subst c57
             have H1 : ((claim_First.f l0_0 a0_1 a0_2 a0_3 a0_4 l0_5 a0_6).bind fun bt450 => ((macadamref06_First.f kj48 l0_0 a0_1 a0_2 a0_3 a0_4 l0_5 a0_6).bind fun bt452 => (if bt450.1 = bt452.1 then (if bt450.2 = bt452.2 then ((macadamlaw06_billed.f).bind fun t454 => (some t454)) else (some false)) else (some false)))) = some r := by rw [if_neg (show ¬ (false = true) by decide)] at H; exact H
             clear H
             have H := H1
             clear H1
             replace H := Option.bind_eq_some_iff.mp H
             obtain ⟨⟨t450, t451⟩, A580, H⟩ := H
             replace H : ((macadamref06_First.f kj48 l0_0 a0_1 a0_2 a0_3 a0_4 l0_5 a0_6).bind fun bt452 => (if t450 = bt452.1 then (if t451 = bt452.2 then ((macadamlaw06_billed.f).bind fun t454 => (some t454)) else (some false)) else (some false))) = some r := H
             have A58 := Aside0.mk A580
             clear A580
             replace H := Option.bind_eq_some_iff.mp H
             obtain ⟨⟨t452, t453⟩, A590, H⟩ := H
             replace H : (if t450 = t452 then (if t451 = t453 then ((macadamlaw06_billed.f).bind fun t454 => (some t454)) else (some false)) else (some false)) = some r := H
             have A59 := Aside0.mk A590
             clear A590
             by_cases c60 : t450 = t452
             ·rw [if_pos c60] at H
              have c60b0 : (t450 == t452) = true := beq_iff_eq.mpr c60
              have c60b1 : (t450 != t452) = false := bne_eq_false_iff_eq.mpr c60
              clear c60
              by_cases c61 : t451 = t453
              ·rw [if_pos c61] at H
               have c61b0 : (t451 == t453) = true := beq_iff_eq.mpr c61
               have c61b1 : (t451 != t453) = false := bne_eq_false_iff_eq.mpr c61
               clear c61
               replace H := Option.bind_eq_some_iff.mp H
               obtain ⟨t454, A620, H⟩ := H
               replace H : (some t454) = some r := H
               have A62 := Aside0.mk A620
               clear A620
               obtain rfl := Option.some.inj H
               have hnb63 := NB429_441.out
               have hnc63 := NB441_429.out
               have hnb64 := NB429_445.out
               have hnc64 := NB445_429.out
               have hcz65_0 : wc.cell? ⟨gb429, 0, none⟩ = some (.slice A0_0 l0_0.length c0_0) := (blk_cell BK429.out 0).trans rfl
               have hcz65_1 : wc.cell? ⟨gb429, 1, none⟩ = some (.int .i64 a0_1) := (blk_cell BK429.out 1).trans rfl
               have hcz65_2 : wc.cell? ⟨gb429, 2, none⟩ = some (.int .i64 a0_2) := (blk_cell BK429.out 2).trans rfl
               have hcz65_3 : wc.cell? ⟨gb429, 3, none⟩ = some (.int .i64 a0_3) := (blk_cell BK429.out 3).trans rfl
               have hcz65_4 : wc.cell? ⟨gb429, 4, none⟩ = some (.int .i64 a0_4) := (blk_cell BK429.out 4).trans rfl
               have hcz65_5 : wc.cell? ⟨gb429, 5, none⟩ = some (.slice A0_5 l0_5.length c0_5) := (blk_cell BK429.out 5).trans rfl
               have hcz65_6 : wc.cell? ⟨gb429, 6, none⟩ = some (.int .i64 a0_6) := (blk_cell BK429.out 6).trans rfl
               have hfz65_0 := blk_frozen BK429.out 0
               have hfz65_1 := blk_frozen BK429.out 1
               have hfz65_2 := blk_frozen BK429.out 2
               have hfz65_3 := blk_frozen BK429.out 3
               have hfz65_4 := blk_frozen BK429.out 4
               have hfz65_5 := blk_frozen BK429.out 5
               have hfz65_6 := blk_frozen BK429.out 6
               go_wp2_with (first | ((with_reducible refine gate_callee (f := 34) rfl ?_); refine goesL_ (some 83) rfl rfl Tryd.func34 (by kernel_rfl) rfl #[.agg #[.slice A0_0 l0_0.length c0_0, .int .i64 a0_1, .int .i64 a0_2, .int .i64 a0_3, .int .i64 a0_4, .slice A0_5 l0_5.length c0_5, .int .i64 a0_6]] rfl (by (try simp only [List.map_toArray, List.map_cons, List.map_nil]); first | done | rfl | (simp only [List.length_drop, List.length_take]; rfl)) ?_; (with_reducible refine (claim_First.calls _ _ l0_0 a0_1 a0_2 a0_3 a0_4 _ _ l0_5 a0_6 t450 t451 _ ?side1 ?side2 ?side3 ?side4 ?side5 A58.out).mono ?_); (case side1 => first | exact HG.out | exact Glob.step HG.out HB.out | exact Glob.step HG.out (by repeat (first | (with_reducible first | exact HB.out | apply below_alloc | apply pw_below_drewN | apply below_drew1 | refine below_set ?_ GE429.out | refine below_set ?_ GE441.out | refine below_set ?_ GE445.out) | exact HB.out))); (case side2 => repeat (first | exact (Kd.C_below HR0_0.out HB.out) | (with_reducible refine Kd.C_alloc ?_ _) | (with_reducible refine Kd.C_drewN ?_ _) | (with_reducible refine Kd.C_drew ?_))); (case side3 => exact HC0_0.out); (case side4 => repeat (first | exact (Kd.C_below HR0_5.out HB.out) | (with_reducible refine Kd.C_alloc ?_ _) | (with_reducible refine Kd.C_drewN ?_ _) | (with_reducible refine Kd.C_drew ?_))); (case side5 => exact HC0_5.out); rintro e w66 ⟨rfl, hb⟩; refine ⟨_, rfl, ?_⟩; have n0_ := Aside0.mk (blk_below (g := gb429) (o := .cells #[.slice A0_0 l0_0.length c0_0, .int .i64 a0_1, .int .i64 a0_2, .int .i64 a0_3, .int .i64 a0_4, .slice A0_5 l0_5.length c0_5, .int .i64 a0_6] 26 (0, 0)) (by (with_reducible repeat (first | refine blk_drewN ?_ _ | refine blk_drew ?_ | refine blk_alloc ?_ _)); exact BK429.out) hb); have n1_ := Aside0.mk (blk_below (g := gb441) (o := .cells #[.int .i64 t438, .int .i64 t439] 32 (0, 0)) (by (with_reducible repeat (first | refine blk_drewN ?_ _ | refine blk_drew ?_ | refine blk_alloc ?_ _)); exact BK441.out) hb); have n2_ := Aside0.mk (blk_below (g := gb445) (o := .cells #[.int .i64 t442, .int .i64 t443] 32 (0, 0)) (by (with_reducible repeat (first | refine blk_drewN ?_ _ | refine blk_drew ?_ | refine blk_alloc ?_ _)); exact BK445.out) hb); have n3_ := Aside0.mk (below_step (by repeat (first | (with_reducible first | exact HB.out | apply below_alloc | apply pw_below_drewN | apply below_drew1 | refine below_set ?_ GE429.out | refine below_set ?_ GE441.out | refine below_set ?_ GE445.out) | exact HB.out)) hb); clear BK429; clear BK441; clear BK445; clear HB; have BK429 := n0_; have BK441 := n1_; have BK445 := n2_; have HB := n3_; clear n0_ n1_ n2_ n3_; (try clear hb); (try clear hb2); (try clear hk); (try clear hi); have hcz67_0 : w66.cell? ⟨gb429, 0, none⟩ = some (.slice A0_0 l0_0.length c0_0) := (blk_cell BK429.out 0).trans rfl; have hcz67_1 : w66.cell? ⟨gb429, 1, none⟩ = some (.int .i64 a0_1) := (blk_cell BK429.out 1).trans rfl; have hcz67_2 : w66.cell? ⟨gb429, 2, none⟩ = some (.int .i64 a0_2) := (blk_cell BK429.out 2).trans rfl; have hcz67_3 : w66.cell? ⟨gb429, 3, none⟩ = some (.int .i64 a0_3) := (blk_cell BK429.out 3).trans rfl; have hcz67_4 : w66.cell? ⟨gb429, 4, none⟩ = some (.int .i64 a0_4) := (blk_cell BK429.out 4).trans rfl; have hcz67_5 : w66.cell? ⟨gb429, 5, none⟩ = some (.slice A0_5 l0_5.length c0_5) := (blk_cell BK429.out 5).trans rfl; have hcz67_6 : w66.cell? ⟨gb429, 6, none⟩ = some (.int .i64 a0_6) := (blk_cell BK429.out 6).trans rfl; have hfz67_0 := blk_frozen BK429.out 0; have hfz67_1 := blk_frozen BK429.out 1; have hfz67_2 := blk_frozen BK429.out 2; have hfz67_3 := blk_frozen BK429.out 3; have hfz67_4 := blk_frozen BK429.out 4; have hfz67_5 := blk_frozen BK429.out 5; have hfz67_6 := blk_frozen BK429.out 6) | ((with_reducible refine gate_callee (f := 35) rfl ?_); refine goesL_ (some 88) rfl rfl Tryd.func35 (by kernel_rfl) rfl #[.agg #[.slice A0_0 l0_0.length c0_0, .int .i64 a0_1, .int .i64 a0_2, .int .i64 a0_3, .int .i64 a0_4, .slice A0_5 l0_5.length c0_5, .int .i64 a0_6]] rfl (by (try simp only [List.map_toArray, List.map_cons, List.map_nil]); first | done | rfl | (simp only [List.length_drop, List.length_take]; rfl)) ?_; (with_reducible refine (macadamref06_First.calls kj48 _ _ l0_0 a0_1 a0_2 a0_3 a0_4 _ _ l0_5 a0_6 t452 t453 _ ?side1 ?side2 ?side3 ?side4 A59.out).mono ?_); (case side1 => repeat (first | exact (Kd.C_below HR0_0.out HB.out) | (with_reducible refine Kd.C_alloc ?_ _) | (with_reducible refine Kd.C_drewN ?_ _) | (with_reducible refine Kd.C_drew ?_))); (case side2 => exact HC0_0.out); (case side3 => repeat (first | exact (Kd.C_below HR0_5.out HB.out) | (with_reducible refine Kd.C_alloc ?_ _) | (with_reducible refine Kd.C_drewN ?_ _) | (with_reducible refine Kd.C_drew ?_))); (case side4 => exact HC0_5.out); rintro e w68 ⟨rfl, hb⟩; refine ⟨_, rfl, ?_⟩; have n0_ := Aside0.mk (blk_below (g := gb429) (o := .cells #[.slice A0_0 l0_0.length c0_0, .int .i64 a0_1, .int .i64 a0_2, .int .i64 a0_3, .int .i64 a0_4, .slice A0_5 l0_5.length c0_5, .int .i64 a0_6] 26 (0, 0)) (by (with_reducible repeat (first | refine blk_drewN ?_ _ | refine blk_drew ?_ | refine blk_alloc ?_ _)); exact BK429.out) hb); have n1_ := Aside0.mk (blk_below (g := gb441) (o := .cells #[.int .i64 t438, .int .i64 t439] 32 (0, 0)) (by (with_reducible repeat (first | refine blk_drewN ?_ _ | refine blk_drew ?_ | refine blk_alloc ?_ _)); exact BK441.out) hb); have n2_ := Aside0.mk (blk_below (g := gb445) (o := .cells #[.int .i64 t442, .int .i64 t443] 32 (0, 0)) (by (with_reducible repeat (first | refine blk_drewN ?_ _ | refine blk_drew ?_ | refine blk_alloc ?_ _)); exact BK445.out) hb); have n3_ := Aside0.mk (below_step (by repeat (first | (with_reducible first | exact HB.out | apply below_alloc | apply pw_below_drewN | apply below_drew1 | refine below_set ?_ GE429.out | refine below_set ?_ GE441.out | refine below_set ?_ GE445.out) | exact HB.out)) hb); clear BK429; clear BK441; clear BK445; clear HB; have BK429 := n0_; have BK441 := n1_; have BK445 := n2_; have HB := n3_; clear n0_ n1_ n2_ n3_; (try clear hb); (try clear hb2); (try clear hk); (try clear hi)) | (go_at_call 25; (with_reducible refine (macadamlaw06_billed.calls  t454 _ ?side1 A62.out).mono ?_); (case side1 => first | exact HG.out | exact Glob.step HG.out HB.out | exact Glob.step HG.out (by repeat (first | (with_reducible first | exact HB.out | apply below_alloc | apply pw_below_drewN | apply below_drew1 | refine below_set ?_ GE429.out | refine below_set ?_ GE441.out | refine below_set ?_ GE445.out) | exact HB.out))); rintro e w69 ⟨rfl, hb⟩; have n0_ := Aside0.mk (blk_below (g := gb429) (o := .cells #[.slice A0_0 l0_0.length c0_0, .int .i64 a0_1, .int .i64 a0_2, .int .i64 a0_3, .int .i64 a0_4, .slice A0_5 l0_5.length c0_5, .int .i64 a0_6] 26 (0, 0)) (by (with_reducible repeat (first | refine blk_drewN ?_ _ | refine blk_drew ?_ | refine blk_alloc ?_ _)); exact BK429.out) hb); have n1_ := Aside0.mk (blk_below (g := gb441) (o := .cells #[.int .i64 t438, .int .i64 t439] 32 (0, 0)) (by (with_reducible repeat (first | refine blk_drewN ?_ _ | refine blk_drew ?_ | refine blk_alloc ?_ _)); exact BK441.out) hb); have n2_ := Aside0.mk (blk_below (g := gb445) (o := .cells #[.int .i64 t442, .int .i64 t443] 32 (0, 0)) (by (with_reducible repeat (first | refine blk_drewN ?_ _ | refine blk_drew ?_ | refine blk_alloc ?_ _)); exact BK445.out) hb); have n3_ := Aside0.mk (below_step (by repeat (first | (with_reducible first | exact HB.out | apply below_alloc | apply pw_below_drewN | apply below_drew1 | refine below_set ?_ GE429.out | refine below_set ?_ GE441.out | refine below_set ?_ GE445.out) | exact HB.out)) hb); clear BK429; clear BK441; clear BK445; clear HB; have BK429 := n0_; have BK441 := n1_; have BK445 := n2_; have HB := n3_; clear n0_ n1_ n2_ n3_; (try clear hb); (try clear hb2); (try clear hk); (try clear hi)))
               go_ret
               exact ⟨by first | rfl | (simp [errW_none, errW_some] <;> rfl) | (simp only [i64_w, i32_w] <;> rfl) | (simp [*, errW_none, errW_some] <;> rfl), by repeat (first | (with_reducible first | exact HB.out | apply below_alloc | apply pw_below_drewN | apply below_drew1 | refine below_set ?_ GE429.out | refine below_set ?_ GE441.out | refine below_set ?_ GE445.out) | exact HB.out)⟩
              ·rw [if_neg c61] at H
               have c61b0 : (t451 == t453) = false := beq_eq_false_iff_ne.mpr c61
               have c61b1 : (t451 != t453) = true := bne_iff_ne.mpr c61
               obtain rfl := Option.some.inj H
               have hnb70 := NB429_441.out
               have hnc70 := NB441_429.out
               have hnb71 := NB429_445.out
               have hnc71 := NB445_429.out
               have hcz72_0 : wc.cell? ⟨gb429, 0, none⟩ = some (.slice A0_0 l0_0.length c0_0) := (blk_cell BK429.out 0).trans rfl
               have hcz72_1 : wc.cell? ⟨gb429, 1, none⟩ = some (.int .i64 a0_1) := (blk_cell BK429.out 1).trans rfl
               have hcz72_2 : wc.cell? ⟨gb429, 2, none⟩ = some (.int .i64 a0_2) := (blk_cell BK429.out 2).trans rfl
               have hcz72_3 : wc.cell? ⟨gb429, 3, none⟩ = some (.int .i64 a0_3) := (blk_cell BK429.out 3).trans rfl
               have hcz72_4 : wc.cell? ⟨gb429, 4, none⟩ = some (.int .i64 a0_4) := (blk_cell BK429.out 4).trans rfl
               have hcz72_5 : wc.cell? ⟨gb429, 5, none⟩ = some (.slice A0_5 l0_5.length c0_5) := (blk_cell BK429.out 5).trans rfl
               have hcz72_6 : wc.cell? ⟨gb429, 6, none⟩ = some (.int .i64 a0_6) := (blk_cell BK429.out 6).trans rfl
               have hfz72_0 := blk_frozen BK429.out 0
               have hfz72_1 := blk_frozen BK429.out 1
               have hfz72_2 := blk_frozen BK429.out 2
               have hfz72_3 := blk_frozen BK429.out 3
               have hfz72_4 := blk_frozen BK429.out 4
               have hfz72_5 := blk_frozen BK429.out 5
               have hfz72_6 := blk_frozen BK429.out 6
               go_wp2_with (first | ((with_reducible refine gate_callee (f := 34) rfl ?_); refine goesL_ (some 83) rfl rfl Tryd.func34 (by kernel_rfl) rfl #[.agg #[.slice A0_0 l0_0.length c0_0, .int .i64 a0_1, .int .i64 a0_2, .int .i64 a0_3, .int .i64 a0_4, .slice A0_5 l0_5.length c0_5, .int .i64 a0_6]] rfl (by (try simp only [List.map_toArray, List.map_cons, List.map_nil]); first | done | rfl | (simp only [List.length_drop, List.length_take]; rfl)) ?_; (with_reducible refine (claim_First.calls _ _ l0_0 a0_1 a0_2 a0_3 a0_4 _ _ l0_5 a0_6 t450 t451 _ ?side1 ?side2 ?side3 ?side4 ?side5 A58.out).mono ?_); (case side1 => first | exact HG.out | exact Glob.step HG.out HB.out | exact Glob.step HG.out (by repeat (first | (with_reducible first | exact HB.out | apply below_alloc | apply pw_below_drewN | apply below_drew1 | refine below_set ?_ GE429.out | refine below_set ?_ GE441.out | refine below_set ?_ GE445.out) | exact HB.out))); (case side2 => repeat (first | exact (Kd.C_below HR0_0.out HB.out) | (with_reducible refine Kd.C_alloc ?_ _) | (with_reducible refine Kd.C_drewN ?_ _) | (with_reducible refine Kd.C_drew ?_))); (case side3 => exact HC0_0.out); (case side4 => repeat (first | exact (Kd.C_below HR0_5.out HB.out) | (with_reducible refine Kd.C_alloc ?_ _) | (with_reducible refine Kd.C_drewN ?_ _) | (with_reducible refine Kd.C_drew ?_))); (case side5 => exact HC0_5.out); rintro e w73 ⟨rfl, hb⟩; refine ⟨_, rfl, ?_⟩; have n0_ := Aside0.mk (blk_below (g := gb429) (o := .cells #[.slice A0_0 l0_0.length c0_0, .int .i64 a0_1, .int .i64 a0_2, .int .i64 a0_3, .int .i64 a0_4, .slice A0_5 l0_5.length c0_5, .int .i64 a0_6] 26 (0, 0)) (by (with_reducible repeat (first | refine blk_drewN ?_ _ | refine blk_drew ?_ | refine blk_alloc ?_ _)); exact BK429.out) hb); have n1_ := Aside0.mk (blk_below (g := gb441) (o := .cells #[.int .i64 t438, .int .i64 t439] 32 (0, 0)) (by (with_reducible repeat (first | refine blk_drewN ?_ _ | refine blk_drew ?_ | refine blk_alloc ?_ _)); exact BK441.out) hb); have n2_ := Aside0.mk (blk_below (g := gb445) (o := .cells #[.int .i64 t442, .int .i64 t443] 32 (0, 0)) (by (with_reducible repeat (first | refine blk_drewN ?_ _ | refine blk_drew ?_ | refine blk_alloc ?_ _)); exact BK445.out) hb); have n3_ := Aside0.mk (below_step (by repeat (first | (with_reducible first | exact HB.out | apply below_alloc | apply pw_below_drewN | apply below_drew1 | refine below_set ?_ GE429.out | refine below_set ?_ GE441.out | refine below_set ?_ GE445.out) | exact HB.out)) hb); clear BK429; clear BK441; clear BK445; clear HB; have BK429 := n0_; have BK441 := n1_; have BK445 := n2_; have HB := n3_; clear n0_ n1_ n2_ n3_; (try clear hb); (try clear hb2); (try clear hk); (try clear hi); have hcz74_0 : w73.cell? ⟨gb429, 0, none⟩ = some (.slice A0_0 l0_0.length c0_0) := (blk_cell BK429.out 0).trans rfl; have hcz74_1 : w73.cell? ⟨gb429, 1, none⟩ = some (.int .i64 a0_1) := (blk_cell BK429.out 1).trans rfl; have hcz74_2 : w73.cell? ⟨gb429, 2, none⟩ = some (.int .i64 a0_2) := (blk_cell BK429.out 2).trans rfl; have hcz74_3 : w73.cell? ⟨gb429, 3, none⟩ = some (.int .i64 a0_3) := (blk_cell BK429.out 3).trans rfl; have hcz74_4 : w73.cell? ⟨gb429, 4, none⟩ = some (.int .i64 a0_4) := (blk_cell BK429.out 4).trans rfl; have hcz74_5 : w73.cell? ⟨gb429, 5, none⟩ = some (.slice A0_5 l0_5.length c0_5) := (blk_cell BK429.out 5).trans rfl; have hcz74_6 : w73.cell? ⟨gb429, 6, none⟩ = some (.int .i64 a0_6) := (blk_cell BK429.out 6).trans rfl; have hfz74_0 := blk_frozen BK429.out 0; have hfz74_1 := blk_frozen BK429.out 1; have hfz74_2 := blk_frozen BK429.out 2; have hfz74_3 := blk_frozen BK429.out 3; have hfz74_4 := blk_frozen BK429.out 4; have hfz74_5 := blk_frozen BK429.out 5; have hfz74_6 := blk_frozen BK429.out 6) | ((with_reducible refine gate_callee (f := 35) rfl ?_); refine goesL_ (some 88) rfl rfl Tryd.func35 (by kernel_rfl) rfl #[.agg #[.slice A0_0 l0_0.length c0_0, .int .i64 a0_1, .int .i64 a0_2, .int .i64 a0_3, .int .i64 a0_4, .slice A0_5 l0_5.length c0_5, .int .i64 a0_6]] rfl (by (try simp only [List.map_toArray, List.map_cons, List.map_nil]); first | done | rfl | (simp only [List.length_drop, List.length_take]; rfl)) ?_; (with_reducible refine (macadamref06_First.calls kj48 _ _ l0_0 a0_1 a0_2 a0_3 a0_4 _ _ l0_5 a0_6 t452 t453 _ ?side1 ?side2 ?side3 ?side4 A59.out).mono ?_); (case side1 => repeat (first | exact (Kd.C_below HR0_0.out HB.out) | (with_reducible refine Kd.C_alloc ?_ _) | (with_reducible refine Kd.C_drewN ?_ _) | (with_reducible refine Kd.C_drew ?_))); (case side2 => exact HC0_0.out); (case side3 => repeat (first | exact (Kd.C_below HR0_5.out HB.out) | (with_reducible refine Kd.C_alloc ?_ _) | (with_reducible refine Kd.C_drewN ?_ _) | (with_reducible refine Kd.C_drew ?_))); (case side4 => exact HC0_5.out); rintro e w75 ⟨rfl, hb⟩; refine ⟨_, rfl, ?_⟩; have n0_ := Aside0.mk (blk_below (g := gb429) (o := .cells #[.slice A0_0 l0_0.length c0_0, .int .i64 a0_1, .int .i64 a0_2, .int .i64 a0_3, .int .i64 a0_4, .slice A0_5 l0_5.length c0_5, .int .i64 a0_6] 26 (0, 0)) (by (with_reducible repeat (first | refine blk_drewN ?_ _ | refine blk_drew ?_ | refine blk_alloc ?_ _)); exact BK429.out) hb); have n1_ := Aside0.mk (blk_below (g := gb441) (o := .cells #[.int .i64 t438, .int .i64 t439] 32 (0, 0)) (by (with_reducible repeat (first | refine blk_drewN ?_ _ | refine blk_drew ?_ | refine blk_alloc ?_ _)); exact BK441.out) hb); have n2_ := Aside0.mk (blk_below (g := gb445) (o := .cells #[.int .i64 t442, .int .i64 t443] 32 (0, 0)) (by (with_reducible repeat (first | refine blk_drewN ?_ _ | refine blk_drew ?_ | refine blk_alloc ?_ _)); exact BK445.out) hb); have n3_ := Aside0.mk (below_step (by repeat (first | (with_reducible first | exact HB.out | apply below_alloc | apply pw_below_drewN | apply below_drew1 | refine below_set ?_ GE429.out | refine below_set ?_ GE441.out | refine below_set ?_ GE445.out) | exact HB.out)) hb); clear BK429; clear BK441; clear BK445; clear HB; have BK429 := n0_; have BK441 := n1_; have BK445 := n2_; have HB := n3_; clear n0_ n1_ n2_ n3_; (try clear hb); (try clear hb2); (try clear hk); (try clear hi)))
               go_ret
               exact ⟨by first | rfl | (simp [errW_none, errW_some] <;> rfl) | (simp only [i64_w, i32_w] <;> rfl) | (simp [*, errW_none, errW_some] <;> rfl), by repeat (first | (with_reducible first | exact HB.out | apply below_alloc | apply pw_below_drewN | apply below_drew1 | refine below_set ?_ GE429.out | refine below_set ?_ GE441.out | refine below_set ?_ GE445.out) | exact HB.out)⟩
             ·rw [if_neg c60] at H
              have c60b0 : (t450 == t452) = false := beq_eq_false_iff_ne.mpr c60
              have c60b1 : (t450 != t452) = true := bne_iff_ne.mpr c60
              obtain rfl := Option.some.inj H
              have hnb76 := NB429_441.out
              have hnc76 := NB441_429.out
              have hnb77 := NB429_445.out
              have hnc77 := NB445_429.out
              have hcz78_0 : wc.cell? ⟨gb429, 0, none⟩ = some (.slice A0_0 l0_0.length c0_0) := (blk_cell BK429.out 0).trans rfl
              have hcz78_1 : wc.cell? ⟨gb429, 1, none⟩ = some (.int .i64 a0_1) := (blk_cell BK429.out 1).trans rfl
              have hcz78_2 : wc.cell? ⟨gb429, 2, none⟩ = some (.int .i64 a0_2) := (blk_cell BK429.out 2).trans rfl
              have hcz78_3 : wc.cell? ⟨gb429, 3, none⟩ = some (.int .i64 a0_3) := (blk_cell BK429.out 3).trans rfl
              have hcz78_4 : wc.cell? ⟨gb429, 4, none⟩ = some (.int .i64 a0_4) := (blk_cell BK429.out 4).trans rfl
              have hcz78_5 : wc.cell? ⟨gb429, 5, none⟩ = some (.slice A0_5 l0_5.length c0_5) := (blk_cell BK429.out 5).trans rfl
              have hcz78_6 : wc.cell? ⟨gb429, 6, none⟩ = some (.int .i64 a0_6) := (blk_cell BK429.out 6).trans rfl
              have hfz78_0 := blk_frozen BK429.out 0
              have hfz78_1 := blk_frozen BK429.out 1
              have hfz78_2 := blk_frozen BK429.out 2
              have hfz78_3 := blk_frozen BK429.out 3
              have hfz78_4 := blk_frozen BK429.out 4
              have hfz78_5 := blk_frozen BK429.out 5
              have hfz78_6 := blk_frozen BK429.out 6
              go_wp2_with (first | ((with_reducible refine gate_callee (f := 34) rfl ?_); refine goesL_ (some 83) rfl rfl Tryd.func34 (by kernel_rfl) rfl #[.agg #[.slice A0_0 l0_0.length c0_0, .int .i64 a0_1, .int .i64 a0_2, .int .i64 a0_3, .int .i64 a0_4, .slice A0_5 l0_5.length c0_5, .int .i64 a0_6]] rfl (by (try simp only [List.map_toArray, List.map_cons, List.map_nil]); first | done | rfl | (simp only [List.length_drop, List.length_take]; rfl)) ?_; (with_reducible refine (claim_First.calls _ _ l0_0 a0_1 a0_2 a0_3 a0_4 _ _ l0_5 a0_6 t450 t451 _ ?side1 ?side2 ?side3 ?side4 ?side5 A58.out).mono ?_); (case side1 => first | exact HG.out | exact Glob.step HG.out HB.out | exact Glob.step HG.out (by repeat (first | (with_reducible first | exact HB.out | apply below_alloc | apply pw_below_drewN | apply below_drew1 | refine below_set ?_ GE429.out | refine below_set ?_ GE441.out | refine below_set ?_ GE445.out) | exact HB.out))); (case side2 => repeat (first | exact (Kd.C_below HR0_0.out HB.out) | (with_reducible refine Kd.C_alloc ?_ _) | (with_reducible refine Kd.C_drewN ?_ _) | (with_reducible refine Kd.C_drew ?_))); (case side3 => exact HC0_0.out); (case side4 => repeat (first | exact (Kd.C_below HR0_5.out HB.out) | (with_reducible refine Kd.C_alloc ?_ _) | (with_reducible refine Kd.C_drewN ?_ _) | (with_reducible refine Kd.C_drew ?_))); (case side5 => exact HC0_5.out); rintro e w79 ⟨rfl, hb⟩; refine ⟨_, rfl, ?_⟩; have n0_ := Aside0.mk (blk_below (g := gb429) (o := .cells #[.slice A0_0 l0_0.length c0_0, .int .i64 a0_1, .int .i64 a0_2, .int .i64 a0_3, .int .i64 a0_4, .slice A0_5 l0_5.length c0_5, .int .i64 a0_6] 26 (0, 0)) (by (with_reducible repeat (first | refine blk_drewN ?_ _ | refine blk_drew ?_ | refine blk_alloc ?_ _)); exact BK429.out) hb); have n1_ := Aside0.mk (blk_below (g := gb441) (o := .cells #[.int .i64 t438, .int .i64 t439] 32 (0, 0)) (by (with_reducible repeat (first | refine blk_drewN ?_ _ | refine blk_drew ?_ | refine blk_alloc ?_ _)); exact BK441.out) hb); have n2_ := Aside0.mk (blk_below (g := gb445) (o := .cells #[.int .i64 t442, .int .i64 t443] 32 (0, 0)) (by (with_reducible repeat (first | refine blk_drewN ?_ _ | refine blk_drew ?_ | refine blk_alloc ?_ _)); exact BK445.out) hb); have n3_ := Aside0.mk (below_step (by repeat (first | (with_reducible first | exact HB.out | apply below_alloc | apply pw_below_drewN | apply below_drew1 | refine below_set ?_ GE429.out | refine below_set ?_ GE441.out | refine below_set ?_ GE445.out) | exact HB.out)) hb); clear BK429; clear BK441; clear BK445; clear HB; have BK429 := n0_; have BK441 := n1_; have BK445 := n2_; have HB := n3_; clear n0_ n1_ n2_ n3_; (try clear hb); (try clear hb2); (try clear hk); (try clear hi); have hcz80_0 : w79.cell? ⟨gb429, 0, none⟩ = some (.slice A0_0 l0_0.length c0_0) := (blk_cell BK429.out 0).trans rfl; have hcz80_1 : w79.cell? ⟨gb429, 1, none⟩ = some (.int .i64 a0_1) := (blk_cell BK429.out 1).trans rfl; have hcz80_2 : w79.cell? ⟨gb429, 2, none⟩ = some (.int .i64 a0_2) := (blk_cell BK429.out 2).trans rfl; have hcz80_3 : w79.cell? ⟨gb429, 3, none⟩ = some (.int .i64 a0_3) := (blk_cell BK429.out 3).trans rfl; have hcz80_4 : w79.cell? ⟨gb429, 4, none⟩ = some (.int .i64 a0_4) := (blk_cell BK429.out 4).trans rfl; have hcz80_5 : w79.cell? ⟨gb429, 5, none⟩ = some (.slice A0_5 l0_5.length c0_5) := (blk_cell BK429.out 5).trans rfl; have hcz80_6 : w79.cell? ⟨gb429, 6, none⟩ = some (.int .i64 a0_6) := (blk_cell BK429.out 6).trans rfl; have hfz80_0 := blk_frozen BK429.out 0; have hfz80_1 := blk_frozen BK429.out 1; have hfz80_2 := blk_frozen BK429.out 2; have hfz80_3 := blk_frozen BK429.out 3; have hfz80_4 := blk_frozen BK429.out 4; have hfz80_5 := blk_frozen BK429.out 5; have hfz80_6 := blk_frozen BK429.out 6) | ((with_reducible refine gate_callee (f := 35) rfl ?_); refine goesL_ (some 88) rfl rfl Tryd.func35 (by kernel_rfl) rfl #[.agg #[.slice A0_0 l0_0.length c0_0, .int .i64 a0_1, .int .i64 a0_2, .int .i64 a0_3, .int .i64 a0_4, .slice A0_5 l0_5.length c0_5, .int .i64 a0_6]] rfl (by (try simp only [List.map_toArray, List.map_cons, List.map_nil]); first | done | rfl | (simp only [List.length_drop, List.length_take]; rfl)) ?_; (with_reducible refine (macadamref06_First.calls kj48 _ _ l0_0 a0_1 a0_2 a0_3 a0_4 _ _ l0_5 a0_6 t452 t453 _ ?side1 ?side2 ?side3 ?side4 A59.out).mono ?_); (case side1 => repeat (first | exact (Kd.C_below HR0_0.out HB.out) | (with_reducible refine Kd.C_alloc ?_ _) | (with_reducible refine Kd.C_drewN ?_ _) | (with_reducible refine Kd.C_drew ?_))); (case side2 => exact HC0_0.out); (case side3 => repeat (first | exact (Kd.C_below HR0_5.out HB.out) | (with_reducible refine Kd.C_alloc ?_ _) | (with_reducible refine Kd.C_drewN ?_ _) | (with_reducible refine Kd.C_drew ?_))); (case side4 => exact HC0_5.out); rintro e w81 ⟨rfl, hb⟩; refine ⟨_, rfl, ?_⟩; have n0_ := Aside0.mk (blk_below (g := gb429) (o := .cells #[.slice A0_0 l0_0.length c0_0, .int .i64 a0_1, .int .i64 a0_2, .int .i64 a0_3, .int .i64 a0_4, .slice A0_5 l0_5.length c0_5, .int .i64 a0_6] 26 (0, 0)) (by (with_reducible repeat (first | refine blk_drewN ?_ _ | refine blk_drew ?_ | refine blk_alloc ?_ _)); exact BK429.out) hb); have n1_ := Aside0.mk (blk_below (g := gb441) (o := .cells #[.int .i64 t438, .int .i64 t439] 32 (0, 0)) (by (with_reducible repeat (first | refine blk_drewN ?_ _ | refine blk_drew ?_ | refine blk_alloc ?_ _)); exact BK441.out) hb); have n2_ := Aside0.mk (blk_below (g := gb445) (o := .cells #[.int .i64 t442, .int .i64 t443] 32 (0, 0)) (by (with_reducible repeat (first | refine blk_drewN ?_ _ | refine blk_drew ?_ | refine blk_alloc ?_ _)); exact BK445.out) hb); have n3_ := Aside0.mk (below_step (by repeat (first | (with_reducible first | exact HB.out | apply below_alloc | apply pw_below_drewN | apply below_drew1 | refine below_set ?_ GE429.out | refine below_set ?_ GE441.out | refine below_set ?_ GE445.out) | exact HB.out)) hb); clear BK429; clear BK441; clear BK445; clear HB; have BK429 := n0_; have BK441 := n1_; have BK445 := n2_; have HB := n3_; clear n0_ n1_ n2_ n3_; (try clear hb); (try clear hb2); (try clear hk); (try clear hi)))
              go_ret
              exact ⟨by first | rfl | (simp [errW_none, errW_some] <;> rfl) | (simp only [i64_w, i32_w] <;> rfl) | (simp [*, errW_none, errW_some] <;> rfl), by repeat (first | (with_reducible first | exact HB.out | apply below_alloc | apply pw_below_drewN | apply below_drew1 | refine below_set ?_ GE429.out | refine below_set ?_ GE441.out | refine below_set ?_ GE445.out) | exact HB.out)⟩
end Go.Proofs.YtbhjfojbjpbdbaaDoorPX
namespace Go.Proofs.YtbhjfojbjpbdbaaDoorPX
open Go Go.RowKit Go.Proofs.YtbhjfojbjpbdbaaDoor Go.Proofs.YtbhjfojbjpbdbaaDoorW.PrintWords Go.Proofs.YtbhjfojbjpbdbaaDoorW.PrintMore
theorem or_key : ∀ s < 8, ∀ n < 3, Go.bits .or .i64 ((s : Nat) : Int) (shl .i64 1 ((n : Nat) : Int)) = ((s ||| (1 <<< n) : Nat) : Int) ∧ s ||| (1 <<< n) < 8 := by decide +kernel
section
variable {l : List S56} {a1 a2 a3 a4 : Int} {ks : List S42} {a6 : Int}
theorem ask_ref {α : Type} {is : Bool} {X : α} {E : Int → α} {G : Nat → List S92 → Option α} (hG : askE (BK l a1 a2 a3 a4 ks a6) is = 0 → Ev (fun k => G k ((truths (BK l a1 a2 a3 a4 ks a6)).map (trS l.length))) X) :
  Ev (fun k => (macadamref06_asked.f k l a1 a2 a3 a4 ks a6 is).bind fun r => if r.2 = 0 then G k r.1 else some (E r.2)) (if askE (BK l a1 a2 a3 a4 ks a6) is = 0 then X else E (askE (BK l a1 a2 a3 a4 ks a6) is)) := by
 refine Ev.bind (asked_ref is) ?_
 by_cases h : askE (BK l a1 a2 a3 a4 ks a6) is = 0
 ·rw [if_pos h, if_pos h]
  refine Ev.congr (fun k => ?_) (hG h)
  rw [if_pos h]
 ·rw [if_neg h, if_neg h]
  refine Ev.congr (fun k => ?_) (Ev.now _)
  rw [if_neg h]
theorem weather_ev (n : Nat) (T : List Tr) (hT : T.length ≤ 100000) (hok : ∀ t ∈ T, TrOk t) : ∀ (d i acc : Nat), i + d = T.length → acc < 8 →
  Ev (fun r => macadamref06_Weather.l0 r (T.map (trS n)) (acc : Int) (i : Int)) ((((T.drop i).foldl (fun s t => s ||| (1 <<< t.w.toNat)) acc : Nat) : Int), 0)
 | 0, i, acc, h, _ => by
  rw [List.drop_eq_nil_of_le (by omega)]
  refine Ev.step (f := fun _ => some ((acc : Int), 0)) (fun r => by rw [macadamref06_Weather.l0, if_neg (by rw [List.length_map]; omega)]) (Ev.now _)
 | d + 1, i, acc, h, ha => by
  have hlt : i < T.length := by omega
  have e1 : wrap64 ((i : Int) + 1) = ((i + 1 : Nat) : Int) := by rw [w64 (by omega) (by omega)]; omega
  have er : rd_T92 (T.map (trS n)) (i : Int) = trS n T[i] := rd92 _ _ (by simp [hlt])
  have hw := (hok _ (List.getElem_mem hlt)).1
  obtain ⟨k1, k2⟩ := or_key acc ha T[i].w.toNat (by omega)
  rw [show ((T[i].w.toNat : Nat) : Int) = T[i].w by omega] at k1
  rw [List.drop_eq_getElem_cons hlt, List.foldl_cons]
  refine Ev.step (fun r => ?_) (weather_ev n T hT hok d (i + 1) (acc ||| (1 <<< T[i].w.toNat)) (by omega) k2)
  rw [macadamref06_Weather.l0, if_pos (by rw [List.length_map]; omega), if_pos (by omega), er, if_pos (by exact hw.1), e1]
  show macadamref06_Weather.l0 r (T.map (trS n)) (Go.bits .or .i64 (acc : Int) (shl .i64 1 T[i].w)) _ = _
  rw [k1]
theorem weather_ref : Ev (fun k => macadamref06_Weather.f k l a1 a2 a3 a4 ks a6) (weatherS (BK l a1 a2 a3 a4 ks a6)) := by
 unfold macadamref06_Weather.f weatherS
 refine ask_ref (G := fun k T => macadamref06_Weather.l0 k T 0 0) (fun h => ?_)
 obtain ⟨hS, _, hne⟩ := asked_zero h
 have := truths_len hS
 exact weather_ev _ _ (by omega) (truths_ok hS) _ 0 0 (Nat.zero_add _) (by decide)
theorem total_loop (xs : List Int) (hl : xs.length ≤ 100) (hb : ∀ x ∈ xs, 0 ≤ x ∧ x ≤ 1000) : ∀ (d i : Nat) (acc : Int), i + d = xs.length → (0 ≤ acc ∧ acc ≤ 1000 * i) →
  Ev (fun k => macadamref00_Total.l0 k xs acc (i : Int)) (acc + (xs.drop i).sum)
 | 0, i, acc, h, _ => by
  rw [List.drop_eq_nil_of_le (by omega)]
  simp only [List.sum_nil, Int.add_zero]
  refine Ev.step (f := fun _ => some acc) (fun k => by rw [macadamref00_Total.l0, if_neg (by omega)]) (Ev.now _)
 | d + 1, i, acc, h, ha => by
  have hlt : i < xs.length := by omega
  have er : rd xs (i : Int) = xs[i] := by unfold rd; simp [hlt]
  have e1 : wrap64 ((i : Int) + 1) = ((i + 1 : Nat) : Int) := by rw [w64 (by omega) (by omega)]; omega
  have hx := hb _ (List.getElem_mem hlt)
  rw [List.drop_eq_getElem_cons hlt, List.sum_cons, ← Int.add_assoc]
  refine Ev.step (fun k => ?_) (total_loop xs hl hb d (i + 1) (acc + xs[i]) (by omega) (by omega))
  rw [macadamref00_Total.l0, if_pos (by omega), if_pos (by omega), er, e1, w64 (by omega) (by omega)]
theorem total_ev (hS : Sound (BK l a1 a2 a3 a4 ks a6)) {t : Tr} (ht : t ∈ truths (BK l a1 a2 a3 a4 ks a6)) : Ev (fun k => macadamref00_Total.f k (trS l.length t).f1) t.all := by
 obtain ⟨_, _, _, _, h1, h2, h3⟩ := truths_ok hS t ht
 have hl3 := (lok_of hS).1
 have hl1 : 1 ≤ l.length := by have := hS.bd.l1; simpa [bkOk, bkOf] using this
 have hz := (truth_rough hS.bd.l3 ht).2
 have hlen : (BK l a1 a2 a3 a4 ks a6).sts.length = l.length := by simp [bkOf]
 rw [hlen] at hz
 have z1 : l.length ≤ 1 → t.b1 = 0 := fun h => (hz 1 (by omega) h).1
 have z2 : l.length ≤ 2 → t.b2 = 0 := fun h => (hz 2 (by omega) h).1
 have hall : t.all = 0 + (([t.b0, t.b1, t.b2].take l.length).drop 0).sum := by
  have hl : l.length = 1 ∨ l.length = 2 ∨ l.length = 3 := by omega
  unfold Tr.all
  rcases hl with hl | hl | hl <;> rw [hl] at z1 z2 ⊢ <;> simp <;> omega
 rw [hall]
 refine total_loop _ (by rw [rough_len t hl3]; omega) (fun x hx => ?_) l.length 0 0 (by rw [rough_len t hl3]; omega) (by omega)
 have hx' := List.mem_of_mem_take hx
 simp only [List.mem_cons, List.not_mem_nil, or_false] at hx'
 rcases hx' with rfl | rfl | rfl <;> omega
theorem last_w (hS : Sound (BK l a1 a2 a3 a4 ks a6)) : wrap64 ((l.length : Int) - 1) = ((l.length - 1 : Nat) : Int) := by
 have hl3 := (lok_of hS).1
 have hl1 : 1 ≤ l.length := by have := hS.bd.l1; simpa [bkOk, bkOf] using this
 rw [w64 (by omega) (by omega)]
 omega
theorem blamed_ev (hS : Sound (BK l a1 a2 a3 a4 ks a6)) {t : Tr} (ht : t ∈ truths (BK l a1 a2 a3 a4 ks a6)) :
  Ev (fun k => macadamref06_blamed.f k l a1 a2 a3 a4 ks a6 (trS l.length t).f0 (trS l.length t).f1 (trS l.length t).f2) (blamed (BK l a1 a2 a3 a4 ks a6) t) := by
 have hl3 := (lok_of hS).1
 have hl1 : 1 ≤ l.length := by have := hS.bd.l1; simpa [bkOk, bkOf] using this
 have hto := truths_ok hS t ht
 have hk : l.length - 1 < l.length := by omega
 have hlen : (BK l a1 a2 a3 a4 ks a6).sts.length = l.length := by simp [bkOf]
 unfold macadamref06_blamed.f blamed
 rw [last_w hS, hlen]
 refine Ev.congr (fun k => by rw [late_f hS hk hto, Option.bind_some]) ?_
 by_cases hlt : 0 < lateT (BK l a1 a2 a3 a4 ks a6) (l.length - 1) t
 ·refine Ev.congr (fun k => by rw [if_pos hlt, if_pos (by omega), comes_len _ hl3, if_pos (by omega)]) ?_
  refine Ev.bind (total_ev hS ht) ?_
  obtain ⟨x, hx⟩ : ∃ x, l[l.length - 1]? = some x := ⟨_, List.getElem?_eq_getElem hk⟩
  have hdue : (BK l a1 a2 a3 a4 ks a6).due (l.length - 1) = x.f0 := by simp [Bk.due, bkOf, hx, stOf]
  obtain ⟨_, c0, c1, c2, h1, h2, h3⟩ := hto
  have hc : 0 ≤ t.comes (l.length - 1) ∧ t.comes (l.length - 1) ≤ 1000 := by unfold Tr.comes; split <;> omega
  have ha : 0 ≤ t.all ∧ t.all ≤ 1000 := by unfold Tr.all; omega
  refine Ev.congr (fun k => ?_) (Ev.now _)
  rw [if_pos (by omega), comes_rd _ hk hl3, rd56 l _ hx, w64 (by omega) (by omega), hdue]
  simp [hlt]
 ·refine Ev.congr (fun k => ?_) (Ev.now _)
  rw [if_neg hlt]
  simp [hlt]
theorem blame_ev (hS : Sound (BK l a1 a2 a3 a4 ks a6)) (hne : truths (BK l a1 a2 a3 a4 ks a6) ≠ []) : ∀ (d i : Nat), i + d = (truths (BK l a1 a2 a3 a4 ks a6)).length →
  Ev (fun r => macadamref06_Blame.l0 r ((truths (BK l a1 a2 a3 a4 ks a6)).map (trS l.length)) ((((truths (BK l a1 a2 a3 a4 ks a6)).take i).countP (blamed (BK l a1 a2 a3 a4 ks a6)) : Nat) : Int) (i : Int) l a1 a2 a3 a4 ks a6) (kindOf (BK l a1 a2 a3 a4 ks a6), 0)
 | 0, i, h => by
  rw [List.take_of_length_le (by omega)]
  have hp := kind_cases hne
  have hpos : 0 < (truths (BK l a1 a2 a3 a4 ks a6)).length := List.length_pos_iff.2 hne
  refine Ev.step (f := fun _ => some (kindOf (BK l a1 a2 a3 a4 ks a6), 0)) (fun r => ?_) (Ev.now _)
  rw [macadamref06_Blame.l0, if_neg (by rw [List.length_map]; omega), List.length_map]
  unfold blames at hp
  rcases hp with ⟨e, e1, e2⟩ | ⟨e, e1, e2⟩ | ⟨e, e1, e2⟩
  ·rw [if_pos (by omega), e]
  ·rw [if_neg (by omega), if_neg (by omega), e]
  ·rw [if_neg (by omega), if_pos (by omega), e]
 | d + 1, i, h => by
  have hlt : i < (truths (BK l a1 a2 a3 a4 ks a6)).length := by omega
  have hT := truths_len hS
  have e1 : wrap64 ((i : Int) + 1) = ((i + 1 : Nat) : Int) := by rw [w64 (by omega) (by omega)]; omega
  have er : rd_T92 ((truths (BK l a1 a2 a3 a4 ks a6)).map (trS l.length)) (i : Int) = trS l.length (truths (BK l a1 a2 a3 a4 ks a6))[i] := rd92 _ _ (by simp [hlt])
  have ih := blame_ev hS hne d (i + 1) (by omega)
  rw [List.take_succ_eq_append_getElem hlt, List.countP_append] at ih
  have hcl : ((truths (BK l a1 a2 a3 a4 ks a6)).take i).countP (blamed (BK l a1 a2 a3 a4 ks a6)) ≤ i := Nat.le_trans List.countP_le_length (by rw [List.length_take]; omega)
  refine Ev.step (fun r => by rw [macadamref06_Blame.l0, if_pos (by rw [List.length_map]; omega), if_pos (by omega), er]) ?_
  refine Ev.bind (blamed_ev hS (List.getElem_mem hlt)) ?_
  cases hb : blamed (BK l a1 a2 a3 a4 ks a6) (truths (BK l a1 a2 a3 a4 ks a6))[i] with
  | true =>
   refine Ev.congr (fun r => ?_) ih
   rw [if_pos rfl, e1, w64 (by omega) (by omega)]
   simp [hb]
  | false =>
   refine Ev.congr (fun r => ?_) ih
   rw [if_neg (by decide), e1]
   simp [hb]
theorem blame_ref : Ev (fun k => macadamref06_Blame.f k l a1 a2 a3 a4 ks a6) (blameS (BK l a1 a2 a3 a4 ks a6)) := by
 unfold macadamref06_Blame.f blameS
 refine ask_ref (G := fun k T => macadamref06_Blame.l0 k T 0 0 l a1 a2 a3 a4 ks a6) (fun h => ?_)
 obtain ⟨hS, _, hne⟩ := asked_zero h
 exact blame_ev hS hne _ 0 (Nat.zero_add _)
theorem owes_ev (hS : Sound (BK l a1 a2 a3 a4 ks a6)) (hne : truths (BK l a1 a2 a3 a4 ks a6) ≠ []) : ∀ (d i : Nat), i + d = (truths (BK l a1 a2 a3 a4 ks a6)).length →
  Ev (fun r => macadamref06_Owes.l0 r ((truths (BK l a1 a2 a3 a4 ks a6)).map (trS l.length)) (((truths (BK l a1 a2 a3 a4 ks a6)).take i).map (owesT (BK l a1 a2 a3 a4 ks a6))) (i : Int) l a1 a2 a3 a4 ks a6)
   (toldLo (owesT (BK l a1 a2 a3 a4 ks a6)) (truths (BK l a1 a2 a3 a4 ks a6)), toldHi (owesT (BK l a1 a2 a3 a4 ks a6)) (truths (BK l a1 a2 a3 a4 ks a6)), 0)
 | 0, i, h => by
  have hT := truths_len hS
  rw [List.take_of_length_le (by omega)]
  refine Ev.step (fun r => by rw [macadamref06_Owes.l0, if_neg (by rw [List.length_map]; omega)]) ?_
  refine Ev.bind (ends_ref _ _ (by omega) hne) ?_
  exact Ev.now _
 | d + 1, i, h => by
  have hlt : i < (truths (BK l a1 a2 a3 a4 ks a6)).length := by omega
  have hT := truths_len hS
  have hl1 : 1 ≤ l.length := by have := hS.bd.l1; simpa [bkOk, bkOf] using this
  have hl3 := (lok_of hS).1
  have hk : l.length - 1 < l.length := by omega
  have hlen : (BK l a1 a2 a3 a4 ks a6).sts.length = l.length := by simp [bkOf]
  have e1 : wrap64 ((i : Int) + 1) = ((i + 1 : Nat) : Int) := by rw [w64 (by omega) (by omega)]; omega
  have er : rd_T92 ((truths (BK l a1 a2 a3 a4 ks a6)).map (trS l.length)) (i : Int) = trS l.length (truths (BK l a1 a2 a3 a4 ks a6))[i] := rd92 _ _ (by simp [hlt])
  have hto := truths_ok hS _ (List.getElem_mem hlt)
  have hlb := lateT_bd (b := BK l a1 a2 a3 a4 ks a6) (j := l.length - 1) (by omega) hto (hS.bd.due _)
  have hallb : 0 ≤ (truths (BK l a1 a2 a3 a4 ks a6))[i].all ∧ (truths (BK l a1 a2 a3 a4 ks a6))[i].all ≤ 1000 := by obtain ⟨_, _, _, _, h1, h2, h3⟩ := hto; unfold Tr.all; omega
  have hmb := mul_bd hS.bd.rate.1 hS.bd.rate.2 (x := min (lateT (BK l a1 a2 a3 a4 ks a6) (l.length - 1) (truths (BK l a1 a2 a3 a4 ks a6))[i]) (truths (BK l a1 a2 a3 a4 ks a6))[i].all) (by omega) (by omega)
  have erate : (BK l a1 a2 a3 a4 ks a6).rate = a6 := rfl
  rw [erate] at hmb
  have ih := owes_ev hS hne d (i + 1) (by omega)
  refine Ev.step (fun r => by rw [macadamref06_Owes.l0, if_pos (by rw [List.length_map]; omega), if_pos (by omega), er, last_w hS, late_f hS hk hto, Option.bind_some]) ?_
  refine Ev.bind (total_ev hS (List.getElem_mem hlt)) ?_
  refine Ev.congr (fun r => ?_) ih
  rw [if_pos (by rw [List.length_map, List.length_take]; omega), e1, mn_min, w64 (by omega) (by omega), List.take_succ_eq_append_getElem hlt, List.map_append]
  simp only [List.map_cons, List.map_nil, owesT, hlen]
  rfl
theorem owes_ref : Ev (fun k => macadamref06_Owes.f k l a1 a2 a3 a4 ks a6) (owesS (BK l a1 a2 a3 a4 ks a6)) := by
 unfold macadamref06_Owes.f owesS
 refine span_ref (G := fun k T => macadamref06_Owes.l0 k T [] 0 l a1 a2 a3 a4 ks a6) (fun h => ?_)
 obtain ⟨hS, _, hne⟩ := asked_zero h
 exact owes_ev hS hne _ 0 (Nat.zero_add _)
theorem pays_ref : Ev (fun k => macadamref06_Pays.f k l a1 a2 a3 a4 ks a6) (paysS (BK l a1 a2 a3 a4 ks a6)) := by
 unfold macadamref06_Pays.f
 refine Ev.bind owes_ref ?_
 unfold owesS spanE paysS
 by_cases h : askE (BK l a1 a2 a3 a4 ks a6) true = 0
 ·rw [if_pos h, if_pos h]
  obtain ⟨hS, _, hne⟩ := asked_zero h
  refine Ev.congr (fun k => by rw [if_pos rfl]) ?_
  refine Ev.bind blame_ref ?_
  unfold blameS
  rw [if_pos h]
  refine Ev.congr (fun k => ?_) (Ev.now _)
  rcases kind_cases hne with ⟨e, e1, e2⟩ | ⟨e, e1, e2⟩ | ⟨e, e1, e2⟩
  ·rw [e, if_pos (by decide), if_neg e2]
  ·rw [e, if_pos (by decide), if_neg e2]
  ·rw [e, if_neg (by decide), if_pos e2]
 ·rw [if_neg h, if_neg h]
  refine Ev.congr (fun k => ?_) (Ev.now _)
  rw [if_neg h]
theorem toldLo_pos {f : Tr → Int} {T : List Tr} (hne : T ≠ []) : decide (0 < toldLo f T) = T.all fun t => decide (0 < f t) := by
 rw [Bool.eq_iff_iff, decide_eq_true_iff, List.all_eq_true]
 constructor
 ·intro h t ht
  have := toldLo_le f ht
  exact decide_eq_true (by omega)
 ·intro h
  obtain ⟨t, ht, e⟩ := toldLo_mem f hne
  have := of_decide_eq_true (h t ht)
  omega
theorem first_in (hS : Sound (BK l a1 a2 a3 a4 ks a6)) {j : Nat} (hj : j < l.length) (R : Int × Int) (hR : Ev (fun r => if (truths (BK l a1 a2 a3 a4 ks a6)).all (fun t => decide (0 < lateT (BK l a1 a2 a3 a4 ks a6) j t)) = true then some ((j : Int), 0) else macadamref06_First.l0 r ((truths (BK l a1 a2 a3 a4 ks a6)).map (trS l.length)) ((j + 1 : Nat) : Int) l a1 a2 a3 a4 ks a6) R) : ∀ (d i : Nat), i + d = (truths (BK l a1 a2 a3 a4 ks a6)).length →
  Ev (fun r => macadamref06_First.l1 r ((truths (BK l a1 a2 a3 a4 ks a6)).map (trS l.length)) (j : Int) (((truths (BK l a1 a2 a3 a4 ks a6)).take i).all fun t => decide (0 < lateT (BK l a1 a2 a3 a4 ks a6) j t)) (i : Int) l a1 a2 a3 a4 ks a6) R
 | 0, i, h => by
  have hl3 := (lok_of hS).1
  have e1 : wrap64 ((j : Int) + 1) = ((j + 1 : Nat) : Int) := by rw [w64 (by omega) (by omega)]; omega
  rw [List.take_of_length_le (by omega)]
  refine Ev.step (fun r => ?_) hR
  rw [macadamref06_First.l1, if_neg (by rw [List.length_map]; omega), e1]
 | d + 1, i, h => by
  have hlt : i < (truths (BK l a1 a2 a3 a4 ks a6)).length := by omega
  have hT := truths_len hS
  have e1 : wrap64 ((i : Int) + 1) = ((i + 1 : Nat) : Int) := by rw [w64 (by omega) (by omega)]; omega
  have er : rd_T92 ((truths (BK l a1 a2 a3 a4 ks a6)).map (trS l.length)) (i : Int) = trS l.length (truths (BK l a1 a2 a3 a4 ks a6))[i] := rd92 _ _ (by simp [hlt])
  have hto := truths_ok hS _ (List.getElem_mem hlt)
  have ih := first_in hS hj R hR d (i + 1) (by omega)
  rw [List.take_succ_eq_append_getElem hlt, List.all_append] at ih
  refine Ev.step (fun r => ?_) ih
  cases hf : ((truths (BK l a1 a2 a3 a4 ks a6)).take i).all fun t => decide (0 < lateT (BK l a1 a2 a3 a4 ks a6) j t) with
  | true =>
   rw [macadamref06_First.l1, if_pos (by rw [List.length_map]; omega), if_pos rfl, if_pos (by omega), er, late_f hS hj hto, Option.bind_some, e1]
   simp
  | false =>
   rw [macadamref06_First.l1, if_pos (by rw [List.length_map]; omega), if_neg (by decide), e1]
   simp
theorem first_ev (hS : Sound (BK l a1 a2 a3 a4 ks a6)) (hne : truths (BK l a1 a2 a3 a4 ks a6) ≠ []) : ∀ (d j : Nat), j + d = l.length →
  Ev (fun r => macadamref06_First.l0 r ((truths (BK l a1 a2 a3 a4 ks a6)).map (trS l.length)) (j : Int) l a1 a2 a3 a4 ks a6)
   (match (List.range' j d).find? fun k => decide (0 < toldLo (lateT (BK l a1 a2 a3 a4 ks a6) k) (truths (BK l a1 a2 a3 a4 ks a6))) with | some k => ((k : Int), 0) | none => (0, 4))
 | 0, j, h => by
  refine Ev.step (f := fun _ => some (0, 4)) (fun r => by rw [macadamref06_First.l0, if_neg (by omega)]) (Ev.now _)
 | d + 1, j, h => by
  have hj : j < l.length := by omega
  have ih := first_ev hS hne d (j + 1) (by omega)
  have hi := fun R hR => first_in hS hj R hR _ 0 (Nat.zero_add _)
  refine Ev.step (fun r => by rw [macadamref06_First.l0, if_pos (by omega)]; simp) (hi _ ?_)
  rw [List.range'_succ, List.find?_cons, toldLo_pos hne]
  cases ha : (truths (BK l a1 a2 a3 a4 ks a6)).all fun t => decide (0 < lateT (BK l a1 a2 a3 a4 ks a6) j t) with
  | true => exact Ev.congr (fun r => by rw [if_pos rfl]) (Ev.now _)
  | false => exact Ev.congr (fun r => by rw [if_neg (by decide)]) ih
theorem first_ref : Ev (fun k => macadamref06_First.f k l a1 a2 a3 a4 ks a6) (firstS (BK l a1 a2 a3 a4 ks a6)) := by
 unfold macadamref06_First.f firstS
 refine ask_ref (G := fun k T => macadamref06_First.l0 k T 0 l a1 a2 a3 a4 ks a6) (E := fun e => (0, e)) (fun h => ?_)
 obtain ⟨hS, _, hne⟩ := asked_zero h
 have := first_ev hS hne l.length 0 (Nat.zero_add _)
 have hlen : (BK l a1 a2 a3 a4 ks a6).sts.length = l.length := by simp [bkOf]
 rw [hlen, List.range_eq_range']
 exact this
theorem pays_ev : Ev (fun k => macadamlaw06_ClaimPays.f k l a1 a2 a3 a4 ks a6) true := by
 unfold macadamlaw06_ClaimPays.f claim_Weather.f
 refine Ev.congr (fun k => by rw [Option.bind_some]) ?_
 refine Ev.bind weather_ref ?_
 refine Ev.congr (fun k => by rw [if_pos rfl, bne_self_eq_false]) ?_
 refine Ev.step (fun k => by rw [macadamlaw06_ClaimPays.j0, if_neg (by decide), claim_Blame.f, Option.bind_some]) ?_
 refine Ev.bind blame_ref ?_
 refine Ev.congr (fun k => by rw [if_pos rfl, bne_self_eq_false]) ?_
 refine Ev.step (fun k => by rw [macadamlaw06_ClaimPays.j1, if_neg (by decide), claim_Owes.f, Option.bind_some]) ?_
 refine Ev.bind owes_ref ?_
 refine Ev.congr (fun k => by rw [if_neg (by simp), bne_self_eq_false]) ?_
 refine Ev.step (fun k => by rw [macadamlaw06_ClaimPays.j2, if_neg (by decide), claim_Pays.f, Option.bind_some]) ?_
 refine Ev.bind pays_ref ?_
 refine Ev.congr (fun k => by rw [if_pos rfl, bne_self_eq_false]) ?_
 refine Ev.step (fun k => by rw [macadamlaw06_ClaimPays.j3, if_neg (by decide), claim_First.f, Option.bind_some]) ?_
 refine Ev.bind first_ref ?_
 refine Ev.congr (fun k => ?_) (Ev.now true)
 rw [if_pos rfl, if_pos rfl]
 rfl
end
end Go.Proofs.YtbhjfojbjpbdbaaDoorPX
namespace Go.Proofs.YtbhjfojbjpbdbaaDoorPX
open Go.Proofs.YtbhjfojbjpbdbaaDoor (Glob ix3 blk_ix3 bl nrm_ pu_ po_ tk_)
open Go.RowKit Go.Proofs.YtbhjfojbjpbdbaaDoorW.PrintWords Go.Proofs.YtbhjfojbjpbdbaaDoorW.PrintLast Go.Proofs.YtbhjfojbjpbdbaaDoorW.PrintMore

set_option linter.unusedVariables false
set_option linter.unusedSimpArgs false
attribute [local go_sem high] eqA32
end Go.Proofs.YtbhjfojbjpbdbaaDoorPX
namespace Go.Proofs.YtbhjfojbjpbdbaaDoorPX
open Go Go.RowKit Go.Proofs.YtbhjfojbjpbdbaaDoor Go.Proofs.YtbhjfojbjpbdbaaDoorW.PrintWords Go.Proofs.YtbhjfojbjpbdbaaDoorW.PrintMore
end Go.Proofs.YtbhjfojbjpbdbaaDoorPX
namespace Go.Proofs.YtbhjfojbjpbdbaaDoorPX
open Go Go.RowKit Go.Proofs.YtbhjfojbjpbdbaaDoor Go.Proofs.YtbhjfojbjpbdbaaDoorW.PrintWords
def ofSt (x : St) : S56 := ⟨x.due, ⟨x.dl, x.dh⟩, ⟨x.rl, x.rh⟩, ⟨x.sl, x.sh⟩⟩
def ofCk (x : Ck) : S42 := ⟨x.st, x.rd, x.er⟩
theorem map_ofSt (l : List St) : (l.map ofSt).map stOf = l := by
 rw [List.map_map]
 exact List.map_id l
theorem map_ofCk (l : List Ck) : (l.map ofCk).map ckOf = l := by
 rw [List.map_map]
 exact List.map_id l
theorem parts_of {W : World} {b : Bk} {n : Nat} {sa ka : Option Addr} {n1 sc n2 kc : Nat} (hv : BookW W n sa ka n1 sc n2 kc b) :
  Kd.C k56 W sa (b.sts.map ofSt).length (b.sts.map ofSt) ∧ (b.sts.map ofSt).length ≤ sc ∧ Kd.C k42 W ka (b.cks.map ofCk).length (b.cks.map ofCk) ∧ (b.cks.map ofCk).length ≤ kc ∧
  n1 = (b.sts.map ofSt).length ∧ n2 = (b.cks.map ofCk).length ∧ (b.sts.map ofSt).length ≤ 9223372036854775807 := by
 have h1 := hv.hs
 have h2 := hv.hk
 obtain ⟨c1, c2, c3⟩ := reads_of_sl (d := k56) (f := stOf) (xs := b.sts.map ofSt) St.cells (fun x => k56_mk W x) (fun _ => rfl) rfl (by rw [map_ofSt]; exact h1)
 obtain ⟨c4, c5, c6⟩ := reads_of_sl (d := k42) (f := ckOf) (xs := b.cks.map ofCk) Ck.cells (fun x => k42_mk W x) (fun _ => rfl) rfl (by rw [map_ofCk]; exact h2)
 exact ⟨c1, c2, c4, c5, c3, c6, c1.2.1⟩
end Go.Proofs.YtbhjfojbjpbdbaaDoorPX
namespace Go.Proofs.YtbhjfojbjpbdbaaDoor
open Go Go.RowKit Go.Proofs.YtbhjfojbjpbdbaaDoorPX Go.Proofs.YtbhjfojbjpbdbaaDoorW.PrintWords
end Go.Proofs.YtbhjfojbjpbdbaaDoor
namespace Go.Proofs.YtbhjfojbjpbdbaaDoor
open Go Go.RowKit Go.Proofs.YtbhjfojbjpbdbaaDoorPX Go.Proofs.YtbhjfojbjpbdbaaDoorW.PrintWords
theorem pays_walk (W : World) (b : Bk) (n : Nat) (sa ka : Option Addr) (n1 sc n2 kc : Nat) (hv : BookW W n sa ka n1 sc n2 kc b) (hG : Glob W) :
  Calls Tryd.prog 4 #[.agg (b.cells (.slice sa n1 sc) (.slice ka n2 kc)).toArray] W fun e W' => e = .returned (.bool true) ∧ Below W.heap.size W W' := by
 obtain ⟨c1, c2, c3, c4, rfl, rfl, hl⟩ := parts_of hv
 obtain ⟨k, hk⟩ := (pays_ev (l := b.sts.map ofSt) (a1 := b.wth) (a2 := b.c0) (a3 := b.c1) (a4 := b.c2) (ks := b.cks.map ofCk) (a6 := b.rate)).rounds
 exact macadamlaw06_ClaimPays.calls k sa sc (b.sts.map ofSt) b.wth b.c0 b.c1 b.c2 ka kc (b.cks.map ofCk) b.rate true W hG c1 c2 c3 c4 hk
end Go.Proofs.YtbhjfojbjpbdbaaDoor
