/-
  What the claim needs, gathered by a program of this session (wip/tools/trim.py) out of the texts YtbhjfojbjpbdbaaDoorPX24, YtbhjfojbjpbdbaaDoorPX25, YtbhjfojbjpbdbaaDoorPX12, YtbhjfojbjpbdbaaDoorPX13, YtbhjfojbjpbdbaaDoorPX26, YtbhjfojbjpbdbaaDoorT5, YtbhjfojbjpbdbaaDoorPX1, YtbhjfojbjpbdbaaDoorPX14, YtbhjfojbjpbdbaaDoorT3, YtbhjfojbjpbdbaaDoorL3, YtbhjfojbjpbdbaaDoorR2, YtbhjfojbjpbdbaaDoorL5: nothing that stands here is proved for its own sake.
-/
import Derived.Test.YtbhjfojbjpbdbaaDoorZw4
import Derived.Test.YtbhjfojbjpbdbaaDoorZw5
import Derived.Test.YtbhjfojbjpbdbaaDoorZw2
namespace Go.Proofs.YtbhjfojbjpbdbaaDoorPX
open Go.Proofs.YtbhjfojbjpbdbaaDoor (Glob ix3 blk_ix3 bl nrm_ pu_ tk_)
open Go.RowKit Go.Proofs.YtbhjfojbjpbdbaaDoorW.PrintWords Go.Proofs.YtbhjfojbjpbdbaaDoorW.PrintLast Go.Proofs.YtbhjfojbjpbdbaaDoorW.PrintMore

set_option linter.unusedVariables false
set_option linter.unusedSimpArgs false
def macadamref06_Without.l0 : Nat → Int → Int → List (S56) → Int → Int → Int → Int → List (S42) → Int → List (S56) → Int → Int → Int → Int → List (S42) → Int → Option ((List (S56)) × Int × Int × Int × Int × (List (S42)) × Int)
 | 0, _, _, _, _, _, _, _, _, _, _, _, _, _, _, _, _ => none
 | k + 1, x1, x6, x505000, x505001, x505002, x505003, x505004, x505005, x505006, x507000, x507001, x507002, x507003, x507004, x507005, x507006 => if x6 < (x505005.length : Int) then ((macadamref00_In.f x1 x6).bind fun t507 => (if t507 = true then (macadamref06_Without.l0 k x1 (wrap64 (x6 + 1)) x505000 x505001 x505002 x505003 x505004 x505005 x505006 x507000 x507001 x507002 x507003 x507004 x507005 x507006) else (if 0 ≤ x6 then (if x507005.length < 5864062014805 then (macadamref06_Without.l0 k x1 (wrap64 (x6 + 1)) x505000 x505001 x505002 x505003 x505004 x505005 x505006 x507000 x507001 x507002 x507003 x507004 (x507005 ++ [(⟨(rd_T42 x505005 x6).f0, (rd_T42 x505005 x6).f1, (rd_T42 x505005 x6).f2⟩ : S42)]) x507006) else (none)) else (none)))) else (some (x507000, x507001, x507002, x507003, x507004, x507005, x507006))
def macadamref06_Without.f (k : Nat) (l0_0 : List (S56)) (a0_1 : Int) (a0_2 : Int) (a0_3 : Int) (a0_4 : Int) (l0_5 : List (S42)) (a0_6 : Int) (a1 : Int) : Option ((List (S56)) × Int × Int × Int × Int × (List (S42)) × Int) := macadamref06_Without.l0 k a1 0 l0_0 a0_1 a0_2 a0_3 a0_4 l0_5 a0_6 l0_0 a0_1 a0_2 a0_3 a0_4 ([] : List (S42)) a0_6
def macadamref06_Without.T7 : Bool × List (List Nat × List Nat) := (true, [([], []), ([0], [0]), ([], []), ([2], [2]), ([], []), ([3, 4], [3, 4]), ([5], [5]), ([6], [6]), ([1, 7], [1, 7]), ([0, 1, 2, 3, 4, 5, 6, 7, 8], []), ([9, 8, 8, 0, 1, 2, 3, 4, 5, 6, 7, 8], [8, 9])])
def macadamref06_Without.B7 : List Nat := [0, 1, 0, 4, 0, 28, 60, 124, 255, 511, 1023]
theorem macadamref06_Without.tab7 : rtab .any (opsOf Tryd.f88 7) = macadamref06_Without.T7 := by kernel_rfl
theorem macadamref06_Without.bits7 : waitsOk macadamref06_Without.T7.2 macadamref06_Without.B7 = true := by kernel_rfl
set_option maxHeartbeats 8000000 in
set_option maxRecDepth 100000 in
theorem macadamref06_Without.calls (k : Nat) (P0_0_ : Nat → Prop) (A0_0 : Option Addr) (c0_0 : Nat) (l0_0 : List (S56)) (a0_1 : Int) (a0_2 : Int) (a0_3 : Int) (a0_4 : Int) (A0_5 : Option Addr) (c0_5 : Nat) (l0_5 : List (S42)) (a0_6 : Int) (a1 : Int) (r1 : List (S56)) (r2 : Int) (r3 : Int) (r4 : Int) (r5 : Int) (r6 : List (S42)) (r7 : Int) (w : World) (hs0_0 : Kd.V k56 56 w w.heap.size (fun k_ => P0_0_ k_) (.slice A0_0 l0_0.length c0_0) l0_0) (hr0_5 : Kd.C k42 w A0_5 l0_5.length l0_5) (hc0_5 : l0_5.length ≤ c0_5) (h : macadamref06_Without.f k l0_0 a0_1 a0_2 a0_3 a0_4 l0_5 a0_6 a1 = some (r1, r2, r3, r4, r5, r6, r7)) :
  Calls Tryd.prog 88 #[.agg #[.slice A0_0 l0_0.length c0_0, .int .i64 a0_1, .int .i64 a0_2, .int .i64 a0_3, .int .i64 a0_4, .slice A0_5 l0_5.length c0_5, .int .i64 a0_6], .int .i64 a1] w fun e w' => ∃ v0_ v5_ : Value, e = .returned (.agg #[v0_, .int .i64 r2, .int .i64 r3, .int .i64 r4, .int .i64 r5, v5_, .int .i64 r7]) ∧ Kd.V k56 56 w' w.heap.size (fun k_ => (P0_0_ k_ ∨ w.heap.size ≤ k_) ∧ some k_ ≠ (v5_ : Value).ownBlock) v0_ r1 ∧ Kd.R k42 42 w' w.heap.size (fun k_ => (w.heap.size ≤ k_)) v5_ r6 ∧ Below w.heap.size w w' := by
 have hu26 := Tryd.underlying26
 have hu42 := Tryd.underlying42
 have HO0_0 := Aside0.mk (show Kd.V k56 56 w w.heap.size (fun k_ => (P0_0_ k_ ∨ w.heap.size ≤ k_)) (.slice A0_0 l0_0.length c0_0) l0_0 from Kd.V_mono hs0_0 (fun k_ hk => .inl hk))
 have HR0_5 := Aside0.mk hr0_5
 have HC0_5 := Aside0.mk hc0_5
 clear hr0_5 hc0_5
 have HB := Aside0.mk (Below.refl w.heap.size w)
 have H : (macadamref06_Without.l0 k a1 0 l0_0 a0_1 a0_2 a0_3 a0_4 l0_5 a0_6 l0_0 a0_1 a0_2 a0_3 a0_4 ([] : List (S42)) a0_6) = some (r1, r2, r3, r4, r5, r6, r7) := h
 clear h
 have H' := Aside0.mk H
 clear H
 go_enter Tryd.func88, Tryd.ntmps88
 go_wp2_with (first | ((with_reducible refine gate_dst (N := 2) rfl ?_); refine box_event ?hg (N := 2) ?hd (cs := #[.slice A0_0 l0_0.length c0_0, .int .i64 a0_1, .int .i64 a0_2, .int .i64 a0_3, .int .i64 a0_4, .slice A0_5 l0_5.length c0_5, .int .i64 a0_6]) (t := 26) ?hr ?_; (case hd => rfl); (case hg => rfl); (case hr => first | (go_simp; done) | (go_simp; rfl)); intro gb504 hg w3 hbox hb; have n0_ := Aside0.mk (Kd.V_below (Kd.V_elderB (by (with_reducible repeat (first | apply Kd.V_alloc | apply Kd.V_drewN | apply Kd.V_drew)); exact HO0_0.out) gb504 (Nat.le_of_eq hg.symm)) hb); have n1_ := Aside0.mk (below_step (by repeat (first | (with_reducible first | exact HB.out | apply below_alloc | apply pw_below_drewN | apply below_drew1) | exact HB.out)) hb); have n2_ := Aside0.mk (hbox); have n3_ := Aside0.mk ((by rw [hg]; exact (below_size (by repeat (first | (with_reducible first | exact HB.out | apply below_alloc | apply pw_below_drewN | apply below_drew1) | exact HB.out))) : w.heap.size ≤ gb504)); have n4_ := Aside0.mk ((by rw [hg]; exact (below_size (by repeat (first | (with_reducible first | exact HB.out | apply below_alloc | apply pw_below_drewN | apply below_drew1) | exact HB.out))) : w.heap.size ≤ gb504)); clear HO0_0; clear HB; have HO0_0 := n0_; have HB := n1_; have BK504 := n2_; have GW504 := n3_; have GE504 := n4_; clear n0_ n1_ n2_ n3_ n4_; clear hb hbox hg) | ((with_reducible refine gate_dst (N := 4) rfl ?_); refine box_event ?hg (N := 4) ?hd (cs := #[.slice none 0 0, .int .i64 0, .int .i64 0, .int .i64 0, .int .i64 0, .slice none 0 0, .int .i64 0]) (t := 26) ?hr ?_; (case hd => rfl); (case hg => rfl); (case hr => first | (go_simp; done) | (go_simp; rfl)); intro gb505 hg w4 hbox hb; have n0_ := Aside0.mk (Kd.V_below (Kd.V_elderB (by (with_reducible repeat (first | apply Kd.V_alloc | apply Kd.V_drewN | apply Kd.V_drew)); exact HO0_0.out) gb505 (Nat.le_of_eq hg.symm)) hb); have n1_ := Aside0.mk (blk_below (g := gb504) (o := .cells #[.slice A0_0 l0_0.length c0_0, .int .i64 a0_1, .int .i64 a0_2, .int .i64 a0_3, .int .i64 a0_4, .slice A0_5 l0_5.length c0_5, .int .i64 a0_6] 26 (0, 0)) (by (with_reducible repeat (first | refine blk_drewN ?_ _ | refine blk_drew ?_ | refine blk_alloc ?_ _)); exact BK504.out) hb); have n2_ := Aside0.mk (below_step (by repeat (first | (with_reducible first | exact HB.out | apply below_alloc | apply pw_below_drewN | apply below_drew1 | refine below_set ?_ GE504.out) | exact HB.out)) hb); have n3_ := Aside0.mk (hbox); have n4_ := Aside0.mk ((by rw [hg]; exact (below_size (by repeat (first | (with_reducible first | exact HB.out | apply below_alloc | apply pw_below_drewN | apply below_drew1 | refine below_set ?_ GE504.out) | exact HB.out))) : w.heap.size ≤ gb505)); have n5_ := Aside0.mk ((by rw [hg]; exact (below_size (by repeat (first | (with_reducible first | exact HB.out | apply below_alloc | apply pw_below_drewN | apply below_drew1 | refine below_set ?_ GE504.out) | exact HB.out))) : w.heap.size ≤ gb505)); have n6_ := Aside0.mk ((by rw [hg]; exact Nat.ne_of_lt (blk_lt (g := gb504) (o := .cells #[.slice A0_0 l0_0.length c0_0, .int .i64 a0_1, .int .i64 a0_2, .int .i64 a0_3, .int .i64 a0_4, .slice A0_5 l0_5.length c0_5, .int .i64 a0_6] 26 (0, 0)) (by (with_reducible repeat (first | refine blk_drewN ?_ _ | refine blk_drew ?_ | refine blk_alloc ?_ _)); exact BK504.out)) : gb504 ≠ gb505)); have n7_ := Aside0.mk ((by rw [hg]; exact Nat.ne_of_gt (blk_lt (g := gb504) (o := .cells #[.slice A0_0 l0_0.length c0_0, .int .i64 a0_1, .int .i64 a0_2, .int .i64 a0_3, .int .i64 a0_4, .slice A0_5 l0_5.length c0_5, .int .i64 a0_6] 26 (0, 0)) (by (with_reducible repeat (first | refine blk_drewN ?_ _ | refine blk_drew ?_ | refine blk_alloc ?_ _)); exact BK504.out)) : gb505 ≠ gb504)); clear HO0_0; clear BK504; clear HB; have HO0_0 := n0_; have BK504 := n1_; have HB := n2_; have BK505 := n3_; have GW505 := n4_; have GE505 := n5_; have NB504_505 := n6_; have NB505_504 := n7_; clear n0_ n1_ n2_ n3_ n4_ n5_ n6_ n7_; clear hb hbox hg; have hnb5 := NB504_505.out; have hnc5 := NB505_504.out; have hcz6_0 : w4.cell? ⟨gb504, 0, none⟩ = some (.slice A0_0 l0_0.length c0_0) := (blk_cell BK504.out 0).trans rfl; have hcz6_1 : w4.cell? ⟨gb504, 1, none⟩ = some (.int .i64 a0_1) := (blk_cell BK504.out 1).trans rfl; have hcz6_2 : w4.cell? ⟨gb504, 2, none⟩ = some (.int .i64 a0_2) := (blk_cell BK504.out 2).trans rfl; have hcz6_3 : w4.cell? ⟨gb504, 3, none⟩ = some (.int .i64 a0_3) := (blk_cell BK504.out 3).trans rfl; have hcz6_4 : w4.cell? ⟨gb504, 4, none⟩ = some (.int .i64 a0_4) := (blk_cell BK504.out 4).trans rfl; have hcz6_5 : w4.cell? ⟨gb504, 5, none⟩ = some (.slice A0_5 l0_5.length c0_5) := (blk_cell BK504.out 5).trans rfl; have hcz6_6 : w4.cell? ⟨gb504, 6, none⟩ = some (.int .i64 a0_6) := (blk_cell BK504.out 6).trans rfl; have hfz6_0 := blk_frozen BK504.out 0; have hfz6_1 := blk_frozen BK504.out 1; have hfz6_2 := blk_frozen BK504.out 2; have hfz6_3 := blk_frozen BK504.out 3; have hfz6_4 := blk_frozen BK504.out 4; have hfz6_5 := blk_frozen BK504.out 5; have hfz6_6 := blk_frozen BK504.out 6) | ((with_reducible refine gate_dst (N := 5) rfl ?_); refine box_event ?hg (N := 5) ?hd (cs := #[.slice none 0 0, .int .i64 0, .int .i64 0, .int .i64 0, .int .i64 0, .slice none 0 0, .int .i64 0]) (t := 26) ?hr ?_; (case hd => rfl); (case hg => rfl); (case hr => first | (go_simp; done) | (go_simp; rfl)); intro gb506 hg w7 hbox hb; have n0_ := Aside0.mk (Kd.V_below (Kd.V_elderB (by (with_reducible repeat (first | apply Kd.V_alloc | apply Kd.V_drewN | apply Kd.V_drew)); exact HO0_0.out) gb506 (Nat.le_of_eq hg.symm)) hb); have n1_ := Aside0.mk (blk_below (g := gb504) (o := .cells #[.slice A0_0 l0_0.length c0_0, .int .i64 a0_1, .int .i64 a0_2, .int .i64 a0_3, .int .i64 a0_4, .slice A0_5 l0_5.length c0_5, .int .i64 a0_6] 26 (0, 0)) (by (with_reducible repeat (first | refine blk_drewN ?_ _ | refine blk_drew ?_ | refine blk_alloc ?_ _)); exact BK504.out) hb); have n2_ := Aside0.mk (blk_below (g := gb505) (o := .cells #[.slice none 0 0, .int .i64 0, .int .i64 0, .int .i64 0, .int .i64 0, .slice none 0 0, .int .i64 0] 26 (0, 0)) (by (with_reducible repeat (first | refine blk_drewN ?_ _ | refine blk_drew ?_ | refine blk_alloc ?_ _)); exact BK505.out) hb); have n3_ := Aside0.mk (below_step (by repeat (first | (with_reducible first | exact HB.out | apply below_alloc | apply pw_below_drewN | apply below_drew1 | refine below_set ?_ GE504.out | refine below_set ?_ GE505.out) | exact HB.out)) hb); have n4_ := Aside0.mk (hbox); have n5_ := Aside0.mk ((by rw [hg]; exact (below_size (by repeat (first | (with_reducible first | exact HB.out | apply below_alloc | apply pw_below_drewN | apply below_drew1 | refine below_set ?_ GE504.out | refine below_set ?_ GE505.out) | exact HB.out))) : w.heap.size ≤ gb506)); have n6_ := Aside0.mk ((by rw [hg]; exact (below_size (by repeat (first | (with_reducible first | exact HB.out | apply below_alloc | apply pw_below_drewN | apply below_drew1 | refine below_set ?_ GE504.out | refine below_set ?_ GE505.out) | exact HB.out))) : w.heap.size ≤ gb506)); have n7_ := Aside0.mk ((by rw [hg]; exact Nat.ne_of_lt (blk_lt (g := gb504) (o := .cells #[.slice A0_0 l0_0.length c0_0, .int .i64 a0_1, .int .i64 a0_2, .int .i64 a0_3, .int .i64 a0_4, .slice A0_5 l0_5.length c0_5, .int .i64 a0_6] 26 (0, 0)) (by (with_reducible repeat (first | refine blk_drewN ?_ _ | refine blk_drew ?_ | refine blk_alloc ?_ _)); exact BK504.out)) : gb504 ≠ gb506)); have n8_ := Aside0.mk ((by rw [hg]; exact Nat.ne_of_gt (blk_lt (g := gb504) (o := .cells #[.slice A0_0 l0_0.length c0_0, .int .i64 a0_1, .int .i64 a0_2, .int .i64 a0_3, .int .i64 a0_4, .slice A0_5 l0_5.length c0_5, .int .i64 a0_6] 26 (0, 0)) (by (with_reducible repeat (first | refine blk_drewN ?_ _ | refine blk_drew ?_ | refine blk_alloc ?_ _)); exact BK504.out)) : gb506 ≠ gb504)); have n9_ := Aside0.mk ((by rw [hg]; exact Nat.ne_of_lt (blk_lt (g := gb505) (o := .cells #[.slice none 0 0, .int .i64 0, .int .i64 0, .int .i64 0, .int .i64 0, .slice none 0 0, .int .i64 0] 26 (0, 0)) (by (with_reducible repeat (first | refine blk_drewN ?_ _ | refine blk_drew ?_ | refine blk_alloc ?_ _)); exact BK505.out)) : gb505 ≠ gb506)); have n10_ := Aside0.mk ((by rw [hg]; exact Nat.ne_of_gt (blk_lt (g := gb505) (o := .cells #[.slice none 0 0, .int .i64 0, .int .i64 0, .int .i64 0, .int .i64 0, .slice none 0 0, .int .i64 0] 26 (0, 0)) (by (with_reducible repeat (first | refine blk_drewN ?_ _ | refine blk_drew ?_ | refine blk_alloc ?_ _)); exact BK505.out)) : gb506 ≠ gb505)); clear HO0_0; clear BK504; clear BK505; clear HB; have HO0_0 := n0_; have BK504 := n1_; have BK505 := n2_; have HB := n3_; have BK506 := n4_; have GW506 := n5_; have GE506 := n6_; have NB504_506 := n7_; have NB506_504 := n8_; have NB505_506 := n9_; have NB506_505 := n10_; clear n0_ n1_ n2_ n3_ n4_ n5_ n6_ n7_ n8_ n9_ n10_; clear hb hbox hg; have hnb8 := NB506_504.out; have hnc8 := NB504_506.out; have hnb9 := NB506_505.out; have hnc9 := NB505_506.out; have hcz10_0 : w7.cell? ⟨gb506, 0, none⟩ = some (.slice none 0 0) := (blk_cell BK506.out 0).trans rfl; have hcz10_1 : w7.cell? ⟨gb506, 1, none⟩ = some (.int .i64 0) := (blk_cell BK506.out 1).trans rfl; have hcz10_2 : w7.cell? ⟨gb506, 2, none⟩ = some (.int .i64 0) := (blk_cell BK506.out 2).trans rfl; have hcz10_3 : w7.cell? ⟨gb506, 3, none⟩ = some (.int .i64 0) := (blk_cell BK506.out 3).trans rfl; have hcz10_4 : w7.cell? ⟨gb506, 4, none⟩ = some (.int .i64 0) := (blk_cell BK506.out 4).trans rfl; have hcz10_5 : w7.cell? ⟨gb506, 5, none⟩ = some (.slice none 0 0) := (blk_cell BK506.out 5).trans rfl; have hcz10_6 : w7.cell? ⟨gb506, 6, none⟩ = some (.int .i64 0) := (blk_cell BK506.out 6).trans rfl; have hfz10_0 := blk_frozen BK506.out 0; have hfz10_1 := blk_frozen BK506.out 1; have hfz10_2 := blk_frozen BK506.out 2; have hfz10_3 := blk_frozen BK506.out 3; have hfz10_4 := blk_frozen BK506.out 4; have hfz10_5 := blk_frozen BK506.out 5; have hfz10_6 := blk_frozen BK506.out 6))
 go_loopg [6] k (fun kq v6 w' => ∃ (x6_1 : Int) (x507005_1 : List (S42)) (u507005 : Value), v6 = .int .i64 x6_1 ∧ Aside0 (macadamref06_Without.l0 kq a1 x6_1 l0_0 a0_1 a0_2 a0_3 a0_4 l0_5 a0_6 l0_0 a0_1 a0_2 a0_3 a0_4 x507005_1 a0_6 = some (r1, r2, r3, r4, r5, r6, r7)) ∧ Aside0 (kq ≤ k) ∧ Aside0 (Kd.V k56 56 w' w.heap.size (fun k_ => (P0_0_ k_ ∨ w.heap.size ≤ k_) ∧ some k_ ≠ (u507005 : Value).ownBlock ∧ k_ ≠ gb504 ∧ k_ ≠ gb505 ∧ k_ ≠ gb506) (.slice A0_0 l0_0.length c0_0) l0_0) ∧ Aside0 (Kd.V k56 56 w' w.heap.size (fun k_ => (P0_0_ k_ ∨ w.heap.size ≤ k_) ∧ some k_ ≠ (u507005 : Value).ownBlock ∧ k_ ≠ gb504 ∧ k_ ≠ gb505 ∧ k_ ≠ gb506) (.slice A0_0 l0_0.length c0_0) l0_0) ∧ Aside0 (Kd.R k42 42 w' w.heap.size (fun k_ => (w.heap.size ≤ k_)) u507005 x507005_1) ∧ Aside0 (w'.heap[gb504]? = some (.cells #[(.slice A0_0 l0_0.length c0_0), .int .i64 a0_1, .int .i64 a0_2, .int .i64 a0_3, .int .i64 a0_4, (.slice A0_5 l0_5.length c0_5), .int .i64 a0_6] 26 (0, 0))) ∧ Aside0 (w'.heap[gb505]? = some (.cells #[(.slice none 0 0), .int .i64 0, .int .i64 0, .int .i64 0, .int .i64 0, (.slice none 0 0), .int .i64 0] 26 (0, 0))) ∧ Aside0 (w'.heap[gb506]? = some (.cells #[(.slice A0_0 l0_0.length c0_0), .int .i64 a0_1, .int .i64 a0_2, .int .i64 a0_3, .int .i64 a0_4, u507005, .int .i64 a0_6] 26 (0, 0))) ∧ Aside0 (Below w.heap.size w w'))
 case atStart => exact ⟨(0), (([] : List (S42))), (.slice none 0 0), (by first | rfl | (simp; done) | (simp [*]; done)), H', ⟨Nat.le_refl _⟩, ⟨by (with_reducible repeat (first | apply Kd.V_alloc | apply Kd.V_drewN | apply Kd.V_drew)); exact Kd.V_mono (Kd.V_far (p := ⟨gb506, 5, none⟩) (Kd.V_far (p := ⟨gb506, 6, none⟩) (Kd.V_far (p := ⟨gb506, 5, none⟩) (Kd.V_far (p := ⟨gb506, 4, none⟩) (Kd.V_far (p := ⟨gb506, 3, none⟩) (Kd.V_far (p := ⟨gb506, 2, none⟩) (Kd.V_far (p := ⟨gb506, 1, none⟩) (Kd.V_far (p := ⟨gb506, 0, none⟩) (Kd.V_mono HO0_0.out (fun k_ hk => (⟨hk, hk.2⟩ : _ ∧ k_ ≠ gb506))) (fun _ hk => hk.2) (.slice A0_0 l0_0.length c0_0)) (fun _ hk => hk.2) (.int .i64 a0_1)) (fun _ hk => hk.2) (.int .i64 a0_2)) (fun _ hk => hk.2) (.int .i64 a0_3)) (fun _ hk => hk.2) (.int .i64 a0_4)) (fun _ hk => hk.2) (.slice A0_5 l0_5.length c0_5)) (fun _ hk => hk.2) (.int .i64 a0_6)) (fun _ hk => hk.2) (.slice none 0 0)) (fun _ hk => ⟨hk.1.1.1.1, ⟨(by simp [Value.ownBlock]), ⟨hk.1.1.1.2, ⟨hk.1.1.2, hk.1.2⟩⟩⟩⟩)⟩, ⟨by (with_reducible repeat (first | apply Kd.V_alloc | apply Kd.V_drewN | apply Kd.V_drew)); exact Kd.V_mono (Kd.V_far (p := ⟨gb506, 5, none⟩) (Kd.V_far (p := ⟨gb506, 6, none⟩) (Kd.V_far (p := ⟨gb506, 5, none⟩) (Kd.V_far (p := ⟨gb506, 4, none⟩) (Kd.V_far (p := ⟨gb506, 3, none⟩) (Kd.V_far (p := ⟨gb506, 2, none⟩) (Kd.V_far (p := ⟨gb506, 1, none⟩) (Kd.V_far (p := ⟨gb506, 0, none⟩) (Kd.V_mono HO0_0.out (fun k_ hk => (⟨hk, hk.2⟩ : _ ∧ k_ ≠ gb506))) (fun _ hk => hk.2) (.slice A0_0 l0_0.length c0_0)) (fun _ hk => hk.2) (.int .i64 a0_1)) (fun _ hk => hk.2) (.int .i64 a0_2)) (fun _ hk => hk.2) (.int .i64 a0_3)) (fun _ hk => hk.2) (.int .i64 a0_4)) (fun _ hk => hk.2) (.slice A0_5 l0_5.length c0_5)) (fun _ hk => hk.2) (.int .i64 a0_6)) (fun _ hk => hk.2) (.slice none 0 0)) (fun _ hk => ⟨hk.1.1.1.1, ⟨(by simp [Value.ownBlock]), ⟨hk.1.1.1.2, ⟨hk.1.1.2, hk.1.2⟩⟩⟩⟩)⟩, ⟨by first | exact Kd.R_nil _ _ _ _ _ | exact Kd.N_nil _ _ _ _ _ | exact Kd.V_nil _ _ _ _ _ | exact Kd.Q_nil _ _ _ _ _ | exact Kd.S_nil _ _ _ _ _⟩, ⟨by (with_reducible repeat (first | refine blk_drewN ?_ _ | refine blk_drew ?_ | refine blk_alloc ?_ _)); refine blk_far ?_ NB504_506.out _; (with_reducible repeat (first | refine blk_drewN ?_ _ | refine blk_drew ?_ | refine blk_alloc ?_ _)); refine blk_far ?_ NB504_506.out _; (with_reducible repeat (first | refine blk_drewN ?_ _ | refine blk_drew ?_ | refine blk_alloc ?_ _)); refine blk_far ?_ NB504_506.out _; (with_reducible repeat (first | refine blk_drewN ?_ _ | refine blk_drew ?_ | refine blk_alloc ?_ _)); refine blk_far ?_ NB504_506.out _; (with_reducible repeat (first | refine blk_drewN ?_ _ | refine blk_drew ?_ | refine blk_alloc ?_ _)); refine blk_far ?_ NB504_506.out _; (with_reducible repeat (first | refine blk_drewN ?_ _ | refine blk_drew ?_ | refine blk_alloc ?_ _)); refine blk_far ?_ NB504_506.out _; (with_reducible repeat (first | refine blk_drewN ?_ _ | refine blk_drew ?_ | refine blk_alloc ?_ _)); refine blk_far ?_ NB504_506.out _; (with_reducible repeat (first | refine blk_drewN ?_ _ | refine blk_drew ?_ | refine blk_alloc ?_ _)); refine blk_far ?_ NB504_506.out _; (with_reducible repeat (first | refine blk_drewN ?_ _ | refine blk_drew ?_ | refine blk_alloc ?_ _)); exact BK504.out⟩, ⟨by (with_reducible repeat (first | refine blk_drewN ?_ _ | refine blk_drew ?_ | refine blk_alloc ?_ _)); refine blk_far ?_ NB505_506.out _; (with_reducible repeat (first | refine blk_drewN ?_ _ | refine blk_drew ?_ | refine blk_alloc ?_ _)); refine blk_far ?_ NB505_506.out _; (with_reducible repeat (first | refine blk_drewN ?_ _ | refine blk_drew ?_ | refine blk_alloc ?_ _)); refine blk_far ?_ NB505_506.out _; (with_reducible repeat (first | refine blk_drewN ?_ _ | refine blk_drew ?_ | refine blk_alloc ?_ _)); refine blk_far ?_ NB505_506.out _; (with_reducible repeat (first | refine blk_drewN ?_ _ | refine blk_drew ?_ | refine blk_alloc ?_ _)); refine blk_far ?_ NB505_506.out _; (with_reducible repeat (first | refine blk_drewN ?_ _ | refine blk_drew ?_ | refine blk_alloc ?_ _)); refine blk_far ?_ NB505_506.out _; (with_reducible repeat (first | refine blk_drewN ?_ _ | refine blk_drew ?_ | refine blk_alloc ?_ _)); refine blk_far ?_ NB505_506.out _; (with_reducible repeat (first | refine blk_drewN ?_ _ | refine blk_drew ?_ | refine blk_alloc ?_ _)); refine blk_far ?_ NB505_506.out _; (with_reducible repeat (first | refine blk_drewN ?_ _ | refine blk_drew ?_ | refine blk_alloc ?_ _)); exact BK505.out⟩, ⟨by (with_reducible repeat (first | refine blk_drewN ?_ _ | refine blk_drew ?_ | refine blk_alloc ?_ _)); refine blk_put (cs := #[.slice A0_0 l0_0.length c0_0, .int .i64 a0_1, .int .i64 a0_2, .int .i64 a0_3, .int .i64 a0_4, .slice A0_5 l0_5.length c0_5, .int .i64 a0_6]) ?_ 5 _ rfl; (with_reducible repeat (first | refine blk_drewN ?_ _ | refine blk_drew ?_ | refine blk_alloc ?_ _)); refine blk_put (cs := #[.slice A0_0 l0_0.length c0_0, .int .i64 a0_1, .int .i64 a0_2, .int .i64 a0_3, .int .i64 a0_4, .slice A0_5 l0_5.length c0_5, .int .i64 0]) ?_ 6 _ rfl; (with_reducible repeat (first | refine blk_drewN ?_ _ | refine blk_drew ?_ | refine blk_alloc ?_ _)); refine blk_put (cs := #[.slice A0_0 l0_0.length c0_0, .int .i64 a0_1, .int .i64 a0_2, .int .i64 a0_3, .int .i64 a0_4, .slice none 0 0, .int .i64 0]) ?_ 5 _ rfl; (with_reducible repeat (first | refine blk_drewN ?_ _ | refine blk_drew ?_ | refine blk_alloc ?_ _)); refine blk_put (cs := #[.slice A0_0 l0_0.length c0_0, .int .i64 a0_1, .int .i64 a0_2, .int .i64 a0_3, .int .i64 0, .slice none 0 0, .int .i64 0]) ?_ 4 _ rfl; (with_reducible repeat (first | refine blk_drewN ?_ _ | refine blk_drew ?_ | refine blk_alloc ?_ _)); refine blk_put (cs := #[.slice A0_0 l0_0.length c0_0, .int .i64 a0_1, .int .i64 a0_2, .int .i64 0, .int .i64 0, .slice none 0 0, .int .i64 0]) ?_ 3 _ rfl; (with_reducible repeat (first | refine blk_drewN ?_ _ | refine blk_drew ?_ | refine blk_alloc ?_ _)); refine blk_put (cs := #[.slice A0_0 l0_0.length c0_0, .int .i64 a0_1, .int .i64 0, .int .i64 0, .int .i64 0, .slice none 0 0, .int .i64 0]) ?_ 2 _ rfl; (with_reducible repeat (first | refine blk_drewN ?_ _ | refine blk_drew ?_ | refine blk_alloc ?_ _)); refine blk_put (cs := #[.slice A0_0 l0_0.length c0_0, .int .i64 0, .int .i64 0, .int .i64 0, .int .i64 0, .slice none 0 0, .int .i64 0]) ?_ 1 _ rfl; (with_reducible repeat (first | refine blk_drewN ?_ _ | refine blk_drew ?_ | refine blk_alloc ?_ _)); refine blk_put (cs := #[.slice none 0 0, .int .i64 0, .int .i64 0, .int .i64 0, .int .i64 0, .slice none 0 0, .int .i64 0]) ?_ 0 _ rfl; (with_reducible repeat (first | refine blk_drewN ?_ _ | refine blk_drew ?_ | refine blk_alloc ?_ _)); exact BK506.out⟩, ⟨by repeat (first | (with_reducible first | exact HB.out | apply below_alloc | apply pw_below_drewN | apply below_drew1 | refine below_set ?_ GE504.out | refine below_set ?_ GE505.out | refine below_set ?_ GE506.out) | exact HB.out)⟩⟩
 case round =>
  clear H'
  try clear p2
  try clear c5
  try clear c8
  try clear c9
  try clear hcz10_0
  try clear hcz10_1
  try clear hcz10_2
  try clear hcz10_3
  try clear hcz10_4
  try clear hcz10_5
  try clear hcz10_6
  try clear hcz6_0
  try clear hcz6_1
  try clear hcz6_2
  try clear hcz6_3
  try clear hcz6_4
  try clear hcz6_5
  try clear hcz6_6
  try clear hfz10_0
  try clear hfz10_1
  try clear hfz10_2
  try clear hfz10_3
  try clear hfz10_4
  try clear hfz10_5
  try clear hfz10_6
  try clear hfz6_0
  try clear hfz6_1
  try clear hfz6_2
  try clear hfz6_3
  try clear hfz6_4
  try clear hfz6_5
  try clear hfz6_6
  obtain ⟨x6_1, x507005_1, u507005, rfl, HA, HK1, HO_505000, HO_507000, HO_507005, BK504, BK505, BK506, HB⟩ := hrel
  cases gk with
  | zero => exact absurd HA.out (by simp [macadamref06_Without.l0])
  | succ k1 =>
   have H := HA.out
   clear HA
   simp only [macadamref06_Without.l0] at H
   by_cases c11 : x6_1 < (l0_5.length : Int)
   ·rw [if_pos c11] at H
    have c11b0 : decide (x6_1 < (l0_5.length : Int)) = true := decide_eq_true c11
    clear c11
    replace H := Option.bind_eq_some_iff.mp H
    obtain ⟨t507, A120, H⟩ := H
    replace H : (if t507 = true then (macadamref06_Without.l0 k1 a1 (wrap64 (x6_1 + 1)) l0_0 a0_1 a0_2 a0_3 a0_4 l0_5 a0_6 l0_0 a0_1 a0_2 a0_3 a0_4 x507005_1 a0_6) else (if 0 ≤ x6_1 then (if x507005_1.length < 5864062014805 then (macadamref06_Without.l0 k1 a1 (wrap64 (x6_1 + 1)) l0_0 a0_1 a0_2 a0_3 a0_4 l0_5 a0_6 l0_0 a0_1 a0_2 a0_3 a0_4 (x507005_1 ++ [(⟨(rd_T42 l0_5 x6_1).f0, (rd_T42 l0_5 x6_1).f1, (rd_T42 l0_5 x6_1).f2⟩ : S42)]) a0_6) else (none)) else (none))) = some (r1, r2, r3, r4, r5, r6, r7) := H
    have A12 := Aside0.mk A120
    clear A120
    by_cases c13 : t507 = true
    ·subst c13
     have H1 : (macadamref06_Without.l0 k1 a1 (wrap64 (x6_1 + 1)) l0_0 a0_1 a0_2 a0_3 a0_4 l0_5 a0_6 l0_0 a0_1 a0_2 a0_3 a0_4 x507005_1 a0_6) = some (r1, r2, r3, r4, r5, r6, r7) := by rw [if_pos rfl] at H; exact H
     clear H
     have H := H1
     clear H1
     have H' := Aside0.mk H
     clear H
     have hnb14 := NB504_505.out
     have hnc14 := NB505_504.out
     have hnb15 := NB504_506.out
     have hnc15 := NB506_504.out
     have hcz16_0 : wr.cell? ⟨gb504, 0, none⟩ = some (.slice A0_0 l0_0.length c0_0) := (blk_cell BK504.out 0).trans rfl
     have hcz16_1 : wr.cell? ⟨gb504, 1, none⟩ = some (.int .i64 a0_1) := (blk_cell BK504.out 1).trans rfl
     have hcz16_2 : wr.cell? ⟨gb504, 2, none⟩ = some (.int .i64 a0_2) := (blk_cell BK504.out 2).trans rfl
     have hcz16_3 : wr.cell? ⟨gb504, 3, none⟩ = some (.int .i64 a0_3) := (blk_cell BK504.out 3).trans rfl
     have hcz16_4 : wr.cell? ⟨gb504, 4, none⟩ = some (.int .i64 a0_4) := (blk_cell BK504.out 4).trans rfl
     have hcz16_5 : wr.cell? ⟨gb504, 5, none⟩ = some (.slice A0_5 l0_5.length c0_5) := (blk_cell BK504.out 5).trans rfl
     have hcz16_6 : wr.cell? ⟨gb504, 6, none⟩ = some (.int .i64 a0_6) := (blk_cell BK504.out 6).trans rfl
     have hfz16_0 := blk_frozen BK504.out 0
     have hfz16_1 := blk_frozen BK504.out 1
     have hfz16_2 := blk_frozen BK504.out 2
     have hfz16_3 := blk_frozen BK504.out 3
     have hfz16_4 := blk_frozen BK504.out 4
     have hfz16_5 := blk_frozen BK504.out 5
     have hfz16_6 := blk_frozen BK504.out 6
     go_wp2_with (first | ((with_reducible refine gate_callee (f := 44) rfl ?_); refine goesL_ (some 18) rfl rfl Tryd.func44 (by kernel_rfl) rfl #[.int .i64 a1, .int .i64 x6_1] rfl (by (try simp only [List.map_toArray, List.map_cons, List.map_nil]); first | done | rfl | (simp only [List.length_drop, List.length_take]; rfl)) ?_; (with_reducible refine (macadamref00_In.calls a1 x6_1 true _ A12.out).mono ?_); rintro e w' ⟨rfl, ⟨nd, rfl⟩⟩; refine ⟨_, rfl, ?_⟩))
     go_roundg k1
     case measure => have := HK1.out; omega
     case rel => exact ⟨(wrap64 (x6_1 + 1)), (x507005_1), (u507005), (by first | rfl | (simp; done) | (simp [*]; done)), H', ⟨by have := HK1.out; omega⟩, ⟨by (with_reducible repeat (first | apply Kd.V_alloc | apply Kd.V_drewN | apply Kd.V_drew)); exact HO_505000.out⟩, ⟨by (with_reducible repeat (first | apply Kd.V_alloc | apply Kd.V_drewN | apply Kd.V_drew)); exact HO_507000.out⟩, ⟨by (with_reducible repeat (first | apply Kd.R_alloc | apply Kd.R_drewN | apply Kd.R_drew)); exact HO_507005.out⟩, ⟨by (with_reducible repeat (first | refine blk_drewN ?_ _ | refine blk_drew ?_ | refine blk_alloc ?_ _)); exact BK504.out⟩, ⟨by (with_reducible repeat (first | refine blk_drewN ?_ _ | refine blk_drew ?_ | refine blk_alloc ?_ _)); exact BK505.out⟩, ⟨by (with_reducible repeat (first | refine blk_drewN ?_ _ | refine blk_drew ?_ | refine blk_alloc ?_ _)); exact BK506.out⟩, ⟨by repeat (first | (with_reducible first | exact HB.out | apply below_alloc | apply pw_below_drewN | apply below_drew1 | refine below_set ?_ GE504.out | refine below_set ?_ GE505.out | refine below_set ?_ GE506.out) | exact HB.out)⟩⟩
    ·replace c13 := Bool.eq_false_iff.mpr c13
     subst c13
     have H1 : (if 0 ≤ x6_1 then (if x507005_1.length < 5864062014805 then (macadamref06_Without.l0 k1 a1 (wrap64 (x6_1 + 1)) l0_0 a0_1 a0_2 a0_3 a0_4 l0_5 a0_6 l0_0 a0_1 a0_2 a0_3 a0_4 (x507005_1 ++ [(⟨(rd_T42 l0_5 x6_1).f0, (rd_T42 l0_5 x6_1).f1, (rd_T42 l0_5 x6_1).f2⟩ : S42)]) a0_6) else (none)) else (none)) = some (r1, r2, r3, r4, r5, r6, r7) := by rw [if_neg (show ¬ (false = true) by decide)] at H; exact H
     clear H
     have H := H1
     clear H1
     by_cases c17 : 0 ≤ x6_1
     ·rw [if_pos c17] at H
      have c17b0 : decide (0 ≤ x6_1) = true := decide_eq_true c17
      clear c17
      by_cases c18 : x507005_1.length < 5864062014805
      ·rw [if_pos c18] at H
       have LMc18 := Aside0.mk c18
       clear c18
       obtain ⟨y509, hy509⟩ : ∃ y_ : List (S42), y_ = (x507005_1 ++ [(⟨(rd_T42 l0_5 x6_1).f0, (rd_T42 l0_5 x6_1).f1, (rd_T42 l0_5 x6_1).f2⟩ : S42)]) := ⟨_, rfl⟩
       replace H : (macadamref06_Without.l0 k1 a1 (wrap64 (x6_1 + 1)) l0_0 a0_1 a0_2 a0_3 a0_4 l0_5 a0_6 l0_0 a0_1 a0_2 a0_3 a0_4 y509 a0_6) = some (r1, r2, r3, r4, r5, r6, r7) := by first | (rw [hy509]; with_reducible exact H) | (have H2_ := (Option.bind_some _ _).symm.trans H; rw [hy509]; with_reducible exact H2_) | (have H2_ := (Option.bind_some _ _).symm.trans H; with_reducible exact H2_) | with_reducible exact H | (rw [hy509]; exact H) | exact H
       have Ny509 := Aside0.mk hy509
       clear hy509
       have H' := Aside0.mk H
       clear H
       have hnb19 := NB504_505.out
       have hnc19 := NB505_504.out
       have hnb20 := NB504_506.out
       have hnc20 := NB506_504.out
       have hcz21_0 : wr.cell? ⟨gb504, 0, none⟩ = some (.slice A0_0 l0_0.length c0_0) := (blk_cell BK504.out 0).trans rfl
       have hcz21_1 : wr.cell? ⟨gb504, 1, none⟩ = some (.int .i64 a0_1) := (blk_cell BK504.out 1).trans rfl
       have hcz21_2 : wr.cell? ⟨gb504, 2, none⟩ = some (.int .i64 a0_2) := (blk_cell BK504.out 2).trans rfl
       have hcz21_3 : wr.cell? ⟨gb504, 3, none⟩ = some (.int .i64 a0_3) := (blk_cell BK504.out 3).trans rfl
       have hcz21_4 : wr.cell? ⟨gb504, 4, none⟩ = some (.int .i64 a0_4) := (blk_cell BK504.out 4).trans rfl
       have hcz21_5 : wr.cell? ⟨gb504, 5, none⟩ = some (.slice A0_5 l0_5.length c0_5) := (blk_cell BK504.out 5).trans rfl
       have hcz21_6 : wr.cell? ⟨gb504, 6, none⟩ = some (.int .i64 a0_6) := (blk_cell BK504.out 6).trans rfl
       have hfz21_0 := blk_frozen BK504.out 0
       have hfz21_1 := blk_frozen BK504.out 1
       have hfz21_2 := blk_frozen BK504.out 2
       have hfz21_3 := blk_frozen BK504.out 3
       have hfz21_4 := blk_frozen BK504.out 4
       have hfz21_5 := blk_frozen BK504.out 5
       have hfz21_6 := blk_frozen BK504.out 6
       try go_wp2_with (first | ((with_reducible refine gate_callee (f := 44) rfl ?_); refine goesL_ (some 18) rfl rfl Tryd.func44 (by kernel_rfl) rfl #[.int .i64 a1, .int .i64 x6_1] rfl (by (try simp only [List.map_toArray, List.map_cons, List.map_nil]); first | done | rfl | (simp only [List.length_drop, List.length_take]; rfl)) ?_; (with_reducible refine (macadamref00_In.calls a1 x6_1 false _ A12.out).mono ?_); rintro e w' ⟨rfl, ⟨nd, rfl⟩⟩; refine ⟨_, rfl, ?_⟩; (try (rw [drewN_self wr]; generalize hq_ : World.drewN wr _ = wr; have n0_ : Aside0 (Kd.V k56 56 wr w.heap.size (fun k_ => (P0_0_ k_ ∨ w.heap.size ≤ k_) ∧ some k_ ≠ (u507005 : Value).ownBlock ∧ k_ ≠ gb504 ∧ k_ ≠ gb505 ∧ k_ ≠ gb506) (.slice A0_0 l0_0.length c0_0) l0_0) := ⟨by rw [← hq_]; exact (by (with_reducible repeat (first | apply Kd.V_alloc | apply Kd.V_drewN | apply Kd.V_drew)); exact HO_505000.out)⟩; have n1_ : Aside0 (Kd.V k56 56 wr w.heap.size (fun k_ => (P0_0_ k_ ∨ w.heap.size ≤ k_) ∧ some k_ ≠ (u507005 : Value).ownBlock ∧ k_ ≠ gb504 ∧ k_ ≠ gb505 ∧ k_ ≠ gb506) (.slice A0_0 l0_0.length c0_0) l0_0) := ⟨by rw [← hq_]; exact (by (with_reducible repeat (first | apply Kd.V_alloc | apply Kd.V_drewN | apply Kd.V_drew)); exact HO_507000.out)⟩; have n2_ : Aside0 (Kd.R k42 42 wr w.heap.size (fun k_ => (w.heap.size ≤ k_)) u507005 x507005_1) := ⟨by rw [← hq_]; exact (by (with_reducible repeat (first | apply Kd.R_alloc | apply Kd.R_drewN | apply Kd.R_drew)); exact HO_507005.out)⟩; have n3_ : Aside0 (wr.heap[gb504]? = some (.cells #[.slice A0_0 l0_0.length c0_0, .int .i64 a0_1, .int .i64 a0_2, .int .i64 a0_3, .int .i64 a0_4, .slice A0_5 l0_5.length c0_5, .int .i64 a0_6] 26 (0, 0))) := ⟨by rw [← hq_]; exact (by (with_reducible repeat (first | refine blk_drewN ?_ _ | refine blk_drew ?_ | refine blk_alloc ?_ _)); exact BK504.out)⟩; have n4_ : Aside0 (wr.heap[gb505]? = some (.cells #[.slice none 0 0, .int .i64 0, .int .i64 0, .int .i64 0, .int .i64 0, .slice none 0 0, .int .i64 0] 26 (0, 0))) := ⟨by rw [← hq_]; exact (by (with_reducible repeat (first | refine blk_drewN ?_ _ | refine blk_drew ?_ | refine blk_alloc ?_ _)); exact BK505.out)⟩; have n5_ : Aside0 (wr.heap[gb506]? = some (.cells #[.slice A0_0 l0_0.length c0_0, .int .i64 a0_1, .int .i64 a0_2, .int .i64 a0_3, .int .i64 a0_4, u507005, .int .i64 a0_6] 26 (0, 0))) := ⟨by rw [← hq_]; exact (by (with_reducible repeat (first | refine blk_drewN ?_ _ | refine blk_drew ?_ | refine blk_alloc ?_ _)); exact BK506.out)⟩; have n6_ : Aside0 (Below w.heap.size w wr) := ⟨by rw [← hq_]; exact (by repeat (first | (with_reducible first | exact HB.out | apply below_alloc | apply pw_below_drewN | apply below_drew1 | refine below_set ?_ GE504.out | refine below_set ?_ GE505.out | refine below_set ?_ GE506.out) | exact HB.out))⟩; clear HO_505000 HO_507000 HO_507005 BK504 BK505 BK506 HB hq_; have HO_505000 := n0_; have HO_507000 := n1_; have HO_507005 := n2_; have BK504 := n3_; have BK505 := n4_; have BK506 := n5_; have HB := n6_; clear n0_ n1_ n2_ n3_ n4_ n5_ n6_))))
       have n0_ := Aside0.mk (Kd.V_drew HO_505000.out)
       have n1_ := Aside0.mk (Kd.V_drew HO_507000.out)
       have n2_ := Aside0.mk (Kd.R_drew HO_507005.out)
       have n3_ := Aside0.mk (blk_drew BK504.out)
       have n4_ := Aside0.mk (blk_drew BK505.out)
       have n5_ := Aside0.mk (blk_drew BK506.out)
       have n6_ := Aside0.mk (below_drew1 HB.out)
       clear HO_505000
       clear HO_507000
       clear HO_507005
       clear BK504
       clear BK505
       clear BK506
       clear HB
       have HO_505000 := n0_
       have HO_507000 := n1_
       have HO_507005 := n2_
       have BK504 := n3_
       have BK505 := n4_
       have BK506 := n5_
       have HB := n6_
       clear n0_ n1_ n2_ n3_ n4_ n5_ n6_
       have p508 : 0 ≤ (x6_1 : Int) := of_decide_eq_true (by first | (with_reducible assumption) | assumption)
       have q508 : x6_1 < (l0_5.length : Int) := of_decide_eq_true (by first | (with_reducible assumption) | assumption)
       obtain ⟨ad508, e508, hx508_0, hx508_1, hx508_2⟩ := at_T42 HR0_5.out x6_1 p508 q508
       have hw508_2 := hx508_2
       have hw508_1 := hx508_1
       have hw508_0 := hx508_0
       cases e508
       replace hx508_0 := (HB.out.cell (World.block_lt_of_cell? w _ hx508_0)).trans hx508_0
       replace hx508_1 := (HB.out.cell (World.block_lt_of_cell? w _ hx508_1)).trans hx508_1
       replace hx508_2 := (HB.out.cell (World.block_lt_of_cell? w _ hx508_2)).trans hx508_2
       replace p508 := eq_true p508
       replace q508 := eq_true q508
       refine start_ (n := 11) (S := fun w' => w'.cell? ⟨gb506, 0, none⟩ = some (.slice A0_0 l0_0.length c0_0) ∧ w'.cell? ⟨gb506, 1, none⟩ = some (.int .i64 a0_1) ∧ w'.cell? ⟨gb506, 2, none⟩ = some (.int .i64 a0_2) ∧ w'.cell? ⟨gb506, 3, none⟩ = some (.int .i64 a0_3) ∧ w'.cell? ⟨gb506, 4, none⟩ = some (.int .i64 a0_4) ∧ w'.cell? ⟨gb506, 5, none⟩ = some (u507005) ∧ w'.cell? ⟨gb506, 6, none⟩ = some (.int .i64 a0_6) ∧ w'.cell? ⟨gb504, 0, none⟩ = some (.slice A0_0 l0_0.length c0_0) ∧ w'.cell? ⟨gb504, 1, none⟩ = some (.int .i64 a0_1) ∧ w'.cell? ⟨gb504, 2, none⟩ = some (.int .i64 a0_2) ∧ w'.cell? ⟨gb504, 3, none⟩ = some (.int .i64 a0_3) ∧ w'.cell? ⟨gb504, 4, none⟩ = some (.int .i64 a0_4) ∧ w'.cell? ⟨gb504, 5, none⟩ = some (.slice (some ad508) l0_5.length c0_5) ∧ w'.cell? ⟨gb504, 6, none⟩ = some (.int .i64 a0_6) ∧ w'.cell? (ad508.add ((x6_1).toNat * 3)) = some (.int .i64 ((rd_T42 l0_5 x6_1).f0)) ∧ w'.cell? ⟨(ad508.add ((x6_1).toNat * 3)).block, (ad508.add ((x6_1).toNat * 3)).off + 1, none⟩ = some (.int .i64 ((rd_T42 l0_5 x6_1).f1)) ∧ w'.cell? ⟨(ad508.add ((x6_1).toNat * 3)).block, (ad508.add ((x6_1).toNat * 3)).off + 2, none⟩ = some (.int .i64 ((rd_T42 l0_5 x6_1).f2))) (ds := [10]) (bl 11 0) (by kernel_rfl) rfl (by kernel_rfl) ⟨(blk_cell BK506.out 0).trans rfl, (blk_cell BK506.out 1).trans rfl, (blk_cell BK506.out 2).trans rfl, (blk_cell BK506.out 3).trans rfl, (blk_cell BK506.out 4).trans rfl, (blk_cell BK506.out 5).trans rfl, (blk_cell BK506.out 6).trans rfl, (blk_cell BK504.out 0).trans rfl, (blk_cell BK504.out 1).trans rfl, (blk_cell BK504.out 2).trans rfl, (blk_cell BK504.out 3).trans rfl, (blk_cell BK504.out 4).trans rfl, (blk_cell BK504.out 5).trans rfl, (blk_cell BK504.out 6).trans rfl, ((HB.out.cell (World.block_lt_of_cell? w _ hw508_0)).trans hw508_0), ((HB.out.cell (World.block_lt_of_cell? w _ hw508_1)).trans hw508_1), ((HB.out.cell (World.block_lt_of_cell? w _ hw508_2)).trans hw508_2)⟩ (fun hHeld => ?_); refine with_tabW macadamref06_Without.tab7 macadamref06_Without.bits7 (fun HT_ HW_ => ?_)
       generalize wr.drew = w22 at HO_505000 HO_507000 HO_507005 BK504 BK505 BK506 HB hx508_0 hx508_1 hx508_2 hHeld ⊢
       refine pu_ 0 (some 20) (bl 11 1) rfl rfl (by kernel_rfl) (fun _ _ _ h => h) (by rfl) (by intro w'; go_simp; with_reducible rfl) (by simp only [nrm_]; rfl) ?_
       refine pu_ 2 (some 22) (bl 11 5) rfl rfl (by kernel_rfl) (fun _ _ _ h => h) (by rfl) (by intro w'; go_simp; with_reducible rfl) (by simp only [nrm_]; rfl) ?_
       refine pu_ 4 (some 24) (bl 11 21) rfl rfl (by kernel_rfl) (fun _ _ _ h => h) (by rfl) (by intro w'; go_simp; with_reducible rfl) (by simp only [nrm_]; rfl) ?_
       refine tk_ 1 (some 21) (bl 11 23) rfl rfl (by kernel_rfl) (fun _ _ _ h => h) hHeld (by rfl) (by rintro w' ⟨s0, s1, s2, s3, s4, s5, s6, s7, s8, s9, s10, s11, s12, s13, s14, s15, s16⟩; go_simp; with_reducible rfl) (by simp only [nrm_]; rfl) ?_
       refine tk_ 3 (some 23) (bl 11 31) rfl rfl (by kernel_rfl) (fun _ _ _ h => h) hHeld (by rfl) (by rintro w' ⟨s0, s1, s2, s3, s4, s5, s6, s7, s8, s9, s10, s11, s12, s13, s14, s15, s16⟩; go_simp; with_reducible rfl) (by simp only [nrm_]; rfl) ?_
       refine pu_ 5 (some 25) (bl 11 63) rfl rfl (by kernel_rfl) (fun _ _ _ h => h) (by rfl) (by intro w'; go_simp; with_reducible rfl) (by simp only [nrm_]; rfl) ?_
       refine tk_ 6 (some 26) (bl 11 127) rfl rfl (by kernel_rfl) (fun _ _ _ h => h) hHeld (by rfl) (by rintro w' ⟨s0, s1, s2, s3, s4, s5, s6, s7, s8, s9, s10, s11, s12, s13, s14, s15, s16⟩; go_simp; with_reducible rfl) (by simp only [nrm_]; rfl) ?_
       refine one_ (i := 7) (N := some 27) (bl 11 255) rfl rfl (one_of HT_.out (by kernel_rfl)) (by decide) (fun K hK => ?_)
       refine value_ (w1 := ?_) (v := ?_) (by rfl) rfl ?_ ?_
       rotate_left 2
       ·go_simp
        constructor
        ·rfl
        ·rfl
       refine hK.out _ _ ⟨(blk_cell (blk_alloc BK506.out _) 0).trans rfl, (blk_cell (blk_alloc BK506.out _) 1).trans rfl, (blk_cell (blk_alloc BK506.out _) 2).trans rfl, (blk_cell (blk_alloc BK506.out _) 3).trans rfl, (blk_cell (blk_alloc BK506.out _) 4).trans rfl, (blk_cell (blk_alloc BK506.out _) 5).trans rfl, (blk_cell (blk_alloc BK506.out _) 6).trans rfl, (blk_cell (blk_alloc BK504.out _) 0).trans rfl, (blk_cell (blk_alloc BK504.out _) 1).trans rfl, (blk_cell (blk_alloc BK504.out _) 2).trans rfl, (blk_cell (blk_alloc BK504.out _) 3).trans rfl, (blk_cell (blk_alloc BK504.out _) 4).trans rfl, (blk_cell (blk_alloc BK504.out _) 5).trans rfl, (blk_cell (blk_alloc BK504.out _) 6).trans rfl, (World.cell?_alloc_lt _ _ _ (World.block_lt_of_cell? _ _ (((HB.out.cell (World.block_lt_of_cell? w _ hw508_0)).trans hw508_0)))).trans (((HB.out.cell (World.block_lt_of_cell? w _ hw508_0)).trans hw508_0)), (World.cell?_alloc_lt _ _ _ (World.block_lt_of_cell? _ _ (((HB.out.cell (World.block_lt_of_cell? w _ hw508_1)).trans hw508_1)))).trans (((HB.out.cell (World.block_lt_of_cell? w _ hw508_1)).trans hw508_1)), (World.cell?_alloc_lt _ _ _ (World.block_lt_of_cell? _ _ (((HB.out.cell (World.block_lt_of_cell? w _ hw508_2)).trans hw508_2)))).trans (((HB.out.cell (World.block_lt_of_cell? w _ hw508_2)).trans hw508_2))⟩ (fun hHeld => ?_)
       clear hK K
       refine norm_ (a' := ?_) ?_ ?_
       rotate_left
       ·show Act.put _ (some 27) _ = _
        simp only [nrm_]
        rfl
       refine one_ (i := 8) (N := some 28) (bl 11 511) rfl rfl (one_of HT_.out (by kernel_rfl)) (by decide) (fun K hK => ?_)
       refine Kd.R_append_step k42 (w0 := w) w.heap.size (by rfl) (.tmp 21) (.tmp 27) 24 42 (.agg #[(.int .i64 0), (.int .i64 0), (.int .i64 0)]) 24 rfl Tryd.underlying24 info42 rfl (by decide) (by omega) u507005 x507005_1 (⟨(rd_T42 l0_5 x6_1).f0, (rd_T42 l0_5 x6_1).f1, (rd_T42 l0_5 x6_1).f2⟩ : S42) [.int .i64 ((rd_T42 l0_5 x6_1).f0), .int .i64 ((rd_T42 l0_5 x6_1).f1), .int .i64 ((rd_T42 l0_5 x6_1).f2)] (fun k_ => (w.heap.size ≤ k_)) (fun _ => False) rfl rfl ?aP (fun _ hk => hk.elim) ?aF ?aO ?aB ?aS ?aL ?_
       (case aP => exact k42_mkM _ _ _ (⟨(rd_T42 l0_5 x6_1).f0, (rd_T42 l0_5 x6_1).f1, (rd_T42 l0_5 x6_1).f2⟩ : S42))
       (case aB => exact (by repeat (first | (with_reducible first | exact HB.out | apply below_alloc | apply pw_below_drewN | apply below_drew1 | refine below_set ?_ GE504.out | refine below_set ?_ GE505.out | refine below_set ?_ GE506.out) | exact HB.out)))
       (case aF => exact (fun k_ hk => (Nat.le_trans (below_size (by repeat (first | (with_reducible first | exact HB.out | apply below_alloc | apply pw_below_drewN | apply below_drew1 | refine below_set ?_ GE504.out | refine below_set ?_ GE505.out | refine below_set ?_ GE506.out) | exact HB.out))) hk)))
       (case aO => exact (by (with_reducible repeat (first | apply Kd.R_alloc | apply Kd.R_drewN | apply Kd.R_drew)); exact HO_507005.out))
       (case aS => exact (below_size (by repeat (first | (with_reducible first | exact HB.out | apply below_alloc | apply pw_below_drewN | apply below_drew1 | refine below_set ?_ GE504.out | refine below_set ?_ GE505.out | refine below_set ?_ GE506.out) | exact HB.out))))
       (case aL => have := LMc18.out; omega)
       intro v510 w23 ho hb hg hat
       rw [← Ny509.out] at ho
       have n0_ := Aside0.mk (Kd.V_afterv (ok := (fun k_ => (P0_0_ k_ ∨ w.heap.size ≤ k_) ∧ k_ ≠ gb504 ∧ k_ ≠ gb505 ∧ k_ ≠ gb506)) (by (with_reducible repeat (first | apply Kd.V_alloc | apply Kd.V_drewN | apply Kd.V_drew)); exact Kd.V_mono HO_505000.out (fun _ hk => ⟨⟨hk.1, ⟨hk.2.2.1, ⟨hk.2.2.2.1, hk.2.2.2.2⟩⟩⟩, hk.2.1⟩)) hg hat)
       have n1_ := Aside0.mk (Kd.V_afterv (ok := (fun k_ => (P0_0_ k_ ∨ w.heap.size ≤ k_) ∧ k_ ≠ gb504 ∧ k_ ≠ gb505 ∧ k_ ≠ gb506)) (by (with_reducible repeat (first | apply Kd.V_alloc | apply Kd.V_drewN | apply Kd.V_drew)); exact Kd.V_mono HO_507000.out (fun _ hk => ⟨⟨hk.1, ⟨hk.2.2.1, ⟨hk.2.2.2.1, hk.2.2.2.2⟩⟩⟩, hk.2.1⟩)) hg hat)
       have n2_ := Aside0.mk (blk_grown (g := gb504) (o := .cells #[.slice A0_0 l0_0.length c0_0, .int .i64 a0_1, .int .i64 a0_2, .int .i64 a0_3, .int .i64 a0_4, .slice (some ad508) l0_5.length c0_5, .int .i64 a0_6] 26 (0, 0)) (by (with_reducible repeat (first | refine blk_drewN ?_ _ | refine blk_drew ?_ | refine blk_alloc ?_ _)); exact BK504.out) hg (Kd.R_ne HO_507005.out BK504.out (by decide)))
       have n3_ := Aside0.mk (blk_grown (g := gb505) (o := .cells #[.slice none 0 0, .int .i64 0, .int .i64 0, .int .i64 0, .int .i64 0, .slice none 0 0, .int .i64 0] 26 (0, 0)) (by (with_reducible repeat (first | refine blk_drewN ?_ _ | refine blk_drew ?_ | refine blk_alloc ?_ _)); exact BK505.out) hg (Kd.R_ne HO_507005.out BK505.out (by decide)))
       have n4_ := Aside0.mk (blk_grown (g := gb506) (o := .cells #[.slice A0_0 l0_0.length c0_0, .int .i64 a0_1, .int .i64 a0_2, .int .i64 a0_3, .int .i64 a0_4, u507005, .int .i64 a0_6] 26 (0, 0)) (by (with_reducible repeat (first | refine blk_drewN ?_ _ | refine blk_drew ?_ | refine blk_alloc ?_ _)); exact BK506.out) hg (Kd.R_ne HO_507005.out BK506.out (by decide)))
       have n5_ := Aside0.mk (hb)
       have n6_ := Aside0.mk (ho)
       clear HO_505000
       clear HO_507000
       clear BK504
       clear BK505
       clear BK506
       clear HB
       clear HO_507005
       have HO_505000 := n0_
       have HO_507000 := n1_
       have BK504 := n2_
       have BK505 := n3_
       have BK506 := n4_
       have HB := n5_
       have HO511 := n6_
       clear n0_ n1_ n2_ n3_ n4_ n5_ n6_
       clear ho hb hg hat
       obtain ⟨Ao24, co24, eo24⟩ := Kd.R_slice HO511.out
       (first | subst eo24 | (injection eo24 with f1_ f2_ f3_; have f4_ := f1_.symm; have f5_ := f3_.symm; clear f1_ f2_ f3_; subst f4_; subst f5_))
       refine hK.out _ _ ⟨(blk_cell BK506.out 0).trans rfl, (blk_cell BK506.out 1).trans rfl, (blk_cell BK506.out 2).trans rfl, (blk_cell BK506.out 3).trans rfl, (blk_cell BK506.out 4).trans rfl, (blk_cell BK506.out 5).trans rfl, (blk_cell BK506.out 6).trans rfl, (blk_cell BK504.out 0).trans rfl, (blk_cell BK504.out 1).trans rfl, (blk_cell BK504.out 2).trans rfl, (blk_cell BK504.out 3).trans rfl, (blk_cell BK504.out 4).trans rfl, (blk_cell BK504.out 5).trans rfl, (blk_cell BK504.out 6).trans rfl, ((HB.out.cell (World.block_lt_of_cell? w _ hw508_0)).trans hw508_0), ((HB.out.cell (World.block_lt_of_cell? w _ hw508_1)).trans hw508_1), ((HB.out.cell (World.block_lt_of_cell? w _ hw508_2)).trans hw508_2)⟩ (fun hHeld => ?_)
       clear hK K
       refine norm_ (a' := ?_) ?_ ?_
       rotate_left
       ·show Act.put _ (some 28) _ = _
        simp only [nrm_]
        rfl
       refine pu_ 9 (some 29) (bl 11 1023) rfl rfl (by kernel_rfl) (fun _ _ _ h => h) (by rfl) (by intro w'; go_simp; with_reducible rfl) (by simp only [nrm_]; rfl) ?_
       refine last_ (i := 10) (N := none) (bl 11 2047) rfl rfl (one_of HT_.out (by kernel_rfl)) (by decide) (fun K hK => ?_)
       have hs25 : w23.cell? ⟨gb506, 5, none⟩ = some (u507005) := (blk_cell BK506.out 5).trans rfl
       have hfs25 := blk_frozen BK506.out 5
       have hns25_0 := NB504_506.out
       have hns25_1 := NB505_506.out
       have hms25_0 := NB506_504.out
       have hms25_1 := NB506_505.out
       refine skip_ (w1 := ?_) (by rfl) rfl ?_ ?_
       rotate_left
       ·go_simp
        rfl
       refine hK.out _ _ ?_
       clear hK K
       refine done_ (done_of HT_.out (by kernel_rfl)) ?_
       try go_wp2
       go_roundg k1
       case measure => have := HK1.out; omega
       case rel => exact ⟨(wrap64 (x6_1 + 1)), (y509), (.slice Ao24 y509.length co24), (by first | rfl | (simp; done) | (simp [*]; done)), H', ⟨by have := HK1.out; omega⟩, ⟨by (with_reducible repeat (first | apply Kd.V_alloc | apply Kd.V_drewN | apply Kd.V_drew)); exact Kd.V_mono (Kd.V_far (p := ⟨gb506, 5, none⟩) (Kd.V_mono HO_505000.out (fun k_ hk => (⟨hk, hk.1.2.2.2⟩ : _ ∧ k_ ≠ gb506))) (fun _ hk => hk.2) (.slice Ao24 y509.length co24)) (fun _ hk => ⟨hk.1.1.1, ⟨hk.1.2, ⟨hk.1.1.2.1, ⟨hk.1.1.2.2.1, hk.1.1.2.2.2⟩⟩⟩⟩)⟩, ⟨by (with_reducible repeat (first | apply Kd.V_alloc | apply Kd.V_drewN | apply Kd.V_drew)); exact Kd.V_mono (Kd.V_far (p := ⟨gb506, 5, none⟩) (Kd.V_mono HO_507000.out (fun k_ hk => (⟨hk, hk.1.2.2.2⟩ : _ ∧ k_ ≠ gb506))) (fun _ hk => hk.2) (.slice Ao24 y509.length co24)) (fun _ hk => ⟨hk.1.1.1, ⟨hk.1.2, ⟨hk.1.1.2.1, ⟨hk.1.1.2.2.1, hk.1.1.2.2.2⟩⟩⟩⟩)⟩, ⟨by (with_reducible repeat (first | apply Kd.R_alloc | apply Kd.R_drewN | apply Kd.R_drew)); exact Kd.R_mono (Kd.R_far (p := ⟨gb506, 5, none⟩) (Kd.R_types HO511.out BK506.out (by decide)) (fun _ hk => hk.2) (.slice Ao24 y509.length co24)) (fun _ hk => hk.1)⟩, ⟨by (with_reducible repeat (first | refine blk_drewN ?_ _ | refine blk_drew ?_ | refine blk_alloc ?_ _)); refine blk_far ?_ NB504_506.out _; (with_reducible repeat (first | refine blk_drewN ?_ _ | refine blk_drew ?_ | refine blk_alloc ?_ _)); exact BK504.out⟩, ⟨by (with_reducible repeat (first | refine blk_drewN ?_ _ | refine blk_drew ?_ | refine blk_alloc ?_ _)); refine blk_far ?_ NB505_506.out _; (with_reducible repeat (first | refine blk_drewN ?_ _ | refine blk_drew ?_ | refine blk_alloc ?_ _)); exact BK505.out⟩, ⟨by (with_reducible repeat (first | refine blk_drewN ?_ _ | refine blk_drew ?_ | refine blk_alloc ?_ _)); refine blk_put (cs := #[.slice A0_0 l0_0.length c0_0, .int .i64 a0_1, .int .i64 a0_2, .int .i64 a0_3, .int .i64 a0_4, u507005, .int .i64 a0_6]) ?_ 5 _ rfl; (with_reducible repeat (first | refine blk_drewN ?_ _ | refine blk_drew ?_ | refine blk_alloc ?_ _)); exact BK506.out⟩, ⟨by repeat (first | (with_reducible first | exact HB.out | apply below_alloc | apply pw_below_drewN | apply below_drew1 | refine below_set ?_ GE504.out | refine below_set ?_ GE505.out | refine below_set ?_ GE506.out) | exact HB.out)⟩⟩
      ·rw [if_neg c18] at H
       exact absurd H (by simp)
     ·rw [if_neg c17] at H
      exact absurd H (by simp)
   ·rw [if_neg c11] at H
    have c11b0 : decide (x6_1 < (l0_5.length : Int)) = false := decide_eq_false c11
    clear c11
    simp only [Option.some.injEq, Prod.mk.injEq] at H
    obtain ⟨rfl, rfl, rfl, rfl, rfl, rfl, rfl⟩ := H
    have hnb26 := NB504_505.out
    have hnc26 := NB505_504.out
    have hnb27 := NB504_506.out
    have hnc27 := NB506_504.out
    have hcz28_0 : wr.cell? ⟨gb504, 0, none⟩ = some (.slice A0_0 l0_0.length c0_0) := (blk_cell BK504.out 0).trans rfl
    have hcz28_1 : wr.cell? ⟨gb504, 1, none⟩ = some (.int .i64 a0_1) := (blk_cell BK504.out 1).trans rfl
    have hcz28_2 : wr.cell? ⟨gb504, 2, none⟩ = some (.int .i64 a0_2) := (blk_cell BK504.out 2).trans rfl
    have hcz28_3 : wr.cell? ⟨gb504, 3, none⟩ = some (.int .i64 a0_3) := (blk_cell BK504.out 3).trans rfl
    have hcz28_4 : wr.cell? ⟨gb504, 4, none⟩ = some (.int .i64 a0_4) := (blk_cell BK504.out 4).trans rfl
    have hcz28_5 : wr.cell? ⟨gb504, 5, none⟩ = some (.slice A0_5 l0_5.length c0_5) := (blk_cell BK504.out 5).trans rfl
    have hcz28_6 : wr.cell? ⟨gb504, 6, none⟩ = some (.int .i64 a0_6) := (blk_cell BK504.out 6).trans rfl
    have hfz28_0 := blk_frozen BK504.out 0
    have hfz28_1 := blk_frozen BK504.out 1
    have hfz28_2 := blk_frozen BK504.out 2
    have hfz28_3 := blk_frozen BK504.out 3
    have hfz28_4 := blk_frozen BK504.out 4
    have hfz28_5 := blk_frozen BK504.out 5
    have hfz28_6 := blk_frozen BK504.out 6
    have hnb29 := NB506_505.out
    have hnc29 := NB505_506.out
    have hcz30_0 : wr.cell? ⟨gb506, 0, none⟩ = some (.slice A0_0 l0_0.length c0_0) := (blk_cell BK506.out 0).trans rfl
    have hcz30_1 : wr.cell? ⟨gb506, 1, none⟩ = some (.int .i64 a0_1) := (blk_cell BK506.out 1).trans rfl
    have hcz30_2 : wr.cell? ⟨gb506, 2, none⟩ = some (.int .i64 a0_2) := (blk_cell BK506.out 2).trans rfl
    have hcz30_3 : wr.cell? ⟨gb506, 3, none⟩ = some (.int .i64 a0_3) := (blk_cell BK506.out 3).trans rfl
    have hcz30_4 : wr.cell? ⟨gb506, 4, none⟩ = some (.int .i64 a0_4) := (blk_cell BK506.out 4).trans rfl
    have hcz30_5 : wr.cell? ⟨gb506, 5, none⟩ = some (u507005) := (blk_cell BK506.out 5).trans rfl
    have hcz30_6 : wr.cell? ⟨gb506, 6, none⟩ = some (.int .i64 a0_6) := (blk_cell BK506.out 6).trans rfl
    have hfz30_0 := blk_frozen BK506.out 0
    have hfz30_1 := blk_frozen BK506.out 1
    have hfz30_2 := blk_frozen BK506.out 2
    have hfz30_3 := blk_frozen BK506.out 3
    have hfz30_4 := blk_frozen BK506.out 4
    have hfz30_5 := blk_frozen BK506.out 5
    have hfz30_6 := blk_frozen BK506.out 6
    have hcz31_0 : wr.cell? ⟨gb505, 0, none⟩ = some (.slice none 0 0) := (blk_cell BK505.out 0).trans rfl
    have hcz31_1 : wr.cell? ⟨gb505, 1, none⟩ = some (.int .i64 0) := (blk_cell BK505.out 1).trans rfl
    have hcz31_2 : wr.cell? ⟨gb505, 2, none⟩ = some (.int .i64 0) := (blk_cell BK505.out 2).trans rfl
    have hcz31_3 : wr.cell? ⟨gb505, 3, none⟩ = some (.int .i64 0) := (blk_cell BK505.out 3).trans rfl
    have hcz31_4 : wr.cell? ⟨gb505, 4, none⟩ = some (.int .i64 0) := (blk_cell BK505.out 4).trans rfl
    have hcz31_5 : wr.cell? ⟨gb505, 5, none⟩ = some (.slice none 0 0) := (blk_cell BK505.out 5).trans rfl
    have hcz31_6 : wr.cell? ⟨gb505, 6, none⟩ = some (.int .i64 0) := (blk_cell BK505.out 6).trans rfl
    have hfz31_0 := blk_frozen BK505.out 0
    have hfz31_1 := blk_frozen BK505.out 1
    have hfz31_2 := blk_frozen BK505.out 2
    have hfz31_3 := blk_frozen BK505.out 3
    have hfz31_4 := blk_frozen BK505.out 4
    have hfz31_5 := blk_frozen BK505.out 5
    have hfz31_6 := blk_frozen BK505.out 6
    obtain ⟨Ao32, co32, eo32⟩ := Kd.R_slice HO_507005.out
    subst eo32
    go_wp2
    refine bodyPost_ret (results_cell_row rfl _ _ gb505 26 #[.slice A0_0 l0_0.length c0_0, .int .i64 a0_1, .int .i64 a0_2, .int .i64 a0_3, .int .i64 a0_4, .slice Ao32 x507005_1.length co32, .int .i64 a0_6] (0, 0) _ rfl (by (with_reducible repeat (first | refine blk_drewN ?_ _ | refine blk_drew ?_ | refine blk_alloc ?_ _)); refine blk_put (cs := #[.slice A0_0 l0_0.length c0_0, .int .i64 a0_1, .int .i64 a0_2, .int .i64 a0_3, .int .i64 a0_4, .slice Ao32 x507005_1.length co32, .int .i64 0]) ?_ 6 _ rfl; (with_reducible repeat (first | refine blk_drewN ?_ _ | refine blk_drew ?_ | refine blk_alloc ?_ _)); refine blk_put (cs := #[.slice A0_0 l0_0.length c0_0, .int .i64 a0_1, .int .i64 a0_2, .int .i64 a0_3, .int .i64 a0_4, .slice none 0 0, .int .i64 0]) ?_ 5 _ rfl; (with_reducible repeat (first | refine blk_drewN ?_ _ | refine blk_drew ?_ | refine blk_alloc ?_ _)); refine blk_put (cs := #[.slice A0_0 l0_0.length c0_0, .int .i64 a0_1, .int .i64 a0_2, .int .i64 a0_3, .int .i64 0, .slice none 0 0, .int .i64 0]) ?_ 4 _ rfl; (with_reducible repeat (first | refine blk_drewN ?_ _ | refine blk_drew ?_ | refine blk_alloc ?_ _)); refine blk_put (cs := #[.slice A0_0 l0_0.length c0_0, .int .i64 a0_1, .int .i64 a0_2, .int .i64 0, .int .i64 0, .slice none 0 0, .int .i64 0]) ?_ 3 _ rfl; (with_reducible repeat (first | refine blk_drewN ?_ _ | refine blk_drew ?_ | refine blk_alloc ?_ _)); refine blk_put (cs := #[.slice A0_0 l0_0.length c0_0, .int .i64 a0_1, .int .i64 0, .int .i64 0, .int .i64 0, .slice none 0 0, .int .i64 0]) ?_ 2 _ rfl; (with_reducible repeat (first | refine blk_drewN ?_ _ | refine blk_drew ?_ | refine blk_alloc ?_ _)); refine blk_put (cs := #[.slice A0_0 l0_0.length c0_0, .int .i64 0, .int .i64 0, .int .i64 0, .int .i64 0, .slice none 0 0, .int .i64 0]) ?_ 1 _ rfl; (with_reducible repeat (first | refine blk_drewN ?_ _ | refine blk_drew ?_ | refine blk_alloc ?_ _)); refine blk_put (cs := #[.slice none 0 0, .int .i64 0, .int .i64 0, .int .i64 0, .int .i64 0, .slice none 0 0, .int .i64 0]) ?_ 0 _ rfl; (with_reducible repeat (first | refine blk_drewN ?_ _ | refine blk_drew ?_ | refine blk_alloc ?_ _)); exact BK505.out) Tryd.underlying26 rfl (by kernel_rfl)) rfl ?_
    exact ⟨_, _, by first | rfl | (simp [errW_none, errW_some] <;> rfl) | (simp only [i64_w, i32_w] <;> rfl) | (simp [*, errW_none, errW_some] <;> rfl), by (with_reducible repeat (first | apply Kd.V_alloc | apply Kd.V_drewN | apply Kd.V_drew)); exact Kd.V_mono (Kd.V_far (p := ⟨gb505, 6, none⟩) (Kd.V_far (p := ⟨gb505, 5, none⟩) (Kd.V_far (p := ⟨gb505, 4, none⟩) (Kd.V_far (p := ⟨gb505, 3, none⟩) (Kd.V_far (p := ⟨gb505, 2, none⟩) (Kd.V_far (p := ⟨gb505, 1, none⟩) (Kd.V_far (p := ⟨gb505, 0, none⟩) (Kd.V_mono HO_507000.out (fun k_ hk => (⟨hk, hk.2.2.2.1⟩ : _ ∧ k_ ≠ gb505))) (fun _ hk => hk.2) (.slice A0_0 l0_0.length c0_0)) (fun _ hk => hk.2) (.int .i64 a0_1)) (fun _ hk => hk.2) (.int .i64 a0_2)) (fun _ hk => hk.2) (.int .i64 a0_3)) (fun _ hk => hk.2) (.int .i64 a0_4)) (fun _ hk => hk.2) (.slice Ao32 x507005_1.length co32)) (fun _ hk => hk.2) (.int .i64 a0_6)) (fun _ hk => ⟨hk.1.1, hk.1.2.1⟩), by (with_reducible repeat (first | apply Kd.R_alloc | apply Kd.R_drewN | apply Kd.R_drew)); exact Kd.R_mono (Kd.R_far (p := ⟨gb505, 6, none⟩) (Kd.R_far (p := ⟨gb505, 5, none⟩) (Kd.R_far (p := ⟨gb505, 4, none⟩) (Kd.R_far (p := ⟨gb505, 3, none⟩) (Kd.R_far (p := ⟨gb505, 2, none⟩) (Kd.R_far (p := ⟨gb505, 1, none⟩) (Kd.R_far (p := ⟨gb505, 0, none⟩) (Kd.R_types HO_507005.out BK505.out (by decide)) (fun _ hk => hk.2) (.slice A0_0 l0_0.length c0_0)) (fun _ hk => hk.2) (.int .i64 a0_1)) (fun _ hk => hk.2) (.int .i64 a0_2)) (fun _ hk => hk.2) (.int .i64 a0_3)) (fun _ hk => hk.2) (.int .i64 a0_4)) (fun _ hk => hk.2) (.slice Ao32 x507005_1.length co32)) (fun _ hk => hk.2) (.int .i64 a0_6)) (fun _ hk => hk.1), by repeat (first | (with_reducible first | exact HB.out | apply below_alloc | apply pw_below_drewN | apply below_drew1 | refine below_set ?_ GE504.out | refine below_set ?_ GE505.out | refine below_set ?_ GE506.out) | exact HB.out)⟩
end Go.Proofs.YtbhjfojbjpbdbaaDoorPX
namespace Go.Proofs.YtbhjfojbjpbdbaaDoorPX
open Go.Proofs.YtbhjfojbjpbdbaaDoor (Glob ix3 blk_ix3 bl nrm_ pu_ tk_)
open Go.RowKit Go.Proofs.YtbhjfojbjpbdbaaDoorW.PrintWords Go.Proofs.YtbhjfojbjpbdbaaDoorW.PrintLast Go.Proofs.YtbhjfojbjpbdbaaDoorW.PrintMore

set_option linter.unusedVariables false
set_option linter.unusedSimpArgs false
def macadamref06_Wrong.l0 : Nat → Int → List Int → Int → List (S56) → Int → Int → Int → Int → List (S42) → Int → Option (List Int × Int)
 | 0, _, _, _, _, _, _, _, _, _, _ => none
 | k + 1, x5, x6, x7, x513000, x513001, x513002, x513003, x513004, x513005, x513006 => if 0 ≤ x5 then (if x7 < (shl .i64 1 x5) then ((macadamref00_All.f k x7 x5).bind fun t517 => ((macadamref00_Fewer.f k t517 x6).bind fun t520 => (if t520 = true then ((macadamref06_Without.f k x513000 x513001 x513002 x513003 x513004 x513005 x513006 x7).bind fun bt521 => ((macadamref06_truths.f k bt521.1 bt521.2.1 bt521.2.2.1 bt521.2.2.2.1 bt521.2.2.2.2.1 bt521.2.2.2.2.2.1 bt521.2.2.2.2.2.2).bind fun t532 => (if (t532.length : Int) > 0 then (macadamref06_Wrong.l0 k x5 t517 (wrap64 (x7 + 1)) x513000 x513001 x513002 x513003 x513004 x513005 x513006) else (macadamref06_Wrong.l0 k x5 x6 (wrap64 (x7 + 1)) x513000 x513001 x513002 x513003 x513004 x513005 x513006)))) else (macadamref06_Wrong.l0 k x5 x6 (wrap64 (x7 + 1)) x513000 x513001 x513002 x513003 x513004 x513005 x513006)))) else (some (x6, 0))) else (none)
def macadamref06_Wrong.f (k : Nat) (l0_0 : List (S56)) (a0_1 : Int) (a0_2 : Int) (a0_3 : Int) (a0_4 : Int) (l0_5 : List (S42)) (a0_6 : Int) : Option (List Int × Int) := (macadamref06_Check.f l0_0 a0_1 a0_2 a0_3 a0_4 l0_5 a0_6).bind fun t513 => (if t513 = 0 then ((macadamref00_All.f k (wrap64 ((shl .i64 1 (l0_5.length : Int)) - 1)) (l0_5.length : Int)).bind fun t514 => (macadamref06_Wrong.l0 k (l0_5.length : Int) t514 0 l0_0 a0_1 a0_2 a0_3 a0_4 l0_5 a0_6)) else (some (([] : List Int), t513)))
set_option maxHeartbeats 8000000 in
set_option maxRecDepth 100000 in
theorem macadamref06_Wrong.calls (k : Nat) (A0_0 : Option Addr) (c0_0 : Nat) (l0_0 : List (S56)) (a0_1 : Int) (a0_2 : Int) (a0_3 : Int) (a0_4 : Int) (A0_5 : Option Addr) (c0_5 : Nat) (l0_5 : List (S42)) (a0_6 : Int) (r1 : List Int) (r2 : Int) (w : World) (hr0_0 : Kd.C k56 w A0_0 l0_0.length l0_0) (hc0_0 : l0_0.length ≤ c0_0) (hr0_5 : Kd.C k42 w A0_5 l0_5.length l0_5) (hc0_5 : l0_5.length ≤ c0_5) (h : macadamref06_Wrong.f k l0_0 a0_1 a0_2 a0_3 a0_4 l0_5 a0_6 = some (r1, r2)) :
  Calls Tryd.prog 39 #[.agg #[.slice A0_0 l0_0.length c0_0, .int .i64 a0_1, .int .i64 a0_2, .int .i64 a0_3, .int .i64 a0_4, .slice A0_5 l0_5.length c0_5, .int .i64 a0_6]] w fun e w' => ∃ v0_ : Value, e = .returned (.tuple #[v0_, .int .i64 r2]) ∧ Kd.R (Kd.int .i64) 3 w' w.heap.size (fun _ => True) v0_ r1 ∧ Below w.heap.size w w' := by
 have hu26 := Tryd.underlying26
 have HR0_0 := Aside0.mk hr0_0
 have HC0_0 := Aside0.mk hc0_0
 clear hr0_0 hc0_0
 have HR0_5 := Aside0.mk hr0_5
 have HC0_5 := Aside0.mk hc0_5
 clear hr0_5 hc0_5
 have HB := Aside0.mk (Below.refl w.heap.size w)
 have H : ((macadamref06_Check.f l0_0 a0_1 a0_2 a0_3 a0_4 l0_5 a0_6).bind fun t513 => (if t513 = 0 then ((macadamref00_All.f k (wrap64 ((shl .i64 1 (l0_5.length : Int)) - 1)) (l0_5.length : Int)).bind fun t514 => (macadamref06_Wrong.l0 k (l0_5.length : Int) t514 0 l0_0 a0_1 a0_2 a0_3 a0_4 l0_5 a0_6)) else (some (([] : List Int), t513)))) = some (r1, r2) := h
 clear h
 replace H := Option.bind_eq_some_iff.mp H
 obtain ⟨t513, A20, H⟩ := H
 replace H : (if t513 = 0 then ((macadamref00_All.f k (wrap64 ((shl .i64 1 (l0_5.length : Int)) - 1)) (l0_5.length : Int)).bind fun t514 => (macadamref06_Wrong.l0 k (l0_5.length : Int) t514 0 l0_0 a0_1 a0_2 a0_3 a0_4 l0_5 a0_6)) else (some (([] : List Int), t513))) = some (r1, r2) := H
 have A2 := Aside0.mk A20
 clear A20
 by_cases c3 : t513 = 0
 ·rw [if_pos c3] at H
  have c3b0 : (t513 == 0) = true := beq_iff_eq.mpr c3
  have c3b1 : (t513 != 0) = false := bne_eq_false_iff_eq.mpr c3
  clear c3
  obtain ⟨ji4, hji4⟩ : ∃ j_ : Int, (shl .i64 1 (l0_5.length : Int)) = j_ := ⟨_, rfl⟩
  replace H : ((macadamref00_All.f k (wrap64 ((ji4) - 1)) (l0_5.length : Int)).bind fun t514 => (macadamref06_Wrong.l0 k (l0_5.length : Int) t514 0 l0_0 a0_1 a0_2 a0_3 a0_4 l0_5 a0_6)) = some (r1, r2) := by first | (rw [hji4] at H; exact H) | (simp only [hji4] at H ⊢; exact H)
  (try rw [hji4] at A2)
  have hji4_ : (IntKind.i64.wrap (1 * 2 ^ min (l0_5.length : Int).toNat 64)) = ji4 := hji4
  have hji4z : (l0_5.length : Int) ≤ 64 → (IntKind.i64.wrap (1 * 2 ^ (l0_5.length : Int).toNat)) = ji4 := shl_small hji4
  have hji4p : (IntKind.i64.wrap (1 * 2 ^ min l0_5.length 64)) = ji4 := hji4_
  have hji4q : (l0_5.length : Int) ≤ 64 → (IntKind.i64.wrap (1 * 2 ^ l0_5.length)) = ji4 := hji4z
  have hji4r : (IntKind.i64.wrap (2 ^ min l0_5.length 64)) = ji4 := by have h_ := hji4p; rw [Int.one_mul] at h_; exact h_
  have hji4s : (l0_5.length : Int) ≤ 64 → (IntKind.i64.wrap (2 ^ l0_5.length)) = ji4 := fun hle_ => by have h_ := hji4q hle_; rw [Int.one_mul] at h_; exact h_
  have hji4u : (IntKind.i64.wrap (2 ^ min (l0_5.length : Int).toNat 64)) = ji4 := by have h_ := hji4_; rw [Int.one_mul] at h_; exact h_
  have hji4v : (l0_5.length : Int) ≤ 64 → (IntKind.i64.wrap (2 ^ (l0_5.length : Int).toNat)) = ji4 := fun hle_ => by have h_ := hji4z hle_; rw [Int.one_mul] at h_; exact h_
  have hji4y : (wrap64 (1 * 2 ^ min (l0_5.length : Int).toNat 64)) = ji4 := (i64_w _).symm.trans hji4_
  have hji4x : (l0_5.length : Int) ≤ 64 → (wrap64 (1 * 2 ^ (l0_5.length : Int).toNat)) = ji4 := fun h_ => (i64_w _).symm.trans (hji4z h_)
  replace H := Option.bind_eq_some_iff.mp H
  obtain ⟨t514, A50, H⟩ := H
  replace H : (macadamref06_Wrong.l0 k (l0_5.length : Int) t514 0 l0_0 a0_1 a0_2 a0_3 a0_4 l0_5 a0_6) = some (r1, r2) := H
  have A5 := Aside0.mk A50
  clear A50
  have H' := Aside0.mk H
  clear H
  go_enter Tryd.func39, Tryd.ntmps39
  go_wp2_with (first | ((with_reducible refine gate_dst (N := 1) rfl ?_); (try (refine gate_guard (by rfl) ?_; dsimp only)); refine box_event ?hg (N := 1) ?hd (cs := #[.slice A0_0 l0_0.length c0_0, .int .i64 a0_1, .int .i64 a0_2, .int .i64 a0_3, .int .i64 a0_4, .slice A0_5 l0_5.length c0_5, .int .i64 a0_6]) (t := 26) ?hr ?_; (case hd => rfl); (case hg => rfl); (case hr => first | (go_simp; done) | (go_simp; rfl)); intro gb512 hg w6 hbox hb; have n0_ := Aside0.mk (below_step (by repeat (first | (with_reducible first | exact HB.out | apply below_alloc | apply pw_below_drewN | apply below_drew1) | exact HB.out)) hb); have n1_ := Aside0.mk (hbox); have n2_ := Aside0.mk ((by rw [hg]; exact (below_size (by repeat (first | (with_reducible first | exact HB.out | apply below_alloc | apply pw_below_drewN | apply below_drew1) | exact HB.out))) : w.heap.size ≤ gb512)); have n3_ := Aside0.mk ((by rw [hg]; exact (below_size (by repeat (first | (with_reducible first | exact HB.out | apply below_alloc | apply pw_below_drewN | apply below_drew1) | exact HB.out))) : w.heap.size ≤ gb512)); clear HB; have HB := n0_; have BK512 := n1_; have GW512 := n2_; have GE512 := n3_; clear n0_ n1_ n2_ n3_; clear hb hbox hg; have hcz7_0 : w6.cell? ⟨gb512, 0, none⟩ = some (.slice A0_0 l0_0.length c0_0) := (blk_cell BK512.out 0).trans rfl; have hcz7_1 : w6.cell? ⟨gb512, 1, none⟩ = some (.int .i64 a0_1) := (blk_cell BK512.out 1).trans rfl; have hcz7_2 : w6.cell? ⟨gb512, 2, none⟩ = some (.int .i64 a0_2) := (blk_cell BK512.out 2).trans rfl; have hcz7_3 : w6.cell? ⟨gb512, 3, none⟩ = some (.int .i64 a0_3) := (blk_cell BK512.out 3).trans rfl; have hcz7_4 : w6.cell? ⟨gb512, 4, none⟩ = some (.int .i64 a0_4) := (blk_cell BK512.out 4).trans rfl; have hcz7_5 : w6.cell? ⟨gb512, 5, none⟩ = some (.slice A0_5 l0_5.length c0_5) := (blk_cell BK512.out 5).trans rfl; have hcz7_6 : w6.cell? ⟨gb512, 6, none⟩ = some (.int .i64 a0_6) := (blk_cell BK512.out 6).trans rfl; have hfz7_0 := blk_frozen BK512.out 0; have hfz7_1 := blk_frozen BK512.out 1; have hfz7_2 := blk_frozen BK512.out 2; have hfz7_3 := blk_frozen BK512.out 3; have hfz7_4 := blk_frozen BK512.out 4; have hfz7_5 := blk_frozen BK512.out 5; have hfz7_6 := blk_frozen BK512.out 6) | ((with_reducible refine gate_callee (f := 18) rfl ?_); refine goesL_ (some 10) rfl rfl Tryd.func18 (by kernel_rfl) rfl #[.agg #[.slice A0_0 l0_0.length c0_0, .int .i64 a0_1, .int .i64 a0_2, .int .i64 a0_3, .int .i64 a0_4, .slice A0_5 l0_5.length c0_5, .int .i64 a0_6]] rfl (by (try simp only [List.map_toArray, List.map_cons, List.map_nil]); first | done | rfl | (simp only [List.length_drop, List.length_take]; rfl)) ?_; (with_reducible refine (macadamref06_Check.calls _ _ l0_0 a0_1 a0_2 a0_3 a0_4 _ _ l0_5 a0_6 t513 _ ?side1 ?side2 ?side3 ?side4 A2.out).mono ?_); (case side1 => repeat (first | exact (Kd.C_below HR0_0.out HB.out) | (with_reducible refine Kd.C_alloc ?_ _) | (with_reducible refine Kd.C_drewN ?_ _) | (with_reducible refine Kd.C_drew ?_))); (case side2 => exact HC0_0.out); (case side3 => repeat (first | exact (Kd.C_below HR0_5.out HB.out) | (with_reducible refine Kd.C_alloc ?_ _) | (with_reducible refine Kd.C_drewN ?_ _) | (with_reducible refine Kd.C_drew ?_))); (case side4 => exact HC0_5.out); rintro e w8 ⟨rfl, hb⟩; refine ⟨_, rfl, ?_⟩; have n0_ := Aside0.mk (blk_below (g := gb512) (o := .cells #[.slice A0_0 l0_0.length c0_0, .int .i64 a0_1, .int .i64 a0_2, .int .i64 a0_3, .int .i64 a0_4, .slice A0_5 l0_5.length c0_5, .int .i64 a0_6] 26 (0, 0)) (by (with_reducible repeat (first | refine blk_drewN ?_ _ | refine blk_drew ?_ | refine blk_alloc ?_ _)); exact BK512.out) hb); have n1_ := Aside0.mk (below_step (by repeat (first | (with_reducible first | exact HB.out | apply below_alloc | apply pw_below_drewN | apply below_drew1 | refine below_set ?_ GE512.out) | exact HB.out)) hb); clear BK512; clear HB; have BK512 := n0_; have HB := n1_; clear n0_ n1_; (try clear hb); (try clear hb2); (try clear hk); (try clear hi); have hcz9_0 : w8.cell? ⟨gb512, 0, none⟩ = some (.slice A0_0 l0_0.length c0_0) := (blk_cell BK512.out 0).trans rfl; have hcz9_1 : w8.cell? ⟨gb512, 1, none⟩ = some (.int .i64 a0_1) := (blk_cell BK512.out 1).trans rfl; have hcz9_2 : w8.cell? ⟨gb512, 2, none⟩ = some (.int .i64 a0_2) := (blk_cell BK512.out 2).trans rfl; have hcz9_3 : w8.cell? ⟨gb512, 3, none⟩ = some (.int .i64 a0_3) := (blk_cell BK512.out 3).trans rfl; have hcz9_4 : w8.cell? ⟨gb512, 4, none⟩ = some (.int .i64 a0_4) := (blk_cell BK512.out 4).trans rfl; have hcz9_5 : w8.cell? ⟨gb512, 5, none⟩ = some (.slice A0_5 l0_5.length c0_5) := (blk_cell BK512.out 5).trans rfl; have hcz9_6 : w8.cell? ⟨gb512, 6, none⟩ = some (.int .i64 a0_6) := (blk_cell BK512.out 6).trans rfl; have hfz9_0 := blk_frozen BK512.out 0; have hfz9_1 := blk_frozen BK512.out 1; have hfz9_2 := blk_frozen BK512.out 2; have hfz9_3 := blk_frozen BK512.out 3; have hfz9_4 := blk_frozen BK512.out 4; have hfz9_5 := blk_frozen BK512.out 5; have hfz9_6 := blk_frozen BK512.out 6) | ((with_reducible refine gate_callee (f := 56) rfl ?_); refine goesL_ (some 21) rfl rfl Tryd.func56 (by kernel_rfl) rfl #[.int .i64 (wrap64 ((ji4) - 1)), .int .i64 (l0_5.length : Int)] rfl (by (try simp only [List.map_toArray, List.map_cons, List.map_nil]); first | done | (simp only [hji4]; rfl) | rfl | (simp only [List.length_drop, List.length_take]; rfl)) ?_; (with_reducible refine (macadamref00_All.calls k (wrap64 ((ji4) - 1)) (l0_5.length : Int) t514 _ A5.out).mono ?_); rintro e w10 ⟨v515, rfl, ho0, hb⟩; refine ⟨_, rfl, ?_⟩; have n0_ := Aside0.mk (Kd.R_lower ho0 (below_size (by repeat (first | (with_reducible first | exact HB.out | apply below_alloc | apply pw_below_drewN | apply below_drew1 | refine below_set ?_ GE512.out) | exact HB.out)))); have n1_ := Aside0.mk (blk_below (g := gb512) (o := .cells #[.slice A0_0 l0_0.length c0_0, .int .i64 a0_1, .int .i64 a0_2, .int .i64 a0_3, .int .i64 a0_4, .slice A0_5 l0_5.length c0_5, .int .i64 a0_6] 26 (0, 0)) (by (with_reducible repeat (first | refine blk_drewN ?_ _ | refine blk_drew ?_ | refine blk_alloc ?_ _)); exact BK512.out) hb); have n2_ := Aside0.mk (below_step (by repeat (first | (with_reducible first | exact HB.out | apply below_alloc | apply pw_below_drewN | apply below_drew1 | refine below_set ?_ GE512.out) | exact HB.out)) hb); clear BK512; clear HB; have HO516 := n0_; have BK512 := n1_; have HB := n2_; clear n0_ n1_ n2_; (try clear hb); (try clear hb2); (try clear hk); (try clear hi); (try clear ho0)))
  go_loopg [6, 7] k (fun kq v6 v7 w' => ∃ (x6_1 : List Int) (x7_1 : Int), v7 = .int .i64 x7_1 ∧ Aside0 (macadamref06_Wrong.l0 kq (l0_5.length : Int) x6_1 x7_1 l0_0 a0_1 a0_2 a0_3 a0_4 l0_5 a0_6 = some (r1, r2)) ∧ Aside0 (kq ≤ k) ∧ Aside0 (Kd.R (Kd.int .i64) 3 w' w.heap.size (fun _ => True) v6 x6_1) ∧ Aside0 (w'.heap[gb512]? = some (.cells #[(.slice A0_0 l0_0.length c0_0), .int .i64 a0_1, .int .i64 a0_2, .int .i64 a0_3, .int .i64 a0_4, (.slice A0_5 l0_5.length c0_5), .int .i64 a0_6] 26 (0, 0))) ∧ Aside0 (Below w.heap.size w w'))
  case atStart => exact ⟨(t514), (0), (by first | rfl | (simp; done) | (simp [*]; done)), H', ⟨Nat.le_refl _⟩, ⟨by (with_reducible repeat (first | apply Kd.R_alloc | apply Kd.R_drewN | apply Kd.R_drew)); exact HO516.out⟩, ⟨by (with_reducible repeat (first | refine blk_drewN ?_ _ | refine blk_drew ?_ | refine blk_alloc ?_ _)); exact BK512.out⟩, ⟨by repeat (first | (with_reducible first | exact HB.out | apply below_alloc | apply pw_below_drewN | apply below_drew1 | refine below_set ?_ GE512.out) | exact HB.out)⟩⟩
  case round =>
   clear H'
   try clear c1
   try clear p2
   try clear c3
   try clear c3b0
   try clear c3b1
   try clear c5
   try clear p6
   try clear hcz7_0
   try clear hcz7_1
   try clear hcz7_2
   try clear hcz7_3
   try clear hcz7_4
   try clear hcz7_5
   try clear hcz7_6
   try clear hcz9_0
   try clear hcz9_1
   try clear hcz9_2
   try clear hcz9_3
   try clear hcz9_4
   try clear hcz9_5
   try clear hcz9_6
   try clear hfz7_0
   try clear hfz7_1
   try clear hfz7_2
   try clear hfz7_3
   try clear hfz7_4
   try clear hfz7_5
   try clear hfz7_6
   try clear hfz9_0
   try clear hfz9_1
   try clear hfz9_2
   try clear hfz9_3
   try clear hfz9_4
   try clear hfz9_5
   try clear hfz9_6
   obtain ⟨x6_1, x7_1, rfl, HA, HK1, HO_6, BK512, HB⟩ := hrel
   cases gk with
   | zero => exact absurd HA.out (by simp [macadamref06_Wrong.l0])
   | succ k1 =>
    have H := HA.out
    clear HA
    simp only [macadamref06_Wrong.l0] at H
    by_cases c11 : 0 ≤ (l0_5.length : Int)
    ·rw [if_pos c11] at H
     have c11b0 := eq_true c11
     have c11b1 : decide (0 ≤ (l0_5.length : Int)) = true := decide_eq_true c11
     clear c11
     replace H : (if x7_1 < (ji4) then ((macadamref00_All.f k1 x7_1 (l0_5.length : Int)).bind fun t517 => ((macadamref00_Fewer.f k1 t517 x6_1).bind fun t520 => (if t520 = true then ((macadamref06_Without.f k1 l0_0 a0_1 a0_2 a0_3 a0_4 l0_5 a0_6 x7_1).bind fun bt521 => ((macadamref06_truths.f k1 bt521.1 bt521.2.1 bt521.2.2.1 bt521.2.2.2.1 bt521.2.2.2.2.1 bt521.2.2.2.2.2.1 bt521.2.2.2.2.2.2).bind fun t532 => (if (t532.length : Int) > 0 then (macadamref06_Wrong.l0 k1 (l0_5.length : Int) t517 (wrap64 (x7_1 + 1)) l0_0 a0_1 a0_2 a0_3 a0_4 l0_5 a0_6) else (macadamref06_Wrong.l0 k1 (l0_5.length : Int) x6_1 (wrap64 (x7_1 + 1)) l0_0 a0_1 a0_2 a0_3 a0_4 l0_5 a0_6)))) else (macadamref06_Wrong.l0 k1 (l0_5.length : Int) x6_1 (wrap64 (x7_1 + 1)) l0_0 a0_1 a0_2 a0_3 a0_4 l0_5 a0_6)))) else (some (x6_1, 0))) = some (r1, r2) := by first | (rw [hji4] at H; exact H) | (simp only [hji4] at H ⊢; exact H)
     have hji4_ : (IntKind.i64.wrap (1 * 2 ^ min (l0_5.length : Int).toNat 64)) = ji4 := hji4
     have hji4z : (l0_5.length : Int) ≤ 64 → (IntKind.i64.wrap (1 * 2 ^ (l0_5.length : Int).toNat)) = ji4 := shl_small hji4
     have hji4p : (IntKind.i64.wrap (1 * 2 ^ min l0_5.length 64)) = ji4 := hji4_
     have hji4q : (l0_5.length : Int) ≤ 64 → (IntKind.i64.wrap (1 * 2 ^ l0_5.length)) = ji4 := hji4z
     have hji4r : (IntKind.i64.wrap (2 ^ min l0_5.length 64)) = ji4 := by have h_ := hji4p; rw [Int.one_mul] at h_; exact h_
     have hji4s : (l0_5.length : Int) ≤ 64 → (IntKind.i64.wrap (2 ^ l0_5.length)) = ji4 := fun hle_ => by have h_ := hji4q hle_; rw [Int.one_mul] at h_; exact h_
     have hji4u : (IntKind.i64.wrap (2 ^ min (l0_5.length : Int).toNat 64)) = ji4 := by have h_ := hji4_; rw [Int.one_mul] at h_; exact h_
     have hji4v : (l0_5.length : Int) ≤ 64 → (IntKind.i64.wrap (2 ^ (l0_5.length : Int).toNat)) = ji4 := fun hle_ => by have h_ := hji4z hle_; rw [Int.one_mul] at h_; exact h_
     have hji4y : (wrap64 (1 * 2 ^ min (l0_5.length : Int).toNat 64)) = ji4 := (i64_w _).symm.trans hji4_
     have hji4x : (l0_5.length : Int) ≤ 64 → (wrap64 (1 * 2 ^ (l0_5.length : Int).toNat)) = ji4 := fun h_ => (i64_w _).symm.trans (hji4z h_)
     by_cases c12 : x7_1 < (ji4)
     ·rw [if_pos c12] at H
      have c12b0 : decide (x7_1 < (ji4)) = true := decide_eq_true c12
      clear c12
      replace H := Option.bind_eq_some_iff.mp H
      obtain ⟨t517, A130, H⟩ := H
      replace H : ((macadamref00_Fewer.f k1 t517 x6_1).bind fun t520 => (if t520 = true then ((macadamref06_Without.f k1 l0_0 a0_1 a0_2 a0_3 a0_4 l0_5 a0_6 x7_1).bind fun bt521 => ((macadamref06_truths.f k1 bt521.1 bt521.2.1 bt521.2.2.1 bt521.2.2.2.1 bt521.2.2.2.2.1 bt521.2.2.2.2.2.1 bt521.2.2.2.2.2.2).bind fun t532 => (if (t532.length : Int) > 0 then (macadamref06_Wrong.l0 k1 (l0_5.length : Int) t517 (wrap64 (x7_1 + 1)) l0_0 a0_1 a0_2 a0_3 a0_4 l0_5 a0_6) else (macadamref06_Wrong.l0 k1 (l0_5.length : Int) x6_1 (wrap64 (x7_1 + 1)) l0_0 a0_1 a0_2 a0_3 a0_4 l0_5 a0_6)))) else (macadamref06_Wrong.l0 k1 (l0_5.length : Int) x6_1 (wrap64 (x7_1 + 1)) l0_0 a0_1 a0_2 a0_3 a0_4 l0_5 a0_6))) = some (r1, r2) := H
      have A13 := Aside0.mk A130
      clear A130
      replace H := Option.bind_eq_some_iff.mp H
      obtain ⟨t520, A140, H⟩ := H
      replace H : (if t520 = true then ((macadamref06_Without.f k1 l0_0 a0_1 a0_2 a0_3 a0_4 l0_5 a0_6 x7_1).bind fun bt521 => ((macadamref06_truths.f k1 bt521.1 bt521.2.1 bt521.2.2.1 bt521.2.2.2.1 bt521.2.2.2.2.1 bt521.2.2.2.2.2.1 bt521.2.2.2.2.2.2).bind fun t532 => (if (t532.length : Int) > 0 then (macadamref06_Wrong.l0 k1 (l0_5.length : Int) t517 (wrap64 (x7_1 + 1)) l0_0 a0_1 a0_2 a0_3 a0_4 l0_5 a0_6) else (macadamref06_Wrong.l0 k1 (l0_5.length : Int) x6_1 (wrap64 (x7_1 + 1)) l0_0 a0_1 a0_2 a0_3 a0_4 l0_5 a0_6)))) else (macadamref06_Wrong.l0 k1 (l0_5.length : Int) x6_1 (wrap64 (x7_1 + 1)) l0_0 a0_1 a0_2 a0_3 a0_4 l0_5 a0_6)) = some (r1, r2) := H
      have A14 := Aside0.mk A140
      clear A140
      by_cases c15 : t520 = true
      ·subst c15
       have H1 : ((macadamref06_Without.f k1 l0_0 a0_1 a0_2 a0_3 a0_4 l0_5 a0_6 x7_1).bind fun bt521 => ((macadamref06_truths.f k1 bt521.1 bt521.2.1 bt521.2.2.1 bt521.2.2.2.1 bt521.2.2.2.2.1 bt521.2.2.2.2.2.1 bt521.2.2.2.2.2.2).bind fun t532 => (if (t532.length : Int) > 0 then (macadamref06_Wrong.l0 k1 (l0_5.length : Int) t517 (wrap64 (x7_1 + 1)) l0_0 a0_1 a0_2 a0_3 a0_4 l0_5 a0_6) else (macadamref06_Wrong.l0 k1 (l0_5.length : Int) x6_1 (wrap64 (x7_1 + 1)) l0_0 a0_1 a0_2 a0_3 a0_4 l0_5 a0_6)))) = some (r1, r2) := by rw [if_pos rfl] at H; exact H
       clear H
       have H := H1
       clear H1
       replace H := Option.bind_eq_some_iff.mp H
       obtain ⟨⟨t521, t524, t525, t526, t527, t528, t531⟩, A160, H⟩ := H
       replace H : ((macadamref06_truths.f k1 t521 t524 t525 t526 t527 t528 t531).bind fun t532 => (if (t532.length : Int) > 0 then (macadamref06_Wrong.l0 k1 (l0_5.length : Int) t517 (wrap64 (x7_1 + 1)) l0_0 a0_1 a0_2 a0_3 a0_4 l0_5 a0_6) else (macadamref06_Wrong.l0 k1 (l0_5.length : Int) x6_1 (wrap64 (x7_1 + 1)) l0_0 a0_1 a0_2 a0_3 a0_4 l0_5 a0_6))) = some (r1, r2) := H
       have A16 := Aside0.mk A160
       clear A160
       replace H := Option.bind_eq_some_iff.mp H
       obtain ⟨t532, A170, H⟩ := H
       replace H : (if (t532.length : Int) > 0 then (macadamref06_Wrong.l0 k1 (l0_5.length : Int) t517 (wrap64 (x7_1 + 1)) l0_0 a0_1 a0_2 a0_3 a0_4 l0_5 a0_6) else (macadamref06_Wrong.l0 k1 (l0_5.length : Int) x6_1 (wrap64 (x7_1 + 1)) l0_0 a0_1 a0_2 a0_3 a0_4 l0_5 a0_6)) = some (r1, r2) := H
       have A17 := Aside0.mk A170
       clear A170
       by_cases c18 : (t532.length : Int) > 0
       ·rw [if_pos c18] at H
        have c18b0 : decide (0 < (t532.length : Int)) = true := decide_eq_true c18
        have c18b1 : decide (0 < t532.length) = true := decide_eq_true (by omega)
        clear c18
        have H' := Aside0.mk H
        clear H
        go_wp2_with (first | ((with_reducible refine gate_callee (f := 56) rfl ?_); refine goesL_ (some 30) rfl rfl Tryd.func56 (by kernel_rfl) rfl #[.int .i64 x7_1, .int .i64 (l0_5.length : Int)] rfl (by (try simp only [List.map_toArray, List.map_cons, List.map_nil]); first | done | rfl | (simp only [List.length_drop, List.length_take]; rfl)) ?_; (with_reducible refine (macadamref00_All.calls k1 x7_1 (l0_5.length : Int) t517 _ A13.out).mono ?_); rintro e w19 ⟨v518, rfl, ho0, hb⟩; refine ⟨_, rfl, ?_⟩; have n0_ := Aside0.mk (Kd.R_elder' (by (with_reducible repeat (first | apply Kd.R_alloc | apply Kd.R_drewN | apply Kd.R_drew)); exact HO_6.out) (Kd.R_base ho0) hb); have n1_ := Aside0.mk (Kd.R_lower (Kd.R_new' ho0 (Kd.R_lt (by (with_reducible repeat (first | apply Kd.R_alloc | apply Kd.R_drewN | apply Kd.R_drew)); exact HO_6.out))) (below_size (by repeat (first | (with_reducible first | exact HB.out | apply below_alloc | apply pw_below_drewN | apply below_drew1 | refine below_set ?_ GE512.out) | exact HB.out)))); have n2_ := Aside0.mk (blk_below (g := gb512) (o := .cells #[.slice A0_0 l0_0.length c0_0, .int .i64 a0_1, .int .i64 a0_2, .int .i64 a0_3, .int .i64 a0_4, .slice A0_5 l0_5.length c0_5, .int .i64 a0_6] 26 (0, 0)) (by (with_reducible repeat (first | refine blk_drewN ?_ _ | refine blk_drew ?_ | refine blk_alloc ?_ _)); exact BK512.out) hb); have n3_ := Aside0.mk (below_step (by repeat (first | (with_reducible first | exact HB.out | apply below_alloc | apply pw_below_drewN | apply below_drew1 | refine below_set ?_ GE512.out) | exact HB.out)) hb); clear HO_6; clear BK512; clear HB; have HO_6 := n0_; have HO519 := n1_; have BK512 := n2_; have HB := n3_; clear n0_ n1_ n2_ n3_; (try clear hb); (try clear hb2); (try clear hk); (try clear hi); (try clear ho0); obtain ⟨Ao20, co20, eo20⟩ := Kd.R_slice HO519.out; subst eo20; obtain ⟨Ao21, co21, eo21⟩ := Kd.R_slice HO_6.out; subst eo21) | ((with_reducible refine gate_callee (f := 58) rfl ?_); refine goesL_ (some 33) rfl rfl Tryd.func58 (by kernel_rfl) rfl #[.slice Ao20 t517.length co20, .slice Ao21 x6_1.length co21] rfl (by (try simp only [List.map_toArray, List.map_cons, List.map_nil]); first | done | rfl | (simp only [List.length_drop, List.length_take]; rfl)) ?_; (with_reducible refine (macadamref00_Fewer.calls k1 _ _ t517 _ _ x6_1 true _ ?side1 ?side2 ?side3 ?side4 A14.out).mono ?_); (case side1 => repeat (first | exact (Kd.R_reads' HO519.out).2.2 | (with_reducible refine Kd.C_alloc ?_ _) | (with_reducible refine Kd.C_drewN ?_ _) | (with_reducible refine Kd.C_drew ?_))); (case side2 => exact (Kd.R_reads' HO519.out).2.1); (case side3 => repeat (first | exact (Kd.R_reads' HO_6.out).2.2 | (with_reducible refine Kd.C_alloc ?_ _) | (with_reducible refine Kd.C_drewN ?_ _) | (with_reducible refine Kd.C_drew ?_))); (case side4 => exact (Kd.R_reads' HO_6.out).2.1); rintro e w' ⟨rfl, ⟨nd, rfl⟩⟩; refine ⟨_, rfl, ?_⟩; have hcz22_0 : w19.cell? ⟨gb512, 0, none⟩ = some (.slice A0_0 l0_0.length c0_0) := (blk_cell BK512.out 0).trans rfl; have hcz22_1 : w19.cell? ⟨gb512, 1, none⟩ = some (.int .i64 a0_1) := (blk_cell BK512.out 1).trans rfl; have hcz22_2 : w19.cell? ⟨gb512, 2, none⟩ = some (.int .i64 a0_2) := (blk_cell BK512.out 2).trans rfl; have hcz22_3 : w19.cell? ⟨gb512, 3, none⟩ = some (.int .i64 a0_3) := (blk_cell BK512.out 3).trans rfl; have hcz22_4 : w19.cell? ⟨gb512, 4, none⟩ = some (.int .i64 a0_4) := (blk_cell BK512.out 4).trans rfl; have hcz22_5 : w19.cell? ⟨gb512, 5, none⟩ = some (.slice A0_5 l0_5.length c0_5) := (blk_cell BK512.out 5).trans rfl; have hcz22_6 : w19.cell? ⟨gb512, 6, none⟩ = some (.int .i64 a0_6) := (blk_cell BK512.out 6).trans rfl; have hfz22_0 := blk_frozen BK512.out 0; have hfz22_1 := blk_frozen BK512.out 1; have hfz22_2 := blk_frozen BK512.out 2; have hfz22_3 := blk_frozen BK512.out 3; have hfz22_4 := blk_frozen BK512.out 4; have hfz22_5 := blk_frozen BK512.out 5; have hfz22_6 := blk_frozen BK512.out 6) | (go_at_call 88; (with_reducible refine (macadamref06_Without.calls k1 (fun k_ => k_ < w.heap.size) _ _ l0_0 a0_1 a0_2 a0_3 a0_4 _ _ l0_5 a0_6 x7_1 t521 t524 t525 t526 t527 t528 t531 _ ?side1 ?side2 ?side3 A16.out).mono ?_); (case side1 => exact Kd.V_mk HC0_0.out (Kd.F_below (Kd.C_F k56_heap HR0_0.out) (by repeat (first | (with_reducible first | exact HB.out | apply below_alloc | apply pw_below_drewN | apply below_drew1 | refine below_set ?_ GE512.out) | exact HB.out)))); (case side2 => repeat (first | exact (Kd.C_below HR0_5.out (by repeat (first | (with_reducible first | exact HB.out | apply below_alloc | apply pw_below_drewN | apply below_drew1 | refine below_set ?_ GE512.out) | exact HB.out))) | (with_reducible refine Kd.C_alloc ?_ _) | (with_reducible refine Kd.C_drewN ?_ _) | (with_reducible refine Kd.C_drew ?_))); (case side3 => exact HC0_5.out); rintro e w23 ⟨v522, v529, rfl, ho0, ho1, hb⟩; have n0_ := Aside0.mk (Kd.R_below (by (with_reducible repeat (first | apply Kd.R_alloc | apply Kd.R_drewN | apply Kd.R_drew)); exact HO_6.out) hb); have n1_ := Aside0.mk (Kd.R_below (by (with_reducible repeat (first | apply Kd.R_alloc | apply Kd.R_drewN | apply Kd.R_drew)); exact HO519.out) hb); have n2_ := Aside0.mk (Kd.V_lower (Kd.V_mono (ok' := fun k_ => some k_ ≠ (v529 : Value).ownBlock ∧ some k_ ≠ (.slice Ao21 x6_1.length co21 : Value).ownBlock ∧ some k_ ≠ (.slice Ao20 t517.length co20 : Value).ownBlock ∧ k_ ≠ gb512) ho0 (fun k_ hk_ => ⟨hk_.2, Or.elim hk_.1 (fun hs_ => fun e_ => Nat.not_le.2 hs_ (Kd.R_base HO_6.out k_ e_.symm)) (fun hn_ => (Kd.fresh' (Kd.R_lt (by (with_reducible repeat (first | apply Kd.R_alloc | apply Kd.R_drewN | apply Kd.R_drew)); exact HO_6.out)) k_ hn_)), Or.elim hk_.1 (fun hs_ => fun e_ => Nat.not_le.2 hs_ (Kd.R_base HO519.out k_ e_.symm)) (fun hn_ => (Kd.fresh' (Kd.R_lt (by (with_reducible repeat (first | apply Kd.R_alloc | apply Kd.R_drewN | apply Kd.R_drew)); exact HO519.out)) k_ hn_)), Or.elim hk_.1 (fun hs_ => fun e_ => Nat.not_le.2 hs_ (by rw [e_]; exact GW512.out)) (fun hn_ => (Kd.freshB (g := gb512) (o := .cells #[.slice A0_0 l0_0.length c0_0, .int .i64 a0_1, .int .i64 a0_2, .int .i64 a0_3, .int .i64 a0_4, .slice A0_5 l0_5.length c0_5, .int .i64 a0_6] 26 (0, 0)) (by (with_reducible repeat (first | refine blk_drewN ?_ _ | refine blk_drew ?_ | refine blk_alloc ?_ _)); exact BK512.out) k_ hn_))⟩)) (below_size (by repeat (first | (with_reducible first | exact HB.out | apply below_alloc | apply pw_below_drewN | apply below_drew1 | refine below_set ?_ GE512.out) | exact HB.out)))); have n3_ := Aside0.mk (Kd.R_lower (Kd.R_mono (ok' := fun k_ => True) ho1 (fun _ hk_ => trivial)) (below_size (by repeat (first | (with_reducible first | exact HB.out | apply below_alloc | apply pw_below_drewN | apply below_drew1 | refine below_set ?_ GE512.out) | exact HB.out)))); have n4_ := Aside0.mk (blk_below (g := gb512) (o := .cells #[.slice A0_0 l0_0.length c0_0, .int .i64 a0_1, .int .i64 a0_2, .int .i64 a0_3, .int .i64 a0_4, .slice A0_5 l0_5.length c0_5, .int .i64 a0_6] 26 (0, 0)) (by (with_reducible repeat (first | refine blk_drewN ?_ _ | refine blk_drew ?_ | refine blk_alloc ?_ _)); exact BK512.out) hb); have n5_ := Aside0.mk (below_step (by repeat (first | (with_reducible first | exact HB.out | apply below_alloc | apply pw_below_drewN | apply below_drew1 | refine below_set ?_ GE512.out) | exact HB.out)) hb); clear HO_6; clear HO519; clear BK512; clear HB; have HO_6 := n0_; have HO519 := n1_; have HO523 := n2_; have HO530 := n3_; have BK512 := n4_; have HB := n5_; clear n0_ n1_ n2_ n3_ n4_ n5_; (try clear hb); (try clear hb2); (try clear hk); (try clear hi); (try clear ho0); (try clear ho1); obtain ⟨Ao24, co24, eo24⟩ := Kd.V_slice HO523.out; subst eo24; obtain ⟨Ao25, co25, eo25⟩ := Kd.R_slice HO530.out; subst eo25) | (go_at_call 65; (with_reducible refine (macadamref06_truths.calls k1 _ _ t521 t524 t525 t526 t527 _ _ t528 t531 t532 _ ?side1 ?side2 ?side3 ?side4 A17.out).mono ?_); (case side1 => repeat (first | exact (Kd.V_reads' HO523.out).2.2 | (with_reducible refine Kd.C_alloc ?_ _) | (with_reducible refine Kd.C_drewN ?_ _) | (with_reducible refine Kd.C_drew ?_))); (case side2 => exact (Kd.V_reads' HO523.out).2.1); (case side3 => repeat (first | exact (Kd.R_reads' HO530.out).2.2 | (with_reducible refine Kd.C_alloc ?_ _) | (with_reducible refine Kd.C_drewN ?_ _) | (with_reducible refine Kd.C_drew ?_))); (case side4 => exact (Kd.R_reads' HO530.out).2.1); rintro e w26 ⟨v533, rfl, ho0, hb⟩; have n0_ := Aside0.mk (Kd.R_below (by (with_reducible repeat (first | apply Kd.R_alloc | apply Kd.R_drewN | apply Kd.R_drew)); exact HO_6.out) hb); have n1_ := Aside0.mk (Kd.R_below (by (with_reducible repeat (first | apply Kd.R_alloc | apply Kd.R_drewN | apply Kd.R_drew)); exact HO519.out) hb); have n2_ := Aside0.mk (Kd.V_elder' (by (with_reducible repeat (first | apply Kd.V_alloc | apply Kd.V_drewN | apply Kd.V_drew)); exact HO523.out) (Kd.N_base ho0) hb); have n3_ := Aside0.mk (Kd.R_below (by (with_reducible repeat (first | apply Kd.R_alloc | apply Kd.R_drewN | apply Kd.R_drew)); exact HO530.out) hb); have n4_ := Aside0.mk (Kd.N_lower (Kd.N_mono (ok' := fun k_ => some k_ ≠ (.slice Ao21 x6_1.length co21 : Value).ownBlock ∧ some k_ ≠ (.slice Ao20 t517.length co20 : Value).ownBlock ∧ some k_ ≠ (.slice Ao25 t528.length co25 : Value).ownBlock ∧ k_ ≠ gb512) ho0 (fun k_ hk_ => ⟨(Kd.fresh' (Kd.R_lt (by (with_reducible repeat (first | apply Kd.R_alloc | apply Kd.R_drewN | apply Kd.R_drew)); exact HO_6.out)) k_ hk_), (Kd.fresh' (Kd.R_lt (by (with_reducible repeat (first | apply Kd.R_alloc | apply Kd.R_drewN | apply Kd.R_drew)); exact HO519.out)) k_ hk_), (Kd.fresh' (Kd.R_lt (by (with_reducible repeat (first | apply Kd.R_alloc | apply Kd.R_drewN | apply Kd.R_drew)); exact HO530.out)) k_ hk_), (Kd.freshB (g := gb512) (o := .cells #[.slice A0_0 l0_0.length c0_0, .int .i64 a0_1, .int .i64 a0_2, .int .i64 a0_3, .int .i64 a0_4, .slice A0_5 l0_5.length c0_5, .int .i64 a0_6] 26 (0, 0)) (by (with_reducible repeat (first | refine blk_drewN ?_ _ | refine blk_drew ?_ | refine blk_alloc ?_ _)); exact BK512.out) k_ hk_)⟩)) (below_size (by repeat (first | (with_reducible first | exact HB.out | apply below_alloc | apply pw_below_drewN | apply below_drew1 | refine below_set ?_ GE512.out) | exact HB.out)))); have n5_ := Aside0.mk (blk_below (g := gb512) (o := .cells #[.slice A0_0 l0_0.length c0_0, .int .i64 a0_1, .int .i64 a0_2, .int .i64 a0_3, .int .i64 a0_4, .slice A0_5 l0_5.length c0_5, .int .i64 a0_6] 26 (0, 0)) (by (with_reducible repeat (first | refine blk_drewN ?_ _ | refine blk_drew ?_ | refine blk_alloc ?_ _)); exact BK512.out) hb); have n6_ := Aside0.mk (below_step (by repeat (first | (with_reducible first | exact HB.out | apply below_alloc | apply pw_below_drewN | apply below_drew1 | refine below_set ?_ GE512.out) | exact HB.out)) hb); clear HO_6; clear HO519; clear HO523; clear HO530; clear BK512; clear HB; have HO_6 := n0_; have HO519 := n1_; have HO523 := n2_; have HO530 := n3_; have HO534 := n4_; have BK512 := n5_; have HB := n6_; clear n0_ n1_ n2_ n3_ n4_ n5_ n6_; (try clear hb); (try clear hb2); (try clear hk); (try clear hi); (try clear ho0); obtain ⟨Ao27, co27, eo27⟩ := Kd.N_slice HO534.out; subst eo27))
        go_roundg k1
        case measure => have := HK1.out; omega
        case rel => exact ⟨(t517), (wrap64 (x7_1 + 1)), (by first | rfl | (simp; done) | (simp [*]; done)), H', ⟨by have := HK1.out; omega⟩, ⟨by (with_reducible repeat (first | apply Kd.R_alloc | apply Kd.R_drewN | apply Kd.R_drew)); exact Kd.R_mono HO519.out (fun _ hk => trivial)⟩, ⟨by (with_reducible repeat (first | refine blk_drewN ?_ _ | refine blk_drew ?_ | refine blk_alloc ?_ _)); exact BK512.out⟩, ⟨by repeat (first | (with_reducible first | exact HB.out | apply below_alloc | apply pw_below_drewN | apply below_drew1 | refine below_set ?_ GE512.out) | exact HB.out)⟩⟩
       ·rw [if_neg c18] at H
        have c18b0 : decide (0 < (t532.length : Int)) = false := decide_eq_false c18
        have c18b1 : decide (0 < t532.length) = false := decide_eq_false (by omega)
        clear c18
        have H' := Aside0.mk H
        clear H
        go_wp2_with (first | ((with_reducible refine gate_callee (f := 56) rfl ?_); refine goesL_ (some 30) rfl rfl Tryd.func56 (by kernel_rfl) rfl #[.int .i64 x7_1, .int .i64 (l0_5.length : Int)] rfl (by (try simp only [List.map_toArray, List.map_cons, List.map_nil]); first | done | rfl | (simp only [List.length_drop, List.length_take]; rfl)) ?_; (with_reducible refine (macadamref00_All.calls k1 x7_1 (l0_5.length : Int) t517 _ A13.out).mono ?_); rintro e w28 ⟨v518, rfl, ho0, hb⟩; refine ⟨_, rfl, ?_⟩; have n0_ := Aside0.mk (Kd.R_elder' (by (with_reducible repeat (first | apply Kd.R_alloc | apply Kd.R_drewN | apply Kd.R_drew)); exact HO_6.out) (Kd.R_base ho0) hb); have n1_ := Aside0.mk (Kd.R_lower (Kd.R_new' ho0 (Kd.R_lt (by (with_reducible repeat (first | apply Kd.R_alloc | apply Kd.R_drewN | apply Kd.R_drew)); exact HO_6.out))) (below_size (by repeat (first | (with_reducible first | exact HB.out | apply below_alloc | apply pw_below_drewN | apply below_drew1 | refine below_set ?_ GE512.out) | exact HB.out)))); have n2_ := Aside0.mk (blk_below (g := gb512) (o := .cells #[.slice A0_0 l0_0.length c0_0, .int .i64 a0_1, .int .i64 a0_2, .int .i64 a0_3, .int .i64 a0_4, .slice A0_5 l0_5.length c0_5, .int .i64 a0_6] 26 (0, 0)) (by (with_reducible repeat (first | refine blk_drewN ?_ _ | refine blk_drew ?_ | refine blk_alloc ?_ _)); exact BK512.out) hb); have n3_ := Aside0.mk (below_step (by repeat (first | (with_reducible first | exact HB.out | apply below_alloc | apply pw_below_drewN | apply below_drew1 | refine below_set ?_ GE512.out) | exact HB.out)) hb); clear HO_6; clear BK512; clear HB; have HO_6 := n0_; have HO519 := n1_; have BK512 := n2_; have HB := n3_; clear n0_ n1_ n2_ n3_; (try clear hb); (try clear hb2); (try clear hk); (try clear hi); (try clear ho0); obtain ⟨Ao29, co29, eo29⟩ := Kd.R_slice HO519.out; subst eo29; obtain ⟨Ao30, co30, eo30⟩ := Kd.R_slice HO_6.out; subst eo30) | ((with_reducible refine gate_callee (f := 58) rfl ?_); refine goesL_ (some 33) rfl rfl Tryd.func58 (by kernel_rfl) rfl #[.slice Ao29 t517.length co29, .slice Ao30 x6_1.length co30] rfl (by (try simp only [List.map_toArray, List.map_cons, List.map_nil]); first | done | rfl | (simp only [List.length_drop, List.length_take]; rfl)) ?_; (with_reducible refine (macadamref00_Fewer.calls k1 _ _ t517 _ _ x6_1 true _ ?side1 ?side2 ?side3 ?side4 A14.out).mono ?_); (case side1 => repeat (first | exact (Kd.R_reads' HO519.out).2.2 | (with_reducible refine Kd.C_alloc ?_ _) | (with_reducible refine Kd.C_drewN ?_ _) | (with_reducible refine Kd.C_drew ?_))); (case side2 => exact (Kd.R_reads' HO519.out).2.1); (case side3 => repeat (first | exact (Kd.R_reads' HO_6.out).2.2 | (with_reducible refine Kd.C_alloc ?_ _) | (with_reducible refine Kd.C_drewN ?_ _) | (with_reducible refine Kd.C_drew ?_))); (case side4 => exact (Kd.R_reads' HO_6.out).2.1); rintro e w' ⟨rfl, ⟨nd, rfl⟩⟩; refine ⟨_, rfl, ?_⟩; have hcz31_0 : w28.cell? ⟨gb512, 0, none⟩ = some (.slice A0_0 l0_0.length c0_0) := (blk_cell BK512.out 0).trans rfl; have hcz31_1 : w28.cell? ⟨gb512, 1, none⟩ = some (.int .i64 a0_1) := (blk_cell BK512.out 1).trans rfl; have hcz31_2 : w28.cell? ⟨gb512, 2, none⟩ = some (.int .i64 a0_2) := (blk_cell BK512.out 2).trans rfl; have hcz31_3 : w28.cell? ⟨gb512, 3, none⟩ = some (.int .i64 a0_3) := (blk_cell BK512.out 3).trans rfl; have hcz31_4 : w28.cell? ⟨gb512, 4, none⟩ = some (.int .i64 a0_4) := (blk_cell BK512.out 4).trans rfl; have hcz31_5 : w28.cell? ⟨gb512, 5, none⟩ = some (.slice A0_5 l0_5.length c0_5) := (blk_cell BK512.out 5).trans rfl; have hcz31_6 : w28.cell? ⟨gb512, 6, none⟩ = some (.int .i64 a0_6) := (blk_cell BK512.out 6).trans rfl; have hfz31_0 := blk_frozen BK512.out 0; have hfz31_1 := blk_frozen BK512.out 1; have hfz31_2 := blk_frozen BK512.out 2; have hfz31_3 := blk_frozen BK512.out 3; have hfz31_4 := blk_frozen BK512.out 4; have hfz31_5 := blk_frozen BK512.out 5; have hfz31_6 := blk_frozen BK512.out 6) | (go_at_call 88; (with_reducible refine (macadamref06_Without.calls k1 (fun k_ => k_ < w.heap.size) _ _ l0_0 a0_1 a0_2 a0_3 a0_4 _ _ l0_5 a0_6 x7_1 t521 t524 t525 t526 t527 t528 t531 _ ?side1 ?side2 ?side3 A16.out).mono ?_); (case side1 => exact Kd.V_mk HC0_0.out (Kd.F_below (Kd.C_F k56_heap HR0_0.out) (by repeat (first | (with_reducible first | exact HB.out | apply below_alloc | apply pw_below_drewN | apply below_drew1 | refine below_set ?_ GE512.out) | exact HB.out)))); (case side2 => repeat (first | exact (Kd.C_below HR0_5.out (by repeat (first | (with_reducible first | exact HB.out | apply below_alloc | apply pw_below_drewN | apply below_drew1 | refine below_set ?_ GE512.out) | exact HB.out))) | (with_reducible refine Kd.C_alloc ?_ _) | (with_reducible refine Kd.C_drewN ?_ _) | (with_reducible refine Kd.C_drew ?_))); (case side3 => exact HC0_5.out); rintro e w32 ⟨v522, v529, rfl, ho0, ho1, hb⟩; have n0_ := Aside0.mk (Kd.R_below (by (with_reducible repeat (first | apply Kd.R_alloc | apply Kd.R_drewN | apply Kd.R_drew)); exact HO_6.out) hb); have n1_ := Aside0.mk (Kd.R_below (by (with_reducible repeat (first | apply Kd.R_alloc | apply Kd.R_drewN | apply Kd.R_drew)); exact HO519.out) hb); have n2_ := Aside0.mk (Kd.V_lower (Kd.V_mono (ok' := fun k_ => some k_ ≠ (v529 : Value).ownBlock ∧ some k_ ≠ (.slice Ao30 x6_1.length co30 : Value).ownBlock ∧ some k_ ≠ (.slice Ao29 t517.length co29 : Value).ownBlock ∧ k_ ≠ gb512) ho0 (fun k_ hk_ => ⟨hk_.2, Or.elim hk_.1 (fun hs_ => fun e_ => Nat.not_le.2 hs_ (Kd.R_base HO_6.out k_ e_.symm)) (fun hn_ => (Kd.fresh' (Kd.R_lt (by (with_reducible repeat (first | apply Kd.R_alloc | apply Kd.R_drewN | apply Kd.R_drew)); exact HO_6.out)) k_ hn_)), Or.elim hk_.1 (fun hs_ => fun e_ => Nat.not_le.2 hs_ (Kd.R_base HO519.out k_ e_.symm)) (fun hn_ => (Kd.fresh' (Kd.R_lt (by (with_reducible repeat (first | apply Kd.R_alloc | apply Kd.R_drewN | apply Kd.R_drew)); exact HO519.out)) k_ hn_)), Or.elim hk_.1 (fun hs_ => fun e_ => Nat.not_le.2 hs_ (by rw [e_]; exact GW512.out)) (fun hn_ => (Kd.freshB (g := gb512) (o := .cells #[.slice A0_0 l0_0.length c0_0, .int .i64 a0_1, .int .i64 a0_2, .int .i64 a0_3, .int .i64 a0_4, .slice A0_5 l0_5.length c0_5, .int .i64 a0_6] 26 (0, 0)) (by (with_reducible repeat (first | refine blk_drewN ?_ _ | refine blk_drew ?_ | refine blk_alloc ?_ _)); exact BK512.out) k_ hn_))⟩)) (below_size (by repeat (first | (with_reducible first | exact HB.out | apply below_alloc | apply pw_below_drewN | apply below_drew1 | refine below_set ?_ GE512.out) | exact HB.out)))); have n3_ := Aside0.mk (Kd.R_lower (Kd.R_mono (ok' := fun k_ => True) ho1 (fun _ hk_ => trivial)) (below_size (by repeat (first | (with_reducible first | exact HB.out | apply below_alloc | apply pw_below_drewN | apply below_drew1 | refine below_set ?_ GE512.out) | exact HB.out)))); have n4_ := Aside0.mk (blk_below (g := gb512) (o := .cells #[.slice A0_0 l0_0.length c0_0, .int .i64 a0_1, .int .i64 a0_2, .int .i64 a0_3, .int .i64 a0_4, .slice A0_5 l0_5.length c0_5, .int .i64 a0_6] 26 (0, 0)) (by (with_reducible repeat (first | refine blk_drewN ?_ _ | refine blk_drew ?_ | refine blk_alloc ?_ _)); exact BK512.out) hb); have n5_ := Aside0.mk (below_step (by repeat (first | (with_reducible first | exact HB.out | apply below_alloc | apply pw_below_drewN | apply below_drew1 | refine below_set ?_ GE512.out) | exact HB.out)) hb); clear HO_6; clear HO519; clear BK512; clear HB; have HO_6 := n0_; have HO519 := n1_; have HO523 := n2_; have HO530 := n3_; have BK512 := n4_; have HB := n5_; clear n0_ n1_ n2_ n3_ n4_ n5_; (try clear hb); (try clear hb2); (try clear hk); (try clear hi); (try clear ho0); (try clear ho1); obtain ⟨Ao33, co33, eo33⟩ := Kd.V_slice HO523.out; subst eo33; obtain ⟨Ao34, co34, eo34⟩ := Kd.R_slice HO530.out; subst eo34) | (go_at_call 65; (with_reducible refine (macadamref06_truths.calls k1 _ _ t521 t524 t525 t526 t527 _ _ t528 t531 t532 _ ?side1 ?side2 ?side3 ?side4 A17.out).mono ?_); (case side1 => repeat (first | exact (Kd.V_reads' HO523.out).2.2 | (with_reducible refine Kd.C_alloc ?_ _) | (with_reducible refine Kd.C_drewN ?_ _) | (with_reducible refine Kd.C_drew ?_))); (case side2 => exact (Kd.V_reads' HO523.out).2.1); (case side3 => repeat (first | exact (Kd.R_reads' HO530.out).2.2 | (with_reducible refine Kd.C_alloc ?_ _) | (with_reducible refine Kd.C_drewN ?_ _) | (with_reducible refine Kd.C_drew ?_))); (case side4 => exact (Kd.R_reads' HO530.out).2.1); rintro e w35 ⟨v533, rfl, ho0, hb⟩; have n0_ := Aside0.mk (Kd.R_below (by (with_reducible repeat (first | apply Kd.R_alloc | apply Kd.R_drewN | apply Kd.R_drew)); exact HO_6.out) hb); have n1_ := Aside0.mk (Kd.R_below (by (with_reducible repeat (first | apply Kd.R_alloc | apply Kd.R_drewN | apply Kd.R_drew)); exact HO519.out) hb); have n2_ := Aside0.mk (Kd.V_elder' (by (with_reducible repeat (first | apply Kd.V_alloc | apply Kd.V_drewN | apply Kd.V_drew)); exact HO523.out) (Kd.N_base ho0) hb); have n3_ := Aside0.mk (Kd.R_below (by (with_reducible repeat (first | apply Kd.R_alloc | apply Kd.R_drewN | apply Kd.R_drew)); exact HO530.out) hb); have n4_ := Aside0.mk (Kd.N_lower (Kd.N_mono (ok' := fun k_ => some k_ ≠ (.slice Ao30 x6_1.length co30 : Value).ownBlock ∧ some k_ ≠ (.slice Ao29 t517.length co29 : Value).ownBlock ∧ some k_ ≠ (.slice Ao34 t528.length co34 : Value).ownBlock ∧ k_ ≠ gb512) ho0 (fun k_ hk_ => ⟨(Kd.fresh' (Kd.R_lt (by (with_reducible repeat (first | apply Kd.R_alloc | apply Kd.R_drewN | apply Kd.R_drew)); exact HO_6.out)) k_ hk_), (Kd.fresh' (Kd.R_lt (by (with_reducible repeat (first | apply Kd.R_alloc | apply Kd.R_drewN | apply Kd.R_drew)); exact HO519.out)) k_ hk_), (Kd.fresh' (Kd.R_lt (by (with_reducible repeat (first | apply Kd.R_alloc | apply Kd.R_drewN | apply Kd.R_drew)); exact HO530.out)) k_ hk_), (Kd.freshB (g := gb512) (o := .cells #[.slice A0_0 l0_0.length c0_0, .int .i64 a0_1, .int .i64 a0_2, .int .i64 a0_3, .int .i64 a0_4, .slice A0_5 l0_5.length c0_5, .int .i64 a0_6] 26 (0, 0)) (by (with_reducible repeat (first | refine blk_drewN ?_ _ | refine blk_drew ?_ | refine blk_alloc ?_ _)); exact BK512.out) k_ hk_)⟩)) (below_size (by repeat (first | (with_reducible first | exact HB.out | apply below_alloc | apply pw_below_drewN | apply below_drew1 | refine below_set ?_ GE512.out) | exact HB.out)))); have n5_ := Aside0.mk (blk_below (g := gb512) (o := .cells #[.slice A0_0 l0_0.length c0_0, .int .i64 a0_1, .int .i64 a0_2, .int .i64 a0_3, .int .i64 a0_4, .slice A0_5 l0_5.length c0_5, .int .i64 a0_6] 26 (0, 0)) (by (with_reducible repeat (first | refine blk_drewN ?_ _ | refine blk_drew ?_ | refine blk_alloc ?_ _)); exact BK512.out) hb); have n6_ := Aside0.mk (below_step (by repeat (first | (with_reducible first | exact HB.out | apply below_alloc | apply pw_below_drewN | apply below_drew1 | refine below_set ?_ GE512.out) | exact HB.out)) hb); clear HO_6; clear HO519; clear HO523; clear HO530; clear BK512; clear HB; have HO_6 := n0_; have HO519 := n1_; have HO523 := n2_; have HO530 := n3_; have HO534 := n4_; have BK512 := n5_; have HB := n6_; clear n0_ n1_ n2_ n3_ n4_ n5_ n6_; (try clear hb); (try clear hb2); (try clear hk); (try clear hi); (try clear ho0); obtain ⟨Ao36, co36, eo36⟩ := Kd.N_slice HO534.out; subst eo36))
        go_roundg k1
        case measure => have := HK1.out; omega
        case rel => exact ⟨(x6_1), (wrap64 (x7_1 + 1)), (by first | rfl | (simp; done) | (simp [*]; done)), H', ⟨by have := HK1.out; omega⟩, ⟨by (with_reducible repeat (first | apply Kd.R_alloc | apply Kd.R_drewN | apply Kd.R_drew)); exact Kd.R_mono HO_6.out (fun _ hk => trivial)⟩, ⟨by (with_reducible repeat (first | refine blk_drewN ?_ _ | refine blk_drew ?_ | refine blk_alloc ?_ _)); exact BK512.out⟩, ⟨by repeat (first | (with_reducible first | exact HB.out | apply below_alloc | apply pw_below_drewN | apply below_drew1 | refine below_set ?_ GE512.out) | exact HB.out)⟩⟩
      ·replace c15 := Bool.eq_false_iff.mpr c15
       subst c15
       have H1 : (macadamref06_Wrong.l0 k1 (l0_5.length : Int) x6_1 (wrap64 (x7_1 + 1)) l0_0 a0_1 a0_2 a0_3 a0_4 l0_5 a0_6) = some (r1, r2) := by rw [if_neg (show ¬ (false = true) by decide)] at H; exact H
       clear H
       have H := H1
       clear H1
       have H' := Aside0.mk H
       clear H
       go_wp2_with (first | ((with_reducible refine gate_callee (f := 56) rfl ?_); refine goesL_ (some 30) rfl rfl Tryd.func56 (by kernel_rfl) rfl #[.int .i64 x7_1, .int .i64 (l0_5.length : Int)] rfl (by (try simp only [List.map_toArray, List.map_cons, List.map_nil]); first | done | rfl | (simp only [List.length_drop, List.length_take]; rfl)) ?_; (with_reducible refine (macadamref00_All.calls k1 x7_1 (l0_5.length : Int) t517 _ A13.out).mono ?_); rintro e w37 ⟨v518, rfl, ho0, hb⟩; refine ⟨_, rfl, ?_⟩; have n0_ := Aside0.mk (Kd.R_elder' (by (with_reducible repeat (first | apply Kd.R_alloc | apply Kd.R_drewN | apply Kd.R_drew)); exact HO_6.out) (Kd.R_base ho0) hb); have n1_ := Aside0.mk (Kd.R_lower (Kd.R_new' ho0 (Kd.R_lt (by (with_reducible repeat (first | apply Kd.R_alloc | apply Kd.R_drewN | apply Kd.R_drew)); exact HO_6.out))) (below_size (by repeat (first | (with_reducible first | exact HB.out | apply below_alloc | apply pw_below_drewN | apply below_drew1 | refine below_set ?_ GE512.out) | exact HB.out)))); have n2_ := Aside0.mk (blk_below (g := gb512) (o := .cells #[.slice A0_0 l0_0.length c0_0, .int .i64 a0_1, .int .i64 a0_2, .int .i64 a0_3, .int .i64 a0_4, .slice A0_5 l0_5.length c0_5, .int .i64 a0_6] 26 (0, 0)) (by (with_reducible repeat (first | refine blk_drewN ?_ _ | refine blk_drew ?_ | refine blk_alloc ?_ _)); exact BK512.out) hb); have n3_ := Aside0.mk (below_step (by repeat (first | (with_reducible first | exact HB.out | apply below_alloc | apply pw_below_drewN | apply below_drew1 | refine below_set ?_ GE512.out) | exact HB.out)) hb); clear HO_6; clear BK512; clear HB; have HO_6 := n0_; have HO519 := n1_; have BK512 := n2_; have HB := n3_; clear n0_ n1_ n2_ n3_; (try clear hb); (try clear hb2); (try clear hk); (try clear hi); (try clear ho0); obtain ⟨Ao38, co38, eo38⟩ := Kd.R_slice HO519.out; subst eo38; obtain ⟨Ao39, co39, eo39⟩ := Kd.R_slice HO_6.out; subst eo39) | ((with_reducible refine gate_callee (f := 58) rfl ?_); refine goesL_ (some 33) rfl rfl Tryd.func58 (by kernel_rfl) rfl #[.slice Ao38 t517.length co38, .slice Ao39 x6_1.length co39] rfl (by (try simp only [List.map_toArray, List.map_cons, List.map_nil]); first | done | rfl | (simp only [List.length_drop, List.length_take]; rfl)) ?_; (with_reducible refine (macadamref00_Fewer.calls k1 _ _ t517 _ _ x6_1 false _ ?side1 ?side2 ?side3 ?side4 A14.out).mono ?_); (case side1 => repeat (first | exact (Kd.R_reads' HO519.out).2.2 | (with_reducible refine Kd.C_alloc ?_ _) | (with_reducible refine Kd.C_drewN ?_ _) | (with_reducible refine Kd.C_drew ?_))); (case side2 => exact (Kd.R_reads' HO519.out).2.1); (case side3 => repeat (first | exact (Kd.R_reads' HO_6.out).2.2 | (with_reducible refine Kd.C_alloc ?_ _) | (with_reducible refine Kd.C_drewN ?_ _) | (with_reducible refine Kd.C_drew ?_))); (case side4 => exact (Kd.R_reads' HO_6.out).2.1); rintro e w' ⟨rfl, ⟨nd, rfl⟩⟩; refine ⟨_, rfl, ?_⟩))
       go_roundg k1
       case measure => have := HK1.out; omega
       case rel => exact ⟨(x6_1), (wrap64 (x7_1 + 1)), (by first | rfl | (simp; done) | (simp [*]; done)), H', ⟨by have := HK1.out; omega⟩, ⟨by (with_reducible repeat (first | apply Kd.R_alloc | apply Kd.R_drewN | apply Kd.R_drew)); exact Kd.R_mono HO_6.out (fun _ hk => trivial)⟩, ⟨by (with_reducible repeat (first | refine blk_drewN ?_ _ | refine blk_drew ?_ | refine blk_alloc ?_ _)); exact BK512.out⟩, ⟨by repeat (first | (with_reducible first | exact HB.out | apply below_alloc | apply pw_below_drewN | apply below_drew1 | refine below_set ?_ GE512.out) | exact HB.out)⟩⟩
     ·rw [if_neg c12] at H
      have c12b0 : decide (x7_1 < (ji4)) = false := decide_eq_false c12
      clear c12
      simp only [Option.some.injEq, Prod.mk.injEq] at H
      obtain ⟨rfl, rfl⟩ := H
      go_wp2
      go_ret2
      exact ⟨_, by first | rfl | (simp [errW_none, errW_some] <;> rfl) | (simp only [i64_w, i32_w] <;> rfl) | (simp only [← hji4, ← hji4]; first | rfl | (simp [errW_none, errW_some] <;> rfl)) | (simp [*, errW_none, errW_some] <;> rfl), by (with_reducible repeat (first | apply Kd.R_alloc | apply Kd.R_drewN | apply Kd.R_drew)); exact HO_6.out, by repeat (first | (with_reducible first | exact HB.out | apply below_alloc | apply pw_below_drewN | apply below_drew1 | refine below_set ?_ GE512.out) | exact HB.out)⟩
    ·rw [if_neg c11] at H
     exact absurd H (by simp)
 ·rw [if_neg c3] at H
  have c3b0 : (t513 == 0) = false := beq_eq_false_iff_ne.mpr c3
  have c3b1 : (t513 != 0) = true := bne_iff_ne.mpr c3
  simp only [Option.some.injEq, Prod.mk.injEq] at H
  obtain ⟨rfl, rfl⟩ := H
  go_enter Tryd.func39, Tryd.ntmps39
  go_wp2_with (first | ((with_reducible refine gate_dst (N := 1) rfl ?_); (try (refine gate_guard (by rfl) ?_; dsimp only)); refine box_event ?hg (N := 1) ?hd (cs := #[.slice A0_0 l0_0.length c0_0, .int .i64 a0_1, .int .i64 a0_2, .int .i64 a0_3, .int .i64 a0_4, .slice A0_5 l0_5.length c0_5, .int .i64 a0_6]) (t := 26) ?hr ?_; (case hd => rfl); (case hg => rfl); (case hr => first | (go_simp; done) | (go_simp; rfl)); intro gb512 hg w40 hbox hb; have n0_ := Aside0.mk (below_step (by repeat (first | (with_reducible first | exact HB.out | apply below_alloc | apply pw_below_drewN | apply below_drew1) | exact HB.out)) hb); have n1_ := Aside0.mk (hbox); have n2_ := Aside0.mk ((by rw [hg]; exact (below_size (by repeat (first | (with_reducible first | exact HB.out | apply below_alloc | apply pw_below_drewN | apply below_drew1) | exact HB.out))) : w.heap.size ≤ gb512)); have n3_ := Aside0.mk ((by rw [hg]; exact (below_size (by repeat (first | (with_reducible first | exact HB.out | apply below_alloc | apply pw_below_drewN | apply below_drew1) | exact HB.out))) : w.heap.size ≤ gb512)); clear HB; have HB := n0_; have BK512 := n1_; have GW512 := n2_; have GE512 := n3_; clear n0_ n1_ n2_ n3_; clear hb hbox hg; have hcz41_0 : w40.cell? ⟨gb512, 0, none⟩ = some (.slice A0_0 l0_0.length c0_0) := (blk_cell BK512.out 0).trans rfl; have hcz41_1 : w40.cell? ⟨gb512, 1, none⟩ = some (.int .i64 a0_1) := (blk_cell BK512.out 1).trans rfl; have hcz41_2 : w40.cell? ⟨gb512, 2, none⟩ = some (.int .i64 a0_2) := (blk_cell BK512.out 2).trans rfl; have hcz41_3 : w40.cell? ⟨gb512, 3, none⟩ = some (.int .i64 a0_3) := (blk_cell BK512.out 3).trans rfl; have hcz41_4 : w40.cell? ⟨gb512, 4, none⟩ = some (.int .i64 a0_4) := (blk_cell BK512.out 4).trans rfl; have hcz41_5 : w40.cell? ⟨gb512, 5, none⟩ = some (.slice A0_5 l0_5.length c0_5) := (blk_cell BK512.out 5).trans rfl; have hcz41_6 : w40.cell? ⟨gb512, 6, none⟩ = some (.int .i64 a0_6) := (blk_cell BK512.out 6).trans rfl; have hfz41_0 := blk_frozen BK512.out 0; have hfz41_1 := blk_frozen BK512.out 1; have hfz41_2 := blk_frozen BK512.out 2; have hfz41_3 := blk_frozen BK512.out 3; have hfz41_4 := blk_frozen BK512.out 4; have hfz41_5 := blk_frozen BK512.out 5; have hfz41_6 := blk_frozen BK512.out 6) | ((with_reducible refine gate_callee (f := 18) rfl ?_); refine goesL_ (some 10) rfl rfl Tryd.func18 (by kernel_rfl) rfl #[.agg #[.slice A0_0 l0_0.length c0_0, .int .i64 a0_1, .int .i64 a0_2, .int .i64 a0_3, .int .i64 a0_4, .slice A0_5 l0_5.length c0_5, .int .i64 a0_6]] rfl (by (try simp only [List.map_toArray, List.map_cons, List.map_nil]); first | done | rfl | (simp only [List.length_drop, List.length_take]; rfl)) ?_; (with_reducible refine (macadamref06_Check.calls _ _ l0_0 a0_1 a0_2 a0_3 a0_4 _ _ l0_5 a0_6 t513 _ ?side1 ?side2 ?side3 ?side4 A2.out).mono ?_); (case side1 => repeat (first | exact (Kd.C_below HR0_0.out HB.out) | (with_reducible refine Kd.C_alloc ?_ _) | (with_reducible refine Kd.C_drewN ?_ _) | (with_reducible refine Kd.C_drew ?_))); (case side2 => exact HC0_0.out); (case side3 => repeat (first | exact (Kd.C_below HR0_5.out HB.out) | (with_reducible refine Kd.C_alloc ?_ _) | (with_reducible refine Kd.C_drewN ?_ _) | (with_reducible refine Kd.C_drew ?_))); (case side4 => exact HC0_5.out); rintro e w42 ⟨rfl, hb⟩; refine ⟨_, rfl, ?_⟩; have n0_ := Aside0.mk (blk_below (g := gb512) (o := .cells #[.slice A0_0 l0_0.length c0_0, .int .i64 a0_1, .int .i64 a0_2, .int .i64 a0_3, .int .i64 a0_4, .slice A0_5 l0_5.length c0_5, .int .i64 a0_6] 26 (0, 0)) (by (with_reducible repeat (first | refine blk_drewN ?_ _ | refine blk_drew ?_ | refine blk_alloc ?_ _)); exact BK512.out) hb); have n1_ := Aside0.mk (below_step (by repeat (first | (with_reducible first | exact HB.out | apply below_alloc | apply pw_below_drewN | apply below_drew1 | refine below_set ?_ GE512.out) | exact HB.out)) hb); clear BK512; clear HB; have BK512 := n0_; have HB := n1_; clear n0_ n1_; (try clear hb); (try clear hb2); (try clear hk); (try clear hi)))
  go_ret2
  exact ⟨_, by first | rfl | (simp [errW_none, errW_some] <;> rfl) | (simp only [i64_w, i32_w] <;> rfl) | (simp [*, errW_none, errW_some] <;> rfl), by first | exact Kd.R_nil _ _ _ _ _ | exact Kd.N_nil _ _ _ _ _ | exact Kd.V_nil _ _ _ _ _ | exact Kd.Q_nil _ _ _ _ _ | exact Kd.S_nil _ _ _ _ _, by repeat (first | (with_reducible first | exact HB.out | apply below_alloc | apply pw_below_drewN | apply below_drew1 | refine below_set ?_ GE512.out) | exact HB.out)⟩
end Go.Proofs.YtbhjfojbjpbdbaaDoorPX
namespace Go.Proofs.YtbhjfojbjpbdbaaDoorPX
open Go.Proofs.YtbhjfojbjpbdbaaDoor (Glob ix3 blk_ix3 bl nrm_ pu_ tk_)
open Go.RowKit Go.Proofs.YtbhjfojbjpbdbaaDoorW.PrintWords Go.Proofs.YtbhjfojbjpbdbaaDoorW.PrintLast Go.Proofs.YtbhjfojbjpbdbaaDoorW.PrintMore

set_option linter.unusedVariables false
set_option linter.unusedSimpArgs false
section
open Go.Proofs.YtbhjfojbjpbdbaaDoor
def claim_Fits.f (l0_0 : List (S56)) (a0_1 : Int) (a0_2 : Int) (a0_3 : Int) (a0_4 : Int) (l0_5 : List (S42)) (a0_6 : Int) (a1_0 : Int) (a1_1 : Int) (a1_2 : Int) : Option (Bool × Int) := some (fitsS (bkOf l0_0 a0_1 a0_2 a0_3 a0_4 l0_5 a0_6) ⟨a1_0, a1_1, a1_2⟩)
theorem claim_Fits.calls (A0_0 : Option Addr) (c0_0 : Nat) (l0_0 : List (S56)) (a0_1 : Int) (a0_2 : Int) (a0_3 : Int) (a0_4 : Int) (A0_5 : Option Addr) (c0_5 : Nat) (l0_5 : List (S42)) (a0_6 : Int) (a1_0 : Int) (a1_1 : Int) (a1_2 : Int) (r1 : Bool) (r2 : Int) (w : World) (hG : Glob w) (hr0_0 : Kd.C k56 w A0_0 l0_0.length l0_0) (hc0_0 : l0_0.length ≤ c0_0) (hr0_5 : Kd.C k42 w A0_5 l0_5.length l0_5) (hc0_5 : l0_5.length ≤ c0_5) (h : claim_Fits.f l0_0 a0_1 a0_2 a0_3 a0_4 l0_5 a0_6 a1_0 a1_1 a1_2 = some (r1, r2)) :
  Calls Tryd.prog 36 #[.agg #[.slice A0_0 l0_0.length c0_0, .int .i64 a0_1, .int .i64 a0_2, .int .i64 a0_3, .int .i64 a0_4, .slice A0_5 l0_5.length c0_5, .int .i64 a0_6], .agg #[.int .i64 a1_0, .int .i64 a1_1, .int .i64 a1_2]] w fun e w' => e = .returned (.tuple #[.bool r1, .int .i64 r2]) ∧ Below w.heap.size w w' := by
 unfold claim_Fits.f at h
 have h' := Option.some.inj h
 refine (fits_ex w (bkOf l0_0 a0_1 a0_2 a0_3 a0_4 l0_5 a0_6) ⟨a1_0, a1_1, a1_2⟩ _ _ _ _ _ _ _ (book_of hr0_0 hc0_0 hr0_5 hc0_5) hG).mono ?_
 rintro e w' ⟨rfl, hb⟩
 rw [h']
 exact ⟨rfl, hb⟩
end
section
open Go.Proofs.YtbhjfojbjpbdbaaDoor
def claim_Wrong.f (l0_0 : List (S56)) (a0_1 : Int) (a0_2 : Int) (a0_3 : Int) (a0_4 : Int) (l0_5 : List (S42)) (a0_6 : Int) : Option (List Int × Int) := some ((wrongS (bkOf l0_0 a0_1 a0_2 a0_3 a0_4 l0_5 a0_6)).1.map (fun n : Nat => (n : Int)), (wrongS (bkOf l0_0 a0_1 a0_2 a0_3 a0_4 l0_5 a0_6)).2)
theorem claim_Wrong.calls (A0_0 : Option Addr) (c0_0 : Nat) (l0_0 : List (S56)) (a0_1 : Int) (a0_2 : Int) (a0_3 : Int) (a0_4 : Int) (A0_5 : Option Addr) (c0_5 : Nat) (l0_5 : List (S42)) (a0_6 : Int) (r1 : List Int) (r2 : Int) (w : World) (hG : Glob w) (hr0_0 : Kd.C k56 w A0_0 l0_0.length l0_0) (hc0_0 : l0_0.length ≤ c0_0) (hr0_5 : Kd.C k42 w A0_5 l0_5.length l0_5) (hc0_5 : l0_5.length ≤ c0_5) (h : claim_Wrong.f l0_0 a0_1 a0_2 a0_3 a0_4 l0_5 a0_6 = some (r1, r2)) :
  Calls Tryd.prog 38 #[.agg #[.slice A0_0 l0_0.length c0_0, .int .i64 a0_1, .int .i64 a0_2, .int .i64 a0_3, .int .i64 a0_4, .slice A0_5 l0_5.length c0_5, .int .i64 a0_6]] w fun e w' => ∃ v0_ : Value, e = .returned (.tuple #[v0_, .int .i64 r2]) ∧ Kd.V (Kd.int .i64) 3 w' w.heap.size (fun k_ => (w.heap.size ≤ k_)) v0_ r1 ∧ Below w.heap.size w w' := by
 unfold claim_Wrong.f at h
 have h' := Option.some.inj h
 simp only [Prod.mk.injEq] at h'
 obtain ⟨rfl, rfl⟩ := h'
 refine (wrong_own w (bkOf l0_0 a0_1 a0_2 a0_3 a0_4 l0_5 a0_6) _ _ _ _ _ _ _ (book_of hr0_0 hc0_0 hr0_5 hc0_5) hG).mono ?_
 rintro e w' ⟨ra, rl, rc, rfl, hb, hs, hn⟩
 exact ⟨.slice ra rl rc, rfl, v_of_sl rfl (fun _ _ => rfl) hs hn _, hb⟩
end
def macadamref00_Like.l0 : Nat → List Int → List Int → Bool → Int → Option (Bool)
 | 0, _, _, _, _ => none
 | k + 1, x0, x1, x5, x6 => if x5 = true then (if x6 < (x0.length : Int) then (if 0 ≤ x6 then (if x6 < (x1.length : Int) then (macadamref00_Like.l0 k x0 x1 ((rd x0 x6) == (rd x1 x6)) (wrap64 (x6 + 1))) else (none)) else (none)) else (some x5)) else (some x5)
def macadamref00_Like.f (k : Nat) (l0 : List Int) (l1 : List Int) : Option (Bool) := macadamref00_Like.l0 k l0 l1 ((l0.length : Int) == (l1.length : Int)) 0
set_option maxHeartbeats 8000000 in
set_option maxRecDepth 100000 in
theorem macadamref00_Like.calls (k : Nat) (A0 : Option Addr) (c0 : Nat) (l0 : List Int) (A1 : Option Addr) (c1 : Nat) (l1 : List Int) (r : Bool) (w : World) (hr0 : Kd.C (Kd.int .i64) w A0 l0.length l0) (hc0 : l0.length ≤ c0) (hr1 : Kd.C (Kd.int .i64) w A1 l1.length l1) (hc1 : l1.length ≤ c1) (h : macadamref00_Like.f k l0 l1 = some r) :
  Calls Tryd.prog 40 #[.slice A0 l0.length c0, .slice A1 l1.length c1] w fun e w' => e = .returned (.bool r) ∧ Drawn0 w w' := by
 have HR0 := Aside0.mk hr0
 have HC0 := Aside0.mk hc0
 clear hr0 hc0
 have HR1 := Aside0.mk hr1
 have HC1 := Aside0.mk hc1
 clear hr1 hc1
 have H : (macadamref00_Like.l0 k l0 l1 ((l0.length : Int) == (l1.length : Int)) 0) = some r := h
 clear h
 have H' := Aside0.mk H
 clear H
 go_enter Tryd.func40, Tryd.ntmps40
 go_wp2
 repeat (go_quiet (fail); try go_wp2)
 go_loopg [5, 6] k (fun kq v5 v6 w' => ∃ (x5_1 : Bool) (x6_1 : Int), v5 = .bool x5_1 ∧ v6 = .int .i64 x6_1 ∧ Aside0 (macadamref00_Like.l0 kq l0 l1 x5_1 x6_1 = some r) ∧ Aside0 (kq ≤ k) ∧ Drawn0 w w')
 case atStart => exact ⟨(((l0.length : Int) == (l1.length : Int))), (0), (by first | rfl | (simp; done) | (simp [*]; done)), (by first | rfl | (simp; done) | (simp [*]; done)), H', ⟨Nat.le_refl _⟩, by repeat (first | exact Drawn0.refl _ | apply Drawn0.step)⟩
 case round =>
  clear H'
  try clear c1
  try clear p2
  obtain ⟨x5_1, x6_1, rfl, rfl, HA, HK1, ⟨m1, rfl⟩⟩ := hrel
  cases gk with
  | zero => exact absurd HA.out (by simp [macadamref00_Like.l0])
  | succ k1 =>
   have H := HA.out
   clear HA
   simp only [macadamref00_Like.l0] at H
   by_cases c3 : x5_1 = true
   ·subst c3
    have H1 : (if x6_1 < (l0.length : Int) then (if 0 ≤ x6_1 then (if x6_1 < (l1.length : Int) then (macadamref00_Like.l0 k1 l0 l1 ((rd l0 x6_1) == (rd l1 x6_1)) (wrap64 (x6_1 + 1))) else (none)) else (none)) else (some true)) = some r := by rw [if_pos rfl] at H; exact H
    clear H
    have H := H1
    clear H1
    by_cases c4 : x6_1 < (l0.length : Int)
    ·rw [if_pos c4] at H
     have c4b0 : decide (x6_1 < (l0.length : Int)) = true := decide_eq_true c4
     clear c4
     by_cases c5 : 0 ≤ x6_1
     ·rw [if_pos c5] at H
      have c5b0 : decide (0 ≤ x6_1) = true := decide_eq_true c5
      clear c5
      by_cases c6 : x6_1 < (l1.length : Int)
      ·rw [if_pos c6] at H
       have c6b0 : decide (x6_1 < (l1.length : Int)) = true := decide_eq_true c6
       clear c6
       have H' := Aside0.mk H
       clear H
       have p243 : 0 ≤ (x6_1 : Int) := of_decide_eq_true (by first | (with_reducible assumption) | assumption)
       have q243 : x6_1 < (l0.length : Int) := of_decide_eq_true (by first | (with_reducible assumption) | assumption)
       obtain ⟨ad243, e243, hx243_0⟩ := Kd.at_int HR0.out x6_1 p243 q243
       cases e243
       replace p243 := eq_true p243
       replace q243 := eq_true q243
       have p244 : 0 ≤ (x6_1 : Int) := of_decide_eq_true (by first | (with_reducible assumption) | assumption)
       have q244 : x6_1 < (l1.length : Int) := of_decide_eq_true (by first | (with_reducible assumption) | assumption)
       obtain ⟨ad244, e244, hx244_0⟩ := Kd.at_int HR1.out x6_1 p244 q244
       cases e244
       replace p244 := eq_true p244
       replace q244 := eq_true q244
       go_wp2
       repeat (go_quiet (fail); try go_wp2)
       go_roundg k1
       case measure => have := HK1.out; omega
       case rel => exact ⟨(((rd l0 x6_1) == (rd l1 x6_1))), (wrap64 (x6_1 + 1)), (by first | rfl | (simp; done) | (simp [*]; done)), (by first | rfl | (simp; done) | (simp [*]; done)), H', ⟨by have := HK1.out; omega⟩, by repeat (first | exact Drawn0.refl _ | apply Drawn0.step)⟩
      ·rw [if_neg c6] at H
       exact absurd H (by simp)
     ·rw [if_neg c5] at H
      exact absurd H (by simp)
    ·rw [if_neg c4] at H
     have c4b0 : decide (x6_1 < (l0.length : Int)) = false := decide_eq_false c4
     clear c4
     obtain rfl := Option.some.inj H
     go_wp2
     repeat (go_quiet (fail); try go_wp2)
     go_ret
     exact ⟨by first | rfl | (simp; done) | (simp [*]; done), by repeat (first | exact Drawn0.refl _ | apply Drawn0.step)⟩
   ·replace c3 := Bool.eq_false_iff.mpr c3
    subst c3
    have H1 : (some false) = some r := by rw [if_neg (show ¬ (false = true) by decide)] at H; exact H
    clear H
    have H := H1
    clear H1
    obtain rfl := Option.some.inj H
    go_wp2
    repeat (go_quiet (fail); try go_wp2)
    go_ret
    exact ⟨by first | rfl | (simp; done) | (simp [*]; done), by repeat (first | exact Drawn0.refl _ | apply Drawn0.step)⟩
end Go.Proofs.YtbhjfojbjpbdbaaDoorPX
namespace Go.Proofs.YtbhjfojbjpbdbaaDoorPX
open Go.Proofs.YtbhjfojbjpbdbaaDoor (Glob ix3 blk_ix3 bl nrm_ pu_ tk_)
open Go.RowKit Go.Proofs.YtbhjfojbjpbdbaaDoorW.PrintWords Go.Proofs.YtbhjfojbjpbdbaaDoorW.PrintLast Go.Proofs.YtbhjfojbjpbdbaaDoorW.PrintMore

set_option linter.unusedVariables false
set_option linter.unusedSimpArgs false
section
open Go.Proofs.YtbhjfojbjpbdbaaDoor
def macadamlaw06_billed.f  : Option (Bool) := some true
theorem macadamlaw06_billed.calls  (r : Bool) (w : World) (hG : Glob w) (h : macadamlaw06_billed.f  = some r) :
  Calls Tryd.prog 25 #[] w fun e w' => e = .returned (.bool r) ∧ Below w.heap.size w w' := by
 unfold macadamlaw06_billed.f at h
 have h' := Option.some.inj h
 subst h'
 exact billed_any w hG
end
end Go.Proofs.YtbhjfojbjpbdbaaDoorPX
namespace Go.Proofs.YtbhjfojbjpbdbaaDoorPX
open Go.Proofs.YtbhjfojbjpbdbaaDoor (Glob ix3 blk_ix3 bl nrm_ pu_ tk_)
open Go.RowKit Go.Proofs.YtbhjfojbjpbdbaaDoorW.PrintWords Go.Proofs.YtbhjfojbjpbdbaaDoorW.PrintLast Go.Proofs.YtbhjfojbjpbdbaaDoorW.PrintMore

set_option linter.unusedVariables false
set_option linter.unusedSimpArgs false
def macadamlaw06_ClaimWrongs.j0 : Nat → Bool → List (S56) → Int → Int → Int → Int → List (S42) → Int → Option (Bool)
 | 0, _, _, _, _, _, _, _, _ => none
 | k + 1, x30, x536000, x536001, x536002, x536003, x536004, x536005, x536006 => if x30 = true then (some false) else ((claim_Wrong.f x536000 x536001 x536002 x536003 x536004 x536005 x536006).bind fun bt541 => ((macadamref06_Wrong.f k x536000 x536001 x536002 x536003 x536004 x536005 x536006).bind fun bt545 => ((macadamref00_Like.f k bt541.1 bt545.1).bind fun t549 => (if t549 = true then (if bt541.2 = bt545.2 then ((macadamlaw06_billed.f).bind fun t550 => (some t550)) else (some false)) else (some false)))))
def macadamlaw06_ClaimWrongs.f (k : Nat) (l0_0 : List (S56)) (a0_1 : Int) (a0_2 : Int) (a0_3 : Int) (a0_4 : Int) (l0_5 : List (S42)) (a0_6 : Int) (a1_0 : Int) (a1_1 : Int) (a1_2 : Int) : Option (Bool) := (claim_Fits.f l0_0 a0_1 a0_2 a0_3 a0_4 l0_5 a0_6 a1_0 a1_1 a1_2).bind fun bt537 => ((macadamref06_Fits.f k l0_0 a0_1 a0_2 a0_3 a0_4 l0_5 a0_6 a1_0 a1_1 a1_2).bind fun bt539 => (if (bt537.1 != bt539.1) = true then (macadamlaw06_ClaimWrongs.j0 k true l0_0 a0_1 a0_2 a0_3 a0_4 l0_5 a0_6) else (macadamlaw06_ClaimWrongs.j0 k (bt537.2 != bt539.2) l0_0 a0_1 a0_2 a0_3 a0_4 l0_5 a0_6)))
set_option maxHeartbeats 8000000 in
set_option maxRecDepth 100000 in
theorem macadamlaw06_ClaimWrongs.calls (k : Nat) (A0_0 : Option Addr) (c0_0 : Nat) (l0_0 : List (S56)) (a0_1 : Int) (a0_2 : Int) (a0_3 : Int) (a0_4 : Int) (A0_5 : Option Addr) (c0_5 : Nat) (l0_5 : List (S42)) (a0_6 : Int) (a1_0 : Int) (a1_1 : Int) (a1_2 : Int) (r : Bool) (w : World) (hG : Glob w) (hr0_0 : Kd.C k56 w A0_0 l0_0.length l0_0) (hc0_0 : l0_0.length ≤ c0_0) (hr0_5 : Kd.C k42 w A0_5 l0_5.length l0_5) (hc0_5 : l0_5.length ≤ c0_5) (h : macadamlaw06_ClaimWrongs.f k l0_0 a0_1 a0_2 a0_3 a0_4 l0_5 a0_6 a1_0 a1_1 a1_2 = some r) :
  Calls Tryd.prog 5 #[.agg #[.slice A0_0 l0_0.length c0_0, .int .i64 a0_1, .int .i64 a0_2, .int .i64 a0_3, .int .i64 a0_4, .slice A0_5 l0_5.length c0_5, .int .i64 a0_6], .agg #[.int .i64 a1_0, .int .i64 a1_1, .int .i64 a1_2]] w fun e w' => e = .returned (.bool r) ∧ Below w.heap.size w w' := by
 have hu26 := Tryd.underlying26
 have hu42 := Tryd.underlying42
 have HG := Aside0.mk hG
 clear hG
 have HR0_0 := Aside0.mk hr0_0
 have HC0_0 := Aside0.mk hc0_0
 clear hr0_0 hc0_0
 have HR0_5 := Aside0.mk hr0_5
 have HC0_5 := Aside0.mk hc0_5
 clear hr0_5 hc0_5
 have HB := Aside0.mk (Below.refl w.heap.size w)
 have H : ((claim_Fits.f l0_0 a0_1 a0_2 a0_3 a0_4 l0_5 a0_6 a1_0 a1_1 a1_2).bind fun bt537 => ((macadamref06_Fits.f k l0_0 a0_1 a0_2 a0_3 a0_4 l0_5 a0_6 a1_0 a1_1 a1_2).bind fun bt539 => (if (bt537.1 != bt539.1) = true then (macadamlaw06_ClaimWrongs.j0 k true l0_0 a0_1 a0_2 a0_3 a0_4 l0_5 a0_6) else (macadamlaw06_ClaimWrongs.j0 k (bt537.2 != bt539.2) l0_0 a0_1 a0_2 a0_3 a0_4 l0_5 a0_6)))) = some r := h
 clear h
 replace H := Option.bind_eq_some_iff.mp H
 obtain ⟨⟨t537, t538⟩, A30, H⟩ := H
 replace H : ((macadamref06_Fits.f k l0_0 a0_1 a0_2 a0_3 a0_4 l0_5 a0_6 a1_0 a1_1 a1_2).bind fun bt539 => (if (t537 != bt539.1) = true then (macadamlaw06_ClaimWrongs.j0 k true l0_0 a0_1 a0_2 a0_3 a0_4 l0_5 a0_6) else (macadamlaw06_ClaimWrongs.j0 k (t538 != bt539.2) l0_0 a0_1 a0_2 a0_3 a0_4 l0_5 a0_6))) = some r := H
 have A3 := Aside0.mk A30
 clear A30
 replace H := Option.bind_eq_some_iff.mp H
 obtain ⟨⟨t539, t540⟩, A40, H⟩ := H
 replace H : (if (t537 != t539) = true then (macadamlaw06_ClaimWrongs.j0 k true l0_0 a0_1 a0_2 a0_3 a0_4 l0_5 a0_6) else (macadamlaw06_ClaimWrongs.j0 k (t538 != t540) l0_0 a0_1 a0_2 a0_3 a0_4 l0_5 a0_6)) = some r := H
 have A4 := Aside0.mk A40
 clear A40
 have HC5 := Aside0.mk H
 clear H
 go_enter Tryd.func5, Tryd.ntmps5
 go_upto_region 3 with (first | ((with_reducible refine gate_dst (N := 2) rfl ?_); refine box_event ?hg (N := 2) ?hd (cs := #[.slice A0_0 l0_0.length c0_0, .int .i64 a0_1, .int .i64 a0_2, .int .i64 a0_3, .int .i64 a0_4, .slice A0_5 l0_5.length c0_5, .int .i64 a0_6]) (t := 26) ?hr ?_; (case hd => rfl); (case hg => rfl); (case hr => first | (go_simp; done) | (go_simp; rfl)); intro gb535 hg w6 hbox hb; have n0_ := Aside0.mk (below_step (by repeat (first | (with_reducible first | exact HB.out | apply below_alloc | apply pw_below_drewN | apply below_drew1) | exact HB.out)) hb); have n1_ := Aside0.mk (hbox); have n2_ := Aside0.mk ((by rw [hg]; exact (below_size (by repeat (first | (with_reducible first | exact HB.out | apply below_alloc | apply pw_below_drewN | apply below_drew1) | exact HB.out))) : w.heap.size ≤ gb535)); have n3_ := Aside0.mk ((by rw [hg]; exact (below_size (by repeat (first | (with_reducible first | exact HB.out | apply below_alloc | apply pw_below_drewN | apply below_drew1) | exact HB.out))) : w.heap.size ≤ gb535)); clear HB; have HB := n0_; have BK535 := n1_; have GW535 := n2_; have GE535 := n3_; clear n0_ n1_ n2_ n3_; clear hb hbox hg) | ((with_reducible refine gate_dst (N := 3) rfl ?_); refine box_event ?hg (N := 3) ?hd (cs := #[.int .i64 a1_0, .int .i64 a1_1, .int .i64 a1_2]) (t := 42) ?hr ?_; (case hd => rfl); (case hg => rfl); (case hr => first | (go_simp; done) | (go_simp; rfl)); intro gb536 hg w7 hbox hb; have n0_ := Aside0.mk (blk_below (g := gb535) (o := .cells #[.slice A0_0 l0_0.length c0_0, .int .i64 a0_1, .int .i64 a0_2, .int .i64 a0_3, .int .i64 a0_4, .slice A0_5 l0_5.length c0_5, .int .i64 a0_6] 26 (0, 0)) (by (with_reducible repeat (first | refine blk_drewN ?_ _ | refine blk_drew ?_ | refine blk_alloc ?_ _)); exact BK535.out) hb); have n1_ := Aside0.mk (below_step (by repeat (first | (with_reducible first | exact HB.out | apply below_alloc | apply pw_below_drewN | apply below_drew1 | refine below_set ?_ GE535.out) | exact HB.out)) hb); have n2_ := Aside0.mk (hbox); have n3_ := Aside0.mk ((by rw [hg]; exact (below_size (by repeat (first | (with_reducible first | exact HB.out | apply below_alloc | apply pw_below_drewN | apply below_drew1 | refine below_set ?_ GE535.out) | exact HB.out))) : w.heap.size ≤ gb536)); have n4_ := Aside0.mk ((by rw [hg]; exact (below_size (by repeat (first | (with_reducible first | exact HB.out | apply below_alloc | apply pw_below_drewN | apply below_drew1 | refine below_set ?_ GE535.out) | exact HB.out))) : w.heap.size ≤ gb536)); have n5_ := Aside0.mk ((by rw [hg]; exact Nat.ne_of_lt (blk_lt (g := gb535) (o := .cells #[.slice A0_0 l0_0.length c0_0, .int .i64 a0_1, .int .i64 a0_2, .int .i64 a0_3, .int .i64 a0_4, .slice A0_5 l0_5.length c0_5, .int .i64 a0_6] 26 (0, 0)) (by (with_reducible repeat (first | refine blk_drewN ?_ _ | refine blk_drew ?_ | refine blk_alloc ?_ _)); exact BK535.out)) : gb535 ≠ gb536)); have n6_ := Aside0.mk ((by rw [hg]; exact Nat.ne_of_gt (blk_lt (g := gb535) (o := .cells #[.slice A0_0 l0_0.length c0_0, .int .i64 a0_1, .int .i64 a0_2, .int .i64 a0_3, .int .i64 a0_4, .slice A0_5 l0_5.length c0_5, .int .i64 a0_6] 26 (0, 0)) (by (with_reducible repeat (first | refine blk_drewN ?_ _ | refine blk_drew ?_ | refine blk_alloc ?_ _)); exact BK535.out)) : gb536 ≠ gb535)); clear BK535; clear HB; have BK535 := n0_; have HB := n1_; have BK536 := n2_; have GW536 := n3_; have GE536 := n4_; have NB535_536 := n5_; have NB536_535 := n6_; clear n0_ n1_ n2_ n3_ n4_ n5_ n6_; clear hb hbox hg; have hnb8 := NB535_536.out; have hnc8 := NB536_535.out; have hcz9_0 : w7.cell? ⟨gb535, 0, none⟩ = some (.slice A0_0 l0_0.length c0_0) := (blk_cell BK535.out 0).trans rfl; have hcz9_1 : w7.cell? ⟨gb535, 1, none⟩ = some (.int .i64 a0_1) := (blk_cell BK535.out 1).trans rfl; have hcz9_2 : w7.cell? ⟨gb535, 2, none⟩ = some (.int .i64 a0_2) := (blk_cell BK535.out 2).trans rfl; have hcz9_3 : w7.cell? ⟨gb535, 3, none⟩ = some (.int .i64 a0_3) := (blk_cell BK535.out 3).trans rfl; have hcz9_4 : w7.cell? ⟨gb535, 4, none⟩ = some (.int .i64 a0_4) := (blk_cell BK535.out 4).trans rfl; have hcz9_5 : w7.cell? ⟨gb535, 5, none⟩ = some (.slice A0_5 l0_5.length c0_5) := (blk_cell BK535.out 5).trans rfl; have hcz9_6 : w7.cell? ⟨gb535, 6, none⟩ = some (.int .i64 a0_6) := (blk_cell BK535.out 6).trans rfl; have hfz9_0 := blk_frozen BK535.out 0; have hfz9_1 := blk_frozen BK535.out 1; have hfz9_2 := blk_frozen BK535.out 2; have hfz9_3 := blk_frozen BK535.out 3; have hfz9_4 := blk_frozen BK535.out 4; have hfz9_5 := blk_frozen BK535.out 5; have hfz9_6 := blk_frozen BK535.out 6; have hcz10_0 : w7.cell? ⟨gb536, 0, none⟩ = some (.int .i64 a1_0) := (blk_cell BK536.out 0).trans rfl; have hcz10_1 : w7.cell? ⟨gb536, 1, none⟩ = some (.int .i64 a1_1) := (blk_cell BK536.out 1).trans rfl; have hcz10_2 : w7.cell? ⟨gb536, 2, none⟩ = some (.int .i64 a1_2) := (blk_cell BK536.out 2).trans rfl; have hfz10_0 := blk_frozen BK536.out 0; have hfz10_1 := blk_frozen BK536.out 1; have hfz10_2 := blk_frozen BK536.out 2) | ((with_reducible refine gate_callee (f := 36) rfl ?_); refine goesL_ (some 14) rfl rfl Tryd.func36 (by kernel_rfl) rfl #[.agg #[.slice A0_0 l0_0.length c0_0, .int .i64 a0_1, .int .i64 a0_2, .int .i64 a0_3, .int .i64 a0_4, .slice A0_5 l0_5.length c0_5, .int .i64 a0_6], .agg #[.int .i64 a1_0, .int .i64 a1_1, .int .i64 a1_2]] rfl (by (try simp only [List.map_toArray, List.map_cons, List.map_nil]); first | done | rfl | (simp only [List.length_drop, List.length_take]; rfl)) ?_; (with_reducible refine (claim_Fits.calls _ _ l0_0 a0_1 a0_2 a0_3 a0_4 _ _ l0_5 a0_6 a1_0 a1_1 a1_2 t537 t538 _ ?side1 ?side2 ?side3 ?side4 ?side5 A3.out).mono ?_); (case side1 => first | exact HG.out | exact Glob.step HG.out HB.out | exact Glob.step HG.out (by repeat (first | (with_reducible first | exact HB.out | apply below_alloc | apply pw_below_drewN | apply below_drew1 | refine below_set ?_ GE535.out | refine below_set ?_ GE536.out) | exact HB.out))); (case side2 => repeat (first | exact (Kd.C_below HR0_0.out HB.out) | (with_reducible refine Kd.C_alloc ?_ _) | (with_reducible refine Kd.C_drewN ?_ _) | (with_reducible refine Kd.C_drew ?_))); (case side3 => exact HC0_0.out); (case side4 => repeat (first | exact (Kd.C_below HR0_5.out HB.out) | (with_reducible refine Kd.C_alloc ?_ _) | (with_reducible refine Kd.C_drewN ?_ _) | (with_reducible refine Kd.C_drew ?_))); (case side5 => exact HC0_5.out); rintro e w11 ⟨rfl, hb⟩; refine ⟨_, rfl, ?_⟩; have n0_ := Aside0.mk (blk_below (g := gb535) (o := .cells #[.slice A0_0 l0_0.length c0_0, .int .i64 a0_1, .int .i64 a0_2, .int .i64 a0_3, .int .i64 a0_4, .slice A0_5 l0_5.length c0_5, .int .i64 a0_6] 26 (0, 0)) (by (with_reducible repeat (first | refine blk_drewN ?_ _ | refine blk_drew ?_ | refine blk_alloc ?_ _)); exact BK535.out) hb); have n1_ := Aside0.mk (blk_below (g := gb536) (o := .cells #[.int .i64 a1_0, .int .i64 a1_1, .int .i64 a1_2] 42 (0, 0)) (by (with_reducible repeat (first | refine blk_drewN ?_ _ | refine blk_drew ?_ | refine blk_alloc ?_ _)); exact BK536.out) hb); have n2_ := Aside0.mk (below_step (by repeat (first | (with_reducible first | exact HB.out | apply below_alloc | apply pw_below_drewN | apply below_drew1 | refine below_set ?_ GE535.out | refine below_set ?_ GE536.out) | exact HB.out)) hb); clear BK535; clear BK536; clear HB; have BK535 := n0_; have BK536 := n1_; have HB := n2_; clear n0_ n1_ n2_; (try clear hb); (try clear hb2); (try clear hk); (try clear hi); have hcz12_0 : w11.cell? ⟨gb535, 0, none⟩ = some (.slice A0_0 l0_0.length c0_0) := (blk_cell BK535.out 0).trans rfl; have hcz12_1 : w11.cell? ⟨gb535, 1, none⟩ = some (.int .i64 a0_1) := (blk_cell BK535.out 1).trans rfl; have hcz12_2 : w11.cell? ⟨gb535, 2, none⟩ = some (.int .i64 a0_2) := (blk_cell BK535.out 2).trans rfl; have hcz12_3 : w11.cell? ⟨gb535, 3, none⟩ = some (.int .i64 a0_3) := (blk_cell BK535.out 3).trans rfl; have hcz12_4 : w11.cell? ⟨gb535, 4, none⟩ = some (.int .i64 a0_4) := (blk_cell BK535.out 4).trans rfl; have hcz12_5 : w11.cell? ⟨gb535, 5, none⟩ = some (.slice A0_5 l0_5.length c0_5) := (blk_cell BK535.out 5).trans rfl; have hcz12_6 : w11.cell? ⟨gb535, 6, none⟩ = some (.int .i64 a0_6) := (blk_cell BK535.out 6).trans rfl; have hfz12_0 := blk_frozen BK535.out 0; have hfz12_1 := blk_frozen BK535.out 1; have hfz12_2 := blk_frozen BK535.out 2; have hfz12_3 := blk_frozen BK535.out 3; have hfz12_4 := blk_frozen BK535.out 4; have hfz12_5 := blk_frozen BK535.out 5; have hfz12_6 := blk_frozen BK535.out 6; have hcz13_0 : w11.cell? ⟨gb536, 0, none⟩ = some (.int .i64 a1_0) := (blk_cell BK536.out 0).trans rfl; have hcz13_1 : w11.cell? ⟨gb536, 1, none⟩ = some (.int .i64 a1_1) := (blk_cell BK536.out 1).trans rfl; have hcz13_2 : w11.cell? ⟨gb536, 2, none⟩ = some (.int .i64 a1_2) := (blk_cell BK536.out 2).trans rfl; have hfz13_0 := blk_frozen BK536.out 0; have hfz13_1 := blk_frozen BK536.out 1; have hfz13_2 := blk_frozen BK536.out 2) | ((with_reducible refine gate_callee (f := 37) rfl ?_); refine goesL_ (some 20) rfl rfl Tryd.func37 (by kernel_rfl) rfl #[.agg #[.slice A0_0 l0_0.length c0_0, .int .i64 a0_1, .int .i64 a0_2, .int .i64 a0_3, .int .i64 a0_4, .slice A0_5 l0_5.length c0_5, .int .i64 a0_6], .agg #[.int .i64 a1_0, .int .i64 a1_1, .int .i64 a1_2]] rfl (by (try simp only [List.map_toArray, List.map_cons, List.map_nil]); first | done | rfl | (simp only [List.length_drop, List.length_take]; rfl)) ?_; (with_reducible refine (macadamref06_Fits.calls k _ _ l0_0 a0_1 a0_2 a0_3 a0_4 _ _ l0_5 a0_6 a1_0 a1_1 a1_2 t539 t540 _ ?side1 ?side2 ?side3 ?side4 A4.out).mono ?_); (case side1 => repeat (first | exact (Kd.C_below HR0_0.out HB.out) | (with_reducible refine Kd.C_alloc ?_ _) | (with_reducible refine Kd.C_drewN ?_ _) | (with_reducible refine Kd.C_drew ?_))); (case side2 => exact HC0_0.out); (case side3 => repeat (first | exact (Kd.C_below HR0_5.out HB.out) | (with_reducible refine Kd.C_alloc ?_ _) | (with_reducible refine Kd.C_drewN ?_ _) | (with_reducible refine Kd.C_drew ?_))); (case side4 => exact HC0_5.out); rintro e w14 ⟨rfl, hb⟩; refine ⟨_, rfl, ?_⟩; have n0_ := Aside0.mk (blk_below (g := gb535) (o := .cells #[.slice A0_0 l0_0.length c0_0, .int .i64 a0_1, .int .i64 a0_2, .int .i64 a0_3, .int .i64 a0_4, .slice A0_5 l0_5.length c0_5, .int .i64 a0_6] 26 (0, 0)) (by (with_reducible repeat (first | refine blk_drewN ?_ _ | refine blk_drew ?_ | refine blk_alloc ?_ _)); exact BK535.out) hb); have n1_ := Aside0.mk (blk_below (g := gb536) (o := .cells #[.int .i64 a1_0, .int .i64 a1_1, .int .i64 a1_2] 42 (0, 0)) (by (with_reducible repeat (first | refine blk_drewN ?_ _ | refine blk_drew ?_ | refine blk_alloc ?_ _)); exact BK536.out) hb); have n2_ := Aside0.mk (below_step (by repeat (first | (with_reducible first | exact HB.out | apply below_alloc | apply pw_below_drewN | apply below_drew1 | refine below_set ?_ GE535.out | refine below_set ?_ GE536.out) | exact HB.out)) hb); clear BK535; clear BK536; clear HB; have BK535 := n0_; have BK536 := n1_; have HB := n2_; clear n0_ n1_ n2_; (try clear hb); (try clear hb2); (try clear hk); (try clear hi)))
 (try simp only [Act.put, List.setIfInBounds_toArray, List.set_cons_zero, List.set_cons_succ])
 go_cut [30] (fun v30 wc => ∃ (kq : Nat) (x30_4 : Bool), v30 = .bool x30_4 ∧ Aside0 (macadamlaw06_ClaimWrongs.j0 kq x30_4 l0_0 a0_1 a0_2 a0_3 a0_4 l0_5 a0_6 = some r) ∧ Aside0 (kq ≤ k) ∧ Aside0 (wc.heap[gb535]? = some (.cells #[(.slice A0_0 l0_0.length c0_0), .int .i64 a0_1, .int .i64 a0_2, .int .i64 a0_3, .int .i64 a0_4, (.slice A0_5 l0_5.length c0_5), .int .i64 a0_6] 26 (0, 0))) ∧ Aside0 (wc.heap[gb536]? = some (.cells #[.int .i64 a1_0, .int .i64 a1_1, .int .i64 a1_2] 42 (0, 0))) ∧ Aside0 (Below w.heap.size w wc))
 case first =>
  have H := HC5.out
  clear HC5
  by_cases c15 : (t537 != t539) = true
  ·rw [if_pos c15] at H
   have c15b0 : (t537 != t539) = true := c15
   (try (have c15b1 : decide (t537 = t539) = false := by simpa using c15))
   (try (have c15b2 : (t537 == t539) = false := by simpa using c15))
   (try (have c15b3 : ¬ (t537 = t539) := by simpa using c15))
   clear c15
   (first | rw [c15b0] | (simp only [i64_w, i32_w]; rw [c15b0]) | skip)
   have H' := Aside0.mk H
   clear H
   go_wp2
   go_meet
   case rel => exact ⟨_, (true), (by first | rfl | (simp; done) | (simp [*]; done)), H', ⟨by first | omega | exact Nat.le_refl _⟩, ⟨by (with_reducible repeat (first | refine blk_drewN ?_ _ | refine blk_drew ?_ | refine blk_alloc ?_ _)); exact BK535.out⟩, ⟨by (with_reducible repeat (first | refine blk_drewN ?_ _ | refine blk_drew ?_ | refine blk_alloc ?_ _)); exact BK536.out⟩, ⟨by repeat (first | (with_reducible first | exact HB.out | apply below_alloc | apply pw_below_drewN | apply below_drew1 | refine below_set ?_ GE535.out | refine below_set ?_ GE536.out) | exact HB.out)⟩⟩
  ·rw [if_neg c15] at H
   have c15b0 : (t537 != t539) = false := by simpa using c15
   (try (have c15b1 : decide (t537 = t539) = true := by simpa using c15))
   (try (have c15b2 : (t537 == t539) = true := by simpa using c15))
   clear c15
   (first | rw [c15b0] | (simp only [i64_w, i32_w]; rw [c15b0]) | skip)
   have H' := Aside0.mk H
   clear H
   go_wp2
   go_meet
   case rel => exact ⟨_, ((t538 != t540)), (by first | rfl | (simp; done) | (simp [*]; done)), H', ⟨by first | omega | exact Nat.le_refl _⟩, ⟨by (with_reducible repeat (first | refine blk_drewN ?_ _ | refine blk_drew ?_ | refine blk_alloc ?_ _)); exact BK535.out⟩, ⟨by (with_reducible repeat (first | refine blk_drewN ?_ _ | refine blk_drew ?_ | refine blk_alloc ?_ _)); exact BK536.out⟩, ⟨by repeat (first | (with_reducible first | exact HB.out | apply below_alloc | apply pw_below_drewN | apply below_drew1 | refine below_set ?_ GE535.out | refine below_set ?_ GE536.out) | exact HB.out)⟩⟩
 case rest =>
  clear HC5
  try clear c1
  try clear p2
  try clear c3
  try clear c5
  try clear c8
  try clear c15
  try clear c15b0
  try clear c15b1
  try clear c15b2
  try clear hcz10_0
  try clear hcz10_1
  try clear hcz10_2
  try clear hcz12_0
  try clear hcz12_1
  try clear hcz12_2
  try clear hcz12_3
  try clear hcz12_4
  try clear hcz12_5
  try clear hcz12_6
  try clear hcz13_0
  try clear hcz13_1
  try clear hcz13_2
  try clear hcz9_0
  try clear hcz9_1
  try clear hcz9_2
  try clear hcz9_3
  try clear hcz9_4
  try clear hcz9_5
  try clear hcz9_6
  try clear hfz10_0
  try clear hfz10_1
  try clear hfz10_2
  try clear hfz12_0
  try clear hfz12_1
  try clear hfz12_2
  try clear hfz12_3
  try clear hfz12_4
  try clear hfz12_5
  try clear hfz12_6
  try clear hfz13_0
  try clear hfz13_1
  try clear hfz13_2
  try clear hfz9_0
  try clear hfz9_1
  try clear hfz9_2
  try clear hfz9_3
  try clear hfz9_4
  try clear hfz9_5
  try clear hfz9_6
  obtain ⟨kq, x30_4, rfl, HA, HJ4, BK535, BK536, HB⟩ := hcut
  cases kq with
  | zero => exact absurd HA.out (by simp [macadamlaw06_ClaimWrongs.j0])
  | succ kj4 =>
   have H := HA.out
   clear HA
   simp only [macadamlaw06_ClaimWrongs.j0] at H
   by_cases c16 : x30_4 = true
   ·subst c16
    have H1 : (some false) = some r := by rw [if_pos rfl] at H; exact H
    clear H
    have H := H1
    clear H1
    obtain rfl := Option.some.inj H
    go_wp2
    go_ret
    exact ⟨by first | rfl | (simp [errW_none, errW_some] <;> rfl) | (simp only [i64_w, i32_w] <;> rfl) | (simp [*, errW_none, errW_some] <;> rfl), by repeat (first | (with_reducible first | exact HB.out | apply below_alloc | apply pw_below_drewN | apply below_drew1 | refine below_set ?_ GE535.out | refine below_set ?_ GE536.out) | exact HB.out)⟩
   ·replace c16 := Bool.eq_false_iff.mpr c16
    subst c16
    have H1 : ((claim_Wrong.f l0_0 a0_1 a0_2 a0_3 a0_4 l0_5 a0_6).bind fun bt541 => ((macadamref06_Wrong.f kj4 l0_0 a0_1 a0_2 a0_3 a0_4 l0_5 a0_6).bind fun bt545 => ((macadamref00_Like.f kj4 bt541.1 bt545.1).bind fun t549 => (if t549 = true then (if bt541.2 = bt545.2 then ((macadamlaw06_billed.f).bind fun t550 => (some t550)) else (some false)) else (some false))))) = some r := by rw [if_neg (show ¬ (false = true) by decide)] at H; exact H
    clear H
    have H := H1
    clear H1
    replace H := Option.bind_eq_some_iff.mp H
    obtain ⟨⟨t541, t544⟩, A170, H⟩ := H
    replace H : ((macadamref06_Wrong.f kj4 l0_0 a0_1 a0_2 a0_3 a0_4 l0_5 a0_6).bind fun bt545 => ((macadamref00_Like.f kj4 t541 bt545.1).bind fun t549 => (if t549 = true then (if t544 = bt545.2 then ((macadamlaw06_billed.f).bind fun t550 => (some t550)) else (some false)) else (some false)))) = some r := H
    have A17 := Aside0.mk A170
    clear A170
    replace H := Option.bind_eq_some_iff.mp H
    obtain ⟨⟨t545, t548⟩, A180, H⟩ := H
    replace H : ((macadamref00_Like.f kj4 t541 t545).bind fun t549 => (if t549 = true then (if t544 = t548 then ((macadamlaw06_billed.f).bind fun t550 => (some t550)) else (some false)) else (some false))) = some r := H
    have A18 := Aside0.mk A180
    clear A180
    replace H := Option.bind_eq_some_iff.mp H
    obtain ⟨t549, A190, H⟩ := H
    replace H : (if t549 = true then (if t544 = t548 then ((macadamlaw06_billed.f).bind fun t550 => (some t550)) else (some false)) else (some false)) = some r := H
    have A19 := Aside0.mk A190
    clear A190
    by_cases c20 : t549 = true
    ·subst c20
     have H1 : (if t544 = t548 then ((macadamlaw06_billed.f).bind fun t550 => (some t550)) else (some false)) = some r := by rw [if_pos rfl] at H; exact H
     clear H
     have H := H1
     clear H1
     by_cases c21 : t544 = t548
     ·rw [if_pos c21] at H
      have c21b0 : (t544 == t548) = true := beq_iff_eq.mpr c21
      have c21b1 : (t544 != t548) = false := bne_eq_false_iff_eq.mpr c21
      clear c21
      replace H := Option.bind_eq_some_iff.mp H
      obtain ⟨t550, A220, H⟩ := H
      replace H : (some t550) = some r := H
      have A22 := Aside0.mk A220
      clear A220
      obtain rfl := Option.some.inj H
      have hnb23 := NB535_536.out
      have hnc23 := NB536_535.out
      have hcz24_0 : wc.cell? ⟨gb535, 0, none⟩ = some (.slice A0_0 l0_0.length c0_0) := (blk_cell BK535.out 0).trans rfl
      have hcz24_1 : wc.cell? ⟨gb535, 1, none⟩ = some (.int .i64 a0_1) := (blk_cell BK535.out 1).trans rfl
      have hcz24_2 : wc.cell? ⟨gb535, 2, none⟩ = some (.int .i64 a0_2) := (blk_cell BK535.out 2).trans rfl
      have hcz24_3 : wc.cell? ⟨gb535, 3, none⟩ = some (.int .i64 a0_3) := (blk_cell BK535.out 3).trans rfl
      have hcz24_4 : wc.cell? ⟨gb535, 4, none⟩ = some (.int .i64 a0_4) := (blk_cell BK535.out 4).trans rfl
      have hcz24_5 : wc.cell? ⟨gb535, 5, none⟩ = some (.slice A0_5 l0_5.length c0_5) := (blk_cell BK535.out 5).trans rfl
      have hcz24_6 : wc.cell? ⟨gb535, 6, none⟩ = some (.int .i64 a0_6) := (blk_cell BK535.out 6).trans rfl
      have hfz24_0 := blk_frozen BK535.out 0
      have hfz24_1 := blk_frozen BK535.out 1
      have hfz24_2 := blk_frozen BK535.out 2
      have hfz24_3 := blk_frozen BK535.out 3
      have hfz24_4 := blk_frozen BK535.out 4
      have hfz24_5 := blk_frozen BK535.out 5
      have hfz24_6 := blk_frozen BK535.out 6
      go_wp2_with (first | ((with_reducible refine gate_callee (f := 38) rfl ?_); refine goesL_ (some 33) rfl rfl Tryd.func38 (by kernel_rfl) rfl #[.agg #[.slice A0_0 l0_0.length c0_0, .int .i64 a0_1, .int .i64 a0_2, .int .i64 a0_3, .int .i64 a0_4, .slice A0_5 l0_5.length c0_5, .int .i64 a0_6]] rfl (by (try simp only [List.map_toArray, List.map_cons, List.map_nil]); first | done | rfl | (simp only [List.length_drop, List.length_take]; rfl)) ?_; (with_reducible refine (claim_Wrong.calls _ _ l0_0 a0_1 a0_2 a0_3 a0_4 _ _ l0_5 a0_6 t541 t544 _ ?side1 ?side2 ?side3 ?side4 ?side5 A17.out).mono ?_); (case side1 => first | exact HG.out | exact Glob.step HG.out HB.out | exact Glob.step HG.out (by repeat (first | (with_reducible first | exact HB.out | apply below_alloc | apply pw_below_drewN | apply below_drew1 | refine below_set ?_ GE535.out | refine below_set ?_ GE536.out) | exact HB.out))); (case side2 => repeat (first | exact (Kd.C_below HR0_0.out HB.out) | (with_reducible refine Kd.C_alloc ?_ _) | (with_reducible refine Kd.C_drewN ?_ _) | (with_reducible refine Kd.C_drew ?_))); (case side3 => exact HC0_0.out); (case side4 => repeat (first | exact (Kd.C_below HR0_5.out HB.out) | (with_reducible refine Kd.C_alloc ?_ _) | (with_reducible refine Kd.C_drewN ?_ _) | (with_reducible refine Kd.C_drew ?_))); (case side5 => exact HC0_5.out); rintro e w25 ⟨v542, rfl, ho0, hb⟩; refine ⟨_, rfl, ?_⟩; have n0_ := Aside0.mk (Kd.V_lower (Kd.V_mono (ok' := fun k_ => k_ ≠ gb535 ∧ k_ ≠ gb536) ho0 (fun k_ hk_ => ⟨(Kd.freshB (g := gb535) (o := .cells #[.slice A0_0 l0_0.length c0_0, .int .i64 a0_1, .int .i64 a0_2, .int .i64 a0_3, .int .i64 a0_4, .slice A0_5 l0_5.length c0_5, .int .i64 a0_6] 26 (0, 0)) (by (with_reducible repeat (first | refine blk_drewN ?_ _ | refine blk_drew ?_ | refine blk_alloc ?_ _)); exact BK535.out) k_ hk_), (Kd.freshB (g := gb536) (o := .cells #[.int .i64 a1_0, .int .i64 a1_1, .int .i64 a1_2] 42 (0, 0)) (by (with_reducible repeat (first | refine blk_drewN ?_ _ | refine blk_drew ?_ | refine blk_alloc ?_ _)); exact BK536.out) k_ hk_)⟩)) (below_size (by repeat (first | (with_reducible first | exact HB.out | apply below_alloc | apply pw_below_drewN | apply below_drew1 | refine below_set ?_ GE535.out | refine below_set ?_ GE536.out) | exact HB.out)))); have n1_ := Aside0.mk (blk_below (g := gb535) (o := .cells #[.slice A0_0 l0_0.length c0_0, .int .i64 a0_1, .int .i64 a0_2, .int .i64 a0_3, .int .i64 a0_4, .slice A0_5 l0_5.length c0_5, .int .i64 a0_6] 26 (0, 0)) (by (with_reducible repeat (first | refine blk_drewN ?_ _ | refine blk_drew ?_ | refine blk_alloc ?_ _)); exact BK535.out) hb); have n2_ := Aside0.mk (blk_below (g := gb536) (o := .cells #[.int .i64 a1_0, .int .i64 a1_1, .int .i64 a1_2] 42 (0, 0)) (by (with_reducible repeat (first | refine blk_drewN ?_ _ | refine blk_drew ?_ | refine blk_alloc ?_ _)); exact BK536.out) hb); have n3_ := Aside0.mk (below_step (by repeat (first | (with_reducible first | exact HB.out | apply below_alloc | apply pw_below_drewN | apply below_drew1 | refine below_set ?_ GE535.out | refine below_set ?_ GE536.out) | exact HB.out)) hb); clear BK535; clear BK536; clear HB; have HO543 := n0_; have BK535 := n1_; have BK536 := n2_; have HB := n3_; clear n0_ n1_ n2_ n3_; (try clear hb); (try clear hb2); (try clear hk); (try clear hi); (try clear ho0); have hcz26_0 : w25.cell? ⟨gb535, 0, none⟩ = some (.slice A0_0 l0_0.length c0_0) := (blk_cell BK535.out 0).trans rfl; have hcz26_1 : w25.cell? ⟨gb535, 1, none⟩ = some (.int .i64 a0_1) := (blk_cell BK535.out 1).trans rfl; have hcz26_2 : w25.cell? ⟨gb535, 2, none⟩ = some (.int .i64 a0_2) := (blk_cell BK535.out 2).trans rfl; have hcz26_3 : w25.cell? ⟨gb535, 3, none⟩ = some (.int .i64 a0_3) := (blk_cell BK535.out 3).trans rfl; have hcz26_4 : w25.cell? ⟨gb535, 4, none⟩ = some (.int .i64 a0_4) := (blk_cell BK535.out 4).trans rfl; have hcz26_5 : w25.cell? ⟨gb535, 5, none⟩ = some (.slice A0_5 l0_5.length c0_5) := (blk_cell BK535.out 5).trans rfl; have hcz26_6 : w25.cell? ⟨gb535, 6, none⟩ = some (.int .i64 a0_6) := (blk_cell BK535.out 6).trans rfl; have hfz26_0 := blk_frozen BK535.out 0; have hfz26_1 := blk_frozen BK535.out 1; have hfz26_2 := blk_frozen BK535.out 2; have hfz26_3 := blk_frozen BK535.out 3; have hfz26_4 := blk_frozen BK535.out 4; have hfz26_5 := blk_frozen BK535.out 5; have hfz26_6 := blk_frozen BK535.out 6) | ((with_reducible refine gate_callee (f := 39) rfl ?_); refine goesL_ (some 38) rfl rfl Tryd.func39 (by kernel_rfl) rfl #[.agg #[.slice A0_0 l0_0.length c0_0, .int .i64 a0_1, .int .i64 a0_2, .int .i64 a0_3, .int .i64 a0_4, .slice A0_5 l0_5.length c0_5, .int .i64 a0_6]] rfl (by (try simp only [List.map_toArray, List.map_cons, List.map_nil]); first | done | rfl | (simp only [List.length_drop, List.length_take]; rfl)) ?_; (with_reducible refine (macadamref06_Wrong.calls kj4 _ _ l0_0 a0_1 a0_2 a0_3 a0_4 _ _ l0_5 a0_6 t545 t548 _ ?side1 ?side2 ?side3 ?side4 A18.out).mono ?_); (case side1 => repeat (first | exact (Kd.C_below HR0_0.out HB.out) | (with_reducible refine Kd.C_alloc ?_ _) | (with_reducible refine Kd.C_drewN ?_ _) | (with_reducible refine Kd.C_drew ?_))); (case side2 => exact HC0_0.out); (case side3 => repeat (first | exact (Kd.C_below HR0_5.out HB.out) | (with_reducible refine Kd.C_alloc ?_ _) | (with_reducible refine Kd.C_drewN ?_ _) | (with_reducible refine Kd.C_drew ?_))); (case side4 => exact HC0_5.out); rintro e w27 ⟨v546, rfl, ho0, hb⟩; refine ⟨_, rfl, ?_⟩; have n0_ := Aside0.mk (Kd.V_elder' (by (with_reducible repeat (first | apply Kd.V_alloc | apply Kd.V_drewN | apply Kd.V_drew)); exact HO543.out) (Kd.R_base ho0) hb); have n1_ := Aside0.mk (Kd.R_lower ho0 (below_size (by repeat (first | (with_reducible first | exact HB.out | apply below_alloc | apply pw_below_drewN | apply below_drew1 | refine below_set ?_ GE535.out | refine below_set ?_ GE536.out) | exact HB.out)))); have n2_ := Aside0.mk (blk_below (g := gb535) (o := .cells #[.slice A0_0 l0_0.length c0_0, .int .i64 a0_1, .int .i64 a0_2, .int .i64 a0_3, .int .i64 a0_4, .slice A0_5 l0_5.length c0_5, .int .i64 a0_6] 26 (0, 0)) (by (with_reducible repeat (first | refine blk_drewN ?_ _ | refine blk_drew ?_ | refine blk_alloc ?_ _)); exact BK535.out) hb); have n3_ := Aside0.mk (blk_below (g := gb536) (o := .cells #[.int .i64 a1_0, .int .i64 a1_1, .int .i64 a1_2] 42 (0, 0)) (by (with_reducible repeat (first | refine blk_drewN ?_ _ | refine blk_drew ?_ | refine blk_alloc ?_ _)); exact BK536.out) hb); have n4_ := Aside0.mk (below_step (by repeat (first | (with_reducible first | exact HB.out | apply below_alloc | apply pw_below_drewN | apply below_drew1 | refine below_set ?_ GE535.out | refine below_set ?_ GE536.out) | exact HB.out)) hb); clear HO543; clear BK535; clear BK536; clear HB; have HO543 := n0_; have HO547 := n1_; have BK535 := n2_; have BK536 := n3_; have HB := n4_; clear n0_ n1_ n2_ n3_ n4_; (try clear hb); (try clear hb2); (try clear hk); (try clear hi); (try clear ho0); obtain ⟨Ao28, co28, eo28⟩ := Kd.V_slice HO543.out; subst eo28; obtain ⟨Ao29, co29, eo29⟩ := Kd.R_slice HO547.out; subst eo29) | ((with_reducible refine gate_callee (f := 40) rfl ?_); refine goesL_ (some 43) rfl rfl Tryd.func40 (by kernel_rfl) rfl #[.slice Ao28 t541.length co28, .slice Ao29 t545.length co29] rfl (by (try simp only [List.map_toArray, List.map_cons, List.map_nil]); first | done | rfl | (simp only [List.length_drop, List.length_take]; rfl)) ?_; (with_reducible refine (macadamref00_Like.calls kj4 _ _ t541 _ _ t545 true _ ?side1 ?side2 ?side3 ?side4 A19.out).mono ?_); (case side1 => repeat (first | exact (Kd.V_reads' HO543.out).2.2 | (with_reducible refine Kd.C_alloc ?_ _) | (with_reducible refine Kd.C_drewN ?_ _) | (with_reducible refine Kd.C_drew ?_))); (case side2 => exact (Kd.V_reads' HO543.out).2.1); (case side3 => repeat (first | exact (Kd.R_reads' HO547.out).2.2 | (with_reducible refine Kd.C_alloc ?_ _) | (with_reducible refine Kd.C_drewN ?_ _) | (with_reducible refine Kd.C_drew ?_))); (case side4 => exact (Kd.R_reads' HO547.out).2.1); rintro e w' ⟨rfl, ⟨nd, rfl⟩⟩; refine ⟨_, rfl, ?_⟩) | (go_at_call 25; (with_reducible refine (macadamlaw06_billed.calls  t550 _ ?side1 A22.out).mono ?_); (case side1 => first | exact HG.out | exact Glob.step HG.out HB.out | exact Glob.step HG.out (by repeat (first | (with_reducible first | exact HB.out | apply below_alloc | apply pw_below_drewN | apply below_drew1 | refine below_set ?_ GE535.out | refine below_set ?_ GE536.out) | exact HB.out))); rintro e w30 ⟨rfl, hb⟩; have n0_ := Aside0.mk (Kd.V_below (by (with_reducible repeat (first | apply Kd.V_alloc | apply Kd.V_drewN | apply Kd.V_drew)); exact HO543.out) hb); have n1_ := Aside0.mk (Kd.R_below (by (with_reducible repeat (first | apply Kd.R_alloc | apply Kd.R_drewN | apply Kd.R_drew)); exact HO547.out) hb); have n2_ := Aside0.mk (blk_below (g := gb535) (o := .cells #[.slice A0_0 l0_0.length c0_0, .int .i64 a0_1, .int .i64 a0_2, .int .i64 a0_3, .int .i64 a0_4, .slice A0_5 l0_5.length c0_5, .int .i64 a0_6] 26 (0, 0)) (by (with_reducible repeat (first | refine blk_drewN ?_ _ | refine blk_drew ?_ | refine blk_alloc ?_ _)); exact BK535.out) hb); have n3_ := Aside0.mk (blk_below (g := gb536) (o := .cells #[.int .i64 a1_0, .int .i64 a1_1, .int .i64 a1_2] 42 (0, 0)) (by (with_reducible repeat (first | refine blk_drewN ?_ _ | refine blk_drew ?_ | refine blk_alloc ?_ _)); exact BK536.out) hb); have n4_ := Aside0.mk (below_step (by repeat (first | (with_reducible first | exact HB.out | apply below_alloc | apply pw_below_drewN | apply below_drew1 | refine below_set ?_ GE535.out | refine below_set ?_ GE536.out) | exact HB.out)) hb); clear HO543; clear HO547; clear BK535; clear BK536; clear HB; have HO543 := n0_; have HO547 := n1_; have BK535 := n2_; have BK536 := n3_; have HB := n4_; clear n0_ n1_ n2_ n3_ n4_; (try clear hb); (try clear hb2); (try clear hk); (try clear hi)))
      go_ret
      exact ⟨by first | rfl | (simp [errW_none, errW_some] <;> rfl) | (simp only [i64_w, i32_w] <;> rfl) | (simp [*, errW_none, errW_some] <;> rfl), by repeat (first | (with_reducible first | exact HB.out | apply below_alloc | apply pw_below_drewN | apply below_drew1 | refine below_set ?_ GE535.out | refine below_set ?_ GE536.out) | exact HB.out)⟩
     ·rw [if_neg c21] at H
      have c21b0 : (t544 == t548) = false := beq_eq_false_iff_ne.mpr c21
      have c21b1 : (t544 != t548) = true := bne_iff_ne.mpr c21
      obtain rfl := Option.some.inj H
      have hnb31 := NB535_536.out
      have hnc31 := NB536_535.out
      have hcz32_0 : wc.cell? ⟨gb535, 0, none⟩ = some (.slice A0_0 l0_0.length c0_0) := (blk_cell BK535.out 0).trans rfl
      have hcz32_1 : wc.cell? ⟨gb535, 1, none⟩ = some (.int .i64 a0_1) := (blk_cell BK535.out 1).trans rfl
      have hcz32_2 : wc.cell? ⟨gb535, 2, none⟩ = some (.int .i64 a0_2) := (blk_cell BK535.out 2).trans rfl
      have hcz32_3 : wc.cell? ⟨gb535, 3, none⟩ = some (.int .i64 a0_3) := (blk_cell BK535.out 3).trans rfl
      have hcz32_4 : wc.cell? ⟨gb535, 4, none⟩ = some (.int .i64 a0_4) := (blk_cell BK535.out 4).trans rfl
      have hcz32_5 : wc.cell? ⟨gb535, 5, none⟩ = some (.slice A0_5 l0_5.length c0_5) := (blk_cell BK535.out 5).trans rfl
      have hcz32_6 : wc.cell? ⟨gb535, 6, none⟩ = some (.int .i64 a0_6) := (blk_cell BK535.out 6).trans rfl
      have hfz32_0 := blk_frozen BK535.out 0
      have hfz32_1 := blk_frozen BK535.out 1
      have hfz32_2 := blk_frozen BK535.out 2
      have hfz32_3 := blk_frozen BK535.out 3
      have hfz32_4 := blk_frozen BK535.out 4
      have hfz32_5 := blk_frozen BK535.out 5
      have hfz32_6 := blk_frozen BK535.out 6
      go_wp2_with (first | ((with_reducible refine gate_callee (f := 38) rfl ?_); refine goesL_ (some 33) rfl rfl Tryd.func38 (by kernel_rfl) rfl #[.agg #[.slice A0_0 l0_0.length c0_0, .int .i64 a0_1, .int .i64 a0_2, .int .i64 a0_3, .int .i64 a0_4, .slice A0_5 l0_5.length c0_5, .int .i64 a0_6]] rfl (by (try simp only [List.map_toArray, List.map_cons, List.map_nil]); first | done | rfl | (simp only [List.length_drop, List.length_take]; rfl)) ?_; (with_reducible refine (claim_Wrong.calls _ _ l0_0 a0_1 a0_2 a0_3 a0_4 _ _ l0_5 a0_6 t541 t544 _ ?side1 ?side2 ?side3 ?side4 ?side5 A17.out).mono ?_); (case side1 => first | exact HG.out | exact Glob.step HG.out HB.out | exact Glob.step HG.out (by repeat (first | (with_reducible first | exact HB.out | apply below_alloc | apply pw_below_drewN | apply below_drew1 | refine below_set ?_ GE535.out | refine below_set ?_ GE536.out) | exact HB.out))); (case side2 => repeat (first | exact (Kd.C_below HR0_0.out HB.out) | (with_reducible refine Kd.C_alloc ?_ _) | (with_reducible refine Kd.C_drewN ?_ _) | (with_reducible refine Kd.C_drew ?_))); (case side3 => exact HC0_0.out); (case side4 => repeat (first | exact (Kd.C_below HR0_5.out HB.out) | (with_reducible refine Kd.C_alloc ?_ _) | (with_reducible refine Kd.C_drewN ?_ _) | (with_reducible refine Kd.C_drew ?_))); (case side5 => exact HC0_5.out); rintro e w33 ⟨v542, rfl, ho0, hb⟩; refine ⟨_, rfl, ?_⟩; have n0_ := Aside0.mk (Kd.V_lower (Kd.V_mono (ok' := fun k_ => k_ ≠ gb535 ∧ k_ ≠ gb536) ho0 (fun k_ hk_ => ⟨(Kd.freshB (g := gb535) (o := .cells #[.slice A0_0 l0_0.length c0_0, .int .i64 a0_1, .int .i64 a0_2, .int .i64 a0_3, .int .i64 a0_4, .slice A0_5 l0_5.length c0_5, .int .i64 a0_6] 26 (0, 0)) (by (with_reducible repeat (first | refine blk_drewN ?_ _ | refine blk_drew ?_ | refine blk_alloc ?_ _)); exact BK535.out) k_ hk_), (Kd.freshB (g := gb536) (o := .cells #[.int .i64 a1_0, .int .i64 a1_1, .int .i64 a1_2] 42 (0, 0)) (by (with_reducible repeat (first | refine blk_drewN ?_ _ | refine blk_drew ?_ | refine blk_alloc ?_ _)); exact BK536.out) k_ hk_)⟩)) (below_size (by repeat (first | (with_reducible first | exact HB.out | apply below_alloc | apply pw_below_drewN | apply below_drew1 | refine below_set ?_ GE535.out | refine below_set ?_ GE536.out) | exact HB.out)))); have n1_ := Aside0.mk (blk_below (g := gb535) (o := .cells #[.slice A0_0 l0_0.length c0_0, .int .i64 a0_1, .int .i64 a0_2, .int .i64 a0_3, .int .i64 a0_4, .slice A0_5 l0_5.length c0_5, .int .i64 a0_6] 26 (0, 0)) (by (with_reducible repeat (first | refine blk_drewN ?_ _ | refine blk_drew ?_ | refine blk_alloc ?_ _)); exact BK535.out) hb); have n2_ := Aside0.mk (blk_below (g := gb536) (o := .cells #[.int .i64 a1_0, .int .i64 a1_1, .int .i64 a1_2] 42 (0, 0)) (by (with_reducible repeat (first | refine blk_drewN ?_ _ | refine blk_drew ?_ | refine blk_alloc ?_ _)); exact BK536.out) hb); have n3_ := Aside0.mk (below_step (by repeat (first | (with_reducible first | exact HB.out | apply below_alloc | apply pw_below_drewN | apply below_drew1 | refine below_set ?_ GE535.out | refine below_set ?_ GE536.out) | exact HB.out)) hb); clear BK535; clear BK536; clear HB; have HO543 := n0_; have BK535 := n1_; have BK536 := n2_; have HB := n3_; clear n0_ n1_ n2_ n3_; (try clear hb); (try clear hb2); (try clear hk); (try clear hi); (try clear ho0); have hcz34_0 : w33.cell? ⟨gb535, 0, none⟩ = some (.slice A0_0 l0_0.length c0_0) := (blk_cell BK535.out 0).trans rfl; have hcz34_1 : w33.cell? ⟨gb535, 1, none⟩ = some (.int .i64 a0_1) := (blk_cell BK535.out 1).trans rfl; have hcz34_2 : w33.cell? ⟨gb535, 2, none⟩ = some (.int .i64 a0_2) := (blk_cell BK535.out 2).trans rfl; have hcz34_3 : w33.cell? ⟨gb535, 3, none⟩ = some (.int .i64 a0_3) := (blk_cell BK535.out 3).trans rfl; have hcz34_4 : w33.cell? ⟨gb535, 4, none⟩ = some (.int .i64 a0_4) := (blk_cell BK535.out 4).trans rfl; have hcz34_5 : w33.cell? ⟨gb535, 5, none⟩ = some (.slice A0_5 l0_5.length c0_5) := (blk_cell BK535.out 5).trans rfl; have hcz34_6 : w33.cell? ⟨gb535, 6, none⟩ = some (.int .i64 a0_6) := (blk_cell BK535.out 6).trans rfl; have hfz34_0 := blk_frozen BK535.out 0; have hfz34_1 := blk_frozen BK535.out 1; have hfz34_2 := blk_frozen BK535.out 2; have hfz34_3 := blk_frozen BK535.out 3; have hfz34_4 := blk_frozen BK535.out 4; have hfz34_5 := blk_frozen BK535.out 5; have hfz34_6 := blk_frozen BK535.out 6) | ((with_reducible refine gate_callee (f := 39) rfl ?_); refine goesL_ (some 38) rfl rfl Tryd.func39 (by kernel_rfl) rfl #[.agg #[.slice A0_0 l0_0.length c0_0, .int .i64 a0_1, .int .i64 a0_2, .int .i64 a0_3, .int .i64 a0_4, .slice A0_5 l0_5.length c0_5, .int .i64 a0_6]] rfl (by (try simp only [List.map_toArray, List.map_cons, List.map_nil]); first | done | rfl | (simp only [List.length_drop, List.length_take]; rfl)) ?_; (with_reducible refine (macadamref06_Wrong.calls kj4 _ _ l0_0 a0_1 a0_2 a0_3 a0_4 _ _ l0_5 a0_6 t545 t548 _ ?side1 ?side2 ?side3 ?side4 A18.out).mono ?_); (case side1 => repeat (first | exact (Kd.C_below HR0_0.out HB.out) | (with_reducible refine Kd.C_alloc ?_ _) | (with_reducible refine Kd.C_drewN ?_ _) | (with_reducible refine Kd.C_drew ?_))); (case side2 => exact HC0_0.out); (case side3 => repeat (first | exact (Kd.C_below HR0_5.out HB.out) | (with_reducible refine Kd.C_alloc ?_ _) | (with_reducible refine Kd.C_drewN ?_ _) | (with_reducible refine Kd.C_drew ?_))); (case side4 => exact HC0_5.out); rintro e w35 ⟨v546, rfl, ho0, hb⟩; refine ⟨_, rfl, ?_⟩; have n0_ := Aside0.mk (Kd.V_elder' (by (with_reducible repeat (first | apply Kd.V_alloc | apply Kd.V_drewN | apply Kd.V_drew)); exact HO543.out) (Kd.R_base ho0) hb); have n1_ := Aside0.mk (Kd.R_lower ho0 (below_size (by repeat (first | (with_reducible first | exact HB.out | apply below_alloc | apply pw_below_drewN | apply below_drew1 | refine below_set ?_ GE535.out | refine below_set ?_ GE536.out) | exact HB.out)))); have n2_ := Aside0.mk (blk_below (g := gb535) (o := .cells #[.slice A0_0 l0_0.length c0_0, .int .i64 a0_1, .int .i64 a0_2, .int .i64 a0_3, .int .i64 a0_4, .slice A0_5 l0_5.length c0_5, .int .i64 a0_6] 26 (0, 0)) (by (with_reducible repeat (first | refine blk_drewN ?_ _ | refine blk_drew ?_ | refine blk_alloc ?_ _)); exact BK535.out) hb); have n3_ := Aside0.mk (blk_below (g := gb536) (o := .cells #[.int .i64 a1_0, .int .i64 a1_1, .int .i64 a1_2] 42 (0, 0)) (by (with_reducible repeat (first | refine blk_drewN ?_ _ | refine blk_drew ?_ | refine blk_alloc ?_ _)); exact BK536.out) hb); have n4_ := Aside0.mk (below_step (by repeat (first | (with_reducible first | exact HB.out | apply below_alloc | apply pw_below_drewN | apply below_drew1 | refine below_set ?_ GE535.out | refine below_set ?_ GE536.out) | exact HB.out)) hb); clear HO543; clear BK535; clear BK536; clear HB; have HO543 := n0_; have HO547 := n1_; have BK535 := n2_; have BK536 := n3_; have HB := n4_; clear n0_ n1_ n2_ n3_ n4_; (try clear hb); (try clear hb2); (try clear hk); (try clear hi); (try clear ho0); obtain ⟨Ao36, co36, eo36⟩ := Kd.V_slice HO543.out; subst eo36; obtain ⟨Ao37, co37, eo37⟩ := Kd.R_slice HO547.out; subst eo37) | ((with_reducible refine gate_callee (f := 40) rfl ?_); refine goesL_ (some 43) rfl rfl Tryd.func40 (by kernel_rfl) rfl #[.slice Ao36 t541.length co36, .slice Ao37 t545.length co37] rfl (by (try simp only [List.map_toArray, List.map_cons, List.map_nil]); first | done | rfl | (simp only [List.length_drop, List.length_take]; rfl)) ?_; (with_reducible refine (macadamref00_Like.calls kj4 _ _ t541 _ _ t545 true _ ?side1 ?side2 ?side3 ?side4 A19.out).mono ?_); (case side1 => repeat (first | exact (Kd.V_reads' HO543.out).2.2 | (with_reducible refine Kd.C_alloc ?_ _) | (with_reducible refine Kd.C_drewN ?_ _) | (with_reducible refine Kd.C_drew ?_))); (case side2 => exact (Kd.V_reads' HO543.out).2.1); (case side3 => repeat (first | exact (Kd.R_reads' HO547.out).2.2 | (with_reducible refine Kd.C_alloc ?_ _) | (with_reducible refine Kd.C_drewN ?_ _) | (with_reducible refine Kd.C_drew ?_))); (case side4 => exact (Kd.R_reads' HO547.out).2.1); rintro e w' ⟨rfl, ⟨nd, rfl⟩⟩; refine ⟨_, rfl, ?_⟩))
      go_ret
      exact ⟨by first | rfl | (simp [errW_none, errW_some] <;> rfl) | (simp only [i64_w, i32_w] <;> rfl) | (simp [*, errW_none, errW_some] <;> rfl), by repeat (first | (with_reducible first | exact HB.out | apply below_alloc | apply pw_below_drewN | apply below_drew1 | refine below_set ?_ GE535.out | refine below_set ?_ GE536.out) | exact HB.out)⟩
    ·replace c20 := Bool.eq_false_iff.mpr c20
     subst c20
     have H1 : (some false) = some r := by rw [if_neg (show ¬ (false = true) by decide)] at H; exact H
     clear H
     have H := H1
     clear H1
     obtain rfl := Option.some.inj H
     have hnb38 := NB535_536.out
     have hnc38 := NB536_535.out
     have hcz39_0 : wc.cell? ⟨gb535, 0, none⟩ = some (.slice A0_0 l0_0.length c0_0) := (blk_cell BK535.out 0).trans rfl
     have hcz39_1 : wc.cell? ⟨gb535, 1, none⟩ = some (.int .i64 a0_1) := (blk_cell BK535.out 1).trans rfl
     have hcz39_2 : wc.cell? ⟨gb535, 2, none⟩ = some (.int .i64 a0_2) := (blk_cell BK535.out 2).trans rfl
     have hcz39_3 : wc.cell? ⟨gb535, 3, none⟩ = some (.int .i64 a0_3) := (blk_cell BK535.out 3).trans rfl
     have hcz39_4 : wc.cell? ⟨gb535, 4, none⟩ = some (.int .i64 a0_4) := (blk_cell BK535.out 4).trans rfl
     have hcz39_5 : wc.cell? ⟨gb535, 5, none⟩ = some (.slice A0_5 l0_5.length c0_5) := (blk_cell BK535.out 5).trans rfl
     have hcz39_6 : wc.cell? ⟨gb535, 6, none⟩ = some (.int .i64 a0_6) := (blk_cell BK535.out 6).trans rfl
     have hfz39_0 := blk_frozen BK535.out 0
     have hfz39_1 := blk_frozen BK535.out 1
     have hfz39_2 := blk_frozen BK535.out 2
     have hfz39_3 := blk_frozen BK535.out 3
     have hfz39_4 := blk_frozen BK535.out 4
     have hfz39_5 := blk_frozen BK535.out 5
     have hfz39_6 := blk_frozen BK535.out 6
     go_wp2_with (first | ((with_reducible refine gate_callee (f := 38) rfl ?_); refine goesL_ (some 33) rfl rfl Tryd.func38 (by kernel_rfl) rfl #[.agg #[.slice A0_0 l0_0.length c0_0, .int .i64 a0_1, .int .i64 a0_2, .int .i64 a0_3, .int .i64 a0_4, .slice A0_5 l0_5.length c0_5, .int .i64 a0_6]] rfl (by (try simp only [List.map_toArray, List.map_cons, List.map_nil]); first | done | rfl | (simp only [List.length_drop, List.length_take]; rfl)) ?_; (with_reducible refine (claim_Wrong.calls _ _ l0_0 a0_1 a0_2 a0_3 a0_4 _ _ l0_5 a0_6 t541 t544 _ ?side1 ?side2 ?side3 ?side4 ?side5 A17.out).mono ?_); (case side1 => first | exact HG.out | exact Glob.step HG.out HB.out | exact Glob.step HG.out (by repeat (first | (with_reducible first | exact HB.out | apply below_alloc | apply pw_below_drewN | apply below_drew1 | refine below_set ?_ GE535.out | refine below_set ?_ GE536.out) | exact HB.out))); (case side2 => repeat (first | exact (Kd.C_below HR0_0.out HB.out) | (with_reducible refine Kd.C_alloc ?_ _) | (with_reducible refine Kd.C_drewN ?_ _) | (with_reducible refine Kd.C_drew ?_))); (case side3 => exact HC0_0.out); (case side4 => repeat (first | exact (Kd.C_below HR0_5.out HB.out) | (with_reducible refine Kd.C_alloc ?_ _) | (with_reducible refine Kd.C_drewN ?_ _) | (with_reducible refine Kd.C_drew ?_))); (case side5 => exact HC0_5.out); rintro e w40 ⟨v542, rfl, ho0, hb⟩; refine ⟨_, rfl, ?_⟩; have n0_ := Aside0.mk (Kd.V_lower (Kd.V_mono (ok' := fun k_ => k_ ≠ gb535 ∧ k_ ≠ gb536) ho0 (fun k_ hk_ => ⟨(Kd.freshB (g := gb535) (o := .cells #[.slice A0_0 l0_0.length c0_0, .int .i64 a0_1, .int .i64 a0_2, .int .i64 a0_3, .int .i64 a0_4, .slice A0_5 l0_5.length c0_5, .int .i64 a0_6] 26 (0, 0)) (by (with_reducible repeat (first | refine blk_drewN ?_ _ | refine blk_drew ?_ | refine blk_alloc ?_ _)); exact BK535.out) k_ hk_), (Kd.freshB (g := gb536) (o := .cells #[.int .i64 a1_0, .int .i64 a1_1, .int .i64 a1_2] 42 (0, 0)) (by (with_reducible repeat (first | refine blk_drewN ?_ _ | refine blk_drew ?_ | refine blk_alloc ?_ _)); exact BK536.out) k_ hk_)⟩)) (below_size (by repeat (first | (with_reducible first | exact HB.out | apply below_alloc | apply pw_below_drewN | apply below_drew1 | refine below_set ?_ GE535.out | refine below_set ?_ GE536.out) | exact HB.out)))); have n1_ := Aside0.mk (blk_below (g := gb535) (o := .cells #[.slice A0_0 l0_0.length c0_0, .int .i64 a0_1, .int .i64 a0_2, .int .i64 a0_3, .int .i64 a0_4, .slice A0_5 l0_5.length c0_5, .int .i64 a0_6] 26 (0, 0)) (by (with_reducible repeat (first | refine blk_drewN ?_ _ | refine blk_drew ?_ | refine blk_alloc ?_ _)); exact BK535.out) hb); have n2_ := Aside0.mk (blk_below (g := gb536) (o := .cells #[.int .i64 a1_0, .int .i64 a1_1, .int .i64 a1_2] 42 (0, 0)) (by (with_reducible repeat (first | refine blk_drewN ?_ _ | refine blk_drew ?_ | refine blk_alloc ?_ _)); exact BK536.out) hb); have n3_ := Aside0.mk (below_step (by repeat (first | (with_reducible first | exact HB.out | apply below_alloc | apply pw_below_drewN | apply below_drew1 | refine below_set ?_ GE535.out | refine below_set ?_ GE536.out) | exact HB.out)) hb); clear BK535; clear BK536; clear HB; have HO543 := n0_; have BK535 := n1_; have BK536 := n2_; have HB := n3_; clear n0_ n1_ n2_ n3_; (try clear hb); (try clear hb2); (try clear hk); (try clear hi); (try clear ho0); have hcz41_0 : w40.cell? ⟨gb535, 0, none⟩ = some (.slice A0_0 l0_0.length c0_0) := (blk_cell BK535.out 0).trans rfl; have hcz41_1 : w40.cell? ⟨gb535, 1, none⟩ = some (.int .i64 a0_1) := (blk_cell BK535.out 1).trans rfl; have hcz41_2 : w40.cell? ⟨gb535, 2, none⟩ = some (.int .i64 a0_2) := (blk_cell BK535.out 2).trans rfl; have hcz41_3 : w40.cell? ⟨gb535, 3, none⟩ = some (.int .i64 a0_3) := (blk_cell BK535.out 3).trans rfl; have hcz41_4 : w40.cell? ⟨gb535, 4, none⟩ = some (.int .i64 a0_4) := (blk_cell BK535.out 4).trans rfl; have hcz41_5 : w40.cell? ⟨gb535, 5, none⟩ = some (.slice A0_5 l0_5.length c0_5) := (blk_cell BK535.out 5).trans rfl; have hcz41_6 : w40.cell? ⟨gb535, 6, none⟩ = some (.int .i64 a0_6) := (blk_cell BK535.out 6).trans rfl; have hfz41_0 := blk_frozen BK535.out 0; have hfz41_1 := blk_frozen BK535.out 1; have hfz41_2 := blk_frozen BK535.out 2; have hfz41_3 := blk_frozen BK535.out 3; have hfz41_4 := blk_frozen BK535.out 4; have hfz41_5 := blk_frozen BK535.out 5; have hfz41_6 := blk_frozen BK535.out 6) | ((with_reducible refine gate_callee (f := 39) rfl ?_); refine goesL_ (some 38) rfl rfl Tryd.func39 (by kernel_rfl) rfl #[.agg #[.slice A0_0 l0_0.length c0_0, .int .i64 a0_1, .int .i64 a0_2, .int .i64 a0_3, .int .i64 a0_4, .slice A0_5 l0_5.length c0_5, .int .i64 a0_6]] rfl (by (try simp only [List.map_toArray, List.map_cons, List.map_nil]); first | done | rfl | (simp only [List.length_drop, List.length_take]; rfl)) ?_; (with_reducible refine (macadamref06_Wrong.calls kj4 _ _ l0_0 a0_1 a0_2 a0_3 a0_4 _ _ l0_5 a0_6 t545 t548 _ ?side1 ?side2 ?side3 ?side4 A18.out).mono ?_); (case side1 => repeat (first | exact (Kd.C_below HR0_0.out HB.out) | (with_reducible refine Kd.C_alloc ?_ _) | (with_reducible refine Kd.C_drewN ?_ _) | (with_reducible refine Kd.C_drew ?_))); (case side2 => exact HC0_0.out); (case side3 => repeat (first | exact (Kd.C_below HR0_5.out HB.out) | (with_reducible refine Kd.C_alloc ?_ _) | (with_reducible refine Kd.C_drewN ?_ _) | (with_reducible refine Kd.C_drew ?_))); (case side4 => exact HC0_5.out); rintro e w42 ⟨v546, rfl, ho0, hb⟩; refine ⟨_, rfl, ?_⟩; have n0_ := Aside0.mk (Kd.V_elder' (by (with_reducible repeat (first | apply Kd.V_alloc | apply Kd.V_drewN | apply Kd.V_drew)); exact HO543.out) (Kd.R_base ho0) hb); have n1_ := Aside0.mk (Kd.R_lower ho0 (below_size (by repeat (first | (with_reducible first | exact HB.out | apply below_alloc | apply pw_below_drewN | apply below_drew1 | refine below_set ?_ GE535.out | refine below_set ?_ GE536.out) | exact HB.out)))); have n2_ := Aside0.mk (blk_below (g := gb535) (o := .cells #[.slice A0_0 l0_0.length c0_0, .int .i64 a0_1, .int .i64 a0_2, .int .i64 a0_3, .int .i64 a0_4, .slice A0_5 l0_5.length c0_5, .int .i64 a0_6] 26 (0, 0)) (by (with_reducible repeat (first | refine blk_drewN ?_ _ | refine blk_drew ?_ | refine blk_alloc ?_ _)); exact BK535.out) hb); have n3_ := Aside0.mk (blk_below (g := gb536) (o := .cells #[.int .i64 a1_0, .int .i64 a1_1, .int .i64 a1_2] 42 (0, 0)) (by (with_reducible repeat (first | refine blk_drewN ?_ _ | refine blk_drew ?_ | refine blk_alloc ?_ _)); exact BK536.out) hb); have n4_ := Aside0.mk (below_step (by repeat (first | (with_reducible first | exact HB.out | apply below_alloc | apply pw_below_drewN | apply below_drew1 | refine below_set ?_ GE535.out | refine below_set ?_ GE536.out) | exact HB.out)) hb); clear HO543; clear BK535; clear BK536; clear HB; have HO543 := n0_; have HO547 := n1_; have BK535 := n2_; have BK536 := n3_; have HB := n4_; clear n0_ n1_ n2_ n3_ n4_; (try clear hb); (try clear hb2); (try clear hk); (try clear hi); (try clear ho0); obtain ⟨Ao43, co43, eo43⟩ := Kd.V_slice HO543.out; subst eo43; obtain ⟨Ao44, co44, eo44⟩ := Kd.R_slice HO547.out; subst eo44) | ((with_reducible refine gate_callee (f := 40) rfl ?_); refine goesL_ (some 43) rfl rfl Tryd.func40 (by kernel_rfl) rfl #[.slice Ao43 t541.length co43, .slice Ao44 t545.length co44] rfl (by (try simp only [List.map_toArray, List.map_cons, List.map_nil]); first | done | rfl | (simp only [List.length_drop, List.length_take]; rfl)) ?_; (with_reducible refine (macadamref00_Like.calls kj4 _ _ t541 _ _ t545 false _ ?side1 ?side2 ?side3 ?side4 A19.out).mono ?_); (case side1 => repeat (first | exact (Kd.V_reads' HO543.out).2.2 | (with_reducible refine Kd.C_alloc ?_ _) | (with_reducible refine Kd.C_drewN ?_ _) | (with_reducible refine Kd.C_drew ?_))); (case side2 => exact (Kd.V_reads' HO543.out).2.1); (case side3 => repeat (first | exact (Kd.R_reads' HO547.out).2.2 | (with_reducible refine Kd.C_alloc ?_ _) | (with_reducible refine Kd.C_drewN ?_ _) | (with_reducible refine Kd.C_drew ?_))); (case side4 => exact (Kd.R_reads' HO547.out).2.1); rintro e w' ⟨rfl, ⟨nd, rfl⟩⟩; refine ⟨_, rfl, ?_⟩))
     go_ret
     exact ⟨by first | rfl | (simp [errW_none, errW_some] <;> rfl) | (simp only [i64_w, i32_w] <;> rfl) | (simp [*, errW_none, errW_some] <;> rfl), by repeat (first | (with_reducible first | exact HB.out | apply below_alloc | apply pw_below_drewN | apply below_drew1 | refine below_set ?_ GE535.out | refine below_set ?_ GE536.out) | exact HB.out)⟩
end Go.Proofs.YtbhjfojbjpbdbaaDoorPX
namespace Go.Proofs.YtbhjfojbjpbdbaaDoorPX
open Go Go.RowKit Go.Proofs.YtbhjfojbjpbdbaaDoor Go.Proofs.YtbhjfojbjpbdbaaDoorW.PrintWords Go.Proofs.YtbhjfojbjpbdbaaDoorW.PrintMore
def nums (l : List Nat) : List Int := l.map fun (n : Nat) => (n : Int)
theorem nums_len (l : List Nat) : (nums l).length = l.length := by simp [nums]
theorem rd_nums {l : List Nat} {i : Nat} (h : i < l.length) : rd (nums l) (i : Int) = (l[i] : Int) := by unfold rd nums; simp [h]
theorem sooner_ev (l m : List Nat) (hlen : l.length = m.length) (hb : l.length ≤ 1000) : ∀ (d i : Nat), i + d = l.length →
  Ev (fun k => macadamref00_Sooner.l0 k (nums l) (nums m) (i : Int)) (soonerL (l.drop i) (m.drop i))
 | 0, i, h => by
  rw [List.drop_eq_nil_of_le (by omega), List.drop_eq_nil_of_le (by omega)]
  refine Ev.step (fun k => by rw [macadamref00_Sooner.l0, if_neg (by rw [nums_len]; omega)]) ?_
  refine Ev.step (f := fun _ => some false) (fun k => ?_) (Ev.now _)
  rw [macadamref00_Sooner.j1, if_neg (by decide), nums_len, nums_len, hlen]
  simp
 | d + 1, i, h => by
  have h1 : i < l.length := by omega
  have h2 : i < m.length := by omega
  have e1 : wrap64 ((i : Int) + 1) = ((i + 1 : Nat) : Int) := by rw [w64 (by omega) (by omega)]; omega
  rw [List.drop_eq_getElem_cons h1, List.drop_eq_getElem_cons h2]
  refine Ev.step (fun k => by rw [macadamref00_Sooner.l0, if_pos (by rw [nums_len]; omega), nums_len, decide_eq_true (show (i : Int) < (m.length : Int) by omega)]) ?_
  by_cases he : l[i] = m[i]
  ·refine Ev.step (fun k => ?_) (by rw [soonerL, if_pos he]; exact sooner_ev l m hlen hb d (i + 1) (by omega))
   rw [macadamref00_Sooner.j1, if_pos rfl, if_pos (by omega), if_pos (by rw [nums_len]; omega), if_pos (by rw [nums_len]; omega), rd_nums h1, rd_nums h2, if_pos (by omega), e1]
  ·refine Ev.step (f := fun _ => some (decide (l[i] < m[i]))) (fun k => ?_) (by rw [soonerL, if_neg he]; exact Ev.now _)
   rw [macadamref00_Sooner.j1, if_pos rfl, if_pos (by omega), if_pos (by rw [nums_len]; omega), if_pos (by rw [nums_len]; omega), rd_nums h1, rd_nums h2, if_neg (by omega)]
   simp
theorem fewer_ev (l m : List Nat) (hb : l.length ≤ 1000) : Ev (fun k => macadamref00_Fewer.f k (nums l) (nums m)) (fewerL l m) := by
 unfold macadamref00_Fewer.f fewerL
 rw [nums_len, nums_len]
 by_cases h : l.length = m.length
 ·rw [if_pos h]
  refine Ev.congr (fun k => by rw [if_pos (by omega)]) ?_
  have := sooner_ev l m h hb l.length 0 (Nat.zero_add _)
  refine Ev.bind this ?_
  exact Ev.now _
 ·rw [if_neg h]
  refine Ev.congr (fun k => ?_) (Ev.now _)
  rw [if_neg (by omega)]
  simp
theorem bits_succ (s : Int) (n : Nat) : bitsL s (n + 1) = bitsL s n ++ (if bitOf s n then [n] else []) := by
 unfold bitsL
 rw [List.range_succ, List.filter_append]
 cases h : bitOf s n <;> simp [h]
theorem bits_len (s : Int) (n : Nat) : (bitsL s n).length ≤ n := Nat.le_trans (List.length_filter_le _ _) (by simp)
theorem bits_has (s : Int) (n k : Nat) (h : k < n) : (bitsL s n).contains k = bitOf s k := by
 unfold bitsL
 cases hb : bitOf s k <;> simp [h, hb]
theorem all_ev {s : Int} (h0 : 0 ≤ s) (h1 : s < 32) {n : Nat} (hn : n < 6) : ∀ (d i : Nat), i + d = n →
  Ev (fun k => macadamref00_All.l0 k s (n : Int) (nums (bitsL s i)) (i : Int)) (nums (bitsL s n))
 | 0, i, h => by
  obtain rfl : i = n := by omega
  refine Ev.step (f := fun _ => some (nums (bitsL s i))) (fun k => by rw [macadamref00_All.l0, if_neg (by omega)]) (Ev.now _)
 | d + 1, i, h => by
  have e1 : wrap64 ((i : Int) + 1) = ((i + 1 : Nat) : Int) := by rw [w64 (by omega) (by omega)]; omega
  have hl := bits_len s i
  have ih := all_ev h0 h1 hn d (i + 1) (by omega)
  rw [bits_succ] at ih
  refine Ev.step (fun k => ?_) ih
  rw [macadamref00_All.l0, if_pos (by omega), in_f h0 h1 (by omega), Option.bind_some]
  cases hb : bitOf s i with
  | true => rw [if_pos rfl, if_pos (by rw [nums_len]; omega), e1]; simp [nums]
  | false => rw [if_neg (by decide), e1]; simp
theorem all_ref {s : Int} (h0 : 0 ≤ s) (h1 : s < 32) {n : Nat} (hn : n < 6) : Ev (fun k => macadamref00_All.f k s (n : Int)) (nums (bitsL s n)) := all_ev h0 h1 hn n 0 (Nat.zero_add _)
theorem like_ev (l : List Int) (hl : l.length ≤ 100000) : Ev (fun k => macadamref00_Like.f k l l) true := by
 unfold macadamref00_Like.f
 have key : ∀ (d i : Nat), i + d = l.length → Ev (fun k => macadamref00_Like.l0 k l l true (i : Int)) true := by
  intro d
  induction d with
  | zero =>
   intro i h
   refine Ev.step (f := fun _ => some true) (fun k => by rw [macadamref00_Like.l0, if_pos rfl, if_neg (by omega)]) (Ev.now _)
  | succ d ih =>
   intro i h
   have e1 : wrap64 ((i : Int) + 1) = ((i + 1 : Nat) : Int) := by rw [w64 (by omega) (by omega)]; omega
   refine Ev.step (fun k => ?_) (ih (i + 1) (by omega))
   rw [macadamref00_Like.l0, if_pos rfl, if_pos (by omega), if_pos (by omega), if_pos (by omega), e1, beq_self_eq_true]
 refine Ev.congr (fun k => by rw [beq_self_eq_true]; rfl) (key l.length 0 (Nat.zero_add _))
theorem shl_key : ∀ n < 5, shl .i64 1 ((n : Nat) : Int) = ((2 ^ n : Nat) : Int) := by decide +kernel
theorem pow_small : ∀ n < 5, 1 ≤ 2 ^ n ∧ 2 ^ n ≤ 16 := by decide +kernel
theorem bits_full : ∀ n < 5, bitsL (((2 ^ n - 1 : Nat) : Nat) : Int) n = List.range n := by decide +kernel
theorem picks_trans : ∀ n < 5, ∀ a ∈ allPicks n, ∀ b ∈ allPicks n, ∀ c ∈ allPicks n, fewerL a b = true → fewerL b c = true → fewerL a c = true := by decide +kernel
theorem picks_of : ∀ n < 5, ∀ a ∈ allPicks n, ∃ s, s < 2 ^ n ∧ bitsL ((s : Nat) : Int) n = a := by decide +kernel
theorem wrongL_char {b : Bk} (hN : b.cks.length < 5) {w : List Nat} (hw : w ∈ allPicks b.cks.length) (hc : canBe b w = true) (hmin : ∀ l ∈ allPicks b.cks.length, canBe b l = true → fewerL l w = false) : wrongL b = w := by
 rcases hf : (allPicks b.cks.length).find? (canBe b) with _ | w'
 ·have := List.find?_eq_none.1 hf _ hw
  exact absurd hc this
 ·have e : wrongL b = w' := by
   unfold wrongL
   rw [show (fun l => !(truths (b.but l)).isEmpty) = canBe b from rfl, hf]
   rfl
  rw [e]
  have hw' := List.find?_some hf
  have hm' := List.mem_of_find?_eq_some hf
  obtain ⟨_, l1, l2, hl, has⟩ := List.find?_eq_some_iff_append.1 hf
  have hpw := picks_order _ hN
  rw [hl] at hw hpw
  rcases List.mem_append.1 hw with hin | hin
  ·have := has _ hin
   rw [hc] at this
   simp at this
  ·rcases List.mem_cons.1 hin with e | hin
   ·exact e.symm
   ·have := (List.pairwise_append.1 hpw).2.1
    have := ((List.pairwise_cons.1 this).1 _ hin).1
    rw [hmin w' hm' hw'] at this
    cases this
theorem wrongL_len {b : Bk} (hN : b.cks.length < 5) : (wrongL b).length ≤ 4 := by
 unfold wrongL
 rcases hf : (allPicks b.cks.length).find? (fun l => !(truths (b.but l)).isEmpty) with _ | w
 ·simp
 ·obtain ⟨s, _, rfl⟩ := picks_of _ hN w (List.mem_of_find?_eq_some hf)
  have := bits_len ((s : Nat) : Int) b.cks.length
  simp only [Option.getD_some]
  omega
def keepS (s : Int) : Nat → List S42 → List S42
 | _, [] => []
 | i, c :: r => if bitOf s i then keepS s (i + 1) r else c :: keepS s (i + 1) r
theorem keep_map (s : Int) (n : Nat) : ∀ (r : List S42) (i : Nat), i + r.length = n → (keepS s i r).map ckOf = leaveOut (bitsL s n) i (r.map ckOf)
 | [], _, _ => rfl
 | c :: r, i, h => by
  simp only [List.length_cons] at h
  rw [keepS, List.map_cons, leaveOut, bits_has s n i (by omega)]
  have ih := keep_map s n r (i + 1) (by omega)
  cases bitOf s i with
  | true => simpa using ih
  | false => simpa using ih
section
variable {l : List S56} {a1 a2 a3 a4 : Int} {ks : List S42} {a6 : Int}
theorem without_ev {s : Int} (h0 : 0 ≤ s) (h1 : s < 32) (hk : ks.length < 6) : ∀ (d i : Nat) (out : List S42), i + d = ks.length → out.length ≤ i →
  Ev (fun k => macadamref06_Without.l0 k s (i : Int) l a1 a2 a3 a4 ks a6 l a1 a2 a3 a4 out a6) (l, a1, a2, a3, a4, out ++ keepS s i (ks.drop i), a6)
 | 0, i, out, h, ho => by
  rw [List.drop_eq_nil_of_le (by omega), keepS, List.append_nil]
  refine Ev.step (f := fun _ => some (l, a1, a2, a3, a4, out, a6)) (fun k => by rw [macadamref06_Without.l0, if_neg (by omega)]) (Ev.now _)
 | d + 1, i, out, h, ho => by
  have hlt : i < ks.length := by omega
  have e1 : wrap64 ((i : Int) + 1) = ((i + 1 : Nat) : Int) := by rw [w64 (by omega) (by omega)]; omega
  rw [List.drop_eq_getElem_cons hlt, keepS]
  cases hb : bitOf s i with
  | true =>
   rw [if_pos rfl]
   refine Ev.step (fun k => ?_) (without_ev h0 h1 hk d (i + 1) out (by omega) (by omega))
   rw [macadamref06_Without.l0, if_pos (by omega), in_f h0 h1 (by omega), Option.bind_some, hb, if_pos rfl, e1]
  | false =>
   rw [if_neg (by decide)]
   have ih := without_ev h0 h1 hk d (i + 1) (out ++ [ks[i]]) (by omega) (by simp; omega)
   rw [List.append_assoc, List.singleton_append] at ih
   refine Ev.step (fun k => ?_) ih
   rw [macadamref06_Without.l0, if_pos (by omega), in_f h0 h1 (by omega), Option.bind_some, hb, if_neg (by decide), if_pos (by omega), if_pos (by omega), e1, rd42 ks i (List.getElem?_eq_getElem hlt)]
theorem without_ref {s : Int} (h0 : 0 ≤ s) (h1 : s < 32) (hk : ks.length < 6) : Ev (fun k => macadamref06_Without.f k l a1 a2 a3 a4 ks a6 s) (l, a1, a2, a3, a4, keepS s 0 ks, a6) := by
 have := without_ev (l := l) (a1 := a1) (a2 := a2) (a3 := a3) (a4 := a4) (ks := ks) (a6 := a6) h0 h1 hk ks.length 0 [] (Nat.zero_add _) (Nat.le_refl _)
 exact this
theorem but_keep (s : Int) : BK l a1 a2 a3 a4 (keepS s 0 ks) a6 = (BK l a1 a2 a3 a4 ks a6).but (bitsL s ks.length) := by
 simp only [BK, bkOf, Bk.but]
 rw [keep_map s ks.length ks 0 (Nat.zero_add _)]
theorem can_ev (hS : Sound (BK l a1 a2 a3 a4 ks a6)) (s : Int) : Ev (fun k => macadamref06_truths.f k l a1 a2 a3 a4 (keepS s 0 ks) a6) ((truths ((BK l a1 a2 a3 a4 ks a6).but (bitsL s ks.length))).map (trS l.length)) := by
 have := truths_ev (l := l) (a1 := a1) (a2 := a2) (a3 := a3) (a4 := a4) (ks := keepS s 0 ks) (a6 := a6) (by rw [but_keep]; exact hS.but _)
 rwa [but_keep] at this
theorem wrong_ev (hok : bkOk (BK l a1 a2 a3 a4 ks a6) = true) (hN : ks.length < 5) : ∀ (d i : Nat) (out : List Nat), i + d = 2 ^ ks.length → out ∈ allPicks ks.length → canBe (BK l a1 a2 a3 a4 ks a6) out = true →
  (∀ s < i, canBe (BK l a1 a2 a3 a4 ks a6) (bitsL ((s : Nat) : Int) ks.length) = true → fewerL (bitsL ((s : Nat) : Int) ks.length) out = false) →
  Ev (fun k => macadamref06_Wrong.l0 k (ks.length : Int) (nums out) (i : Int) l a1 a2 a3 a4 ks a6) (nums (wrongL (BK l a1 a2 a3 a4 ks a6)), 0)
 | 0, i, out, h, hm, hc, hmin => by
  have e : wrongL (BK l a1 a2 a3 a4 ks a6) = out := by
   refine wrongL_char (by simpa [bkOf] using hN) (by simpa [bkOf] using hm) hc (fun a ha hca => ?_)
   obtain ⟨s, hs, rfl⟩ := picks_of ks.length hN a (by simpa [bkOf] using ha)
   exact hmin s (by omega) hca
  rw [e]
  refine Ev.step (f := fun _ => some (nums out, 0)) (fun k => ?_) (Ev.now _)
  rw [macadamref06_Wrong.l0, if_pos (by omega), shl_key _ hN, if_neg (by omega)]
 | d + 1, i, out, h, hm, hc, hmin => by
  have hp := pow_small _ hN
  have hi16 : (i : Int) < 32 := by omega
  have e1 : wrap64 ((i : Int) + 1) = ((i + 1 : Nat) : Int) := by rw [w64 (by omega) (by omega)]; omega
  have hmi := picks_bits _ hN i (by omega)
  have hbl := bits_len (i : Int) ks.length
  have hol : out.length ≤ 1000 := by
   obtain ⟨s, _, rfl⟩ := picks_of ks.length hN out hm
   have := bits_len ((s : Nat) : Int) ks.length
   omega
  refine Ev.step (fun k => by rw [macadamref06_Wrong.l0, if_pos (by omega), shl_key _ hN, if_pos (by omega)]) ?_
  refine Ev.bind (all_ref (by omega) hi16 (by omega)) ?_
  refine Ev.bind (fewer_ev _ _ (by omega)) ?_
  cases hf : fewerL (bitsL ((i : Nat) : Int) ks.length) out with
  | false =>
   refine Ev.congr (fun k => by rw [if_neg (by decide), e1]) (wrong_ev hok hN d (i + 1) out (by omega) hm hc (fun s hs hcs => ?_))
   by_cases hsi : s = i
   ·subst hsi; exact hf
   ·exact hmin s (by omega) hcs
  | true =>
   refine Ev.congr (fun k => by rw [if_pos rfl]) ?_
   refine Ev.bind (without_ref (by omega) hi16 (by omega)) ?_
   refine Ev.bind (can_ev (sound_of hok) (i : Int)) ?_
   cases hcb : canBe (BK l a1 a2 a3 a4 ks a6) (bitsL ((i : Nat) : Int) ks.length) with
   | true =>
    have hne := canBe_ne.1 hcb
    refine Ev.congr (fun k => by rw [if_pos (by rw [List.length_map]; have := List.length_pos_iff.2 hne; omega), e1]) (wrong_ev hok hN d (i + 1) _ (by omega) hmi hcb (fun s hs hcs => ?_))
    by_cases hsi : s = i
    ·subst hsi; exact (picks_each _ hN _ hmi).1
    ·cases hfs : fewerL (bitsL ((s : Nat) : Int) ks.length) (bitsL ((i : Nat) : Int) ks.length) with
     | false => rfl
     | true =>
      have := picks_trans _ hN _ (picks_bits _ hN s (by omega)) _ hmi _ hm hfs hf
      rw [hmin s (by omega) hcs] at this
      cases this
   | false =>
    have hnil : truths ((BK l a1 a2 a3 a4 ks a6).but (bitsL ((i : Nat) : Int) ks.length)) = [] := Classical.byContradiction fun hne => by
     rw [canBe_ne.2 hne] at hcb; cases hcb
    refine Ev.congr (fun k => by rw [hnil, if_neg (by simp), e1]) (wrong_ev hok hN d (i + 1) out (by omega) hm hc (fun s hs hcs => ?_))
    by_cases hsi : s = i
    ·subst hsi; rw [hcb] at hcs; cases hcs
    ·exact hmin s (by omega) hcs
theorem wrong_ref : Ev (fun k => macadamref06_Wrong.f k l a1 a2 a3 a4 ks a6) (nums (wrongS (BK l a1 a2 a3 a4 ks a6)).1, (wrongS (BK l a1 a2 a3 a4 ks a6)).2) := by
 unfold macadamref06_Wrong.f macadamref06_Check.f wrongS
 by_cases h : bkOk (BK l a1 a2 a3 a4 ks a6) = true
 ·have hN : ks.length < 5 := by have := (bkOk_head h).2.2; simp only [bkOf, List.length_map] at this; omega
  have hp := pow_small _ hN
  have hall : canBe (BK l a1 a2 a3 a4 ks a6) (List.range ks.length) = true := by
   rw [canBe_ne]
   have e : (BK l a1 a2 a3 a4 ks a6).but (List.range ks.length) = (BK l a1 a2 a3 a4 ks a6).bare := by
    unfold Bk.but Bk.bare
    rw [leaveOut_all _ _ 0 (fun i hi => by simp [bkOf] at hi; simp; omega)]
   rw [e]
   exact bare_ne h
  have e1 : wrap64 (shl .i64 1 (ks.length : Int) - 1) = ((2 ^ ks.length - 1 : Nat) : Int) := by rw [shl_key _ hN, w64 (by omega) (by omega)]; omega
  rw [if_pos h]
  refine Ev.congr (fun k => by rw [Option.bind_some, if_pos (check_zero.2 h), e1]) ?_
  refine Ev.bind (all_ref (by omega) (by omega) (by omega)) ?_
  rw [bits_full _ hN]
  exact wrong_ev h hN _ 0 _ (Nat.zero_add _) (picks_all _ hN) hall (fun s hs => by omega)
 ·have h' : checkS (BK l a1 a2 a3 a4 ks a6) = 60 := by unfold checkS; rw [if_neg h]
  rw [if_neg h]
  refine Ev.congr (f := fun _ => some (([] : List Int), 60)) (fun k => ?_) (Ev.now _)
  show (some (checkS (BK l a1 a2 a3 a4 ks a6))).bind _ = _
  rw [Option.bind_some, h', if_neg (by decide)]
theorem clock_f (hl : l.length ≤ 9223372036854775807) (c : S42) : macadamref06_isClock.f l a1 a2 a3 a4 ks a6 c.f0 c.f1 c.f2 = some (ckOk (BK l a1 a2 a3 a4 ks a6).sts.length (ckOf c)) := by
 unfold macadamref06_isClock.f ckOk
 rw [stage_f hl, Option.bind_some, amid_f, amid_f]
 have e : isStage (BK l a1 a2 a3 a4 ks a6) c.f0 = within (ckOf c).st 0 (((BK l a1 a2 a3 a4 ks a6).sts.length : Int) - 1) := rfl
 rw [e]
 show _ = some (within (ckOf c).st 0 _ && within c.f1 0 600 && within c.f2 0 5)
 cases within (ckOf c).st 0 (((BK l a1 a2 a3 a4 ks a6).sts.length : Int) - 1) <;> cases within c.f1 0 600 <;> simp
theorem with_bk (c : S42) : BK l a1 a2 a3 a4 (ks ++ [c]) a6 = (BK l a1 a2 a3 a4 ks a6).with (ckOf c) := by
 simp [bkOf, Bk.with]
theorem fits_ref (hl : l.length ≤ 9223372036854775807) (c : S42) : Ev (fun k => macadamref06_Fits.f k l a1 a2 a3 a4 ks a6 c.f0 c.f1 c.f2) (fitsS (BK l a1 a2 a3 a4 ks a6) (ckOf c)) := by
 unfold macadamref06_Fits.f fitsS
 refine Ev.congr (fun k => by rw [clock_f hl, Option.bind_some]) ?_
 refine Ev.bind (asked_ref _) ?_
 by_cases h : askE (BK l a1 a2 a3 a4 ks a6) (ckOk (BK l a1 a2 a3 a4 ks a6).sts.length (ckOf c)) = 0
 ·obtain ⟨hS, hck, _⟩ := asked_zero h
  have hn := hS.nc
  have hkn : ks.length ≤ 1000 := by simpa [bkOf] using hn
  rw [if_pos h, if_pos h]
  have hw : macadamref06_With.f l a1 a2 a3 a4 ks a6 c.f0 c.f1 c.f2 = some (l, a1, a2, a3, a4, ks ++ [c], a6) := by
   unfold macadamref06_With.f
   simp only [Option.bind_some, List.nil_append, List.length_nil, List.length_cons]
   rw [if_pos (by omega), if_pos (by omega)]
  refine Ev.congr (fun k => by rw [if_pos h, hw, Option.bind_some]) ?_
  have hSw : Sound (BK l a1 a2 a3 a4 (ks ++ [c]) a6) := by
   rw [with_bk]
   refine hS.with ?_ ?_
   ·simp only [ckOk, within, Bool.and_eq_true, decide_eq_true_iff] at hck
    have := hS.bd.l3
    omega
   ·by_cases hb : bkOk (BK l a1 a2 a3 a4 ks a6) = true
    ·have := (bkOk_head hb).2.2
     omega
    ·unfold askE at h
     rw [if_neg hb] at h
     cases h
  refine Ev.bind (truths_ev hSw) ?_
  rw [with_bk, List.length_map]
  have : (decide (((truths ((BK l a1 a2 a3 a4 ks a6).with (ckOf c))).length : Int) > 0)) = !(truths ((BK l a1 a2 a3 a4 ks a6).with (ckOf c))).isEmpty := by
   cases truths ((BK l a1 a2 a3 a4 ks a6).with (ckOf c)) <;> simp
  rw [this]
  exact Ev.now _
 ·rw [if_neg h, if_neg h]
  refine Ev.congr (fun k => ?_) (Ev.now _)
  rw [if_neg h]
theorem wrongs_ev (hl : l.length ≤ 9223372036854775807) (c : S42) : Ev (fun k => macadamlaw06_ClaimWrongs.f k l a1 a2 a3 a4 ks a6 c.f0 c.f1 c.f2) true := by
 unfold macadamlaw06_ClaimWrongs.f claim_Fits.f
 refine Ev.congr (fun k => by rw [Option.bind_some]) ?_
 refine Ev.bind (fits_ref hl c) ?_
 refine Ev.congr (fun k => by rw [if_neg (by rw [show (⟨c.f0, c.f1, c.f2⟩ : Ck) = ckOf c from rfl]; simp), show (⟨c.f0, c.f1, c.f2⟩ : Ck) = ckOf c from rfl, bne_self_eq_false]) ?_
 refine Ev.step (fun k => by rw [macadamlaw06_ClaimWrongs.j0, if_neg (by decide), claim_Wrong.f, Option.bind_some]) ?_
 refine Ev.bind wrong_ref ?_
 have hlen : (nums (wrongS (BK l a1 a2 a3 a4 ks a6)).1).length ≤ 100000 := by
  rw [nums_len]
  unfold wrongS
  split
  ·rename_i h
   have := wrongL_len (b := BK l a1 a2 a3 a4 ks a6) (by have := (bkOk_head h).2.2; omega)
   simp only
   omega
  ·simp
 refine Ev.bind (like_ev _ hlen) ?_
 refine Ev.congr (fun k => ?_) (Ev.now true)
 rw [if_pos rfl, if_pos rfl]
 rfl
end
end Go.Proofs.YtbhjfojbjpbdbaaDoorPX
namespace Go.Proofs.YtbhjfojbjpbdbaaDoorPX
open Go.Proofs.YtbhjfojbjpbdbaaDoor (Glob ix3 blk_ix3 bl nrm_ pu_ tk_)
open Go.RowKit Go.Proofs.YtbhjfojbjpbdbaaDoorW.PrintWords Go.Proofs.YtbhjfojbjpbdbaaDoorW.PrintLast Go.Proofs.YtbhjfojbjpbdbaaDoorW.PrintMore

set_option linter.unusedVariables false
set_option linter.unusedSimpArgs false
theorem eqA32 (d : Nat) (w : World) (x0 y0 : Int) (x1 y1 : Int) :
  (Op.equalIn (d + 2) 32 (.agg #[.int .i64 x0, .int .i64 x1]) (.agg #[.int .i64 y0, .int .i64 y1])).run Tryd.prog w = .ok (x0 == y0 && (x1 == y1)) w := by
 refine eqA_of Tryd.underlying32 (by kernel_rfl) ?_
 refine eqf_cons (by rfl) (by go_simp; rfl) (by go_simp; rfl) (by go_simp) ?_
 exact eqf_last (by rfl) (by go_simp; rfl) (by go_simp; rfl) (by go_simp)
end Go.Proofs.YtbhjfojbjpbdbaaDoorPX
namespace Go.Proofs.YtbhjfojbjpbdbaaDoorPX
open Go.Proofs.YtbhjfojbjpbdbaaDoor (Glob ix3 blk_ix3 bl nrm_ pu_ tk_)
open Go.RowKit Go.Proofs.YtbhjfojbjpbdbaaDoorW.PrintWords Go.Proofs.YtbhjfojbjpbdbaaDoorW.PrintLast Go.Proofs.YtbhjfojbjpbdbaaDoorW.PrintMore

set_option linter.unusedVariables false
set_option linter.unusedSimpArgs false
attribute [local go_sem high] eqA32
end Go.Proofs.YtbhjfojbjpbdbaaDoorPX
namespace Go.Proofs.YtbhjfojbjpbdbaaDoorPX
open Go Go.RowKit Go.Proofs.YtbhjfojbjpbdbaaDoor Go.Proofs.YtbhjfojbjpbdbaaDoorW.PrintWords Go.Proofs.YtbhjfojbjpbdbaaDoorW.PrintMore
end Go.Proofs.YtbhjfojbjpbdbaaDoorPX
namespace Go.Proofs.YtbhjfojbjpbdbaaDoorPX
open Go Go.RowKit Go.Proofs.YtbhjfojbjpbdbaaDoor Go.Proofs.YtbhjfojbjpbdbaaDoorW.PrintWords
def ofSt (x : St) : S56 := ⟨x.due, ⟨x.dl, x.dh⟩, ⟨x.rl, x.rh⟩, ⟨x.sl, x.sh⟩⟩
def ofCk (x : Ck) : S42 := ⟨x.st, x.rd, x.er⟩
theorem map_ofSt (l : List St) : (l.map ofSt).map stOf = l := by
 rw [List.map_map]
 exact List.map_id l
theorem map_ofCk (l : List Ck) : (l.map ofCk).map ckOf = l := by
 rw [List.map_map]
 exact List.map_id l
theorem parts_of {W : World} {b : Bk} {n : Nat} {sa ka : Option Addr} {n1 sc n2 kc : Nat} (hv : BookW W n sa ka n1 sc n2 kc b) :
  Kd.C k56 W sa (b.sts.map ofSt).length (b.sts.map ofSt) ∧ (b.sts.map ofSt).length ≤ sc ∧ Kd.C k42 W ka (b.cks.map ofCk).length (b.cks.map ofCk) ∧ (b.cks.map ofCk).length ≤ kc ∧
  n1 = (b.sts.map ofSt).length ∧ n2 = (b.cks.map ofCk).length ∧ (b.sts.map ofSt).length ≤ 9223372036854775807 := by
 have h1 := hv.hs
 have h2 := hv.hk
 obtain ⟨c1, c2, c3⟩ := reads_of_sl (d := k56) (f := stOf) (xs := b.sts.map ofSt) St.cells (fun x => k56_mk W x) (fun _ => rfl) rfl (by rw [map_ofSt]; exact h1)
 obtain ⟨c4, c5, c6⟩ := reads_of_sl (d := k42) (f := ckOf) (xs := b.cks.map ofCk) Ck.cells (fun x => k42_mk W x) (fun _ => rfl) rfl (by rw [map_ofCk]; exact h2)
 exact ⟨c1, c2, c4, c5, c3, c6, c1.2.1⟩
end Go.Proofs.YtbhjfojbjpbdbaaDoorPX
namespace Go.Proofs.YtbhjfojbjpbdbaaDoor
open Go Go.RowKit Go.Proofs.YtbhjfojbjpbdbaaDoorPX Go.Proofs.YtbhjfojbjpbdbaaDoorW.PrintWords
end Go.Proofs.YtbhjfojbjpbdbaaDoor
namespace Go.Proofs.YtbhjfojbjpbdbaaDoor
open Go.ChangeShapes Go.WideShapes Go.ChangeAt Go.RowKit Go.Deep
set_option maxRecDepth 100000 in
theorem open_clockv {H : Type} {enc : TypeId × Value → H} {w : World} {base : Nat} {spare : Nat → Bool} {held : Bool} {v : Value} {d : DataW H} {p : List MemPlace} {r : Reach} {b0 : Nat} (hval : Value.okWide Tryd.prog w r b0 42 v) (h : DataW.Trod enc Tryd.prog w base spare held 42 v d p) :
  ∃ c : Ck, v = .agg #[.int .i64 c.st, .int .i64 c.rd, .int .i64 c.er] := by
 obtain ⟨cs, rfl, hsz⟩ := okWide_struct Tryd.underlying42 hval
 obtain ⟨fuel, hf⟩ := h
 have hf' : DataW.trod enc Tryd.prog w base spare held fuel 42 cs.toList = some (d, p) := hf
 obtain ⟨c, hc⟩ := open_clock hf'
 refine ⟨c, ?_⟩
 have : cs = #[.int .i64 c.st, .int .i64 c.rd, .int .i64 c.er] := by
  apply Array.ext'
  rw [hc]
  rfl
 rw [this]
end Go.Proofs.YtbhjfojbjpbdbaaDoor
namespace Go.Proofs.YtbhjfojbjpbdbaaDoor
open Go Go.RowKit Go.Proofs.YtbhjfojbjpbdbaaDoorPX Go.Proofs.YtbhjfojbjpbdbaaDoorW.PrintWords
open Go.ChangeShapes Go.WideShapes Go.ChangeAt Go.Deep
theorem wrongs_walk (W : World) (c : Ck) (b : Bk) (n : Nat) (sa ka : Option Addr) (n1 sc n2 kc : Nat) (hv : BookW W n sa ka n1 sc n2 kc b) (hG : Glob W) :
  Calls Tryd.prog 5 #[.agg (b.cells (.slice sa n1 sc) (.slice ka n2 kc)).toArray, .agg #[.int .i64 c.st, .int .i64 c.rd, .int .i64 c.er]] W fun e W' => e = .returned (.bool true) ∧ Below W.heap.size W W' := by
 obtain ⟨c1, c2, c3, c4, rfl, rfl, hl⟩ := parts_of hv
 obtain ⟨k, hk⟩ := (wrongs_ev (l := b.sts.map ofSt) (a1 := b.wth) (a2 := b.c0) (a3 := b.c1) (a4 := b.c2) (ks := b.cks.map ofCk) (a6 := b.rate) hl (ofCk c)).rounds
 exact macadamlaw06_ClaimWrongs.calls k sa sc (b.sts.map ofSt) b.wth b.c0 b.c1 b.c2 ka kc (b.cks.map ofCk) b.rate c.st c.rd c.er true W hG c1 c2 c3 c4 hk
end Go.Proofs.YtbhjfojbjpbdbaaDoor
