/-
  billed: the chapter's examples hold of the program (package macadamlaw06). Written by this session; printed by wip/tools/a28.py.
-/
import Derived.Test.YtbhjfojbjpbdbaaDoorK5
import Derived.Test.YtbhjfojbjpbdbaaDoorA23
import Derived.Test.YtbhjfojbjpbdbaaDoorA18
import Derived.Test.YtbhjfojbjpbdbaaDoorK4
import Derived.Test.YtbhjfojbjpbdbaaDoorK6
namespace Go.Proofs.YtbhjfojbjpbdbaaDoor
open Go.RowKit

theorem bil1 : comesS (bookB 62 []) 1 = (56, 68, 0) := by decide +kernel
theorem bil2 : lateS (bookB 62 [⟨1, 66, 0⟩]) 0 = (0, 2, 0) := by decide +kernel
theorem bil3 : roughS (bookB 62 [⟨1, 66, 0⟩]) 0 = (0, 2, 0) := by decide +kernel
theorem bil4 : weatherS (bookB 62 [⟨1, 66, 0⟩]) = (2, 0) := by decide +kernel
theorem bil5 : blameS (bookB 61 [⟨1, 66, 0⟩]) = (1, 0) := by decide +kernel
theorem bil6 : owesS (bookB 61 [⟨1, 66, 0⟩]) = (20, 25, 0) := by decide +kernel
theorem bil7 : paysS (bookB 62 [⟨1, 66, 0⟩]) = (20, 0) := by decide +kernel
theorem bil8 : fitsS (bookB 62 [⟨1, 66, 0⟩]) ⟨0, 32, 0⟩ = (true, 0) := by decide +kernel
theorem bil9 : wrongS (bookB 62 [⟨1, 66, 0⟩, ⟨0, 26, 0⟩]) = ([0], 0) := by decide +kernel
theorem bil10 : firstS (bookB 62 [⟨1, 66, 0⟩]) = (1, 0) := by decide +kernel
theorem bil11 : rightS (bookB 62 []) = (true, 0) := by decide +kernel

theorem reach_sz (a b : Int) (w : World) : Calls Tryd.prog 53 #[.int .i64 a, .int .i64 b] w fun e w' => e = .returned (.agg #[.int .i64 a, .int .i64 b]) ∧ Below w.heap.size w w' ∧ w'.heap.size = w.heap.size + 1 := by
  go_enter Tryd.func53, Tryd.ntmps53
  go_wp2
  refine bodyPost_ret (v := .agg #[.int .i64 a, .int .i64 b]) (by simp [results, Tryd.results53, go_sem]) rfl ⟨rfl, ?_⟩
  first
    | exact ⟨(Below.refl _ _).alloc (Nat.le_refl _) _, by simp⟩
    | exact ⟨(((Below.refl _ _).alloc (Nat.le_refl _) _).setCell (by simp) _).setCell (by simp) _, by simp [World.setCell]⟩

set_option maxRecDepth 100000 in
set_option maxHeartbeats 8000000 in
theorem billed_any (W : World) (hG : Glob W) : Calls Tryd.prog 25 #[] W fun e W' => e = .returned (.bool true) ∧ Below W.heap.size W W' := by
  have HG0 := Lib.hid hG
  have HB0 := Lib.hid (Below.refl W.heap.size W)
  clear hG
  go_enter Tryd.func25, Tryd.ntmps25
  go_upto_region 1 with fail
  go_upto_region 2 with (first
    | (go_at_call 59; refine (own_any _).mono ?_; rintro e wa1 ⟨g, rfl, hba, hva⟩; have HA1 := Lib.hid hba; have HV1 := Lib.hid hva; have HGA1 := Lib.hid (HG0.out.below HG0.out.lt hba); clear hba hva; simp only [bookB, Bk.cells])
    | (go_at_call 19; refine (comes_ex wa1 (bookB 62 []) 1 _ _ _ _ _ _ _ HV1.out HGA1.out).mono ?_; rintro e wb1 ⟨rfl, hbb⟩; rw [bil1]; have HBB1 := Lib.hid hbb; clear hbb)
    | fail)
  have hbw1 : Below W.heap.size W wb1 := HA1.out.trans (HBB1.out.mono HA1.out.size)
  obtain ⟨X1, hX1⟩ : ∃ X, wb1.alloc (.cells #[.int .i64 56, .int .i64 68] 32) = X := ⟨_, rfl⟩
  have hq1 : X1.heap[wb1.heap.size]? = some (.cells #[.int .i64 56, .int .i64 68] 32) := by rw [← hX1]; exact World.alloc_heap_new _ _
  have hbx1 : Below W.heap.size W X1 := by rw [← hX1]; exact hbw1.alloc hbw1.size _
  rw [hX1]
  clear hX1
  obtain ⟨P1, hP1⟩ : ∃ P, wb1.heap.size = P := ⟨_, rfl⟩
  rw [hP1] at hq1 ⊢
  clear hP1
  have HQ1 := Lib.hid hq1
  clear hq1
  have HG1 := Lib.hid (HG0.out.below HG0.out.lt hbx1)
  have HB1 := Lib.hid (HB0.out.trans (hbx1.mono HB0.out.size))
  clear hbx1 hbw1 HA1 HBB1 HV1 HGA1
  go_upto_region 3 with (first
    | (go_at_call 62; refine (read_any _).mono ?_; rintro e wa2 ⟨g, h, rfl, hba, hva⟩; have HA2 := Lib.hid hba; have HV2 := Lib.hid hva; have HGA2 := Lib.hid (HG1.out.below HG1.out.lt hba); clear hba hva; simp only [bookB, Bk.cells])
    | (go_at_call 21; refine (late_ex wa2 (bookB 62 [⟨1, 66, 0⟩]) 0 _ _ _ _ _ _ _ HV2.out HGA2.out).mono ?_; rintro e wb2 ⟨rfl, hbb⟩; rw [bil2]; have HBB2 := Lib.hid hbb; clear hbb)
    | fail)
  have hbw2 : Below X1.heap.size X1 wb2 := HA2.out.trans (HBB2.out.mono HA2.out.size)
  obtain ⟨X2, hX2⟩ : ∃ X, wb2.alloc (.cells #[.int .i64 0, .int .i64 2] 32) = X := ⟨_, rfl⟩
  have hq2 : X2.heap[wb2.heap.size]? = some (.cells #[.int .i64 0, .int .i64 2] 32) := by rw [← hX2]; exact World.alloc_heap_new _ _
  have hbx2 : Below X1.heap.size X1 X2 := by rw [← hX2]; exact hbw2.alloc hbw2.size _
  rw [hX2]
  clear hX2
  obtain ⟨P2, hP2⟩ : ∃ P, wb2.heap.size = P := ⟨_, rfl⟩
  rw [hP2] at hq2 ⊢
  clear hP2
  have hq1 : X2.heap[P1]? = some (.cells #[.int .i64 56, .int .i64 68] 32) := (hbx2.block _ (Array.getElem?_eq_some_iff.1 HQ1.out).1).trans HQ1.out
  have HQ1 := Lib.hid hq1
  have HQ2 := Lib.hid hq2
  clear hq1 hq2
  have HG2 := Lib.hid (HG1.out.below HG1.out.lt hbx2)
  have HB2 := Lib.hid (HB1.out.trans (hbx2.mono HB1.out.size))
  clear hbx2 hbw2 HA2 HBB2 HV2 HGA2
  go_upto_region 4 with (first
    | (go_at_call 62; refine (read_any _).mono ?_; rintro e wa3 ⟨g, h, rfl, hba, hva⟩; have HA3 := Lib.hid hba; have HV3 := Lib.hid hva; have HGA3 := Lib.hid (HG2.out.below HG2.out.lt hba); clear hba hva; simp only [bookB, Bk.cells])
    | (go_at_call 23; refine (rough_ex wa3 (bookB 62 [⟨1, 66, 0⟩]) 0 _ _ _ _ _ _ _ HV3.out HGA3.out).mono ?_; rintro e wb3 ⟨rfl, hbb⟩; rw [bil3]; have HBB3 := Lib.hid hbb; clear hbb)
    | fail)
  have hbw3 : Below X2.heap.size X2 wb3 := HA3.out.trans (HBB3.out.mono HA3.out.size)
  obtain ⟨X3, hX3⟩ : ∃ X, wb3.alloc (.cells #[.int .i64 0, .int .i64 2] 32) = X := ⟨_, rfl⟩
  have hq3 : X3.heap[wb3.heap.size]? = some (.cells #[.int .i64 0, .int .i64 2] 32) := by rw [← hX3]; exact World.alloc_heap_new _ _
  have hbx3 : Below X2.heap.size X2 X3 := by rw [← hX3]; exact hbw3.alloc hbw3.size _
  rw [hX3]
  clear hX3
  obtain ⟨P3, hP3⟩ : ∃ P, wb3.heap.size = P := ⟨_, rfl⟩
  rw [hP3] at hq3 ⊢
  clear hP3
  have hq1 : X3.heap[P1]? = some (.cells #[.int .i64 56, .int .i64 68] 32) := (hbx3.block _ (Array.getElem?_eq_some_iff.1 HQ1.out).1).trans HQ1.out
  have hq2 : X3.heap[P2]? = some (.cells #[.int .i64 0, .int .i64 2] 32) := (hbx3.block _ (Array.getElem?_eq_some_iff.1 HQ2.out).1).trans HQ2.out
  have HQ1 := Lib.hid hq1
  have HQ2 := Lib.hid hq2
  have HQ3 := Lib.hid hq3
  clear hq1 hq2 hq3
  have HG3 := Lib.hid (HG2.out.below HG2.out.lt hbx3)
  have HB3 := Lib.hid (HB2.out.trans (hbx3.mono HB2.out.size))
  clear hbx3 hbw3 HA3 HBB3 HV3 HGA3
  go_upto_region 5 with (first
    | (go_at_call 62; refine (read_any _).mono ?_; rintro e wa4 ⟨g, h, rfl, hba, hva⟩; have HA4 := Lib.hid hba; have HV4 := Lib.hid hva; have HGA4 := Lib.hid (HG3.out.below HG3.out.lt hba); clear hba hva; simp only [bookB, Bk.cells])
    | (go_at_call 26; refine (weather_ex wa4 (bookB 62 [⟨1, 66, 0⟩]) _ _ _ _ _ _ _ HV4.out HGA4.out).mono ?_; rintro e wb4 ⟨rfl, hbb⟩; rw [bil4]; have HBB4 := Lib.hid hbb; clear hbb)
    | fail)
  have hbw4 : Below X3.heap.size X3 wb4 := HA4.out.trans (HBB4.out.mono HA4.out.size)
  have hbx4 := hbw4
  have hq1 : wb4.heap[P1]? = some (.cells #[.int .i64 56, .int .i64 68] 32) := (hbx4.block _ (Array.getElem?_eq_some_iff.1 HQ1.out).1).trans HQ1.out
  have hq2 : wb4.heap[P2]? = some (.cells #[.int .i64 0, .int .i64 2] 32) := (hbx4.block _ (Array.getElem?_eq_some_iff.1 HQ2.out).1).trans HQ2.out
  have hq3 : wb4.heap[P3]? = some (.cells #[.int .i64 0, .int .i64 2] 32) := (hbx4.block _ (Array.getElem?_eq_some_iff.1 HQ3.out).1).trans HQ3.out
  have HQ1 := Lib.hid hq1
  have HQ2 := Lib.hid hq2
  have HQ3 := Lib.hid hq3
  clear hq1 hq2 hq3
  have HG4 := Lib.hid (HG3.out.below HG3.out.lt hbx4)
  have HB4 := Lib.hid (HB3.out.trans (hbx4.mono HB3.out.size))
  clear hbx4 hbw4 HA4 HBB4 HV4 HGA4
  go_upto_region 6 with (first
    | (go_at_call 63; refine (tight_any _).mono ?_; rintro e wa5 ⟨g, h, rfl, hba, hva⟩; have HA5 := Lib.hid hba; have HV5 := Lib.hid hva; have HGA5 := Lib.hid (HG4.out.below HG4.out.lt hba); clear hba hva; simp only [bookB, Bk.cells])
    | (go_at_call 28; refine (blame_ex wa5 (bookB 61 [⟨1, 66, 0⟩]) _ _ _ _ _ _ _ HV5.out HGA5.out).mono ?_; rintro e wb5 ⟨rfl, hbb⟩; rw [bil5]; have HBB5 := Lib.hid hbb; clear hbb)
    | fail)
  have hbw5 : Below wb4.heap.size wb4 wb5 := HA5.out.trans (HBB5.out.mono HA5.out.size)
  have hbx5 := hbw5
  have hq1 : wb5.heap[P1]? = some (.cells #[.int .i64 56, .int .i64 68] 32) := (hbx5.block _ (Array.getElem?_eq_some_iff.1 HQ1.out).1).trans HQ1.out
  have hq2 : wb5.heap[P2]? = some (.cells #[.int .i64 0, .int .i64 2] 32) := (hbx5.block _ (Array.getElem?_eq_some_iff.1 HQ2.out).1).trans HQ2.out
  have hq3 : wb5.heap[P3]? = some (.cells #[.int .i64 0, .int .i64 2] 32) := (hbx5.block _ (Array.getElem?_eq_some_iff.1 HQ3.out).1).trans HQ3.out
  have HQ1 := Lib.hid hq1
  have HQ2 := Lib.hid hq2
  have HQ3 := Lib.hid hq3
  clear hq1 hq2 hq3
  have HG5 := Lib.hid (HG4.out.below HG4.out.lt hbx5)
  have HB5 := Lib.hid (HB4.out.trans (hbx5.mono HB4.out.size))
  clear hbx5 hbw5 HA5 HBB5 HV5 HGA5
  have a0 : wb5.cell? ⟨P1, 0, none⟩ = _ := blk_cell HQ1.out
  have a1 : wb5.cell? ⟨P1, 1, none⟩ = _ := blk_cell HQ1.out
  have al : P1 < wb5.heap.size := (Array.getElem?_eq_some_iff.1 HQ1.out).1
  have b0 : wb5.cell? ⟨P2, 0, none⟩ = _ := blk_cell HQ2.out
  have b1 : wb5.cell? ⟨P2, 1, none⟩ = _ := blk_cell HQ2.out
  have bl : P2 < wb5.heap.size := (Array.getElem?_eq_some_iff.1 HQ2.out).1
  have c0 : wb5.cell? ⟨P3, 0, none⟩ = _ := blk_cell HQ3.out
  have c1 : wb5.cell? ⟨P3, 1, none⟩ = _ := blk_cell HQ3.out
  have cl : P3 < wb5.heap.size := (Array.getElem?_eq_some_iff.1 HQ3.out).1
  refine wp_region_det (S := fun _ w' => (∀ b o, b < wb5.heap.size → w'.cell? ⟨b, o, none⟩ = wb5.cell? ⟨b, o, none⟩) ∧ Below wb5.heap.size wb5 w') (by kernel_rfl) (by kernel_rfl) (hs0 wb5) ?_
  repeat
    apply det_cons
    · refine ⟨by rfl, fun L w hN hS => ?_⟩
      obtain ⟨hcc, hu⟩ := hS
      go_simp
      first
        | exact ⟨rfl, fun _ _ _ => ⟨hcc, hu⟩⟩
        | (refine (reach_any _ _ _).mono ?_; rintro e w' ⟨rfl, hbb⟩; exact ⟨rfl, fun _ _ _ => hs1 hbb ⟨hcc, hu⟩⟩)
    try simp only [Act.put, List.setIfInBounds_toArray, List.set_cons_zero, List.set_cons_succ]
  refine det_nil ?_
  rintro L w' hL ⟨hcc, hu⟩
  clear a0 a1 al b0 b1 bl c0 c1 cl hL
  have HG6 := Lib.hid (HG5.out.below HG5.out.lt hu)
  have HB6 := Lib.hid (HB5.out.trans (hu.mono HB5.out.size))
  clear hcc hu
  clear HQ1 HQ2 HQ3
  go_upto_region 8 with fail
  go_upto_region 9 with (first
    | (go_at_call 63; refine (tight_any _).mono ?_; rintro e wa7 ⟨g, h, rfl, hba, hva⟩; have HA7 := Lib.hid hba; have HV7 := Lib.hid hva; have HGA7 := Lib.hid (HG6.out.below HG6.out.lt hba); clear hba hva; simp only [bookB, Bk.cells])
    | (go_at_call 30; refine (owes_ex wa7 (bookB 61 [⟨1, 66, 0⟩]) _ _ _ _ _ _ _ HV7.out HGA7.out).mono ?_; rintro e wb7 ⟨rfl, hbb⟩; rw [bil6]; have HBB7 := Lib.hid hbb; clear hbb)
    | fail)
  have hbw7 : Below w'.heap.size w' wb7 := HA7.out.trans (HBB7.out.mono HA7.out.size)
  obtain ⟨X7, hX7⟩ : ∃ X, wb7.alloc (.cells #[.int .i64 20, .int .i64 25] 32) = X := ⟨_, rfl⟩
  have hq7 : X7.heap[wb7.heap.size]? = some (.cells #[.int .i64 20, .int .i64 25] 32) := by rw [← hX7]; exact World.alloc_heap_new _ _
  have hbx7 : Below w'.heap.size w' X7 := by rw [← hX7]; exact hbw7.alloc hbw7.size _
  rw [hX7]
  clear hX7
  obtain ⟨P7, hP7⟩ : ∃ P, wb7.heap.size = P := ⟨_, rfl⟩
  rw [hP7] at hq7 ⊢
  clear hP7
  have HQ7 := Lib.hid hq7
  clear hq7
  have HG7 := Lib.hid (HG6.out.below HG6.out.lt hbx7)
  have HB7 := Lib.hid (HB6.out.trans (hbx7.mono HB6.out.size))
  clear hbx7 hbw7 HA7 HBB7 HV7 HGA7
  go_upto_region 10 with (first
    | (go_at_call 62; refine (read_any _).mono ?_; rintro e wa8 ⟨g, h, rfl, hba, hva⟩; have HA8 := Lib.hid hba; have HV8 := Lib.hid hva; have HGA8 := Lib.hid (HG7.out.below HG7.out.lt hba); clear hba hva; simp only [bookB, Bk.cells])
    | (go_at_call 32; refine (pays_ex wa8 (bookB 62 [⟨1, 66, 0⟩]) _ _ _ _ _ _ _ HV8.out HGA8.out).mono ?_; rintro e wb8 ⟨rfl, hbb⟩; rw [bil7]; have HBB8 := Lib.hid hbb; clear hbb)
    | fail)
  have hbw8 : Below X7.heap.size X7 wb8 := HA8.out.trans (HBB8.out.mono HA8.out.size)
  have hbx8 := hbw8
  have hq7 : wb8.heap[P7]? = some (.cells #[.int .i64 20, .int .i64 25] 32) := (hbx8.block _ (Array.getElem?_eq_some_iff.1 HQ7.out).1).trans HQ7.out
  have HQ7 := Lib.hid hq7
  clear hq7
  have HG8 := Lib.hid (HG7.out.below HG7.out.lt hbx8)
  have HB8 := Lib.hid (HB7.out.trans (hbx8.mono HB7.out.size))
  clear hbx8 hbw8 HA8 HBB8 HV8 HGA8
  go_upto_region 11 with (first
    | (go_at_call 62; refine (read_any _).mono ?_; rintro e wa9 ⟨g, h, rfl, hba, hva⟩; have HA9 := Lib.hid hba; have HV9 := Lib.hid hva; have HGA9 := Lib.hid (HG8.out.below HG8.out.lt hba); clear hba hva; simp only [bookB, Bk.cells])
    | (go_at_call 49; refine (clock_any _ _ _ _).mono ?_; rintro e wc9 ⟨rfl, hbc⟩; have HC9 := Lib.hid hbc; have HVC9 := Lib.hid (HV9.out.below (Nat.le_refl _) hbc); have HGC9 := Lib.hid (HGA9.out.below HGA9.out.lt hbc); clear hbc; simp only [Ck.cells])
    | (go_at_call 36; refine (fits_ex wc9 (bookB 62 [⟨1, 66, 0⟩]) ⟨0, 32, 0⟩ _ _ _ _ _ _ _ HVC9.out HGC9.out).mono ?_; rintro e wb9 ⟨rfl, hbb⟩; rw [bil8]; have HBB9 := Lib.hid hbb; clear hbb)
    | fail)
  have hbw9 : Below wb8.heap.size wb8 wb9 := HA9.out.trans ((HC9.out.trans (HBB9.out.mono HC9.out.size)).mono HA9.out.size)
  have hbx9 := hbw9
  have hq7 : wb9.heap[P7]? = some (.cells #[.int .i64 20, .int .i64 25] 32) := (hbx9.block _ (Array.getElem?_eq_some_iff.1 HQ7.out).1).trans HQ7.out
  have HQ7 := Lib.hid hq7
  clear hq7
  have HG9 := Lib.hid (HG8.out.below HG8.out.lt hbx9)
  have HB9 := Lib.hid (HB8.out.trans (hbx9.mono HB8.out.size))
  clear hbx9 hbw9 HA9 HBB9 HV9 HGA9
  go_upto_region 12 with (first
    | (go_at_call 61; refine (torn_any _).mono ?_; rintro e wa10 ⟨g, h, rfl, hba, hva⟩; have HA10 := Lib.hid hba; have HV10 := Lib.hid hva; have HGA10 := Lib.hid (HG9.out.below HG9.out.lt hba); clear hba hva; simp only [bookB, Bk.cells])
    | (go_at_call 38; refine (wrong_ex wa10 (bookB 62 [⟨1, 66, 0⟩, ⟨0, 26, 0⟩]) _ _ _ _ _ _ _ HV10.out HGA10.out).mono ?_; rintro e wb10 ⟨ra, rl, rc, rfl, hbb, hsw⟩; rw [bil9] at hsw ⊢; have HBB10 := Lib.hid hbb; have HSW := Lib.hid hsw; clear hbb hsw)
    | fail)
  have hbw10 : Below wb9.heap.size wb9 wb10 := HA10.out.trans (HBB10.out.mono HA10.out.size)
  have hbx10 := hbw10
  have hq7 : wb10.heap[P7]? = some (.cells #[.int .i64 20, .int .i64 25] 32) := (hbx10.block _ (Array.getElem?_eq_some_iff.1 HQ7.out).1).trans HQ7.out
  have HQ7 := Lib.hid hq7
  clear hq7
  have HSX := HSW
  have HG10 := Lib.hid (HG9.out.below HG9.out.lt hbx10)
  have HB10 := Lib.hid (HB9.out.trans (hbx10.mono HB9.out.size))
  clear hbx10 hbw10 HA10 HBB10 HV10 HGA10
  go_upto_region 13 with (first
    | (go_at_call 62; refine (read_any _).mono ?_; rintro e wa11 ⟨g, h, rfl, hba, hva⟩; have HA11 := Lib.hid hba; have HV11 := Lib.hid hva; have HGA11 := Lib.hid (HG10.out.below HG10.out.lt hba); clear hba hva; simp only [bookB, Bk.cells])
    | (go_at_call 34; refine (first_ex wa11 (bookB 62 [⟨1, 66, 0⟩]) _ _ _ _ _ _ _ HV11.out HGA11.out).mono ?_; rintro e wb11 ⟨rfl, hbb⟩; rw [bil10]; have HBB11 := Lib.hid hbb; clear hbb)
    | fail)
  have hbw11 : Below wb10.heap.size wb10 wb11 := HA11.out.trans (HBB11.out.mono HA11.out.size)
  have hbx11 := hbw11
  have hq7 : wb11.heap[P7]? = some (.cells #[.int .i64 20, .int .i64 25] 32) := (hbx11.block _ (Array.getElem?_eq_some_iff.1 HQ7.out).1).trans HQ7.out
  have HQ7 := Lib.hid hq7
  clear hq7
  have hsx := HSX.out.below (Nat.le_refl _) hbx11
  have HSX := Lib.hid (hsx.mono hbx11.size)
  clear hsx
  have HG11 := Lib.hid (HG10.out.below HG10.out.lt hbx11)
  have HB11 := Lib.hid (HB10.out.trans (hbx11.mono HB10.out.size))
  clear hbx11 hbw11 HA11 HBB11 HV11 HGA11
  go_upto_region 14 with (first
    | (go_at_call 59; refine (own_any _).mono ?_; rintro e wa12 ⟨g, rfl, hba, hva⟩; have HA12 := Lib.hid hba; have HV12 := Lib.hid hva; have HGA12 := Lib.hid (HG11.out.below HG11.out.lt hba); clear hba hva; simp only [bookB, Bk.cells])
    | (go_at_call 15; refine (right_ex wa12 (bookB 62 []) _ _ _ _ _ _ _ HV12.out HGA12.out).mono ?_; rintro e wb12 ⟨rfl, hbb⟩; rw [bil11]; have HBB12 := Lib.hid hbb; clear hbb)
    | fail)
  have hbw12 : Below wb11.heap.size wb11 wb12 := HA12.out.trans (HBB12.out.mono HA12.out.size)
  have hbx12 := hbw12
  have hq7 : wb12.heap[P7]? = some (.cells #[.int .i64 20, .int .i64 25] 32) := (hbx12.block _ (Array.getElem?_eq_some_iff.1 HQ7.out).1).trans HQ7.out
  have HQ7 := Lib.hid hq7
  clear hq7
  have hsx := HSX.out.below (Nat.le_refl _) hbx12
  have HSX := Lib.hid (hsx.mono hbx12.size)
  clear hsx
  have HG12 := Lib.hid (HG11.out.below HG11.out.lt hbx12)
  have HB12 := Lib.hid (HB11.out.trans (hbx12.mono HB11.out.size))
  clear hbx12 hbw12 HA12 HBB12 HV12 HGA12
  have a0 : wb12.cell? ⟨P7, 0, none⟩ = _ := blk_cell HQ7.out
  have a1 : wb12.cell? ⟨P7, 1, none⟩ = _ := blk_cell HQ7.out
  have al : P7 < wb12.heap.size := (Array.getElem?_eq_some_iff.1 HQ7.out).1
  have hsz : wb12.heap.size < wb12.heap.size + 1 := Nat.lt_succ_self _
  have hz0 : ∀ L : Nat → Bool, (∀ i, L i = false) → (fun (L : Nat → Bool) (w' : World) => ((∀ b o, b < wb12.heap.size → w'.cell? ⟨b, o, none⟩ = wb12.cell? ⟨b, o, none⟩) ∧ Below wb12.heap.size wb12 w') ∧ (L 36 = false → w'.heap.size = wb12.heap.size + (if L 24 = true then 1 else 0)) ∧ (L 36 = true → wb12.heap.size + 1 < w'.heap.size ∧ w'.cell? ⟨wb12.heap.size + 1, 0, none⟩ = some (.int .i64 0))) L wb12.drew := fun L h => ⟨hs0 _, fun _ => by rw [h 24]; rfl, fun h' => by rw [h 36] at h'; cases h'⟩
  refine wp_region_det (S := fun L w' => ((∀ b o, b < wb12.heap.size → w'.cell? ⟨b, o, none⟩ = wb12.cell? ⟨b, o, none⟩) ∧ Below wb12.heap.size wb12 w') ∧ (L 36 = false → w'.heap.size = wb12.heap.size + (if L 24 = true then 1 else 0)) ∧ (L 36 = true → wb12.heap.size + 1 < w'.heap.size ∧ w'.cell? ⟨wb12.heap.size + 1, 0, none⟩ = some (.int .i64 0))) (by kernel_rfl) (by kernel_rfl) (hz0 _ fun _ => rfl) ?_
  clear hz0
  apply det_cons
  · refine ⟨by rfl, fun L w hN hS => ?_⟩
    obtain ⟨⟨hcc, hu⟩, hz, hy⟩ := hS
    have HZ := Lib.hid hz
    have HY := Lib.hid hy
    clear hz hy
    go_simp
    exact ⟨rfl, fun L' h1 h2 => ⟨⟨hcc, hu⟩, (fun h => by rw [h2 36 (by decide)] at h; rw [h2 24 (by decide)]; exact HZ.out h), fun h => by rw [h2 36 (by decide)] at h; exact HY.out h⟩⟩
  try simp only [Act.put, List.setIfInBounds_toArray, List.set_cons_zero, List.set_cons_succ]
  apply det_cons
  · refine ⟨by rfl, fun L w hN hS => ?_⟩
    obtain ⟨⟨hcc, hu⟩, hz, hy⟩ := hS
    have HZ := Lib.hid hz
    have HY := Lib.hid hy
    clear hz hy
    go_simp
    exact ⟨rfl, fun L' h1 h2 => ⟨⟨hcc, hu⟩, (fun h => by rw [h2 36 (by decide)] at h; rw [h2 24 (by decide)]; exact HZ.out h), fun h => by rw [h2 36 (by decide)] at h; exact HY.out h⟩⟩
  try simp only [Act.put, List.setIfInBounds_toArray, List.set_cons_zero, List.set_cons_succ]
  apply det_cons
  · refine ⟨by rfl, fun L w hN hS => ?_⟩
    obtain ⟨⟨hcc, hu⟩, hz, hy⟩ := hS
    have HZ := Lib.hid hz
    have HY := Lib.hid hy
    clear hz hy
    go_simp
    exact ⟨rfl, fun L' h1 h2 => ⟨⟨hcc, hu⟩, (fun h => by rw [h2 36 (by decide)] at h; rw [h2 24 (by decide)]; exact HZ.out h), fun h => by rw [h2 36 (by decide)] at h; exact HY.out h⟩⟩
  try simp only [Act.put, List.setIfInBounds_toArray, List.set_cons_zero, List.set_cons_succ]
  apply det_cons
  · refine ⟨by rfl, fun L w hN hS => ?_⟩
    obtain ⟨⟨hcc, hu⟩, hz, hy⟩ := hS
    have HZ := Lib.hid hz
    have HY := Lib.hid hy
    clear hz hy
    go_simp
    exact ⟨rfl, fun L' h1 h2 => ⟨⟨hcc, hu⟩, (fun h => by rw [h2 36 (by decide)] at h; rw [h2 24 (by decide)]; exact HZ.out h), fun h => by rw [h2 36 (by decide)] at h; exact HY.out h⟩⟩
  try simp only [Act.put, List.setIfInBounds_toArray, List.set_cons_zero, List.set_cons_succ]
  apply det_cons
  · refine ⟨by rfl, fun L w hN hS => ?_⟩
    obtain ⟨⟨hcc, hu⟩, hz, hy⟩ := hS
    have HZ := Lib.hid hz
    have HY := Lib.hid hy
    clear hz hy
    go_simp
    exact ⟨rfl, fun L' h1 h2 => ⟨⟨hcc, hu⟩, (fun h => by rw [h2 36 (by decide)] at h; rw [h2 24 (by decide)]; exact HZ.out h), fun h => by rw [h2 36 (by decide)] at h; exact HY.out h⟩⟩
  try simp only [Act.put, List.setIfInBounds_toArray, List.set_cons_zero, List.set_cons_succ]
  apply det_cons
  · refine ⟨by rfl, fun L w hN hS => ?_⟩
    obtain ⟨⟨hcc, hu⟩, hz, hy⟩ := hS
    have HZ := Lib.hid hz
    have HY := Lib.hid hy
    clear hz hy
    go_simp
    exact ⟨rfl, fun L' h1 h2 => ⟨⟨hcc, hu⟩, (fun h => by rw [h2 36 (by decide)] at h; rw [h2 24 (by decide)]; exact HZ.out h), fun h => by rw [h2 36 (by decide)] at h; exact HY.out h⟩⟩
  try simp only [Act.put, List.setIfInBounds_toArray, List.set_cons_zero, List.set_cons_succ]
  apply det_cons
  · refine ⟨by rfl, fun L w hN hS => ?_⟩
    obtain ⟨⟨hcc, hu⟩, hz, hy⟩ := hS
    have HZ := Lib.hid hz
    have HY := Lib.hid hy
    clear hz hy
    go_simp
    exact ⟨rfl, fun L' h1 h2 => ⟨⟨hcc, hu⟩, (fun h => by rw [h2 36 (by decide)] at h; rw [h2 24 (by decide)]; exact HZ.out h), fun h => by rw [h2 36 (by decide)] at h; exact HY.out h⟩⟩
  try simp only [Act.put, List.setIfInBounds_toArray, List.set_cons_zero, List.set_cons_succ]
  apply det_cons
  · refine ⟨by rfl, fun L w hN hS => ?_⟩
    obtain ⟨⟨hcc, hu⟩, hz, hy⟩ := hS
    have HZ := Lib.hid hz
    have HY := Lib.hid hy
    clear hz hy
    go_simp
    exact ⟨rfl, fun L' h1 h2 => ⟨⟨hcc, hu⟩, (fun h => by rw [h2 36 (by decide)] at h; rw [h2 24 (by decide)]; exact HZ.out h), fun h => by rw [h2 36 (by decide)] at h; exact HY.out h⟩⟩
  try simp only [Act.put, List.setIfInBounds_toArray, List.set_cons_zero, List.set_cons_succ]
  apply det_cons
  · refine ⟨by rfl, fun L w hN hS => ?_⟩
    obtain ⟨⟨hcc, hu⟩, hz, hy⟩ := hS
    have HZ := Lib.hid hz
    have HY := Lib.hid hy
    clear hz hy
    go_simp
    exact ⟨rfl, fun L' h1 h2 => ⟨⟨hcc, hu⟩, (fun h => by rw [h2 36 (by decide)] at h; rw [h2 24 (by decide)]; exact HZ.out h), fun h => by rw [h2 36 (by decide)] at h; exact HY.out h⟩⟩
  try simp only [Act.put, List.setIfInBounds_toArray, List.set_cons_zero, List.set_cons_succ]
  apply det_cons
  · refine ⟨by rfl, fun L w hN hS => ?_⟩
    obtain ⟨⟨hcc, hu⟩, hz, hy⟩ := hS
    have HZ := Lib.hid hz
    have HY := Lib.hid hy
    clear hz hy
    go_simp
    exact ⟨rfl, fun L' h1 h2 => ⟨⟨hcc, hu⟩, (fun h => by rw [h2 36 (by decide)] at h; rw [h2 24 (by decide)]; exact HZ.out h), fun h => by rw [h2 36 (by decide)] at h; exact HY.out h⟩⟩
  try simp only [Act.put, List.setIfInBounds_toArray, List.set_cons_zero, List.set_cons_succ]
  apply det_cons
  · refine ⟨by rfl, fun L w hN hS => ?_⟩
    obtain ⟨⟨hcc, hu⟩, hz, hy⟩ := hS
    have HZ := Lib.hid hz
    have HY := Lib.hid hy
    clear hz hy
    go_simp
    exact ⟨rfl, fun L' h1 h2 => ⟨⟨hcc, hu⟩, (fun h => by rw [h2 36 (by decide)] at h; rw [h2 24 (by decide)]; exact HZ.out h), fun h => by rw [h2 36 (by decide)] at h; exact HY.out h⟩⟩
  try simp only [Act.put, List.setIfInBounds_toArray, List.set_cons_zero, List.set_cons_succ]
  apply det_cons
  · refine ⟨by rfl, fun L w hN hS => ?_⟩
    obtain ⟨⟨hcc, hu⟩, hz, hy⟩ := hS
    have HZ := Lib.hid hz
    have HY := Lib.hid hy
    clear hz hy
    go_simp
    exact ⟨rfl, fun L' h1 h2 => ⟨⟨hcc, hu⟩, (fun h => by rw [h2 36 (by decide)] at h; rw [h2 24 (by decide)]; exact HZ.out h), fun h => by rw [h2 36 (by decide)] at h; exact HY.out h⟩⟩
  try simp only [Act.put, List.setIfInBounds_toArray, List.set_cons_zero, List.set_cons_succ]
  apply det_cons
  · refine ⟨by rfl, fun L w hN hS => ?_⟩
    obtain ⟨⟨hcc, hu⟩, hz, hy⟩ := hS
    have HZ := Lib.hid hz
    have HY := Lib.hid hy
    clear hz hy
    go_simp
    exact ⟨rfl, fun L' h1 h2 => ⟨⟨hcc, hu⟩, (fun h => by rw [h2 36 (by decide)] at h; rw [h2 24 (by decide)]; exact HZ.out h), fun h => by rw [h2 36 (by decide)] at h; exact HY.out h⟩⟩
  try simp only [Act.put, List.setIfInBounds_toArray, List.set_cons_zero, List.set_cons_succ]
  apply det_cons
  · refine ⟨by rfl, fun L w hN hS => ?_⟩
    obtain ⟨⟨hcc, hu⟩, hz, hy⟩ := hS
    have HZ := Lib.hid hz
    have HY := Lib.hid hy
    clear hz hy
    go_simp
    exact ⟨rfl, fun L' h1 h2 => ⟨⟨hcc, hu⟩, (fun h => by rw [h2 36 (by decide)] at h; rw [h2 24 (by decide)]; exact HZ.out h), fun h => by rw [h2 36 (by decide)] at h; exact HY.out h⟩⟩
  try simp only [Act.put, List.setIfInBounds_toArray, List.set_cons_zero, List.set_cons_succ]
  apply det_cons
  · refine ⟨by rfl, fun L w hN hS => ?_⟩
    obtain ⟨⟨hcc, hu⟩, hz, hy⟩ := hS
    have HZ := Lib.hid hz
    have HY := Lib.hid hy
    clear hz hy
    go_simp
    exact ⟨rfl, fun L' h1 h2 => ⟨⟨hcc, hu⟩, (fun h => by rw [h2 36 (by decide)] at h; rw [h2 24 (by decide)]; exact HZ.out h), fun h => by rw [h2 36 (by decide)] at h; exact HY.out h⟩⟩
  try simp only [Act.put, List.setIfInBounds_toArray, List.set_cons_zero, List.set_cons_succ]
  apply det_cons
  · refine ⟨by rfl, fun L w hN hS => ?_⟩
    obtain ⟨⟨hcc, hu⟩, hz, hy⟩ := hS
    have HZ := Lib.hid hz
    have HY := Lib.hid hy
    clear hz hy
    go_simp
    exact ⟨rfl, fun L' h1 h2 => ⟨⟨hcc, hu⟩, (fun h => by rw [h2 36 (by decide)] at h; rw [h2 24 (by decide)]; exact HZ.out h), fun h => by rw [h2 36 (by decide)] at h; exact HY.out h⟩⟩
  try simp only [Act.put, List.setIfInBounds_toArray, List.set_cons_zero, List.set_cons_succ]
  apply det_cons
  · refine ⟨by rfl, fun L w hN hS => ?_⟩
    obtain ⟨⟨hcc, hu⟩, hz, hy⟩ := hS
    have HZ := Lib.hid hz
    have HY := Lib.hid hy
    clear hz hy
    go_simp
    exact ⟨rfl, fun L' h1 h2 => ⟨⟨hcc, hu⟩, (fun h => by rw [h2 36 (by decide)] at h; rw [h2 24 (by decide)]; exact HZ.out h), fun h => by rw [h2 36 (by decide)] at h; exact HY.out h⟩⟩
  try simp only [Act.put, List.setIfInBounds_toArray, List.set_cons_zero, List.set_cons_succ]
  apply det_cons
  · refine ⟨by rfl, fun L w hN hS => ?_⟩
    obtain ⟨⟨hcc, hu⟩, hz, hy⟩ := hS
    have HZ := Lib.hid hz
    have HY := Lib.hid hy
    clear hz hy
    go_simp
    exact ⟨rfl, fun L' h1 h2 => ⟨⟨hcc, hu⟩, (fun h => by rw [h2 36 (by decide)] at h; rw [h2 24 (by decide)]; exact HZ.out h), fun h => by rw [h2 36 (by decide)] at h; exact HY.out h⟩⟩
  try simp only [Act.put, List.setIfInBounds_toArray, List.set_cons_zero, List.set_cons_succ]
  apply det_cons
  · refine ⟨by rfl, fun L w hN hS => ?_⟩
    obtain ⟨⟨hcc, hu⟩, hz, hy⟩ := hS
    have HZ := Lib.hid hz
    have HY := Lib.hid hy
    clear hz hy
    go_simp
    exact ⟨rfl, fun L' h1 h2 => ⟨⟨hcc, hu⟩, (fun h => by rw [h2 36 (by decide)] at h; rw [h2 24 (by decide)]; exact HZ.out h), fun h => by rw [h2 36 (by decide)] at h; exact HY.out h⟩⟩
  try simp only [Act.put, List.setIfInBounds_toArray, List.set_cons_zero, List.set_cons_succ]
  apply det_cons
  · refine ⟨by rfl, fun L w hN hS => ?_⟩
    obtain ⟨⟨hcc, hu⟩, hz, hy⟩ := hS
    have HZ := Lib.hid hz
    have HY := Lib.hid hy
    clear hz hy
    go_simp
    exact ⟨rfl, fun L' h1 h2 => ⟨⟨hcc, hu⟩, (fun h => by rw [h2 36 (by decide)] at h; rw [h2 24 (by decide)]; exact HZ.out h), fun h => by rw [h2 36 (by decide)] at h; exact HY.out h⟩⟩
  try simp only [Act.put, List.setIfInBounds_toArray, List.set_cons_zero, List.set_cons_succ]
  apply det_cons
  · refine ⟨by rfl, fun L w hN hS => ?_⟩
    obtain ⟨⟨hcc, hu⟩, hz, hy⟩ := hS
    have HZ := Lib.hid hz
    have HY := Lib.hid hy
    clear hz hy
    go_simp
    exact ⟨rfl, fun L' h1 h2 => ⟨⟨hcc, hu⟩, (fun h => by rw [h2 36 (by decide)] at h; rw [h2 24 (by decide)]; exact HZ.out h), fun h => by rw [h2 36 (by decide)] at h; exact HY.out h⟩⟩
  try simp only [Act.put, List.setIfInBounds_toArray, List.set_cons_zero, List.set_cons_succ]
  apply det_cons
  · refine ⟨by rfl, fun L w hN hS => ?_⟩
    obtain ⟨⟨hcc, hu⟩, hz, hy⟩ := hS
    have HZ := Lib.hid hz
    have HY := Lib.hid hy
    clear hz hy
    go_simp
    exact ⟨rfl, fun L' h1 h2 => ⟨⟨hcc, hu⟩, (fun h => by rw [h2 36 (by decide)] at h; rw [h2 24 (by decide)]; exact HZ.out h), fun h => by rw [h2 36 (by decide)] at h; exact HY.out h⟩⟩
  try simp only [Act.put, List.setIfInBounds_toArray, List.set_cons_zero, List.set_cons_succ]
  apply det_cons
  · refine ⟨by rfl, fun L w hN hS => ?_⟩
    obtain ⟨⟨hcc, hu⟩, hz, hy⟩ := hS
    have HZ := Lib.hid hz
    have HY := Lib.hid hy
    clear hz hy
    go_simp
    exact ⟨rfl, fun L' h1 h2 => ⟨⟨hcc, hu⟩, (fun h => by rw [h2 36 (by decide)] at h; rw [h2 24 (by decide)]; exact HZ.out h), fun h => by rw [h2 36 (by decide)] at h; exact HY.out h⟩⟩
  try simp only [Act.put, List.setIfInBounds_toArray, List.set_cons_zero, List.set_cons_succ]
  apply det_cons
  · refine ⟨by rfl, fun L w hN hS => ?_⟩
    obtain ⟨⟨hcc, hu⟩, hz, hy⟩ := hS
    have HZ := Lib.hid hz
    have HY := Lib.hid hy
    clear hz hy
    go_simp
    exact ⟨rfl, fun L' h1 h2 => ⟨⟨hcc, hu⟩, (fun h => by rw [h2 36 (by decide)] at h; rw [h2 24 (by decide)]; exact HZ.out h), fun h => by rw [h2 36 (by decide)] at h; exact HY.out h⟩⟩
  try simp only [Act.put, List.setIfInBounds_toArray, List.set_cons_zero, List.set_cons_succ]
  apply det_cons
  · refine ⟨by rfl, fun L w hN hS => ?_⟩
    obtain ⟨⟨hcc, hu⟩, hz, hy⟩ := hS
    have HZ := Lib.hid hz
    have HY := Lib.hid hy
    clear hz hy
    have h36 : L 36 = false := (hN.chain (hN.chain (hN.chain (hN.chain hN.free (k := 27) (by kernel_rfl)) (k := 31) (by kernel_rfl)) (k := 34) (by kernel_rfl)) (k := 36) (by kernel_rfl))
    have hsz2 := HZ.out h36
    rw [show L 24 = false from hN.free, if_neg (by simp)] at hsz2
    have H36 := Lib.hid h36
    have HSZ2 := Lib.hid hsz2
    clear h36 hsz2
    go_simp
    refine (reach_sz _ _ _).mono ?_
    rintro e w' ⟨rfl, hbb, hzz⟩
    exact ⟨rfl, fun L' h1 h2 => ⟨hs1 hbb ⟨hcc, hu⟩, fun _ => by rw [h1, if_pos rfl, hzz, HSZ2.out], fun h => by rw [h2 36 (by decide), H36.out] at h; cases h⟩⟩
  try simp only [Act.put, List.setIfInBounds_toArray, List.set_cons_zero, List.set_cons_succ]
  apply det_cons
  · refine ⟨by rfl, fun L w hN hS => ?_⟩
    obtain ⟨⟨hcc, hu⟩, hz, hy⟩ := hS
    have HZ := Lib.hid hz
    have HY := Lib.hid hy
    clear hz hy
    go_simp
    exact ⟨rfl, fun L' h1 h2 => ⟨⟨hcc, hu⟩, (fun h => by rw [h2 36 (by decide)] at h; rw [h2 24 (by decide)]; exact HZ.out h), fun h => by rw [h2 36 (by decide)] at h; exact HY.out h⟩⟩
  try simp only [Act.put, List.setIfInBounds_toArray, List.set_cons_zero, List.set_cons_succ]
  apply det_cons
  · refine ⟨by rfl, fun L w hN hS => ?_⟩
    obtain ⟨⟨hcc, hu⟩, hz, hy⟩ := hS
    have HZ := Lib.hid hz
    have HY := Lib.hid hy
    clear hz hy
    go_simp
    exact ⟨rfl, fun L' h1 h2 => ⟨⟨hcc, hu⟩, (fun h => by rw [h2 36 (by decide)] at h; rw [h2 24 (by decide)]; exact HZ.out h), fun h => by rw [h2 36 (by decide)] at h; exact HY.out h⟩⟩
  try simp only [Act.put, List.setIfInBounds_toArray, List.set_cons_zero, List.set_cons_succ]
  apply det_cons
  · refine ⟨by rfl, fun L w hN hS => ?_⟩
    obtain ⟨⟨hcc, hu⟩, hz, hy⟩ := hS
    have HZ := Lib.hid hz
    have HY := Lib.hid hy
    clear hz hy
    go_simp
    exact ⟨rfl, fun L' h1 h2 => ⟨⟨hcc, hu⟩, (fun h => by rw [h2 36 (by decide)] at h; rw [h2 24 (by decide)]; exact HZ.out h), fun h => by rw [h2 36 (by decide)] at h; exact HY.out h⟩⟩
  try simp only [Act.put, List.setIfInBounds_toArray, List.set_cons_zero, List.set_cons_succ]
  apply det_cons
  · refine ⟨by rfl, fun L w hN hS => ?_⟩
    obtain ⟨⟨hcc, hu⟩, hz, hy⟩ := hS
    have HZ := Lib.hid hz
    have HY := Lib.hid hy
    clear hz hy
    go_simp
    exact ⟨rfl, fun L' h1 h2 => ⟨⟨hcc, hu⟩, (fun h => by rw [h2 36 (by decide)] at h; rw [h2 24 (by decide)]; exact HZ.out h), fun h => by rw [h2 36 (by decide)] at h; exact HY.out h⟩⟩
  try simp only [Act.put, List.setIfInBounds_toArray, List.set_cons_zero, List.set_cons_succ]
  apply det_cons
  · refine ⟨by rfl, fun L w hN hS => ?_⟩
    obtain ⟨⟨hcc, hu⟩, hz, hy⟩ := hS
    have HZ := Lib.hid hz
    have HY := Lib.hid hy
    clear hz hy
    go_simp
    exact ⟨rfl, fun L' h1 h2 => ⟨⟨hcc, hu⟩, (fun h => by rw [h2 36 (by decide)] at h; rw [h2 24 (by decide)]; exact HZ.out h), fun h => by rw [h2 36 (by decide)] at h; exact HY.out h⟩⟩
  try simp only [Act.put, List.setIfInBounds_toArray, List.set_cons_zero, List.set_cons_succ]
  apply det_cons
  · refine ⟨by rfl, fun L w hN hS => ?_⟩
    obtain ⟨⟨hcc, hu⟩, hz, hy⟩ := hS
    have HZ := Lib.hid hz
    have HY := Lib.hid hy
    clear hz hy
    go_simp
    exact ⟨rfl, fun L' h1 h2 => ⟨⟨hcc, hu⟩, (fun h => by rw [h2 36 (by decide)] at h; rw [h2 24 (by decide)]; exact HZ.out h), fun h => by rw [h2 36 (by decide)] at h; exact HY.out h⟩⟩
  try simp only [Act.put, List.setIfInBounds_toArray, List.set_cons_zero, List.set_cons_succ]
  apply det_cons
  · refine ⟨by rfl, fun L w hN hS => ?_⟩
    obtain ⟨⟨hcc, hu⟩, hz, hy⟩ := hS
    have HZ := Lib.hid hz
    have HY := Lib.hid hy
    clear hz hy
    go_simp
    exact ⟨rfl, fun L' h1 h2 => ⟨⟨hcc, hu⟩, (fun h => by rw [h2 36 (by decide)] at h; rw [h2 24 (by decide)]; exact HZ.out h), fun h => by rw [h2 36 (by decide)] at h; exact HY.out h⟩⟩
  try simp only [Act.put, List.setIfInBounds_toArray, List.set_cons_zero, List.set_cons_succ]
  apply det_cons
  · refine ⟨by rfl, fun L w hN hS => ?_⟩
    obtain ⟨⟨hcc, hu⟩, hz, hy⟩ := hS
    have HZ := Lib.hid hz
    have HY := Lib.hid hy
    clear hz hy
    go_simp
    exact ⟨rfl, fun L' h1 h2 => ⟨⟨hcc, hu⟩, (fun h => by rw [h2 36 (by decide)] at h; rw [h2 24 (by decide)]; exact HZ.out h), fun h => by rw [h2 36 (by decide)] at h; exact HY.out h⟩⟩
  try simp only [Act.put, List.setIfInBounds_toArray, List.set_cons_zero, List.set_cons_succ]
  apply det_cons
  · refine ⟨by rfl, fun L w hN hS => ?_⟩
    obtain ⟨⟨hcc, hu⟩, hz, hy⟩ := hS
    have HZ := Lib.hid hz
    have HY := Lib.hid hy
    clear hz hy
    go_simp
    exact ⟨rfl, fun L' h1 h2 => ⟨⟨hcc, hu⟩, (fun h => by rw [h2 36 (by decide)] at h; rw [h2 24 (by decide)]; exact HZ.out h), fun h => by rw [h2 36 (by decide)] at h; exact HY.out h⟩⟩
  try simp only [Act.put, List.setIfInBounds_toArray, List.set_cons_zero, List.set_cons_succ]
  apply det_cons
  · refine ⟨by rfl, fun L w hN hS => ?_⟩
    obtain ⟨⟨hcc, hu⟩, hz, hy⟩ := hS
    have HZ := Lib.hid hz
    have HY := Lib.hid hy
    clear hz hy
    go_simp
    exact ⟨rfl, fun L' h1 h2 => ⟨⟨hcc, hu⟩, (fun h => by rw [h2 36 (by decide)] at h; rw [h2 24 (by decide)]; exact HZ.out h), fun h => by rw [h2 36 (by decide)] at h; exact HY.out h⟩⟩
  try simp only [Act.put, List.setIfInBounds_toArray, List.set_cons_zero, List.set_cons_succ]
  apply det_cons
  · refine ⟨by rfl, fun L w hN hS => ?_⟩
    obtain ⟨⟨hcc, hu⟩, hz, hy⟩ := hS
    have HZ := Lib.hid hz
    have HY := Lib.hid hy
    clear hz hy
    go_simp
    exact ⟨rfl, fun L' h1 h2 => ⟨⟨hcc, hu⟩, (fun h => by rw [h2 36 (by decide)] at h; rw [h2 24 (by decide)]; exact HZ.out h), fun h => by rw [h2 36 (by decide)] at h; exact HY.out h⟩⟩
  try simp only [Act.put, List.setIfInBounds_toArray, List.set_cons_zero, List.set_cons_succ]
  apply det_cons
  · refine ⟨by rfl, fun L w hN hS => ?_⟩
    obtain ⟨⟨hcc, hu⟩, hz, hy⟩ := hS
    have HZ := Lib.hid hz
    have HY := Lib.hid hy
    clear hz hy
    have h24 : L 24 = true := (hN.up (hN.up (hN.up (hN.was (j := 34) (by kernel_rfl)) (k := 31) (by kernel_rfl)) (k := 27) (by kernel_rfl)) (k := 24) (by kernel_rfl))
    have hsz2 := HZ.out hN.free
    rw [h24, if_pos rfl] at hsz2
    have HSZ2 := Lib.hid hsz2
    have HP := Lib.hid (congrArg (fun k => Value.slice (some ⟨k, 0, none⟩) 1 1) hsz2)
    clear h24 hsz2
    go_simp
    refine ⟨HP.out, fun L' h1 h2 => ⟨⟨?_, hu.alloc hu.size _⟩, (fun h => by rw [h1] at h; cases h), fun _ => ⟨?_, ?_⟩⟩⟩
    · intro b o hb
      have h3 := ((Below.refl _ w).alloc (Nat.le_refl _) (.cells #[.int .i64 0] 3)).cell (p := ⟨b, o, none⟩) (show b < w.heap.size by have := HSZ2.out; omega)
      exact h3.trans (hcc b o hb)
    · have h3 := HSZ2.out
      simp [h3]
    · rw [← HSZ2.out]
      exact blk_cell (World.alloc_heap_new _ _)
  try simp only [Act.put, List.setIfInBounds_toArray, List.set_cons_zero, List.set_cons_succ]
  apply det_cons
  · refine ⟨by rfl, fun L w hN hS => ?_⟩
    obtain ⟨⟨hcc, hu⟩, hz, hy⟩ := hS
    have HZ := Lib.hid hz
    have HY := Lib.hid hy
    clear hz hy
    have h36 : L 36 = true := hN.was (by kernel_rfl)
    obtain ⟨hy1, hy2⟩ := HY.out h36
    have HY1 := Lib.hid hy1
    have HY2 := Lib.hid hy2
    clear hy1 hy2
    go_simp
    refine (like_any w _ _ [0] [0] w.heap.size (by have h := HSX.out.below (Nat.le_refl _) hu; exact h.mono hu.size) ⟨_, 1, rfl, Nat.le_refl _, by simp [maxLen, intCells], by simp [intCells], fun _ => ⟨_, 0, rfl, HY1.out, fun i j r c hi hj => ?_⟩⟩ (Nat.le_refl _)).mono ?_
    · have hi0 : i = 0 := by
        have := (List.getElem?_eq_some_iff.1 hi).1
        simp [intCells] at this
        exact this
      subst hi0
      simp [intCells] at hi
      subst hi
      have hj0 : j = 0 := by
        have := (List.getElem?_eq_some_iff.1 hj).1
        simp at this
        exact this
      subst hj0
      simp at hj
      subst hj
      exact HY2.out
    · rintro e w' ⟨rfl, hbb⟩
      exact ⟨rfl, fun L' h1 h2 => ⟨hs1 hbb ⟨hcc, hu⟩, (fun h => by rw [h2 36 (by decide)] at h; rw [show L 36 = true from hN.was (by kernel_rfl)] at h; cases h), fun _ => ⟨Nat.lt_of_lt_of_le HY1.out hbb.size, (hbb.cell (p := ⟨wb12.heap.size + 1, 0, none⟩) HY1.out).trans HY2.out⟩⟩⟩
  try simp only [Act.put, List.setIfInBounds_toArray, List.set_cons_zero, List.set_cons_succ]
  apply det_cons
  · refine ⟨by rfl, fun L w hN hS => ?_⟩
    obtain ⟨⟨hcc, hu⟩, hz, hy⟩ := hS
    have HZ := Lib.hid hz
    have HY := Lib.hid hy
    clear hz hy
    go_simp
    exact ⟨rfl, fun L' h1 h2 => ⟨⟨hcc, hu⟩, (fun h => by rw [h2 36 (by decide)] at h; rw [h2 24 (by decide)]; exact HZ.out h), fun h => by rw [h2 36 (by decide)] at h; exact HY.out h⟩⟩
  try simp only [Act.put, List.setIfInBounds_toArray, List.set_cons_zero, List.set_cons_succ]
  apply det_cons
  · refine ⟨by rfl, fun L w hN hS => ?_⟩
    obtain ⟨⟨hcc, hu⟩, hz, hy⟩ := hS
    have HZ := Lib.hid hz
    have HY := Lib.hid hy
    clear hz hy
    go_simp
    exact ⟨rfl, fun L' h1 h2 => ⟨⟨hcc, hu⟩, (fun h => by rw [h2 36 (by decide)] at h; rw [h2 24 (by decide)]; exact HZ.out h), fun h => by rw [h2 36 (by decide)] at h; exact HY.out h⟩⟩
  try simp only [Act.put, List.setIfInBounds_toArray, List.set_cons_zero, List.set_cons_succ]
  apply det_cons
  · refine ⟨by rfl, fun L w hN hS => ?_⟩
    obtain ⟨⟨hcc, hu⟩, hz, hy⟩ := hS
    have HZ := Lib.hid hz
    have HY := Lib.hid hy
    clear hz hy
    go_simp
    exact ⟨rfl, fun L' h1 h2 => ⟨⟨hcc, hu⟩, (fun h => by rw [h2 36 (by decide)] at h; rw [h2 24 (by decide)]; exact HZ.out h), fun h => by rw [h2 36 (by decide)] at h; exact HY.out h⟩⟩
  try simp only [Act.put, List.setIfInBounds_toArray, List.set_cons_zero, List.set_cons_succ]
  apply det_cons
  · refine ⟨by rfl, fun L w hN hS => ?_⟩
    obtain ⟨⟨hcc, hu⟩, hz, hy⟩ := hS
    have HZ := Lib.hid hz
    have HY := Lib.hid hy
    clear hz hy
    go_simp
    exact ⟨rfl, fun L' h1 h2 => ⟨⟨hcc, hu⟩, (fun h => by rw [h2 36 (by decide)] at h; rw [h2 24 (by decide)]; exact HZ.out h), fun h => by rw [h2 36 (by decide)] at h; exact HY.out h⟩⟩
  try simp only [Act.put, List.setIfInBounds_toArray, List.set_cons_zero, List.set_cons_succ]
  apply det_cons
  · refine ⟨by rfl, fun L w hN hS => ?_⟩
    obtain ⟨⟨hcc, hu⟩, hz, hy⟩ := hS
    have HZ := Lib.hid hz
    have HY := Lib.hid hy
    clear hz hy
    go_simp
    exact ⟨rfl, fun L' h1 h2 => ⟨⟨hcc, hu⟩, (fun h => by rw [h2 36 (by decide)] at h; rw [h2 24 (by decide)]; exact HZ.out h), fun h => by rw [h2 36 (by decide)] at h; exact HY.out h⟩⟩
  try simp only [Act.put, List.setIfInBounds_toArray, List.set_cons_zero, List.set_cons_succ]
  apply det_cons
  · refine ⟨by rfl, fun L w hN hS => ?_⟩
    obtain ⟨⟨hcc, hu⟩, hz, hy⟩ := hS
    have HZ := Lib.hid hz
    have HY := Lib.hid hy
    clear hz hy
    go_simp
    exact ⟨rfl, fun L' h1 h2 => ⟨⟨hcc, hu⟩, (fun h => by rw [h2 36 (by decide)] at h; rw [h2 24 (by decide)]; exact HZ.out h), fun h => by rw [h2 36 (by decide)] at h; exact HY.out h⟩⟩
  try simp only [Act.put, List.setIfInBounds_toArray, List.set_cons_zero, List.set_cons_succ]
  apply det_cons
  · refine ⟨by rfl, fun L w hN hS => ?_⟩
    obtain ⟨⟨hcc, hu⟩, hz, hy⟩ := hS
    have HZ := Lib.hid hz
    have HY := Lib.hid hy
    clear hz hy
    go_simp
    exact ⟨rfl, fun L' h1 h2 => ⟨⟨hcc, hu⟩, (fun h => by rw [h2 36 (by decide)] at h; rw [h2 24 (by decide)]; exact HZ.out h), fun h => by rw [h2 36 (by decide)] at h; exact HY.out h⟩⟩
  try simp only [Act.put, List.setIfInBounds_toArray, List.set_cons_zero, List.set_cons_succ]
  apply det_cons
  · refine ⟨by rfl, fun L w hN hS => ?_⟩
    obtain ⟨⟨hcc, hu⟩, hz, hy⟩ := hS
    have HZ := Lib.hid hz
    have HY := Lib.hid hy
    clear hz hy
    go_simp
    exact ⟨rfl, fun L' h1 h2 => ⟨⟨hcc, hu⟩, (fun h => by rw [h2 36 (by decide)] at h; rw [h2 24 (by decide)]; exact HZ.out h), fun h => by rw [h2 36 (by decide)] at h; exact HY.out h⟩⟩
  try simp only [Act.put, List.setIfInBounds_toArray, List.set_cons_zero, List.set_cons_succ]
  apply det_cons
  · refine ⟨by rfl, fun L w hN hS => ?_⟩
    obtain ⟨⟨hcc, hu⟩, hz, hy⟩ := hS
    have HZ := Lib.hid hz
    have HY := Lib.hid hy
    clear hz hy
    go_simp
    exact ⟨rfl, fun L' h1 h2 => ⟨⟨hcc, hu⟩, (fun h => by rw [h2 36 (by decide)] at h; rw [h2 24 (by decide)]; exact HZ.out h), fun h => by rw [h2 36 (by decide)] at h; exact HY.out h⟩⟩
  try simp only [Act.put, List.setIfInBounds_toArray, List.set_cons_zero]
  refine det_nil ?_
  rintro L w9 hL ⟨⟨hcc, hu⟩, _, _⟩
  go_wp2
  go_ret
  exact ⟨rfl, HB12.out.trans (hu.mono HB12.out.size)⟩
end Go.Proofs.YtbhjfojbjpbdbaaDoor
