/-
  ClaimEnds walked: it answers true. Written by this session; printed by wip/tools/l7.py.
-/
import Derived.Test.YtbhjfojbjpbdbaaDoorK9
import Derived.Test.YtbhjfojbjpbdbaaDoorK10
import Derived.Test.YtbhjfojbjpbdbaaDoorK0
import Derived.Test.YtbhjfojbjpbdbaaDoorA28
import Derived.Test.YtbhjfojbjpbdbaaDoorA29
namespace Go.Proofs.YtbhjfojbjpbdbaaDoor
open Go.RowKit

theorem andNot8 {s : Nat} {v : Int} (hs : s < 8) (hv : 0 ≤ v ∧ v ≤ 7) (h : ∀ u < 3, bitOf ((s : Nat) : Int) u = true → bitOf v u = true) : bits BinOp.andNot IntKind.i64 ((s : Nat) : Int) v = 0 := by
  have key : ∀ s < 8, ∀ v < 8, (∀ u < 3, bitOf ((s : Nat) : Int) u = true → bitOf ((v : Nat) : Int) u = true) → bits BinOp.andNot IntKind.i64 ((s : Nat) : Int) ((v : Nat) : Int) = 0 := by decide +kernel
  have e : v = ((v.toNat : Nat) : Int) := by omega
  rw [e] at h ⊢
  exact key s hs _ (by omega) h

/-- the four numbers that are tried. -/
def lq (lo hi : Int) : Nat → Int
  | 0 => lo
  | 1 => hi
  | 2 => lo - 1
  | _ => hi + 1

set_option maxRecDepth 100000 in
set_option maxHeartbeats 8000000 in
theorem ends_walk (W : World) (m1 m2 : Int) (b : Bk) (n : Nat) (sa ka : Option Addr) (n1 sc n2 kc : Nat) (hv : BookW W n sa ka n1 sc n2 kc b) (hG : Glob W) :
    Calls Tryd.prog 7 #[.agg (b.cells (.slice sa n1 sc) (.slice ka n2 kc)).toArray, .agg #[.int .i64 m1, .int .i64 m2]] W fun e W' => e = .returned (.bool true) ∧ Below W.heap.size W W' := by
  obtain ⟨V, hV⟩ : ∃ V, (W.alloc (Obj.cells #[.slice sa n1 sc, .int .i64 b.wth, .int .i64 b.c0, .int .i64 b.c1, .int .i64 b.c2, .slice ka n2 kc, .int .i64 b.rate] 26)).alloc (Obj.cells #[Value.int .i64 m1, Value.int .i64 m2] 60) = V := ⟨_, rfl⟩
  have hBV : Below W.heap.size W V := by rw [← hV]; exact ((Below.refl _ _).alloc (Nat.le_refl _) _).alloc (by simp) _
  have hb0 : V.heap[W.heap.size]? = some (Obj.cells #[.slice sa n1 sc, .int .i64 b.wth, .int .i64 b.c0, .int .i64 b.c1, .int .i64 b.c2, .slice ka n2 kc, .int .i64 b.rate] 26) := by rw [← hV]; exact (heap_alloc_old _ _ (by simp)).trans (World.alloc_heap_new _ _)
  have hVz : W.heap.size < V.heap.size := (Array.getElem?_eq_some_iff.1 hb0).1
  have HGV := Lib.hid (hG.below hG.lt hBV)
  have HVB := Lib.hid (hv.below hv.hn hBV)
  have HN := Lib.hid hv.hn
  have c0 : V.cell? ⟨W.heap.size, 0, none⟩ = some (.slice sa n1 sc) := blk_cell hb0
  have c1 : V.cell? ⟨W.heap.size, 1, none⟩ = some (.int .i64 b.wth) := blk_cell hb0
  have c2 : V.cell? ⟨W.heap.size, 2, none⟩ = some (.int .i64 b.c0) := blk_cell hb0
  have c3 : V.cell? ⟨W.heap.size, 3, none⟩ = some (.int .i64 b.c1) := blk_cell hb0
  have c4 : V.cell? ⟨W.heap.size, 4, none⟩ = some (.int .i64 b.c2) := blk_cell hb0
  have c5 : V.cell? ⟨W.heap.size, 5, none⟩ = some (.slice ka n2 kc) := blk_cell hb0
  have c6 : V.cell? ⟨W.heap.size, 6, none⟩ = some (.int .i64 b.rate) := blk_cell hb0
  have hi0 : V.heap[W.heap.size + 1]? = some (Obj.cells #[Value.int .i64 m1, Value.int .i64 m2] 60) := by rw [← hV]; have := World.alloc_heap_new (W.alloc (Obj.cells #[.slice sa n1 sc, .int .i64 b.wth, .int .i64 b.c0, .int .i64 b.c1, .int .i64 b.c2, .slice ka n2 kc, .int .i64 b.rate] 26)) (Obj.cells #[Value.int .i64 m1, Value.int .i64 m2] 60); rwa [World.size_alloc] at this
  have hVx : W.heap.size + 1 < V.heap.size := (Array.getElem?_eq_some_iff.1 hi0).1
  have d0 : V.cell? ⟨W.heap.size + 1, 0, none⟩ = some (.int .i64 m1) := blk_cell hi0
  have d1 : V.cell? ⟨W.heap.size + 1, 1, none⟩ = some (.int .i64 m2) := blk_cell hi0
  clear hi0
  have HB0 := Lib.hid hb0
  have BZ := Lib.hid (show ∀ w, Below V.heap.size V w → BookW w n sa ka n1 sc n2 kc b from fun w h => HVB.out.below HVB.out.hn h)
  have GZ := Lib.hid (show ∀ w, Below V.heap.size V w → Glob w from fun w h => HGV.out.below HGV.out.lt h)
  have HX := Lib.hid (Below.refl V.heap.size V)
  have hn1 : n1 ≤ 9223372036854775807 := by obtain ⟨_, _, e, h1, h2, _⟩ := hv.hs; injection e with _ e2 _; unfold maxLen at h2; omega
  have HL1 := Lib.hid hv.l1
  have HL2 := Lib.hid hv.l2
  have hn2 : n2 ≤ 9223372036854775807 := by obtain ⟨_, _, e, h1, h2, _⟩ := hv.hk; injection e with _ e2 _; unfold maxLen at h2; omega
  clear hb0 hv hG
  simp only [Bk.cells]
  by_cases hok : bkOk b = true
  rotate_left
  · have hok' : bkOk b = false := by simpa using hok
    have HS := Lib.hid hok'
    clear hok hok'
    go_enter Tryd.func7, Tryd.ntmps7
    go_upto_region 1 with fail
    try rw [hV]
    clear hV
    go_wp2_with (first
      | (go_at_call 41; refine (sound_any _ b n _ _ _ _ _ _ (BZ.out _ (by first | exact HX.out | exact HX.out.alloc HX.out.size _))).mono ?_; rintro e ws ⟨rfl, hb⟩; rw [HS.out]; have HX := Lib.hid (show Below V.heap.size V ws from by first | exact HX.out.trans (hb.mono HX.out.size) | exact (HX.out.alloc HX.out.size _).trans (hb.mono (HX.out.alloc HX.out.size _).size)); have hk := (bcell HX.out).1; have hlt := Nat.lt_of_lt_of_le hVz HX.out.size; have HBE := Lib.hid hb; clear hb)
      | (go_at_call 25; refine (billed_any _ (GZ.out _ (by first | exact HX.out | exact HX.out.alloc HX.out.size _))).mono ?_; rintro e wz ⟨rfl, hb⟩; have HX := Lib.hid (show Below V.heap.size V wz from by first | exact HX.out.trans (hb.mono HX.out.size) | exact (HX.out.alloc HX.out.size _).trans (hb.mono (HX.out.alloc HX.out.size _).size)); have hk := (bcell HX.out).1; have hlt := Nat.lt_of_lt_of_le hVz HX.out.size; have HBE := Lib.hid hb; clear hb)
      | fail)
    go_ret
    exact ⟨rfl, hBV.trans (HX.out.mono hBV.size)⟩
  by_cases h4 : n2 = 4
  · subst h4
    have HS := Lib.hid hok
    clear hok
    go_enter Tryd.func7, Tryd.ntmps7
    go_upto_region 1 with fail
    try rw [hV]
    clear hV
    go_wp2_with (first
      | (go_at_call 41; refine (sound_any _ b n _ _ _ _ _ _ (BZ.out _ (by first | exact HX.out | exact HX.out.alloc HX.out.size _))).mono ?_; rintro e ws ⟨rfl, hb⟩; rw [HS.out]; have HX := Lib.hid (show Below V.heap.size V ws from by first | exact HX.out.trans (hb.mono HX.out.size) | exact (HX.out.alloc HX.out.size _).trans (hb.mono (HX.out.alloc HX.out.size _).size)); have hk := (bcell HX.out).1; have hlt := Nat.lt_of_lt_of_le hVz HX.out.size; have HBE := Lib.hid hb; clear hb)
      | (go_at_call 25; refine (billed_any _ (GZ.out _ (by first | exact HX.out | exact HX.out.alloc HX.out.size _))).mono ?_; rintro e wz ⟨rfl, hb⟩; have HX := Lib.hid (show Below V.heap.size V wz from by first | exact HX.out.trans (hb.mono HX.out.size) | exact (HX.out.alloc HX.out.size _).trans (hb.mono (HX.out.alloc HX.out.size _).size)); have hk := (bcell HX.out).1; have hlt := Nat.lt_of_lt_of_le hVz HX.out.size; have HBE := Lib.hid hb; clear hb)
      | fail)
    go_ret
    exact ⟨rfl, hBV.trans (HX.out.mono hBV.size)⟩
  · have HF := Lib.hid hok
    have hc4 : b.cks.length ≠ 4 := by rw [← HL2.out]; exact h4
    have hn4 : ((n2 : Int) == 4) = false := by simp; omega
    have hn2l : n2 ≤ 4 := by have := HL2.out; have := bkOk_head hok; omega
    have h13 := (bkOk_head hok).1
    have h17 := (bkOk_head hok).2.1
    have hn13 : 1 ≤ n1 ∧ n1 ≤ 3 := by have := HL1.out; omega
    obtain ⟨k, hkw, hk1⟩ := wrap_at m1 (show 0 < n1 by omega)
    obtain ⟨y, hyw, hy1⟩ := wrap_at m2 (show 0 < 3 by decide)
    have HK1 := Lib.hid hkw
    have HK2 := Lib.hid (show wrapS m2 3 = (y : Int) from hyw)
    have hkn : k < b.sts.length := by have := HL1.out; omega
    clear hkw hyw h13 h4
    go_enter Tryd.func7, Tryd.ntmps7
    go_upto_region 1 with fail
    try rw [hV]
    clear hV
    go_upto_region 3 with (first
      | (go_at_call 41; refine (sound_any _ b n _ _ _ _ _ _ (BZ.out _ (by first | exact HX.out | exact HX.out.alloc HX.out.size _))).mono ?_; rintro e ws ⟨rfl, hb⟩; rw [HF.out]; have HX := Lib.hid (show Below V.heap.size V ws from by first | exact HX.out.trans (hb.mono HX.out.size) | exact (HX.out.alloc HX.out.size _).trans (hb.mono (HX.out.alloc HX.out.size _).size)); have hk := (bcell HX.out).1; have hlt := Nat.lt_of_lt_of_le hVz HX.out.size; have HBE := Lib.hid hb; clear hb)
      | fail)
    obtain ⟨X0, hX0⟩ : ∃ X, ws = X := ⟨_, rfl⟩
    rw [hX0] at HX hk hlt ⊢
    clear hX0 HBE hn4
    have y0 : X0.cell? ⟨W.heap.size, 0, none⟩ = some (.slice sa n1 sc) := (HX.out.cell (p := ⟨W.heap.size, 0, none⟩) hVz).trans c0
    have z0 : X0.cell? ⟨W.heap.size + 1, 0, none⟩ = some (.int .i64 m1) := (HX.out.cell (p := ⟨W.heap.size + 1, 0, none⟩) hVx).trans d0
    have z1 : X0.cell? ⟨W.heap.size + 1, 1, none⟩ = some (.int .i64 m2) := (HX.out.cell (p := ⟨W.heap.size + 1, 1, none⟩) hVx).trans d1
    have lx : W.heap.size + 1 < X0.heap.size := Nat.lt_of_lt_of_le hVx HX.out.size
    have HHK := Lib.hid hk
    clear hk
    refine wp_region_det (S := fun _ w' => (∀ b o, b < X0.heap.size → w'.cell? ⟨b, o, none⟩ = X0.cell? ⟨b, o, none⟩) ∧ Below X0.heap.size X0 w') (by kernel_rfl) (by kernel_rfl) (hs0 X0) ?_
    repeat
      first
        | (apply det_skip
           · exact ⟨by rfl, fun L w hN hS => fun _ _ _ => hS⟩)
        | (apply det_cons
           · refine ⟨by rfl, fun L w hN hS => ?_⟩
             obtain ⟨hcc, hu⟩ := hS
             go_simp
             first
               | exact ⟨rfl, fun _ _ _ => ⟨hcc, hu⟩⟩
               | (refine (wrap_any _ _ (by omega) _).mono ?_; rintro e w' ⟨rfl, rfl⟩; exact ⟨congrArg Ending.returned (congrArg (Value.int .i64) HK1.out), fun _ _ _ => ⟨hcc, hu⟩⟩)
               | (refine (wrap_any _ _ (by omega) _).mono ?_; rintro e w' ⟨rfl, rfl⟩; exact ⟨congrArg Ending.returned (congrArg (Value.int .i64) HK2.out), fun _ _ _ => ⟨hcc, hu⟩⟩))
      try simp only [Act.put, List.setIfInBounds_toArray, List.set_cons_zero, List.set_cons_succ]
    refine det_nil ?_
    rintro L w3 hL ⟨hcc, hu⟩
    have HU := Lib.hid hu
    clear hL hu hcc
    have HX := Lib.hid (HX.out.trans (HU.out.mono HX.out.size))
    have hk := (bcell HX.out).1
    have hlt := Nat.lt_of_lt_of_le hVz HX.out.size
    clear HU HHK y0 z0 z1 lx d0 d1
    by_cases hT : truths b = []
    · obtain ⟨e1, e2, e3⟩ := ends_false hok hT hkn
      have F1 := Lib.hid e1
      have F2 := Lib.hid e2
      have F3 := Lib.hid (show Ending.returned (.tuple #[.bool (fitsS b ⟨k, 0, 0⟩).1, .int .i64 (fitsS b ⟨k, 0, 0⟩).2]) = .returned (.tuple #[.bool false, .int .i64 62]) by rw [e3])
      clear e1 e2 e3 hT
      go_upto_region 5 with (first
        | (go_at_call 19; refine (comes_ex _ b _ n _ _ _ _ _ _ (BZ.out _ (by first | exact HX.out | exact HX.out.alloc HX.out.size _)) (GZ.out _ (by first | exact HX.out | exact HX.out.alloc HX.out.size _))).mono ?_; rintro e w4 ⟨rfl, hb⟩; rw [F1.out]; have HX := Lib.hid (show Below V.heap.size V w4 from by first | exact HX.out.trans (hb.mono HX.out.size) | exact (HX.out.alloc HX.out.size _).trans (hb.mono (HX.out.alloc HX.out.size _).size)); have hk := (bcell HX.out).1; have hlt := Nat.lt_of_lt_of_le hVz HX.out.size; have HBE := Lib.hid hb; clear hb)
        | fail)
      obtain ⟨X4, hX⟩ : ∃ X, w4.alloc (.cells #[.int .i64 0, .int .i64 0] 32) = X := ⟨_, rfl⟩
      have hq : X4.heap[w4.heap.size]? = some (.cells #[.int .i64 0, .int .i64 0] 32) := by rw [← hX]; exact World.alloc_heap_new _ _
      have hbx : Below V.heap.size V X4 := by rw [← hX]; exact HX.out.alloc HX.out.size _
      have hbk : Below w4.heap.size w4 X4 := by rw [← hX]; exact (Below.refl _ _).alloc (Nat.le_refl _) _
      have hvp : V.heap.size ≤ w4.heap.size := HX.out.size
      rw [hX]
      clear hX
      obtain ⟨P4, hP⟩ : ∃ P, w4.heap.size = P := ⟨_, rfl⟩
      rw [hP] at hq hvp ⊢
      clear hP
      have HQ4 := Lib.hid hq
      have HVP4 := Lib.hid hvp
      have HBK4 := Lib.hid hbk
      clear hq hvp hbk hk
      have HX := Lib.hid hbx
      have hk := (bcell hbx).1
      clear hbx
      go_upto_region 7 with (first
        | (go_at_call 26; refine (weather_ex _ b n _ _ _ _ _ _ (BZ.out _ (by first | exact HX.out | exact HX.out.alloc HX.out.size _)) (GZ.out _ (by first | exact HX.out | exact HX.out.alloc HX.out.size _))).mono ?_; rintro e w5 ⟨rfl, hb⟩; rw [F2.out]; have HX := Lib.hid (show Below V.heap.size V w5 from by first | exact HX.out.trans (hb.mono HX.out.size) | exact (HX.out.alloc HX.out.size _).trans (hb.mono (HX.out.alloc HX.out.size _).size)); have hk := (bcell HX.out).1; have hlt := Nat.lt_of_lt_of_le hVz HX.out.size; have HBE := Lib.hid hb; clear hb)
        | fail)
      obtain ⟨X5, hX5⟩ : ∃ X, w5 = X := ⟨_, rfl⟩
      rw [hX5] at HX hk hlt HBE ⊢
      clear hX5
      have y0 : X5.cell? ⟨W.heap.size, 0, none⟩ = some (.slice sa n1 sc) := (HX.out.cell (p := ⟨W.heap.size, 0, none⟩) hVz).trans c0
      have y1 : X5.cell? ⟨W.heap.size, 1, none⟩ = some (.int .i64 b.wth) := (HX.out.cell (p := ⟨W.heap.size, 1, none⟩) hVz).trans c1
      have y2 : X5.cell? ⟨W.heap.size, 2, none⟩ = some (.int .i64 b.c0) := (HX.out.cell (p := ⟨W.heap.size, 2, none⟩) hVz).trans c2
      have y3 : X5.cell? ⟨W.heap.size, 3, none⟩ = some (.int .i64 b.c1) := (HX.out.cell (p := ⟨W.heap.size, 3, none⟩) hVz).trans c3
      have y4 : X5.cell? ⟨W.heap.size, 4, none⟩ = some (.int .i64 b.c2) := (HX.out.cell (p := ⟨W.heap.size, 4, none⟩) hVz).trans c4
      have y5 : X5.cell? ⟨W.heap.size, 5, none⟩ = some (.slice ka n2 kc) := (HX.out.cell (p := ⟨W.heap.size, 5, none⟩) hVz).trans c5
      have y6 : X5.cell? ⟨W.heap.size, 6, none⟩ = some (.int .i64 b.rate) := (HX.out.cell (p := ⟨W.heap.size, 6, none⟩) hVz).trans c6
      have hq4 := (HBE.out.block P4 (Array.getElem?_eq_some_iff.1 HQ4.out).1).trans HQ4.out
      have p40 : X5.cell? ⟨P4, 0, none⟩ = some (.int .i64 0) := blk_cell hq4
      have p41 : X5.cell? ⟨P4, 1, none⟩ = some (.int .i64 0) := blk_cell hq4
      have l4 : P4 < X5.heap.size := (Array.getElem?_eq_some_iff.1 hq4).1
      have HQ5 := Lib.hid hq4
      have HHK := Lib.hid hk
      clear hk hq4
      refine wp_region_det (S := fun _ w' => (∀ b o, b < X5.heap.size → w'.cell? ⟨b, o, none⟩ = X5.cell? ⟨b, o, none⟩) ∧ Below X5.heap.size X5 w') (by kernel_rfl) (by kernel_rfl) (hs0 X5) ?_
      repeat
        first
          | (apply det_skip
             · exact ⟨by rfl, fun L w hN hS => fun _ _ _ => hS⟩)
          | (apply det_cons
             · refine ⟨by rfl, fun L w hN hS => ?_⟩
               obtain ⟨hcc, hu⟩ := hS
               go_simp
               first
                 | exact ⟨rfl, fun _ _ _ => ⟨hcc, hu⟩⟩
                 | (refine (clock_any _ _ _ _).mono ?_; rintro e w' ⟨rfl, hbb⟩; exact ⟨rfl, fun _ _ _ => hs1 hbb ⟨hcc, hu⟩⟩)
                 | (refine (fits_ex _ b ⟨k, 0, 0⟩ n _ _ _ _ _ _ (BZ.out _ (HX.out.trans (hu.mono HX.out.size))) (GZ.out _ (HX.out.trans (hu.mono HX.out.size)))).mono ?_; rintro e w' ⟨rfl, hbb⟩; exact ⟨F3.out, fun _ _ _ => hs1 hbb ⟨hcc, hu⟩⟩))
        try simp only [Act.put, List.setIfInBounds_toArray, List.set_cons_zero, List.set_cons_succ]
      refine det_nil ?_
      rintro L w7 hL ⟨hcc, hu⟩
      have HU := Lib.hid hu
      clear hL hu hcc
      obtain ⟨X7, hX7⟩ : ∃ X, w7 = X := ⟨_, rfl⟩
      rw [hX7] at HU ⊢
      clear hX7 y0 y1 y2 y3 y4 y5 y6 p40 p41 l4 HHK
      go_upto_region 8 with fail
      have hq4 := (HU.out.block P4 (Array.getElem?_eq_some_iff.1 HQ5.out).1).trans HQ5.out
      have HX := Lib.hid (HX.out.trans (HU.out.mono HX.out.size))
      have p40 : X7.cell? ⟨P4, 0, none⟩ = some (.int .i64 0) := blk_cell hq4
      have p41 : X7.cell? ⟨P4, 1, none⟩ = some (.int .i64 0) := blk_cell hq4
      have l4 : P4 < X7.heap.size := (Array.getElem?_eq_some_iff.1 hq4).1
      clear hq4 HU
      refine wp_region_det (S := fun _ w' => (∀ b o, b < X7.heap.size → w'.cell? ⟨b, o, none⟩ = X7.cell? ⟨b, o, none⟩) ∧ Below X7.heap.size X7 w') (by kernel_rfl) (by kernel_rfl) (hs0 X7) ?_
      repeat
        first
          | (apply det_skip
             · exact ⟨by rfl, fun L w hN hS => fun _ _ _ => hS⟩)
          | (apply det_cons
             · refine ⟨by rfl, fun L w hN hS => ?_⟩
               obtain ⟨hcc, hu⟩ := hS
               go_simp
               first
                 | exact ⟨rfl, fun _ _ _ => ⟨hcc, hu⟩⟩
                 | (refine (just_any _ _).mono ?_; rintro e w' ⟨rfl, hbb⟩; exact ⟨rfl, fun _ _ _ => hs1 hbb ⟨hcc, hu⟩⟩)
                 | (refine (billed_any _ (GZ.out _ (HX.out.trans (hu.mono HX.out.size)))).mono ?_; rintro e w' ⟨rfl, hbb⟩; exact ⟨rfl, fun _ _ _ => hs1 hbb ⟨hcc, hu⟩⟩))
        try simp only [Act.put, List.setIfInBounds_toArray, List.set_cons_zero, List.set_cons_succ]
      refine det_nil ?_
      rintro L w8 hL ⟨hcc, hu⟩
      have HU := Lib.hid hu
      clear hL hu hcc
      have HX := Lib.hid (HX.out.trans (HU.out.mono HX.out.size))
      clear HU
      go_wp2_with fail
      go_ret
      exact ⟨rfl, hBV.trans (HX.out.mono hBV.size)⟩
    · obtain ⟨lo, hi, set, is, f1, f2, hs0', hs8, hbits, hle, hlo0, hhi, hyes, hno, f3, hand⟩ := ends_law hok hc4 hT hkn hy1
      have F1 := Lib.hid f1
      have F2 := Lib.hid f2
      have F3 := Lib.hid f3
      have HAND := Lib.hid hand
      have hset0 : ((set : Nat) : Int) ≠ 0 := by omega
      have hsz : (((set : Nat) : Int) == 0) = false := by simpa using hset0
      have hAN := andNot8 hs8 (by omega) hbits
      have hle2 : ¬ hi < lo := by omega
      have HLQ := Lib.hid (show ∀ q : Nat, q < 4 → 0 ≤ lq lo hi q → lq lo hi q ≤ 600 → fitsS b ⟨k, lq lo hi q, 0⟩ = (decide (q < 2), 0) ∧ rightS (b.with ⟨k, lq lo hi q, 0⟩) = (decide (q < 2), 0) from fun q hq h0 h6 => by
        have hqc : q = 0 ∨ q = 1 ∨ q = 2 ∨ q = 3 := by omega
        rcases hqc with rfl | rfl | rfl | rfl
        · exact hyes _ h0 h6 (.inl rfl)
        · exact hyes _ h0 h6 (.inr rfl)
        · exact hno _ h0 h6 (.inl (by show lo - 1 < lo; omega))
        · exact hno _ h0 h6 (.inr (by show hi < hi + 1; omega)))
      have HSB := Lib.hid (show ∀ w, Calls Tryd.prog 44 #[.int .i64 ((set : Nat) : Int), .int .i64 (y : Int)] w fun e w' => e = .returned (.bool (bitOf ((set : Nat) : Int) y)) ∧ w = w' from fun w => in16_any _ y (by omega) (by omega) w)
      have HWB := Lib.hid (show ∀ w, Calls Tryd.prog 44 #[.int .i64 b.wth, .int .i64 (y : Int)] w fun e w' => e = .returned (.bool (bitOf b.wth y)) ∧ w = w' from fun w => in16_any _ y (by omega) (by omega) w)
      have hw1 : IntKind.i64.wrap (lo - 1) = lo - 1 := IntWalk.i64_in _ (by omega)
      have hw2 : IntKind.i64.wrap (hi + 1) = hi + 1 := IntWalk.i64_in _ (by omega)
      obtain ⟨S, hS⟩ : ∃ S : Int, ((set : Nat) : Int) = S := ⟨_, rfl⟩
      rw [hS] at F2 hset0 hsz hAN HSB HAND
      clear f1 f2 f3 hs0' hs8 hbits hyes hno hand hT hS hset0 h17
      go_upto_region 5 with (first
        | (go_at_call 19; refine (comes_ex _ b _ n _ _ _ _ _ _ (BZ.out _ (by first | exact HX.out | exact HX.out.alloc HX.out.size _)) (GZ.out _ (by first | exact HX.out | exact HX.out.alloc HX.out.size _))).mono ?_; rintro e w4 ⟨rfl, hb⟩; rw [F1.out]; have HX := Lib.hid (show Below V.heap.size V w4 from by first | exact HX.out.trans (hb.mono HX.out.size) | exact (HX.out.alloc HX.out.size _).trans (hb.mono (HX.out.alloc HX.out.size _).size)); have hk := (bcell HX.out).1; have hlt := Nat.lt_of_lt_of_le hVz HX.out.size; have HBE := Lib.hid hb; clear hb)
        | fail)
      obtain ⟨X4, hX⟩ : ∃ X, w4.alloc (.cells #[.int .i64 lo, .int .i64 hi] 32) = X := ⟨_, rfl⟩
      have hq : X4.heap[w4.heap.size]? = some (.cells #[.int .i64 lo, .int .i64 hi] 32) := by rw [← hX]; exact World.alloc_heap_new _ _
      have hbx : Below V.heap.size V X4 := by rw [← hX]; exact HX.out.alloc HX.out.size _
      have hbk : Below w4.heap.size w4 X4 := by rw [← hX]; exact (Below.refl _ _).alloc (Nat.le_refl _) _
      have hvp : V.heap.size ≤ w4.heap.size := HX.out.size
      rw [hX]
      clear hX
      obtain ⟨P4, hP⟩ : ∃ P, w4.heap.size = P := ⟨_, rfl⟩
      rw [hP] at hq hvp ⊢
      clear hP
      have HQ4 := Lib.hid hq
      have HVP4 := Lib.hid hvp
      have HBK4 := Lib.hid hbk
      clear hq hvp hbk hk
      have HX := Lib.hid hbx
      have hk := (bcell hbx).1
      clear hbx
      go_upto_region 6 with (first
        | (go_at_call 26; refine (weather_ex _ b n _ _ _ _ _ _ (BZ.out _ (by first | exact HX.out | exact HX.out.alloc HX.out.size _)) (GZ.out _ (by first | exact HX.out | exact HX.out.alloc HX.out.size _))).mono ?_; rintro e w5 ⟨rfl, hb⟩; rw [F2.out]; have HX := Lib.hid (show Below V.heap.size V w5 from by first | exact HX.out.trans (hb.mono HX.out.size) | exact (HX.out.alloc HX.out.size _).trans (hb.mono (HX.out.alloc HX.out.size _).size)); have hk := (bcell HX.out).1; have hlt := Nat.lt_of_lt_of_le hVz HX.out.size; have HBE := Lib.hid hb; clear hb)
        | fail)
      obtain ⟨X5, hX5⟩ : ∃ X, w5 = X := ⟨_, rfl⟩
      rw [hX5] at HX hk hlt HBE ⊢
      clear hX5
      have hq4 := (HBE.out.block P4 (Array.getElem?_eq_some_iff.1 HQ4.out).1).trans HQ4.out
      have p40 : X5.cell? ⟨P4, 0, none⟩ = some (.int .i64 lo) := blk_cell hq4
      have p41 : X5.cell? ⟨P4, 1, none⟩ = some (.int .i64 hi) := blk_cell hq4
      have l4 : P4 < X5.heap.size := (Array.getElem?_eq_some_iff.1 hq4).1
      have y1 : X5.cell? ⟨W.heap.size, 1, none⟩ = some (.int .i64 b.wth) := (HX.out.cell (p := ⟨W.heap.size, 1, none⟩) hVz).trans c1
      clear hq4 HBE
      have HHK := Lib.hid hk
      clear hk
      go_upto_region 12 with fail
      obtain ⟨X6, hX6⟩ : ∃ X, X5.alloc (.cells #[.int .i64 lo, .int .i64 hi, .int .i64 (lo - 1), .int .i64 (hi + 1)] 3) = X := ⟨_, rfl⟩
      have hq6 : X6.heap[X5.heap.size]? = some (.cells #[.int .i64 lo, .int .i64 hi, .int .i64 (lo - 1), .int .i64 (hi + 1)] 3) := by rw [← hX6]; exact World.alloc_heap_new _ _
      have hbx6 : Below V.heap.size V X6 := by rw [← hX6]; exact HX.out.alloc HX.out.size _
      rw [hX6]
      clear hX6 p40 p41 l4 y1 HHK
      obtain ⟨P6, hP6⟩ : ∃ P, X5.heap.size = P := ⟨_, rfl⟩
      rw [hP6] at hq6 ⊢
      clear hP6
      have HX6 := Lib.hid hbx6
      have HQ6 := Lib.hid hq6
      clear hbx6 hq6
      go_wp2_with fail
      go_loopg [14] 4 (fun n0 i wx => ∃ (q : Nat), q ≤ 4 ∧ n0 = 4 - q ∧ i = .int .i64 (q : Int) ∧ Below X6.heap.size X6 wx)
      case atStart => exact ⟨0, by omega, rfl, rfl, Below.refl _ _⟩
      case round =>
        obtain ⟨q, hq, hgk, rfl, hbx⟩ := hrel
        have HG2 := Lib.hid hgk
        have HBX := Lib.hid hbx
        have hbv := HX6.out.trans (hbx.mono HX6.out.size)
        have HX := Lib.hid hbv
        have hlt := Nat.lt_of_lt_of_le hVz hbv.size
        have hq6 := (hbx.block _ (Array.getElem?_eq_some_iff.1 HQ6.out).1).trans HQ6.out
        clear hgk hbx hbv
        by_cases hqn : q < 4
        · have hqi : (q : Int) < 4 := by omega
          obtain ⟨m, hm⟩ : ∃ m, lq lo hi q = m := ⟨_, rfl⟩
          have r0 : wr.cell? ⟨P6, q, none⟩ = some (.int .i64 m) := by
            rw [blk_cell hq6, ← hm]
            have hqc : q = 0 ∨ q = 1 ∨ q = 2 ∨ q = 3 := by omega
            rcases hqc with rfl | rfl | rfl | rfl <;> rfl
          have l6 : P6 < wr.heap.size := (Array.getElem?_eq_some_iff.1 hq6).1
          have hlq := HLQ.out q hqn
          rw [hm] at hlq
          clear hq6 hm
          by_cases hin : within m 0 600 = true
          rotate_left
          · have HIN := Lib.hid (show within m 0 600 = false by simpa using hin)
            clear hin hlq
            go_wp2_with (first
              | (go_at_call 45; refine (amid_any _ _ _ _).mono ?_; rintro e w1 ⟨rfl, rfl⟩; rw [HIN.out])
              | fail)
            go_roundg (4 - (q + 1))
            case measure => rw [HG2.out]; omega
            case rel => exact ⟨q + 1, by omega, rfl, by go_num, HBX.out⟩
          · have HIN := Lib.hid hin
            have hmm : 0 ≤ m ∧ m ≤ 600 := by simpa [within] using hin
            obtain ⟨g1, g2⟩ := hlq hmm.1 hmm.2
            have F5 := Lib.hid (show Ending.returned (.tuple #[.bool (fitsS b ⟨k, m, 0⟩).1, .int .i64 (fitsS b ⟨k, m, 0⟩).2]) = .returned (.tuple #[.bool (decide (q < 2)), .int .i64 0]) by rw [g1])
            have F6 := Lib.hid (show Ending.returned (.tuple #[.bool (rightS (b.with ⟨k, m, 0⟩)).1, .int .i64 (rightS (b.with ⟨k, m, 0⟩)).2]) = .returned (.tuple #[.bool (decide (q < 2)), .int .i64 0]) by rw [g2])
            clear hin hlq g1 g2 hmm
            go_upto_region 16 with (first
              | (go_at_call 45; refine (amid_any _ _ _ _).mono ?_; rintro e w1 ⟨rfl, rfl⟩; rw [HIN.out])
              | fail)
            have y0 : wr.cell? ⟨W.heap.size, 0, none⟩ = some (.slice sa n1 sc) := (HX.out.cell (p := ⟨W.heap.size, 0, none⟩) hVz).trans c0
            have y1 : wr.cell? ⟨W.heap.size, 1, none⟩ = some (.int .i64 b.wth) := (HX.out.cell (p := ⟨W.heap.size, 1, none⟩) hVz).trans c1
            have y2 : wr.cell? ⟨W.heap.size, 2, none⟩ = some (.int .i64 b.c0) := (HX.out.cell (p := ⟨W.heap.size, 2, none⟩) hVz).trans c2
            have y3 : wr.cell? ⟨W.heap.size, 3, none⟩ = some (.int .i64 b.c1) := (HX.out.cell (p := ⟨W.heap.size, 3, none⟩) hVz).trans c3
            have y4 : wr.cell? ⟨W.heap.size, 4, none⟩ = some (.int .i64 b.c2) := (HX.out.cell (p := ⟨W.heap.size, 4, none⟩) hVz).trans c4
            have y5 : wr.cell? ⟨W.heap.size, 5, none⟩ = some (.slice ka n2 kc) := (HX.out.cell (p := ⟨W.heap.size, 5, none⟩) hVz).trans c5
            have y6 : wr.cell? ⟨W.heap.size, 6, none⟩ = some (.int .i64 b.rate) := (HX.out.cell (p := ⟨W.heap.size, 6, none⟩) hVz).trans c6
            refine wp_region_det (S := fun _ w' => (∀ b o, b < wr.heap.size → w'.cell? ⟨b, o, none⟩ = wr.cell? ⟨b, o, none⟩) ∧ Below wr.heap.size wr w') (by kernel_rfl) (by kernel_rfl) (hs0 wr) ?_
            repeat
              first
                | (apply det_skip
                   · exact ⟨by rfl, fun L w hN hS => fun _ _ _ => hS⟩)
                | (apply det_cons
                   · refine ⟨by rfl, fun L w hN hS => ?_⟩
                     obtain ⟨hcc, hu⟩ := hS
                     go_simp
                     first
                       | exact ⟨rfl, fun _ _ _ => ⟨hcc, hu⟩⟩
                       | (refine (clock_any _ _ _ _).mono ?_; rintro e w' ⟨rfl, hbb⟩; exact ⟨rfl, fun _ _ _ => hs1 hbb ⟨hcc, hu⟩⟩)
                       | (refine (fits_ex _ b ⟨k, m, 0⟩ n _ _ _ _ _ _ (BZ.out _ (HX.out.trans (hu.mono HX.out.size))) (GZ.out _ (HX.out.trans (hu.mono HX.out.size)))).mono ?_; rintro e w' ⟨rfl, hbb⟩; exact ⟨F5.out, fun _ _ _ => hs1 hbb ⟨hcc, hu⟩⟩))
              try simp only [Act.put, List.setIfInBounds_toArray, List.set_cons_zero, List.set_cons_succ]
            refine det_nil ?_
            rintro L w16 hL ⟨hcc, hu⟩
            have HU := Lib.hid hu
            clear hL hu hcc
            obtain ⟨X16, hX16⟩ : ∃ X, w16 = X := ⟨_, rfl⟩
            rw [hX16] at HU ⊢
            have r1 : X16.cell? ⟨P6, q, none⟩ = some (.int .i64 m) := (HU.out.cell (p := ⟨P6, q, none⟩) l6).trans r0
            have l7 : P6 < X16.heap.size := Nat.lt_of_lt_of_le l6 HU.out.size
            clear hX16 y0 y1 y2 y3 y4 y5 y6 r0 l6
            have HBX := Lib.hid (HBX.out.trans (HU.out.mono HBX.out.size))
            have HX := Lib.hid (HX.out.trans (HU.out.mono HX.out.size))
            have hlt := Nat.lt_of_lt_of_le hVz HX.out.size
            go_upto_region 17 with fail
            have y0 : X16.cell? ⟨W.heap.size, 0, none⟩ = some (.slice sa n1 sc) := (HX.out.cell (p := ⟨W.heap.size, 0, none⟩) hVz).trans c0
            have y1 : X16.cell? ⟨W.heap.size, 1, none⟩ = some (.int .i64 b.wth) := (HX.out.cell (p := ⟨W.heap.size, 1, none⟩) hVz).trans c1
            have y2 : X16.cell? ⟨W.heap.size, 2, none⟩ = some (.int .i64 b.c0) := (HX.out.cell (p := ⟨W.heap.size, 2, none⟩) hVz).trans c2
            have y3 : X16.cell? ⟨W.heap.size, 3, none⟩ = some (.int .i64 b.c1) := (HX.out.cell (p := ⟨W.heap.size, 3, none⟩) hVz).trans c3
            have y4 : X16.cell? ⟨W.heap.size, 4, none⟩ = some (.int .i64 b.c2) := (HX.out.cell (p := ⟨W.heap.size, 4, none⟩) hVz).trans c4
            have y5 : X16.cell? ⟨W.heap.size, 5, none⟩ = some (.slice ka n2 kc) := (HX.out.cell (p := ⟨W.heap.size, 5, none⟩) hVz).trans c5
            have y6 : X16.cell? ⟨W.heap.size, 6, none⟩ = some (.int .i64 b.rate) := (HX.out.cell (p := ⟨W.heap.size, 6, none⟩) hVz).trans c6
            have hMono : Mono (fun j v w => j = 7 → ∃ a mm cc, v = .agg ((b.with ⟨k, m, 0⟩).cells (.slice sa n1 sc) (.slice a mm cc)).toArray ∧ BookW w w.heap.size sa a n1 sc mm cc (b.with ⟨k, m, 0⟩)) := fun j v w w' h hb e => by obtain ⟨a, mm, cc, h1, h2⟩ := h e; exact ⟨a, mm, cc, h1, ⟨Nat.le_refl _, (h2.below (Nat.le_refl _) hb).hs.mono hb.size, (h2.below (Nat.le_refl _) hb).hk.mono hb.size, h2.l1, h2.l2⟩⟩
            have HMO := Lib.hid hMono
            clear hMono
            refine wp_region_mix (S := FactsW X16 (fun j v w => j = 7 → ∃ a mm cc, v = .agg ((b.with ⟨k, m, 0⟩).cells (.slice sa n1 sc) (.slice a mm cc)).toArray ∧ BookW w w.heap.size sa a n1 sc mm cc (b.with ⟨k, m, 0⟩))) (by kernel_rfl) (by kernel_rfl) (FactsW.start _ _) ?_
            apply detm_cons
            · refine ⟨fun _ => by rfl, fun L V9 w hN hS => ?_⟩
              have hcc := hS.cell
              have HS := Lib.hid hS
              clear hS
              go_simp
              exact ⟨rfl, HS.out.keep (fun _ _ h => absurd h (by decide))⟩
            try simp only [Act.put, List.setIfInBounds_toArray, List.set_cons_zero, List.set_cons_succ]
            apply detm_cons
            · refine ⟨fun _ => by rfl, fun L V9 w hN hS => ?_⟩
              have hcc := hS.cell
              have HS := Lib.hid hS
              clear hS
              go_simp
              exact ⟨rfl, HS.out.keep (fun _ _ h => absurd h (by decide))⟩
            try simp only [Act.put, List.setIfInBounds_toArray, List.set_cons_zero, List.set_cons_succ]
            apply detm_cons
            · refine ⟨fun _ => by rfl, fun L V9 w hN hS => ?_⟩
              have hcc := hS.cell
              have HS := Lib.hid hS
              clear hS
              go_simp
              exact ⟨rfl, HS.out.keep (fun _ _ h => absurd h (by decide))⟩
            try simp only [Act.put, List.setIfInBounds_toArray, List.set_cons_zero, List.set_cons_succ]
            apply detm_cons
            · refine ⟨fun _ => by rfl, fun L V9 w hN hS => ?_⟩
              have hcc := hS.cell
              have HS := Lib.hid hS
              clear hS
              go_simp
              exact ⟨rfl, HS.out.keep (fun _ _ h => absurd h (by decide))⟩
            try simp only [Act.put, List.setIfInBounds_toArray, List.set_cons_zero, List.set_cons_succ]
            apply detm_cons
            · refine ⟨fun _ => by rfl, fun L V9 w hN hS => ?_⟩
              have hcc := hS.cell
              have HS := Lib.hid hS
              clear hS
              go_simp
              exact ⟨rfl, HS.out.keep (fun _ _ h => absurd h (by decide))⟩
            try simp only [Act.put, List.setIfInBounds_toArray, List.set_cons_zero, List.set_cons_succ]
            apply detm_cons
            · refine ⟨fun _ => by rfl, fun L V9 w hN hS => ?_⟩
              have hcc := hS.cell
              have HS := Lib.hid hS
              clear hS
              go_simp
              exact ⟨rfl, HS.out.keep (fun _ _ h => absurd h (by decide))⟩
            try simp only [Act.put, List.setIfInBounds_toArray, List.set_cons_zero, List.set_cons_succ]
            apply detm_cons
            · refine ⟨fun _ => by rfl, fun L V9 w hN hS => ?_⟩
              have hcc := hS.cell
              have HS := Lib.hid hS
              clear hS
              go_simp
              (refine (clock_any _ _ _ _).mono ?_; rintro e w' ⟨rfl, hbb⟩; exact ⟨rfl, HS.out.then HMO.out (fun _ _ h => absurd h (by decide)) hbb⟩)
            try simp only [Act.put, List.setIfInBounds_toArray, List.set_cons_zero, List.set_cons_succ]
            apply detm_some
            · refine ⟨fun _ => by rfl, fun L V9 w hN hS => ?_⟩
              have hcc := hS.cell
              have HS := Lib.hid hS
              clear hS
              go_simp
              (refine (with_any _ b n _ _ _ _ _ _ (BZ.out _ (HX.out.trans (HS.out.hb.mono HX.out.size))) hn2l ⟨k, m, 0⟩).mono ?_; rintro e w' ⟨a, mm, cc, rfl, hbb, hbk⟩; exact ⟨_, rfl, HS.out.some HMO.out hbb (fun _ => ⟨a, mm, cc, rfl, hbk⟩)⟩)
            try simp only [Act.put, List.setIfInBounds_toArray, List.set_cons_zero, List.set_cons_succ]
            apply detm_cons
            · refine ⟨fun _ => by rfl, fun L V9 w hN hS => ?_⟩
              have hcc := hS.cell
              obtain ⟨a, mm, cc, hv7, hbk⟩ := hS.hf 7 (hN.was (by kernel_rfl)) rfl
              have HBK := Lib.hid hbk
              clear hbk
              simp only [Bk.cells, Bk.with] at hv7
              have HS := Lib.hid hS
              clear hS
              go_simp
              (refine (right_ex _ (b.with ⟨k, m, 0⟩) _ _ _ _ _ _ _ HBK.out (GZ.out _ (HX.out.trans (HS.out.hb.mono HX.out.size)))).mono ?_; rintro e w' ⟨rfl, hbb⟩; exact ⟨F6.out, HS.out.then HMO.out (fun _ _ h => absurd h (by decide)) hbb⟩)
            try simp only [Act.put, List.setIfInBounds_toArray, List.set_cons_zero, List.set_cons_succ]
            apply detm_cons
            · refine ⟨fun _ => by rfl, fun L V9 w hN hS => ?_⟩
              have hcc := hS.cell
              have HS := Lib.hid hS
              clear hS
              go_simp
              exact ⟨rfl, HS.out.keep (fun _ _ h => absurd h (by decide))⟩
            try simp only [Act.put, List.setIfInBounds_toArray, List.set_cons_zero, List.set_cons_succ]
            apply detm_cons
            · refine ⟨fun _ => by rfl, fun L V9 w hN hS => ?_⟩
              have hcc := hS.cell
              have HS := Lib.hid hS
              clear hS
              go_simp
              exact ⟨rfl, HS.out.keep (fun _ _ h => absurd h (by decide))⟩
            try simp only [Act.put, List.setIfInBounds_toArray, List.set_cons_zero, List.set_cons_succ]
            apply detm_cons
            · refine ⟨fun _ => by rfl, fun L V9 w hN hS => ?_⟩
              have hcc := hS.cell
              have HS := Lib.hid hS
              clear hS
              go_simp
              exact ⟨rfl, HS.out.keep (fun _ _ h => absurd h (by decide))⟩
            try simp only [Act.put, List.setIfInBounds_toArray, List.set_cons_zero, List.set_cons_succ]
            apply detm_cons
            · refine ⟨fun _ => by rfl, fun L V9 w hN hS => ?_⟩
              have hcc := hS.cell
              have HS := Lib.hid hS
              clear hS
              go_simp
              exact ⟨rfl, HS.out.keep (fun _ _ h => absurd h (by decide))⟩
            try simp only [Act.put, List.setIfInBounds_toArray, List.set_cons_zero, List.set_cons_succ]
            apply detm_cons
            · refine ⟨fun _ => by rfl, fun L V9 w hN hS => ?_⟩
              have hcc := hS.cell
              have HS := Lib.hid hS
              clear hS
              go_simp
              exact ⟨rfl, HS.out.keep (fun _ _ h => absurd h (by decide))⟩
            try simp only [Act.put, List.setIfInBounds_toArray, List.set_cons_zero, List.set_cons_succ]
            refine detm_nil ?_
            intro L V9 w17 hL hS
            have HU := Lib.hid hS.hb
            obtain ⟨v7, hv7⟩ : ∃ v, V9 7 = v := ⟨_, rfl⟩
            try rw [hv7]
            clear hL hS hv7 y0 y1 y2 y3 y4 y5 y6 r1 l7
            have HBN := Lib.hid (HBX.out.trans (HU.out.mono HBX.out.size))
            rcases Nat.lt_or_ge q 2 with hq2 | hq2
            · have hqi2 : (q : Int) < 2 := by omega
              have hd : decide (q < 2) = true := by simp [hq2]
              rw [hd]
              go_wp2_with fail
              go_roundg (4 - (q + 1))
              case measure => rw [HG2.out]; omega
              case rel => exact ⟨q + 1, by omega, rfl, by go_num, HBN.out⟩
            · have hqi2 : ¬ (q : Int) < 2 := by omega
              have hd : decide (q < 2) = false := by simp; omega
              rw [hd]
              go_wp2_with fail
              go_roundg (4 - (q + 1))
              case measure => rw [HG2.out]; omega
              case rel => exact ⟨q + 1, by omega, rfl, by go_num, HBN.out⟩
        · have hqi : ¬ (q : Int) < 4 := by omega
          have hy2 : y = 0 ∨ y = 1 ∨ y = 2 := by omega
          have hshl : IntKind.i64.wrap ((2 : Int) ^ y) = (2 : Int) ^ y := by rcases hy2 with rfl | rfl | rfl <;> decide
          have hy0 : 0 ≤ (y : Int) := by omega
          clear hq6 hy2
          have y0 : wr.cell? ⟨W.heap.size, 0, none⟩ = some (.slice sa n1 sc) := (HX.out.cell (p := ⟨W.heap.size, 0, none⟩) hVz).trans c0
          have y1 : wr.cell? ⟨W.heap.size, 1, none⟩ = some (.int .i64 b.wth) := (HX.out.cell (p := ⟨W.heap.size, 1, none⟩) hVz).trans c1
          have y2 : wr.cell? ⟨W.heap.size, 2, none⟩ = some (.int .i64 b.c0) := (HX.out.cell (p := ⟨W.heap.size, 2, none⟩) hVz).trans c2
          have y3 : wr.cell? ⟨W.heap.size, 3, none⟩ = some (.int .i64 b.c1) := (HX.out.cell (p := ⟨W.heap.size, 3, none⟩) hVz).trans c3
          have y4 : wr.cell? ⟨W.heap.size, 4, none⟩ = some (.int .i64 b.c2) := (HX.out.cell (p := ⟨W.heap.size, 4, none⟩) hVz).trans c4
          have y5 : wr.cell? ⟨W.heap.size, 5, none⟩ = some (.slice ka n2 kc) := (HX.out.cell (p := ⟨W.heap.size, 5, none⟩) hVz).trans c5
          have y6 : wr.cell? ⟨W.heap.size, 6, none⟩ = some (.int .i64 b.rate) := (HX.out.cell (p := ⟨W.heap.size, 6, none⟩) hVz).trans c6
          go_upto_region 21 with fail
          obtain ⟨X20, hX20⟩ : ∃ X, wr.alloc (Obj.cells #[.slice sa n1 sc, .int .i64 b.wth, .int .i64 b.c0, .int .i64 b.c1, .int .i64 b.c2, .slice ka n2 kc, .int .i64 b.rate] 26) = X := ⟨_, rfl⟩
          have hq20 : X20.heap[wr.heap.size]? = some (Obj.cells #[.slice sa n1 sc, .int .i64 b.wth, .int .i64 b.c0, .int .i64 b.c1, .int .i64 b.c2, .slice ka n2 kc, .int .i64 b.rate] 26) := by rw [← hX20]; exact World.alloc_heap_new _ _
          have hb20 : Below V.heap.size V X20 := by rw [← hX20]; exact HX.out.alloc HX.out.size _
          rw [hX20]
          obtain ⟨P20, hP20⟩ : ∃ P, wr.heap.size = P := ⟨_, rfl⟩
          have hVP : V.heap.size ≤ P20 := by rw [← hP20]; exact HX.out.size
          rw [hP20] at hq20 ⊢
          clear hX20 hP20 y0 y1 y2 y3 y4 y5 y6
          have w1 : X20.cell? ⟨P20, 1, none⟩ = some (.int .i64 b.wth) := blk_cell hq20
          have w1f := blk_frozen hq20 1
          have hq21 := blk_set (j := 1) (v := .int .i64 ((2 : Int) ^ y)) hq20
          have hb21 : Below V.heap.size V (X20.setCell ⟨P20, 1, none⟩ (.int .i64 ((2 : Int) ^ y))) := hb20.setCell hVP _
          clear hq20 hb20
          go_upto_region 22 with fail
          obtain ⟨X21, hX21⟩ : ∃ X, X20.setCell ⟨P20, 1, none⟩ (.int .i64 ((2 : Int) ^ y)) = X := ⟨_, rfl⟩
          rw [hX21] at hq21 hb21 ⊢
          clear hX21 w1 w1f
          have HX := Lib.hid hb21
          have hlt := Nat.lt_of_lt_of_le hVz hb21.size
          have y1 : X21.cell? ⟨W.heap.size, 1, none⟩ = some (.int .i64 b.wth) := (hb21.cell (p := ⟨W.heap.size, 1, none⟩) hVz).trans c1
          have k0 : X21.cell? ⟨P20, 0, none⟩ = some (.slice sa n1 sc) := blk_cell hq21
          have k1 : X21.cell? ⟨P20, 1, none⟩ = some (.int .i64 ((2 : Int) ^ y)) := blk_cell hq21
          have k2 : X21.cell? ⟨P20, 2, none⟩ = some (.int .i64 b.c0) := blk_cell hq21
          have k3 : X21.cell? ⟨P20, 3, none⟩ = some (.int .i64 b.c1) := blk_cell hq21
          have k4 : X21.cell? ⟨P20, 4, none⟩ = some (.int .i64 b.c2) := blk_cell hq21
          have k5 : X21.cell? ⟨P20, 5, none⟩ = some (.slice ka n2 kc) := blk_cell hq21
          have k6 : X21.cell? ⟨P20, 6, none⟩ = some (.int .i64 b.rate) := blk_cell hq21
          have HBO := Lib.hid (show BookW X21 n sa ka n1 sc n2 kc (b.only y) from ⟨(BZ.out _ hb21).hn, (BZ.out _ hb21).hs, (BZ.out _ hb21).hk, (BZ.out _ hb21).l1, (BZ.out _ hb21).l2⟩)
          clear hq21 hb21
          go_upto_region 23 with (first
            | (go_at_call 15; refine (right_ex _ (b.only y) n _ _ _ _ _ _ HBO.out (GZ.out _ HX.out)).mono ?_; rintro e w22 ⟨rfl, hb⟩; rw [F3.out]; have HX := Lib.hid (HX.out.trans (hb.mono HX.out.size)); have hlt := Nat.lt_of_lt_of_le hVz HX.out.size; clear hb)
            | fail)
          have y1 : w22.cell? ⟨W.heap.size, 1, none⟩ = some (.int .i64 b.wth) := (HX.out.cell (p := ⟨W.heap.size, 1, none⟩) hVz).trans c1
          rcases hwb : bitOf b.wth y with _ | _
          · go_wp2_with (first
            | (go_at_call 44; refine (HWB.out _).mono ?_; rintro e w1 ⟨rfl, rfl⟩; rw [hwb])
            | (go_at_call 25; refine (billed_any _ (GZ.out _ (by first | exact HX.out | exact HX.out.alloc HX.out.size _))).mono ?_; rintro e wz ⟨rfl, hb⟩; have HX := Lib.hid (show Below V.heap.size V wz from by first | exact HX.out.trans (hb.mono HX.out.size) | exact (HX.out.alloc HX.out.size _).trans (hb.mono (HX.out.alloc HX.out.size _).size)); have hk := (bcell HX.out).1; have hlt := Nat.lt_of_lt_of_le hVz HX.out.size; have HBE := Lib.hid hb; clear hb)
            | fail)
            go_ret
            exact ⟨rfl, hBV.trans (HX.out.mono hBV.size)⟩
          · have hisv := HAND.out hwb
            subst hisv
            rcases hsb : bitOf S y with _ | _
            · go_wp2_with (first
              | (go_at_call 44; refine (HWB.out _).mono ?_; rintro e w1 ⟨rfl, rfl⟩; rw [hwb])
              | (go_at_call 44; refine (HSB.out _).mono ?_; rintro e w1 ⟨rfl, rfl⟩; rw [hsb])
              | (go_at_call 25; refine (billed_any _ (GZ.out _ (by first | exact HX.out | exact HX.out.alloc HX.out.size _))).mono ?_; rintro e wz ⟨rfl, hb⟩; have HX := Lib.hid (show Below V.heap.size V wz from by first | exact HX.out.trans (hb.mono HX.out.size) | exact (HX.out.alloc HX.out.size _).trans (hb.mono (HX.out.alloc HX.out.size _).size)); have hk := (bcell HX.out).1; have hlt := Nat.lt_of_lt_of_le hVz HX.out.size; have HBE := Lib.hid hb; clear hb)
              | fail)
              go_ret
              exact ⟨rfl, hBV.trans (HX.out.mono hBV.size)⟩
            · go_wp2_with (first
              | (go_at_call 44; refine (HWB.out _).mono ?_; rintro e w1 ⟨rfl, rfl⟩; rw [hwb])
              | (go_at_call 44; refine (HSB.out _).mono ?_; rintro e w1 ⟨rfl, rfl⟩; rw [hsb])
              | (go_at_call 25; refine (billed_any _ (GZ.out _ (by first | exact HX.out | exact HX.out.alloc HX.out.size _))).mono ?_; rintro e wz ⟨rfl, hb⟩; have HX := Lib.hid (show Below V.heap.size V wz from by first | exact HX.out.trans (hb.mono HX.out.size) | exact (HX.out.alloc HX.out.size _).trans (hb.mono (HX.out.alloc HX.out.size _).size)); have hk := (bcell HX.out).1; have hlt := Nat.lt_of_lt_of_le hVz HX.out.size; have HBE := Lib.hid hb; clear hb)
              | fail)
              go_ret
              exact ⟨rfl, hBV.trans (HX.out.mono hBV.size)⟩
end Go.Proofs.YtbhjfojbjpbdbaaDoor
