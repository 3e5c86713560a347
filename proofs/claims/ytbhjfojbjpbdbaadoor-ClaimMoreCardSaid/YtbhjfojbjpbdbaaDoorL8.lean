/-
  ClaimMore walked: it answers true. Written by this session; printed by wip/tools/l8.py.
-/
import Derived.Test.YtbhjfojbjpbdbaaDoorM1
import Derived.Test.YtbhjfojbjpbdbaaDoorM2
import Derived.Test.YtbhjfojbjpbdbaaDoorA18
import Derived.Test.YtbhjfojbjpbdbaaDoorA23
import Derived.Test.YtbhjfojbjpbdbaaDoorA28
import Derived.Test.YtbhjfojbjpbdbaaDoorA29
import Derived.Test.YtbhjfojbjpbdbaaDoorK5
namespace Go.Proofs.YtbhjfojbjpbdbaaDoor
open Go.RowKit

theorem andNot8' : ∀ s < 8, ∀ v < 8, (∀ u < 3, bitOf ((s : Nat) : Int) u = true → bitOf ((v : Nat) : Int) u = true) → bits BinOp.andNot IntKind.i64 ((s : Nat) : Int) ((v : Nat) : Int) = 0 := by decide +kernel

theorem nat_len8 {w : World} {n : Nat} {a : Option Addr} {m c : Nat} {l : List Nat} (h : SlOf w n 1 (.slice a m c) (natCells l)) : m = l.length := by
  obtain ⟨_, _, e, _⟩ := h
  injection e with _ e _
  rw [e]
  simp [natCells]

/-- two cells of a block are written. -/
theorem put2 {W : World} {P : Nat} {z0 z1 : Value} (h : W.heap[P]? = some (.cells #[z0, z1] 32)) (v0 v1 : Value) :
    ((W.setCell ⟨P, 0, none⟩ v0).setCell ⟨P, 1, none⟩ v1).heap[P]? = some (.cells #[v0, v1] 32) ∧ (∀ k, k ≠ P → ((W.setCell ⟨P, 0, none⟩ v0).setCell ⟨P, 1, none⟩ v1).heap[k]? = W.heap[k]?) ∧
    ∀ B, B ≤ P → Below B W ((W.setCell ⟨P, 0, none⟩ v0).setCell ⟨P, 1, none⟩ v1) := by
  have h2 := blk_set (j := 1) (v := v1) (blk_set (j := 0) (v := v0) h)
  simp only [List.setIfInBounds_toArray, List.set_cons_zero, List.set_cons_succ] at h2
  exact ⟨h2, fun k hk => by rw [Below.heap_setCell _ _ _ _ hk, Below.heap_setCell _ _ _ _ hk], fun B hB => ((Below.refl B W).setCell (p := ⟨P, 0, none⟩) hB v0).setCell (p := ⟨P, 1, none⟩) hB v1⟩

set_option maxRecDepth 100000 in
set_option maxHeartbeats 2000000 in
theorem more_walk (W : World) (c : Ck) (m1 : Int) (b : Bk) (n : Nat) (sa ka : Option Addr) (n1 sc n2 kc : Nat) (hv : BookW W n sa ka n1 sc n2 kc b) (hG : Glob W) :
    Calls Tryd.prog 8 #[.agg (b.cells (.slice sa n1 sc) (.slice ka n2 kc)).toArray, .agg #[.int .i64 c.st, .int .i64 c.rd, .int .i64 c.er], .int .i64 m1] W fun e W' => e = .returned (.bool true) ∧ Below W.heap.size W W' := by
  obtain ⟨V, hV⟩ : ∃ V, (W.alloc (Obj.cells #[.slice sa n1 sc, .int .i64 b.wth, .int .i64 b.c0, .int .i64 b.c1, .int .i64 b.c2, .slice ka n2 kc, .int .i64 b.rate] 26)).alloc (Obj.cells #[Value.int .i64 c.st, Value.int .i64 c.rd, Value.int .i64 c.er] 42) = V := ⟨_, rfl⟩
  have hBV : Below W.heap.size W V := by rw [← hV]; exact ((Below.refl _ _).alloc (Nat.le_refl _) _).alloc (by simp) _
  have hb0 : V.heap[W.heap.size]? = some (Obj.cells #[.slice sa n1 sc, .int .i64 b.wth, .int .i64 b.c0, .int .i64 b.c1, .int .i64 b.c2, .slice ka n2 kc, .int .i64 b.rate] 26) := by rw [← hV]; exact (heap_alloc_old _ _ (by simp)).trans (World.alloc_heap_new _ _)
  have hVz : W.heap.size < V.heap.size := (Array.getElem?_eq_some_iff.1 hb0).1
  have HGV := Lib.hid (hG.below hG.lt hBV)
  have HVB := Lib.hid (hv.below hv.hn hBV)
  have HN := Lib.hid hv.hn
  have c0 : V.cell? ⟨W.heap.size, 0, none⟩ = some (.slice sa n1 sc) := blk_cell hb0
  have c1 : V.cell? ⟨W.heap.size, 1, none⟩ = some (.int .i64 b.wth) := blk_cell hb0
  have c2 : V.cell? ⟨W.heap.size, 2, none⟩ = some (.int .i64 b.c0) := blk_cell hb0
  have c3 : V.cell? ⟨W.heap.size, 3, none⟩ = some (.int .i64 b.c1) := blk_cell hb0
  have c4 : V.cell? ⟨W.heap.size, 4, none⟩ = some (.int .i64 b.c2) := blk_cell hb0
  have c5 : V.cell? ⟨W.heap.size, 5, none⟩ = some (.slice ka n2 kc) := blk_cell hb0
  have c6 : V.cell? ⟨W.heap.size, 6, none⟩ = some (.int .i64 b.rate) := blk_cell hb0
  have hi0 : V.heap[W.heap.size + 1]? = some (Obj.cells #[Value.int .i64 c.st, Value.int .i64 c.rd, Value.int .i64 c.er] 42) := by rw [← hV]; have := World.alloc_heap_new (W.alloc (Obj.cells #[.slice sa n1 sc, .int .i64 b.wth, .int .i64 b.c0, .int .i64 b.c1, .int .i64 b.c2, .slice ka n2 kc, .int .i64 b.rate] 26)) (Obj.cells #[Value.int .i64 c.st, Value.int .i64 c.rd, Value.int .i64 c.er] 42); rwa [World.size_alloc] at this
  have hVx : W.heap.size + 1 < V.heap.size := (Array.getElem?_eq_some_iff.1 hi0).1
  have HI0 := Lib.hid hi0
  have HB0 := Lib.hid hb0
  have BZ := Lib.hid (show ∀ w, Below V.heap.size V w → BookW w n sa ka n1 sc n2 kc b from fun w h => HVB.out.below HVB.out.hn h)
  have GZ := Lib.hid (show ∀ w, Below V.heap.size V w → Glob w from fun w h => HGV.out.below HGV.out.lt h)
  have HX := Lib.hid (Below.refl V.heap.size V)
  have hn1 : n1 ≤ 9223372036854775807 := by obtain ⟨_, _, e, h1, h2, _⟩ := hv.hs; injection e with _ e2 _; unfold maxLen at h2; omega
  have HL1 := Lib.hid hv.l1
  have HL2 := Lib.hid hv.l2
  have hn2 : n2 ≤ 9223372036854775807 := by obtain ⟨_, _, e, h1, h2, _⟩ := hv.hk; injection e with _ e2 _; unfold maxLen at h2; omega
  clear hb0 hv hG hi0
  simp only [Bk.cells]
  by_cases hok : bkOk b = true
  rotate_left
  · have hok' : bkOk b = false := by simpa using hok
    have HS := Lib.hid hok'
    clear hok hok'
    go_enter Tryd.func8, Tryd.ntmps8
    go_upto_region 1 with fail
    try rw [hV]
    clear hV
    go_wp2_with (first
      | (go_at_call 41; refine (sound_any _ b n _ _ _ _ _ _ (BZ.out _ (by first | exact HX.out | exact HX.out.alloc HX.out.size _))).mono ?_; rintro e ws ⟨rfl, hb⟩; rw [HS.out]; have HX := Lib.hid (show Below V.heap.size V ws from by first | exact HX.out.trans (hb.mono HX.out.size) | exact (HX.out.alloc HX.out.size _).trans (hb.mono (HX.out.alloc HX.out.size _).size)); have hk := (bcell HX.out).1; have hlt := Nat.lt_of_lt_of_le hVz HX.out.size; have HBE := Lib.hid hb; clear hb)
      | (go_at_call 25; refine (billed_any _ (GZ.out _ (by first | exact HX.out | exact HX.out.alloc HX.out.size _))).mono ?_; rintro e wz ⟨rfl, hb⟩; have HX := Lib.hid (show Below V.heap.size V wz from by first | exact HX.out.trans (hb.mono HX.out.size) | exact (HX.out.alloc HX.out.size _).trans (hb.mono (HX.out.alloc HX.out.size _).size)); have hk := (bcell HX.out).1; have hlt := Nat.lt_of_lt_of_le hVz HX.out.size; have HBE := Lib.hid hb; clear hb)
      | fail)
    go_ret
    exact ⟨rfl, hBV.trans (HX.out.mono hBV.size)⟩
  by_cases h4 : n2 = 4
  · subst h4
    have HS := Lib.hid hok
    clear hok
    go_enter Tryd.func8, Tryd.ntmps8
    go_upto_region 1 with fail
    try rw [hV]
    clear hV
    go_wp2_with (first
      | (go_at_call 41; refine (sound_any _ b n _ _ _ _ _ _ (BZ.out _ (by first | exact HX.out | exact HX.out.alloc HX.out.size _))).mono ?_; rintro e ws ⟨rfl, hb⟩; rw [HS.out]; have HX := Lib.hid (show Below V.heap.size V ws from by first | exact HX.out.trans (hb.mono HX.out.size) | exact (HX.out.alloc HX.out.size _).trans (hb.mono (HX.out.alloc HX.out.size _).size)); have hk := (bcell HX.out).1; have hlt := Nat.lt_of_lt_of_le hVz HX.out.size; have HBE := Lib.hid hb; clear hb)
      | (go_at_call 25; refine (billed_any _ (GZ.out _ (by first | exact HX.out | exact HX.out.alloc HX.out.size _))).mono ?_; rintro e wz ⟨rfl, hb⟩; have HX := Lib.hid (show Below V.heap.size V wz from by first | exact HX.out.trans (hb.mono HX.out.size) | exact (HX.out.alloc HX.out.size _).trans (hb.mono (HX.out.alloc HX.out.size _).size)); have hk := (bcell HX.out).1; have hlt := Nat.lt_of_lt_of_le hVz HX.out.size; have HBE := Lib.hid hb; clear hb)
      | fail)
    go_ret
    exact ⟨rfl, hBV.trans (HX.out.mono hBV.size)⟩
  · have HF := Lib.hid hok
    have hc4 : b.cks.length ≠ 4 := by rw [← HL2.out]; exact h4
    have hn4 : ((n2 : Int) == 4) = false := by simp; omega
    have hn2l : n2 ≤ 4 := by have := HL2.out; have := bkOk_head hok; omega
    have h13 := (bkOk_head hok).1
    have hn13 : 1 ≤ n1 ∧ n1 ≤ 3 := by have := HL1.out; omega
    obtain ⟨k, hkw, hk1⟩ := wrap_at m1 (show 0 < n1 by omega)
    have HK1 := Lib.hid hkw
    have hkn : k < b.sts.length := by have := HL1.out; omega
    clear hkw h13 h4
    go_enter Tryd.func8, Tryd.ntmps8
    go_upto_region 1 with fail
    try rw [hV]
    clear hV
    go_upto_region 3 with (first
      | (go_at_call 41; refine (sound_any _ b n _ _ _ _ _ _ (BZ.out _ (by first | exact HX.out | exact HX.out.alloc HX.out.size _))).mono ?_; rintro e ws ⟨rfl, hb⟩; rw [HF.out]; have HX := Lib.hid (show Below V.heap.size V ws from by first | exact HX.out.trans (hb.mono HX.out.size) | exact (HX.out.alloc HX.out.size _).trans (hb.mono (HX.out.alloc HX.out.size _).size)); have hk := (bcell HX.out).1; have hlt := Nat.lt_of_lt_of_le hVz HX.out.size; have HBE := Lib.hid hb; clear hb)
      | fail)
    obtain ⟨X0, hX0⟩ : ∃ X, ws = X := ⟨_, rfl⟩
    rw [hX0] at HX hk hlt ⊢
    clear hX0 HBE hn4
    have y0 : X0.cell? ⟨W.heap.size, 0, none⟩ = some (.slice sa n1 sc) := (HX.out.cell (p := ⟨W.heap.size, 0, none⟩) hVz).trans c0
    have y1 : X0.cell? ⟨W.heap.size, 1, none⟩ = some (.int .i64 b.wth) := (HX.out.cell (p := ⟨W.heap.size, 1, none⟩) hVz).trans c1
    have y2 : X0.cell? ⟨W.heap.size, 2, none⟩ = some (.int .i64 b.c0) := (HX.out.cell (p := ⟨W.heap.size, 2, none⟩) hVz).trans c2
    have y3 : X0.cell? ⟨W.heap.size, 3, none⟩ = some (.int .i64 b.c1) := (HX.out.cell (p := ⟨W.heap.size, 3, none⟩) hVz).trans c3
    have y4 : X0.cell? ⟨W.heap.size, 4, none⟩ = some (.int .i64 b.c2) := (HX.out.cell (p := ⟨W.heap.size, 4, none⟩) hVz).trans c4
    have y5 : X0.cell? ⟨W.heap.size, 5, none⟩ = some (.slice ka n2 kc) := (HX.out.cell (p := ⟨W.heap.size, 5, none⟩) hVz).trans c5
    have y6 : X0.cell? ⟨W.heap.size, 6, none⟩ = some (.int .i64 b.rate) := (HX.out.cell (p := ⟨W.heap.size, 6, none⟩) hVz).trans c6
    have hq0 := (HX.out.block _ hVx).trans HI0.out
    have z0 : X0.cell? ⟨W.heap.size + 1, 0, none⟩ = some (.int .i64 c.st) := blk_cell hq0
    have z1 : X0.cell? ⟨W.heap.size + 1, 1, none⟩ = some (.int .i64 c.rd) := blk_cell hq0
    have z2 : X0.cell? ⟨W.heap.size + 1, 2, none⟩ = some (.int .i64 c.er) := blk_cell hq0
    have lx : W.heap.size + 1 < X0.heap.size := Nat.lt_of_lt_of_le hVx HX.out.size
    have hpos : 0 < (b.with c).cks.length := by simp [Bk.with]
    have HHK := Lib.hid hk
    have hss : ∀ w, Below X0.heap.size X0 w → SlOf w X0.heap.size 7 (.slice sa n1 sc) (stCells (b.with c).sts) := fun w h => by
      have := BZ.out w (HX.out.trans (h.mono HX.out.size))
      exact (BZ.out X0 HX.out).hs.below (BZ.out X0 HX.out).hn h |>.mono (BZ.out X0 HX.out).hn
    have HSS := Lib.hid hss
    clear hk hss hq0
    refine wp_region_mix (S := LayI X0 sa n1 sc (b.with c) #[.slice none 0 0, .int .i64 0, .int .i64 0, .int .i64 0, .int .i64 0, .slice none 0 0, .int .i64 0]) (by kernel_rfl) (by kernel_rfl) (LayI.start _ _ _ _ _ _) ?_
    apply detm_cons
    · refine ⟨fun _ => by rfl, fun L V9 w hN hS => ?_⟩
      have hcc := hS.cell
      have HS := Lib.hid hS
      clear hS
      go_simp
      exact ⟨rfl, HS.out.keep (by decide) (by decide) (by decide)⟩
    try simp only [Act.put, List.setIfInBounds_toArray, List.set_cons_zero, List.set_cons_succ]
    apply detm_cons
    · refine ⟨fun _ => by rfl, fun L V9 w hN hS => ?_⟩
      have hcc := hS.cell
      have HS := Lib.hid hS
      clear hS
      go_simp
      exact ⟨rfl, HS.out.keep (by decide) (by decide) (by decide)⟩
    try simp only [Act.put, List.setIfInBounds_toArray, List.set_cons_zero, List.set_cons_succ]
    apply detm_some
    · refine ⟨fun _ => by rfl, fun L V9 w hN hS => ?_⟩
      have hcc := hS.cell
      have l2 : L 2 = false := hN.free
      have HL9 := Lib.hid l2
      clear l2
      have HS := Lib.hid hS
      clear hS
      go_simp
      (refine (with_own _ b n _ _ _ _ _ _ (BZ.out _ (HX.out.trans (HS.out.hb.mono HX.out.size))) hn2l c).mono ?_; rintro e w' ⟨g, mm, cc, rfl, hbb, hbk, hg⟩; exact ⟨_, rfl, HS.out.with HL9.out hbb hbk hg hpos⟩)
    try simp only [Act.put, List.setIfInBounds_toArray, List.set_cons_zero, List.set_cons_succ]
    apply detm_cons
    · refine ⟨fun _ => by rfl, fun L V9 w hN hS => ?_⟩
      have hcc := hS.cell
      have HS := Lib.hid hS
      clear hS
      go_simp
      exact ⟨rfl, HS.out.keep (by decide) (by decide) (by decide)⟩
    try simp only [Act.put, List.setIfInBounds_toArray, List.set_cons_zero, List.set_cons_succ]
    apply detm_cons
    · refine ⟨fun _ => by rfl, fun L V9 w hN hS => ?_⟩
      have hcc := hS.cell
      have HS := Lib.hid hS
      clear hS
      go_simp
      exact ⟨rfl, HS.out.keep (by decide) (by decide) (by decide)⟩
    try simp only [Act.put, List.setIfInBounds_toArray, List.set_cons_zero, List.set_cons_succ]
    apply detm_cons
    · refine ⟨fun _ => by rfl, fun L V9 w hN hS => ?_⟩
      have hcc := hS.cell
      have HS := Lib.hid hS
      clear hS
      go_simp
      exact ⟨rfl, HS.out.keep (by decide) (by decide) (by decide)⟩
    try simp only [Act.put, List.setIfInBounds_toArray, List.set_cons_zero, List.set_cons_succ]
    apply detm_cons
    · refine ⟨fun _ => by rfl, fun L V9 w hN hS => ?_⟩
      have hcc := hS.cell
      have HS := Lib.hid hS
      clear hS
      go_simp
      exact ⟨rfl, HS.out.keep (by decide) (by decide) (by decide)⟩
    try simp only [Act.put, List.setIfInBounds_toArray, List.set_cons_zero, List.set_cons_succ]
    apply detm_cons
    · refine ⟨fun _ => by rfl, fun L V9 w hN hS => ?_⟩
      have hcc := hS.cell
      have HS := Lib.hid hS
      clear hS
      go_simp
      (refine (wrap_any _ _ (by omega) _).mono ?_; rintro e w' ⟨rfl, rfl⟩; exact ⟨congrArg Ending.returned (congrArg (Value.int .i64) HK1.out), HS.out.keep (by decide) (by decide) (by decide)⟩)
    try simp only [Act.put, List.setIfInBounds_toArray, List.set_cons_zero, List.set_cons_succ]
    apply detm_some
    · refine ⟨fun _ => by rfl, fun L V9 w hN hS => ?_⟩
      have hcc := hS.cell
      have l8 : L 8 = false := hN.free
      have HL9 := Lib.hid l8
      clear l8
      have HS := Lib.hid hS
      clear hS
      go_simp
      exact HS.out.new HL9.out
    try simp only [Act.put, List.setIfInBounds_toArray, List.set_cons_zero, List.set_cons_succ]
    apply detm_cons
    · refine ⟨fun _ => by rfl, fun L V9 w hN hS => ?_⟩
      have hcc := hS.cell
      have l2 : L 2 = true := hN.was (by kernel_rfl)
      have l8 : L 8 = true := hN.was (by kernel_rfl)
      have l9 : L 9 = false := hN.free
      obtain ⟨P, eP, hP1, hP2, hP3, _⟩ := hS.h8 l8
      obtain ⟨g, mm, cc, eV, _⟩ := hS.h2 l2
      have hPz := hP3 l9
      have hPf := blk_frozen hPz
      have f0 := hPf 0
      have f1 := hPf 1
      have f2 := hPf 2
      have f3 := hPf 3
      have f4 := hPf 4
      have f5 := hPf 5
      have f6 := hPf 6
      have p0 : w.cell? ⟨P, 0, none⟩ = some (_) := blk_cell hPz
      have p1 : w.cell? ⟨P, 1, none⟩ = some (_) := blk_cell hPz
      have p2 : w.cell? ⟨P, 2, none⟩ = some (_) := blk_cell hPz
      have p3 : w.cell? ⟨P, 3, none⟩ = some (_) := blk_cell hPz
      have p4 : w.cell? ⟨P, 4, none⟩ = some (_) := blk_cell hPz
      have p5 : w.cell? ⟨P, 5, none⟩ = some (_) := blk_cell hPz
      have p6 : w.cell? ⟨P, 6, none⟩ = some (_) := blk_cell hPz
      have EP := Lib.hid eP
      have EV := Lib.hid eV
      have H29 := Lib.hid (And.intro l2 (And.intro l8 l9))
      simp only [Bk.cells, Bk.with] at eV
      clear l2 l8 l9 hP1 hP3 hPz hPf
      have HS := Lib.hid hS
      clear hS
      go_simp
      exact ⟨rfl, HS.out.store H29.out.1 H29.out.2.1 H29.out.2.2 EP.out rfl EV.out HSS.out⟩
    try simp only [Act.put]
    apply detm_cons
    · refine ⟨fun _ => by rfl, fun L V9 w hN hS => ?_⟩
      have hcc := hS.cell
      have HS := Lib.hid hS
      clear hS
      go_simp
      exact ⟨rfl, HS.out.keep (by decide) (by decide) (by decide)⟩
    try simp only [Act.put, List.setIfInBounds_toArray, List.set_cons_zero, List.set_cons_succ]
    refine detm_nil ?_
    intro L V9 w3 hL hS
    have l2 : L 2 = true := hL 2 (by decide)
    have l8 : L 8 = true := hL 8 (by decide)
    have l9 : L 9 = true := hL 9 (by decide)
    obtain ⟨g, mm, cc, eV, hbk, hg1, hg2, _⟩ := hS.h2 l2
    obtain ⟨P, eP, hP1, hP2, _, hP3⟩ := hS.h8 l8
    obtain ⟨C, eC, hqP⟩ := hP3 l9
    have hCC : C = #[.slice sa n1 sc, .int .i64 b.wth, .int .i64 b.c0, .int .i64 b.c1, .int .i64 b.c2, .slice (some ⟨g, 0, none⟩) mm cc, .int .i64 b.rate] := by rw [eV] at eC; injection eC with eC; exact eC.symm
    subst hCC
    have hb3 := hS.hb
    obtain ⟨v2, hv2⟩ : ∃ v, V9 2 = v := ⟨_, rfl⟩
    simp only [Nat.zero_add, Nat.reduceAdd, eP, hv2]
    have hbV := HX.out.trans (hb3.mono HX.out.size)
    have hWV := hBV.trans (hbV.mono hBV.size)
    have BZ2 := Lib.hid (show ∀ w, Below w3.heap.size w3 w → BookW w n sa ka n1 sc n2 kc b from fun w h => BZ.out w (hbV.trans (h.mono hbV.size)))
    have GZ2 := Lib.hid (show ∀ w, Below w3.heap.size w3 w → Glob w from fun w h => GZ.out w (hbV.trans (h.mono hbV.size)))
    have BX := Lib.hid (show ∀ w, Below w3.heap.size w3 w → BookW w w3.heap.size sa (some ⟨g, 0, none⟩) n1 sc mm cc (b.with c) from fun w h => hbk.below (Nat.le_refl _) h)
    have hq0 := (hbV.block _ hVz).trans HB0.out
    have hq1 := (hbV.block _ hVx).trans HI0.out
    have hVz3 := Nat.lt_of_lt_of_le hVz hbV.size
    have hVx3 := Nat.lt_of_lt_of_le hVx hbV.size
    clear HX HHK hk1 y0 y1 y2 y3 y4 y5 y6 z0 z1 z2 lx hpos HSS hL hS l2 l8 l9 eV eP eC hP3 hv2 hb3 BZ GZ c0 c1 c2 c3 c4 c5 c6 HI0 HB0 HGV HVB hVz hVx hlt hg1 hg2 hP1 hbk hBV hbV
    have hBV := hWV
    have BZ := BZ2
    have GZ := GZ2
    have hVz := hVz3
    have hVx := hVx3
    clear hWV BZ2 GZ2 hVz3 hVx3
    have c0 : w3.cell? ⟨W.heap.size, 0, none⟩ = some (.slice sa n1 sc) := blk_cell hq0
    have c1 : w3.cell? ⟨W.heap.size, 1, none⟩ = some (.int .i64 b.wth) := blk_cell hq0
    have c2 : w3.cell? ⟨W.heap.size, 2, none⟩ = some (.int .i64 b.c0) := blk_cell hq0
    have c3 : w3.cell? ⟨W.heap.size, 3, none⟩ = some (.int .i64 b.c1) := blk_cell hq0
    have c4 : w3.cell? ⟨W.heap.size, 4, none⟩ = some (.int .i64 b.c2) := blk_cell hq0
    have c5 : w3.cell? ⟨W.heap.size, 5, none⟩ = some (.slice ka n2 kc) := blk_cell hq0
    have c6 : w3.cell? ⟨W.heap.size, 6, none⟩ = some (.int .i64 b.rate) := blk_cell hq0
    have d0 : w3.cell? ⟨W.heap.size + 1, 0, none⟩ = some (.int .i64 c.st) := blk_cell hq1
    have d1 : w3.cell? ⟨W.heap.size + 1, 1, none⟩ = some (.int .i64 c.rd) := blk_cell hq1
    have d2 : w3.cell? ⟨W.heap.size + 1, 2, none⟩ = some (.int .i64 c.er) := blk_cell hq1
    have p0 : w3.cell? ⟨P, 0, none⟩ = some (.slice sa n1 sc) := blk_cell hqP
    have p1 : w3.cell? ⟨P, 1, none⟩ = some (.int .i64 b.wth) := blk_cell hqP
    have p2 : w3.cell? ⟨P, 2, none⟩ = some (.int .i64 b.c0) := blk_cell hqP
    have p3 : w3.cell? ⟨P, 3, none⟩ = some (.int .i64 b.c1) := blk_cell hqP
    have p4 : w3.cell? ⟨P, 4, none⟩ = some (.int .i64 b.c2) := blk_cell hqP
    have p5 : w3.cell? ⟨P, 5, none⟩ = some (.slice (some ⟨g, 0, none⟩) mm cc) := blk_cell hqP
    have p6 : w3.cell? ⟨P, 6, none⟩ = some (.int .i64 b.rate) := blk_cell hqP
    have HB0 := Lib.hid hq0
    have HI0 := Lib.hid hq1
    have HP0 := Lib.hid hqP
    have HX := Lib.hid (Below.refl w3.heap.size w3)
    clear hq0 hq1 hqP
    by_cases hck : ckOk b.sts.length c = true
    rotate_left
    · obtain ⟨e1, e2⟩ := more_bad hok hc4 (by simpa using hck)
      have F1 := Lib.hid e2
      have F2 := Lib.hid e1
      clear e1 e2 hck
      go_upto_region 5 with (first
        | (go_at_call 36; refine (fits_ex _ b c n _ _ _ _ _ _ (BZ.out _ (by first | exact HX.out | exact HX.out.alloc HX.out.size _)) (GZ.out _ (by first | exact HX.out | exact HX.out.alloc HX.out.size _))).mono ?_; rintro e w4 ⟨rfl, hb⟩; rw [F1.out]; have HX := Lib.hid (show Below w3.heap.size w3 w4 from by first | exact HX.out.trans (hb.mono HX.out.size) | exact (HX.out.alloc HX.out.size _).trans (hb.mono (HX.out.alloc HX.out.size _).size)); have hk := (bcell HX.out).1; have hlt := Nat.lt_of_lt_of_le hVz HX.out.size; have HBE := Lib.hid hb; clear hb)
        | fail)
      go_upto_region 6 with (first
        | (go_at_call 15; refine (right_ex _ (b.with c) _ _ _ _ _ _ _ (BX.out _ (by first | exact HX.out | exact HX.out.alloc HX.out.size _)) (GZ.out _ (by first | exact HX.out | exact HX.out.alloc HX.out.size _))).mono ?_; rintro e w5 ⟨rfl, hb⟩; rw [F2.out]; have HX := Lib.hid (show Below w3.heap.size w3 w5 from by first | exact HX.out.trans (hb.mono HX.out.size) | exact (HX.out.alloc HX.out.size _).trans (hb.mono (HX.out.alloc HX.out.size _).size)); have hk := (bcell HX.out).1; have hlt := Nat.lt_of_lt_of_le hVz HX.out.size; have HBE := Lib.hid hb; clear hb)
        | fail)
      go_wp2_with (first
        | (go_at_call 25; refine (billed_any _ (GZ.out _ (by first | exact HX.out | exact HX.out.alloc HX.out.size _))).mono ?_; rintro e wz ⟨rfl, hb⟩; have HX := Lib.hid (show Below w3.heap.size w3 wz from by first | exact HX.out.trans (hb.mono HX.out.size) | exact (HX.out.alloc HX.out.size _).trans (hb.mono (HX.out.alloc HX.out.size _).size)); have hk := (bcell HX.out).1; have hlt := Nat.lt_of_lt_of_le hVz HX.out.size; have HBE := Lib.hid hb; clear hb)
        | fail)
      go_ret
      exact ⟨rfl, hBV.trans (HX.out.mono hBV.size)⟩
    obtain ⟨e1, e2⟩ := more_fits hok hc4 hck
    obtain ⟨v, w, e3, e4, hvw, _, _⟩ := more_wrong hok hc4 hck
    have FV := Lib.hid e3
    have FW := Lib.hid e4
    by_cases hT : truths (b.with c) = []
    · have F2 := Lib.hid (show rightS (b.with c) = (false, 0) by rw [e1, hT]; rfl)
      have e2' : fitsS b c = (false, 62) ∨ fitsS b c = (false, 0) := by
        rcases e2 with ⟨_, e⟩ | e
        · exact .inl e
        · right; rw [e, hT]; rfl
      clear e1 e2 e3 e4 hT hck
      rcases e2' with e2 | e2
      · have F1 := Lib.hid e2
        clear e2
        go_upto_region 5 with (first
          | (go_at_call 36; refine (fits_ex _ b c n _ _ _ _ _ _ (BZ.out _ (by first | exact HX.out | exact HX.out.alloc HX.out.size _)) (GZ.out _ (by first | exact HX.out | exact HX.out.alloc HX.out.size _))).mono ?_; rintro e w4 ⟨rfl, hb⟩; rw [F1.out]; have HX := Lib.hid (show Below w3.heap.size w3 w4 from by first | exact HX.out.trans (hb.mono HX.out.size) | exact (HX.out.alloc HX.out.size _).trans (hb.mono (HX.out.alloc HX.out.size _).size)); have hk := (bcell HX.out).1; have hlt := Nat.lt_of_lt_of_le hVz HX.out.size; have HBE := Lib.hid hb; clear hb)
          | fail)
        go_upto_region 6 with (first
          | (go_at_call 15; refine (right_ex _ (b.with c) _ _ _ _ _ _ _ (BX.out _ (by first | exact HX.out | exact HX.out.alloc HX.out.size _)) (GZ.out _ (by first | exact HX.out | exact HX.out.alloc HX.out.size _))).mono ?_; rintro e w5 ⟨rfl, hb⟩; rw [F2.out]; have HX := Lib.hid (show Below w3.heap.size w3 w5 from by first | exact HX.out.trans (hb.mono HX.out.size) | exact (HX.out.alloc HX.out.size _).trans (hb.mono (HX.out.alloc HX.out.size _).size)); have hk := (bcell HX.out).1; have hlt := Nat.lt_of_lt_of_le hVz HX.out.size; have HBE := Lib.hid hb; clear hb)
          | fail)
        go_upto_region 9 with (first
          | (go_at_call 38; refine (wrong_ex _ b n _ _ _ _ _ _ (BZ.out _ (by first | exact HX.out | exact HX.out.alloc HX.out.size _)) (GZ.out _ (by first | exact HX.out | exact HX.out.alloc HX.out.size _))).mono ?_; rintro e ww1 ⟨ra1, rl1, rc1, rfl, hb, hsw⟩; rw [FV.out] at hsw ⊢; have HRL1 := Lib.hid (nat_len8 hsw); clear hsw; have HX := Lib.hid (show Below w3.heap.size w3 ww1 from by first | exact HX.out.trans (hb.mono HX.out.size) | exact (HX.out.alloc HX.out.size _).trans (hb.mono (HX.out.alloc HX.out.size _).size)); have hk := (bcell HX.out).1; have hlt := Nat.lt_of_lt_of_le hVz HX.out.size; have HBE := Lib.hid hb; clear hb)
          | fail)
        go_upto_region 10 with (first
          | (go_at_call 38; refine (wrong_ex _ (b.with c) _ _ _ _ _ _ _ (BX.out _ (by first | exact HX.out | exact HX.out.alloc HX.out.size _)) (GZ.out _ (by first | exact HX.out | exact HX.out.alloc HX.out.size _))).mono ?_; rintro e ww2 ⟨ra2, rl2, rc2, rfl, hb, hsw⟩; rw [FW.out] at hsw ⊢; have HRL2 := Lib.hid (nat_len8 hsw); clear hsw; have HX := Lib.hid (show Below w3.heap.size w3 ww2 from by first | exact HX.out.trans (hb.mono HX.out.size) | exact (HX.out.alloc HX.out.size _).trans (hb.mono (HX.out.alloc HX.out.size _).size)); have hk := (bcell HX.out).1; have hlt := Nat.lt_of_lt_of_le hVz HX.out.size; have HBE := Lib.hid hb; clear hb)
          | fail)
        have hnl : ¬ ((rl2 : Int) < (rl1 : Int)) := by have h1 := HRL1.out; have h2 := HRL2.out; omega
        go_wp2_with (first
          | (go_at_call 25; refine (billed_any _ (GZ.out _ (by first | exact HX.out | exact HX.out.alloc HX.out.size _))).mono ?_; rintro e wz ⟨rfl, hb⟩; have HX := Lib.hid (show Below w3.heap.size w3 wz from by first | exact HX.out.trans (hb.mono HX.out.size) | exact (HX.out.alloc HX.out.size _).trans (hb.mono (HX.out.alloc HX.out.size _).size)); have hk := (bcell HX.out).1; have hlt := Nat.lt_of_lt_of_le hVz HX.out.size; have HBE := Lib.hid hb; clear hb)
          | fail)
        go_ret
        exact ⟨rfl, hBV.trans (HX.out.mono hBV.size)⟩
      · have F1 := Lib.hid e2
        clear e2
        go_upto_region 5 with (first
          | (go_at_call 36; refine (fits_ex _ b c n _ _ _ _ _ _ (BZ.out _ (by first | exact HX.out | exact HX.out.alloc HX.out.size _)) (GZ.out _ (by first | exact HX.out | exact HX.out.alloc HX.out.size _))).mono ?_; rintro e w4 ⟨rfl, hb⟩; rw [F1.out]; have HX := Lib.hid (show Below w3.heap.size w3 w4 from by first | exact HX.out.trans (hb.mono HX.out.size) | exact (HX.out.alloc HX.out.size _).trans (hb.mono (HX.out.alloc HX.out.size _).size)); have hk := (bcell HX.out).1; have hlt := Nat.lt_of_lt_of_le hVz HX.out.size; have HBE := Lib.hid hb; clear hb)
          | fail)
        go_upto_region 6 with (first
          | (go_at_call 15; refine (right_ex _ (b.with c) _ _ _ _ _ _ _ (BX.out _ (by first | exact HX.out | exact HX.out.alloc HX.out.size _)) (GZ.out _ (by first | exact HX.out | exact HX.out.alloc HX.out.size _))).mono ?_; rintro e w5 ⟨rfl, hb⟩; rw [F2.out]; have HX := Lib.hid (show Below w3.heap.size w3 w5 from by first | exact HX.out.trans (hb.mono HX.out.size) | exact (HX.out.alloc HX.out.size _).trans (hb.mono (HX.out.alloc HX.out.size _).size)); have hk := (bcell HX.out).1; have hlt := Nat.lt_of_lt_of_le hVz HX.out.size; have HBE := Lib.hid hb; clear hb)
          | fail)
        go_upto_region 9 with (first
          | (go_at_call 38; refine (wrong_ex _ b n _ _ _ _ _ _ (BZ.out _ (by first | exact HX.out | exact HX.out.alloc HX.out.size _)) (GZ.out _ (by first | exact HX.out | exact HX.out.alloc HX.out.size _))).mono ?_; rintro e ww1 ⟨ra1, rl1, rc1, rfl, hb, hsw⟩; rw [FV.out] at hsw ⊢; have HRL1 := Lib.hid (nat_len8 hsw); clear hsw; have HX := Lib.hid (show Below w3.heap.size w3 ww1 from by first | exact HX.out.trans (hb.mono HX.out.size) | exact (HX.out.alloc HX.out.size _).trans (hb.mono (HX.out.alloc HX.out.size _).size)); have hk := (bcell HX.out).1; have hlt := Nat.lt_of_lt_of_le hVz HX.out.size; have HBE := Lib.hid hb; clear hb)
          | fail)
        go_upto_region 10 with (first
          | (go_at_call 38; refine (wrong_ex _ (b.with c) _ _ _ _ _ _ _ (BX.out _ (by first | exact HX.out | exact HX.out.alloc HX.out.size _)) (GZ.out _ (by first | exact HX.out | exact HX.out.alloc HX.out.size _))).mono ?_; rintro e ww2 ⟨ra2, rl2, rc2, rfl, hb, hsw⟩; rw [FW.out] at hsw ⊢; have HRL2 := Lib.hid (nat_len8 hsw); clear hsw; have HX := Lib.hid (show Below w3.heap.size w3 ww2 from by first | exact HX.out.trans (hb.mono HX.out.size) | exact (HX.out.alloc HX.out.size _).trans (hb.mono (HX.out.alloc HX.out.size _).size)); have hk := (bcell HX.out).1; have hlt := Nat.lt_of_lt_of_le hVz HX.out.size; have HBE := Lib.hid hb; clear hb)
          | fail)
        have hnl : ¬ ((rl2 : Int) < (rl1 : Int)) := by have h1 := HRL1.out; have h2 := HRL2.out; omega
        go_wp2_with (first
          | (go_at_call 25; refine (billed_any _ (GZ.out _ (by first | exact HX.out | exact HX.out.alloc HX.out.size _))).mono ?_; rintro e wz ⟨rfl, hb⟩; have HX := Lib.hid (show Below w3.heap.size w3 wz from by first | exact HX.out.trans (hb.mono HX.out.size) | exact (HX.out.alloc HX.out.size _).trans (hb.mono (HX.out.alloc HX.out.size _).size)); have hk := (bcell HX.out).1; have hlt := Nat.lt_of_lt_of_le hVz HX.out.size; have HBE := Lib.hid hb; clear hb)
          | fail)
        go_ret
        exact ⟨rfl, hBV.trans (HX.out.mono hBV.size)⟩
    · have F2 := Lib.hid (show rightS (b.with c) = (true, 0) by rw [e1]; cases h : truths (b.with c) with | nil => exact absurd h hT | cons => rfl)
      have F1 := Lib.hid (show fitsS b c = (true, 0) by
        rcases e2 with ⟨h, _⟩ | e
        · exact absurd h hT
        · rw [e]; cases h : truths (b.with c) with | nil => exact absurd h hT | cons => rfl)
      obtain ⟨⟨ca, cb, cc', cd, f3, f4, hc1, hc2⟩, ⟨la, lb, lc, ld, f5, f6, hl1, hl2⟩, ⟨ra, rb, rc, rd, f7, f8, hr1, hr2⟩, ⟨oa, ob, oc, od, f9, f10, ho1, ho2⟩, ⟨q, r, f11, f12, hqr⟩, ⟨s1, s2, f13, f14, hs8, ht8, hbits⟩, ⟨p1, p2, f15, f16, hpp⟩⟩ := more_law hok hc4 hck hT hkn
      have F3 := Lib.hid f3
      have F4 := Lib.hid f4
      have F5 := Lib.hid f5
      have F6 := Lib.hid f6
      have F7 := Lib.hid f7
      have F8 := Lib.hid f8
      have F9 := Lib.hid f9
      have F10 := Lib.hid f10
      have F11 := Lib.hid f11
      have F12 := Lib.hid f12
      have F13 := Lib.hid f13
      have F14 := Lib.hid f14
      have F15 := Lib.hid f15
      have F16 := Lib.hid f16
      have G1 := Lib.hid (show (decide (ca ≤ cc') && decide (cd ≤ cb)) = true by simp [hc1, hc2])
      have G2 := Lib.hid (show (decide (la ≤ lc) && decide (ld ≤ lb)) = true by simp [hl1, hl2])
      have G3 := Lib.hid (show (decide (ra ≤ rc) && decide (rd ≤ rb)) = true by simp [hr1, hr2])
      have G4 := Lib.hid (show (decide (oa ≤ oc) && decide (od ≤ ob)) = true by simp [ho1, ho2])
      have GQ := Lib.hid hqr
      have GA := Lib.hid (andNot8' s2 ht8 s1 hs8 hbits)
      have GP := Lib.hid hpp
      clear e1 e2 e3 e4 hT hck f3 f4 f5 f6 f7 f8 f9 f10 f11 f12 f13 f14 f15 f16 hc1 hc2 hl1 hl2 hr1 hr2 ho1 ho2 hqr hbits hs8 ht8 hpp
      go_upto_region 5 with (first
        | (go_at_call 36; refine (fits_ex _ b c n _ _ _ _ _ _ (BZ.out _ (by first | exact HX.out | exact HX.out.alloc HX.out.size _)) (GZ.out _ (by first | exact HX.out | exact HX.out.alloc HX.out.size _))).mono ?_; rintro e w4 ⟨rfl, hb⟩; rw [F1.out]; have HX := Lib.hid (show Below w3.heap.size w3 w4 from by first | exact HX.out.trans (hb.mono HX.out.size) | exact (HX.out.alloc HX.out.size _).trans (hb.mono (HX.out.alloc HX.out.size _).size)); have hk := (bcell HX.out).1; have hlt := Nat.lt_of_lt_of_le hVz HX.out.size; have HBE := Lib.hid hb; clear hb)
        | fail)
      go_upto_region 6 with (first
        | (go_at_call 15; refine (right_ex _ (b.with c) _ _ _ _ _ _ _ (BX.out _ (by first | exact HX.out | exact HX.out.alloc HX.out.size _)) (GZ.out _ (by first | exact HX.out | exact HX.out.alloc HX.out.size _))).mono ?_; rintro e w5 ⟨rfl, hb⟩; rw [F2.out]; have HX := Lib.hid (show Below w3.heap.size w3 w5 from by first | exact HX.out.trans (hb.mono HX.out.size) | exact (HX.out.alloc HX.out.size _).trans (hb.mono (HX.out.alloc HX.out.size _).size)); have hk := (bcell HX.out).1; have hlt := Nat.lt_of_lt_of_le hVz HX.out.size; have HBE := Lib.hid hb; clear hb)
        | fail)
      go_upto_region 9 with (first
        | (go_at_call 38; refine (wrong_ex _ b n _ _ _ _ _ _ (BZ.out _ (by first | exact HX.out | exact HX.out.alloc HX.out.size _)) (GZ.out _ (by first | exact HX.out | exact HX.out.alloc HX.out.size _))).mono ?_; rintro e ww1 ⟨ra1, rl1, rc1, rfl, hb, hsw⟩; rw [FV.out] at hsw ⊢; have HRL1 := Lib.hid (nat_len8 hsw); clear hsw; have HX := Lib.hid (show Below w3.heap.size w3 ww1 from by first | exact HX.out.trans (hb.mono HX.out.size) | exact (HX.out.alloc HX.out.size _).trans (hb.mono (HX.out.alloc HX.out.size _).size)); have hk := (bcell HX.out).1; have hlt := Nat.lt_of_lt_of_le hVz HX.out.size; have HBE := Lib.hid hb; clear hb)
        | fail)
      go_upto_region 10 with (first
        | (go_at_call 38; refine (wrong_ex _ (b.with c) _ _ _ _ _ _ _ (BX.out _ (by first | exact HX.out | exact HX.out.alloc HX.out.size _)) (GZ.out _ (by first | exact HX.out | exact HX.out.alloc HX.out.size _))).mono ?_; rintro e ww2 ⟨ra2, rl2, rc2, rfl, hb, hsw⟩; rw [FW.out] at hsw ⊢; have HRL2 := Lib.hid (nat_len8 hsw); clear hsw; have HX := Lib.hid (show Below w3.heap.size w3 ww2 from by first | exact HX.out.trans (hb.mono HX.out.size) | exact (HX.out.alloc HX.out.size _).trans (hb.mono (HX.out.alloc HX.out.size _).size)); have hk := (bcell HX.out).1; have hlt := Nat.lt_of_lt_of_le hVz HX.out.size; have HBE := Lib.hid hb; clear hb)
        | fail)
      have hnl : ¬ ((rl2 : Int) < (rl1 : Int)) := by have h1 := HRL1.out; have h2 := HRL2.out; omega
      go_upto_region 15 with (first
        | (go_at_call 19; refine (comes_ex _ b _ n _ _ _ _ _ _ (BZ.out _ (by first | exact HX.out | exact HX.out.alloc HX.out.size _)) (GZ.out _ (by first | exact HX.out | exact HX.out.alloc HX.out.size _))).mono ?_; rintro e w14 ⟨rfl, hb⟩; rw [F3.out]; have HX := Lib.hid (show Below w3.heap.size w3 w14 from by first | exact HX.out.trans (hb.mono HX.out.size) | exact (HX.out.alloc HX.out.size _).trans (hb.mono (HX.out.alloc HX.out.size _).size)); have hk := (bcell HX.out).1; have hlt := Nat.lt_of_lt_of_le hVz HX.out.size; have HBE := Lib.hid hb; clear hb)
        | fail)
      obtain ⟨X17, hX⟩ : ∃ X, w14.alloc (.cells #[.int .i64 ca, .int .i64 cb] 32) = X := ⟨_, rfl⟩
      have hq : X17.heap[w14.heap.size]? = some (.cells #[.int .i64 ca, .int .i64 cb] 32) := by rw [← hX]; exact World.alloc_heap_new _ _
      have hbx : Below w3.heap.size w3 X17 := by rw [← hX]; exact HX.out.alloc HX.out.size _
      have hbk : Below w14.heap.size w14 X17 := by rw [← hX]; exact (Below.refl _ _).alloc (Nat.le_refl _) _
      have hvp : w3.heap.size ≤ w14.heap.size := HX.out.size
      rw [hX]
      clear hX
      obtain ⟨P17, hP⟩ : ∃ P, w14.heap.size = P := ⟨_, rfl⟩
      rw [hP] at hq hvp ⊢
      clear hP
      have HQ17 := Lib.hid hq
      have HVP17 := Lib.hid hvp
      clear hq hvp hbk hk
      have HX := Lib.hid hbx
      have hk := (bcell hbx).1
      have hlt := Nat.lt_of_lt_of_le hVz hbx.size
      clear hbx
      go_upto_region 16 with (first
        | (go_at_call 19; refine (comes_ex _ (b.with c) _ _ _ _ _ _ _ _ (BX.out _ (by first | exact HX.out | exact HX.out.alloc HX.out.size _)) (GZ.out _ (by first | exact HX.out | exact HX.out.alloc HX.out.size _))).mono ?_; rintro e w15 ⟨rfl, hb⟩; rw [F4.out]; have HX := Lib.hid (show Below w3.heap.size w3 w15 from by first | exact HX.out.trans (hb.mono HX.out.size) | exact (HX.out.alloc HX.out.size _).trans (hb.mono (HX.out.alloc HX.out.size _).size)); have hk := (bcell HX.out).1; have hlt := Nat.lt_of_lt_of_le hVz HX.out.size; have HBE := Lib.hid hb; clear hb)
        | fail)
      have HQ17 := Lib.hid ((HBE.out.block P17 (Array.getElem?_eq_some_iff.1 HQ17.out).1).trans HQ17.out)
      have hl17_18 : P17 < w15.heap.size := (Array.getElem?_eq_some_iff.1 HQ17.out).1
      obtain ⟨X18, hX⟩ : ∃ X, w15.alloc (.cells #[.int .i64 cc', .int .i64 cd] 32) = X := ⟨_, rfl⟩
      have hq : X18.heap[w15.heap.size]? = some (.cells #[.int .i64 cc', .int .i64 cd] 32) := by rw [← hX]; exact World.alloc_heap_new _ _
      have hbx : Below w3.heap.size w3 X18 := by rw [← hX]; exact HX.out.alloc HX.out.size _
      have hbk : Below w15.heap.size w15 X18 := by rw [← hX]; exact (Below.refl _ _).alloc (Nat.le_refl _) _
      have hvp : w3.heap.size ≤ w15.heap.size := HX.out.size
      rw [hX]
      clear hX
      have HQ17 := Lib.hid ((hbk.block P17 (Array.getElem?_eq_some_iff.1 HQ17.out).1).trans HQ17.out)
      obtain ⟨P18, hP⟩ : ∃ P, w15.heap.size = P := ⟨_, rfl⟩
      rw [hP] at hq hvp hl17_18 ⊢
      clear hP
      have HQ18 := Lib.hid hq
      have HVP18 := Lib.hid hvp
      have HL17_18 := Lib.hid hl17_18
      clear hq hvp hbk hk hl17_18
      have HX := Lib.hid hbx
      have hk := (bcell hbx).1
      have hlt := Nat.lt_of_lt_of_le hVz hbx.size
      clear hbx
      go_upto_region 17 with (first
        | (go_at_call 21; refine (late_ex _ b _ n _ _ _ _ _ _ (BZ.out _ (by first | exact HX.out | exact HX.out.alloc HX.out.size _)) (GZ.out _ (by first | exact HX.out | exact HX.out.alloc HX.out.size _))).mono ?_; rintro e w16 ⟨rfl, hb⟩; rw [F5.out]; have HX := Lib.hid (show Below w3.heap.size w3 w16 from by first | exact HX.out.trans (hb.mono HX.out.size) | exact (HX.out.alloc HX.out.size _).trans (hb.mono (HX.out.alloc HX.out.size _).size)); have hk := (bcell HX.out).1; have hlt := Nat.lt_of_lt_of_le hVz HX.out.size; have HBE := Lib.hid hb; clear hb)
        | fail)
      have HQ17 := Lib.hid ((HBE.out.block P17 (Array.getElem?_eq_some_iff.1 HQ17.out).1).trans HQ17.out)
      have HQ18 := Lib.hid ((HBE.out.block P18 (Array.getElem?_eq_some_iff.1 HQ18.out).1).trans HQ18.out)
      have hl17_19 : P17 < w16.heap.size := (Array.getElem?_eq_some_iff.1 HQ17.out).1
      have hl18_19 : P18 < w16.heap.size := (Array.getElem?_eq_some_iff.1 HQ18.out).1
      obtain ⟨X19, hX⟩ : ∃ X, w16.alloc (.cells #[.int .i64 la, .int .i64 lb] 32) = X := ⟨_, rfl⟩
      have hq : X19.heap[w16.heap.size]? = some (.cells #[.int .i64 la, .int .i64 lb] 32) := by rw [← hX]; exact World.alloc_heap_new _ _
      have hbx : Below w3.heap.size w3 X19 := by rw [← hX]; exact HX.out.alloc HX.out.size _
      have hbk : Below w16.heap.size w16 X19 := by rw [← hX]; exact (Below.refl _ _).alloc (Nat.le_refl _) _
      have hvp : w3.heap.size ≤ w16.heap.size := HX.out.size
      rw [hX]
      clear hX
      have HQ17 := Lib.hid ((hbk.block P17 (Array.getElem?_eq_some_iff.1 HQ17.out).1).trans HQ17.out)
      have HQ18 := Lib.hid ((hbk.block P18 (Array.getElem?_eq_some_iff.1 HQ18.out).1).trans HQ18.out)
      obtain ⟨P19, hP⟩ : ∃ P, w16.heap.size = P := ⟨_, rfl⟩
      rw [hP] at hq hvp hl17_19 hl18_19 ⊢
      clear hP
      have HQ19 := Lib.hid hq
      have HVP19 := Lib.hid hvp
      have HL17_19 := Lib.hid hl17_19
      have HL18_19 := Lib.hid hl18_19
      clear hq hvp hbk hk hl17_19 hl18_19
      have HX := Lib.hid hbx
      have hk := (bcell hbx).1
      have hlt := Nat.lt_of_lt_of_le hVz hbx.size
      clear hbx
      go_upto_region 18 with (first
        | (go_at_call 21; refine (late_ex _ (b.with c) _ _ _ _ _ _ _ _ (BX.out _ (by first | exact HX.out | exact HX.out.alloc HX.out.size _)) (GZ.out _ (by first | exact HX.out | exact HX.out.alloc HX.out.size _))).mono ?_; rintro e w17 ⟨rfl, hb⟩; rw [F6.out]; have HX := Lib.hid (show Below w3.heap.size w3 w17 from by first | exact HX.out.trans (hb.mono HX.out.size) | exact (HX.out.alloc HX.out.size _).trans (hb.mono (HX.out.alloc HX.out.size _).size)); have hk := (bcell HX.out).1; have hlt := Nat.lt_of_lt_of_le hVz HX.out.size; have HBE := Lib.hid hb; clear hb)
        | fail)
      have HQ17 := Lib.hid ((HBE.out.block P17 (Array.getElem?_eq_some_iff.1 HQ17.out).1).trans HQ17.out)
      have HQ18 := Lib.hid ((HBE.out.block P18 (Array.getElem?_eq_some_iff.1 HQ18.out).1).trans HQ18.out)
      have HQ19 := Lib.hid ((HBE.out.block P19 (Array.getElem?_eq_some_iff.1 HQ19.out).1).trans HQ19.out)
      have hl17_20 : P17 < w17.heap.size := (Array.getElem?_eq_some_iff.1 HQ17.out).1
      have hl18_20 : P18 < w17.heap.size := (Array.getElem?_eq_some_iff.1 HQ18.out).1
      have hl19_20 : P19 < w17.heap.size := (Array.getElem?_eq_some_iff.1 HQ19.out).1
      obtain ⟨X20, hX⟩ : ∃ X, w17.alloc (.cells #[.int .i64 lc, .int .i64 ld] 32) = X := ⟨_, rfl⟩
      have hq : X20.heap[w17.heap.size]? = some (.cells #[.int .i64 lc, .int .i64 ld] 32) := by rw [← hX]; exact World.alloc_heap_new _ _
      have hbx : Below w3.heap.size w3 X20 := by rw [← hX]; exact HX.out.alloc HX.out.size _
      have hbk : Below w17.heap.size w17 X20 := by rw [← hX]; exact (Below.refl _ _).alloc (Nat.le_refl _) _
      have hvp : w3.heap.size ≤ w17.heap.size := HX.out.size
      rw [hX]
      clear hX
      have HQ17 := Lib.hid ((hbk.block P17 (Array.getElem?_eq_some_iff.1 HQ17.out).1).trans HQ17.out)
      have HQ18 := Lib.hid ((hbk.block P18 (Array.getElem?_eq_some_iff.1 HQ18.out).1).trans HQ18.out)
      have HQ19 := Lib.hid ((hbk.block P19 (Array.getElem?_eq_some_iff.1 HQ19.out).1).trans HQ19.out)
      obtain ⟨P20, hP⟩ : ∃ P, w17.heap.size = P := ⟨_, rfl⟩
      rw [hP] at hq hvp hl17_20 hl18_20 hl19_20 ⊢
      clear hP
      have HQ20 := Lib.hid hq
      have HVP20 := Lib.hid hvp
      have HL17_20 := Lib.hid hl17_20
      have HL18_20 := Lib.hid hl18_20
      have HL19_20 := Lib.hid hl19_20
      clear hq hvp hbk hk hl17_20 hl18_20 hl19_20
      have HX := Lib.hid hbx
      have hk := (bcell hbx).1
      have hlt := Nat.lt_of_lt_of_le hVz hbx.size
      clear hbx
      have q170 : X20.cell? ⟨P17, 0, none⟩ = some (.int .i64 ca) := blk_cell HQ17.out
      have q171 : X20.cell? ⟨P17, 1, none⟩ = some (.int .i64 cb) := blk_cell HQ17.out
      have l17 : P17 < X20.heap.size := (Array.getElem?_eq_some_iff.1 HQ17.out).1
      have q180 : X20.cell? ⟨P18, 0, none⟩ = some (.int .i64 cc') := blk_cell HQ18.out
      have q181 : X20.cell? ⟨P18, 1, none⟩ = some (.int .i64 cd) := blk_cell HQ18.out
      have l18 : P18 < X20.heap.size := (Array.getElem?_eq_some_iff.1 HQ18.out).1
      have q190 : X20.cell? ⟨P19, 0, none⟩ = some (.int .i64 la) := blk_cell HQ19.out
      have q191 : X20.cell? ⟨P19, 1, none⟩ = some (.int .i64 lb) := blk_cell HQ19.out
      have l19 : P19 < X20.heap.size := (Array.getElem?_eq_some_iff.1 HQ19.out).1
      have q200 : X20.cell? ⟨P20, 0, none⟩ = some (.int .i64 lc) := blk_cell HQ20.out
      have q201 : X20.cell? ⟨P20, 1, none⟩ = some (.int .i64 ld) := blk_cell HQ20.out
      have l20 : P20 < X20.heap.size := (Array.getElem?_eq_some_iff.1 HQ20.out).1
      go_upto_region 20 with (first
        | (go_at_call 52; refine (inner_any _ _ _ _ _).mono ?_; rintro e wi1 ⟨rfl, hb⟩; rw [G1.out]; have hkwi1 := (bcell hb).1; have HBIwi1 := Lib.hid hb; have HX := Lib.hid (show Below w3.heap.size w3 wi1 from by first | exact HX.out.trans (hb.mono HX.out.size) | exact (HX.out.alloc HX.out.size _).trans (hb.mono (HX.out.alloc HX.out.size _).size)); have hk := (bcell HX.out).1; have hlt := Nat.lt_of_lt_of_le hVz HX.out.size; have HBE := Lib.hid hb; clear hb)
        | (go_at_call 52; refine (inner_any _ _ _ _ _).mono ?_; rintro e wi2 ⟨rfl, hb⟩; rw [G2.out]; have hkwi2 := (bcell hb).1; have HBIwi2 := Lib.hid hb; have HX := Lib.hid (show Below w3.heap.size w3 wi2 from by first | exact HX.out.trans (hb.mono HX.out.size) | exact (HX.out.alloc HX.out.size _).trans (hb.mono (HX.out.alloc HX.out.size _).size)); have hk := (bcell HX.out).1; have hlt := Nat.lt_of_lt_of_le hVz HX.out.size; have HBE := Lib.hid hb; clear hb)
        | fail)
      clear q170 q171 l17 q180 q181 l18 q190 q191 l19 q200 q201 l20 hkwi1 hkwi2
      have HQ17 := Lib.hid ((HBIwi1.out.block P17 (Array.getElem?_eq_some_iff.1 HQ17.out).1).trans HQ17.out)
      have HQ18 := Lib.hid ((HBIwi1.out.block P18 (Array.getElem?_eq_some_iff.1 HQ18.out).1).trans HQ18.out)
      have HQ19 := Lib.hid ((HBIwi1.out.block P19 (Array.getElem?_eq_some_iff.1 HQ19.out).1).trans HQ19.out)
      have HQ20 := Lib.hid ((HBIwi1.out.block P20 (Array.getElem?_eq_some_iff.1 HQ20.out).1).trans HQ20.out)
      have HQ17 := Lib.hid ((HBIwi2.out.block P17 (Array.getElem?_eq_some_iff.1 HQ17.out).1).trans HQ17.out)
      have HQ18 := Lib.hid ((HBIwi2.out.block P18 (Array.getElem?_eq_some_iff.1 HQ18.out).1).trans HQ18.out)
      have HQ19 := Lib.hid ((HBIwi2.out.block P19 (Array.getElem?_eq_some_iff.1 HQ19.out).1).trans HQ19.out)
      have HQ20 := Lib.hid ((HBIwi2.out.block P20 (Array.getElem?_eq_some_iff.1 HQ20.out).1).trans HQ20.out)
      clear HBIwi1 HBIwi2
      go_upto_region 21 with (first
        | (go_at_call 23; refine (rough_ex _ b _ n _ _ _ _ _ _ (BZ.out _ (by first | exact HX.out | exact HX.out.alloc HX.out.size _)) (GZ.out _ (by first | exact HX.out | exact HX.out.alloc HX.out.size _))).mono ?_; rintro e w20 ⟨rfl, hb⟩; rw [F7.out]; have HX := Lib.hid (show Below w3.heap.size w3 w20 from by first | exact HX.out.trans (hb.mono HX.out.size) | exact (HX.out.alloc HX.out.size _).trans (hb.mono (HX.out.alloc HX.out.size _).size)); have hk := (bcell HX.out).1; have hlt := Nat.lt_of_lt_of_le hVz HX.out.size; have HBE := Lib.hid hb; clear hb; have HQ17 := Lib.hid ((HBE.out.block P17 (Array.getElem?_eq_some_iff.1 HQ17.out).1).trans HQ17.out); have HQ18 := Lib.hid ((HBE.out.block P18 (Array.getElem?_eq_some_iff.1 HQ18.out).1).trans HQ18.out); have HQ19 := Lib.hid ((HBE.out.block P19 (Array.getElem?_eq_some_iff.1 HQ19.out).1).trans HQ19.out); have HQ20 := Lib.hid ((HBE.out.block P20 (Array.getElem?_eq_some_iff.1 HQ20.out).1).trans HQ20.out); have s0 := blk_cell (j := 0) HQ17.out; have s1 := blk_cell (j := 1) HQ17.out; have z0 := blk_frozen HQ17.out 0; have z1 := blk_frozen HQ17.out 1)
        | fail)
      have hs := put2 HQ17.out (.int .i64 ra) (.int .i64 rb)
      obtain ⟨Z20, hZ⟩ : ∃ Z, (w20.setCell ⟨P17, 0, none⟩ (.int .i64 ra)).setCell ⟨P17, 1, none⟩ (.int .i64 rb) = Z := ⟨_, rfl⟩
      rw [hZ] at hs ⊢
      obtain ⟨hs1, hs2, hs3⟩ := hs
      have hbx := HX.out.trans (hs3 _ HVP17.out)
      have HQ17 := Lib.hid hs1
      have HQ18 := Lib.hid ((hs2 P18 (Nat.ne_of_gt HL17_18.out)).trans HQ18.out)
      have HQ19 := Lib.hid ((hs2 P19 (Nat.ne_of_gt HL17_19.out)).trans HQ19.out)
      have HQ20 := Lib.hid ((hs2 P20 (Nat.ne_of_gt HL17_20.out)).trans HQ20.out)
      clear hZ hs1 hs2 hs3 hk hlt s0 s1 z0 z1 HBE
      have HX := Lib.hid hbx
      have hk := (bcell hbx).1
      have hlt := Nat.lt_of_lt_of_le hVz hbx.size
      clear hbx
      go_upto_region 22 with (first
        | (go_at_call 23; refine (rough_ex _ (b.with c) _ _ _ _ _ _ _ _ (BX.out _ (by first | exact HX.out | exact HX.out.alloc HX.out.size _)) (GZ.out _ (by first | exact HX.out | exact HX.out.alloc HX.out.size _))).mono ?_; rintro e w21 ⟨rfl, hb⟩; rw [F8.out]; have HX := Lib.hid (show Below w3.heap.size w3 w21 from by first | exact HX.out.trans (hb.mono HX.out.size) | exact (HX.out.alloc HX.out.size _).trans (hb.mono (HX.out.alloc HX.out.size _).size)); have hk := (bcell HX.out).1; have hlt := Nat.lt_of_lt_of_le hVz HX.out.size; have HBE := Lib.hid hb; clear hb; have HQ17 := Lib.hid ((HBE.out.block P17 (Array.getElem?_eq_some_iff.1 HQ17.out).1).trans HQ17.out); have HQ18 := Lib.hid ((HBE.out.block P18 (Array.getElem?_eq_some_iff.1 HQ18.out).1).trans HQ18.out); have HQ19 := Lib.hid ((HBE.out.block P19 (Array.getElem?_eq_some_iff.1 HQ19.out).1).trans HQ19.out); have HQ20 := Lib.hid ((HBE.out.block P20 (Array.getElem?_eq_some_iff.1 HQ20.out).1).trans HQ20.out); have s0 := blk_cell (j := 0) HQ18.out; have s1 := blk_cell (j := 1) HQ18.out; have z0 := blk_frozen HQ18.out 0; have z1 := blk_frozen HQ18.out 1)
        | fail)
      have hs := put2 HQ18.out (.int .i64 rc) (.int .i64 rd)
      obtain ⟨Z21, hZ⟩ : ∃ Z, (w21.setCell ⟨P18, 0, none⟩ (.int .i64 rc)).setCell ⟨P18, 1, none⟩ (.int .i64 rd) = Z := ⟨_, rfl⟩
      rw [hZ] at hs ⊢
      obtain ⟨hs1, hs2, hs3⟩ := hs
      have hbx := HX.out.trans (hs3 _ HVP18.out)
      have HQ18 := Lib.hid hs1
      have HQ17 := Lib.hid ((hs2 P17 (Nat.ne_of_lt HL17_18.out)).trans HQ17.out)
      have HQ19 := Lib.hid ((hs2 P19 (Nat.ne_of_gt HL18_19.out)).trans HQ19.out)
      have HQ20 := Lib.hid ((hs2 P20 (Nat.ne_of_gt HL18_20.out)).trans HQ20.out)
      clear hZ hs1 hs2 hs3 hk hlt s0 s1 z0 z1 HBE
      have HX := Lib.hid hbx
      have hk := (bcell hbx).1
      have hlt := Nat.lt_of_lt_of_le hVz hbx.size
      clear hbx
      go_upto_region 23 with (first
        | (go_at_call 30; refine (owes_ex _ b n _ _ _ _ _ _ (BZ.out _ (by first | exact HX.out | exact HX.out.alloc HX.out.size _)) (GZ.out _ (by first | exact HX.out | exact HX.out.alloc HX.out.size _))).mono ?_; rintro e w22 ⟨rfl, hb⟩; rw [F9.out]; have HX := Lib.hid (show Below w3.heap.size w3 w22 from by first | exact HX.out.trans (hb.mono HX.out.size) | exact (HX.out.alloc HX.out.size _).trans (hb.mono (HX.out.alloc HX.out.size _).size)); have hk := (bcell HX.out).1; have hlt := Nat.lt_of_lt_of_le hVz HX.out.size; have HBE := Lib.hid hb; clear hb; have HQ17 := Lib.hid ((HBE.out.block P17 (Array.getElem?_eq_some_iff.1 HQ17.out).1).trans HQ17.out); have HQ18 := Lib.hid ((HBE.out.block P18 (Array.getElem?_eq_some_iff.1 HQ18.out).1).trans HQ18.out); have HQ19 := Lib.hid ((HBE.out.block P19 (Array.getElem?_eq_some_iff.1 HQ19.out).1).trans HQ19.out); have HQ20 := Lib.hid ((HBE.out.block P20 (Array.getElem?_eq_some_iff.1 HQ20.out).1).trans HQ20.out); have s0 := blk_cell (j := 0) HQ19.out; have s1 := blk_cell (j := 1) HQ19.out; have z0 := blk_frozen HQ19.out 0; have z1 := blk_frozen HQ19.out 1)
        | fail)
      have hs := put2 HQ19.out (.int .i64 oa) (.int .i64 ob)
      obtain ⟨Z22, hZ⟩ : ∃ Z, (w22.setCell ⟨P19, 0, none⟩ (.int .i64 oa)).setCell ⟨P19, 1, none⟩ (.int .i64 ob) = Z := ⟨_, rfl⟩
      rw [hZ] at hs ⊢
      obtain ⟨hs1, hs2, hs3⟩ := hs
      have hbx := HX.out.trans (hs3 _ HVP19.out)
      have HQ19 := Lib.hid hs1
      have HQ17 := Lib.hid ((hs2 P17 (Nat.ne_of_lt HL17_19.out)).trans HQ17.out)
      have HQ18 := Lib.hid ((hs2 P18 (Nat.ne_of_lt HL18_19.out)).trans HQ18.out)
      have HQ20 := Lib.hid ((hs2 P20 (Nat.ne_of_gt HL19_20.out)).trans HQ20.out)
      clear hZ hs1 hs2 hs3 hk hlt s0 s1 z0 z1 HBE
      have HX := Lib.hid hbx
      have hk := (bcell hbx).1
      have hlt := Nat.lt_of_lt_of_le hVz hbx.size
      clear hbx
      go_upto_region 24 with (first
        | (go_at_call 30; refine (owes_ex _ (b.with c) _ _ _ _ _ _ _ (BX.out _ (by first | exact HX.out | exact HX.out.alloc HX.out.size _)) (GZ.out _ (by first | exact HX.out | exact HX.out.alloc HX.out.size _))).mono ?_; rintro e w23 ⟨rfl, hb⟩; rw [F10.out]; have HX := Lib.hid (show Below w3.heap.size w3 w23 from by first | exact HX.out.trans (hb.mono HX.out.size) | exact (HX.out.alloc HX.out.size _).trans (hb.mono (HX.out.alloc HX.out.size _).size)); have hk := (bcell HX.out).1; have hlt := Nat.lt_of_lt_of_le hVz HX.out.size; have HBE := Lib.hid hb; clear hb; have HQ17 := Lib.hid ((HBE.out.block P17 (Array.getElem?_eq_some_iff.1 HQ17.out).1).trans HQ17.out); have HQ18 := Lib.hid ((HBE.out.block P18 (Array.getElem?_eq_some_iff.1 HQ18.out).1).trans HQ18.out); have HQ19 := Lib.hid ((HBE.out.block P19 (Array.getElem?_eq_some_iff.1 HQ19.out).1).trans HQ19.out); have HQ20 := Lib.hid ((HBE.out.block P20 (Array.getElem?_eq_some_iff.1 HQ20.out).1).trans HQ20.out); have s0 := blk_cell (j := 0) HQ20.out; have s1 := blk_cell (j := 1) HQ20.out; have z0 := blk_frozen HQ20.out 0; have z1 := blk_frozen HQ20.out 1)
        | fail)
      have hs := put2 HQ20.out (.int .i64 oc) (.int .i64 od)
      obtain ⟨Z23, hZ⟩ : ∃ Z, (w23.setCell ⟨P20, 0, none⟩ (.int .i64 oc)).setCell ⟨P20, 1, none⟩ (.int .i64 od) = Z := ⟨_, rfl⟩
      rw [hZ] at hs ⊢
      obtain ⟨hs1, hs2, hs3⟩ := hs
      have hbx := HX.out.trans (hs3 _ HVP20.out)
      have HQ20 := Lib.hid hs1
      have HQ17 := Lib.hid ((hs2 P17 (Nat.ne_of_lt HL17_20.out)).trans HQ17.out)
      have HQ18 := Lib.hid ((hs2 P18 (Nat.ne_of_lt HL18_20.out)).trans HQ18.out)
      have HQ19 := Lib.hid ((hs2 P19 (Nat.ne_of_lt HL19_20.out)).trans HQ19.out)
      clear hZ hs1 hs2 hs3 hk hlt s0 s1 z0 z1 HBE
      have HX := Lib.hid hbx
      have hk := (bcell hbx).1
      have hlt := Nat.lt_of_lt_of_le hVz hbx.size
      clear hbx
      have q170 : Z23.cell? ⟨P17, 0, none⟩ = some (.int .i64 ra) := blk_cell HQ17.out
      have q171 : Z23.cell? ⟨P17, 1, none⟩ = some (.int .i64 rb) := blk_cell HQ17.out
      have l17 : P17 < Z23.heap.size := (Array.getElem?_eq_some_iff.1 HQ17.out).1
      have q180 : Z23.cell? ⟨P18, 0, none⟩ = some (.int .i64 rc) := blk_cell HQ18.out
      have q181 : Z23.cell? ⟨P18, 1, none⟩ = some (.int .i64 rd) := blk_cell HQ18.out
      have l18 : P18 < Z23.heap.size := (Array.getElem?_eq_some_iff.1 HQ18.out).1
      have q190 : Z23.cell? ⟨P19, 0, none⟩ = some (.int .i64 oa) := blk_cell HQ19.out
      have q191 : Z23.cell? ⟨P19, 1, none⟩ = some (.int .i64 ob) := blk_cell HQ19.out
      have l19 : P19 < Z23.heap.size := (Array.getElem?_eq_some_iff.1 HQ19.out).1
      have q200 : Z23.cell? ⟨P20, 0, none⟩ = some (.int .i64 oc) := blk_cell HQ20.out
      have q201 : Z23.cell? ⟨P20, 1, none⟩ = some (.int .i64 od) := blk_cell HQ20.out
      have l20 : P20 < Z23.heap.size := (Array.getElem?_eq_some_iff.1 HQ20.out).1
      go_upto_region 26 with (first
        | (go_at_call 52; refine (inner_any _ _ _ _ _).mono ?_; rintro e wi3 ⟨rfl, hb⟩; rw [G3.out]; have hkwi3 := (bcell hb).1; have HBIwi3 := Lib.hid hb; have HX := Lib.hid (show Below w3.heap.size w3 wi3 from by first | exact HX.out.trans (hb.mono HX.out.size) | exact (HX.out.alloc HX.out.size _).trans (hb.mono (HX.out.alloc HX.out.size _).size)); have hk := (bcell HX.out).1; have hlt := Nat.lt_of_lt_of_le hVz HX.out.size; have HBE := Lib.hid hb; clear hb)
        | (go_at_call 52; refine (inner_any _ _ _ _ _).mono ?_; rintro e wi4 ⟨rfl, hb⟩; rw [G4.out]; have hkwi4 := (bcell hb).1; have HBIwi4 := Lib.hid hb; have HX := Lib.hid (show Below w3.heap.size w3 wi4 from by first | exact HX.out.trans (hb.mono HX.out.size) | exact (HX.out.alloc HX.out.size _).trans (hb.mono (HX.out.alloc HX.out.size _).size)); have hk := (bcell HX.out).1; have hlt := Nat.lt_of_lt_of_le hVz HX.out.size; have HBE := Lib.hid hb; clear hb)
        | fail)
      clear q170 q171 l17 q180 q181 l18 q190 q191 l19 q200 q201 l20 hkwi3 hkwi4
      have HQ17 := Lib.hid ((HBIwi3.out.block P17 (Array.getElem?_eq_some_iff.1 HQ17.out).1).trans HQ17.out)
      have HQ18 := Lib.hid ((HBIwi3.out.block P18 (Array.getElem?_eq_some_iff.1 HQ18.out).1).trans HQ18.out)
      have HQ19 := Lib.hid ((HBIwi3.out.block P19 (Array.getElem?_eq_some_iff.1 HQ19.out).1).trans HQ19.out)
      have HQ20 := Lib.hid ((HBIwi3.out.block P20 (Array.getElem?_eq_some_iff.1 HQ20.out).1).trans HQ20.out)
      have HQ17 := Lib.hid ((HBIwi4.out.block P17 (Array.getElem?_eq_some_iff.1 HQ17.out).1).trans HQ17.out)
      have HQ18 := Lib.hid ((HBIwi4.out.block P18 (Array.getElem?_eq_some_iff.1 HQ18.out).1).trans HQ18.out)
      have HQ19 := Lib.hid ((HBIwi4.out.block P19 (Array.getElem?_eq_some_iff.1 HQ19.out).1).trans HQ19.out)
      have HQ20 := Lib.hid ((HBIwi4.out.block P20 (Array.getElem?_eq_some_iff.1 HQ20.out).1).trans HQ20.out)
      clear HBIwi3 HBIwi4
      obtain ⟨S1, hS1⟩ : ∃ S : Int, ((s1 : Nat) : Int) = S := ⟨_, rfl⟩
      obtain ⟨S2, hS2⟩ : ∃ S : Int, ((s2 : Nat) : Int) = S := ⟨_, rfl⟩
      have ga := GA.out
      have f13 := F13.out
      have f14 := F14.out
      rw [hS1] at f13 ga
      rw [hS2] at f14 ga
      have F13 := Lib.hid f13
      have F14 := Lib.hid f14
      have GA := Lib.hid ga
      clear hS1 hS2 ga f13 f14
      go_upto_region 27 with (first
        | (go_at_call 28; refine (blame_ex _ b n _ _ _ _ _ _ (BZ.out _ (by first | exact HX.out | exact HX.out.alloc HX.out.size _)) (GZ.out _ (by first | exact HX.out | exact HX.out.alloc HX.out.size _))).mono ?_; rintro e w26 ⟨rfl, hb⟩; rw [F11.out]; have HX := Lib.hid (show Below w3.heap.size w3 w26 from by first | exact HX.out.trans (hb.mono HX.out.size) | exact (HX.out.alloc HX.out.size _).trans (hb.mono (HX.out.alloc HX.out.size _).size)); have hk := (bcell HX.out).1; have hlt := Nat.lt_of_lt_of_le hVz HX.out.size; have HBE := Lib.hid hb; clear hb)
        | fail)
      go_upto_region 28 with (first
        | (go_at_call 28; refine (blame_ex _ (b.with c) _ _ _ _ _ _ _ (BX.out _ (by first | exact HX.out | exact HX.out.alloc HX.out.size _)) (GZ.out _ (by first | exact HX.out | exact HX.out.alloc HX.out.size _))).mono ?_; rintro e w27 ⟨rfl, hb⟩; rw [F12.out]; have HX := Lib.hid (show Below w3.heap.size w3 w27 from by first | exact HX.out.trans (hb.mono HX.out.size) | exact (HX.out.alloc HX.out.size _).trans (hb.mono (HX.out.alloc HX.out.size _).size)); have hk := (bcell HX.out).1; have hlt := Nat.lt_of_lt_of_le hVz HX.out.size; have HBE := Lib.hid hb; clear hb)
        | fail)
      go_upto_region 29 with (first
        | (go_at_call 26; refine (weather_ex _ b n _ _ _ _ _ _ (BZ.out _ (by first | exact HX.out | exact HX.out.alloc HX.out.size _)) (GZ.out _ (by first | exact HX.out | exact HX.out.alloc HX.out.size _))).mono ?_; rintro e w28 ⟨rfl, hb⟩; rw [F13.out]; have HX := Lib.hid (show Below w3.heap.size w3 w28 from by first | exact HX.out.trans (hb.mono HX.out.size) | exact (HX.out.alloc HX.out.size _).trans (hb.mono (HX.out.alloc HX.out.size _).size)); have hk := (bcell HX.out).1; have hlt := Nat.lt_of_lt_of_le hVz HX.out.size; have HBE := Lib.hid hb; clear hb)
        | fail)
      go_upto_region 30 with (first
        | (go_at_call 26; refine (weather_ex _ (b.with c) _ _ _ _ _ _ _ (BX.out _ (by first | exact HX.out | exact HX.out.alloc HX.out.size _)) (GZ.out _ (by first | exact HX.out | exact HX.out.alloc HX.out.size _))).mono ?_; rintro e w29 ⟨rfl, hb⟩; rw [F14.out]; have HX := Lib.hid (show Below w3.heap.size w3 w29 from by first | exact HX.out.trans (hb.mono HX.out.size) | exact (HX.out.alloc HX.out.size _).trans (hb.mono (HX.out.alloc HX.out.size _).size)); have hk := (bcell HX.out).1; have hlt := Nat.lt_of_lt_of_le hVz HX.out.size; have HBE := Lib.hid hb; clear hb)
        | fail)
      go_upto_region 31 with (first
        | (go_at_call 32; refine (pays_ex _ b n _ _ _ _ _ _ (BZ.out _ (by first | exact HX.out | exact HX.out.alloc HX.out.size _)) (GZ.out _ (by first | exact HX.out | exact HX.out.alloc HX.out.size _))).mono ?_; rintro e w30 ⟨rfl, hb⟩; rw [F15.out]; have HX := Lib.hid (show Below w3.heap.size w3 w30 from by first | exact HX.out.trans (hb.mono HX.out.size) | exact (HX.out.alloc HX.out.size _).trans (hb.mono (HX.out.alloc HX.out.size _).size)); have hk := (bcell HX.out).1; have hlt := Nat.lt_of_lt_of_le hVz HX.out.size; have HBE := Lib.hid hb; clear hb)
        | fail)
      go_upto_region 32 with (first
        | (go_at_call 32; refine (pays_ex _ (b.with c) _ _ _ _ _ _ _ (BX.out _ (by first | exact HX.out | exact HX.out.alloc HX.out.size _)) (GZ.out _ (by first | exact HX.out | exact HX.out.alloc HX.out.size _))).mono ?_; rintro e w31 ⟨rfl, hb⟩; rw [F16.out]; have HX := Lib.hid (show Below w3.heap.size w3 w31 from by first | exact HX.out.trans (hb.mono HX.out.size) | exact (HX.out.alloc HX.out.size _).trans (hb.mono (HX.out.alloc HX.out.size _).size)); have hk := (bcell HX.out).1; have hlt := Nat.lt_of_lt_of_le hVz HX.out.size; have HBE := Lib.hid hb; clear hb)
        | fail)
      have hAN := GA.out
      have hPP := GP.out
      have hPP2 : ¬ p2 < p1 := by omega
      rcases GQ.out with hq | hq
      · subst hq
        go_wp2_with (first
          | (go_at_call 25; refine (billed_any _ (GZ.out _ (by first | exact HX.out | exact HX.out.alloc HX.out.size _))).mono ?_; rintro e wz ⟨rfl, hb⟩; have HX := Lib.hid (show Below w3.heap.size w3 wz from by first | exact HX.out.trans (hb.mono HX.out.size) | exact (HX.out.alloc HX.out.size _).trans (hb.mono (HX.out.alloc HX.out.size _).size)); have hk := (bcell HX.out).1; have hlt := Nat.lt_of_lt_of_le hVz HX.out.size; have HBE := Lib.hid hb; clear hb)
          | fail)
        go_ret
        exact ⟨rfl, hBV.trans (HX.out.mono hBV.size)⟩
      · subst hq
        by_cases hq1 : r = 1
        · subst hq1
          go_wp2_with (first
            | (go_at_call 25; refine (billed_any _ (GZ.out _ (by first | exact HX.out | exact HX.out.alloc HX.out.size _))).mono ?_; rintro e wz ⟨rfl, hb⟩; have HX := Lib.hid (show Below w3.heap.size w3 wz from by first | exact HX.out.trans (hb.mono HX.out.size) | exact (HX.out.alloc HX.out.size _).trans (hb.mono (HX.out.alloc HX.out.size _).size)); have hk := (bcell HX.out).1; have hlt := Nat.lt_of_lt_of_le hVz HX.out.size; have HBE := Lib.hid hb; clear hb)
            | fail)
          go_ret
          exact ⟨rfl, hBV.trans (HX.out.mono hBV.size)⟩
        · have hq2 : (r == 1) = false := by simpa using hq1
          have HQ1 := Lib.hid hq1
          clear hq1
          go_wp2_with (first
            | (go_at_call 25; refine (billed_any _ (GZ.out _ (by first | exact HX.out | exact HX.out.alloc HX.out.size _))).mono ?_; rintro e wz ⟨rfl, hb⟩; have HX := Lib.hid (show Below w3.heap.size w3 wz from by first | exact HX.out.trans (hb.mono HX.out.size) | exact (HX.out.alloc HX.out.size _).trans (hb.mono (HX.out.alloc HX.out.size _).size)); have hk := (bcell HX.out).1; have hlt := Nat.lt_of_lt_of_le hVz HX.out.size; have HBE := Lib.hid hb; clear hb)
            | fail)
          go_ret
          exact ⟨rfl, hBV.trans (HX.out.mono hBV.size)⟩
end Go.Proofs.YtbhjfojbjpbdbaaDoor
