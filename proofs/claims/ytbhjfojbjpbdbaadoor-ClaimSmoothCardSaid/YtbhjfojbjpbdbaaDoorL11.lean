/-
  ClaimSmooth walked: it answers true. Written by this session; printed by wip/tools/l11.py.
-/
import Derived.Test.YtbhjfojbjpbdbaaDoorS54
namespace Go.Proofs.YtbhjfojbjpbdbaaDoor
open Go.RowKit

theorem rough_cells {w : World} {n : Nat} {g o n1 sc : Nat} {l : List St} (h : SlOf w n 7 (.slice (some ⟨g, o, none⟩) n1 sc) (stCells l)) {q : Nat} {x : St} (hx : l[q]? = some x) :
    w.cell? ⟨g, o + q * 7 + 3, none⟩ = some (.int .i64 x.rl) ∧ w.cell? ⟨g, o + q * 7 + 4, none⟩ = some (.int .i64 x.rh) := by
  obtain ⟨a, c, e, _, _, _, h4⟩ := h
  have hq : (stCells l)[q]? = some x.cells := by simp [stCells, hx]
  obtain ⟨b', o', e1, _, h6⟩ := h4 (by have := (List.getElem?_eq_some_iff.1 hq).1; omega)
  injection e with e2 _ _
  rw [e1] at e2
  injection e2 with e3
  injection e3 with e4 e5 _
  subst e4; subst e5
  exact ⟨h6 q 3 _ _ hq rfl, h6 q 4 _ _ hq rfl⟩

theorem rows_lt {w : World} {n g n1 sc : Nat} {l : List St} (h : SlOf w n 7 (.slice (some ⟨g, 0, none⟩) n1 sc) (stCells l)) (hn : 1 ≤ n1) : g < n := by
  obtain ⟨a, c, e, _, _, _, h4⟩ := h
  injection e with e1 e2 _
  obtain ⟨b', o', e3, h5, _⟩ := h4 (by omega)
  rw [e3] at e1
  injection e1 with e4
  injection e4 with e5 _ _
  omega
theorem smooth_old {V X0 w1 : World} {b : Bk} {n : Nat} {sa ka : Option Addr} {n1 sc n2 kc g1 cp : Nat} (hX0 : Below V.heap.size V X0) (BZ : ∀ w, Below V.heap.size V w → BookW w n sa ka n1 sc n2 kc b) (hn1 : 1 ≤ n1)
    (hb1 : Below (X0.alloc (.cells #[.slice none 0 0, .int .i64 0, .int .i64 0, .int .i64 0, .int .i64 0, .slice none 0 0, .int .i64 0] 26)).drew.heap.size (X0.alloc (.cells #[.slice none 0 0, .int .i64 0, .int .i64 0, .int .i64 0, .int .i64 0, .slice none 0 0, .int .i64 0] 26)).drew w1) (hgb : (X0.alloc (.cells #[.slice none 0 0, .int .i64 0, .int .i64 0, .int .i64 0, .int .i64 0, .slice none 0 0, .int .i64 0] 26)).drew.heap.size ≤ g1) (hbk : BookW w1 w1.heap.size (some ⟨g1, 0, none⟩) ka n1 cp n2 kc b.smooth) :
    V.heap.size ≤ X0.heap.size ∧ g1 ≠ X0.heap.size ∧ g1 < (((((((w1.setCell ⟨X0.heap.size, 0, none⟩ (.slice (some ⟨g1, 0, none⟩) n1 cp)).setCell ⟨X0.heap.size, 1, none⟩ (.int .i64 b.wth)).setCell ⟨X0.heap.size, 2, none⟩ (.int .i64 b.c0)).setCell ⟨X0.heap.size, 3, none⟩ (.int .i64 b.c1)).setCell ⟨X0.heap.size, 4, none⟩ (.int .i64 b.c2)).setCell ⟨X0.heap.size, 5, none⟩ (.slice ka n2 kc)).setCell ⟨X0.heap.size, 6, none⟩ (.int .i64 b.rate)).heap.size ∧ Below V.heap.size V (((((((w1.setCell ⟨X0.heap.size, 0, none⟩ (.slice (some ⟨g1, 0, none⟩) n1 cp)).setCell ⟨X0.heap.size, 1, none⟩ (.int .i64 b.wth)).setCell ⟨X0.heap.size, 2, none⟩ (.int .i64 b.c0)).setCell ⟨X0.heap.size, 3, none⟩ (.int .i64 b.c1)).setCell ⟨X0.heap.size, 4, none⟩ (.int .i64 b.c2)).setCell ⟨X0.heap.size, 5, none⟩ (.slice ka n2 kc)).setCell ⟨X0.heap.size, 6, none⟩ (.int .i64 b.rate)) ∧ (((((((w1.setCell ⟨X0.heap.size, 0, none⟩ (.slice (some ⟨g1, 0, none⟩) n1 cp)).setCell ⟨X0.heap.size, 1, none⟩ (.int .i64 b.wth)).setCell ⟨X0.heap.size, 2, none⟩ (.int .i64 b.c0)).setCell ⟨X0.heap.size, 3, none⟩ (.int .i64 b.c1)).setCell ⟨X0.heap.size, 4, none⟩ (.int .i64 b.c2)).setCell ⟨X0.heap.size, 5, none⟩ (.slice ka n2 kc)).setCell ⟨X0.heap.size, 6, none⟩ (.int .i64 b.rate)).heap[X0.heap.size]? = some (.cells #[.slice (some ⟨g1, 0, none⟩) n1 cp, .int .i64 b.wth, .int .i64 b.c0, .int .i64 b.c1, .int .i64 b.c2, .slice ka n2 kc, .int .i64 b.rate] 26) ∧ BookW (((((((w1.setCell ⟨X0.heap.size, 0, none⟩ (.slice (some ⟨g1, 0, none⟩) n1 cp)).setCell ⟨X0.heap.size, 1, none⟩ (.int .i64 b.wth)).setCell ⟨X0.heap.size, 2, none⟩ (.int .i64 b.c0)).setCell ⟨X0.heap.size, 3, none⟩ (.int .i64 b.c1)).setCell ⟨X0.heap.size, 4, none⟩ (.int .i64 b.c2)).setCell ⟨X0.heap.size, 5, none⟩ (.slice ka n2 kc)).setCell ⟨X0.heap.size, 6, none⟩ (.int .i64 b.rate)) (((((((w1.setCell ⟨X0.heap.size, 0, none⟩ (.slice (some ⟨g1, 0, none⟩) n1 cp)).setCell ⟨X0.heap.size, 1, none⟩ (.int .i64 b.wth)).setCell ⟨X0.heap.size, 2, none⟩ (.int .i64 b.c0)).setCell ⟨X0.heap.size, 3, none⟩ (.int .i64 b.c1)).setCell ⟨X0.heap.size, 4, none⟩ (.int .i64 b.c2)).setCell ⟨X0.heap.size, 5, none⟩ (.slice ka n2 kc)).setCell ⟨X0.heap.size, 6, none⟩ (.int .i64 b.rate)).heap.size (some ⟨g1, 0, none⟩) ka n1 cp n2 kc b.smooth := by
  have hs1 : (X0.alloc (.cells #[.slice none 0 0, .int .i64 0, .int .i64 0, .int .i64 0, .int .i64 0, .slice none 0 0, .int .i64 0] 26)).drew.heap.size = X0.heap.size + 1 := by show (X0.alloc (.cells #[.slice none 0 0, .int .i64 0, .int .i64 0, .int .i64 0, .int .i64 0, .slice none 0 0, .int .i64 0] 26)).heap.size = _; simp
  have hz : w1.heap[X0.heap.size]? = some (.cells #[.slice none 0 0, .int .i64 0, .int .i64 0, .int .i64 0, .int .i64 0, .slice none 0 0, .int .i64 0] 26) := (hb1.block _ (by omega)).trans (World.alloc_heap_new X0 _)
  have hbV : Below V.heap.size V w1 := hX0.trans ((bel3 (V := X0) hb1).mono hX0.size)
  obtain ⟨j1, j2, j3⟩ := stored7 hz (.slice (some ⟨g1, 0, none⟩) n1 cp) (.int .i64 b.wth) (.int .i64 b.c0) (.int .i64 b.c1) (.int .i64 b.c2) (.slice ka n2 kc) (.int .i64 b.rate) hbV hX0.size
  have jo := fun k hk => set7_other (W := w1) (B := X0.heap.size) (.slice (some ⟨g1, 0, none⟩) n1 cp) (.int .i64 b.wth) (.int .i64 b.c0) (.int .i64 b.c1) (.int .i64 b.c2) (.slice ka n2 kc) (.int .i64 b.rate) k hk
  have hg := rows_lt hbk.hs hn1
  refine ⟨hX0.size, by omega, by rw [j3]; exact hg, j2, j1, Nat.le_refl _, ?_, (BZ _ j2).hk.mono (BZ _ j2).hn, hbk.l1, hbk.l2⟩
  rw [j3]
  exact hbk.hs.other jo (fun g o len cap e => by injection e with e1 _ _; injection e1 with e2; injection e2 with e3; omega)
theorem smooth_new {V X0 w1 : World} {b : Bk} {n : Nat} {sa ka : Option Addr} {n1 sc n2 kc g1 cp : Nat} (hX0 : Below V.heap.size V X0) (_ : ∀ w, Below V.heap.size V w → BookW w n sa ka n1 sc n2 kc b) (hn1 : 1 ≤ n1)
    (hb1 : Below X0.drew.heap.size X0.drew w1) (_ : X0.drew.heap.size ≤ g1) (hbk : BookW w1 w1.heap.size (some ⟨g1, 0, none⟩) ka n1 cp n2 kc b.smooth) :
    V.heap.size ≤ w1.heap.size ∧ g1 ≠ w1.heap.size ∧ g1 < (w1.alloc (.cells #[.slice (some ⟨g1, 0, none⟩) n1 cp, .int .i64 b.wth, .int .i64 b.c0, .int .i64 b.c1, .int .i64 b.c2, .slice ka n2 kc, .int .i64 b.rate] 26)).heap.size ∧ Below V.heap.size V (w1.alloc (.cells #[.slice (some ⟨g1, 0, none⟩) n1 cp, .int .i64 b.wth, .int .i64 b.c0, .int .i64 b.c1, .int .i64 b.c2, .slice ka n2 kc, .int .i64 b.rate] 26)) ∧ (w1.alloc (.cells #[.slice (some ⟨g1, 0, none⟩) n1 cp, .int .i64 b.wth, .int .i64 b.c0, .int .i64 b.c1, .int .i64 b.c2, .slice ka n2 kc, .int .i64 b.rate] 26)).heap[w1.heap.size]? = some (.cells #[.slice (some ⟨g1, 0, none⟩) n1 cp, .int .i64 b.wth, .int .i64 b.c0, .int .i64 b.c1, .int .i64 b.c2, .slice ka n2 kc, .int .i64 b.rate] 26) ∧ BookW (w1.alloc (.cells #[.slice (some ⟨g1, 0, none⟩) n1 cp, .int .i64 b.wth, .int .i64 b.c0, .int .i64 b.c1, .int .i64 b.c2, .slice ka n2 kc, .int .i64 b.rate] 26)) (w1.alloc (.cells #[.slice (some ⟨g1, 0, none⟩) n1 cp, .int .i64 b.wth, .int .i64 b.c0, .int .i64 b.c1, .int .i64 b.c2, .slice ka n2 kc, .int .i64 b.rate] 26)).heap.size (some ⟨g1, 0, none⟩) ka n1 cp n2 kc b.smooth := by
  have hbV : Below V.heap.size V w1 := hX0.trans ((bel1 (V := X0) hb1).mono hX0.size)
  have hg := rows_lt hbk.hs hn1
  have hal : Below w1.heap.size w1 (w1.alloc (.cells #[.slice (some ⟨g1, 0, none⟩) n1 cp, .int .i64 b.wth, .int .i64 b.c0, .int .i64 b.c1, .int .i64 b.c2, .slice ka n2 kc, .int .i64 b.rate] 26)) := (Below.refl _ _).alloc (Nat.le_refl _) _
  have hbk' := hbk.below (Nat.le_refl _) hal
  exact ⟨hbV.size, by omega, by simp; omega, hbV.alloc hbV.size _, World.alloc_heap_new _ _, Nat.le_refl _, hbk'.hs.mono hal.size, hbk'.hk.mono hal.size, hbk.l1, hbk.l2⟩

set_option maxRecDepth 100000 in
set_option maxHeartbeats 40000000 in
theorem smooth_walk (W : World) (m : Int) (b : Bk) (n : Nat) (sa ka : Option Addr) (n1 sc n2 kc : Nat) (hv : BookW W n sa ka n1 sc n2 kc b) (hG : Glob W) :
    Calls Tryd.prog 11 #[.agg (b.cells (.slice sa n1 sc) (.slice ka n2 kc)).toArray, .int .i64 m] W fun e W' => e = .returned (.bool true) ∧ Below W.heap.size W W' := by
  obtain ⟨V, hV⟩ : ∃ V, W.alloc (Obj.cells #[.slice sa n1 sc, .int .i64 b.wth, .int .i64 b.c0, .int .i64 b.c1, .int .i64 b.c2, .slice ka n2 kc, .int .i64 b.rate] 26) = V := ⟨_, rfl⟩
  have hBV : Below W.heap.size W V := by rw [← hV]; exact (Below.refl _ _).alloc (Nat.le_refl _) _
  have hb0 : V.heap[W.heap.size]? = some (Obj.cells #[.slice sa n1 sc, .int .i64 b.wth, .int .i64 b.c0, .int .i64 b.c1, .int .i64 b.c2, .slice ka n2 kc, .int .i64 b.rate] 26) := by rw [← hV]; exact World.alloc_heap_new _ _
  have hVz : W.heap.size < V.heap.size := (Array.getElem?_eq_some_iff.1 hb0).1
  have HGV := Lib.hid (hG.below hG.lt hBV)
  have HVB := Lib.hid (hv.below hv.hn hBV)
  have HN := Lib.hid hv.hn
  have c0 : V.cell? ⟨W.heap.size, 0, none⟩ = some (.slice sa n1 sc) := blk_cell hb0
  have c1 : V.cell? ⟨W.heap.size, 1, none⟩ = some (.int .i64 b.wth) := blk_cell hb0
  have c2 : V.cell? ⟨W.heap.size, 2, none⟩ = some (.int .i64 b.c0) := blk_cell hb0
  have c3 : V.cell? ⟨W.heap.size, 3, none⟩ = some (.int .i64 b.c1) := blk_cell hb0
  have c4 : V.cell? ⟨W.heap.size, 4, none⟩ = some (.int .i64 b.c2) := blk_cell hb0
  have c5 : V.cell? ⟨W.heap.size, 5, none⟩ = some (.slice ka n2 kc) := blk_cell hb0
  have c6 : V.cell? ⟨W.heap.size, 6, none⟩ = some (.int .i64 b.rate) := blk_cell hb0
  have HB0 := Lib.hid hb0
  have BZ := Lib.hid (show ∀ w, Below V.heap.size V w → BookW w n sa ka n1 sc n2 kc b from fun w h => HVB.out.below HVB.out.hn h)
  have GZ := Lib.hid (show ∀ w, Below V.heap.size V w → Glob w from fun w h => HGV.out.below HGV.out.lt h)
  have HX := Lib.hid (Below.refl V.heap.size V)
  have hn1 : n1 ≤ 9223372036854775807 := by obtain ⟨_, _, e, h1, h2, _⟩ := hv.hs; injection e with _ e2 _; unfold maxLen at h2; omega
  have HL1 := Lib.hid hv.l1
  have HL2 := Lib.hid hv.l2
  clear hb0 hv hG
  simp only [Bk.cells]
  by_cases hok : bkOk b = true
  rotate_left
  · have hok' : bkOk b = false := by simpa using hok
    have HS := Lib.hid hok'
    clear hok hok'
    go_enter Tryd.func11, Tryd.ntmps11
    go_upto_region 1 with fail
    try rw [hV]
    clear hV
    go_wp2_with (first
      | (go_at_call 41; refine (sound_any _ b n _ _ _ _ _ _ (BZ.out _ (by first | exact HX.out | exact HX.out.alloc HX.out.size _))).mono ?_; rintro e ws ⟨rfl, hb⟩; rw [HS.out]; have HX := Lib.hid (show Below V.heap.size V ws from by first | exact HX.out.trans (hb.mono HX.out.size) | exact (HX.out.alloc HX.out.size _).trans (hb.mono (HX.out.alloc HX.out.size _).size)); have hk := (bcell HX.out).1; have hlt := Nat.lt_of_lt_of_le hVz HX.out.size; have HBE := Lib.hid hb; clear hb)
      | (go_at_call 25; refine (billed_any _ (GZ.out _ (by first | exact HX.out | exact HX.out.alloc HX.out.size _))).mono ?_; rintro e wz ⟨rfl, hb⟩; have HX := Lib.hid (show Below V.heap.size V wz from by first | exact HX.out.trans (hb.mono HX.out.size) | exact (HX.out.alloc HX.out.size _).trans (hb.mono (HX.out.alloc HX.out.size _).size)); have hk := (bcell HX.out).1; have hlt := Nat.lt_of_lt_of_le hVz HX.out.size; have HBE := Lib.hid hb; clear hb)
      | fail)
    go_ret
    exact ⟨rfl, hBV.trans (HX.out.mono hBV.size)⟩
  · have HF := Lib.hid hok
    have h13 := (bkOk_head hok).1
    have hn13 : 1 ≤ n1 ∧ n1 ≤ 3 := by have := HL1.out; omega
    obtain ⟨k, hkw, hk1⟩ := wrap_at m (show 0 < n1 by omega)
    have HK1 := Lib.hid hkw
    have hkn : k < b.sts.length := by have := HL1.out; omega
    obtain ⟨lo, hi, hlb, hc1, hc2⟩ := smooth_comes hok hkn
    have FC1 := Lib.hid hc1
    have FC2 := Lib.hid hc2
    have HFS := Lib.hid (fun q hq => fsum_bd hok q hq)
    have HST := Lib.hid (bkOk_sts hok)
    have HSOK := Lib.hid (smooth_ok hok)
    have HLAW := Lib.hid (fun h => smooth_law hok h)
    clear hkw h13 hc1 hc2
    go_enter Tryd.func11, Tryd.ntmps11
    go_upto_region 1 with fail
    try rw [hV]
    clear hV
    go_upto_region 3 with (first
      | (go_at_call 41; refine (sound_any _ b n _ _ _ _ _ _ (BZ.out _ (by first | exact HX.out | exact HX.out.alloc HX.out.size _))).mono ?_; rintro e ws ⟨rfl, hb⟩; rw [HF.out]; have HX := Lib.hid (show Below V.heap.size V ws from by first | exact HX.out.trans (hb.mono HX.out.size) | exact (HX.out.alloc HX.out.size _).trans (hb.mono (HX.out.alloc HX.out.size _).size)); have hk := (bcell HX.out).1; have hlt := Nat.lt_of_lt_of_le hVz HX.out.size; have HBE := Lib.hid hb; clear hb)
      | fail)
    obtain ⟨X0, hX0⟩ : ∃ X, ws = X := ⟨_, rfl⟩
    rw [hX0] at HX hk hlt ⊢
    have HX0 := HX
    clear hX0 HBE
    have y0 : X0.cell? ⟨W.heap.size, 0, none⟩ = some (.slice sa n1 sc) := (HX.out.cell (p := ⟨W.heap.size, 0, none⟩) hVz).trans c0
    have y1 : X0.cell? ⟨W.heap.size, 1, none⟩ = some (.int .i64 b.wth) := (HX.out.cell (p := ⟨W.heap.size, 1, none⟩) hVz).trans c1
    have y2 : X0.cell? ⟨W.heap.size, 2, none⟩ = some (.int .i64 b.c0) := (HX.out.cell (p := ⟨W.heap.size, 2, none⟩) hVz).trans c2
    have y3 : X0.cell? ⟨W.heap.size, 3, none⟩ = some (.int .i64 b.c1) := (HX.out.cell (p := ⟨W.heap.size, 3, none⟩) hVz).trans c3
    have y4 : X0.cell? ⟨W.heap.size, 4, none⟩ = some (.int .i64 b.c2) := (HX.out.cell (p := ⟨W.heap.size, 4, none⟩) hVz).trans c4
    have y5 : X0.cell? ⟨W.heap.size, 5, none⟩ = some (.slice ka n2 kc) := (HX.out.cell (p := ⟨W.heap.size, 5, none⟩) hVz).trans c5
    have y6 : X0.cell? ⟨W.heap.size, 6, none⟩ = some (.int .i64 b.rate) := (HX.out.cell (p := ⟨W.heap.size, 6, none⟩) hVz).trans c6
    have C0 := Lib.hid c0
    have C1 := Lib.hid c1
    have C2 := Lib.hid c2
    have C3 := Lib.hid c3
    have C4 := Lib.hid c4
    have C5 := Lib.hid c5
    have C6 := Lib.hid c6
    clear hk c0 c1 c2 c3 c4 c5 c6
    rename_i Q' K aK
    have hkey : ∀ (P5 g' cap' : Nat) (X : World), V.heap.size ≤ P5 → g' ≠ P5 → g' < X.heap.size → Below V.heap.size V X → X.heap[P5]? = some (.cells #[.slice (some ⟨g', 0, none⟩) n1 cap', .int .i64 b.wth, .int .i64 b.c0, .int .i64 b.c1, .int .i64 b.c2, .slice ka n2 kc, .int .i64 b.rate] 26) → BookW X X.heap.size (some ⟨g', 0, none⟩) ka n1 cap' n2 kc b.smooth →
        Exit.then K Q' Exit.normal { tmps := #[.agg #[.slice sa n1 sc, .int .i64 b.wth, .int .i64 b.c0, .int .i64 b.c1, .int .i64 b.c2, .slice ka n2 kc, .int .i64 b.rate], .int .i64 m, .pointer (some ⟨W.heap.size, 0, none⟩), undef, .bool false, .pointer (some ⟨P5, 0, none⟩), .int .i64 (k : Int), undef, undef, undef, undef, undef, undef, undef, undef, undef, undef, undef, undef, undef, undef, undef, undef, .agg #[.slice sa n1 sc, .int .i64 b.wth, .int .i64 b.c0, .int .i64 b.c1, .int .i64 b.c2, .slice ka n2 kc, .int .i64 b.rate], .bool true, .bool false, undef, .agg #[.slice sa n1 sc, .int .i64 b.wth, .int .i64 b.c0, .int .i64 b.c1, .int .i64 b.c2, .slice ka n2 kc, .int .i64 b.rate], .agg #[.slice (some ⟨g', 0, none⟩) n1 cap', .int .i64 b.wth, .int .i64 b.c0, .int .i64 b.c1, .int .i64 b.c2, .slice ka n2 kc, .int .i64 b.rate], .int .i64 m, .pointer (some ⟨W.heap.size, 0, none⟩), .slice sa n1 sc, .int .i64 (n1 : Int), .int .i64 (k : Int), undef, undef, undef, undef, undef, undef, undef, undef, undef, undef, undef, undef, undef, undef, undef, undef, undef, undef, undef, undef, undef, undef, undef, undef, undef, undef, undef, undef, undef, undef, undef, undef, undef, undef, undef, undef, undef, undef, undef, undef, undef, undef, undef, undef, undef, undef, undef, undef, undef, undef, undef, undef, undef, undef, undef, undef, undef, undef, undef, undef, undef, undef, undef, undef, undef, undef, undef, undef, undef, undef, undef, undef, undef, undef, undef, undef, undef, undef, undef, undef, undef, undef, undef, undef, undef, undef, undef, undef, undef, undef, undef, undef, undef, undef, undef, undef, undef, undef, undef, undef, undef, undef, undef, undef, undef, undef], defers := [] } X := by
      clear y0 y1 y2 y3 y4 y5 y6 hlt
      intro P5 g' cap' X hVP hgp hgx hbX hq5 hbk
      have hVw := Nat.lt_of_lt_of_le hVz hbX.size
      have hp5 : P5 < X.heap.size := (Array.getElem?_eq_some_iff.1 hq5).1
      have BZ1 := Lib.hid (show ∀ w, Below X.heap.size X w → BookW w n sa ka n1 sc n2 kc b from fun w h => (BZ.out _ hbX).below (BZ.out _ hbX).hn h)
      have BZ2 := Lib.hid (show ∀ w, Below X.heap.size X w → BookW w X.heap.size (some ⟨g', 0, none⟩) ka n1 cap' n2 kc b.smooth from fun w h => hbk.below hbk.hn h)
      have GZ1 := Lib.hid (show ∀ w, Below X.heap.size X w → Glob w from fun w h => (GZ.out _ hbX).below (GZ.out _ hbX).lt h)
      have HBX := Lib.hid hbX
      have HQ5 := Lib.hid hq5
      have HBKX := Lib.hid hbk
      have c0w : X.cell? ⟨W.heap.size, 0, none⟩ = some (.slice sa n1 sc) := (hbX.cell (p := ⟨W.heap.size, 0, none⟩) hVz).trans C0.out
      have c1w : X.cell? ⟨W.heap.size, 1, none⟩ = some (.int .i64 b.wth) := (hbX.cell (p := ⟨W.heap.size, 1, none⟩) hVz).trans C1.out
      have c2w : X.cell? ⟨W.heap.size, 2, none⟩ = some (.int .i64 b.c0) := (hbX.cell (p := ⟨W.heap.size, 2, none⟩) hVz).trans C2.out
      have c3w : X.cell? ⟨W.heap.size, 3, none⟩ = some (.int .i64 b.c1) := (hbX.cell (p := ⟨W.heap.size, 3, none⟩) hVz).trans C3.out
      have c4w : X.cell? ⟨W.heap.size, 4, none⟩ = some (.int .i64 b.c2) := (hbX.cell (p := ⟨W.heap.size, 4, none⟩) hVz).trans C4.out
      have c5w : X.cell? ⟨W.heap.size, 5, none⟩ = some (.slice ka n2 kc) := (hbX.cell (p := ⟨W.heap.size, 5, none⟩) hVz).trans C5.out
      have c6w : X.cell? ⟨W.heap.size, 6, none⟩ = some (.int .i64 b.rate) := (hbX.cell (p := ⟨W.heap.size, 6, none⟩) hVz).trans C6.out
      have p50 : X.cell? ⟨P5, 0, none⟩ = some (.slice (some ⟨g', 0, none⟩) n1 cap') := blk_cell hq5
      have p51 : X.cell? ⟨P5, 1, none⟩ = some (.int .i64 b.wth) := blk_cell hq5
      have p52 : X.cell? ⟨P5, 2, none⟩ = some (.int .i64 b.c0) := blk_cell hq5
      have p53 : X.cell? ⟨P5, 3, none⟩ = some (.int .i64 b.c1) := blk_cell hq5
      have p54 : X.cell? ⟨P5, 4, none⟩ = some (.int .i64 b.c2) := blk_cell hq5
      have p55 : X.cell? ⟨P5, 5, none⟩ = some (.slice ka n2 kc) := blk_cell hq5
      have p56 : X.cell? ⟨P5, 6, none⟩ = some (.int .i64 b.rate) := blk_cell hq5
      have HX := Lib.hid (Below.refl X.heap.size X)
      clear hbX hq5 hbk
      by_cases hT : truths b.smooth = []
      · have FR := Lib.hid (show rightS b.smooth = (false, 0) by unfold rightS; rw [if_pos HSOK.out, hT]; rfl)
        clear hT
        go_upto_region 14 with (first
          | (go_at_call 15; refine (right_ex _ b.smooth X.heap.size _ _ _ _ _ _ (BZ2.out _ (by first | exact HX.out | exact HX.out.alloc HX.out.size _)) (GZ1.out _ (by first | exact HX.out | exact HX.out.alloc HX.out.size _))).mono ?_; rintro e wq ⟨rfl, hb⟩; rw [FR.out]; have HX := Lib.hid (show Below X.heap.size X wq from by first | exact HX.out.trans (hb.mono HX.out.size) | exact (HX.out.alloc HX.out.size _).trans (hb.mono (HX.out.alloc HX.out.size _).size)); have hk := (bcell HX.out).1; have hlt := Nat.lt_of_lt_of_le hVw HX.out.size; have hlt5 := Nat.lt_of_lt_of_le hp5 HX.out.size; have HBE := Lib.hid hb; clear hb)
          | fail)
        have HB14 := Lib.hid (show Below V.heap.size V wq from HBX.out.trans (HX.out.mono HBX.out.size))
        obtain ⟨Y, hY⟩ : ∃ Y, wq.alloc (.cells #[.slice sa n1 sc, .int .i64 b.wth, .int .i64 b.c0, .int .i64 b.c1, .int .i64 b.c2, .slice ka n2 kc, .int .i64 b.rate] 26) = Y := ⟨_, rfl⟩
        have hqy : Y.heap[wq.heap.size]? = some (.cells #[.slice sa n1 sc, .int .i64 b.wth, .int .i64 b.c0, .int .i64 b.c1, .int .i64 b.c2, .slice ka n2 kc, .int .i64 b.rate] 26) := by rw [← hY]; exact World.alloc_heap_new _ _
        have hby : Below wq.heap.size wq Y := by rw [← hY]; exact (Below.refl _ _).alloc (Nat.le_refl _) _
        rw [hY]
        have hp5v := Nat.lt_of_lt_of_le hp5 HX.out.size
        have hgv := Nat.lt_of_lt_of_le hgx HX.out.size
        obtain ⟨P15, hP15⟩ : ∃ P, wq.heap.size = P := ⟨_, rfl⟩
        have hXP : X.heap.size ≤ P15 := by rw [← hP15]; exact HX.out.size
        have hne15 : P5 ≠ P15 := by omega
        have hgne : g' ≠ P15 := by omega
        have hVP15 : V.heap.size ≤ P15 := Nat.le_trans HBX.out.size hXP
        rw [hP15] at hqy ⊢
        have hq5y : Y.heap[P5]? = some (.cells #[.slice (some ⟨g', 0, none⟩) n1 cap', .int .i64 b.wth, .int .i64 b.c0, .int .i64 b.c1, .int .i64 b.c2, .slice ka n2 kc, .int .i64 b.rate] 26) := (hby.block P5 hp5v).trans ((HX.out.block P5 hp5).trans HQ5.out)
        have hVY : Below V.heap.size V Y := HB14.out.trans (hby.mono HB14.out.size)
        have s5 : Y.cell? ⟨P5, 5, none⟩ = some (.slice ka n2 kc) := blk_cell hq5y
        have s5f := blk_frozen hq5y 5
        have t5 : Y.cell? ⟨P15, 5, none⟩ = some (.slice ka n2 kc) := blk_cell hqy
        have t5f := blk_frozen hqy 5
        have HQY := Lib.hid hqy
        have HQ5Y := Lib.hid hq5y
        have HVY := Lib.hid hVY
        have HG := Lib.hid (((BZ2.out _ HX.out).hs.mono (BZ2.out _ HX.out).hn).below (Nat.le_refl _) hby)
        have hlP := (Array.getElem?_eq_some_iff.1 hqy).1
        have hszWY := hby.size
        have hlP5 := (Array.getElem?_eq_some_iff.1 hq5y).1
        clear hqy hq5y hVY hby hY hP15
        try clear hk
        try clear hlt
        try clear hlt5
        clear c0w c1w c2w c3w c4w c5w c6w p50 p51 p52 p53 p54 p55 p56
        go_upto_region 15 with fail
        obtain ⟨Y2, hY2⟩ : ∃ Z, (Y.setCell ⟨P5, 5, none⟩ (.slice none 0 0)).setCell ⟨P15, 5, none⟩ (.slice none 0 0) = Z := ⟨_, rfl⟩
        have hq5 : Y2.heap[P5]? = some (.cells #[.slice (some ⟨g', 0, none⟩) n1 cap', .int .i64 b.wth, .int .i64 b.c0, .int .i64 b.c1, .int .i64 b.c2, .slice none 0 0, .int .i64 b.rate] 26) := by
          rw [← hY2]; exact (Below.heap_setCell _ _ _ _ hne15).trans (blk_set (j := 5) (v := .slice none 0 0) HQ5Y.out)
        have hq15 : Y2.heap[P15]? = some (.cells #[.slice sa n1 sc, .int .i64 b.wth, .int .i64 b.c0, .int .i64 b.c1, .int .i64 b.c2, .slice none 0 0, .int .i64 b.rate] 26) := by
          rw [← hY2]; exact blk_set (j := 5) (v := .slice none 0 0) ((Below.heap_setCell _ _ _ _ (Ne.symm hne15)).trans HQY.out)
        have hVY2 : Below V.heap.size V Y2 := by rw [← hY2]; exact (HVY.out.setCell hVP _).setCell hVP15 _
        have hsz2 : Y2.heap.size = Y.heap.size := by rw [← hY2]; simp [World.setCell]
        have hg2 : SlOf Y2 Y2.heap.size 7 (.slice (some ⟨g', 0, none⟩) n1 cap') (stCells b.smooth.sts) := by
          refine SlOf.mono ?_ (show Y.heap.size ≤ Y2.heap.size by omega)
          rw [← hY2]
          refine SlOf.other (B := P15) (SlOf.other (B := P5) (HG.out.mono hszWY) (fun k hk => Below.heap_setCell _ _ _ _ hk) (fun g o len cap e => by injection e with e1 _ _; injection e1 with e2; injection e2 with e3; omega)) (fun k hk => Below.heap_setCell _ _ _ _ hk) (fun g o len cap e => by injection e with e1 _ _; injection e1 with e2; injection e2 with e3; omega)
        rw [hY2]
        have hbs : BookW Y2 Y2.heap.size (some ⟨g', 0, none⟩) none n1 cap' 0 0 b.smooth.bare := ⟨Nat.le_refl _, hg2, slOf_nil _ _ _, by show n1 = b.smooth.sts.length; rw [smooth_len]; exact HL1.out, rfl⟩
        have hbb : BookW Y2 n sa none n1 sc 0 0 b.bare := ⟨(BZ.out _ hVY2).hn, (BZ.out _ hVY2).hs, slOf_nil _ _ _, HL1.out, rfl⟩
        have BZ3 := Lib.hid (show ∀ w, Below Y2.heap.size Y2 w → BookW w Y2.heap.size (some ⟨g', 0, none⟩) none n1 cap' 0 0 b.smooth.bare from fun w h => hbs.below hbs.hn h)
        have BZ4 := Lib.hid (show ∀ w, Below Y2.heap.size Y2 w → BookW w n sa none n1 sc 0 0 b.bare from fun w h => hbb.below hbb.hn h)
        have GZ3 := Lib.hid (show ∀ w, Below Y2.heap.size Y2 w → Glob w from fun w h => (GZ.out _ hVY2).below (GZ.out _ hVY2).lt h)
        have BZ5 := Lib.hid (show ∀ w, Below Y2.heap.size Y2 w → BookW w n sa ka n1 sc n2 kc b from fun w h => (BZ.out _ hVY2).below (BZ.out _ hVY2).hn h)
        have HBW := Lib.hid (hBV.trans (hVY2.mono hBV.size))
        have hVw2 := Nat.lt_of_lt_of_le hVz hVY2.size
        have c0w : Y2.cell? ⟨W.heap.size, 0, none⟩ = some (.slice sa n1 sc) := (hVY2.cell (p := ⟨W.heap.size, 0, none⟩) hVz).trans C0.out
        have p50 : Y2.cell? ⟨P5, 0, none⟩ = some (.slice (some ⟨g', 0, none⟩) n1 cap') := blk_cell hq5
        have p51 : Y2.cell? ⟨P5, 1, none⟩ = some (.int .i64 b.wth) := blk_cell hq5
        have p52 : Y2.cell? ⟨P5, 2, none⟩ = some (.int .i64 b.c0) := blk_cell hq5
        have p53 : Y2.cell? ⟨P5, 3, none⟩ = some (.int .i64 b.c1) := blk_cell hq5
        have p54 : Y2.cell? ⟨P5, 4, none⟩ = some (.int .i64 b.c2) := blk_cell hq5
        have p55 : Y2.cell? ⟨P5, 5, none⟩ = some (.slice none 0 0) := blk_cell hq5
        have p56 : Y2.cell? ⟨P5, 6, none⟩ = some (.int .i64 b.rate) := blk_cell hq5
        have q50 : Y2.cell? ⟨P15, 0, none⟩ = some (.slice sa n1 sc) := blk_cell hq15
        have q51 : Y2.cell? ⟨P15, 1, none⟩ = some (.int .i64 b.wth) := blk_cell hq15
        have q52 : Y2.cell? ⟨P15, 2, none⟩ = some (.int .i64 b.c0) := blk_cell hq15
        have q53 : Y2.cell? ⟨P15, 3, none⟩ = some (.int .i64 b.c1) := blk_cell hq15
        have q54 : Y2.cell? ⟨P15, 4, none⟩ = some (.int .i64 b.c2) := blk_cell hq15
        have q55 : Y2.cell? ⟨P15, 5, none⟩ = some (.slice none 0 0) := blk_cell hq15
        have q56 : Y2.cell? ⟨P15, 6, none⟩ = some (.int .i64 b.rate) := blk_cell hq15
        have lq5 : P5 < Y2.heap.size := by omega
        have lq15 : P15 < Y2.heap.size := by omega
        have HX := Lib.hid (Below.refl Y2.heap.size Y2)
        clear hq5 hq15 hVY2 hsz2 hg2 hbs hbb hY2 s5 s5f t5 t5f
        go_upto_region 16 with (first
          | (go_at_call 19; refine (comes_ex _ b.smooth.bare _ Y2.heap.size _ _ _ _ _ _ (BZ3.out _ (by first | exact HX.out | exact HX.out.alloc HX.out.size _)) (GZ3.out _ (by first | exact HX.out | exact HX.out.alloc HX.out.size _))).mono ?_; rintro e wf ⟨rfl, hb⟩; rw [FC1.out]; have HX := Lib.hid (show Below Y2.heap.size Y2 wf from by first | exact HX.out.trans (hb.mono HX.out.size) | exact (HX.out.alloc HX.out.size _).trans (hb.mono (HX.out.alloc HX.out.size _).size)); have hk := (bcell HX.out).1; have hlt := Nat.lt_of_lt_of_le hVw2 HX.out.size; have hlt5 := Nat.lt_of_lt_of_le lq5 HX.out.size; have hlt15 := Nat.lt_of_lt_of_le lq15 HX.out.size; have HBE := Lib.hid hb; clear hb)
          | fail)
        obtain ⟨X16, hX⟩ : ∃ X, wf.alloc (.cells #[.int .i64 lo, .int .i64 hi] 32) = X := ⟨_, rfl⟩
        have hq : X16.heap[wf.heap.size]? = some (.cells #[.int .i64 lo, .int .i64 hi] 32) := by rw [← hX]; exact World.alloc_heap_new _ _
        have hbx : Below Y2.heap.size Y2 X16 := by rw [← hX]; exact HX.out.alloc HX.out.size _
        have hbk : Below wf.heap.size wf X16 := by rw [← hX]; exact (Below.refl _ _).alloc (Nat.le_refl _) _
        have hvp : Y2.heap.size ≤ wf.heap.size := HX.out.size
        rw [hX]
        clear hX
        obtain ⟨P16, hP⟩ : ∃ P, wf.heap.size = P := ⟨_, rfl⟩
        rw [hP] at hq hvp ⊢
        clear hP
        have HQ16 := Lib.hid hq
        have HVP16 := Lib.hid hvp
        have HBK16 := Lib.hid hbk
        clear hq hvp hbk hk
        have HX := Lib.hid hbx
        have hk := (bcell hbx).1
        clear hbx
        have hlt5 := Nat.lt_of_lt_of_le lq5 HX.out.size
        have hlt15 := Nat.lt_of_lt_of_le lq15 HX.out.size
        have hlt := Nat.lt_of_lt_of_le hVw2 HX.out.size
        go_upto_region 17 with (first
          | (go_at_call 19; refine (comes_ex _ b.bare _ n _ _ _ _ _ _ (BZ4.out _ (by first | exact HX.out | exact HX.out.alloc HX.out.size _)) (GZ3.out _ (by first | exact HX.out | exact HX.out.alloc HX.out.size _))).mono ?_; rintro e wg ⟨rfl, hb⟩; rw [FC2.out]; have HX := Lib.hid (show Below Y2.heap.size Y2 wg from by first | exact HX.out.trans (hb.mono HX.out.size) | exact (HX.out.alloc HX.out.size _).trans (hb.mono (HX.out.alloc HX.out.size _).size)); have hk := (bcell HX.out).1; have hlt := Nat.lt_of_lt_of_le hVw2 HX.out.size; have hlt5 := Nat.lt_of_lt_of_le lq5 HX.out.size; have hlt15 := Nat.lt_of_lt_of_le lq15 HX.out.size; have HBE := Lib.hid hb; clear hb)
          | fail)
        obtain ⟨X18, hX⟩ : ∃ X, wg.alloc (.cells #[.int .i64 (lo + fsum St.rl b.sts (k + 1)), .int .i64 (hi + fsum St.rh b.sts (k + 1))] 32) = X := ⟨_, rfl⟩
        have hq : X18.heap[wg.heap.size]? = some (.cells #[.int .i64 (lo + fsum St.rl b.sts (k + 1)), .int .i64 (hi + fsum St.rh b.sts (k + 1))] 32) := by rw [← hX]; exact World.alloc_heap_new _ _
        have hbx : Below Y2.heap.size Y2 X18 := by rw [← hX]; exact HX.out.alloc HX.out.size _
        have hbk : Below wg.heap.size wg X18 := by rw [← hX]; exact (Below.refl _ _).alloc (Nat.le_refl _) _
        have hvp : Y2.heap.size ≤ wg.heap.size := HX.out.size
        rw [hX]
        clear hX
        obtain ⟨P18, hP⟩ : ∃ P, wg.heap.size = P := ⟨_, rfl⟩
        rw [hP] at hq hvp ⊢
        clear hP
        have HQ18 := Lib.hid hq
        have HVP18 := Lib.hid hvp
        have HBK18 := Lib.hid hbk
        clear hq hvp hbk hk
        have HX := Lib.hid hbx
        have hk := (bcell hbx).1
        clear hbx
        have hb16 := HBE.out.trans (HBK18.out.mono HBE.out.size)
        have hq16 := (hb16.block P16 (Array.getElem?_eq_some_iff.1 HQ16.out).1).trans HQ16.out
        have HQ16' := Lib.hid hq16
        clear hb16 hq16
        obtain ⟨X8, hX8⟩ : ∃ X, X18 = X := ⟨_, rfl⟩
        have c0x : X18.cell? ⟨W.heap.size, 0, none⟩ = some (.slice sa n1 sc) := (HX.out.cell (p := ⟨W.heap.size, 0, none⟩) hVw2).trans c0w
        have hlt := Nat.lt_of_lt_of_le hVw2 HX.out.size
        obtain ⟨_, capx, e, es1, es2, es3, es4⟩ := (BZ5.out _ HX.out).hs
        injection e with e1 e2 e3
        subst e1
        clear e2 e3
        obtain ⟨g, o, hsa, hg, hcs⟩ := es4 (by simp [stCells]; have := HL1.out; omega)
        subst hsa
        have HSL := Lib.hid (BZ5.out _ HX.out).hs
        clear hX8 es1 es2 es3 es4 hg hcs hk c0w
        go_wp2_with fail
        go_loopg [20, 21, 22] (k + 1) (fun n0 lw hg i wx => ∃ (q : Nat), q ≤ k + 1 ∧ n0 = k + 1 - q ∧ lw = .int .i64 (fsum St.rl b.sts q) ∧ hg = .int .i64 (fsum St.rh b.sts q) ∧ i = .int .i64 (q : Int) ∧ Below X18.heap.size X18 wx)
        case atStart => exact ⟨0, by omega, rfl, by cases b.sts <;> rfl, by cases b.sts <;> rfl, rfl, Below.refl _ _⟩
        case round =>
          obtain ⟨q, hq, hgk, rfl, rfl, rfl, hbx⟩ := hrel
          have HG2 := Lib.hid hgk
          have HBQ := Lib.hid hbx
          obtain ⟨A, hA⟩ : ∃ A, fsum St.rl b.sts q = A := ⟨_, rfl⟩
          obtain ⟨B, hB⟩ : ∃ A, fsum St.rh b.sts q = A := ⟨_, rfl⟩
          have HA := Lib.hid hA
          have HB := Lib.hid hB
          have hbd := HFS.out q (by omega)
          rw [hA, hB] at hbd
          rw [hA, hB]
          clear hgk hA hB
          by_cases hqk : q ≤ k
          · obtain ⟨x, hx⟩ : ∃ x, b.sts[q]? = some x := ⟨_, List.getElem?_eq_getElem (by omega)⟩
            have hxb := HST.out x (List.mem_of_getElem? hx)
            obtain ⟨r3, r4⟩ := rough_cells (HSL.out.below (BZ5.out _ (HX.out)).hn hbx) hx
            have c0r : wr.cell? ⟨W.heap.size, 0, none⟩ = some (.slice (some ⟨g, o, none⟩) n1 sc) := (hbx.cell (p := ⟨W.heap.size, 0, none⟩) hlt).trans c0x
            have hw1 : IntKind.i64.wrap (A + x.rl) = A + x.rl := IntWalk.i64_in _ (by omega)
            have hw2 : IntKind.i64.wrap (B + x.rh) = B + x.rh := IntWalk.i64_in _ (by omega)
            have hqi : (q : Int) ≤ (k : Int) := by omega
            have hqn : (q : Int) < (n1 : Int) := by have := HL1.out; omega
            have HXX := Lib.hid hx
            clear hx hxb hbx
            go_upto_region 21 with fail
            have lr3 : g < wr.heap.size := lt_of_cell r3
            have lr0 : W.heap.size < wr.heap.size := lt_of_cell c0r
            go_quiet (fail)
            go_wp2_with fail
            go_roundg (k + 1 - (q + 1))
            case measure => rw [HG2.out]; omega
            case rel => exact ⟨q + 1, by omega, rfl, by rw [fsum_succ _ _ _ _ HXX.out, HA.out], by rw [fsum_succ _ _ _ _ HXX.out, HB.out], by go_num, ⟨HBQ.out.os, HBQ.out.tape, HBQ.out.output, HBQ.out.size, HBQ.out.block⟩⟩
          · have hqi : ¬ (q : Int) ≤ (k : Int) := by omega
            have hqk1 : q = k + 1 := by omega
            have EA := Lib.hid (show fsum St.rl b.sts (k + 1) = A by rw [← hqk1]; exact HA.out)
            have EB := Lib.hid (show fsum St.rh b.sts (k + 1) = B by rw [← hqk1]; exact HB.out)
            have hr16 := (hbx.block P16 (Array.getElem?_eq_some_iff.1 HQ16'.out).1).trans HQ16'.out
            have hr18 := (hbx.block P18 (Array.getElem?_eq_some_iff.1 HQ18.out).1).trans HQ18.out
            have v0 : wr.cell? ⟨P16, 0, none⟩ = some (.int .i64 lo) := blk_cell hr16
            have v1 : wr.cell? ⟨P16, 1, none⟩ = some (.int .i64 hi) := blk_cell hr16
            have u0 : wr.cell? ⟨P18, 0, none⟩ = some (.int .i64 (lo + A)) := by rw [← EA.out]; exact blk_cell hr18
            have u1 : wr.cell? ⟨P18, 1, none⟩ = some (.int .i64 (hi + B)) := by rw [← EB.out]; exact blk_cell hr18
            have l16 : P16 < wr.heap.size := lt_of_cell v0
            have l18 : P18 < wr.heap.size := lt_of_cell u0
            have hw1 : IntKind.i64.wrap (lo + A) = lo + A := IntWalk.i64_in _ (by omega)
            have hw2 : IntKind.i64.wrap (hi + B) = hi + B := IntWalk.i64_in _ (by omega)
            have HXR := Lib.hid (HX.out.trans (hbx.mono HX.out.size))
            have GZR := Lib.hid (GZ3.out _ HXR.out)
            clear hr16 hr18 hbx hqk1
            go_upto_region 22 with fail
            refine wp_region_det (S := fun _ w' => (∀ b o, b < wr.heap.size → w'.cell? ⟨b, o, none⟩ = wr.cell? ⟨b, o, none⟩) ∧ Below wr.heap.size wr w') (by kernel_rfl) (by kernel_rfl) (hs0 wr) ?_
            repeat
              apply det_cons
              · refine ⟨by rfl, fun L w hN hS => ?_⟩
                obtain ⟨hcc, hu⟩ := hS
                go_simp
                first
                  | exact ⟨rfl, fun _ _ _ => ⟨hcc, hu⟩⟩
                  | (refine (reach_any _ _ _).mono ?_; rintro e w' ⟨rfl, hbb⟩; exact ⟨rfl, fun _ _ _ => hs1 hbb ⟨hcc, hu⟩⟩)
                  | (refine (billed_any _ (GZR.out.below GZR.out.lt hu)).mono ?_; rintro e w' ⟨rfl, hbb⟩; exact ⟨rfl, fun _ _ _ => hs1 hbb ⟨hcc, hu⟩⟩)
              try simp only [Act.put, List.setIfInBounds_toArray, List.set_cons_zero, List.set_cons_succ]
            refine det_nil ?_
            rintro L w9 hL ⟨hcc, hu⟩
            go_wp2_with fail
            go_ret
            exact ⟨rfl, HBW.out.trans ((HXR.out.trans (hu.mono HXR.out.size)).mono HBW.out.size)⟩
      · obtain ⟨l1, l2, l3⟩ := HLAW.out hT
        have FR := Lib.hid (show rightS b.smooth = (true, 0) by unfold rightS; rw [if_pos HSOK.out]; cases h : truths b.smooth with | nil => exact absurd h hT | cons x l => rfl)
        have FB := Lib.hid l1
        have FO := Lib.hid l2
        have FP := Lib.hid l3
        clear hT l1 l2 l3
        go_upto_region 8 with (first
          | (go_at_call 15; refine (right_ex _ b.smooth X.heap.size _ _ _ _ _ _ (BZ2.out _ (by first | exact HX.out | exact HX.out.alloc HX.out.size _)) (GZ1.out _ (by first | exact HX.out | exact HX.out.alloc HX.out.size _))).mono ?_; rintro e wq ⟨rfl, hb⟩; rw [FR.out]; have HX := Lib.hid (show Below X.heap.size X wq from by first | exact HX.out.trans (hb.mono HX.out.size) | exact (HX.out.alloc HX.out.size _).trans (hb.mono (HX.out.alloc HX.out.size _).size)); have hk := (bcell HX.out).1; have hlt := Nat.lt_of_lt_of_le hVw HX.out.size; have hlt5 := Nat.lt_of_lt_of_le hp5 HX.out.size; have HBE := Lib.hid hb; clear hb)
          | fail)
        go_upto_region 10 with (first
          | (go_at_call 28; refine (blame_ex _ b.smooth X.heap.size _ _ _ _ _ _ (BZ2.out _ (by first | exact HX.out | exact HX.out.alloc HX.out.size _)) (GZ1.out _ (by first | exact HX.out | exact HX.out.alloc HX.out.size _))).mono ?_; rintro e wb ⟨rfl, hb⟩; rw [FB.out]; have HX := Lib.hid (show Below X.heap.size X wb from by first | exact HX.out.trans (hb.mono HX.out.size) | exact (HX.out.alloc HX.out.size _).trans (hb.mono (HX.out.alloc HX.out.size _).size)); have hk := (bcell HX.out).1; have hlt := Nat.lt_of_lt_of_le hVw HX.out.size; have hlt5 := Nat.lt_of_lt_of_le hp5 HX.out.size; have HBE := Lib.hid hb; clear hb)
          | (go_at_call 30; refine (owes_ex _ b.smooth X.heap.size _ _ _ _ _ _ (BZ2.out _ (by first | exact HX.out | exact HX.out.alloc HX.out.size _)) (GZ1.out _ (by first | exact HX.out | exact HX.out.alloc HX.out.size _))).mono ?_; rintro e wo ⟨rfl, hb⟩; rw [FO.out]; have HX := Lib.hid (show Below X.heap.size X wo from by first | exact HX.out.trans (hb.mono HX.out.size) | exact (HX.out.alloc HX.out.size _).trans (hb.mono (HX.out.alloc HX.out.size _).size)); have hk := (bcell HX.out).1; have hlt := Nat.lt_of_lt_of_le hVw HX.out.size; have hlt5 := Nat.lt_of_lt_of_le hp5 HX.out.size; have HBE := Lib.hid hb; clear hb)
          | fail)
        obtain ⟨X9, hX⟩ : ∃ X, wo.alloc (.cells #[.int .i64 0, .int .i64 0] 32) = X := ⟨_, rfl⟩
        have hq : X9.heap[wo.heap.size]? = some (.cells #[.int .i64 0, .int .i64 0] 32) := by rw [← hX]; exact World.alloc_heap_new _ _
        have hbx : Below X.heap.size X X9 := by rw [← hX]; exact HX.out.alloc HX.out.size _
        have hbk : Below wo.heap.size wo X9 := by rw [← hX]; exact (Below.refl _ _).alloc (Nat.le_refl _) _
        have hvp : X.heap.size ≤ wo.heap.size := HX.out.size
        rw [hX]
        clear hX
        obtain ⟨P9, hP⟩ : ∃ P, wo.heap.size = P := ⟨_, rfl⟩
        rw [hP] at hq hvp ⊢
        clear hP
        have HQ9 := Lib.hid hq
        have HVP9 := Lib.hid hvp
        have HBK9 := Lib.hid hbk
        clear hq hvp hbk hk
        have HX := Lib.hid hbx
        have hk := (bcell hbx).1
        clear hbx
        have hlt := Nat.lt_of_lt_of_le hVw HX.out.size
        have hlt5 := Nat.lt_of_lt_of_le hp5 HX.out.size
        go_upto_region 11 with (first
          | (go_at_call 32; refine (pays_ex _ b.smooth X.heap.size _ _ _ _ _ _ (BZ2.out _ (by first | exact HX.out | exact HX.out.alloc HX.out.size _)) (GZ1.out _ (by first | exact HX.out | exact HX.out.alloc HX.out.size _))).mono ?_; rintro e wp ⟨rfl, hb⟩; rw [FP.out]; have HX := Lib.hid (show Below X.heap.size X wp from by first | exact HX.out.trans (hb.mono HX.out.size) | exact (HX.out.alloc HX.out.size _).trans (hb.mono (HX.out.alloc HX.out.size _).size)); have hk := (bcell HX.out).1; have hlt := Nat.lt_of_lt_of_le hVw HX.out.size; have hlt5 := Nat.lt_of_lt_of_le hp5 HX.out.size; have HBE := Lib.hid hb; clear hb)
          | fail)
        have hb9 := HBE.out
        have q90 : wp.cell? ⟨P9, 0, none⟩ = some (.int .i64 0) := (hb9.cell (p := ⟨P9, 0, none⟩) (Array.getElem?_eq_some_iff.1 HQ9.out).1).trans (blk_cell HQ9.out)
        have q91 : wp.cell? ⟨P9, 1, none⟩ = some (.int .i64 0) := (hb9.cell (p := ⟨P9, 1, none⟩) (Array.getElem?_eq_some_iff.1 HQ9.out).1).trans (blk_cell HQ9.out)
        have l9 : P9 < wp.heap.size := lt_of_cell q90
        clear hb9
        refine wp_region_det (S := fun _ w' => (∀ b o, b < wp.heap.size → w'.cell? ⟨b, o, none⟩ = wp.cell? ⟨b, o, none⟩) ∧ Below wp.heap.size wp w') (by kernel_rfl) (by kernel_rfl) (hs0 wp) ?_
        repeat
          apply det_cons
          · refine ⟨by rfl, fun L w hN hS => ?_⟩
            obtain ⟨hcc, hu⟩ := hS
            go_simp
            first
              | exact ⟨rfl, fun _ _ _ => ⟨hcc, hu⟩⟩
              | (refine (just_any _ _).mono ?_; rintro e w' ⟨rfl, hbb⟩; exact ⟨rfl, fun _ _ _ => hs1 hbb ⟨hcc, hu⟩⟩)
          try simp only [Act.put, List.setIfInBounds_toArray, List.set_cons_zero, List.set_cons_succ]
        refine det_nil ?_
        rintro L w9 hL ⟨hcc, hu⟩
        have HX := Lib.hid (HX.out.trans (hu.mono HX.out.size))
        have hk := (bcell HX.out).1
        have hlt := Nat.lt_of_lt_of_le hVw HX.out.size
        have hlt5 := Nat.lt_of_lt_of_le hp5 HX.out.size
        clear hL hcc hu q90 q91 l9
        go_upto_region 14 with fail
        have HB14 := Lib.hid (show Below V.heap.size V w9 from HBX.out.trans (HX.out.mono HBX.out.size))
        obtain ⟨Y, hY⟩ : ∃ Y, w9.alloc (.cells #[.slice sa n1 sc, .int .i64 b.wth, .int .i64 b.c0, .int .i64 b.c1, .int .i64 b.c2, .slice ka n2 kc, .int .i64 b.rate] 26) = Y := ⟨_, rfl⟩
        have hqy : Y.heap[w9.heap.size]? = some (.cells #[.slice sa n1 sc, .int .i64 b.wth, .int .i64 b.c0, .int .i64 b.c1, .int .i64 b.c2, .slice ka n2 kc, .int .i64 b.rate] 26) := by rw [← hY]; exact World.alloc_heap_new _ _
        have hby : Below w9.heap.size w9 Y := by rw [← hY]; exact (Below.refl _ _).alloc (Nat.le_refl _) _
        rw [hY]
        have hp5v := Nat.lt_of_lt_of_le hp5 HX.out.size
        have hgv := Nat.lt_of_lt_of_le hgx HX.out.size
        obtain ⟨P15, hP15⟩ : ∃ P, w9.heap.size = P := ⟨_, rfl⟩
        have hXP : X.heap.size ≤ P15 := by rw [← hP15]; exact HX.out.size
        have hne15 : P5 ≠ P15 := by omega
        have hgne : g' ≠ P15 := by omega
        have hVP15 : V.heap.size ≤ P15 := Nat.le_trans HBX.out.size hXP
        rw [hP15] at hqy ⊢
        have hq5y : Y.heap[P5]? = some (.cells #[.slice (some ⟨g', 0, none⟩) n1 cap', .int .i64 b.wth, .int .i64 b.c0, .int .i64 b.c1, .int .i64 b.c2, .slice ka n2 kc, .int .i64 b.rate] 26) := (hby.block P5 hp5v).trans ((HX.out.block P5 hp5).trans HQ5.out)
        have hVY : Below V.heap.size V Y := HB14.out.trans (hby.mono HB14.out.size)
        have s5 : Y.cell? ⟨P5, 5, none⟩ = some (.slice ka n2 kc) := blk_cell hq5y
        have s5f := blk_frozen hq5y 5
        have t5 : Y.cell? ⟨P15, 5, none⟩ = some (.slice ka n2 kc) := blk_cell hqy
        have t5f := blk_frozen hqy 5
        have HQY := Lib.hid hqy
        have HQ5Y := Lib.hid hq5y
        have HVY := Lib.hid hVY
        have HG := Lib.hid (((BZ2.out _ HX.out).hs.mono (BZ2.out _ HX.out).hn).below (Nat.le_refl _) hby)
        have hlP := (Array.getElem?_eq_some_iff.1 hqy).1
        have hszWY := hby.size
        have hlP5 := (Array.getElem?_eq_some_iff.1 hq5y).1
        clear hqy hq5y hVY hby hY hP15
        try clear hk
        try clear hlt
        try clear hlt5
        clear c0w c1w c2w c3w c4w c5w c6w p50 p51 p52 p53 p54 p55 p56
        go_upto_region 15 with fail
        obtain ⟨Y2, hY2⟩ : ∃ Z, (Y.setCell ⟨P5, 5, none⟩ (.slice none 0 0)).setCell ⟨P15, 5, none⟩ (.slice none 0 0) = Z := ⟨_, rfl⟩
        have hq5 : Y2.heap[P5]? = some (.cells #[.slice (some ⟨g', 0, none⟩) n1 cap', .int .i64 b.wth, .int .i64 b.c0, .int .i64 b.c1, .int .i64 b.c2, .slice none 0 0, .int .i64 b.rate] 26) := by
          rw [← hY2]; exact (Below.heap_setCell _ _ _ _ hne15).trans (blk_set (j := 5) (v := .slice none 0 0) HQ5Y.out)
        have hq15 : Y2.heap[P15]? = some (.cells #[.slice sa n1 sc, .int .i64 b.wth, .int .i64 b.c0, .int .i64 b.c1, .int .i64 b.c2, .slice none 0 0, .int .i64 b.rate] 26) := by
          rw [← hY2]; exact blk_set (j := 5) (v := .slice none 0 0) ((Below.heap_setCell _ _ _ _ (Ne.symm hne15)).trans HQY.out)
        have hVY2 : Below V.heap.size V Y2 := by rw [← hY2]; exact (HVY.out.setCell hVP _).setCell hVP15 _
        have hsz2 : Y2.heap.size = Y.heap.size := by rw [← hY2]; simp [World.setCell]
        have hg2 : SlOf Y2 Y2.heap.size 7 (.slice (some ⟨g', 0, none⟩) n1 cap') (stCells b.smooth.sts) := by
          refine SlOf.mono ?_ (show Y.heap.size ≤ Y2.heap.size by omega)
          rw [← hY2]
          refine SlOf.other (B := P15) (SlOf.other (B := P5) (HG.out.mono hszWY) (fun k hk => Below.heap_setCell _ _ _ _ hk) (fun g o len cap e => by injection e with e1 _ _; injection e1 with e2; injection e2 with e3; omega)) (fun k hk => Below.heap_setCell _ _ _ _ hk) (fun g o len cap e => by injection e with e1 _ _; injection e1 with e2; injection e2 with e3; omega)
        rw [hY2]
        have hbs : BookW Y2 Y2.heap.size (some ⟨g', 0, none⟩) none n1 cap' 0 0 b.smooth.bare := ⟨Nat.le_refl _, hg2, slOf_nil _ _ _, by show n1 = b.smooth.sts.length; rw [smooth_len]; exact HL1.out, rfl⟩
        have hbb : BookW Y2 n sa none n1 sc 0 0 b.bare := ⟨(BZ.out _ hVY2).hn, (BZ.out _ hVY2).hs, slOf_nil _ _ _, HL1.out, rfl⟩
        have BZ3 := Lib.hid (show ∀ w, Below Y2.heap.size Y2 w → BookW w Y2.heap.size (some ⟨g', 0, none⟩) none n1 cap' 0 0 b.smooth.bare from fun w h => hbs.below hbs.hn h)
        have BZ4 := Lib.hid (show ∀ w, Below Y2.heap.size Y2 w → BookW w n sa none n1 sc 0 0 b.bare from fun w h => hbb.below hbb.hn h)
        have GZ3 := Lib.hid (show ∀ w, Below Y2.heap.size Y2 w → Glob w from fun w h => (GZ.out _ hVY2).below (GZ.out _ hVY2).lt h)
        have BZ5 := Lib.hid (show ∀ w, Below Y2.heap.size Y2 w → BookW w n sa ka n1 sc n2 kc b from fun w h => (BZ.out _ hVY2).below (BZ.out _ hVY2).hn h)
        have HBW := Lib.hid (hBV.trans (hVY2.mono hBV.size))
        have hVw2 := Nat.lt_of_lt_of_le hVz hVY2.size
        have c0w : Y2.cell? ⟨W.heap.size, 0, none⟩ = some (.slice sa n1 sc) := (hVY2.cell (p := ⟨W.heap.size, 0, none⟩) hVz).trans C0.out
        have p50 : Y2.cell? ⟨P5, 0, none⟩ = some (.slice (some ⟨g', 0, none⟩) n1 cap') := blk_cell hq5
        have p51 : Y2.cell? ⟨P5, 1, none⟩ = some (.int .i64 b.wth) := blk_cell hq5
        have p52 : Y2.cell? ⟨P5, 2, none⟩ = some (.int .i64 b.c0) := blk_cell hq5
        have p53 : Y2.cell? ⟨P5, 3, none⟩ = some (.int .i64 b.c1) := blk_cell hq5
        have p54 : Y2.cell? ⟨P5, 4, none⟩ = some (.int .i64 b.c2) := blk_cell hq5
        have p55 : Y2.cell? ⟨P5, 5, none⟩ = some (.slice none 0 0) := blk_cell hq5
        have p56 : Y2.cell? ⟨P5, 6, none⟩ = some (.int .i64 b.rate) := blk_cell hq5
        have q50 : Y2.cell? ⟨P15, 0, none⟩ = some (.slice sa n1 sc) := blk_cell hq15
        have q51 : Y2.cell? ⟨P15, 1, none⟩ = some (.int .i64 b.wth) := blk_cell hq15
        have q52 : Y2.cell? ⟨P15, 2, none⟩ = some (.int .i64 b.c0) := blk_cell hq15
        have q53 : Y2.cell? ⟨P15, 3, none⟩ = some (.int .i64 b.c1) := blk_cell hq15
        have q54 : Y2.cell? ⟨P15, 4, none⟩ = some (.int .i64 b.c2) := blk_cell hq15
        have q55 : Y2.cell? ⟨P15, 5, none⟩ = some (.slice none 0 0) := blk_cell hq15
        have q56 : Y2.cell? ⟨P15, 6, none⟩ = some (.int .i64 b.rate) := blk_cell hq15
        have lq5 : P5 < Y2.heap.size := by omega
        have lq15 : P15 < Y2.heap.size := by omega
        have HX := Lib.hid (Below.refl Y2.heap.size Y2)
        clear hq5 hq15 hVY2 hsz2 hg2 hbs hbb hY2 s5 s5f t5 t5f
        go_upto_region 16 with (first
          | (go_at_call 19; refine (comes_ex _ b.smooth.bare _ Y2.heap.size _ _ _ _ _ _ (BZ3.out _ (by first | exact HX.out | exact HX.out.alloc HX.out.size _)) (GZ3.out _ (by first | exact HX.out | exact HX.out.alloc HX.out.size _))).mono ?_; rintro e wf ⟨rfl, hb⟩; rw [FC1.out]; have HX := Lib.hid (show Below Y2.heap.size Y2 wf from by first | exact HX.out.trans (hb.mono HX.out.size) | exact (HX.out.alloc HX.out.size _).trans (hb.mono (HX.out.alloc HX.out.size _).size)); have hk := (bcell HX.out).1; have hlt := Nat.lt_of_lt_of_le hVw2 HX.out.size; have hlt5 := Nat.lt_of_lt_of_le lq5 HX.out.size; have hlt15 := Nat.lt_of_lt_of_le lq15 HX.out.size; have HBE := Lib.hid hb; clear hb)
          | fail)
        obtain ⟨X16, hX⟩ : ∃ X, wf.alloc (.cells #[.int .i64 lo, .int .i64 hi] 32) = X := ⟨_, rfl⟩
        have hq : X16.heap[wf.heap.size]? = some (.cells #[.int .i64 lo, .int .i64 hi] 32) := by rw [← hX]; exact World.alloc_heap_new _ _
        have hbx : Below Y2.heap.size Y2 X16 := by rw [← hX]; exact HX.out.alloc HX.out.size _
        have hbk : Below wf.heap.size wf X16 := by rw [← hX]; exact (Below.refl _ _).alloc (Nat.le_refl _) _
        have hvp : Y2.heap.size ≤ wf.heap.size := HX.out.size
        rw [hX]
        clear hX
        obtain ⟨P16, hP⟩ : ∃ P, wf.heap.size = P := ⟨_, rfl⟩
        rw [hP] at hq hvp ⊢
        clear hP
        have HQ16 := Lib.hid hq
        have HVP16 := Lib.hid hvp
        have HBK16 := Lib.hid hbk
        clear hq hvp hbk hk
        have HX := Lib.hid hbx
        have hk := (bcell hbx).1
        clear hbx
        have hlt5 := Nat.lt_of_lt_of_le lq5 HX.out.size
        have hlt15 := Nat.lt_of_lt_of_le lq15 HX.out.size
        have hlt := Nat.lt_of_lt_of_le hVw2 HX.out.size
        go_upto_region 17 with (first
          | (go_at_call 19; refine (comes_ex _ b.bare _ n _ _ _ _ _ _ (BZ4.out _ (by first | exact HX.out | exact HX.out.alloc HX.out.size _)) (GZ3.out _ (by first | exact HX.out | exact HX.out.alloc HX.out.size _))).mono ?_; rintro e wg ⟨rfl, hb⟩; rw [FC2.out]; have HX := Lib.hid (show Below Y2.heap.size Y2 wg from by first | exact HX.out.trans (hb.mono HX.out.size) | exact (HX.out.alloc HX.out.size _).trans (hb.mono (HX.out.alloc HX.out.size _).size)); have hk := (bcell HX.out).1; have hlt := Nat.lt_of_lt_of_le hVw2 HX.out.size; have hlt5 := Nat.lt_of_lt_of_le lq5 HX.out.size; have hlt15 := Nat.lt_of_lt_of_le lq15 HX.out.size; have HBE := Lib.hid hb; clear hb)
          | fail)
        obtain ⟨X18, hX⟩ : ∃ X, wg.alloc (.cells #[.int .i64 (lo + fsum St.rl b.sts (k + 1)), .int .i64 (hi + fsum St.rh b.sts (k + 1))] 32) = X := ⟨_, rfl⟩
        have hq : X18.heap[wg.heap.size]? = some (.cells #[.int .i64 (lo + fsum St.rl b.sts (k + 1)), .int .i64 (hi + fsum St.rh b.sts (k + 1))] 32) := by rw [← hX]; exact World.alloc_heap_new _ _
        have hbx : Below Y2.heap.size Y2 X18 := by rw [← hX]; exact HX.out.alloc HX.out.size _
        have hbk : Below wg.heap.size wg X18 := by rw [← hX]; exact (Below.refl _ _).alloc (Nat.le_refl _) _
        have hvp : Y2.heap.size ≤ wg.heap.size := HX.out.size
        rw [hX]
        clear hX
        obtain ⟨P18, hP⟩ : ∃ P, wg.heap.size = P := ⟨_, rfl⟩
        rw [hP] at hq hvp ⊢
        clear hP
        have HQ18 := Lib.hid hq
        have HVP18 := Lib.hid hvp
        have HBK18 := Lib.hid hbk
        clear hq hvp hbk hk
        have HX := Lib.hid hbx
        have hk := (bcell hbx).1
        clear hbx
        have hb16 := HBE.out.trans (HBK18.out.mono HBE.out.size)
        have hq16 := (hb16.block P16 (Array.getElem?_eq_some_iff.1 HQ16.out).1).trans HQ16.out
        have HQ16' := Lib.hid hq16
        clear hb16 hq16
        obtain ⟨X8, hX8⟩ : ∃ X, X18 = X := ⟨_, rfl⟩
        have c0x : X18.cell? ⟨W.heap.size, 0, none⟩ = some (.slice sa n1 sc) := (HX.out.cell (p := ⟨W.heap.size, 0, none⟩) hVw2).trans c0w
        have hlt := Nat.lt_of_lt_of_le hVw2 HX.out.size
        obtain ⟨_, capx, e, es1, es2, es3, es4⟩ := (BZ5.out _ HX.out).hs
        injection e with e1 e2 e3
        subst e1
        clear e2 e3
        obtain ⟨g, o, hsa, hg, hcs⟩ := es4 (by simp [stCells]; have := HL1.out; omega)
        subst hsa
        have HSL := Lib.hid (BZ5.out _ HX.out).hs
        clear hX8 es1 es2 es3 es4 hg hcs hk c0w
        go_wp2_with fail
        go_loopg [20, 21, 22] (k + 1) (fun n0 lw hg i wx => ∃ (q : Nat), q ≤ k + 1 ∧ n0 = k + 1 - q ∧ lw = .int .i64 (fsum St.rl b.sts q) ∧ hg = .int .i64 (fsum St.rh b.sts q) ∧ i = .int .i64 (q : Int) ∧ Below X18.heap.size X18 wx)
        case atStart => exact ⟨0, by omega, rfl, by cases b.sts <;> rfl, by cases b.sts <;> rfl, rfl, Below.refl _ _⟩
        case round =>
          obtain ⟨q, hq, hgk, rfl, rfl, rfl, hbx⟩ := hrel
          have HG2 := Lib.hid hgk
          have HBQ := Lib.hid hbx
          obtain ⟨A, hA⟩ : ∃ A, fsum St.rl b.sts q = A := ⟨_, rfl⟩
          obtain ⟨B, hB⟩ : ∃ A, fsum St.rh b.sts q = A := ⟨_, rfl⟩
          have HA := Lib.hid hA
          have HB := Lib.hid hB
          have hbd := HFS.out q (by omega)
          rw [hA, hB] at hbd
          rw [hA, hB]
          clear hgk hA hB
          by_cases hqk : q ≤ k
          · obtain ⟨x, hx⟩ : ∃ x, b.sts[q]? = some x := ⟨_, List.getElem?_eq_getElem (by omega)⟩
            have hxb := HST.out x (List.mem_of_getElem? hx)
            obtain ⟨r3, r4⟩ := rough_cells (HSL.out.below (BZ5.out _ (HX.out)).hn hbx) hx
            have c0r : wr.cell? ⟨W.heap.size, 0, none⟩ = some (.slice (some ⟨g, o, none⟩) n1 sc) := (hbx.cell (p := ⟨W.heap.size, 0, none⟩) hlt).trans c0x
            have hw1 : IntKind.i64.wrap (A + x.rl) = A + x.rl := IntWalk.i64_in _ (by omega)
            have hw2 : IntKind.i64.wrap (B + x.rh) = B + x.rh := IntWalk.i64_in _ (by omega)
            have hqi : (q : Int) ≤ (k : Int) := by omega
            have hqn : (q : Int) < (n1 : Int) := by have := HL1.out; omega
            have HXX := Lib.hid hx
            clear hx hxb hbx
            go_upto_region 21 with fail
            have lr3 : g < wr.heap.size := lt_of_cell r3
            have lr0 : W.heap.size < wr.heap.size := lt_of_cell c0r
            go_quiet (fail)
            go_wp2_with fail
            go_roundg (k + 1 - (q + 1))
            case measure => rw [HG2.out]; omega
            case rel => exact ⟨q + 1, by omega, rfl, by rw [fsum_succ _ _ _ _ HXX.out, HA.out], by rw [fsum_succ _ _ _ _ HXX.out, HB.out], by go_num, ⟨HBQ.out.os, HBQ.out.tape, HBQ.out.output, HBQ.out.size, HBQ.out.block⟩⟩
          · have hqi : ¬ (q : Int) ≤ (k : Int) := by omega
            have hqk1 : q = k + 1 := by omega
            have EA := Lib.hid (show fsum St.rl b.sts (k + 1) = A by rw [← hqk1]; exact HA.out)
            have EB := Lib.hid (show fsum St.rh b.sts (k + 1) = B by rw [← hqk1]; exact HB.out)
            have hr16 := (hbx.block P16 (Array.getElem?_eq_some_iff.1 HQ16'.out).1).trans HQ16'.out
            have hr18 := (hbx.block P18 (Array.getElem?_eq_some_iff.1 HQ18.out).1).trans HQ18.out
            have v0 : wr.cell? ⟨P16, 0, none⟩ = some (.int .i64 lo) := blk_cell hr16
            have v1 : wr.cell? ⟨P16, 1, none⟩ = some (.int .i64 hi) := blk_cell hr16
            have u0 : wr.cell? ⟨P18, 0, none⟩ = some (.int .i64 (lo + A)) := by rw [← EA.out]; exact blk_cell hr18
            have u1 : wr.cell? ⟨P18, 1, none⟩ = some (.int .i64 (hi + B)) := by rw [← EB.out]; exact blk_cell hr18
            have l16 : P16 < wr.heap.size := lt_of_cell v0
            have l18 : P18 < wr.heap.size := lt_of_cell u0
            have hw1 : IntKind.i64.wrap (lo + A) = lo + A := IntWalk.i64_in _ (by omega)
            have hw2 : IntKind.i64.wrap (hi + B) = hi + B := IntWalk.i64_in _ (by omega)
            have HXR := Lib.hid (HX.out.trans (hbx.mono HX.out.size))
            have GZR := Lib.hid (GZ3.out _ HXR.out)
            clear hr16 hr18 hbx hqk1
            go_upto_region 22 with fail
            refine wp_region_det (S := fun _ w' => (∀ b o, b < wr.heap.size → w'.cell? ⟨b, o, none⟩ = wr.cell? ⟨b, o, none⟩) ∧ Below wr.heap.size wr w') (by kernel_rfl) (by kernel_rfl) (hs0 wr) ?_
            repeat
              apply det_cons
              · refine ⟨by rfl, fun L w hN hS => ?_⟩
                obtain ⟨hcc, hu⟩ := hS
                go_simp
                first
                  | exact ⟨rfl, fun _ _ _ => ⟨hcc, hu⟩⟩
                  | (refine (reach_any _ _ _).mono ?_; rintro e w' ⟨rfl, hbb⟩; exact ⟨rfl, fun _ _ _ => hs1 hbb ⟨hcc, hu⟩⟩)
                  | (refine (billed_any _ (GZR.out.below GZR.out.lt hu)).mono ?_; rintro e w' ⟨rfl, hbb⟩; exact ⟨rfl, fun _ _ _ => hs1 hbb ⟨hcc, hu⟩⟩)
              try simp only [Act.put, List.setIfInBounds_toArray, List.set_cons_zero, List.set_cons_succ]
            refine det_nil ?_
            rintro L w9 hL ⟨hcc, hu⟩
            go_wp2_with fail
            go_ret
            exact ⟨rfl, HBW.out.trans ((HXR.out.trans (hu.mono HXR.out.size)).mono HBW.out.size)⟩
    clear aK
    go_region_with (first
      | (go_at_call 54; refine (smooth_any _ b n _ _ _ _ _ _ (BZ.out _ ?hw1) hn13).mono ?_; (case hw1 => first | exact HX0.out.drew | exact (HX0.out.alloc HX0.out.size _).drew); rintro e w1 ⟨g1, cp, rfl, hb1, hgb, hbk⟩; have hk1 := (bcell hb1).1; have hf1 := (bcell hb1).2; (first | have hbv := bel1 (V := X0) hb1 | have hbv := bel3 (V := X0) hb1); have hk1v := (bcell hbv).1; have hzz := hbv.size; have hz0 := Nat.lt_of_lt_of_le hlt hzz; have hz5 := Nat.ne_of_lt hz0; (first | have hz2 := bel4 (V := X0) hb1 | skip); clear hbv; have HB1 := Lib.hid hb1; have HGB := Lib.hid hgb; have HBK := Lib.hid hbk; clear hb1 hgb hbk; simp only [Bk.cells, Bk.smooth])
      | (go_at_call 48; refine (wrap_any _ _ (by omega) _).mono ?_; rintro e ww ⟨rfl, rfl⟩; rw [HK1.out]))
    all_goals simp only [Act.put, List.setIfInBounds_toArray]
    all_goals first
      | (obtain ⟨a1, a2, a3, a4, a5, a6⟩ := smooth_old HX0.out BZ.out hn13.1 HB1.out HGB.out HBK.out; exact hkey _ g1 cp _ a1 a2 a3 a4 a5 a6)
      | (obtain ⟨a1, a2, a3, a4, a5, a6⟩ := smooth_new HX0.out BZ.out hn13.1 HB1.out HGB.out HBK.out; exact hkey _ g1 cp _ a1 a2 a3 a4 a5 a6)
end Go.Proofs.YtbhjfojbjpbdbaaDoor
