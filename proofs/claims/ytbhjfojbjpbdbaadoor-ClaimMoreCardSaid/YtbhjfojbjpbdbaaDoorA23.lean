/-
  The contract of Fits (package claim). Written by this session; printed by wip/tools/a23.py.
-/
import Derived.Test.YtbhjfojbjpbdbaaDoorK5
namespace Go.Proofs.YtbhjfojbjpbdbaaDoor
open Go.RowKit

theorem bel1 {V w1 : World} (h : Below V.drew.heap.size V.drew w1) : Below V.heap.size V w1 := ((Below.refl V.heap.size V).drew).trans h
theorem bel2 {V w1 : World} (h : Below V.drew.heap.size V.drew w1) (o : Obj) : Below V.heap.size V (w1.alloc o) := (bel1 h).alloc h.size o
theorem bel3 {V w1 : World} {o : Obj} (h : Below (V.alloc o).drew.heap.size (V.alloc o).drew w1) : Below V.heap.size V w1 := (((Below.refl V.heap.size V).alloc (Nat.le_refl _) o).drew).trans (h.mono (by show V.heap.size ≤ (V.alloc o).heap.size; simp))
theorem bel4 {V w1 : World} {o : Obj} (h : Below (V.alloc o).drew.heap.size (V.alloc o).drew w1) : V.heap.size < w1.heap.size := Nat.lt_of_lt_of_le (show V.heap.size < (V.alloc o).heap.size by simp) h.size
theorem bel5 {V w1 : World} {o : Obj} (h : Below (V.alloc o).heap.size (V.alloc o) w1) : V.heap.size < w1.heap.size := Nat.lt_of_lt_of_le (by simp) h.size

set_option maxRecDepth 100000 in
set_option maxHeartbeats 4000000 in
theorem fits_ex (W : World) (b : Bk) (c : Ck) (n : Nat) (sa ka : Option Addr) (n1 sc n2 kc : Nat) (hv : BookW W n sa ka n1 sc n2 kc b) (hG : Glob W) :
    Calls Tryd.prog 36 #[.agg (b.cells (.slice sa n1 sc) (.slice ka n2 kc)).toArray, .agg c.cells.toArray] W fun e W' => e = .returned (.tuple #[.bool (fitsS b c).1, .int .i64 (fitsS b c).2]) ∧ Below W.heap.size W W' := by
  obtain ⟨V, hV⟩ : ∃ V, (W.alloc (Obj.cells #[.slice sa n1 sc, .int .i64 b.wth, .int .i64 b.c0, .int .i64 b.c1, .int .i64 b.c2, .slice ka n2 kc, .int .i64 b.rate] 26)).alloc (Obj.cells #[Value.int .i64 c.st, Value.int .i64 c.rd, Value.int .i64 c.er] 42) = V := ⟨_, rfl⟩
  have hBV : Below W.heap.size W V := by rw [← hV]; exact ((Below.refl _ _).alloc (Nat.le_refl _) _).alloc (by simp) _
  have hb0 : V.heap[W.heap.size]? = some (Obj.cells #[.slice sa n1 sc, .int .i64 b.wth, .int .i64 b.c0, .int .i64 b.c1, .int .i64 b.c2, .slice ka n2 kc, .int .i64 b.rate] 26) := by rw [← hV]; exact (heap_alloc_old _ _ (by simp)).trans (World.alloc_heap_new _ _)
  have hVz : W.heap.size < V.heap.size := (Array.getElem?_eq_some_iff.1 hb0).1
  have HGV := Lib.hid (hG.below hG.lt hBV)
  have HVB := Lib.hid (hv.below hv.hn hBV)
  have HN := Lib.hid hv.hn
  have c0 : V.cell? ⟨W.heap.size, 0, none⟩ = some (.slice sa n1 sc) := blk_cell hb0
  have c1 : V.cell? ⟨W.heap.size, 1, none⟩ = some (.int .i64 b.wth) := blk_cell hb0
  have c2 : V.cell? ⟨W.heap.size, 2, none⟩ = some (.int .i64 b.c0) := blk_cell hb0
  have c3 : V.cell? ⟨W.heap.size, 3, none⟩ = some (.int .i64 b.c1) := blk_cell hb0
  have c4 : V.cell? ⟨W.heap.size, 4, none⟩ = some (.int .i64 b.c2) := blk_cell hb0
  have c5 : V.cell? ⟨W.heap.size, 5, none⟩ = some (.slice ka n2 kc) := blk_cell hb0
  have c6 : V.cell? ⟨W.heap.size, 6, none⟩ = some (.int .i64 b.rate) := blk_cell hb0
  have hi0 : V.heap[W.heap.size + 1]? = some (Obj.cells #[Value.int .i64 c.st, Value.int .i64 c.rd, Value.int .i64 c.er] 42) := by rw [← hV]; have := World.alloc_heap_new (W.alloc (Obj.cells #[.slice sa n1 sc, .int .i64 b.wth, .int .i64 b.c0, .int .i64 b.c1, .int .i64 b.c2, .slice ka n2 kc, .int .i64 b.rate] 26)) (Obj.cells #[Value.int .i64 c.st, Value.int .i64 c.rd, Value.int .i64 c.er] 42); rwa [World.size_alloc] at this
  have hVx : W.heap.size + 1 < V.heap.size := (Array.getElem?_eq_some_iff.1 hi0).1
  have d0 : V.cell? ⟨W.heap.size + 1, 0, none⟩ = some (.int .i64 c.st) := blk_cell hi0
  have d1 : V.cell? ⟨W.heap.size + 1, 1, none⟩ = some (.int .i64 c.rd) := blk_cell hi0
  have d2 : V.cell? ⟨W.heap.size + 1, 2, none⟩ = some (.int .i64 c.er) := blk_cell hi0
  have HI0 := Lib.hid hi0
  have HB0 := Lib.hid hb0
  have hn1 : n1 ≤ maxLen := by obtain ⟨_, _, e, h1, h2, _⟩ := hv.hs; injection e with _ e2 _; omega
  have HN1 := Lib.hid hn1
  have HL1 := Lib.hid hv.l1
  have BZ := Lib.hid (show ∀ w, Below V.heap.size V w → BookW w n sa ka n1 sc n2 kc b from fun w h => HVB.out.below HVB.out.hn h)
  have GZ := Lib.hid (show ∀ w, Below V.heap.size V w → Glob w from fun w h => HGV.out.below HGV.out.lt h)
  clear hv hG hb0 hi0 hn1
  simp only [Bk.cells, Ck.cells]
  go_enter Tryd.func36, Tryd.ntmps36
  go_upto_region 1 with fail
  try rw [hV]
  clear hV
  rename_i Q' K1 aK1 K aK
  have hkey : ∀ (P8 : Nat) (X : World) (u9 u14 u15 : Value) (E : Int), E = askE b (ckOk n1 c) → Below V.heap.size V X →
      Exit.then K (Exit.then K1 Q') Exit.normal { tmps := #[.agg #[.slice sa n1 sc, .int .i64 b.wth, .int .i64 b.c0, .int .i64 b.c1, .int .i64 b.c2, .slice ka n2 kc, .int .i64 b.rate], .agg #[.int .i64 c.st, .int .i64 c.rd, .int .i64 c.er], .pointer (some ⟨W.heap.size, 0, none⟩), .pointer (some ⟨W.heap.size + 1, 0, none⟩), .bool false, .int .i64 0, .pointer (some ⟨P8, 0, none⟩), .int .i64 E, undef, u9,
        .agg #[.slice sa n1 sc, .int .i64 b.wth, .int .i64 b.c0, .int .i64 b.c1, .int .i64 b.c2, .slice ka n2 kc, .int .i64 b.rate], .agg #[.slice sa n1 sc, .int .i64 b.wth, .int .i64 b.c0, .int .i64 b.c1, .int .i64 b.c2, .slice ka n2 kc, .int .i64 b.rate], .agg #[.int .i64 c.st, .int .i64 c.rd, .int .i64 c.er], .bool (ckOk n1 c), u14, u15, .int .i64 E, undef, undef, undef, undef, undef, undef, undef, undef, undef, undef, undef, undef, undef, undef, undef, undef, undef, undef, undef, undef, undef, undef], defers := [] } X := by
    clear d0 d1 d2 c0 c1 c2 c3 c4 c5 c6
    intro P8 X u9 u14 u15 E hE hBX
    have hBW := hBV.trans (hBX.mono hBV.size)
    have hb0 : X.heap[W.heap.size]? = some (Obj.cells #[.slice sa n1 sc, .int .i64 b.wth, .int .i64 b.c0, .int .i64 b.c1, .int .i64 b.c2, .slice ka n2 kc, .int .i64 b.rate] 26) := (hBX.block _ hVz).trans HB0.out
    have hi0 : X.heap[W.heap.size + 1]? = some (Obj.cells #[Value.int .i64 c.st, Value.int .i64 c.rd, Value.int .i64 c.er] 42) := (hBX.block _ hVx).trans HI0.out
    have hlt0 : W.heap.size < X.heap.size := (Array.getElem?_eq_some_iff.1 hb0).1
    have hlt1 : W.heap.size + 1 < X.heap.size := (Array.getElem?_eq_some_iff.1 hi0).1
    have e0 : X.cell? ⟨W.heap.size, 0, none⟩ = some (.slice sa n1 sc) := blk_cell hb0
    have e1 : X.cell? ⟨W.heap.size, 1, none⟩ = some (.int .i64 b.wth) := blk_cell hb0
    have e2 : X.cell? ⟨W.heap.size, 2, none⟩ = some (.int .i64 b.c0) := blk_cell hb0
    have e3 : X.cell? ⟨W.heap.size, 3, none⟩ = some (.int .i64 b.c1) := blk_cell hb0
    have e4 : X.cell? ⟨W.heap.size, 4, none⟩ = some (.int .i64 b.c2) := blk_cell hb0
    have e5 : X.cell? ⟨W.heap.size, 5, none⟩ = some (.slice ka n2 kc) := blk_cell hb0
    have e6 : X.cell? ⟨W.heap.size, 6, none⟩ = some (.int .i64 b.rate) := blk_cell hb0
    by_cases hE0 : E = 0
    · have hask : askE b (ckOk n1 c) = 0 := by rw [← hE, hE0]
      have hok : bkOk b = true ∧ ckOk n1 c = true := by
        unfold askE at hask
        split at hask
        · rename_i h1
          split at hask
          · rename_i h2; exact ⟨h1, h2⟩
          · cases hask
        · cases hask
      have hSw : Sound (b.with c) := (sound_of hok.1).with (by
        have h1 := hok.2
        have h2 := bkOk_head hok.1
        have h3 := HL1.out
        simp only [ckOk, within, Bool.and_eq_true, decide_eq_true_iff] at h1
        omega) (by have h2 := bkOk_head hok.1; omega)
      have hF : fitsS b c = (!(truths (b.with c)).isEmpty, 0) := by
        unfold fitsS
        rw [← HL1.out, if_pos hask]
      have HF := Lib.hid hF
      have HSW := Lib.hid hSw
      have hn2 : n2 ≤ 4 := by have h := (BZ.out V (Below.refl _ _)).l2; have h2 := bkOk_head hok.1; omega
      have hn2c : n2 ≤ kc := by obtain ⟨_, _, e, _, h1, _⟩ := (BZ.out V (Below.refl _ _)).hk; injection e with _ e2 e3; omega
      clear hE hask hok hF hSw
      subst hE0
      go_upto_region 5 with fail
      obtain ⟨Y, hY⟩ : ∃ Y, X.alloc (Obj.cells #[.slice sa n1 sc, .int .i64 b.wth, .int .i64 b.c0, .int .i64 b.c1, .int .i64 b.c2, .slice ka n2 kc, .int .i64 b.rate] 26) = Y := ⟨_, rfl⟩
      have hBY : Below X.heap.size X Y := by rw [← hY]; exact (Below.refl _ _).alloc (Nat.le_refl _) _
      have hyb : Y.heap[X.heap.size]? = some (Obj.cells #[.slice sa n1 sc, .int .i64 b.wth, .int .i64 b.c0, .int .i64 b.c1, .int .i64 b.c2, .slice ka n2 kc, .int .i64 b.rate] 26) := by rw [← hY]; exact World.alloc_heap_new _ _
      have hyz : X.heap.size < Y.heap.size := (Array.getElem?_eq_some_iff.1 hyb).1
      have y5 : Y.cell? ⟨W.heap.size, 5, none⟩ = some (.slice ka n2 kc) := (hBY.cell (p := ⟨W.heap.size, 5, none⟩) hlt0).trans e5
      have g0 : Y.cell? ⟨W.heap.size + 1, 0, none⟩ = some (.int .i64 c.st) := (hBY.cell (p := ⟨W.heap.size + 1, 0, none⟩) hlt1).trans (blk_cell hi0)
      have g1 : Y.cell? ⟨W.heap.size + 1, 1, none⟩ = some (.int .i64 c.rd) := (hBY.cell (p := ⟨W.heap.size + 1, 1, none⟩) hlt1).trans (blk_cell hi0)
      have g2 : Y.cell? ⟨W.heap.size + 1, 2, none⟩ = some (.int .i64 c.er) := (hBY.cell (p := ⟨W.heap.size + 1, 2, none⟩) hlt1).trans (blk_cell hi0)
      rw [hY]
      have ltY0 : W.heap.size < Y.heap.size := by omega
      have ltY1 : W.heap.size + 1 < Y.heap.size := by omega
      have hVY : Below V.heap.size V Y := hBX.trans (hBY.mono hBX.size)
      obtain ⟨W1, hW1⟩ : ∃ W1, Y.drew.alloc (Obj.cells #[Value.int .i64 c.st, Value.int .i64 c.rd, Value.int .i64 c.er] 42) = W1 := ⟨_, rfl⟩
      have hB1 : Below Y.heap.size Y W1 := by rw [← hW1]; exact ((Below.refl Y.heap.size Y).drew).alloc (Nat.le_refl _) _
      have hn1' : W1.heap[Y.heap.size]? = some (Obj.cells #[Value.int .i64 c.st, Value.int .i64 c.rd, Value.int .i64 c.er] 42) := by rw [← hW1]; exact World.alloc_heap_new Y.drew _
      obtain ⟨i42, i42a, i42b, i42c, i42d⟩ := info_parts info42
      have hV1 : Below V.heap.size V W1 := hVY.trans (hB1.mono hVY.size)
      obtain ⟨g, cap, W2, hrun, hsl, hb2, hg1, hg2⟩ := append_sl (P := Tryd.prog) (w := W1) 24 24 42 i42 _ 3 24 Tryd.underlying24 i42a i42b i42c i42d rfl (by decide) (by rw [(BZ.out V (Below.refl _ _)).l2]; simp [ckCells]) (BZ.out W1 hV1).hk c.cells rfl (by simp [Ck.cells, Value.oneCell']) Y.heap.size
        (fun j u hj => by rw [blk_cell hn1']; simpa [Ck.cells] using hj) (by unfold maxLen; omega) (by omega)
      have hz1 : Y.heap.size < W1.heap.size := (Array.getElem?_eq_some_iff.1 hn1').1
      have hB2 : Below Y.heap.size Y W2 := hB1.trans (hb2.mono hB1.size)
      obtain ⟨W3, hW3⟩ : ∃ W3, W2.setCell ⟨X.heap.size, 5, none⟩ (.slice (some ⟨g, 0, none⟩) (n2 + 1) cap) = W3 := ⟨_, rfl⟩
      have HW3 := Lib.hid hW3
      have HW1 := Lib.hid hW1
      have HRUN := Lib.hid hrun
      have HSL := Lib.hid hsl
      have HYB := Lib.hid hyb
      have HC := Lib.hid (show ∀ (L : Nat → Bool) (w : World), L 13 = false → w = (if L 13 = true then W3 else if L 11 = true then W2 else if L 10 = true then W1 else Y.drew) → ∀ bl o, bl < Y.heap.size → w.cell? ⟨bl, o, none⟩ = Y.cell? ⟨bl, o, none⟩ from fun L w h hw bl o hbl => by
        rw [hw, if_neg (by simp [h])]
        split
        · exact hB2.cell (p := ⟨bl, o, none⟩) hbl
        · split
          · exact hB1.cell (p := ⟨bl, o, none⟩) hbl
          · rfl)
      have HB2Y := Lib.hid hB2
      have HBY := Lib.hid hBY
      have HG1 := Lib.hid hg1
      have HG2 := Lib.hid hg2
      clear hrun hsl hyb hb2 hB1 hB2 hn1' hW1 hY hW3 hBY hz1 hg1 hg2
      refine wp_region_det (S := fun L w => w = (if L 13 = true then W3 else if L 11 = true then W2 else if L 10 = true then W1 else Y.drew)) (by kernel_rfl) (by kernel_rfl) (by simp) ?_
      apply det_cons
      · refine ⟨by rfl, fun L w hN hS => ?_⟩
        have h13 : L 13 = false := (hN.chain (hN.chain (hN.chain (hN.chain hN.free (k := 1) (by kernel_rfl)) (k := 8) (by kernel_rfl)) (k := 11) (by kernel_rfl)) (k := 13) (by kernel_rfl))
        have hcc := HC.out L w h13 hS
        have HS := Lib.hid hS
        clear hS h13
        go_simp
        exact ⟨rfl, fun L' h1 h2 => by show _ = (if L' 13 = true then _ else if L' 11 = true then _ else if L' 10 = true then _ else _); rw [h2 13 (by decide), h2 11 (by decide), h2 10 (by decide)]; exact HS.out⟩
      try simp only [Act.put, List.setIfInBounds_toArray, List.set_cons_zero, List.set_cons_succ]
      apply det_cons
      · refine ⟨by rfl, fun L w hN hS => ?_⟩
        have h13 : L 13 = false := (hN.chain (hN.chain (hN.chain hN.free (k := 8) (by kernel_rfl)) (k := 11) (by kernel_rfl)) (k := 13) (by kernel_rfl))
        have hcc := HC.out L w h13 hS
        have HS := Lib.hid hS
        clear hS h13
        go_simp
        exact ⟨rfl, fun L' h1 h2 => by show _ = (if L' 13 = true then _ else if L' 11 = true then _ else if L' 10 = true then _ else _); rw [h2 13 (by decide), h2 11 (by decide), h2 10 (by decide)]; exact HS.out⟩
      try simp only [Act.put, List.setIfInBounds_toArray, List.set_cons_zero, List.set_cons_succ]
      apply det_cons
      · refine ⟨by rfl, fun L w hN hS => ?_⟩
        have h13 : L 13 = false := (hN.chain (hN.chain (hN.chain (hN.chain (hN.chain hN.free (k := 3) (by kernel_rfl)) (k := 4) (by kernel_rfl)) (k := 8) (by kernel_rfl)) (k := 11) (by kernel_rfl)) (k := 13) (by kernel_rfl))
        have hcc := HC.out L w h13 hS
        have HS := Lib.hid hS
        clear hS h13
        go_simp
        exact ⟨rfl, fun L' h1 h2 => by show _ = (if L' 13 = true then _ else if L' 11 = true then _ else if L' 10 = true then _ else _); rw [h2 13 (by decide), h2 11 (by decide), h2 10 (by decide)]; exact HS.out⟩
      try simp only [Act.put, List.setIfInBounds_toArray, List.set_cons_zero, List.set_cons_succ]
      apply det_cons
      · refine ⟨by rfl, fun L w hN hS => ?_⟩
        have h13 : L 13 = false := (hN.chain (hN.chain (hN.chain (hN.chain hN.free (k := 4) (by kernel_rfl)) (k := 8) (by kernel_rfl)) (k := 11) (by kernel_rfl)) (k := 13) (by kernel_rfl))
        have hcc := HC.out L w h13 hS
        have HS := Lib.hid hS
        clear hS h13
        go_simp
        exact ⟨rfl, fun L' h1 h2 => by show _ = (if L' 13 = true then _ else if L' 11 = true then _ else if L' 10 = true then _ else _); rw [h2 13 (by decide), h2 11 (by decide), h2 10 (by decide)]; exact HS.out⟩
      try simp only [Act.put, List.setIfInBounds_toArray, List.set_cons_zero, List.set_cons_succ]
      apply det_cons
      · refine ⟨by rfl, fun L w hN hS => ?_⟩
        have h13 : L 13 = false := (hN.chain (hN.chain (hN.chain hN.free (k := 8) (by kernel_rfl)) (k := 11) (by kernel_rfl)) (k := 13) (by kernel_rfl))
        have hcc := HC.out L w h13 hS
        have HS := Lib.hid hS
        clear hS h13
        go_simp
        exact ⟨rfl, fun L' h1 h2 => by show _ = (if L' 13 = true then _ else if L' 11 = true then _ else if L' 10 = true then _ else _); rw [h2 13 (by decide), h2 11 (by decide), h2 10 (by decide)]; exact HS.out⟩
      try simp only [Act.put, List.setIfInBounds_toArray, List.set_cons_zero, List.set_cons_succ]
      apply det_cons
      · refine ⟨by rfl, fun L w hN hS => ?_⟩
        have h13 : L 13 = false := (hN.chain (hN.chain (hN.chain (hN.chain (hN.chain hN.free (k := 6) (by kernel_rfl)) (k := 7) (by kernel_rfl)) (k := 8) (by kernel_rfl)) (k := 11) (by kernel_rfl)) (k := 13) (by kernel_rfl))
        have hcc := HC.out L w h13 hS
        have HS := Lib.hid hS
        clear hS h13
        go_simp
        exact ⟨rfl, fun L' h1 h2 => by show _ = (if L' 13 = true then _ else if L' 11 = true then _ else if L' 10 = true then _ else _); rw [h2 13 (by decide), h2 11 (by decide), h2 10 (by decide)]; exact HS.out⟩
      try simp only [Act.put, List.setIfInBounds_toArray, List.set_cons_zero, List.set_cons_succ]
      apply det_cons
      · refine ⟨by rfl, fun L w hN hS => ?_⟩
        have h13 : L 13 = false := (hN.chain (hN.chain (hN.chain (hN.chain hN.free (k := 7) (by kernel_rfl)) (k := 8) (by kernel_rfl)) (k := 11) (by kernel_rfl)) (k := 13) (by kernel_rfl))
        have hcc := HC.out L w h13 hS
        have HS := Lib.hid hS
        clear hS h13
        go_simp
        exact ⟨rfl, fun L' h1 h2 => by show _ = (if L' 13 = true then _ else if L' 11 = true then _ else if L' 10 = true then _ else _); rw [h2 13 (by decide), h2 11 (by decide), h2 10 (by decide)]; exact HS.out⟩
      try simp only [Act.put, List.setIfInBounds_toArray, List.set_cons_zero, List.set_cons_succ]
      apply det_cons
      · refine ⟨by rfl, fun L w hN hS => ?_⟩
        have h13 : L 13 = false := (hN.chain (hN.chain (hN.chain hN.free (k := 8) (by kernel_rfl)) (k := 11) (by kernel_rfl)) (k := 13) (by kernel_rfl))
        have hcc := HC.out L w h13 hS
        have HS := Lib.hid hS
        clear hS h13
        go_simp
        exact ⟨rfl, fun L' h1 h2 => by show _ = (if L' 13 = true then _ else if L' 11 = true then _ else if L' 10 = true then _ else _); rw [h2 13 (by decide), h2 11 (by decide), h2 10 (by decide)]; exact HS.out⟩
      try simp only [Act.put, List.setIfInBounds_toArray, List.set_cons_zero, List.set_cons_succ]
      apply det_cons
      · refine ⟨by rfl, fun L w hN hS => ?_⟩
        have h13 : L 13 = false := (hN.chain (hN.chain hN.free (k := 11) (by kernel_rfl)) (k := 13) (by kernel_rfl))
        have hcc := HC.out L w h13 hS
        have HS := Lib.hid hS
        clear hS h13
        go_simp
        exact ⟨rfl, fun L' h1 h2 => by show _ = (if L' 13 = true then _ else if L' 11 = true then _ else if L' 10 = true then _ else _); rw [h2 13 (by decide), h2 11 (by decide), h2 10 (by decide)]; exact HS.out⟩
      try simp only [Act.put, List.setIfInBounds_toArray, List.set_cons_zero, List.set_cons_succ]
      apply det_cons
      · refine ⟨by rfl, fun L w hN hS => ?_⟩
        have h13 : L 13 = false := (hN.chain (hN.chain (hN.chain hN.free (k := 10) (by kernel_rfl)) (k := 11) (by kernel_rfl)) (k := 13) (by kernel_rfl))
        have hcc := HC.out L w h13 hS
        have HS := Lib.hid hS
        clear hS h13
        go_simp
        exact ⟨rfl, fun L' h1 h2 => by show _ = (if L' 13 = true then _ else if L' 11 = true then _ else if L' 10 = true then _ else _); rw [h2 13 (by decide), h2 11 (by decide), h2 10 (by decide)]; exact HS.out⟩
      try simp only [Act.put, List.setIfInBounds_toArray, List.set_cons_zero, List.set_cons_succ]
      apply det_cons
      · refine ⟨by rfl, fun L w hN hS => ?_⟩
        have h13 : L 13 = false := (hN.chain (hN.chain hN.free (k := 11) (by kernel_rfl)) (k := 13) (by kernel_rfl))
        have h11 : L 11 = false := (hN.chain hN.free (k := 11) (by kernel_rfl))
        have h10 : L 10 = false := hN.free
        have hw : w = Y.drew := by rw [hS, if_neg (by simp [h13]), if_neg (by simp [h11]), if_neg (by simp [h10])]
        subst hw
        have H13 := Lib.hid h13
        have H11 := Lib.hid h11
        clear h13 h11 h10 hS
        go_simp
        exact ⟨rfl, fun L' h1 h2 => by show _ = (if L' 13 = true then _ else if L' 11 = true then _ else if L' 10 = true then _ else _); rw [h2 13 (by decide), h2 11 (by decide), h1, if_neg (by simp [H13.out]), if_neg (by simp [H11.out]), if_pos rfl]; exact HW1.out⟩
      try simp only [Act.put, List.setIfInBounds_toArray, List.set_cons_zero, List.set_cons_succ]
      apply det_cons
      · refine ⟨by rfl, fun L w hN hS => ?_⟩
        have h13 : L 13 = false := (hN.chain hN.free (k := 13) (by kernel_rfl))
        have h11 : L 11 = false := hN.free
        have h10 : L 10 = true := hN.was (by kernel_rfl)
        have hw : w = W1 := by rw [hS, if_neg (by simp [h13]), if_neg (by simp [h11]), if_pos h10]
        subst hw
        show Res Tryd.prog (.slice (some ⟨g, 0, none⟩) (n2 + 1) cap) _ _
        have hr := HRUN.out
        simp [execOp, resolve, invoke, builtin, Act.eval, hr]
        exact ⟨rfl, fun L' h1 h2 => by show _ = (if L' 13 = true then _ else if L' 11 = true then _ else if L' 10 = true then _ else _); rw [h2 13 (by decide), h1, if_neg (by simp [h13]), if_pos rfl]⟩
      try simp only [Act.put, List.setIfInBounds_toArray, List.set_cons_zero, List.set_cons_succ]
      apply det_cons
      · refine ⟨by rfl, fun L w hN hS => ?_⟩
        have h13 : L 13 = false := (hN.chain hN.free (k := 13) (by kernel_rfl))
        have hcc := HC.out L w h13 hS
        have HS := Lib.hid hS
        clear hS h13
        go_simp
        exact ⟨rfl, fun L' h1 h2 => by show _ = (if L' 13 = true then _ else if L' 11 = true then _ else if L' 10 = true then _ else _); rw [h2 13 (by decide), h2 11 (by decide), h2 10 (by decide)]; exact HS.out⟩
      try simp only [Act.put, List.setIfInBounds_toArray, List.set_cons_zero, List.set_cons_succ]
      apply det_cons
      · refine ⟨by rfl, fun L w hN hS => ?_⟩
        have h13 : L 13 = false := hN.free
        have h11 : L 11 = true := hN.was (by kernel_rfl)
        have hw : w = W2 := by rw [hS, if_neg (by simp [h13]), if_pos h11]
        subst hw
        have hq := (HB2Y.out.block _ hyz).trans HYB.out
        have q5 : w.cell? ⟨X.heap.size, 5, none⟩ = some (.slice ka n2 kc) := blk_cell hq
        have q5f : w.frozen? ⟨X.heap.size, 5, none⟩ = false := blk_frozen hq 5
        clear hq h13 h11 hS
        go_simp
        exact ⟨rfl, fun L' h1 h2 => by show _ = (if L' 13 = true then _ else if L' 11 = true then _ else if L' 10 = true then _ else _); rw [h1, if_pos rfl]; exact HW3.out⟩
      try simp only [Act.put]
      refine det_nil ?_
      intro L w' hall hS
      have hw : w' = W3 := by rw [hS, if_pos (hall 13 (by decide))]
      subst hw
      clear hS hall
      have hq2 := (HB2Y.out.block _ hyz).trans HYB.out
      have hq := blk_set (j := 5) (v := .slice (some ⟨g, 0, none⟩) (n2 + 1) cap) hq2
      rw [HW3.out] at hq
      have hBV' : Below V.heap.size V w' := by
        rw [← HW3.out]
        exact (hVY.trans (HB2Y.out.mono hVY.size)).setCell (show V.heap.size ≤ X.heap.size from hBX.size) _
      have hsl' : SlOf w' w'.heap.size 3 (.slice (some ⟨g, 0, none⟩) (n2 + 1) cap) (ckCells (b.with c).cks) := by
        obtain ⟨a0, c0, ea, h1, h2, h3, h4⟩ := HSL.out
        have hrows : ckCells (b.with c).cks = ckCells b.cks ++ [c.cells] := by simp [ckCells, Bk.with]
        rw [hrows]
        refine ⟨a0, c0, ea, h1, h2, h3, fun hp => ?_⟩
        obtain ⟨b0, o0, e0', h5, h6⟩ := h4 hp
        injection ea with ea1 _ _
        rw [e0'] at ea1
        injection ea1 with ea2
        injection ea2 with ea3 ea4 _
        subst ea3
        refine ⟨g, o0, e0', ?_, fun i j r u hi hj => ?_⟩
        · rw [← HW3.out]; simpa [World.setCell] using h5
        · rw [← HW3.out]
          refine (World.cell?_of_block (Below.heap_setCell _ _ _ _ ?_)).trans (h6 i j r u hi hj)
          have h7 := HG1.out
          have h8 : Y.heap.size ≤ W1.heap.size := by rw [← HW1.out]; exact ((Below.refl Y.heap.size Y.drew).alloc (Nat.le_refl _) _).size
          show g ≠ X.heap.size
          omega
      have m0 : w'.cell? ⟨X.heap.size, 0, none⟩ = some (.slice sa n1 sc) := blk_cell hq
      have m1 : w'.cell? ⟨X.heap.size, 1, none⟩ = some (.int .i64 b.wth) := blk_cell hq
      have m2 : w'.cell? ⟨X.heap.size, 2, none⟩ = some (.int .i64 b.c0) := blk_cell hq
      have m3 : w'.cell? ⟨X.heap.size, 3, none⟩ = some (.int .i64 b.c1) := blk_cell hq
      have m4 : w'.cell? ⟨X.heap.size, 4, none⟩ = some (.int .i64 b.c2) := blk_cell hq
      have m5 : w'.cell? ⟨X.heap.size, 5, none⟩ = some (.slice (some ⟨g, 0, none⟩) (n2 + 1) cap) := blk_cell hq
      have m6 : w'.cell? ⟨X.heap.size, 6, none⟩ = some (.int .i64 b.rate) := blk_cell hq
      have HBV' := Lib.hid hBV'
      have HSL' := Lib.hid hsl'
      clear hq hq2 hBV' hsl' y5 g0 g1 g2 e0 e1 e2 e3 e4 e5 e6 hb0 hi0
      have hfield := field79
      go_wp2_with (first
        | (go_at_call 64; refine (opened_nil w' (b.with c) (.slice sa n1 sc) (.slice (some ⟨g, 0, none⟩) (n2 + 1) cap) w'.heap.size (Nat.le_refl _) ((BZ.out _ HBV'.out).hs.mono (BZ.out _ HBV'.out).hn) HSL'.out (GZ.out _ HBV'.out) HSW.out).mono ?_; rintro e w2 ⟨ka', kl', kc', M, tv, rfl, hb2, ht, hfr⟩; obtain ⟨ta, tc, rfl⟩ := ht.slice; have HB2 := Lib.hid hb2; have HT := Lib.hid ht; have HFR := Lib.hid hfr; clear hb2 ht hfr; simp only [Bk.cells9])
        | fail)
      refine bodyPost_ret (results_tmp2 rfl _ _ _) rfl ⟨?_, (hBV.trans (HBV'.out.mono hBV.size)).trans (HB2.out.mono (Nat.le_trans hBV.size HBV'.out.size))⟩
      rw [HF.out]
      show Ending.returned (.tuple #[.bool (decide (0 < (trCells (truths (b.with c))).length)), .int .i64 0]) = _
      rw [dec_len]
    · have hS : fitsS b c = (false, E) := by
        unfold fitsS
        rw [← HL1.out, ← hE, if_neg hE0]
      have HSS := Lib.hid hS
      clear hS hE hb0 hi0
      go_wp2_with fail
      exact bodyPost_ret (results_tmp2 rfl _ _ _) rfl ⟨by rw [HSS.out]; rfl, hBW⟩
  clear aK1 aK
  go_region_with (first
    | (go_at_call 68; refine (isClock_any _ b (.slice sa n1 sc) (.slice ka n2 kc) sa c n1 sc rfl HN1.out).mono ?_; rintro e w1 ⟨rfl, hb1⟩; have hk1 := (bcell hb1).1; have hf1 := (bcell hb1).2; (first | have hbv := bel1 (V := V) hb1 | have hbv := bel3 (V := V) hb1); have hk1v := (bcell hbv).1; clear hbv; (first | have hzz := (bel1 (V := V) hb1).size | have hzz := (bel3 (V := V) hb1).size); (first | have hz2 := bel4 (V := V) hb1 | skip); have hz0 := Nat.lt_of_lt_of_le hVz hzz; have hz6 := Nat.lt_of_lt_of_le hVx hzz; have hz5 := Nat.ne_of_lt hz0; have hz7 := Nat.ne_of_lt hz6; have HB1 := Lib.hid hb1; clear hb1)
    | (go_at_call 80; refine (asked_any _ b _ n sa ka n1 sc n2 kc (BZ.out _ ?hw1) (GZ.out _ ?hw2)).mono ?_; (case hw1 => first | exact bel1 HB1.out | exact bel2 HB1.out _ | exact bel3 HB1.out | (trace_state; fail)); (case hw2 => first | exact bel1 HB1.out | exact bel2 HB1.out _ | exact bel3 HB1.out | (trace_state; fail)); rintro e w2 ⟨x, sa', ka', ta, sl', sc', kl', kc', tl, tc, mo, rfl, hb2, hx⟩; have hk2 := (bcell hb2).1; have hf2 := (bcell hb2).2; have hz3 := hb2.size; (first | have hz3 := bel5 (V := w1) hb2 | skip); (first | have hz4 := Nat.lt_of_lt_of_le hz2 hb2.size | skip); have HB2 := Lib.hid hb2; clear hb2 hx; simp only [Bk.cells9]))
  all_goals simp only [Act.put, List.setIfInBounds_toArray]
  all_goals (refine hkey _ _ _ _ _ _ rfl ?_)
  all_goals first
    | ((iterate 9 refine Below.setCell ?_ (Nat.le_refl V.heap.size) _); exact (bel3 HB1.out).trans (HB2.out.mono (bel3 (V := V) HB1.out).size))
    | ((iterate 9 refine Below.setCell ?_ (bel1 (V := V) HB1.out).size _); exact (bel2 (V := V) HB1.out _).trans (HB2.out.mono (bel2 (V := V) HB1.out _).size))
    | exact ((bel1 (V := V) HB1.out).trans (HB2.out.mono (bel1 (V := V) HB1.out).size)).alloc (Nat.le_trans (bel1 (V := V) HB1.out).size HB2.out.size) _
end Go.Proofs.YtbhjfojbjpbdbaaDoor
