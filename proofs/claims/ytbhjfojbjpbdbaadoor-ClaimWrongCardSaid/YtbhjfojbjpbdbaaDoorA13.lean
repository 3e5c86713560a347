/-
  The contract of opened (package claim): the walk. Written by this session.
-/
import Derived.Test.YtbhjfojbjpbdbaaDoorA12
namespace Go.Proofs.YtbhjfojbjpbdbaaDoor
open Go.RowKit

set_option maxRecDepth 100000 in
set_option maxHeartbeats 4000000 in
theorem opened_any (W : World) (b : Bk) (s k bv : Value) (l : List Nat) (n : Nat) (hG : Glob W) (hn : n ≤ W.heap.size) (hs : SlOf W n 7 s (stCells b.sts)) (hk : SlOf W n 3 k (ckCells b.cks)) (hb : SlOf W n 1 bv (natCells l)) (hck : b.cks.length ≤ 1000)
    (hbg : Big (b.but l)) (hl0 : 0 < b.sts.length) (hw : 1 ≤ b.wth ∧ b.wth ≤ 7) (hN : (truths (b.but l)).length ≤ 20000) :
    Calls Tryd.prog 64 #[.agg (b.cells s k).toArray, bv] W fun e W' => ∃ ka kl kc M tv, e = .returned (.agg ((b.but l).cells9 s (.slice ka kl kc) (.map (some M)) tv).toArray) ∧ Below W.heap.size W W' ∧ SlOf W' W'.heap.size 7 tv (trCells (truths (b.but l))) ∧ (∀ g, tv.ownBlock = some g → W.heap.size ≤ g) := by
  obtain ⟨sa, sc, rfl, hs1, hs2, hs3, hs4⟩ := id hs
  obtain ⟨ka, kc, rfl, hk1, hk2, hk3, hk4⟩ := id hk
  have hsl : (stCells b.sts).length = b.sts.length := by simp [stCells]
  have hkl : (ckCells b.cks).length = b.cks.length := by simp [ckCells]
  have hmx : b.cks.length ≤ 1000 := hck
  simp only [hsl, hkl] at *
  obtain ⟨sts, w0, c0, c1, c2, cks, r0⟩ := b
  simp only at *
  obtain ⟨sl, hsl'⟩ : ∃ sl, sts.length = sl := ⟨_, rfl⟩
  have HBG := Lib.hid hbg
  have HL0 := Lib.hid hl0
  have HWT := Lib.hid hw
  have HNN := Lib.hid hN
  clear hbg hl0 hw hN
  have HG := Lib.hid hG
  have HS := Lib.hid hs
  have HK := Lib.hid hk
  have HB := Lib.hid hb
  have HK4 := Lib.hid hk4
  have g0 := hG.n0
  have g1 := hG.n1
  have hmk := mk76
  clear hs hk hb hG hs1 hs2 hs3 hs4 hk1 hk2 hk3 hk4
  simp only [Bk.cells]
  rw [hsl'] at *
  obtain ⟨i42, i42a, i42b, i42c, i42d⟩ := info_parts info42
  obtain ⟨i87, i87a, i87b, i87c, i87d⟩ := info_parts info87
  refine callsIn_wide.1 (callsIn_of_wp_marks (F := Fence.wide) (n := 0) Tryd.func64 rfl trivial ?_ rfl)
  refine wpIn_wide.2 ?_
  simp only [Tryd.ntmps64, List.size_toArray, List.length_cons, List.length_nil, Nat.reduceAdd, Nat.reduceSub, Array.replicate_succ, Array.replicate_zero, List.push_toArray, List.append_toArray, List.nil_append, List.cons_append]
  go_upto_region 1 with fail
  obtain ⟨V, hV⟩ : ∃ V, ((W.alloc (.cells #[.slice sa sl sc, .int .i64 w0, .int .i64 c0, .int .i64 c1, .int .i64 c2, .slice ka cks.length kc, .int .i64 r0] 26)).alloc
    (.cells #[.slice none 0 0, .int .i64 0, .int .i64 0, .int .i64 0, .int .i64 0, .slice none 0 0, .int .i64 0, .map none, .slice none 0 0] 79)) = V := ⟨_, rfl⟩
  have hBV : Below W.heap.size W V := by rw [← hV]; exact ((Below.refl _ _).alloc (Nat.le_refl _) _).alloc (by simp) _
  have hVz : V.heap.size = W.heap.size + 2 := by rw [← hV]; simp
  have hb0 : V.heap[W.heap.size]? = some (.cells #[.slice sa sl sc, .int .i64 w0, .int .i64 c0, .int .i64 c1, .int .i64 c2, .slice ka cks.length kc, .int .i64 r0] 26) := by rw [← hV, heap_alloc_old _ _ (by simp)]; exact World.alloc_heap_new _ _
  have v0 : V.cell? ⟨W.heap.size, 0, none⟩ = some (.slice sa sl sc) := blk_cell hb0
  have v1 : V.cell? ⟨W.heap.size, 1, none⟩ = some (.int .i64 w0) := blk_cell hb0
  have v2 : V.cell? ⟨W.heap.size, 2, none⟩ = some (.int .i64 c0) := blk_cell hb0
  have v3 : V.cell? ⟨W.heap.size, 3, none⟩ = some (.int .i64 c1) := blk_cell hb0
  have v4 : V.cell? ⟨W.heap.size, 4, none⟩ = some (.int .i64 c2) := blk_cell hb0
  have v5 : V.cell? ⟨W.heap.size, 5, none⟩ = some (.slice ka cks.length kc) := blk_cell hb0
  have v6 : V.cell? ⟨W.heap.size, 6, none⟩ = some (.int .i64 r0) := blk_cell hb0
  have h1W : 1 < W.heap.size := lt_of_cell g0
  have n0 : V.cell? ⟨1, 0, none⟩ = some (.int .i64 (-1)) := (hBV.cell (p := ⟨1, 0, none⟩) h1W).trans g0
  have n1 : V.cell? ⟨1, 1, none⟩ = some (.int .i64 (-1)) := (hBV.cell (p := ⟨1, 1, none⟩) h1W).trans g1
  have l1 : 1 < V.heap.size := by omega
  have l5 : 0 < V.heap.size := by omega
  have l6 : 1 ≤ V.heap.size := by omega
  have l7 : W.heap.size ≤ V.heap.size := by omega
  have l8 : 1 < V.heap.size + 1 := by omega
  have l9 : W.heap.size < V.heap.size + 1 := by omega
  have l2 : W.heap.size < V.heap.size := by omega
  have l3 : W.heap.size + 1 < V.heap.size := by omega
  rw [hV]
  have hm1 : (V.alloc (.map #[] 0)).drew.heap[V.heap.size]? = some (.map #[] 0) := World.alloc_heap_new _ _
  have hm2 : ((V.alloc zero79).alloc (.map #[] 0)).drew.heap[V.heap.size + 1]? = some (.map #[] 0) := by
    have := World.alloc_heap_new (V.alloc zero79) (.map #[] 0)
    rw [World.size_alloc] at this
    exact this
  have hm3 : ((V.alloc (.map #[] 0)).alloc zero79).drew.heap[V.heap.size]? = some (.map #[] 0) := (heap_alloc_old _ _ (by simp)).trans (World.alloc_heap_new _ _)
  obtain ⟨X1, p1⟩ := Put.mk' hm1
  obtain ⟨X2, p2⟩ := Put.mk' hm2
  obtain ⟨X3, p3⟩ := Put.mk' hm3
  have HP1 := Lib.hid p1
  have HP2 := Lib.hid p2
  have HP3 := Lib.hid p3
  have r1 := p1.run
  have r2 := p2.run
  have r3 := p3.run
  have hq1 : ∀ {B j : Nat} {v : Value}, B < V.heap.size → V.cell? ⟨B, j, none⟩ = some v → X1.cell? ⟨B, j, none⟩ = some v := fun hB h =>
    p1.cell (by omega) ((((Below.refl _ V).alloc (Nat.le_refl _) _).cell (p := ⟨_, _, none⟩) hB).trans h)
  have hq2 : ∀ {B j : Nat} {v : Value}, B < V.heap.size → V.cell? ⟨B, j, none⟩ = some v → X2.cell? ⟨B, j, none⟩ = some v := fun hB h =>
    p2.cell (by omega) (((((Below.refl _ V).alloc (Nat.le_refl _) _).alloc (by simp) _).cell (p := ⟨_, _, none⟩) hB).trans h)
  have hq3 : ∀ {B j : Nat} {v : Value}, B < V.heap.size → V.cell? ⟨B, j, none⟩ = some v → X3.cell? ⟨B, j, none⟩ = some v := fun hB h =>
    p3.cell (by omega) (((((Below.refl _ V).alloc (Nat.le_refl _) _).alloc (by simp) _).cell (p := ⟨_, _, none⟩) hB).trans h)
  have hb2 : X2.heap[V.heap.size]? = some zero79 := (p2.old _ (by omega)).trans ((heap_alloc_old _ _ (by simp)).trans (World.alloc_heap_new _ _))
  have hb3 : X3.heap[V.heap.size + 1]? = some zero79 := (p3.old _ (by omega)).trans (by
    have := World.alloc_heap_new (V.alloc (.map #[] 0)) zero79
    rw [World.size_alloc] at this
    exact this)
  have x10 := hq1 l2 v0
  have x11 := hq1 l2 v1
  have x12 := hq1 l2 v2
  have x13 := hq1 l2 v3
  have x14 := hq1 l2 v4
  have x15 := hq1 l2 v5
  have x16 := hq1 l2 v6
  have x20 := hq2 l2 v0
  have x21 := hq2 l2 v1
  have x22 := hq2 l2 v2
  have x23 := hq2 l2 v3
  have x24 := hq2 l2 v4
  have x25 := hq2 l2 v5
  have x26 := hq2 l2 v6
  have x30 := hq3 l2 v0
  have x31 := hq3 l2 v1
  have x32 := hq3 l2 v2
  have x33 := hq3 l2 v3
  have x34 := hq3 l2 v4
  have x35 := hq3 l2 v5
  have x36 := hq3 l2 v6
  have b20 : X2.cell? ⟨V.heap.size, 0, none⟩ = some (.slice none 0 0) := blk_cell hb2
  have b30 : X3.cell? ⟨V.heap.size + 1, 0, none⟩ = some (.slice none 0 0) := blk_cell hb3
  have f20 := blk_frozen hb2 0
  have f30 := blk_frozen hb3 0
  have b21 : X2.cell? ⟨V.heap.size, 1, none⟩ = some (.int .i64 0) := blk_cell hb2
  have b31 : X3.cell? ⟨V.heap.size + 1, 1, none⟩ = some (.int .i64 0) := blk_cell hb3
  have f21 := blk_frozen hb2 1
  have f31 := blk_frozen hb3 1
  have b22 : X2.cell? ⟨V.heap.size, 2, none⟩ = some (.int .i64 0) := blk_cell hb2
  have b32 : X3.cell? ⟨V.heap.size + 1, 2, none⟩ = some (.int .i64 0) := blk_cell hb3
  have f22 := blk_frozen hb2 2
  have f32 := blk_frozen hb3 2
  have b23 : X2.cell? ⟨V.heap.size, 3, none⟩ = some (.int .i64 0) := blk_cell hb2
  have b33 : X3.cell? ⟨V.heap.size + 1, 3, none⟩ = some (.int .i64 0) := blk_cell hb3
  have f23 := blk_frozen hb2 3
  have f33 := blk_frozen hb3 3
  have b24 : X2.cell? ⟨V.heap.size, 4, none⟩ = some (.int .i64 0) := blk_cell hb2
  have b34 : X3.cell? ⟨V.heap.size + 1, 4, none⟩ = some (.int .i64 0) := blk_cell hb3
  have f24 := blk_frozen hb2 4
  have f34 := blk_frozen hb3 4
  have b25 : X2.cell? ⟨V.heap.size, 5, none⟩ = some (.slice none 0 0) := blk_cell hb2
  have b35 : X3.cell? ⟨V.heap.size + 1, 5, none⟩ = some (.slice none 0 0) := blk_cell hb3
  have f25 := blk_frozen hb2 5
  have f35 := blk_frozen hb3 5
  have b26 : X2.cell? ⟨V.heap.size, 6, none⟩ = some (.int .i64 0) := blk_cell hb2
  have b36 : X3.cell? ⟨V.heap.size + 1, 6, none⟩ = some (.int .i64 0) := blk_cell hb3
  have f26 := blk_frozen hb2 6
  have f36 := blk_frozen hb3 6
  have b27 : X2.cell? ⟨V.heap.size, 7, none⟩ = some (.map none) := blk_cell hb2
  have b37 : X3.cell? ⟨V.heap.size + 1, 7, none⟩ = some (.map none) := blk_cell hb3
  have f27 := blk_frozen hb2 7
  have f37 := blk_frozen hb3 7
  have b28 : X2.cell? ⟨V.heap.size, 8, none⟩ = some (.slice none 0 0) := blk_cell hb2
  have b38 : X3.cell? ⟨V.heap.size + 1, 8, none⟩ = some (.slice none 0 0) := blk_cell hb3
  have f28 := blk_frozen hb2 8
  have f38 := blk_frozen hb3 8
  have z1 : X1.heap.size = V.heap.size + 1 := p1.size.trans (by simp)
  have z2 : X2.heap.size = V.heap.size + 1 + 1 := p2.size.trans (by simp)
  have z3 : X3.heap.size = V.heap.size + 1 + 1 := p3.size.trans (by simp)
  have Z1 := Lib.hid z1
  have Z2 := Lib.hid z2
  have Z3 := Lib.hid z3
  have l4 : W.heap.size < X1.heap.size := by omega
  clear hm1 hm2 hm3 p1 p2 p3 z1 z2 z3 hb2 hb3 hq1 hq2 hq3
  have HBV := Lib.hid hBV
  have hz79 : V.heap[W.heap.size + 1]? = some zero79 := by rw [← hV]; have := World.alloc_heap_new (W.alloc (.cells #[.slice sa sl sc, .int .i64 w0, .int .i64 c0, .int .i64 c1, .int .i64 c2, .slice ka cks.length kc, .int .i64 r0] 26)) zero79; rwa [World.size_alloc] at this
  have HZ79 := Lib.hid hz79
  have hgv : Glob V := ⟨(hBV.cell (p := ⟨0, 0, none⟩) (by show 0 < _; omega)).trans HG.out.k0, (hBV.cell (p := ⟨0, 1, none⟩) (by show 0 < _; omega)).trans HG.out.k1, n0, n1⟩
  have HGV := Lib.hid hgv
  clear hz79 hgv
  have HVZ := Lib.hid hVz
  have HW1 := Lib.hid h1W
  clear hV hb0 hBV g0 g1 hVz
  rename_i Q' K aK
  have hkey : ∀ (M Bt : Nat) (w' : World), w'.heap[M]? = some (.map #[nowEntry] 1) → w'.heap[Bt]? = some (.cells #[.slice sa sl sc, .int .i64 w0, .int .i64 c0, .int .i64 c1, .int .i64 c2, .slice ka cks.length kc, .int .i64 r0, .map (some M), .slice none 0 0] 79) →
      Below V.heap.size V w' → V.heap.size ≤ M → V.heap.size ≤ Bt →
      Exit.then K Q' Exit.normal { tmps := #[.agg #[.slice sa sl sc, .int .i64 w0, .int .i64 c0, .int .i64 c1, .int .i64 c2, .slice ka cks.length kc, .int .i64 r0], bv, .pointer (some ⟨W.heap.size, 0, none⟩), undef,
        .pointer (some ⟨W.heap.size + 1, 0, none⟩), .pointer (some ⟨Bt, 0, none⟩), undef, undef, undef, .agg #[.slice sa sl sc, .int .i64 w0, .int .i64 c0, .int .i64 c1, .int .i64 c2, .slice ka cks.length kc, .int .i64 r0],
        .map (some M), .agg #[.int .i64 (-1), .int .i64 (-1)], .map (some M), .agg #[.slice sa sl sc, .int .i64 w0, .int .i64 c0, .int .i64 c1, .int .i64 c2, .slice ka cks.length kc, .int .i64 r0, .map (some M), .slice none 0 0],
        undef, undef, undef, undef, undef, undef, undef, undef, undef, undef, undef, undef, undef, undef, undef, undef, undef, undef, undef, undef, undef, undef, undef, undef, undef, undef, undef, undef, undef, undef, undef, undef, undef], defers := [] } w' := by
    clear r1 r2 r3 hmk Z1 Z2 Z3 HP1 HP2 HP3 n0 n1
    intro M Bt w' h1 h2 h3 h4 h5
    have f5 := blk_frozen h2
    have c5 : w'.cell? ⟨Bt, 5, none⟩ = some (.slice ka cks.length kc) := blk_cell h2
    have H1 := Lib.hid h1
    have H2 := Lib.hid h2
    have H3 := Lib.hid h3
    clear h1 h2 h3
    go_upto_region 3 with fail
    have hn0 : V.heap.size ≤ w'.heap.size := H3.out.size
    have hF0 : Fil ⟨sts, w0, c0, c1, c2, cks, r0⟩ (.slice sa sl sc) M Bt w'.heap.size V [] (.slice none 0 0) (w'.setCell ⟨Bt, 5, none⟩ (.slice none 0 0)) := by
      have hlt1 := (Array.getElem?_eq_some_iff.1 H1.out).1
      have hlt2 := (Array.getElem?_eq_some_iff.1 H2.out).1
      refine ⟨?_, ?_, World.ownsRow_nil _ _ _ _, H3.out.setCell (p := ⟨Bt, 5, none⟩) h5 _, by simp [World.setCell], hlt2, hlt1, h5, hn0⟩
      · rw [blk_set H2.out]; rfl
      · refine (Below.heap_setCell _ _ _ _ ?_).trans H1.out
        intro e
        have h6 := H1.out
        rw [e] at h6
        have h7 := H2.out
        rw [h6] at h7
        cases h7
    obtain ⟨n0, hn0e⟩ : ∃ n0, w'.heap.size = n0 := ⟨_, rfl⟩
    obtain ⟨U, hU⟩ : ∃ U, w'.setCell ⟨Bt, 5, none⟩ (.slice none 0 0) = U := ⟨_, rfl⟩
    rw [hn0e] at hF0 hn0
    rw [hU] at hF0 ⊢
    have HF0 := Lib.hid hF0
    have HN0 := Lib.hid hn0
    have HVM := Lib.hid h4
    have u5 : U.cell? ⟨W.heap.size, 5, none⟩ = some (.slice ka cks.length kc) := (hF0.old.cell (p := ⟨_, _, none⟩) l2).trans v5
    clear hF0 hn0 hn0e hU f5 c5 v0 v1 v2 v3 v4 v5 v6 H1 H2 H3
    go_wp2_with fail
    go_loopg [19] cks.length (fun n i wx => ∃ (q : Nat) (kv : Value), q ≤ cks.length ∧ n = cks.length - q ∧ i = .int .i64 q ∧ Fil ⟨sts, w0, c0, c1, c2, cks, r0⟩ (.slice sa sl sc) M Bt n0 V (leaveOut l 0 (cks.take q)) kv wx)
    case atStart => exact ⟨0, .slice none 0 0, by omega, rfl, rfl, HF0.out⟩
    case round =>
      obtain ⟨q, kv, hq, hgk, rfl, hF⟩ := hrel
      have HGK := Lib.hid hgk
      have HF := Lib.hid hF
      clear hgk hF
      by_cases hlt : q < cks.length
      · obtain ⟨x, hx⟩ : ∃ x, cks[q]? = some x := ⟨_, List.getElem?_eq_getElem hlt⟩
        obtain ⟨g, p, hka, hg, hcs⟩ := sl_at (fun h0 => HK4.out (by simpa [ckCells] using h0)) (show (ckCells cks)[q]? = some x.cells by simp [ckCells, hx])
        have hBW := HBV.out.trans (HF.out.old.mono (show W.heap.size ≤ V.heap.size by omega))
        have hr : ∀ i c, x.cells[i]? = some c → wr.cell? ⟨g, p + q * 3 + i, none⟩ = some c := fun i c hi =>
          (hBW.cell (p := ⟨g, p + q * 3 + i, none⟩) (by show g < _; omega)).trans (hcs i c hi)
        have y0 : wr.cell? ⟨g, p + q * 3, none⟩ = some (.int .i64 x.st) := hr 0 _ rfl
        have y1 : wr.cell? ⟨g, p + q * 3 + 1, none⟩ = some (.int .i64 x.rd) := hr 1 _ rfl
        have y2 : wr.cell? ⟨g, p + q * 3 + 2, none⟩ = some (.int .i64 x.er) := hr 2 _ rfl
        have hstep := leaveOut_take (but := l) hx
        have HST := Lib.hid hstep
        clear hstep hcs hBW hr hx
        subst hka
        go_upto_region 6 with fail
        have z0 : (wr.alloc (.cells #[.int .i64 x.st, .int .i64 x.rd, .int .i64 x.er] 42)).heap[wr.heap.size]? = some (.cells #[.int .i64 x.st, .int .i64 x.rd, .int .i64 x.er] 42) := World.alloc_heap_new _ _
        have hF1 := HF.out.alloc (.cells #[.int .i64 x.st, .int .i64 x.rd, .int .i64 x.er] 42)
        obtain ⟨V1, hV1⟩ : ∃ V1, wr.alloc (.cells #[.int .i64 x.st, .int .i64 x.rd, .int .i64 x.er] 42) = V1 := ⟨_, rfl⟩
        rw [hV1] at z0 hF1 ⊢
        clear hV1
        have z1 : V1.cell? ⟨wr.heap.size, 0, none⟩ = some (.int .i64 x.st) := blk_cell z0
        have z2 : V1.cell? ⟨wr.heap.size, 1, none⟩ = some (.int .i64 x.rd) := blk_cell z0
        have z3 : V1.cell? ⟨wr.heap.size, 2, none⟩ = some (.int .i64 x.er) := blk_cell z0
        have z4 : V1.cell? ⟨Bt, 5, none⟩ = some kv := blk_cell hF1.bt
        have z5 := (Array.getElem?_eq_some_iff.1 z0).1
        have z6 : Bt < V1.heap.size := (Array.getElem?_eq_some_iff.1 hF1.bt).1
        have hS1 : SlOf V1 n 1 bv (natCells l) := HB.out.below hn (HBV.out.trans (hF1.old.mono (show W.heap.size ≤ V.heap.size by omega)))
        have HF1 := Lib.hid hF1
        have HS1 := Lib.hid hS1
        clear z0 hF1 hS1
        by_cases hco : l.contains q = true
        · go_wp2_with (go_at_call 94; refine (contains_any _ _ l n q HS1.out).mono ?_; rintro e w' ⟨rfl, rfl⟩; rw [hco])
          go_roundg (cks.length - (q + 1))
          case measure => rw [HGK.out]; omega
          case rel => exact ⟨q + 1, kv, by omega, rfl, by go_num, by rw [HST.out, if_pos hco, List.append_nil]; exact HF1.out⟩
        · have hco2 : l.contains q = false := by simpa using hco
          have HCO := Lib.hid hco2
          clear hco
          go_wp2_with (first
            | (go_at_call 94; refine (contains_any _ _ l n q HS1.out).mono ?_; rintro e w' ⟨rfl, rfl⟩; rw [hco2])
            | (at_builtin; refine wpList_append_own _ rfl (.tmp 30) (.tmp 32) 24 rfl n0 42 i42 _ 3 24 Tryd.underlying24 i42a i42b i42c i42d rfl (by decide) kv _ _ rfl (HF1.out.row.alloc _) ⟨V1.heap.size, 0, none⟩ 1 1 x.cells rfl rfl ?c1 ?c2 ?c3 ?c4 ?c5 ?_)
            | fail)
          case c1 =>
            intro j u hj
            rw [addr_add]
            exact cell_new.trans (by simpa [Ck.cells] using hj)
          case c2 => intro u hu; simp [Ck.cells] at hu; rcases hu with rfl | rfl | rfl <;> rfl
          case c3 => have := leaveOut_le (cks.take q) l 0; simp only [List.length_take] at this; unfold maxLen; omega
          case c4 => have := leaveOut_le (cks.take q) l 0; simp only [List.length_take] at this; omega
          case c5 => have := HF1.out.sz; simp; omega
          intro v' w1 hown hgrow _
          obtain ⟨g', cap', rfl⟩ := ownsRow_succ hown
          have hkeep : w1.heap[Bt]? = V1.heap[Bt]? := (hgrow.block Bt (by simp; omega) (fun e => by have := (HF1.out.row.lt Bt e.symm).1; have := HF1.out.lb; omega)).trans (heap_alloc_old _ _ z6)
          have w5 : w1.cell? ⟨Bt, 5, none⟩ = some kv := (World.cell?_of_block (w := V1) (a := ⟨Bt, 5, none⟩) hkeep).trans z4
          have wf : w1.frozen? ⟨Bt, 5, none⟩ = false := blk_frozen (hkeep.trans HF1.out.bt) 5
          have hP := HF1.out.push hown hgrow
          have HP := Lib.hid hP
          clear hown hgrow hP hkeep y0 y1 y2 z1 z2 z3
          go_wp2_with fail
          go_roundg (cks.length - (q + 1))
          case measure => rw [HGK.out]; omega
          case rel => exact ⟨q + 1, _, by omega, rfl, by go_num, by rw [HST.out, HCO.out]; exact HP.out⟩
      · have hql : cks.take q = cks := by rw [show q = cks.length by omega, List.take_length]
        rw [hql] at HF
        have e0 : wr.cell? ⟨Bt, 0, none⟩ = some (.slice sa sl sc) := blk_cell HF.out.bt
        have e1 : wr.cell? ⟨Bt, 1, none⟩ = some (.int .i64 w0) := blk_cell HF.out.bt
        have e2 : wr.cell? ⟨Bt, 2, none⟩ = some (.int .i64 c0) := blk_cell HF.out.bt
        have e3 : wr.cell? ⟨Bt, 3, none⟩ = some (.int .i64 c1) := blk_cell HF.out.bt
        have e4 : wr.cell? ⟨Bt, 4, none⟩ = some (.int .i64 c2) := blk_cell HF.out.bt
        have e5 : wr.cell? ⟨Bt, 5, none⟩ = some kv := blk_cell HF.out.bt
        have e6 : wr.cell? ⟨Bt, 6, none⟩ = some (.int .i64 r0) := blk_cell HF.out.bt
        have e7 : wr.cell? ⟨Bt, 7, none⟩ = some (.map (some M)) := blk_cell HF.out.bt
        have e8 : wr.cell? ⟨Bt, 8, none⟩ = some (.slice none 0 0) := blk_cell HF.out.bt
        clear hql u5
        go_wp2_with (go_at_call 95; refine (whole_any ⟨sts, w0, c0, c1, c2, leaveOut l 0 cks, r0⟩ (.slice sa sl sc) kv (.map (some M)) (.slice none 0 0) wr).mono ?_; rintro e w' ⟨rfl, hw'⟩; have HW := Lib.hid hw'; clear hw')
        have hw2 := HW.out
        obtain ⟨b', hb'⟩ : ∃ b' : Bk, (⟨sts, w0, c0, c1, c2, leaveOut l 0 cks, r0⟩ : Bk) = b' := ⟨_, rfl⟩
        have hX0 : w'.heap[wr.heap.size]? = some (.cells (b'.cells9 (.slice sa sl sc) kv (.map (some M)) (.slice none 0 0)).toArray 79) := by rw [hw2, ← hb']; exact World.alloc_heap_new _ _
        have hXz : w'.heap.size = wr.heap.size + 1 := by rw [hw2]; simp
        have hXF := HF.out.alloc (.cells ((⟨sts, w0, c0, c1, c2, leaveOut l 0 cks, r0⟩ : Bk).cells9 (.slice sa sl sc) kv (.map (some M)) (.slice none 0 0)).toArray 79)
        rw [← hw2] at hXF
        have HXF := Lib.hid hXF
        have HWZ := Lib.hid (show n0 ≤ wr.heap.size from HF.out.sz)
        have HX0 := Lib.hid hX0
        have HXZ := Lib.hid hXz
        have HB' := Lib.hid hb'
        clear hw2 hX0 hXz hXF HW hb' HF e0 e1 e2 e3 e4 e5 e6 e7 e8
        refine wpIn_wide.1 (range_any (V := V) (b := b') (s := .slice sa sl sc) (kv := kv) (n := w'.heap.size) (M := M) (Bt := Bt) (Bb := wr.heap.size) (N := 20001) ?_ ?_ ?_ ?_ rfl ?_ ?_ ?_ ?_ ?_ ?_ ?_)
        · exact HB'.out ▸ HBG.out
        · rw [← HB'.out]; show 0 < sts.length; rw [show sts.length = sl by obtain ⟨_, _, e, _⟩ := HS.out; injection e with _ h _; simpa [stCells] using h.symm]; exact HL0.out
        · rw [← HB'.out]; exact HWT.out
        · exact HB'.out ▸ HNN.out
        · intro l1 hl1 _ w1 hb1 hlw
          have hF := HXF.out
          have hX := HX0.out
          rw [← HB'.out] at hX ⊢
          exact Fil.env (b := ⟨sts, w0, c0, c1, c2, leaveOut l 0 cks, r0⟩) ⟨hF.bt, hF.map, hF.row, hF.old, hF.sz, hF.lb, hF.lm, hF.vb, hF.v0⟩ HGV.out (show n ≤ V.heap.size by omega) (HS.out.below hn HBV.out) (by omega) HWZ.out hX hl1 hb1 hlw
        · rw [← HB'.out]; exact HXF.out.bt
        · exact HXF.out.old
        · exact ⟨HVM.out, by have := HXF.out.lm; have := HXF.out.sz; omega⟩
        · exact HXF.out.vb
        · intro r hst hpd pre t Wr hacc hlen
          obtain ⟨tv, hbt, hrow⟩ := hacc.bt
          have t8 : Wr.cell? ⟨Bt, 8, none⟩ = some tv := blk_cell hbt
          have tf : Wr.frozen? ⟨Bt, 8, none⟩ = false := blk_frozen hbt 8
          have HACC := Lib.hid hacc
          have HBT := Lib.hid hbt
          have HROW := Lib.hid hrow
          clear hacc hbt hrow
          simp only [Tr.cells]
          gi_wp2_with (rw [Oper.semAt_eq _ _ _ (fun c h => by cases h)]; go_simp; try go_bits)
          have hlr := (Array.getElem?_eq_some_iff.1 HACC.out.L).1
          have hBW := (Array.getElem?_eq_some_iff.1 HBT.out).1
          have hbr := run_beginRound (P := Tryd.prog) (w := Wr.alloc (.cells #[.int .i64 t.w, .int .i64 t.a0, .int .i64 t.a1, .int .i64 t.a2, .int .i64 t.b0, .int .i64 t.b1, .int .i64 t.b2] 87)) ((heap_alloc_old _ _ hlr).trans HACC.out.L) hst
          obtain ⟨Wx, hWx⟩ : ∃ Wx, (Wr.alloc (.cells #[.int .i64 t.w, .int .i64 t.a0, .int .i64 t.a1, .int .i64 t.a2, .int .i64 t.b0, .int .i64 t.b1, .int .i64 t.b2] 87)).putObj (w'.heap.size + 1) (.loop { r with state := .busy }) = Wx := ⟨_, rfl⟩
          rw [hWx] at hbr
          refine ⟨Wx, hbr, ?_⟩
          have hBl : Bt < w'.heap.size := by have := HXF.out.lb; have := HXF.out.sz; omega
          have hsz := HACC.out.sz
          have hBx : Wx.heap[Bt]? = some (.cells (b'.cells9 (.slice sa sl sc) kv (.map (some M)) tv).toArray 79) := by rw [← hWx]; exact (World.putObj_heap_other (by omega)).trans ((heap_alloc_old _ _ hBW).trans HBT.out)
          have hTx : Wx.heap[Wr.heap.size]? = some (.cells #[.int .i64 t.w, .int .i64 t.a0, .int .i64 t.a1, .int .i64 t.a2, .int .i64 t.b0, .int .i64 t.b1, .int .i64 t.b2] 87) := by rw [← hWx]; exact (World.putObj_heap_other (by omega)).trans (World.alloc_heap_new _ _)
          have hRx : Wx.ownsRow (w'.heap.size + 2) 87 7 tv pre.length (pre.flatMap Tr.cells) := ownsRow_same (HROW.out.alloc _) fun g hg => by rw [← hWx]; exact World.putObj_heap_other (by have := (HROW.out.lt g hg).1; omega)
          have hzx : Wx.heap.size = Wr.heap.size + 1 := by rw [← hWx]; simp
          have b8 : Wx.cell? ⟨Bt, 8, none⟩ = some tv := blk_cell hBx
          have x0 : Wx.cell? ⟨Wr.heap.size, 0, none⟩ = some (.int .i64 t.w) := blk_cell hTx
          have x1 : Wx.cell? ⟨Wr.heap.size, 1, none⟩ = some (.int .i64 t.a0) := blk_cell hTx
          have x2 : Wx.cell? ⟨Wr.heap.size, 2, none⟩ = some (.int .i64 t.a1) := blk_cell hTx
          have x3 : Wx.cell? ⟨Wr.heap.size, 3, none⟩ = some (.int .i64 t.a2) := blk_cell hTx
          have x4 : Wx.cell? ⟨Wr.heap.size, 4, none⟩ = some (.int .i64 t.b0) := blk_cell hTx
          have x5 : Wx.cell? ⟨Wr.heap.size, 5, none⟩ = some (.int .i64 t.b1) := blk_cell hTx
          have x6 : Wx.cell? ⟨Wr.heap.size, 6, none⟩ = some (.int .i64 t.b2) := blk_cell hTx
          have x7 : Bt < Wx.heap.size := by omega
          have x8 : Wr.heap.size < Wx.heap.size := by omega
          have HWX := Lib.hid hWx
          have HBX := Lib.hid hBx
          have HRX := Lib.hid hRx
          have HZX := Lib.hid hzx
          have HST := Lib.hid hst
          have HPD := Lib.hid hpd
          clear hbr hWx hBx hTx hRx hzx t8 tf hst hpd
          gi_wp2_with (first
            | (gi_at_builtin; refine wpListIn_append_own_at _ rfl (.tmp 41) (.tmp 43) 77 rfl (w'.heap.size + 2) 87 i87 _ 7 56 Tryd.underlying77 i87a i87b i87c i87d rfl (by decide) tv _ _ rfl (HRX.out.alloc _) ⟨Wx.heap.size, 0, none⟩ 1 1 t.cells rfl rfl ?c1 ?c2 ?c3 ?c4 ?c5 ?_)
            | (rw [Oper.semAt_eq _ _ _ (fun c h => by cases h)]; go_simp; try go_bits))
          case c1 =>
            intro j u hj
            rw [addr_add]
            exact cell_new.trans (by simpa [Tr.cells] using hj)
          case c2 => intro u hu; simp [Tr.cells] at hu; rcases hu with rfl | rfl | rfl | rfl | rfl | rfl | rfl <;> rfl
          case c3 => unfold maxLen; omega
          case c4 => omega
          case c5 => have := HZX.out; simp; omega
          intro v' w3 hown hgrow _ hat
          obtain ⟨g', cap', rfl⟩ := ownsRow_succ hown
          have hE := round_end HACC.out HST.out HPD.out (by omega) (by omega) (by omega) HBT.out HROW.out HWX.out hown hgrow (by simpa using hat)
          have hkeep : w3.heap[Bt]? = Wx.heap[Bt]? := (hgrow.block Bt (by simp; omega) (fun e => by have := (HRX.out.lt Bt e.symm).1; omega)).trans (heap_alloc_old _ _ x7)
          have w8 : w3.cell? ⟨Bt, 8, none⟩ = some tv := (World.cell?_of_block (w := Wx) (a := ⟨Bt, 8, none⟩) hkeep).trans b8
          have wf : w3.frozen? ⟨Bt, 8, none⟩ = false := blk_frozen (hkeep.trans HBX.out) 8
          have HE := Lib.hid hE
          clear hE hown hgrow hat hkeep b8 x0 x1 x2 x3 x4 x5 x6
          gi_wp2_with (rw [Oper.semAt_eq _ _ _ (fun c h => by cases h)]; go_simp; try go_bits)
          exact HE.out
        · intro W2 tv hD hbW hrow hVW _
          obtain ⟨ta, tm, tc, rfl⟩ := ownsRow_slice hrow
          obtain ⟨ya, ym, yc, rfl⟩ := ownsRow_slice HXF.out.row
          have hR0 : W2.heap[W.heap.size + 1]? = some zero79 := (hVW.block _ (by omega)).trans HZ79.out
          rw [← HB'.out] at hbW
          have e0 : W2.cell? ⟨Bt, 0, none⟩ = some (.slice sa sl sc) := blk_cell hbW
          have s0 : W2.cell? ⟨W.heap.size + 1, 0, none⟩ = some (.slice none 0 0) := blk_cell hR0
          have f0 := blk_frozen hR0 0
          have e1 : W2.cell? ⟨Bt, 1, none⟩ = some (.int .i64 w0) := blk_cell hbW
          have s1 : W2.cell? ⟨W.heap.size + 1, 1, none⟩ = some (.int .i64 0) := blk_cell hR0
          have f1 := blk_frozen hR0 1
          have e2 : W2.cell? ⟨Bt, 2, none⟩ = some (.int .i64 c0) := blk_cell hbW
          have s2 : W2.cell? ⟨W.heap.size + 1, 2, none⟩ = some (.int .i64 0) := blk_cell hR0
          have f2 := blk_frozen hR0 2
          have e3 : W2.cell? ⟨Bt, 3, none⟩ = some (.int .i64 c1) := blk_cell hbW
          have s3 : W2.cell? ⟨W.heap.size + 1, 3, none⟩ = some (.int .i64 0) := blk_cell hR0
          have f3 := blk_frozen hR0 3
          have e4 : W2.cell? ⟨Bt, 4, none⟩ = some (.int .i64 c2) := blk_cell hbW
          have s4 : W2.cell? ⟨W.heap.size + 1, 4, none⟩ = some (.int .i64 0) := blk_cell hR0
          have f4 := blk_frozen hR0 4
          have e5 : W2.cell? ⟨Bt, 5, none⟩ = some (.slice ya ym yc) := blk_cell hbW
          have s5 : W2.cell? ⟨W.heap.size + 1, 5, none⟩ = some (.slice none 0 0) := blk_cell hR0
          have f5 := blk_frozen hR0 5
          have e6 : W2.cell? ⟨Bt, 6, none⟩ = some (.int .i64 r0) := blk_cell hbW
          have s6 : W2.cell? ⟨W.heap.size + 1, 6, none⟩ = some (.int .i64 0) := blk_cell hR0
          have f6 := blk_frozen hR0 6
          have e7 : W2.cell? ⟨Bt, 7, none⟩ = some (.map (some M)) := blk_cell hbW
          have s7 : W2.cell? ⟨W.heap.size + 1, 7, none⟩ = some (.map none) := blk_cell hR0
          have f7 := blk_frozen hR0 7
          have e8 : W2.cell? ⟨Bt, 8, none⟩ = some (.slice ta tm tc) := blk_cell hbW
          have s8 : W2.cell? ⟨W.heap.size + 1, 8, none⟩ = some (.slice none 0 0) := blk_cell hR0
          have f8 := blk_frozen hR0 8
          have HD := Lib.hid hD
          have HROW := Lib.hid hrow
          have HVW := Lib.hid hVW
          have HR0 := Lib.hid hR0
          clear hD hrow hVW hR0 hbW
          go_wp2
          have hst := stored9 HR0.out (.slice sa sl sc) (.int .i64 w0) (.int .i64 c0) (.int .i64 c1) (.int .i64 c2) (.slice ya ym yc) (.int .i64 r0) (.map (some M)) (.slice ta tm tc)
          have HST := Lib.hid hst
          clear hst
          generalize (((((((((W2.setCell ⟨W.heap.size + 1, 0, none⟩ (.slice sa sl sc)).setCell ⟨W.heap.size + 1, 1, none⟩ (.int .i64 w0)).setCell ⟨W.heap.size + 1, 2, none⟩ (.int .i64 c0)).setCell ⟨W.heap.size + 1, 3, none⟩ (.int .i64 c1)).setCell
            ⟨W.heap.size + 1, 4, none⟩ (.int .i64 c2)).setCell ⟨W.heap.size + 1, 5, none⟩ (.slice ya ym yc)).setCell ⟨W.heap.size + 1, 6, none⟩ (.int .i64 r0)).setCell ⟨W.heap.size + 1, 7, none⟩ (.map (some M))).setCell ⟨W.heap.size + 1, 8, none⟩ (.slice ta tm tc)) = W3 at HST ⊢
          have hxz := HXF.out.sz
          have hDz := (Array.getElem?_eq_some_iff.1 HD.out).1
          have hD3 : W3.heap[w'.heap.size]? = some (.deferred (some [])) := (HST.out.same _ (by have := HXF.out.v0; omega)).trans HD.out
          refine ⟨by simp, .inl ⟨_, _, rfl, run_takeDeferred hD3, ?_⟩⟩
          generalize hW5 : W3.putObj w'.heap.size (.deferred none) = W5
          have h5 : ∀ k, k ≠ w'.heap.size → W5.heap[k]? = W3.heap[k]? := fun k hk => by rw [← hW5]; exact World.putObj_heap_other hk
          have hR5 := (h5 (W.heap.size + 1) (by have := HXF.out.v0; omega)).trans HST.out.cells
          have k0 : W5.cell? ⟨W.heap.size + 1, 0, none⟩ = some (.slice sa sl sc) := blk_cell hR5
          have k1 : W5.cell? ⟨W.heap.size + 1, 1, none⟩ = some (.int .i64 w0) := blk_cell hR5
          have k2 : W5.cell? ⟨W.heap.size + 1, 2, none⟩ = some (.int .i64 c0) := blk_cell hR5
          have k3 : W5.cell? ⟨W.heap.size + 1, 3, none⟩ = some (.int .i64 c1) := blk_cell hR5
          have k4 : W5.cell? ⟨W.heap.size + 1, 4, none⟩ = some (.int .i64 c2) := blk_cell hR5
          have k5 : W5.cell? ⟨W.heap.size + 1, 5, none⟩ = some (.slice ya ym yc) := blk_cell hR5
          have k6 : W5.cell? ⟨W.heap.size + 1, 6, none⟩ = some (.int .i64 r0) := blk_cell hR5
          have k7 : W5.cell? ⟨W.heap.size + 1, 7, none⟩ = some (.map (some M)) := blk_cell hR5
          have k8 : W5.cell? ⟨W.heap.size + 1, 8, none⟩ = some (.slice ta tm tc) := blk_cell hR5
          refine ⟨.agg #[.slice sa sl sc, .int .i64 w0, .int .i64 c0, .int .i64 c1, .int .i64 c2, .slice ya ym yc, .int .i64 r0, .map (some M), .slice ta tm tc], ?_, ya, ym, yc, M, .slice ta tm tc, rfl, ?_, ?_, fun g hg => by have := (HROW.out.lt g hg).1; have := HXF.out.v0; have := HXF.out.sz; omega⟩
          · simp [results, Tryd.results64, go_sem, k0, k1, k2, k3, k4, k5, k6, k7, k8]
          · have hvw := HVW.out
            have hw2 : Below W.heap.size W W2 := HBV.out.trans (hvw.mono (by omega))
            exact ⟨by rw [← hW5]; exact HST.out.os.trans hw2.os, by rw [← hW5]; exact HST.out.tape.trans hw2.tape, by rw [← hW5]; exact HST.out.output.trans hw2.output, by rw [← hW5]; simp [HST.out.size]; exact hw2.size,
              fun k hk => (h5 k (by have := HXF.out.v0; omega)).trans ((HST.out.same k (by omega)).trans (hw2.block k hk))⟩
          · have hrow := HROW.out
            have hrow5 : W5.ownsRow (w'.heap.size + 2) 87 7 (.slice ta tm tc) (truths b').length ((truths b').flatMap Tr.cells) := ownsRow_same hrow fun g hg => by
              have := (hrow.lt g hg).1
              have := HXF.out.v0
              exact (h5 g (by omega)).trans (HST.out.same g (by omega))
            rw [trCells_flat] at hrow5
            have := SlOf.own (rows := trCells (truths b')) (by simpa [trCells] using hrow5) (trCells_len _)
            rw [← HB'.out] at this
            exact this
  clear aK
  go_region
  · have zz := Z1.out
    have p := HP1.out
    refine hkey _ _ _ ((heap_alloc_old _ _ (by omega)).trans p.map) (World.alloc_heap_new _ _) (p.below (((Below.refl _ V).alloc (Nat.le_refl _) _).drew) (Nat.le_refl _) |>.alloc (by omega) _) (Nat.le_refl _) (by omega)
  · have zz := Z3.out
    have p := HP3.out
    have hc : X3.heap[V.heap.size + 1]? = some zero79 := (p.old _ (by omega)).trans (by have := World.alloc_heap_new (V.alloc (.map #[] 0)) zero79; rw [World.size_alloc] at this; exact this)
    have hst := stored9 hc (.slice sa sl sc) (.int .i64 w0) (.int .i64 c0) (.int .i64 c1) (.int .i64 c2) (.slice ka cks.length kc) (.int .i64 r0) (.map (some V.heap.size)) (.slice none 0 0)
    have hbl := p.below ((((Below.refl _ V).alloc (Nat.le_refl _) _).alloc (by simp) _).drew) (Nat.le_refl _)
    refine hkey _ _ _ ((hst.same _ (by omega)).trans p.map) hst.cells (hst.below hbl (by omega)) (Nat.le_refl _) (by omega)
  · have zz := Z2.out
    have p := HP2.out
    have hc : X2.heap[V.heap.size]? = some zero79 := (p.old _ (by omega)).trans ((heap_alloc_old _ _ (by simp)).trans (World.alloc_heap_new _ _))
    have hst := stored9 hc (.slice sa sl sc) (.int .i64 w0) (.int .i64 c0) (.int .i64 c1) (.int .i64 c2) (.slice ka cks.length kc) (.int .i64 r0) (.map (some (V.heap.size + 1))) (.slice none 0 0)
    have hbl := p.below ((((Below.refl _ V).alloc (Nat.le_refl _) _).alloc (by simp) _).drew) (by omega)
    refine hkey _ _ _ ((hst.same _ (by omega)).trans p.map) hst.cells (hst.below hbl (by omega)) (by omega) (Nat.le_refl _)
end Go.Proofs.YtbhjfojbjpbdbaaDoor
