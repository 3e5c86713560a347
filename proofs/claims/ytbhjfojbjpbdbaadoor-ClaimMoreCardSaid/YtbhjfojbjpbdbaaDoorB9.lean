/-
  The contract of the law's without: a book without some of its clocks. Written by this session; printed by wip/tools/b9.py.
-/
import Derived.Test.YtbhjfojbjpbdbaaDoorK8
import Derived.Test.YtbhjfojbjpbdbaaDoorS54
namespace Go.Proofs.YtbhjfojbjpbdbaaDoor
open Go.RowKit

theorem leave_step (l : List Nat) (cks : List Ck) (q : Nat) (c : Ck) (hc : cks[q]? = some c) : leaveOut l 0 (cks.take (q + 1)) = leaveOut l 0 (cks.take q) ++ (if l.contains q then [] else [c]) := by
  have hq := (List.getElem?_eq_some_iff.1 hc).1
  rw [List.take_add_one, hc, leaveOut_append]
  congr 1
  rw [List.length_take, Nat.min_eq_left (by omega)]
  simp only [Option.toList_some, leaveOut, Nat.zero_add]

set_option maxRecDepth 100000 in
set_option maxHeartbeats 8000000 in
theorem without_any (W : World) (b : Bk) (n : Nat) (sa ka : Option Addr) (n1 sc n2 kc : Nat) (hv : BookW W n sa ka n1 sc n2 kc b) (h4 : n2 ≤ 4) (lv : Value) (l : List Nat) (hl : SlOf W W.heap.size 1 lv (natCells l)) :
    Calls Tryd.prog 57 #[.agg (b.cells (.slice sa n1 sc) (.slice ka n2 kc)).toArray, lv] W fun e W' => ∃ (a : Option Addr) (m c : Nat), e = .returned (.agg ((b.but l).cells (.slice sa n1 sc) (.slice a m c)).toArray) ∧ Below W.heap.size W W' ∧ BookW W' W'.heap.size sa a n1 sc m c (b.but l) := by
  obtain ⟨V, hV⟩ : ∃ V, (W.alloc (Obj.cells #[.slice sa n1 sc, .int .i64 b.wth, .int .i64 b.c0, .int .i64 b.c1, .int .i64 b.c2, .slice ka n2 kc, .int .i64 b.rate] 26)).alloc (.cells #[.slice none 0 0, .int .i64 0, .int .i64 0, .int .i64 0, .int .i64 0, .slice none 0 0, .int .i64 0] 26) = V := ⟨_, rfl⟩
  have hBV : Below W.heap.size W V := by rw [← hV]; exact ((Below.refl _ _).alloc (Nat.le_refl _) _).alloc (by simp) _
  have hb0 : V.heap[W.heap.size]? = some (Obj.cells #[.slice sa n1 sc, .int .i64 b.wth, .int .i64 b.c0, .int .i64 b.c1, .int .i64 b.c2, .slice ka n2 kc, .int .i64 b.rate] 26) := by rw [← hV]; exact (heap_alloc_old _ _ (by simp)).trans (World.alloc_heap_new _ _)
  have hVz : W.heap.size < V.heap.size := (Array.getElem?_eq_some_iff.1 hb0).1
  have HVB := Lib.hid (hv.below hv.hn hBV)
  have HN := Lib.hid hv.hn
  have c0 : V.cell? ⟨W.heap.size, 0, none⟩ = some (.slice sa n1 sc) := blk_cell hb0
  have c1 : V.cell? ⟨W.heap.size, 1, none⟩ = some (.int .i64 b.wth) := blk_cell hb0
  have c2 : V.cell? ⟨W.heap.size, 2, none⟩ = some (.int .i64 b.c0) := blk_cell hb0
  have c3 : V.cell? ⟨W.heap.size, 3, none⟩ = some (.int .i64 b.c1) := blk_cell hb0
  have c4 : V.cell? ⟨W.heap.size, 4, none⟩ = some (.int .i64 b.c2) := blk_cell hb0
  have c5 : V.cell? ⟨W.heap.size, 5, none⟩ = some (.slice ka n2 kc) := blk_cell hb0
  have c6 : V.cell? ⟨W.heap.size, 6, none⟩ = some (.int .i64 b.rate) := blk_cell hb0
  have hi0 : V.heap[W.heap.size + 1]? = some (.cells #[.slice none 0 0, .int .i64 0, .int .i64 0, .int .i64 0, .int .i64 0, .slice none 0 0, .int .i64 0] 26) := by rw [← hV]; have := World.alloc_heap_new (W.alloc (Obj.cells #[.slice sa n1 sc, .int .i64 b.wth, .int .i64 b.c0, .int .i64 b.c1, .int .i64 b.c2, .slice ka n2 kc, .int .i64 b.rate] 26)) (.cells #[.slice none 0 0, .int .i64 0, .int .i64 0, .int .i64 0, .int .i64 0, .slice none 0 0, .int .i64 0] 26); rwa [World.size_alloc] at this
  have hVx : W.heap.size + 1 < V.heap.size := (Array.getElem?_eq_some_iff.1 hi0).1
  have HI0 := Lib.hid hi0
  have HLV := Lib.hid (show ∀ w, Below V.heap.size V w → SlOf w W.heap.size 1 lv (natCells l) from fun w h => hl.below (Nat.le_refl _) (hBV.trans (h.mono hBV.size)))
  obtain ⟨i42, i42a, i42b, i42c, i42d⟩ := info_parts info42
  clear hi0 hl
  have HB0 := Lib.hid hb0
  have BZ := Lib.hid (show ∀ w, Below V.heap.size V w → BookW w n sa ka n1 sc n2 kc b from fun w h => HVB.out.below HVB.out.hn h)
  have HX := Lib.hid (Below.refl V.heap.size V)
  have hn1 : n1 ≤ 9223372036854775807 := by obtain ⟨_, _, e, h1, h2, _⟩ := hv.hs; injection e with _ e2 _; unfold maxLen at h2; omega
  have HL1 := Lib.hid hv.l1
  have HL2 := Lib.hid hv.l2
  clear hb0 hv
  simp only [Bk.cells]
  go_enter Tryd.func57, Tryd.ntmps57
  go_upto_region 1 with fail
  try rw [hV]
  clear hV
  go_upto_region 2 with fail
  obtain ⟨X, hX⟩ : ∃ X, V.alloc (Obj.cells #[.slice sa n1 sc, .int .i64 b.wth, .int .i64 b.c0, .int .i64 b.c1, .int .i64 b.c2, .slice ka n2 kc, .int .i64 b.rate] 26) = X := ⟨_, rfl⟩
  have hqx : X.heap[V.heap.size]? = some (Obj.cells #[.slice sa n1 sc, .int .i64 b.wth, .int .i64 b.c0, .int .i64 b.c1, .int .i64 b.c2, .slice ka n2 kc, .int .i64 b.rate] 26) := by rw [← hX]; exact World.alloc_heap_new _ _
  have hbx : Below V.heap.size V X := by rw [← hX]; exact (Below.refl _ _).alloc (Nat.le_refl _) _
  have hsx : X.heap.size = V.heap.size + 1 := by rw [← hX]; simp
  rw [hX]
  obtain ⟨P5, hP5⟩ : ∃ P, V.heap.size = P := ⟨_, rfl⟩
  rw [hP5] at hqx hsx ⊢
  have w5 : X.cell? ⟨P5, 5, none⟩ = some (.slice ka n2 kc) := blk_cell hqx
  have w5f := blk_frozen hqx 5
  have hq2 := blk_set (j := 5) (v := .slice none 0 0) hqx
  have hb2 : Below V.heap.size V (X.setCell ⟨P5, 5, none⟩ (.slice none 0 0)) := hbx.setCell (by rw [← hP5]; exact Nat.le_refl _) _
  have HQ2 := Lib.hid hq2
  have HB2 := Lib.hid hb2
  have HSX := Lib.hid (show (X.setCell ⟨P5, 5, none⟩ (.slice none 0 0)).heap.size = P5 + 1 by rw [← hsx]; simp [World.setCell])
  have HPV := Lib.hid hP5
  have hVP : V.heap.size ≤ P5 := by rw [← hP5]; exact Nat.le_refl _
  have C0 := Lib.hid c0
  have C5 := Lib.hid c5
  clear hqx hX hbx hP5 hq2 hb2 hsx c0 c1 c2 c3 c4 c5 c6
  go_wp2_with fail
  go_loopg [6] n2 (fun n0 i wx => ∃ (q : Nat) (a : Option Addr) (m c : Nat), q ≤ n2 ∧ n0 = n2 - q ∧ i = .int .i64 (q : Int) ∧ Below V.heap.size V wx ∧ P5 + 1 ≤ wx.heap.size ∧ wx.heap[P5]? = some (.cells #[.slice sa n1 sc, .int .i64 b.wth, .int .i64 b.c0, .int .i64 b.c1, .int .i64 b.c2, .slice a m c, .int .i64 b.rate] 26) ∧ m = (leaveOut l 0 (b.cks.take q)).length ∧ wx.ownsRow (P5 + 1) 42 3 (.slice a m c) m (ckCells (leaveOut l 0 (b.cks.take q))).flatten)
  case atStart => exact ⟨0, none, 0, 0, by omega, rfl, rfl, HB2.out, by rw [HSX.out]; exact Nat.le_refl _, HQ2.out, rfl, World.ownsRow_nil _ _ _ _⟩
  case round =>
    clear w5 w5f
    obtain ⟨q, a, m, c, hq, hgk, rfl, hbv, hsz, hp5, hm, hown⟩ := hrel
    have HG2 := Lib.hid hgk
    have HX := Lib.hid hbv
    have HSZ := Lib.hid hsz
    have HP5 := Lib.hid hp5
    have HM := Lib.hid hm
    have HOW := Lib.hid hown
    have c5w : wr.cell? ⟨W.heap.size, 5, none⟩ = some (.slice ka n2 kc) := (hbv.cell (p := ⟨W.heap.size, 5, none⟩) hVz).trans C5.out
    have p55 : wr.cell? ⟨P5, 5, none⟩ = some (.slice a m c) := blk_cell hp5
    have lwP : W.heap.size < P5 + 1 := by omega
    clear hgk hbv hsz hp5 hm hown
    by_cases hqn : q < n2
    · have hqi : (q : Int) < (n2 : Int) := by omega
      obtain ⟨x, hx⟩ : ∃ x, b.cks[q]? = some x := ⟨_, List.getElem?_eq_getElem (by have := HL2.out; omega)⟩
      have hst := leave_step l b.cks q x hx
      have HXX := Lib.hid hx
      by_cases hin : l.contains q = true
      · rw [if_pos hin, List.append_nil] at hst
        have HST := Lib.hid hst
        have HIN := Lib.hid hin
        clear hst hin hx
        go_wp2_with (first
          | (go_at_call 91; refine (place_any _ lv l W.heap.size q (HLV.out _ HX.out)).mono ?_; rintro e w1 ⟨⟨r, rfl, hr⟩, rfl⟩; have hr0 : ¬ r < 0 := by (have := hr.2 HIN.out); omega)
          | fail)
        go_roundg (n2 - (q + 1))
        case measure => rw [HG2.out]; omega
        case rel => exact ⟨q + 1, a, m, c, by omega, rfl, by go_num, HX.out, HSZ.out, HP5.out, by rw [HST.out]; exact HM.out, by rw [HST.out]; exact HOW.out⟩
      · have hinf : l.contains q = false := by simpa using hin
        rw [if_neg hin] at hst
        have HST := Lib.hid hst
        have HIN := Lib.hid hinf
        obtain ⟨_, cap, e, hs1, hs2, hs3, hs4⟩ := (BZ.out _ HX.out).hk
        injection e with e1 e2 e3
        subst e1
        clear e2 e3
        obtain ⟨g, o, hka, hg, hcs⟩ := sl_at hs4 (show (ckCells b.cks)[q]? = some x.cells by simp [ckCells, hx])
        subst hka
        have r0 : wr.cell? ⟨g, o + q * 3, none⟩ = some (.int .i64 x.st) := hcs 0 _ rfl
        have r1 : wr.cell? ⟨g, o + q * 3 + 1, none⟩ = some (.int .i64 x.rd) := hcs 1 _ rfl
        have r2 : wr.cell? ⟨g, o + q * 3 + 2, none⟩ = some (.int .i64 x.er) := hcs 2 _ rfl
        have lgP : g < P5 + 1 := by have := HN.out; omega
        have hml : m ≤ 4 := by
          have h1 := leaveOut_len (b.cks.take q) l 0
          have h2 := HM.out
          have h3 := HL2.out
          rw [List.length_take] at h1
          omega
        clear hst hin hinf hx hcs hs1 hs2 hs3 hs4 hg
        go_upto_region 7 with (first
          | (go_at_call 91; refine (place_any _ lv l W.heap.size q (HLV.out _ HX.out)).mono ?_; rintro e w1 ⟨⟨r, rfl, hr⟩, rfl⟩; have hr0 : r < 0 := by (rcases Int.lt_or_le r 0 with h | h; exact h; (have h2 := hr.1 h; rw [HIN.out] at h2; cases h2)))
          | fail)
        obtain ⟨W1, hW1⟩ : ∃ W1, wr.drew.alloc (.cells #[.int .i64 x.st, .int .i64 x.rd, .int .i64 x.er] 42) = W1 := ⟨_, rfl⟩
        have hB1 : Below wr.heap.size wr W1 := by rw [← hW1]; exact ((Below.refl wr.heap.size wr).drew).alloc (Nat.le_refl _) _
        have hn1' : W1.heap[wr.heap.size]? = some (.cells #[.int .i64 x.st, .int .i64 x.rd, .int .i64 x.er] 42) := by rw [← hW1]; exact World.alloc_heap_new wr.drew _
        have hown1 : W1.ownsRow (P5 + 1) 42 3 (.slice a m c) m (ckCells (leaveOut l 0 (b.cks.take q))).flatten := by rw [← hW1]; exact HOW.out.alloc (w := wr.drew) _
        obtain ⟨v', W2, hrun, hown2, hgr, _⟩ := run_append_own (P := Tryd.prog) W1 (P5 + 1) 24 24 42 i42 _ 3 24 Tryd.underlying24 i42a i42b i42c i42d rfl (by decide) (.slice a m c) m _ hown1 ⟨wr.heap.size, 0, none⟩ 1 1 x.cells rfl
          (fun j u hj => by rw [Go.WideShapes.add_plain, Nat.zero_add, blk_cell hn1']; simpa [Ck.cells] using hj) (by simp [Ck.cells, Value.oneCell']) (by unfold maxLen; omega) (by omega) (Nat.le_trans HSZ.out hB1.size)
        have hBP1 : Below (P5 + 1) wr W1 := hB1.mono HSZ.out
        have hBP2 : Below (P5 + 1) wr W2 := grown_base hBP1 hgr (Nat.le_trans HSZ.out hB1.size) (own_ge hown1)
        obtain ⟨g', cap', rfl⟩ : ∃ g' cap', v' = .slice (some ⟨g', 0, none⟩) (m + 1) cap' := by
          rcases hown2.2 with ⟨_, h0⟩ | ⟨g', cap', _, h1, _⟩
          · omega
          · exact ⟨g', cap', h1⟩
        have hgP : P5 + 1 ≤ g' := own_ge hown2 g' rfl
        obtain ⟨W3, hW3⟩ : ∃ W3, W2.setCell ⟨P5, 5, none⟩ (.slice (some ⟨g', 0, none⟩) (m + 1) cap') = W3 := ⟨_, rfl⟩
        have HW3 := Lib.hid hW3
        have HW1 := Lib.hid hW1
        have HRUN := Lib.hid hrun
        have HOW2 := Lib.hid hown2
        have HBP2 := Lib.hid hBP2
        have HGP := Lib.hid hgP
        have HC := Lib.hid (show ∀ (L : Nat → Bool) (w : World), L 10 = false → w = (if L 10 = true then W3 else if L 8 = true then W2 else if L 7 = true then W1 else wr.drew) → ∀ bl o, bl < P5 + 1 → w.cell? ⟨bl, o, none⟩ = wr.cell? ⟨bl, o, none⟩ from fun L w h hw bl o hbl => by
          rw [hw, if_neg (by simp [h])]
          split
          · exact hBP2.cell (p := ⟨bl, o, none⟩) hbl
          · split
            · exact hBP1.cell (p := ⟨bl, o, none⟩) hbl
            · rfl)
        clear hrun hown2 hBP2 hgP hgr hown1 hn1' hB1 hW1 hW3 hBP1
        refine wp_region_det (S := fun L w => w = (if L 10 = true then W3 else if L 8 = true then W2 else if L 7 = true then W1 else wr.drew)) (by kernel_rfl) (by kernel_rfl) (by simp) ?_
        apply det_cons
        · refine ⟨by rfl, fun L w hN hS => ?_⟩
          have h10 : L 10 = false := (hN.chain (hN.chain (hN.chain hN.free (k := 1) (by kernel_rfl)) (k := 8) (by kernel_rfl)) (k := 10) (by kernel_rfl))
          have hcc := HC.out L w h10 hS
          have HS := Lib.hid hS
          clear hS h10
          go_simp
          exact ⟨rfl, fun L' h1 h2 => by show _ = (if L' 10 = true then _ else if L' 8 = true then _ else if L' 7 = true then _ else _); rw [h2 10 (by decide), h2 8 (by decide), h2 7 (by decide)]; exact HS.out⟩
        try simp only [Act.put, List.setIfInBounds_toArray, List.set_cons_zero, List.set_cons_succ]
        apply det_cons
        · refine ⟨by rfl, fun L w hN hS => ?_⟩
          have h10 : L 10 = false := (hN.chain (hN.chain hN.free (k := 8) (by kernel_rfl)) (k := 10) (by kernel_rfl))
          have hcc := HC.out L w h10 hS
          have HS := Lib.hid hS
          clear hS h10
          go_simp
          exact ⟨rfl, fun L' h1 h2 => by show _ = (if L' 10 = true then _ else if L' 8 = true then _ else if L' 7 = true then _ else _); rw [h2 10 (by decide), h2 8 (by decide), h2 7 (by decide)]; exact HS.out⟩
        try simp only [Act.put, List.setIfInBounds_toArray, List.set_cons_zero, List.set_cons_succ]
        apply det_cons
        · refine ⟨by rfl, fun L w hN hS => ?_⟩
          have h10 : L 10 = false := (hN.chain (hN.chain (hN.chain (hN.chain (hN.chain (hN.chain hN.free (k := 3) (by kernel_rfl)) (k := 5) (by kernel_rfl)) (k := 6) (by kernel_rfl)) (k := 7) (by kernel_rfl)) (k := 8) (by kernel_rfl)) (k := 10) (by kernel_rfl))
          have hcc := HC.out L w h10 hS
          have HS := Lib.hid hS
          clear hS h10
          go_simp
          exact ⟨rfl, fun L' h1 h2 => by show _ = (if L' 10 = true then _ else if L' 8 = true then _ else if L' 7 = true then _ else _); rw [h2 10 (by decide), h2 8 (by decide), h2 7 (by decide)]; exact HS.out⟩
        try simp only [Act.put, List.setIfInBounds_toArray, List.set_cons_zero, List.set_cons_succ]
        apply det_cons
        · refine ⟨by rfl, fun L w hN hS => ?_⟩
          have h10 : L 10 = false := (hN.chain (hN.chain (hN.chain (hN.chain (hN.chain hN.free (k := 5) (by kernel_rfl)) (k := 6) (by kernel_rfl)) (k := 7) (by kernel_rfl)) (k := 8) (by kernel_rfl)) (k := 10) (by kernel_rfl))
          have hcc := HC.out L w h10 hS
          have HS := Lib.hid hS
          clear hS h10
          go_simp
          exact ⟨rfl, fun L' h1 h2 => by show _ = (if L' 10 = true then _ else if L' 8 = true then _ else if L' 7 = true then _ else _); rw [h2 10 (by decide), h2 8 (by decide), h2 7 (by decide)]; exact HS.out⟩
        try simp only [Act.put, List.setIfInBounds_toArray, List.set_cons_zero, List.set_cons_succ]
        apply det_cons
        · refine ⟨by rfl, fun L w hN hS => ?_⟩
          have h10 : L 10 = false := (hN.chain (hN.chain (hN.chain (hN.chain (hN.chain hN.free (k := 5) (by kernel_rfl)) (k := 6) (by kernel_rfl)) (k := 7) (by kernel_rfl)) (k := 8) (by kernel_rfl)) (k := 10) (by kernel_rfl))
          have hcc := HC.out L w h10 hS
          have HS := Lib.hid hS
          clear hS h10
          go_simp
          exact ⟨rfl, fun L' h1 h2 => by show _ = (if L' 10 = true then _ else if L' 8 = true then _ else if L' 7 = true then _ else _); rw [h2 10 (by decide), h2 8 (by decide), h2 7 (by decide)]; exact HS.out⟩
        try simp only [Act.put, List.setIfInBounds_toArray, List.set_cons_zero, List.set_cons_succ]
        apply det_cons
        · refine ⟨by rfl, fun L w hN hS => ?_⟩
          have h10 : L 10 = false := (hN.chain (hN.chain (hN.chain (hN.chain hN.free (k := 6) (by kernel_rfl)) (k := 7) (by kernel_rfl)) (k := 8) (by kernel_rfl)) (k := 10) (by kernel_rfl))
          have hcc := HC.out L w h10 hS
          have HS := Lib.hid hS
          clear hS h10
          go_simp
          exact ⟨rfl, fun L' h1 h2 => by show _ = (if L' 10 = true then _ else if L' 8 = true then _ else if L' 7 = true then _ else _); rw [h2 10 (by decide), h2 8 (by decide), h2 7 (by decide)]; exact HS.out⟩
        try simp only [Act.put, List.setIfInBounds_toArray, List.set_cons_zero, List.set_cons_succ]
        apply det_cons
        · refine ⟨by rfl, fun L w hN hS => ?_⟩
          have h10 : L 10 = false := (hN.chain (hN.chain (hN.chain hN.free (k := 7) (by kernel_rfl)) (k := 8) (by kernel_rfl)) (k := 10) (by kernel_rfl))
          have hcc := HC.out L w h10 hS
          have HS := Lib.hid hS
          clear hS h10
          go_simp
          exact ⟨rfl, fun L' h1 h2 => by show _ = (if L' 10 = true then _ else if L' 8 = true then _ else if L' 7 = true then _ else _); rw [h2 10 (by decide), h2 8 (by decide), h2 7 (by decide)]; exact HS.out⟩
        try simp only [Act.put, List.setIfInBounds_toArray, List.set_cons_zero, List.set_cons_succ]
        apply det_cons
        · refine ⟨by rfl, fun L w hN hS => ?_⟩
          have h10 : L 10 = false := (hN.chain (hN.chain hN.free (k := 8) (by kernel_rfl)) (k := 10) (by kernel_rfl))
          have h8 : L 8 = false := (hN.chain hN.free (k := 8) (by kernel_rfl))
          have h7 : L 7 = false := hN.free
          have hw : w = wr.drew := by rw [hS, if_neg (by simp [h10]), if_neg (by simp [h8]), if_neg (by simp [h7])]
          subst hw
          have H10 := Lib.hid h10
          have H8 := Lib.hid h8
          clear h10 h8 h7 hS
          go_simp
          exact ⟨rfl, fun L' h1 h2 => by show _ = (if L' 10 = true then _ else if L' 8 = true then _ else if L' 7 = true then _ else _); rw [h2 10 (by decide), h2 8 (by decide), h1, if_neg (by simp [H10.out]), if_neg (by simp [H8.out]), if_pos rfl]; exact HW1.out⟩
        try simp only [Act.put, List.setIfInBounds_toArray, List.set_cons_zero, List.set_cons_succ]
        apply det_cons
        · refine ⟨by rfl, fun L w hN hS => ?_⟩
          have h10 : L 10 = false := (hN.chain hN.free (k := 10) (by kernel_rfl))
          have h8 : L 8 = false := hN.free
          have h7 : L 7 = true := hN.was (by kernel_rfl)
          have hw : w = W1 := by rw [hS, if_neg (by simp [h10]), if_neg (by simp [h8]), if_pos h7]
          subst hw
          show Res Tryd.prog (.slice (some ⟨g', 0, none⟩) (m + 1) cap') _ _
          have hr := HRUN.out
          simp [execOp, resolve, invoke, builtin, Act.eval, hr]
          exact ⟨rfl, fun L' h1 h2 => by show _ = (if L' 10 = true then _ else if L' 8 = true then _ else if L' 7 = true then _ else _); rw [h2 10 (by decide), h1, if_neg (by simp [h10]), if_pos rfl]⟩
        try simp only [Act.put, List.setIfInBounds_toArray, List.set_cons_zero, List.set_cons_succ]
        apply det_cons
        · refine ⟨by rfl, fun L w hN hS => ?_⟩
          have h10 : L 10 = false := (hN.chain hN.free (k := 10) (by kernel_rfl))
          have hcc := HC.out L w h10 hS
          have HS := Lib.hid hS
          clear hS h10
          go_simp
          exact ⟨rfl, fun L' h1 h2 => by show _ = (if L' 10 = true then _ else if L' 8 = true then _ else if L' 7 = true then _ else _); rw [h2 10 (by decide), h2 8 (by decide), h2 7 (by decide)]; exact HS.out⟩
        try simp only [Act.put, List.setIfInBounds_toArray, List.set_cons_zero, List.set_cons_succ]
        apply det_cons
        · refine ⟨by rfl, fun L w hN hS => ?_⟩
          have h10 : L 10 = false := hN.free
          have h8 : L 8 = true := hN.was (by kernel_rfl)
          have hw : w = W2 := by rw [hS, if_neg (by simp [h10]), if_pos h8]
          subst hw
          have hq := (HBP2.out.block P5 (Nat.lt_succ_self _)).trans HP5.out
          have q5 : w.cell? ⟨P5, 5, none⟩ = some (.slice a m c) := blk_cell hq
          have q5f : w.frozen? ⟨P5, 5, none⟩ = false := blk_frozen hq 5
          clear hq h10 h8 hS
          go_simp
          exact ⟨rfl, fun L' h1 h2 => by show _ = (if L' 10 = true then _ else if L' 8 = true then _ else if L' 7 = true then _ else _); rw [h1, if_pos rfl]; exact HW3.out⟩
        try simp only [Act.put]
        refine det_nil ?_
        intro L w' hall hS
        have hw : w' = W3 := by rw [hS, if_pos (hall 10 (by decide))]
        subst hw
        clear hS hall
        have hq2 := (HBP2.out.block P5 (Nat.lt_succ_self _)).trans HP5.out
        have hq3 := blk_set (j := 5) (v := .slice (some ⟨g', 0, none⟩) (m + 1) cap') hq2
        have ho3 := Go.RowKit.ownsRow_setCell_below HOW2.out (a := ⟨P5, 5, none⟩) (Nat.lt_succ_self _) (.slice (some ⟨g', 0, none⟩) (m + 1) cap')
        have hs3 : P5 + 1 ≤ (W2.setCell ⟨P5, 5, none⟩ (.slice (some ⟨g', 0, none⟩) (m + 1) cap')).heap.size := by simpa [World.setCell] using Nat.le_trans HSZ.out HBP2.out.size
        have hb3 : Below V.heap.size V (W2.setCell ⟨P5, 5, none⟩ (.slice (some ⟨g', 0, none⟩) (m + 1) cap')) := (HX.out.trans (HBP2.out.mono (by omega))).setCell hVP _
        rw [HW3.out] at hq3 ho3 hs3 hb3
        have hmm : m + 1 = (leaveOut l 0 (b.cks.take (q + 1))).length := by rw [HST.out, List.length_append, ← HM.out]; rfl
        have hrw : (ckCells (leaveOut l 0 (b.cks.take (q + 1)))).flatten = (ckCells (leaveOut l 0 (b.cks.take q))).flatten ++ x.cells := by rw [HST.out]; simp [ckCells]
        have HQ3 := Lib.hid hq3
        have HO3 := Lib.hid ho3
        have HS3 := Lib.hid hs3
        have HB3 := Lib.hid hb3
        have HMM := Lib.hid hmm
        have HRW := Lib.hid hrw
        clear hq2 hq3 ho3 hs3 hb3 hmm hrw
        go_wp2_with fail
        go_roundg (n2 - (q + 1))
        case measure => rw [HG2.out]; omega
        case rel => exact ⟨q + 1, some ⟨g', 0, none⟩, m + 1, cap', by omega, rfl, by go_num, HB3.out, HS3.out, HQ3.out, HMM.out, by rw [HRW.out]; exact HO3.out⟩
    · have hqi : ¬ (q : Int) < (n2 : Int) := by omega
      have hqn2 : q = b.cks.length := by have := HL2.out; omega
      have hfull : leaveOut l 0 (b.cks.take q) = (b.but l).cks := by rw [hqn2, List.take_length]; rfl
      have hsl : SlOf wr wr.heap.size 3 (.slice a m c) (ckCells (b.but l).cks) := by
        have h1 := HOW.out
        have h2 := HM.out
        rw [hfull] at h1 h2
        exact SlOf.own (by rw [show (ckCells (b.but l).cks).length = m by rw [h2]; simp [ckCells]]; exact h1) (fun r hr => by obtain ⟨z, _, rfl⟩ := List.mem_map.1 hr; rfl)
      have hml : m = (b.but l).cks.length := by rw [← hfull]; exact HM.out
      have hi0 : wr.heap[W.heap.size + 1]? = some (.cells #[.slice none 0 0, .int .i64 0, .int .i64 0, .int .i64 0, .int .i64 0, .slice none 0 0, .int .i64 0] 26) := (HX.out.block _ hVx).trans HI0.out
      have hgo : ∀ g o len cap, Value.slice a m c = .slice (some ⟨g, o, none⟩) len cap → g ≠ W.heap.size + 1 := fun g o len cap e => by
        injection e with e1 _ _
        have := own_ge HOW.out g (by rw [e1]; rfl)
        omega
      have p50 : wr.cell? ⟨P5, 0, none⟩ = some (.slice sa n1 sc) := blk_cell HP5.out
      have p51 : wr.cell? ⟨P5, 1, none⟩ = some (.int .i64 b.wth) := blk_cell HP5.out
      have p52 : wr.cell? ⟨P5, 2, none⟩ = some (.int .i64 b.c0) := blk_cell HP5.out
      have p53 : wr.cell? ⟨P5, 3, none⟩ = some (.int .i64 b.c1) := blk_cell HP5.out
      have p54 : wr.cell? ⟨P5, 4, none⟩ = some (.int .i64 b.c2) := blk_cell HP5.out
      have p56 : wr.cell? ⟨P5, 6, none⟩ = some (.int .i64 b.rate) := blk_cell HP5.out
      have z0 : wr.cell? ⟨W.heap.size + 1, 0, none⟩ = some (.slice none 0 0) := blk_cell hi0
      have z1 : wr.cell? ⟨W.heap.size + 1, 1, none⟩ = some (.int .i64 0) := blk_cell hi0
      have z2 : wr.cell? ⟨W.heap.size + 1, 2, none⟩ = some (.int .i64 0) := blk_cell hi0
      have z3 : wr.cell? ⟨W.heap.size + 1, 3, none⟩ = some (.int .i64 0) := blk_cell hi0
      have z4 : wr.cell? ⟨W.heap.size + 1, 4, none⟩ = some (.int .i64 0) := blk_cell hi0
      have z5 : wr.cell? ⟨W.heap.size + 1, 5, none⟩ = some (.slice none 0 0) := blk_cell hi0
      have z6 : wr.cell? ⟨W.heap.size + 1, 6, none⟩ = some (.int .i64 0) := blk_cell hi0
      have zf0 := blk_frozen hi0 0
      have zf1 := blk_frozen hi0 1
      have zf2 := blk_frozen hi0 2
      have zf3 := blk_frozen hi0 3
      have zf4 := blk_frozen hi0 4
      have zf5 := blk_frozen hi0 5
      have zf6 := blk_frozen hi0 6
      have HBW := Lib.hid (hBV.trans (HX.out.mono hBV.size))
      have HI := Lib.hid hi0
      have HSL := Lib.hid hsl
      have HML := Lib.hid hml
      have HGO := Lib.hid hgo
      clear hfull hsl hml hi0 hgo hqn2
      go_wp2_with fail
      obtain ⟨j1, j2, j3⟩ := stored7 HI.out (.slice sa n1 sc) (.int .i64 b.wth) (.int .i64 b.c0) (.int .i64 b.c1) (.int .i64 b.c2) (.slice a m c) (.int .i64 b.rate) (Below.refl (W.heap.size + 1) wr) (Nat.le_refl (W.heap.size + 1))
      have jo := fun k hk => set7_other (W := wr) (B := W.heap.size + 1) (.slice sa n1 sc) (.int .i64 b.wth) (.int .i64 b.c0) (.int .i64 b.c1) (.int .i64 b.c2) (.slice a m c) (.int .i64 b.rate) k hk
      generalize (((((((wr.setCell ⟨W.heap.size + 1, 0, none⟩ (.slice sa n1 sc)).setCell ⟨W.heap.size + 1, 1, none⟩ (.int .i64 b.wth)).setCell ⟨W.heap.size + 1, 2, none⟩ (.int .i64 b.c0)).setCell ⟨W.heap.size + 1, 3, none⟩ (.int .i64 b.c1)).setCell ⟨W.heap.size + 1, 4, none⟩ (.int .i64 b.c2)).setCell ⟨W.heap.size + 1, 5, none⟩ (.slice a m c)).setCell ⟨W.heap.size + 1, 6, none⟩ (.int .i64 b.rate)) = Z at j1 j2 j3 jo ⊢
      have k0 : Z.cell? ⟨W.heap.size + 1, 0, none⟩ = some (.slice sa n1 sc) := blk_cell j1
      have k1 : Z.cell? ⟨W.heap.size + 1, 1, none⟩ = some (.int .i64 b.wth) := blk_cell j1
      have k2 : Z.cell? ⟨W.heap.size + 1, 2, none⟩ = some (.int .i64 b.c0) := blk_cell j1
      have k3 : Z.cell? ⟨W.heap.size + 1, 3, none⟩ = some (.int .i64 b.c1) := blk_cell j1
      have k4 : Z.cell? ⟨W.heap.size + 1, 4, none⟩ = some (.int .i64 b.c2) := blk_cell j1
      have k5 : Z.cell? ⟨W.heap.size + 1, 5, none⟩ = some (.slice a m c) := blk_cell j1
      have k6 : Z.cell? ⟨W.heap.size + 1, 6, none⟩ = some (.int .i64 b.rate) := blk_cell j1
      have hn0 := HN.out
      have hbZ : Below W.heap.size W Z := HBW.out.trans (j2.mono (by omega))
      have hbkZ : BookW Z Z.heap.size sa a n1 sc m c (b.but l) :=
        ⟨Nat.le_refl _, (((BZ.out _ HX.out).hs.below (B := W.heap.size + 1) (by omega) j2).mono (Nat.le_trans hn0 hbZ.size)), by rw [j3]; exact HSL.out.other jo HGO.out, HL1.out, HML.out⟩
      exact bodyPost_ret (v := .agg #[.slice sa n1 sc, .int .i64 b.wth, .int .i64 b.c0, .int .i64 b.c1, .int .i64 b.c2, .slice a m c, .int .i64 b.rate]) (by simp [results, Tryd.results57, go_sem, k0, k1, k2, k3, k4, k5, k6]) rfl ⟨a, m, c, rfl, hbZ, hbkZ⟩
end Go.Proofs.YtbhjfojbjpbdbaaDoor
