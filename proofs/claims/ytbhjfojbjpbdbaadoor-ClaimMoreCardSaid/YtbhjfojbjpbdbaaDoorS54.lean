/-
  The contract of the law's smooth: the same book, its road costing nothing. Written by this session; printed by wip/tools/s54.py.
-/
import Derived.Test.YtbhjfojbjpbdbaaDoorL12
import Derived.Test.YtbhjfojbjpbdbaaDoorK7
namespace Go.Proofs.YtbhjfojbjpbdbaaDoor
open Go.RowKit

theorem smooth_A (l : List St) (q : Nat) (hq : q < l.length) : (stCells ((l.take q).map St.smooth)).flatten.length = q * 7 := by
  rw [flat_len (sz := 7) _ (fun r hr => by obtain ⟨z, _, rfl⟩ := List.mem_map.1 hr; rfl)]
  simp [stCells]
  omega
theorem smooth_split (l : List St) (q : Nat) (x : St) (hx : l[q]? = some x) : (stCells ((l.take q).map St.smooth ++ l.drop q)).flatten = (stCells ((l.take q).map St.smooth)).flatten ++ (x.cells ++ (stCells (l.drop (q + 1))).flatten) := by
  obtain ⟨hlt, hxe⟩ := List.getElem?_eq_some_iff.1 hx
  rw [List.drop_eq_getElem_cons hlt, hxe]
  simp [stCells]
theorem smooth_flat (l : List St) (q : Nat) (x : St) (hx : l[q]? = some x) : (stCells ((l.take q).map St.smooth ++ l.drop q)).flatten[q * 7 + 3]? = some (.int .i64 x.rl) ∧ (stCells ((l.take q).map St.smooth ++ l.drop q)).flatten[q * 7 + 4]? = some (.int .i64 x.rh) := by
  have hA := smooth_A l q (List.getElem?_eq_some_iff.1 hx).1
  rw [smooth_split l q x hx]
  constructor
  · rw [List.getElem?_append_right (by omega), hA, show q * 7 + 3 - q * 7 = 3 by omega]; rfl
  · rw [List.getElem?_append_right (by omega), hA, show q * 7 + 4 - q * 7 = 4 by omega]; rfl
theorem smooth_flat_set (l : List St) (q : Nat) (x : St) (hx : l[q]? = some x) : ((stCells ((l.take q).map St.smooth ++ l.drop q)).flatten.set (q * 7 + 3) (.int .i64 0)).set (q * 7 + 4) (.int .i64 0) = (stCells ((l.take (q + 1)).map St.smooth ++ l.drop (q + 1))).flatten := by
  obtain ⟨hlt, hxe⟩ := List.getElem?_eq_some_iff.1 hx
  have hA := smooth_A l q hlt
  rw [smooth_split l q x hx, List.set_append_right _ _ (by omega), hA, show q * 7 + 3 - q * 7 = 3 by omega, List.set_append_right _ _ (by omega), hA, show q * 7 + 4 - q * 7 = 4 by omega]
  rw [List.take_add_one, hx]
  simp only [stCells, List.map_append, List.flatten_append, Option.toList_some, List.map_cons, List.map_nil, List.flatten_cons, List.flatten_nil, List.append_nil, List.append_assoc]
  rfl

theorem set7_other {W : World} {B : Nat} (v0 v1 v2 v3 v4 v5 v6 : Value) (k : Nat) (hk : k ≠ B) :
    (((((((W.setCell ⟨B, 0, none⟩ v0).setCell ⟨B, 1, none⟩ v1).setCell ⟨B, 2, none⟩ v2).setCell ⟨B, 3, none⟩ v3).setCell ⟨B, 4, none⟩ v4).setCell ⟨B, 5, none⟩ v5).setCell ⟨B, 6, none⟩ v6).heap[k]? = W.heap[k]? := by
  rw [Below.heap_setCell _ _ _ _ hk, Below.heap_setCell _ _ _ _ hk, Below.heap_setCell _ _ _ _ hk, Below.heap_setCell _ _ _ _ hk, Below.heap_setCell _ _ _ _ hk, Below.heap_setCell _ _ _ _ hk, Below.heap_setCell _ _ _ _ hk]
theorem SlOf.other {w w' : World} {n B sz : Nat} {v : Value} {rows : List (List Value)} (h : SlOf w n sz v rows) (hz : ∀ k, k ≠ B → w'.heap[k]? = w.heap[k]?) (hB : ∀ g o len cap, v = .slice (some ⟨g, o, none⟩) len cap → g ≠ B) : SlOf w' n sz v rows := by
  obtain ⟨a, cap, e, h1, h2, h3, h4⟩ := h
  refine ⟨a, cap, e, h1, h2, h3, fun hp => ?_⟩
  obtain ⟨b, o, e1, h5, h6⟩ := h4 hp
  refine ⟨b, o, e1, h5, fun i j r c hi hj => ?_⟩
  exact (World.cell?_of_block (w := w) (hz b (hB b o _ cap (by rw [e, e1])))).trans (h6 i j r c hi hj)

set_option maxRecDepth 100000 in
set_option maxHeartbeats 8000000 in
theorem smooth_any (W : World) (b : Bk) (n : Nat) (sa ka : Option Addr) (n1 sc n2 kc : Nat) (hv : BookW W n sa ka n1 sc n2 kc b) (hn13 : 1 ≤ n1 ∧ n1 ≤ 3) :
    Calls Tryd.prog 54 #[.agg (b.cells (.slice sa n1 sc) (.slice ka n2 kc)).toArray] W fun e W' => ∃ (g' cap' : Nat), e = .returned (.agg (b.smooth.cells (.slice (some ⟨g', 0, none⟩) n1 cap') (.slice ka n2 kc)).toArray) ∧ Below W.heap.size W W' ∧ W.heap.size ≤ g' ∧ BookW W' W'.heap.size (some ⟨g', 0, none⟩) ka n1 cap' n2 kc b.smooth := by
  obtain ⟨V, hV⟩ : ∃ V, (W.alloc (Obj.cells #[.slice sa n1 sc, .int .i64 b.wth, .int .i64 b.c0, .int .i64 b.c1, .int .i64 b.c2, .slice ka n2 kc, .int .i64 b.rate] 26)).alloc (.cells #[.slice none 0 0, .int .i64 0, .int .i64 0, .int .i64 0, .int .i64 0, .slice none 0 0, .int .i64 0] 26) = V := ⟨_, rfl⟩
  have hBV : Below W.heap.size W V := by rw [← hV]; exact ((Below.refl _ _).alloc (Nat.le_refl _) _).alloc (by simp) _
  have hb0 : V.heap[W.heap.size]? = some (Obj.cells #[.slice sa n1 sc, .int .i64 b.wth, .int .i64 b.c0, .int .i64 b.c1, .int .i64 b.c2, .slice ka n2 kc, .int .i64 b.rate] 26) := by rw [← hV]; exact (heap_alloc_old _ _ (by simp)).trans (World.alloc_heap_new _ _)
  have hVz : W.heap.size < V.heap.size := (Array.getElem?_eq_some_iff.1 hb0).1
  have HVB := Lib.hid (hv.below hv.hn hBV)
  have HN := Lib.hid hv.hn
  have c0 : V.cell? ⟨W.heap.size, 0, none⟩ = some (.slice sa n1 sc) := blk_cell hb0
  have c1 : V.cell? ⟨W.heap.size, 1, none⟩ = some (.int .i64 b.wth) := blk_cell hb0
  have c2 : V.cell? ⟨W.heap.size, 2, none⟩ = some (.int .i64 b.c0) := blk_cell hb0
  have c3 : V.cell? ⟨W.heap.size, 3, none⟩ = some (.int .i64 b.c1) := blk_cell hb0
  have c4 : V.cell? ⟨W.heap.size, 4, none⟩ = some (.int .i64 b.c2) := blk_cell hb0
  have c5 : V.cell? ⟨W.heap.size, 5, none⟩ = some (.slice ka n2 kc) := blk_cell hb0
  have c6 : V.cell? ⟨W.heap.size, 6, none⟩ = some (.int .i64 b.rate) := blk_cell hb0
  have hi0 : V.heap[W.heap.size + 1]? = some (.cells #[.slice none 0 0, .int .i64 0, .int .i64 0, .int .i64 0, .int .i64 0, .slice none 0 0, .int .i64 0] 26) := by rw [← hV]; have := World.alloc_heap_new (W.alloc (Obj.cells #[.slice sa n1 sc, .int .i64 b.wth, .int .i64 b.c0, .int .i64 b.c1, .int .i64 b.c2, .slice ka n2 kc, .int .i64 b.rate] 26)) (.cells #[.slice none 0 0, .int .i64 0, .int .i64 0, .int .i64 0, .int .i64 0, .slice none 0 0, .int .i64 0] 26); rwa [World.size_alloc] at this
  have hVx : W.heap.size + 1 < V.heap.size := (Array.getElem?_eq_some_iff.1 hi0).1
  have HI0 := Lib.hid hi0
  clear hi0
  have HB0 := Lib.hid hb0
  have BZ := Lib.hid (show ∀ w, Below V.heap.size V w → BookW w n sa ka n1 sc n2 kc b from fun w h => HVB.out.below HVB.out.hn h)
  have HX := Lib.hid (Below.refl V.heap.size V)
  have hn1 : n1 ≤ 9223372036854775807 := by obtain ⟨_, _, e, h1, h2, _⟩ := hv.hs; injection e with _ e2 _; unfold maxLen at h2; omega
  have HL1 := Lib.hid hv.l1
  have HL2 := Lib.hid hv.l2
  clear hb0 hv
  simp only [Bk.cells]
  go_enter Tryd.func54, Tryd.ntmps54
  go_upto_region 1 with fail
  try rw [hV]
  clear hV
  go_upto_region 2 with fail
  obtain ⟨X, hX⟩ : ∃ X, V.alloc (Obj.cells #[.slice sa n1 sc, .int .i64 b.wth, .int .i64 b.c0, .int .i64 b.c1, .int .i64 b.c2, .slice ka n2 kc, .int .i64 b.rate] 26) = X := ⟨_, rfl⟩
  have hqx : X.heap[V.heap.size]? = some (Obj.cells #[.slice sa n1 sc, .int .i64 b.wth, .int .i64 b.c0, .int .i64 b.c1, .int .i64 b.c2, .slice ka n2 kc, .int .i64 b.rate] 26) := by rw [← hX]; exact World.alloc_heap_new _ _
  have hbx : Below V.heap.size V X := by rw [← hX]; exact (Below.refl _ _).alloc (Nat.le_refl _) _
  rw [hX]
  have HX := Lib.hid hbx
  have y0' : X.cell? ⟨W.heap.size, 0, none⟩ = some (.slice sa n1 sc) := (hbx.cell (p := ⟨W.heap.size, 0, none⟩) hVz).trans c0
  have hlx := Nat.lt_of_lt_of_le hVz hbx.size
  obtain ⟨P5, hP5⟩ : ∃ P, V.heap.size = P := ⟨_, rfl⟩
  have hVP : V.heap.size ≤ P5 := by rw [← hP5]; exact Nat.le_refl _
  rw [hP5] at hqx ⊢
  have w0 : X.cell? ⟨P5, 0, none⟩ = some (.slice sa n1 sc) := blk_cell hqx
  have w0f := blk_frozen hqx 0
  have lp : P5 < X.heap.size := (Array.getElem?_eq_some_iff.1 hqx).1
  have HQ5 := Lib.hid hqx
  have HP5V := Lib.hid hP5
  clear hqx hX hbx hP5 c1 c2 c3 c4 c5 c6
  obtain ⟨i56, i56a, i56b, i56c, i56d⟩ := info_parts info56z
  obtain ⟨_, cap, e, hs1, hs2, hs3, hs4⟩ := (BZ.out _ HX.out).hs
  injection e with e1 e2 e3
  subst e1
  clear e2 e3
  obtain ⟨g, o, hsa, hg, hcs⟩ := hs4 (by simp [stCells]; have := HL1.out; omega)
  subst hsa
  have hnl : n1 = (stCells b.sts).length := by simp [stCells]; exact HL1.out
  have HNL := Lib.hid hnl
  have HCS := Lib.hid hcs
  have HS3 := Lib.hid hs3
  have hgX : g < X.heap.size := Nat.lt_of_lt_of_le hg (Nat.le_trans (BZ.out _ (Below.refl _ V)).hn HX.out.size)
  have HXB := Lib.hid (Below.refl X.heap.size X)
  clear hcs hs1 hs2 hs3 hs4 hg hnl
  go_wp2_with (first
    | (at_builtin; refine wpList_append_own _ rfl (.tmp 6) (.tmp 8) 22 rfl X.heap.size 56 i56 _ 7 56 Tryd.underlying22 i56a i56b i56c i56d rfl (by decide) (.slice (some ⟨X.heap.size, 0, none⟩) 0 0) 0 [] rfl (empty_row X 56 7) ⟨g, o, none⟩ n1 sc (stCells b.sts).flatten rfl ?c1 ?c2 ?c3 ?c4 ?c5 ?c6 ?_)
    | fail)
  case c1 => rw [flat_len _ HS3.out, ← HNL.out]
  case c2 =>
    intro j u hj
    obtain ⟨q, r, row, h1, h2, h3⟩ := flat_at' (by decide) _ HS3.out j u hj
    rw [Go.WideShapes.add_plain, h3, ← Nat.add_assoc]
    exact (((Below.refl _ X).alloc (Nat.le_refl _) _).cell (p := ⟨g, o + q * 7 + r, none⟩) hgX).trans (HCS.out q r row u h1 h2)
  case c3 =>
    intro u hu
    obtain ⟨row, hrow, hu2⟩ := List.mem_flatten.1 hu
    obtain ⟨x, _, rfl⟩ := List.mem_map.1 hrow
    simp [St.cells] at hu2
    rcases hu2 with rfl | rfl | rfl | rfl | rfl | rfl | rfl <;> rfl
  case c4 => unfold maxLen; omega
  case c5 => omega
  case c6 => simp
  intro v' w4 hown hgrow _
  obtain ⟨g', cap', cur, hv', hgb, hgh, hgc, hgm, hgs, hgt⟩ : ∃ g' cap' cur, v' = .slice (some ⟨g', 0, none⟩) n1 cap' ∧ X.heap.size ≤ g' ∧ w4.heap[g']? = some (.cells cur 56) ∧ n1 ≤ cap' ∧ cap' ≤ maxLen ∧ cur.size = cap' * 7 ∧ cur.toList.take (n1 * 7) = (stCells b.sts).flatten := by
    rcases hown.2 with ⟨_, h0⟩ | ⟨g', cap', cur, h1, h2, h3, h4, h5, h6, h7⟩
    · omega
    · exact ⟨g', cap', cur, h1, h2, h3, h4, h5, h6, h7⟩
  subst hv'
  have hb4 : Below X.heap.size X w4 := (((Below.refl _ X).alloc (Nat.le_refl _) _)).trans ⟨hgrow.os, hgrow.tape, hgrow.output, hgrow.size, fun k hk => hgrow.block k (by simp; omega) (by simp [Value.ownBlock]; omega)⟩
  have hq4 := (hb4.block P5 lp).trans HQ5.out
  have p50 : w4.cell? ⟨P5, 0, none⟩ = some (.slice (some ⟨g, o, none⟩) n1 sc) := blk_cell hq4
  have p50f := blk_frozen hq4 0
  have hg4 : g' < w4.heap.size := (Array.getElem?_eq_some_iff.1 hgh).1
  have hne : P5 ≠ g' := by omega
  have hq5 := blk_set (j := 0) (v := .slice (some ⟨g', 0, none⟩) n1 cap') hq4
  have hg5 : (w4.setCell ⟨P5, 0, none⟩ (.slice (some ⟨g', 0, none⟩) n1 cap')).heap[g']? = some (.cells cur 56) := (Below.heap_setCell _ _ _ _ (Ne.symm hne)).trans hgh
  have hb5 : Below V.heap.size V (w4.setCell ⟨P5, 0, none⟩ (.slice (some ⟨g', 0, none⟩) n1 cap')) := (HX.out.trans (hb4.mono HX.out.size)).setCell hVP _
  obtain ⟨X5, hX5⟩ : ∃ X5, w4.setCell ⟨P5, 0, none⟩ (.slice (some ⟨g', 0, none⟩) n1 cap') = X5 := ⟨_, rfl⟩
  rw [hX5] at hq5 hg5 hb5
  have hgV : V.heap.size ≤ g' := Nat.le_trans HX.out.size hgb
  have HQ5b := Lib.hid hq5
  have HG5 := Lib.hid hg5
  have HB5 := Lib.hid hb5
  have HGS := Lib.hid hgs
  have HGT := Lib.hid hgt
  have HGC := Lib.hid hgc
  have HGM := Lib.hid hgm
  have HX5 := Lib.hid hX5
  have hgcap : n1 ≤ cap' := hgc
  have hcapm : cap' ≤ 9223372036854775807 := by unfold maxLen at hgm; omega
  clear hown hgrow hgb hgh hgc hgm hgs hgt hq5 hg5 hb5 hX5 hb4 hq4
  go_wp2_with fail
  rw [HX5.out]
  go_loopg [4] n1 (fun n0 i wx => ∃ (q : Nat) (cu : Array Value), q ≤ n1 ∧ n0 = n1 - q ∧ i = .int .i64 (q : Int) ∧ Below V.heap.size V wx ∧ wx.heap[P5]? = some (Obj.cells #[.slice (some ⟨g', 0, none⟩) n1 cap', .int .i64 b.wth, .int .i64 b.c0, .int .i64 b.c1, .int .i64 b.c2, .slice ka n2 kc, .int .i64 b.rate] 26) ∧
    wx.heap[g']? = some (.cells cu 56) ∧ cu.size = cap' * 7 ∧ cu.toList.take (n1 * 7) = (stCells ((b.sts.take q).map St.smooth ++ b.sts.drop q)).flatten)
  case atStart => exact ⟨0, cur, by omega, rfl, rfl, HB5.out, HQ5b.out, HG5.out, HGS.out, by simpa using HGT.out⟩
  case round =>
    clear p50 p50f y0' w0 w0f
    obtain ⟨q, cu, hq, hgk, rfl, hbv, hp5, hgh, hcs, hct⟩ := hrel
    have HG2 := Lib.hid hgk
    have HX := Lib.hid hbv
    have HP5 := Lib.hid hp5
    have HGH := Lib.hid hgh
    have HCU := Lib.hid hcs
    have HCT := Lib.hid hct
    have p50 : wr.cell? ⟨P5, 0, none⟩ = some (.slice (some ⟨g', 0, none⟩) n1 cap') := blk_cell hp5
    have lp5 : P5 < wr.heap.size := (Array.getElem?_eq_some_iff.1 hp5).1
    have lg' : g' < wr.heap.size := (Array.getElem?_eq_some_iff.1 hgh).1
    clear hgk hbv hp5 hcs hct
    by_cases hqn : q < n1
    · obtain ⟨x, hx⟩ : ∃ x, b.sts[q]? = some x := ⟨_, List.getElem?_eq_getElem (by have := HL1.out; omega)⟩
      obtain ⟨h3, h4⟩ := smooth_flat b.sts q x hx
      have r3 : wr.cell? ⟨g', q * 7 + 3, none⟩ = some (.int .i64 x.rl) := by
        rw [blk_cell HGH.out]
        rw [← HCT.out, List.getElem?_take] at h3
        split at h3
        · rwa [Array.getElem?_toList] at h3
        · cases h3
      have r4 : wr.cell? ⟨g', q * 7 + 4, none⟩ = some (.int .i64 x.rh) := by
        rw [blk_cell HGH.out]
        rw [← HCT.out, List.getElem?_take] at h4
        split at h4
        · rwa [Array.getElem?_toList] at h4
        · cases h4
      have f3 : wr.frozen? ⟨g', q * 7 + 3, none⟩ = false := blk_frozen HGH.out _
      have f4 : wr.frozen? ⟨g', q * 7 + 4, none⟩ = false := blk_frozen HGH.out _
      have hqi : (q : Int) < (n1 : Int) := by omega
      have HXX := Lib.hid hx
      clear hgh hx h3 h4
      go_upto_region 6 with fail
      refine wp_region_det (S := fun L w' => (L 6 = false → Below wr.heap.size wr w') ∧ (L 6 = true → ∃ u, Below wr.heap.size wr u ∧ w' = (u.setCell ⟨g', q * 7 + 3, none⟩ (.int .i64 0)).setCell ⟨g', q * 7 + 4, none⟩ (.int .i64 0))) (by kernel_rfl) (by kernel_rfl) ⟨fun _ => (Below.refl _ wr).drew, fun h => by cases h⟩ ?_
      apply det_cons
      · refine ⟨by rfl, fun L w hN hS => ?_⟩
        have h6 : L 6 = false := (hN.chain (hN.chain (hN.chain (hN.chain hN.free (k := 1) (by kernel_rfl)) (k := 4) (by kernel_rfl)) (k := 5) (by kernel_rfl)) (k := 6) (by kernel_rfl))
        have hu := hS.1 h6
        have hcc := (bcell hu).1
        have HU := Lib.hid hu
        have H6 := Lib.hid h6
        clear hS h6 hu
        go_simp
        exact ⟨rfl, fun L' h1 h2 => ⟨fun _ => HU.out, fun h => by rw [h2 6 (by decide), H6.out] at h; cases h⟩⟩
      try simp only [Act.put, List.setIfInBounds_toArray, List.set_cons_zero, List.set_cons_succ]
      apply det_cons
      · refine ⟨by rfl, fun L w hN hS => ?_⟩
        have h6 : L 6 = false := (hN.chain (hN.chain (hN.chain hN.free (k := 4) (by kernel_rfl)) (k := 5) (by kernel_rfl)) (k := 6) (by kernel_rfl))
        have hu := hS.1 h6
        have hcc := (bcell hu).1
        have HU := Lib.hid hu
        have H6 := Lib.hid h6
        clear hS h6 hu
        go_simp
        exact ⟨rfl, fun L' h1 h2 => ⟨fun _ => HU.out, fun h => by rw [h2 6 (by decide), H6.out] at h; cases h⟩⟩
      try simp only [Act.put, List.setIfInBounds_toArray, List.set_cons_zero, List.set_cons_succ]
      apply det_cons
      · refine ⟨by rfl, fun L w hN hS => ?_⟩
        have h6 : L 6 = false := (hN.chain (hN.chain (hN.chain hN.free (k := 4) (by kernel_rfl)) (k := 5) (by kernel_rfl)) (k := 6) (by kernel_rfl))
        have hu := hS.1 h6
        have hcc := (bcell hu).1
        have HU := Lib.hid hu
        have H6 := Lib.hid h6
        clear hS h6 hu
        go_simp
        exact ⟨rfl, fun L' h1 h2 => ⟨fun _ => HU.out, fun h => by rw [h2 6 (by decide), H6.out] at h; cases h⟩⟩
      try simp only [Act.put, List.setIfInBounds_toArray, List.set_cons_zero, List.set_cons_succ]
      apply det_cons
      · refine ⟨by rfl, fun L w hN hS => ?_⟩
        have h6 : L 6 = false := (hN.chain hN.free (k := 6) (by kernel_rfl))
        have hu := hS.1 h6
        have hcc := (bcell hu).1
        have HU := Lib.hid hu
        have H6 := Lib.hid h6
        clear hS h6 hu
        go_simp
        refine (just_any _ _).mono ?_
        rintro e w' ⟨rfl, hbb⟩
        exact ⟨rfl, fun L' h1 h2 => ⟨fun _ => HU.out.trans (hbb.mono HU.out.size), fun h => by rw [h2 6 (by decide), H6.out] at h; cases h⟩⟩
      try simp only [Act.put, List.setIfInBounds_toArray, List.set_cons_zero, List.set_cons_succ]
      apply det_cons
      · refine ⟨by rfl, fun L w hN hS => ?_⟩
        have h6 : L 6 = false := (hN.chain (hN.chain hN.free (k := 5) (by kernel_rfl)) (k := 6) (by kernel_rfl))
        have hu := hS.1 h6
        have hcc := (bcell hu).1
        have HU := Lib.hid hu
        have H6 := Lib.hid h6
        clear hS h6 hu
        go_simp
        exact ⟨rfl, fun L' h1 h2 => ⟨fun _ => HU.out, fun h => by rw [h2 6 (by decide), H6.out] at h; cases h⟩⟩
      try simp only [Act.put, List.setIfInBounds_toArray, List.set_cons_zero, List.set_cons_succ]
      apply det_cons
      · refine ⟨by rfl, fun L w hN hS => ?_⟩
        have h6 : L 6 = false := (hN.chain hN.free (k := 6) (by kernel_rfl))
        have hu := hS.1 h6
        have hcc := (bcell hu).1
        have HU := Lib.hid hu
        have H6 := Lib.hid h6
        clear hS h6 hu
        go_simp
        exact ⟨rfl, fun L' h1 h2 => ⟨fun _ => HU.out, fun h => by rw [h2 6 (by decide), H6.out] at h; cases h⟩⟩
      try simp only [Act.put, List.setIfInBounds_toArray, List.set_cons_zero, List.set_cons_succ]
      apply det_cons
      · refine ⟨by rfl, fun L w hN hS => ?_⟩
        have hu := hS.1 hN.free
        have hcc := (bcell hu).1
        have hff := (bcell hu).2
        have HU := Lib.hid hu
        clear hS hu
        go_simp
        exact ⟨rfl, fun L' h1 h2 => ⟨(fun h => by rw [h1] at h; cases h), fun _ => ⟨w, HU.out, rfl⟩⟩⟩
      try simp only [Act.put]
      refine det_nil ?_
      intro L w9 hL hS
      obtain ⟨u, hu, rfl⟩ := hS.2 (hL 6 (by decide))
      have hgu := (hu.block g' lg').trans HGH.out
      have hs1' := blk_set (j := q * 7 + 3) (v := .int .i64 0) hgu
      have hs2' := blk_set (j := q * 7 + 4) (v := .int .i64 0) hs1'
      have HS2 := Lib.hid hs2'
      have HU := Lib.hid hu
      clear hL hS hgu hs1' hs2' hu
      go_wp2_with fail
      go_roundg (n1 - (q + 1))
      case measure => rw [HG2.out]; omega
      case rel =>
        refine ⟨q + 1, _, by omega, rfl, by go_num, ((HX.out.trans (HU.out.mono HX.out.size)).setCell hgV _).setCell hgV _, ?_, HS2.out, by simpa using HCU.out, ?_⟩
        · exact (Below.heap_setCell _ _ _ _ (by show P5 ≠ g'; exact hne)).trans ((Below.heap_setCell _ _ _ _ (by show P5 ≠ g'; exact hne)).trans ((HU.out.block P5 lp5).trans HP5.out))
        · rw [Array.toList_setIfInBounds, Array.toList_setIfInBounds, List.take_set, List.take_set, HCT.out, smooth_flat_set b.sts q x HXX.out]
    · have hqi : ¬ (q : Int) < (n1 : Int) := by omega
      have hq1 : q = n1 := by omega
      have hrows : stCells ((b.sts.take q).map St.smooth ++ b.sts.drop q) = stCells b.smooth.sts := by
        rw [hq1, HL1.out, List.take_length, List.drop_length, List.append_nil]; rfl
      have hlen : (stCells b.smooth.sts).length = n1 := by simp [stCells, Bk.smooth]; exact HL1.out.symm
      have hr7 : ∀ r ∈ stCells b.smooth.sts, r.length = 7 := fun r hr => by
        obtain ⟨z, _, rfl⟩ := List.mem_map.1 hr; rfl
      have hown : wr.ownsRow 0 56 7 (.slice (some ⟨g', 0, none⟩) n1 cap') n1 (stCells b.smooth.sts).flatten :=
        ⟨by rw [flat_len _ hr7, hlen], .inr ⟨g', cap', cu, rfl, Nat.zero_le _, hgh, HGC.out, HGM.out, HCU.out, by rw [HCT.out, hrows]⟩⟩
      have hbk : BookW wr wr.heap.size (some ⟨g', 0, none⟩) ka n1 cap' n2 kc b.smooth :=
        ⟨Nat.le_refl _, SlOf.own (by rw [hlen]; exact hown) hr7, (BZ.out _ HX.out).hk.mono (BZ.out _ HX.out).hn, by rw [smooth_len]; exact HL1.out, HL2.out⟩
      have HBK := Lib.hid hbk
      have p51 : wr.cell? ⟨P5, 1, none⟩ = some (.int .i64 b.wth) := blk_cell HP5.out
      have p52 : wr.cell? ⟨P5, 2, none⟩ = some (.int .i64 b.c0) := blk_cell HP5.out
      have p53 : wr.cell? ⟨P5, 3, none⟩ = some (.int .i64 b.c1) := blk_cell HP5.out
      have p54 : wr.cell? ⟨P5, 4, none⟩ = some (.int .i64 b.c2) := blk_cell HP5.out
      have p55 : wr.cell? ⟨P5, 5, none⟩ = some (.slice ka n2 kc) := blk_cell HP5.out
      have p56 : wr.cell? ⟨P5, 6, none⟩ = some (.int .i64 b.rate) := blk_cell HP5.out
      have hi0 : wr.heap[W.heap.size + 1]? = some (.cells #[.slice none 0 0, .int .i64 0, .int .i64 0, .int .i64 0, .int .i64 0, .slice none 0 0, .int .i64 0] 26) := (HX.out.block _ hVx).trans HI0.out
      have z0 : wr.cell? ⟨W.heap.size + 1, 0, none⟩ = some (.slice none 0 0) := blk_cell hi0
      have z1 : wr.cell? ⟨W.heap.size + 1, 1, none⟩ = some (.int .i64 0) := blk_cell hi0
      have z2 : wr.cell? ⟨W.heap.size + 1, 2, none⟩ = some (.int .i64 0) := blk_cell hi0
      have z3 : wr.cell? ⟨W.heap.size + 1, 3, none⟩ = some (.int .i64 0) := blk_cell hi0
      have z4 : wr.cell? ⟨W.heap.size + 1, 4, none⟩ = some (.int .i64 0) := blk_cell hi0
      have z5 : wr.cell? ⟨W.heap.size + 1, 5, none⟩ = some (.slice none 0 0) := blk_cell hi0
      have z6 : wr.cell? ⟨W.heap.size + 1, 6, none⟩ = some (.int .i64 0) := blk_cell hi0
      have zf0 := blk_frozen hi0 0
      have zf1 := blk_frozen hi0 1
      have zf2 := blk_frozen hi0 2
      have zf3 := blk_frozen hi0 3
      have zf4 := blk_frozen hi0 4
      have zf5 := blk_frozen hi0 5
      have zf6 := blk_frozen hi0 6
      have HBW := Lib.hid (hBV.trans (HX.out.mono hBV.size))
      have HI := Lib.hid hi0
      clear hgh hown hbk hrows hlen hr7 hi0
      go_wp2_with fail
      obtain ⟨j1, j2, j3⟩ := stored7 HI.out (.slice (some ⟨g', 0, none⟩) n1 cap') (.int .i64 b.wth) (.int .i64 b.c0) (.int .i64 b.c1) (.int .i64 b.c2) (.slice ka n2 kc) (.int .i64 b.rate) (Below.refl (W.heap.size + 1) wr) (Nat.le_refl (W.heap.size + 1))
      have jo := fun k hk => set7_other (W := wr) (B := W.heap.size + 1) (.slice (some ⟨g', 0, none⟩) n1 cap') (.int .i64 b.wth) (.int .i64 b.c0) (.int .i64 b.c1) (.int .i64 b.c2) (.slice ka n2 kc) (.int .i64 b.rate) k hk
      generalize (((((((wr.setCell ⟨W.heap.size + 1, 0, none⟩ (.slice (some ⟨g', 0, none⟩) n1 cap')).setCell ⟨W.heap.size + 1, 1, none⟩ (.int .i64 b.wth)).setCell ⟨W.heap.size + 1, 2, none⟩ (.int .i64 b.c0)).setCell ⟨W.heap.size + 1, 3, none⟩ (.int .i64 b.c1)).setCell ⟨W.heap.size + 1, 4, none⟩ (.int .i64 b.c2)).setCell ⟨W.heap.size + 1, 5, none⟩ (.slice ka n2 kc)).setCell ⟨W.heap.size + 1, 6, none⟩ (.int .i64 b.rate)) = Z at j1 j2 j3 jo ⊢
      have k0 : Z.cell? ⟨W.heap.size + 1, 0, none⟩ = some (.slice (some ⟨g', 0, none⟩) n1 cap') := blk_cell j1
      have k1 : Z.cell? ⟨W.heap.size + 1, 1, none⟩ = some (.int .i64 b.wth) := blk_cell j1
      have k2 : Z.cell? ⟨W.heap.size + 1, 2, none⟩ = some (.int .i64 b.c0) := blk_cell j1
      have k3 : Z.cell? ⟨W.heap.size + 1, 3, none⟩ = some (.int .i64 b.c1) := blk_cell j1
      have k4 : Z.cell? ⟨W.heap.size + 1, 4, none⟩ = some (.int .i64 b.c2) := blk_cell j1
      have k5 : Z.cell? ⟨W.heap.size + 1, 5, none⟩ = some (.slice ka n2 kc) := blk_cell j1
      have k6 : Z.cell? ⟨W.heap.size + 1, 6, none⟩ = some (.int .i64 b.rate) := blk_cell j1
      have hgW : W.heap.size ≤ g' := Nat.le_trans hBV.size hgV
      have hn0 := HN.out
      have hbZ : Below W.heap.size W Z := HBW.out.trans (j2.mono (by omega))
      have hbkZ : BookW Z Z.heap.size (some ⟨g', 0, none⟩) ka n1 cap' n2 kc b.smooth :=
        ⟨Nat.le_refl _, by rw [j3]; exact HBK.out.hs.other jo (fun g o len cap e => by injection e with e1 _ _; injection e1 with e2; injection e2 with e3; omega), (((BZ.out _ HX.out).hk.below (B := W.heap.size + 1) (by omega) j2).mono (Nat.le_trans hn0 hbZ.size)), HBK.out.l1, HBK.out.l2⟩
      exact bodyPost_ret (v := .agg #[.slice (some ⟨g', 0, none⟩) n1 cap', .int .i64 b.wth, .int .i64 b.c0, .int .i64 b.c1, .int .i64 b.c2, .slice ka n2 kc, .int .i64 b.rate]) (by simp [results, Tryd.results54, go_sem, k0, k1, k2, k3, k4, k5, k6]) rfl ⟨g', cap', rfl, hbZ, hgW, hbkZ⟩
end Go.Proofs.YtbhjfojbjpbdbaaDoor
