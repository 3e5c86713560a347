/-
  What the claim needs, gathered by a program of this session (wip/tools/trim.py) out of the texts YtbhjfojbjpbdbaaDoorK3, YtbhjfojbjpbdbaaDoorR, YtbhjfojbjpbdbaaDoorWLast, YtbhjfojbjpbdbaaDoorG0, YtbhjfojbjpbdbaaDoorWWords, YtbhjfojbjpbdbaaDoorWQPut, YtbhjfojbjpbdbaaDoorWApart, YtbhjfojbjpbdbaaDoorWArr, YtbhjfojbjpbdbaaDoorWZeros, YtbhjfojbjpbdbaaDoorWFoot, YtbhjfojbjpbdbaaDoorWKept, YtbhjfojbjpbdbaaDoorWShare, YtbhjfojbjpbdbaaDoorWN, YtbhjfojbjpbdbaaDoorWNEv, YtbhjfojbjpbdbaaDoorWMore, YtbhjfojbjpbdbaaDoorG1, YtbhjfojbjpbdbaaDoorK6, YtbhjfojbjpbdbaaDoorG2, YtbhjfojbjpbdbaaDoorA15: nothing that stands here is proved for its own sake.
-/
import Derived.Test.YtbhjfojbjpbdbaaDoorZt1
import Derived.ProofKit
import Derived.LaidMore
import Derived.OpenShut
import Derived.Stop.Joined
import Derived.Carry
import Derived.Deep.Slices
import Derived.OrdersHeld
import Derived.Deep.RegionHeld3
import Derived.Laws.BitsLemmas
import Derived.RowKit
import Derived.Below
import Derived.Deep.Draws
import Derived.Deep.AppendLies
import Derived.Maps.AppendAt
import Derived.OwnWalk
import Derived.Laws.BytesArg
import Derived.Laws.MakeOwn
import Derived.Laws.OwnMore
import Derived.Deep.OwnRows
import Derived.Tactics
import Derived.Lib.ConvBytes
import Derived.Laws.Slices
import Derived.WalkKit
import Derived.KernelRfl
import Derived.RowKit3
import Derived.Deep.LoopGhost
import Derived.Deep.QuietTactic
import Derived.BigQuiet
import Derived.WideLaws
import Derived.Deep.DeepCutAuto
import Derived.Deep.CutBlock
import Derived.Laws.Rows
import Derived.Lib.AppendStr
import Derived.ArgAppend
import Derived.Laws.IdiomCopy
import Derived.Shelf.Abstract
namespace Go.Proofs.YtbhjfojbjpbdbaaDoor
open Go.RowKit
theorem Glob.lt {w : World} (h : Glob w) : 1 < w.heap.size := lt_of_cell h.n0
theorem opened_ok (W : World) (b : Bk) (s k bv : Value) (l : List Nat) (n : Nat) (hn : n ≤ W.heap.size) (hs : SlOf W n 7 s (stCells b.sts)) (hk : SlOf W n 3 k (ckCells b.cks)) (hG : Glob W) (hb : SlOf W n 1 bv (natCells l)) (hS : Sound b) :
    Calls Tryd.prog 64 #[.agg (b.cells s k).toArray, bv] W fun e W' => ∃ ka kl kc M tv, e = .returned (.agg ((b.but l).cells9 s (.slice ka kl kc) (.map (some M)) tv).toArray) ∧ Below W.heap.size W W' ∧
      SlOf W' W'.heap.size 7 tv (trCells (truths (b.but l))) ∧ (∀ g, tv.ownBlock = some g → W.heap.size ≤ g) :=
  opened_any W b s k bv l n hG hn hs hk hb hS.nc (hS.but l).big (by have := hS.bd.l1; omega) hS.wt (truths_len (hS.but l))
theorem opened_nil (W : World) (b : Bk) (s k : Value) (n : Nat) (hn : n ≤ W.heap.size) (hs : SlOf W n 7 s (stCells b.sts)) (hk : SlOf W n 3 k (ckCells b.cks)) (hG : Glob W) (hS : Sound b) :
    Calls Tryd.prog 64 #[.agg (b.cells s k).toArray, .slice none 0 0] W fun e W' => ∃ ka kl kc M tv, e = .returned (.agg (b.cells9 s (.slice ka kl kc) (.map (some M)) tv).toArray) ∧ Below W.heap.size W W' ∧
      SlOf W' W'.heap.size 7 tv (trCells (truths b)) ∧ (∀ g, tv.ownBlock = some g → W.heap.size ≤ g) := by
  have h := opened_ok W b s k (.slice none 0 0) [] n hn hs hk hG ⟨none, 0, rfl, Nat.le_refl _, by simp [maxLen, natCells], by simp [natCells], fun h => absurd h (by simp [natCells])⟩ hS
  rw [but_nil] at h
  exact h
theorem field79 : ∀ (v0 v1 v2 v3 v4 v5 v6 v7 v8 : Value) (w : World), (Instr.field 79 (.agg #[v0, v1, v2, v3, v4, v5, v6, v7, v8]) 2).run Tryd.prog w = .ok v8 w := by
  intro v0 v1 v2 v3 v4 v5 v6 v7 v8 w
  kernel_rfl
theorem dec_len (l : List Tr) : decide (0 < (trCells l).length) = !l.isEmpty := by cases l <;> simp [trCells]
theorem SlOf.slice {w : World} {n sz : Nat} {v : Value} {rows : List (List Value)} (h : SlOf w n sz v rows) : ∃ a c, v = .slice a rows.length c := by
  obtain ⟨a, c, rfl, _⟩ := h
  exact ⟨_, _, rfl⟩
theorem slOf_nil (W : World) (n sz : Nat) : SlOf W n sz (.slice none 0 0) [] := ⟨none, 0, rfl, Nat.le_refl _, by simp [maxLen], by simp, fun h => absurd h (by simp)⟩
structure BookW (W : World) (n : Nat) (sa ka : Option Addr) (n1 sc n2 kc : Nat) (b : Bk) : Prop where
  hn : n ≤ W.heap.size
  hs : SlOf W n 7 (.slice sa n1 sc) (stCells b.sts)
  hk : SlOf W n 3 (.slice ka n2 kc) (ckCells b.cks)
  l1 : n1 = b.sts.length
  l2 : n2 = b.cks.length
theorem BookW.v {W : World} {n : Nat} {sa ka : Option Addr} {n1 sc n2 kc : Nat} {b : Bk} (h : BookW W n sa ka n1 sc n2 kc b) : BookV W W.heap.size (.agg (b.cells (.slice sa n1 sc) (.slice ka n2 kc)).toArray) b :=
  ⟨_, _, rfl, h.hs.mono h.hn, h.hk.mono h.hn⟩
theorem BookW.below {W V : World} {n B : Nat} {sa ka : Option Addr} {n1 sc n2 kc : Nat} {b : Bk} (h : BookW W n sa ka n1 sc n2 kc b) (hn : n ≤ B) (hb : Below B W V) : BookW V n sa ka n1 sc n2 kc b :=
  ⟨Nat.le_trans h.hn hb.size, h.hs.below hn hb, h.hk.below hn hb, h.l1, h.l2⟩
set_option maxRecDepth 100000 in
set_option maxHeartbeats 2000000 in
theorem right_ex (W : World) (b : Bk) (n : Nat) (sa ka : Option Addr) (n1 sc n2 kc : Nat) (hv : BookW W n sa ka n1 sc n2 kc b) (hG : Glob W) :
    Calls Tryd.prog 15 #[.agg (b.cells (.slice sa n1 sc) (.slice ka n2 kc)).toArray] W fun e W' => e = .returned (.tuple #[.bool (rightS b).1, .int .i64 (rightS b).2]) ∧ Below W.heap.size W W' := by
  obtain ⟨V, hV⟩ : ∃ V, W.alloc (Obj.cells #[.slice sa n1 sc, .int .i64 b.wth, .int .i64 b.c0, .int .i64 b.c1, .int .i64 b.c2, .slice ka n2 kc, .int .i64 b.rate] 26) = V := ⟨_, rfl⟩
  have hBV : Below W.heap.size W V := by rw [← hV]; exact (Below.refl _ _).alloc (Nat.le_refl _) _
  have hb0 : V.heap[W.heap.size]? = some (Obj.cells #[.slice sa n1 sc, .int .i64 b.wth, .int .i64 b.c0, .int .i64 b.c1, .int .i64 b.c2, .slice ka n2 kc, .int .i64 b.rate] 26) := by rw [← hV]; exact World.alloc_heap_new _ _
  have hVz : W.heap.size < V.heap.size := (Array.getElem?_eq_some_iff.1 hb0).1
  have HGV := Lib.hid (hG.below hG.lt hBV)
  have HVB := Lib.hid (hv.below hv.hn hBV)
  have HN := Lib.hid hv.hn
  have c0 : V.cell? ⟨W.heap.size, 0, none⟩ = some (.slice sa n1 sc) := blk_cell hb0
  have c1 : V.cell? ⟨W.heap.size, 1, none⟩ = some (.int .i64 b.wth) := blk_cell hb0
  have c2 : V.cell? ⟨W.heap.size, 2, none⟩ = some (.int .i64 b.c0) := blk_cell hb0
  have c3 : V.cell? ⟨W.heap.size, 3, none⟩ = some (.int .i64 b.c1) := blk_cell hb0
  have c4 : V.cell? ⟨W.heap.size, 4, none⟩ = some (.int .i64 b.c2) := blk_cell hb0
  have c5 : V.cell? ⟨W.heap.size, 5, none⟩ = some (.slice ka n2 kc) := blk_cell hb0
  have c6 : V.cell? ⟨W.heap.size, 6, none⟩ = some (.int .i64 b.rate) := blk_cell hb0
  clear hv hG hb0
  have hfield := field79
  simp only [Bk.cells]
  by_cases hok : bkOk b = true
  · have HCK := Lib.hid (show checkS b = 0 by simp [checkS, hok])
    have HSO := Lib.hid (sound_of hok)
    have HR := Lib.hid (show rightS b = (!(truths b).isEmpty, 0) by simp [rightS, hok])
    clear hok
    go_enter Tryd.func15, Tryd.ntmps15
    go_upto_region 1 with fail
    try rw [hV]
    clear hV
    go_wp2_with (first
      | (go_at_call 17; refine (check_any _ _ b HVB.out.v).mono ?_; rintro e w1 ⟨rfl, hb1⟩; rw [HCK.out]; have hk1 := (bcell hb1).1; have HB1 := Lib.hid hb1; clear hb1)
      | (go_at_call 64; refine (opened_nil w1 b (.slice sa n1 sc) (.slice ka n2 kc) n (HVB.out.below HVB.out.hn HB1.out).hn (HVB.out.below HVB.out.hn HB1.out).hs (HVB.out.below HVB.out.hn HB1.out).hk (HGV.out.below HGV.out.lt HB1.out) HSO.out).mono ?_; rintro e w2 ⟨ka', kl', kc', M, tv, rfl, hb2, ht, hfr⟩; obtain ⟨ta, tc, rfl⟩ := ht.slice; have HB2 := Lib.hid hb2; have HT := Lib.hid ht; have HFR := Lib.hid hfr; clear hb2 ht hfr; simp only [Bk.cells9])
      | fail)
    refine bodyPost_ret (results_tmp2 rfl _ _ _) rfl ⟨?_, (hBV.trans (HB1.out.mono hBV.size)).trans (HB2.out.mono (Nat.le_trans hBV.size HB1.out.size))⟩
    rw [HR.out]
    show Ending.returned (.tuple #[.bool (decide (0 < (trCells (truths b)).length)), .int .i64 0]) = _
    rw [dec_len]
  · have HCK := Lib.hid (show checkS b = 60 by simp [checkS, hok])
    have HR := Lib.hid (show rightS b = (false, 60) by simp [rightS, hok])
    clear hok
    go_enter Tryd.func15, Tryd.ntmps15
    go_upto_region 1 with fail
    try rw [hV]
    clear hV
    go_wp2_with (first
      | (go_at_call 17; refine (check_any _ _ b HVB.out.v).mono ?_; rintro e w1 ⟨rfl, hb1⟩; rw [HCK.out]; have HB1 := Lib.hid hb1; clear hb1)
      | fail)
    refine bodyPost_ret (results_tmp2 rfl _ _ _) rfl ⟨?_, hBV.trans (HB1.out.mono hBV.size)⟩
    rw [HR.out]
    rfl
set_option maxRecDepth 100000 in
set_option maxHeartbeats 4000000 in
theorem asked_any (W : World) (b : Bk) (is : Bool) (n : Nat) (sa ka : Option Addr) (n1 sc n2 kc : Nat) (hv : BookW W n sa ka n1 sc n2 kc b) (hG : Glob W) :
    Calls Tryd.prog 80 #[.agg (b.cells (.slice sa n1 sc) (.slice ka n2 kc)).toArray, .bool is] W fun e W' => ∃ (x : Bk) (sa' ka' ta : Option Addr) (sl' sc' kl' kc' tl tc : Nat) (mo : Option Nat),
      e = .returned (.tuple #[.agg (x.cells9 (.slice sa' sl' sc') (.slice ka' kl' kc') (.map mo) (.slice ta tl tc)).toArray, .int .i64 (askE b is)]) ∧ Below W.heap.size W W' ∧
      (askE b is = 0 → x = b ∧ sa' = sa ∧ sl' = n1 ∧ sc' = sc ∧ SlOf W' W'.heap.size 7 (.slice ta tl tc) (trCells (truths b)) ∧ (∀ g, (Value.slice ta tl tc).ownBlock = some g → W.heap.size ≤ g)) := by
  obtain ⟨V, hV⟩ : ∃ V, (W.alloc (Obj.cells #[.slice sa n1 sc, .int .i64 b.wth, .int .i64 b.c0, .int .i64 b.c1, .int .i64 b.c2, .slice ka n2 kc, .int .i64 b.rate] 26)).alloc zero79 = V := ⟨_, rfl⟩
  have hBV : Below W.heap.size W V := by rw [← hV]; exact ((Below.refl _ _).alloc (Nat.le_refl _) _).alloc (by simp) _
  have hb0 : V.heap[W.heap.size]? = some (Obj.cells #[.slice sa n1 sc, .int .i64 b.wth, .int .i64 b.c0, .int .i64 b.c1, .int .i64 b.c2, .slice ka n2 kc, .int .i64 b.rate] 26) := by rw [← hV]; exact (heap_alloc_old _ _ (by simp)).trans (World.alloc_heap_new _ _)
  have hVz : W.heap.size < V.heap.size := (Array.getElem?_eq_some_iff.1 hb0).1
  have HGV := Lib.hid (hG.below hG.lt hBV)
  have HVB := Lib.hid (hv.below hv.hn hBV)
  have HN := Lib.hid hv.hn
  have c0 : V.cell? ⟨W.heap.size, 0, none⟩ = some (.slice sa n1 sc) := blk_cell hb0
  have c1 : V.cell? ⟨W.heap.size, 1, none⟩ = some (.int .i64 b.wth) := blk_cell hb0
  have c2 : V.cell? ⟨W.heap.size, 2, none⟩ = some (.int .i64 b.c0) := blk_cell hb0
  have c3 : V.cell? ⟨W.heap.size, 3, none⟩ = some (.int .i64 b.c1) := blk_cell hb0
  have c4 : V.cell? ⟨W.heap.size, 4, none⟩ = some (.int .i64 b.c2) := blk_cell hb0
  have c5 : V.cell? ⟨W.heap.size, 5, none⟩ = some (.slice ka n2 kc) := blk_cell hb0
  have c6 : V.cell? ⟨W.heap.size, 6, none⟩ = some (.int .i64 b.rate) := blk_cell hb0
  have hr0 : V.heap[W.heap.size + 1]? = some zero79 := by rw [← hV]; have := World.alloc_heap_new (W.alloc (Obj.cells #[.slice sa n1 sc, .int .i64 b.wth, .int .i64 b.c0, .int .i64 b.c1, .int .i64 b.c2, .slice ka n2 kc, .int .i64 b.rate] 26)) zero79; rwa [World.size_alloc] at this
  have hVy : W.heap.size + 1 < V.heap.size := (Array.getElem?_eq_some_iff.1 hr0).1
  have z0 : V.cell? ⟨W.heap.size + 1, 0, none⟩ = some (.slice none 0 0) := blk_cell hr0
  have z1 : V.cell? ⟨W.heap.size + 1, 1, none⟩ = some (.int .i64 0) := blk_cell hr0
  have z2 : V.cell? ⟨W.heap.size + 1, 2, none⟩ = some (.int .i64 0) := blk_cell hr0
  have z3 : V.cell? ⟨W.heap.size + 1, 3, none⟩ = some (.int .i64 0) := blk_cell hr0
  have z4 : V.cell? ⟨W.heap.size + 1, 4, none⟩ = some (.int .i64 0) := blk_cell hr0
  have z5 : V.cell? ⟨W.heap.size + 1, 5, none⟩ = some (.slice none 0 0) := blk_cell hr0
  have z6 : V.cell? ⟨W.heap.size + 1, 6, none⟩ = some (.int .i64 0) := blk_cell hr0
  have z7 : V.cell? ⟨W.heap.size + 1, 7, none⟩ = some (.map none) := blk_cell hr0
  have z8 : V.cell? ⟨W.heap.size + 1, 8, none⟩ = some (.slice none 0 0) := blk_cell hr0
  have zf0 := blk_frozen hr0 0
  have zf1 := blk_frozen hr0 1
  have zf2 := blk_frozen hr0 2
  have zf3 := blk_frozen hr0 3
  have zf4 := blk_frozen hr0 4
  have zf5 := blk_frozen hr0 5
  have zf6 := blk_frozen hr0 6
  have zf7 := blk_frozen hr0 7
  have zf8 := blk_frozen hr0 8
  have HR0 := Lib.hid hr0
  clear hv hG hb0 hr0
  simp only [Bk.cells]
  by_cases hok : bkOk b = true
  · have HCK := Lib.hid (show checkS b = 0 by simp [checkS, hok])
    have HSO := Lib.hid (sound_of hok)
    cases is with
    | false =>
      have HA := Lib.hid (show askE b false = 61 by simp [askE, hok])
      clear hok
      go_enter Tryd.func80, Tryd.ntmps80
      go_upto_region 1 with fail
      try rw [hV]
      clear hV
      go_wp2_with (first
        | (go_at_call 17; refine (check_any _ _ b HVB.out.v).mono ?_; rintro e w1 ⟨rfl, hb1⟩; rw [HCK.out]; have hk1 := (bcell hb1).1; have hk2 := (bcell hb1).2; have HB1 := Lib.hid hb1; clear hb1)
        | fail)
      have hst := stored9 ((HB1.out.block _ hVy).trans HR0.out) (.slice none 0 0) (.int .i64 0) (.int .i64 0) (.int .i64 0) (.int .i64 0) (.slice none 0 0) (.int .i64 0) (.map none) (.slice none 0 0)
      have HST := Lib.hid hst
      clear hst
      generalize (((((((((w1.setCell ⟨W.heap.size + 1, 0, none⟩ (.slice none 0 0)).setCell ⟨W.heap.size + 1, 1, none⟩ (.int .i64 0)).setCell ⟨W.heap.size + 1, 2, none⟩ (.int .i64 0)).setCell ⟨W.heap.size + 1, 3, none⟩ (.int .i64 0)).setCell ⟨W.heap.size + 1, 4, none⟩ (.int .i64 0)).setCell ⟨W.heap.size + 1, 5, none⟩ (.slice none 0 0)).setCell ⟨W.heap.size + 1, 6, none⟩ (.int .i64 0)).setCell ⟨W.heap.size + 1, 7, none⟩ (.map none)).setCell ⟨W.heap.size + 1, 8, none⟩ (.slice none 0 0)) = W9 at HST ⊢
      have k0 : W9.cell? ⟨W.heap.size + 1, 0, none⟩ = some (.slice none 0 0) := blk_cell HST.out.cells
      have k1 : W9.cell? ⟨W.heap.size + 1, 1, none⟩ = some (.int .i64 0) := blk_cell HST.out.cells
      have k2 : W9.cell? ⟨W.heap.size + 1, 2, none⟩ = some (.int .i64 0) := blk_cell HST.out.cells
      have k3 : W9.cell? ⟨W.heap.size + 1, 3, none⟩ = some (.int .i64 0) := blk_cell HST.out.cells
      have k4 : W9.cell? ⟨W.heap.size + 1, 4, none⟩ = some (.int .i64 0) := blk_cell HST.out.cells
      have k5 : W9.cell? ⟨W.heap.size + 1, 5, none⟩ = some (.slice none 0 0) := blk_cell HST.out.cells
      have k6 : W9.cell? ⟨W.heap.size + 1, 6, none⟩ = some (.int .i64 0) := blk_cell HST.out.cells
      have k7 : W9.cell? ⟨W.heap.size + 1, 7, none⟩ = some (.map none) := blk_cell HST.out.cells
      have k8 : W9.cell? ⟨W.heap.size + 1, 8, none⟩ = some (.slice none 0 0) := blk_cell HST.out.cells
      refine bodyPost_ret (v := .tuple #[.agg #[.slice none 0 0, .int .i64 0, .int .i64 0, .int .i64 0, .int .i64 0, .slice none 0 0, .int .i64 0, .map none, .slice none 0 0], .int .i64 61]) (by simp [results, Tryd.results80, go_sem, k0, k1, k2, k3, k4, k5, k6, k7, k8]) rfl ?_
      exact ⟨⟨[], 0, 0, 0, 0, [], 0⟩, none, none, none, 0, 0, 0, 0, 0, 0, none, by rw [HA.out]; rfl, HST.out.below (hBV.trans (HB1.out.mono hBV.size)) (by omega), fun h => by rw [HA.out] at h; cases h⟩
    | true =>
      clear zf0 zf1 zf2 zf3 zf4 zf5 zf6 zf7 zf8 z0 z1 z2 z3 z4 z5 z6 z7 z8
      go_enter Tryd.func80, Tryd.ntmps80
      go_upto_region 1 with fail
      try rw [hV]
      clear hV
      go_upto_region 7 with (first
        | (go_at_call 17; refine (check_any _ _ b HVB.out.v).mono ?_; rintro e w1 ⟨rfl, hb1⟩; rw [HCK.out]; have hk1 := (bcell hb1).1; have HB1 := Lib.hid hb1; clear hb1)
        | (go_at_call 64; refine (opened_nil w1 b (.slice sa n1 sc) (.slice ka n2 kc) n (HVB.out.below HVB.out.hn HB1.out).hn (HVB.out.below HVB.out.hn HB1.out).hs (HVB.out.below HVB.out.hn HB1.out).hk (HGV.out.below HGV.out.lt HB1.out) HSO.out).mono ?_; rintro e w2 ⟨ka', kl', kc', M, tv, rfl, hb2, ht, hfr⟩; obtain ⟨ta, tc, rfl⟩ := ht.slice; have HB2 := Lib.hid hb2; have HT := Lib.hid ht; have HFR := Lib.hid hfr; clear hb2 ht hfr; simp only [Bk.cells9])
        | fail)
      obtain ⟨tl, htl⟩ : ∃ tl, (trCells (truths b)).length = tl := ⟨_, rfl⟩
      rw [htl] at HT HFR ⊢
      have hw20 : w2.heap[W.heap.size + 1]? = some zero79 := (HB2.out.block _ (Nat.lt_of_lt_of_le hVy HB1.out.size)).trans ((HB1.out.block _ hVy).trans HR0.out)
      have hB2 : Below W.heap.size W w2 := (hBV.trans (HB1.out.mono hBV.size)).trans (HB2.out.mono (Nat.le_trans hBV.size HB1.out.size))
      have hw2z : W.heap.size + 1 < w2.heap.size := (Array.getElem?_eq_some_iff.1 hw20).1
      obtain ⟨Y, hY⟩ : ∃ Y, w2.alloc (.cells #[.slice sa n1 sc, .int .i64 b.wth, .int .i64 b.c0, .int .i64 b.c1, .int .i64 b.c2, .slice ka' kl' kc', .int .i64 b.rate, .map (some M), .slice ta tl tc] 79) = Y := ⟨_, rfl⟩
      have hY0 : Y.heap[w2.heap.size]? = some (.cells #[.slice sa n1 sc, .int .i64 b.wth, .int .i64 b.c0, .int .i64 b.c1, .int .i64 b.c2, .slice ka' kl' kc', .int .i64 b.rate, .map (some M), .slice ta tl tc] 79) := by rw [← hY]; exact World.alloc_heap_new _ _
      have hYr : Y.heap[W.heap.size + 1]? = some zero79 := by rw [← hY]; exact (heap_alloc_old _ _ hw2z).trans hw20
      have hBY : Below w2.heap.size w2 Y := by rw [← hY]; exact (Below.refl _ _).alloc (Nat.le_refl _) _
      rw [hY]
      have y0 : Y.cell? ⟨w2.heap.size, 0, none⟩ = some (.slice sa n1 sc) := blk_cell hY0
      have y1 : Y.cell? ⟨w2.heap.size, 1, none⟩ = some (.int .i64 b.wth) := blk_cell hY0
      have y2 : Y.cell? ⟨w2.heap.size, 2, none⟩ = some (.int .i64 b.c0) := blk_cell hY0
      have y3 : Y.cell? ⟨w2.heap.size, 3, none⟩ = some (.int .i64 b.c1) := blk_cell hY0
      have y4 : Y.cell? ⟨w2.heap.size, 4, none⟩ = some (.int .i64 b.c2) := blk_cell hY0
      have y5 : Y.cell? ⟨w2.heap.size, 5, none⟩ = some (.slice ka' kl' kc') := blk_cell hY0
      have y6 : Y.cell? ⟨w2.heap.size, 6, none⟩ = some (.int .i64 b.rate) := blk_cell hY0
      have y7 : Y.cell? ⟨w2.heap.size, 7, none⟩ = some (.map (some M)) := blk_cell hY0
      have y8 : Y.cell? ⟨w2.heap.size, 8, none⟩ = some (.slice ta tl tc) := blk_cell hY0
      have z0 : Y.cell? ⟨W.heap.size + 1, 0, none⟩ = some (.slice none 0 0) := blk_cell hYr
      have z1 : Y.cell? ⟨W.heap.size + 1, 1, none⟩ = some (.int .i64 0) := blk_cell hYr
      have z2 : Y.cell? ⟨W.heap.size + 1, 2, none⟩ = some (.int .i64 0) := blk_cell hYr
      have z3 : Y.cell? ⟨W.heap.size + 1, 3, none⟩ = some (.int .i64 0) := blk_cell hYr
      have z4 : Y.cell? ⟨W.heap.size + 1, 4, none⟩ = some (.int .i64 0) := blk_cell hYr
      have z5 : Y.cell? ⟨W.heap.size + 1, 5, none⟩ = some (.slice none 0 0) := blk_cell hYr
      have z6 : Y.cell? ⟨W.heap.size + 1, 6, none⟩ = some (.int .i64 0) := blk_cell hYr
      have z7 : Y.cell? ⟨W.heap.size + 1, 7, none⟩ = some (.map none) := blk_cell hYr
      have z8 : Y.cell? ⟨W.heap.size + 1, 8, none⟩ = some (.slice none 0 0) := blk_cell hYr
      have zf0 := blk_frozen hYr 0
      have zf1 := blk_frozen hYr 1
      have zf2 := blk_frozen hYr 2
      have zf3 := blk_frozen hYr 3
      have zf4 := blk_frozen hYr 4
      have zf5 := blk_frozen hYr 5
      have zf6 := blk_frozen hYr 6
      have zf7 := blk_frozen hYr 7
      have zf8 := blk_frozen hYr 8
      have HYR := Lib.hid hYr
      have HTY := Lib.hid (HT.out.below (Nat.le_refl _) hBY)
      have HB2Y := Lib.hid (hB2.trans (hBY.mono (by omega)))
      have HY0 := Lib.hid hY0
      have hYz : w2.heap.size < Y.heap.size := (Array.getElem?_eq_some_iff.1 hY0).1
      have HYZ := Lib.hid hYz
      have HWZ := Lib.hid hw2z
      have hfr2 : ∀ g, (Value.slice ta tl tc).ownBlock = some g → W.heap.size + 2 ≤ g := fun g hg => by have := HFR.out g hg; have := HB1.out.size; omega
      have HFR2 := Lib.hid hfr2
      clear hfr2 hw20 hB2 hY hYr hBY hY0 HB2 HT HR0 HB1 HVB HGV HCK c0 c1 c2 c3 c4 c5 c6
      by_cases he : (truths b).isEmpty = true
      · have HA := Lib.hid (show askE b true = 62 by simp [askE, hok, he])
        have h0 : tl = 0 := by rw [← htl]; simp [trCells, List.isEmpty_iff.1 he]
        subst h0
        clear he hok htl
        go_wp2_with fail
        have hst := stored9 HYR.out (.slice sa n1 sc) (.int .i64 b.wth) (.int .i64 b.c0) (.int .i64 b.c1) (.int .i64 b.c2) (.slice ka' kl' kc') (.int .i64 b.rate) (.map (some M)) (.slice ta 0 tc)
        have HST := Lib.hid hst
        clear hst
        generalize (((((((((Y.setCell ⟨W.heap.size + 1, 0, none⟩ (.slice sa n1 sc)).setCell ⟨W.heap.size + 1, 1, none⟩ (.int .i64 b.wth)).setCell ⟨W.heap.size + 1, 2, none⟩ (.int .i64 b.c0)).setCell ⟨W.heap.size + 1, 3, none⟩ (.int .i64 b.c1)).setCell ⟨W.heap.size + 1, 4, none⟩ (.int .i64 b.c2)).setCell ⟨W.heap.size + 1, 5, none⟩ (.slice ka' kl' kc')).setCell ⟨W.heap.size + 1, 6, none⟩ (.int .i64 b.rate)).setCell ⟨W.heap.size + 1, 7, none⟩ (.map (some M))).setCell ⟨W.heap.size + 1, 8, none⟩ (.slice ta 0 tc)) = W9 at HST ⊢
        have k0 : W9.cell? ⟨W.heap.size + 1, 0, none⟩ = some (.slice sa n1 sc) := blk_cell HST.out.cells
        have k1 : W9.cell? ⟨W.heap.size + 1, 1, none⟩ = some (.int .i64 b.wth) := blk_cell HST.out.cells
        have k2 : W9.cell? ⟨W.heap.size + 1, 2, none⟩ = some (.int .i64 b.c0) := blk_cell HST.out.cells
        have k3 : W9.cell? ⟨W.heap.size + 1, 3, none⟩ = some (.int .i64 b.c1) := blk_cell HST.out.cells
        have k4 : W9.cell? ⟨W.heap.size + 1, 4, none⟩ = some (.int .i64 b.c2) := blk_cell HST.out.cells
        have k5 : W9.cell? ⟨W.heap.size + 1, 5, none⟩ = some (.slice ka' kl' kc') := blk_cell HST.out.cells
        have k6 : W9.cell? ⟨W.heap.size + 1, 6, none⟩ = some (.int .i64 b.rate) := blk_cell HST.out.cells
        have k7 : W9.cell? ⟨W.heap.size + 1, 7, none⟩ = some (.map (some M)) := blk_cell HST.out.cells
        have k8 : W9.cell? ⟨W.heap.size + 1, 8, none⟩ = some (.slice ta 0 tc) := blk_cell HST.out.cells
        refine bodyPost_ret (v := .tuple #[.agg #[.slice sa n1 sc, .int .i64 b.wth, .int .i64 b.c0, .int .i64 b.c1, .int .i64 b.c2, .slice ka' kl' kc', .int .i64 b.rate, .map (some M), .slice ta 0 tc], .int .i64 62]) (by simp [results, Tryd.results80, go_sem, k0, k1, k2, k3, k4, k5, k6, k7, k8]) rfl ?_
        exact ⟨b, sa, ka', ta, n1, sc, kl', kc', 0, tc, some M, by rw [HA.out]; rfl, HST.out.below HB2Y.out (by omega), fun h => by rw [HA.out] at h; cases h⟩
      · have HA := Lib.hid (show askE b true = 0 by simp [askE, hok, he])
        have h0 : ¬ tl = 0 := by rw [← htl]; simpa [trCells, List.isEmpty_iff] using he
        have h0b : (tl == 0) = false := by simpa using h0
        have h0c : ((tl : Int) == 0) = false := by simpa using h0
        clear he hok htl
        go_wp2_with fail
        have hst := stored9 HYR.out (.slice sa n1 sc) (.int .i64 b.wth) (.int .i64 b.c0) (.int .i64 b.c1) (.int .i64 b.c2) (.slice ka' kl' kc') (.int .i64 b.rate) (.map (some M)) (.slice ta tl tc)
        have HST := Lib.hid hst
        clear hst
        generalize (((((((((Y.setCell ⟨W.heap.size + 1, 0, none⟩ (.slice sa n1 sc)).setCell ⟨W.heap.size + 1, 1, none⟩ (.int .i64 b.wth)).setCell ⟨W.heap.size + 1, 2, none⟩ (.int .i64 b.c0)).setCell ⟨W.heap.size + 1, 3, none⟩ (.int .i64 b.c1)).setCell ⟨W.heap.size + 1, 4, none⟩ (.int .i64 b.c2)).setCell ⟨W.heap.size + 1, 5, none⟩ (.slice ka' kl' kc')).setCell ⟨W.heap.size + 1, 6, none⟩ (.int .i64 b.rate)).setCell ⟨W.heap.size + 1, 7, none⟩ (.map (some M))).setCell ⟨W.heap.size + 1, 8, none⟩ (.slice ta tl tc)) = W9 at HST ⊢
        have k0 : W9.cell? ⟨W.heap.size + 1, 0, none⟩ = some (.slice sa n1 sc) := blk_cell HST.out.cells
        have k1 : W9.cell? ⟨W.heap.size + 1, 1, none⟩ = some (.int .i64 b.wth) := blk_cell HST.out.cells
        have k2 : W9.cell? ⟨W.heap.size + 1, 2, none⟩ = some (.int .i64 b.c0) := blk_cell HST.out.cells
        have k3 : W9.cell? ⟨W.heap.size + 1, 3, none⟩ = some (.int .i64 b.c1) := blk_cell HST.out.cells
        have k4 : W9.cell? ⟨W.heap.size + 1, 4, none⟩ = some (.int .i64 b.c2) := blk_cell HST.out.cells
        have k5 : W9.cell? ⟨W.heap.size + 1, 5, none⟩ = some (.slice ka' kl' kc') := blk_cell HST.out.cells
        have k6 : W9.cell? ⟨W.heap.size + 1, 6, none⟩ = some (.int .i64 b.rate) := blk_cell HST.out.cells
        have k7 : W9.cell? ⟨W.heap.size + 1, 7, none⟩ = some (.map (some M)) := blk_cell HST.out.cells
        have k8 : W9.cell? ⟨W.heap.size + 1, 8, none⟩ = some (.slice ta tl tc) := blk_cell HST.out.cells
        refine bodyPost_ret (v := .tuple #[.agg #[.slice sa n1 sc, .int .i64 b.wth, .int .i64 b.c0, .int .i64 b.c1, .int .i64 b.c2, .slice ka' kl' kc', .int .i64 b.rate, .map (some M), .slice ta tl tc], .int .i64 0]) (by simp [results, Tryd.results80, go_sem, k0, k1, k2, k3, k4, k5, k6, k7, k8]) rfl ?_
        exact ⟨b, sa, ka', ta, n1, sc, kl', kc', tl, tc, some M, by rw [HA.out]; rfl, HST.out.below HB2Y.out (by omega), fun _ => ⟨rfl, rfl, rfl, rfl, HST.out.slOf HTY.out (fun g o len cap e h => by have := HFR2.out g (by rw [e]; rfl); omega) (by have := HYZ.out; omega), fun g hg => by have := HFR2.out g hg; omega⟩⟩
  · have HCK := Lib.hid (show checkS b = 60 by simp [checkS, hok])
    have HA := Lib.hid (show askE b is = 60 by simp [askE, hok])
    clear hok
    go_enter Tryd.func80, Tryd.ntmps80
    go_upto_region 1 with fail
    try rw [hV]
    clear hV
    go_wp2_with (first
      | (go_at_call 17; refine (check_any _ _ b HVB.out.v).mono ?_; rintro e w1 ⟨rfl, hb1⟩; rw [HCK.out]; have hk1 := (bcell hb1).1; have hk2 := (bcell hb1).2; have HB1 := Lib.hid hb1; clear hb1)
      | fail)
    have hst := stored9 ((HB1.out.block _ hVy).trans HR0.out) (.slice none 0 0) (.int .i64 0) (.int .i64 0) (.int .i64 0) (.int .i64 0) (.slice none 0 0) (.int .i64 0) (.map none) (.slice none 0 0)
    have HST := Lib.hid hst
    clear hst
    generalize (((((((((w1.setCell ⟨W.heap.size + 1, 0, none⟩ (.slice none 0 0)).setCell ⟨W.heap.size + 1, 1, none⟩ (.int .i64 0)).setCell ⟨W.heap.size + 1, 2, none⟩ (.int .i64 0)).setCell ⟨W.heap.size + 1, 3, none⟩ (.int .i64 0)).setCell ⟨W.heap.size + 1, 4, none⟩ (.int .i64 0)).setCell ⟨W.heap.size + 1, 5, none⟩ (.slice none 0 0)).setCell ⟨W.heap.size + 1, 6, none⟩ (.int .i64 0)).setCell ⟨W.heap.size + 1, 7, none⟩ (.map none)).setCell ⟨W.heap.size + 1, 8, none⟩ (.slice none 0 0)) = W9 at HST ⊢
    have k0 : W9.cell? ⟨W.heap.size + 1, 0, none⟩ = some (.slice none 0 0) := blk_cell HST.out.cells
    have k1 : W9.cell? ⟨W.heap.size + 1, 1, none⟩ = some (.int .i64 0) := blk_cell HST.out.cells
    have k2 : W9.cell? ⟨W.heap.size + 1, 2, none⟩ = some (.int .i64 0) := blk_cell HST.out.cells
    have k3 : W9.cell? ⟨W.heap.size + 1, 3, none⟩ = some (.int .i64 0) := blk_cell HST.out.cells
    have k4 : W9.cell? ⟨W.heap.size + 1, 4, none⟩ = some (.int .i64 0) := blk_cell HST.out.cells
    have k5 : W9.cell? ⟨W.heap.size + 1, 5, none⟩ = some (.slice none 0 0) := blk_cell HST.out.cells
    have k6 : W9.cell? ⟨W.heap.size + 1, 6, none⟩ = some (.int .i64 0) := blk_cell HST.out.cells
    have k7 : W9.cell? ⟨W.heap.size + 1, 7, none⟩ = some (.map none) := blk_cell HST.out.cells
    have k8 : W9.cell? ⟨W.heap.size + 1, 8, none⟩ = some (.slice none 0 0) := blk_cell HST.out.cells
    refine bodyPost_ret (v := .tuple #[.agg #[.slice none 0 0, .int .i64 0, .int .i64 0, .int .i64 0, .int .i64 0, .slice none 0 0, .int .i64 0, .map none, .slice none 0 0], .int .i64 60]) (by simp [results, Tryd.results80, go_sem, k0, k1, k2, k3, k4, k5, k6, k7, k8]) rfl ?_
    exact ⟨⟨[], 0, 0, 0, 0, [], 0⟩, none, none, none, 0, 0, 0, 0, 0, 0, none, by rw [HA.out]; rfl, HST.out.below (hBV.trans (HB1.out.mono hBV.size)) (by omega), fun h => by rw [HA.out] at h; cases h⟩
end Go.Proofs.YtbhjfojbjpbdbaaDoor
namespace Go.Proofs.YtbhjfojbjpbdbaaDoor
open Go.RowKit
theorem box2 (W : World) (o1 : Obj) (c : Array Value) (T : TypeId) : ((W.alloc o1).alloc (.cells c T)).heap[W.heap.size + 1]? = some (.cells c T) := by
  have := World.alloc_heap_new (W.alloc o1) (.cells c T)
  rwa [World.size_alloc] at this
set_option maxHeartbeats 1000000 in
theorem comes1_any (W : World) (b : Bk) (sa ka ta : Option Addr) (sl sc kl kc tl tc : Nat) (mo : Option Nat) (t : Tr) (j PA : Nat) (hj : j < 3) (hA : W.heap[PA]? = some (.cells #[.int .i64 (j : Int)] 3)) :
    Calls Tryd.prog 72 #[.agg (b.cells9 (.slice sa sl sc) (.slice ka kl kc) (.map mo) (.slice ta tl tc)).toArray, .agg t.cells.toArray, .pointer (some ⟨PA, 0, none⟩)] W fun e W' =>
      e = .returned (.int .i64 (t.comes j)) ∧ Below W.heap.size W W' := by
  obtain ⟨V, hV⟩ : ∃ V, (W.alloc (.cells (b.cells9 (.slice sa sl sc) (.slice ka kl kc) (.map mo) (.slice ta tl tc)).toArray 79)).alloc (.cells t.cells.toArray 87) = V := ⟨_, rfl⟩
  have hBV : Below W.heap.size W V := by rw [← hV]; exact ((Below.refl _ _).alloc (Nat.le_refl _) _).alloc (by simp) _
  have hT : V.heap[W.heap.size + 1]? = some (.cells t.cells.toArray 87) := by rw [← hV]; exact box2 _ _ _ _
  have a0 : V.cell? ⟨PA, 0, none⟩ = some (.int .i64 (j : Int)) := (hBV.cell (p := ⟨PA, 0, none⟩) ((Array.getElem?_eq_some_iff.1 hA).1)).trans (blk_cell hA)
  have ij : (j : Int) < 3 := by omega
  have ca := tr_cell_a t hT hj
  have l1 : PA < V.heap.size := lt_of_cell a0
  clear hT hA
  simp only [Bk.cells9, Tr.cells]
  simp only [Bk.cells9, Tr.cells] at hV
  go_enter Tryd.func72, Tryd.ntmps72
  go_upto_region 1 with fail
  try rw [hV]
  clear hV
  go_wp2
  go_ret
  exact ⟨rfl, hBV⟩
set_option maxHeartbeats 1000000 in
theorem rough1_any (W : World) (b : Bk) (sa ka ta : Option Addr) (sl sc kl kc tl tc : Nat) (mo : Option Nat) (t : Tr) (j PA : Nat) (hj : j < 3) (hA : W.heap[PA]? = some (.cells #[.int .i64 (j : Int)] 3)) :
    Calls Tryd.prog 79 #[.agg (b.cells9 (.slice sa sl sc) (.slice ka kl kc) (.map mo) (.slice ta tl tc)).toArray, .agg t.cells.toArray, .pointer (some ⟨PA, 0, none⟩)] W fun e W' =>
      e = .returned (.int .i64 (t.rough j)) ∧ Below W.heap.size W W' := by
  obtain ⟨V, hV⟩ : ∃ V, (W.alloc (.cells (b.cells9 (.slice sa sl sc) (.slice ka kl kc) (.map mo) (.slice ta tl tc)).toArray 79)).alloc (.cells t.cells.toArray 87) = V := ⟨_, rfl⟩
  have hBV : Below W.heap.size W V := by rw [← hV]; exact ((Below.refl _ _).alloc (Nat.le_refl _) _).alloc (by simp) _
  have hT : V.heap[W.heap.size + 1]? = some (.cells t.cells.toArray 87) := by rw [← hV]; exact box2 _ _ _ _
  have a0 : V.cell? ⟨PA, 0, none⟩ = some (.int .i64 (j : Int)) := (hBV.cell (p := ⟨PA, 0, none⟩) ((Array.getElem?_eq_some_iff.1 hA).1)).trans (blk_cell hA)
  have ij : (j : Int) < 3 := by omega
  have ca := tr_cell_b t hT hj
  have l1 : PA < V.heap.size := lt_of_cell a0
  clear hT hA
  simp only [Bk.cells9, Tr.cells]
  simp only [Bk.cells9, Tr.cells] at hV
  go_enter Tryd.func79, Tryd.ntmps79
  go_upto_region 1 with fail
  try rw [hV]
  clear hV
  go_wp2
  go_ret
  exact ⟨rfl, hBV⟩
set_option maxHeartbeats 1000000 in
theorem late1_any (W : World) (b : Bk) (sa ka ta : Option Addr) (sl sc kl kc tl tc n : Nat) (mo : Option Nat) (t : Tr) (j PA : Nat) (hj : j < b.sts.length) (h3 : b.sts.length ≤ 3) (hn : n ≤ W.heap.size) (hs : SlOf W n 7 (.slice sa sl sc) (stCells b.sts)) (ht : TrOk t)
    (hd : 0 ≤ b.due j ∧ b.due j ≤ 1000) (hA : W.heap[PA]? = some (.cells #[.int .i64 (j : Int)] 3)) :
    Calls Tryd.prog 76 #[.agg (b.cells9 (.slice sa sl sc) (.slice ka kl kc) (.map mo) (.slice ta tl tc)).toArray, .agg t.cells.toArray, .pointer (some ⟨PA, 0, none⟩)] W fun e W' =>
      e = .returned (.int .i64 (lateT b j t)) ∧ Below W.heap.size W W' := by
  obtain ⟨V, hV⟩ : ∃ V, (W.alloc (.cells (b.cells9 (.slice sa sl sc) (.slice ka kl kc) (.map mo) (.slice ta tl tc)).toArray 79)).alloc (.cells t.cells.toArray 87) = V := ⟨_, rfl⟩
  have hBV : Below W.heap.size W V := by rw [← hV]; exact ((Below.refl _ _).alloc (Nat.le_refl _) _).alloc (by simp) _
  have HS := Lib.hid (hs.below hn hBV)
  have HN := Lib.hid (Nat.le_trans hn hBV.size)
  have hT : V.heap[W.heap.size + 1]? = some (.cells t.cells.toArray 87) := by rw [← hV]; exact box2 _ _ _ _
  have hB : V.heap[W.heap.size]? = some (.cells (b.cells9 (.slice sa sl sc) (.slice ka kl kc) (.map mo) (.slice ta tl tc)).toArray 79) := by rw [← hV]; exact (heap_alloc_old _ _ (by simp)).trans (World.alloc_heap_new _ _)
  have a0 : V.cell? ⟨PA, 0, none⟩ = some (.int .i64 (j : Int)) := (hBV.cell (p := ⟨PA, 0, none⟩) ((Array.getElem?_eq_some_iff.1 hA).1)).trans (blk_cell hA)
  have p0 : V.cell? ⟨W.heap.size + 1, 0, none⟩ = some (.int .i64 t.w) := blk_cell hT
  have p1 : V.cell? ⟨W.heap.size + 1, 1, none⟩ = some (.int .i64 t.a0) := blk_cell hT
  have p2 : V.cell? ⟨W.heap.size + 1, 2, none⟩ = some (.int .i64 t.a1) := blk_cell hT
  have p3 : V.cell? ⟨W.heap.size + 1, 3, none⟩ = some (.int .i64 t.a2) := blk_cell hT
  have p4 : V.cell? ⟨W.heap.size + 1, 4, none⟩ = some (.int .i64 t.b0) := blk_cell hT
  have p5 : V.cell? ⟨W.heap.size + 1, 5, none⟩ = some (.int .i64 t.b1) := blk_cell hT
  have p6 : V.cell? ⟨W.heap.size + 1, 6, none⟩ = some (.int .i64 t.b2) := blk_cell hT
  have q0 : V.cell? ⟨W.heap.size, 0, none⟩ = some (.slice sa sl sc) := blk_cell hB
  have q1 : V.cell? ⟨W.heap.size, 1, none⟩ = some (.int .i64 b.wth) := blk_cell hB
  have q2 : V.cell? ⟨W.heap.size, 2, none⟩ = some (.int .i64 b.c0) := blk_cell hB
  have q3 : V.cell? ⟨W.heap.size, 3, none⟩ = some (.int .i64 b.c1) := blk_cell hB
  have q4 : V.cell? ⟨W.heap.size, 4, none⟩ = some (.int .i64 b.c2) := blk_cell hB
  have q5 : V.cell? ⟨W.heap.size, 5, none⟩ = some (.slice ka kl kc) := blk_cell hB
  have q6 : V.cell? ⟨W.heap.size, 6, none⟩ = some (.int .i64 b.rate) := blk_cell hB
  have q7 : V.cell? ⟨W.heap.size, 7, none⟩ = some (.map mo) := blk_cell hB
  have q8 : V.cell? ⟨W.heap.size, 8, none⟩ = some (.slice ta tl tc) := blk_cell hB
  have l1 : PA < V.heap.size := lt_of_cell a0
  clear hT hB hA hs hn
  simp only [Bk.cells9, Tr.cells]
  simp only [Bk.cells9, Tr.cells] at hV
  go_enter Tryd.func76, Tryd.ntmps76
  go_upto_region 1 with fail
  try rw [hV]
  clear hV
  go_wp2_with (go_at_call 77; refine (late_any V b (.slice sa sl sc) (.slice ka kl kc) (.map mo) (.slice ta tl tc) n t j HN.out HS.out hj h3 ht hd).mono ?_; rintro e w1 ⟨rfl, hb1⟩; have HB1 := Lib.hid hb1; clear hb1)
  go_ret
  exact ⟨rfl, hBV.trans (HB1.out.mono hBV.size)⟩
def OfFn (W : World) (b : Bk) (sa : Option Addr) (sl sc g PA : Nat) (f : Tr → Int) : Prop :=
  ∀ (ka ta : Option Addr) (kl kc tl tc : Nat) (mo : Option Nat) (t : Tr) (W2 : World), TrOk t → Below W.heap.size W W2 →
    Calls Tryd.prog g #[.agg (b.cells9 (.slice sa sl sc) (.slice ka kl kc) (.map mo) (.slice ta tl tc)).toArray, .agg t.cells.toArray, .pointer (some ⟨PA, 0, none⟩)] W2 fun e W3 => e = .returned (.int .i64 (f t)) ∧ Below W2.heap.size W2 W3
set_option maxHeartbeats 1000000 in
theorem stage1_any (W W1 : World) (b : Bk) (sa ka ta : Option Addr) (sl sc kl kc tl tc : Nat) (mo : Option Nat) (t : Tr) (g PA P5 P8 : Nat) (f : Tr → Int) (ht : TrOk t) (hof : OfFn W b sa sl sc g PA f) (he : Enters g) (hb : Below W.heap.size W W1)
    (h5 : W1.heap[P5]? = some (.cells #[.func (.func g) #[] #[.pointer (some ⟨PA, 0, none⟩)]] 88)) (h8 : W1.heap[P8]? = some (.cells (b.cells9 (.slice sa sl sc) (.slice ka kl kc) (.map mo) (.slice ta tl tc)).toArray 79)) :
    Calls Tryd.prog 97 #[.agg t.cells.toArray, .pointer (some ⟨P5, 0, none⟩), .pointer (some ⟨P8, 0, none⟩)] W1 fun e W' => e = .returned (.int .i64 (f t)) ∧ Below W1.heap.size W1 W' := by
  obtain ⟨V, hV⟩ : ∃ V, W1.alloc (.cells t.cells.toArray 87) = V := ⟨_, rfl⟩
  have hBV : Below W1.heap.size W1 V := by rw [← hV]; exact (Below.refl _ _).alloc (Nat.le_refl _) _
  have hT : V.heap[W1.heap.size]? = some (.cells t.cells.toArray 87) := by rw [← hV]; exact World.alloc_heap_new _ _
  have g5 := (hBV.block P5 (Array.getElem?_eq_some_iff.1 h5).1).trans h5
  have g8 := (hBV.block P8 (Array.getElem?_eq_some_iff.1 h8).1).trans h8
  have c5 : V.cell? ⟨P5, 0, none⟩ = some (.func (.func g) #[] #[.pointer (some ⟨PA, 0, none⟩)]) := blk_cell g5
  have p0 : V.cell? ⟨W1.heap.size, 0, none⟩ = some (.int .i64 t.w) := blk_cell hT
  have p1 : V.cell? ⟨W1.heap.size, 1, none⟩ = some (.int .i64 t.a0) := blk_cell hT
  have p2 : V.cell? ⟨W1.heap.size, 2, none⟩ = some (.int .i64 t.a1) := blk_cell hT
  have p3 : V.cell? ⟨W1.heap.size, 3, none⟩ = some (.int .i64 t.a2) := blk_cell hT
  have p4 : V.cell? ⟨W1.heap.size, 4, none⟩ = some (.int .i64 t.b0) := blk_cell hT
  have p5 : V.cell? ⟨W1.heap.size, 5, none⟩ = some (.int .i64 t.b1) := blk_cell hT
  have p6 : V.cell? ⟨W1.heap.size, 6, none⟩ = some (.int .i64 t.b2) := blk_cell hT
  have q0 : V.cell? ⟨P8, 0, none⟩ = some (.slice sa sl sc) := blk_cell g8
  have q1 : V.cell? ⟨P8, 1, none⟩ = some (.int .i64 b.wth) := blk_cell g8
  have q2 : V.cell? ⟨P8, 2, none⟩ = some (.int .i64 b.c0) := blk_cell g8
  have q3 : V.cell? ⟨P8, 3, none⟩ = some (.int .i64 b.c1) := blk_cell g8
  have q4 : V.cell? ⟨P8, 4, none⟩ = some (.int .i64 b.c2) := blk_cell g8
  have q5 : V.cell? ⟨P8, 5, none⟩ = some (.slice ka kl kc) := blk_cell g8
  have q6 : V.cell? ⟨P8, 6, none⟩ = some (.int .i64 b.rate) := blk_cell g8
  have q7 : V.cell? ⟨P8, 7, none⟩ = some (.map mo) := blk_cell g8
  have q8 : V.cell? ⟨P8, 8, none⟩ = some (.slice ta tl tc) := blk_cell g8
  have l5 := lt_of_cell c5
  have l8 := lt_of_cell q0
  have hcall := hof ka ta kl kc tl tc mo t V ht (hb.trans (hBV.mono hb.size))
  have HC := Lib.hid hcall
  have he' := he
  unfold Enters at he'
  clear hT g5 g8 h5 h8 hcall hof he
  simp only [Tr.cells]
  simp only [Tr.cells] at hV
  go_enter Tryd.func97, Tryd.ntmps97
  go_upto_region 1 with fail
  try rw [hV]
  clear hV
  go_wp2_with (first | (refine HC.out.mono ?_; rintro e w1 ⟨rfl, hb1⟩; have HB1 := Lib.hid hb1; clear hb1) | fail)
  go_ret
  exact ⟨rfl, hBV.trans (HB1.out.mono hBV.size)⟩
theorem stored2 {B K : Nat} {T : TypeId} {V W : World} {z0 z1 : Value} (h : W.heap[B]? = some (.cells #[z0, z1] T)) (v0 v1 : Value) (hb : Below K V W) (hB : K ≤ B) :
    ((W.setCell ⟨B, 0, none⟩ v0).setCell ⟨B, 1, none⟩ v1).cell? ⟨B, 0, none⟩ = some v0 ∧ ((W.setCell ⟨B, 0, none⟩ v0).setCell ⟨B, 1, none⟩ v1).cell? ⟨B, 1, none⟩ = some v1 ∧ Below K V ((W.setCell ⟨B, 0, none⟩ v0).setCell ⟨B, 1, none⟩ v1) := by
  have h2 := blk_set (v := v1) (j := 1) (blk_set (v := v0) (j := 0) h)
  exact ⟨(blk_cell h2).trans (by simp), (blk_cell h2).trans (by simp), (hb.setCell (p := ⟨B, 0, none⟩) hB v0).setCell (p := ⟨B, 1, none⟩) hB v1⟩
theorem asked_new {V w2 : World} {b x : Bk} {sa sa' ka' ta : Option Addr} {n1 sc sl' sc' kl' kc' tl tc : Nat} {mo : Option Nat} {E : Int} {W0 : Nat} (hb : Below V.drew.heap.size V.drew w2)
    (hx : E = 0 → x = b ∧ sa' = sa ∧ sl' = n1 ∧ sc' = sc ∧ SlOf w2 w2.heap.size 7 (.slice ta tl tc) (trCells (truths b)) ∧ (∀ g, (Value.slice ta tl tc).ownBlock = some g → W0 ≤ g)) :
    let X := w2.alloc (.cells (x.cells9 (.slice sa' sl' sc') (.slice ka' kl' kc') (.map mo) (.slice ta tl tc)).toArray 79)
    Below V.heap.size V X ∧ V.heap.size ≤ w2.heap.size ∧ X.heap[w2.heap.size]? = some (.cells (x.cells9 (.slice sa' sl' sc') (.slice ka' kl' kc') (.map mo) (.slice ta tl tc)).toArray 79) ∧
      (E = 0 → x = b ∧ sa' = sa ∧ sl' = n1 ∧ sc' = sc ∧ SlOf X X.heap.size 7 (.slice ta tl tc) (trCells (truths b))) := by
  have hz : V.heap.size ≤ w2.heap.size := hb.size
  refine ⟨(((Below.refl V.heap.size V).drew.trans hb)).alloc hz _, hz, World.alloc_heap_new _ _, fun h => ?_⟩
  obtain ⟨h1, h2, h3, h4, h5, _⟩ := hx h
  exact ⟨h1, h2, h3, h4, (h5.below (Nat.le_refl _) ((Below.refl _ _).alloc (Nat.le_refl _) _)).mono (by simp)⟩
theorem asked_old {V w2 : World} {b x : Bk} {sa sa' ka' ta : Option Addr} {n1 sc sl' sc' kl' kc' tl tc : Nat} {mo : Option Nat} {E : Int} (hb : Below (V.alloc zero79).drew.heap.size (V.alloc zero79).drew w2)
    (hx : E = 0 → x = b ∧ sa' = sa ∧ sl' = n1 ∧ sc' = sc ∧ SlOf w2 w2.heap.size 7 (.slice ta tl tc) (trCells (truths b)) ∧ (∀ g, (Value.slice ta tl tc).ownBlock = some g → (V.alloc zero79).drew.heap.size ≤ g)) :
    let X := ((((((((w2.setCell ⟨V.heap.size, 0, none⟩ (.slice sa' sl' sc')).setCell ⟨V.heap.size, 1, none⟩ (.int .i64 x.wth)).setCell ⟨V.heap.size, 2, none⟩ (.int .i64 x.c0)).setCell ⟨V.heap.size, 3, none⟩ (.int .i64 x.c1)).setCell ⟨V.heap.size, 4, none⟩ (.int .i64 x.c2)).setCell
      ⟨V.heap.size, 5, none⟩ (.slice ka' kl' kc')).setCell ⟨V.heap.size, 6, none⟩ (.int .i64 x.rate)).setCell ⟨V.heap.size, 7, none⟩ (.map mo)).setCell ⟨V.heap.size, 8, none⟩ (.slice ta tl tc)
    Below V.heap.size V X ∧ V.heap.size ≤ V.heap.size ∧ X.heap[V.heap.size]? = some (.cells (x.cells9 (.slice sa' sl' sc') (.slice ka' kl' kc') (.map mo) (.slice ta tl tc)).toArray 79) ∧
      (E = 0 → x = b ∧ sa' = sa ∧ sl' = n1 ∧ sc' = sc ∧ SlOf X X.heap.size 7 (.slice ta tl tc) (trCells (truths b))) := by
  have hs : (V.alloc zero79).drew.heap.size = V.heap.size + 1 := by show (V.alloc zero79).heap.size = _; simp
  have h0 : (V.alloc zero79).drew.heap[V.heap.size]? = some zero79 := World.alloc_heap_new V zero79
  have hw : w2.heap[V.heap.size]? = some zero79 := (hb.block _ (by omega)).trans h0
  have hst := stored9 hw (.slice sa' sl' sc') (.int .i64 x.wth) (.int .i64 x.c0) (.int .i64 x.c1) (.int .i64 x.c2) (.slice ka' kl' kc') (.int .i64 x.rate) (.map mo) (.slice ta tl tc)
  have hb0 : Below V.heap.size V w2 := (((Below.refl _ V).alloc (Nat.le_refl _) _).drew).trans (hb.mono (by omega))
  intro X
  refine ⟨hst.below hb0 (Nat.le_refl _), Nat.le_refl _, hst.cells, fun h => ?_⟩
  obtain ⟨h1, h2, h3, h4, h5, h6⟩ := hx h
  exact ⟨h1, h2, h3, h4, hst.slOf h5 (fun g o len cap e => by have := h6 g (by rw [e]; rfl); omega) (Nat.le_refl _)⟩
end Go.Proofs.YtbhjfojbjpbdbaaDoor
namespace Go.Proofs.YtbhjfojbjpbdbaaDoor
open Go.ChangeShapes Go.WideShapes Go.ChangeAt Go.RowKit Go.Deep
theorem own : ownKnob Tryd.prog.godebug = none := by kernel_rfl
theorem gKinds : Tryd.prog.globalNamed "macadam/claim.kinds" = some 0 := by kernel_rfl
theorem gNowhere : Tryd.prog.globalNamed "macadam/claim.nowhere" = some 1 := by kernel_rfl
theorem tKinds : (Tryd.prog.globals[0]?).map (·.type) = some 102 := by kernel_rfl
theorem tNowhere : (Tryd.prog.globals[1]?).map (·.type) = some 115 := by kernel_rfl
theorem laidOut : laidOutB Tryd.prog = true := by kernel_rfl
def laidU : List (String × DataW Unit) := [("macadam/claim.nowhere", Rows.laid_macadam_claim_nowhere), ("macadam/claim.kinds", Rows.laid_macadam_claim_kinds)]
theorem cells3 : Tryd.prog.cellsOf 3 = 1 := by kernel_rfl
theorem cells101 : Tryd.prog.cellsOf 101 = 1 := by kernel_rfl
theorem cells102 : Tryd.prog.cellsOf 102 = 2 := by kernel_rfl
theorem cells115 : Tryd.prog.cellsOf 115 = 2 := by kernel_rfl
theorem cells32 : Tryd.prog.cellsOf 32 = 2 := by kernel_rfl
theorem cells42 : Tryd.prog.cellsOf 42 = 3 := by kernel_rfl
theorem cells56 : Tryd.prog.cellsOf 56 = 7 := by kernel_rfl
theorem cells23 : Tryd.prog.cellsOf 23 = 3 := by kernel_rfl
theorem cells22 : Tryd.prog.cellsOf 22 = 1 := by kernel_rfl
theorem cells24 : Tryd.prog.cellsOf 24 = 1 := by kernel_rfl
theorem cells26 : Tryd.prog.cellsOf 26 = 7 := by kernel_rfl
section
variable {H : Type} {enc : TypeId × Value → H} {w : World} {base : Nat} {spare : Nat → Bool} {held : Bool}
theorem two_of {l : List Value} (h : l.length = 2) : ∃ a b, l = [a, b] := by
  match l, h with
  | [a, b], _ => exact ⟨a, b, rfl⟩
theorem three_of {l : List Value} (h : l.length = 3) : ∃ a b c, l = [a, b, c] := by
  match l, h with
  | [a, b, c], _ => exact ⟨a, b, c, rfl⟩
theorem seven_of {l : List Value} (h : l.length = 7) : ∃ a b c d e f g, l = [a, b, c, d, e, f, g] := by
  match l, h with
  | [a, b, c, d, e, f, g], _ => exact ⟨a, b, c, d, e, f, g, rfl⟩
theorem open_i64 {fuel : Nat} {v : Value} {x : DataW H × List MemPlace} (h : DataW.trod enc Tryd.prog w base spare held fuel 3 [v] = some x) : ∃ n : Int, v = .int .i64 n := by
  obtain ⟨n, e, _, _⟩ := DataW.trod_int Tryd.underlying3 h
  injection e with e _
  exact ⟨n, e⟩
theorem open_span {fuel : Nat} {cs : List Value} {x : DataW H × List MemPlace} (h : DataW.trod enc Tryd.prog w base spare held fuel 32 cs = some x) : ∃ a b : Int, cs = [.int .i64 a, .int .i64 b] := by
  obtain ⟨y0, y1, n, _, hl, h0, h1⟩ := trod_struct2 Tryd.underlying32 h
  rw [cells32] at hl
  obtain ⟨a, b, rfl⟩ := two_of hl
  simp only [cells3, List.drop_zero, List.take_succ_cons, List.take_zero, List.drop_succ_cons] at h0 h1
  obtain ⟨p, rfl⟩ := open_i64 h0
  obtain ⟨q, rfl⟩ := open_i64 h1
  exact ⟨p, q, rfl⟩
theorem open_clock {fuel : Nat} {cs : List Value} {x : DataW H × List MemPlace} (h : DataW.trod enc Tryd.prog w base spare held fuel 42 cs = some x) : ∃ c : Ck, cs = c.cells := by
  obtain ⟨xs, n, _, _, hl, hx, hf⟩ := DataW.trod_struct Tryd.underlying42 h
  rw [cells42] at hl
  obtain ⟨a, b, c, rfl⟩ := three_of hl
  have h0 := hf 0 { name := "Stage", type := 3, offset := 0, embedded := false, tag := "", pkgPath := "", byteOffset := 0 } rfl
  have h1 := hf 1 { name := "Read", type := 3, offset := 1, embedded := false, tag := "", pkgPath := "", byteOffset := 8 } rfl
  have h2 := hf 2 { name := "Error", type := 3, offset := 2, embedded := false, tag := "", pkgPath := "", byteOffset := 16 } rfl
  dsimp only at h0 h1 h2
  simp only [cells3, List.drop_zero, List.take_succ_cons, List.take_zero, List.drop_succ_cons] at h0 h1 h2
  rw [List.getElem?_eq_getElem (by rw [hx]; decide)] at h0 h1 h2
  obtain ⟨p, rfl⟩ := open_i64 h0
  obtain ⟨q, rfl⟩ := open_i64 h1
  obtain ⟨r, rfl⟩ := open_i64 h2
  exact ⟨⟨p, q, r⟩, rfl⟩
theorem open_stage {fuel : Nat} {cs : List Value} {x : DataW H × List MemPlace} (h : DataW.trod enc Tryd.prog w base spare held fuel 56 cs = some x) : ∃ s : St, cs = s.cells := by
  obtain ⟨xs, n, _, _, hl, hx, hf⟩ := DataW.trod_struct Tryd.underlying56 h
  rw [cells56] at hl
  obtain ⟨a, b, c, d, e, f, g, rfl⟩ := seven_of hl
  have h0 := hf 0 { name := "Due", type := 3, offset := 0, embedded := false, tag := "", pkgPath := "", byteOffset := 0 } rfl
  have h1 := hf 1 { name := "Drive", type := 32, offset := 1, embedded := false, tag := "", pkgPath := "", byteOffset := 8 } rfl
  have h2 := hf 2 { name := "Rough", type := 32, offset := 3, embedded := false, tag := "", pkgPath := "", byteOffset := 24 } rfl
  have h3 := hf 3 { name := "Stop", type := 32, offset := 5, embedded := false, tag := "", pkgPath := "", byteOffset := 40 } rfl
  dsimp only at h0 h1 h2 h3
  simp only [cells3, cells32, List.drop_zero, List.take_succ_cons, List.take_zero, List.drop_succ_cons] at h0 h1 h2 h3
  rw [List.getElem?_eq_getElem (by rw [hx]; decide)] at h0 h1 h2 h3
  obtain ⟨p, rfl⟩ := open_i64 h0
  obtain ⟨q1, q2, e1⟩ := open_span h1
  obtain ⟨r1, r2, e2⟩ := open_span h2
  obtain ⟨s1, s2, e3⟩ := open_span h3
  simp only [List.cons.injEq, and_true] at e1 e2 e3
  obtain ⟨rfl, rfl⟩ := e1
  obtain ⟨rfl, rfl⟩ := e2
  obtain ⟨rfl, rfl⟩ := e3
  exact ⟨⟨p, q1, q2, r1, r2, s1, s2⟩, rfl⟩
instance : Inhabited St := ⟨⟨0, 0, 0, 0, 0, 0, 0⟩⟩
instance : Inhabited Ck := ⟨⟨0, 0, 0⟩⟩
theorem open_rows {α : Type} [Inhabited α] (cells : α → List Value) {t e sz : Nat} (ht : Tryd.prog.underlying t = some (.slice e)) (hc : Tryd.prog.cellsOf e = sz) (hsz : 0 < sz)
    (hone : ∀ {fuel : Nat} {cs : List Value} {x : DataW H × List MemPlace}, DataW.trod enc Tryd.prog w base spare held fuel e cs = some x → ∃ a, cs = cells a) (hlen : ∀ a, (cells a).length = sz)
    {fuel : Nat} {v : Value} {x : DataW H × List MemPlace} (h : DataW.trod enc Tryd.prog w base spare held fuel t [v] = some x) :
    ∃ (a : Option Addr) (cap : Nat) (l : List α), v = .slice a l.length cap ∧ SlOf w w.heap.size sz v (l.map cells) := by
  rcases open_slice ht h with ⟨e1, _⟩ | ⟨a, len, cap, m, n, D, Pl, e1, _, hl, hm, hmm, _, hx⟩
  · injection e1 with e1 _
    subst e1
    exact ⟨none, 0, [], rfl, none, 0, rfl, Nat.le_refl _, by simp [maxLen], by simp, fun h => absurd h (by simp)⟩
  · injection e1 with e1 _
    subst e1
    have hlm : len ≤ m := by rw [hmm]; split <;> omega
    have hex : ∀ i, i < len → ∃ y, ∃ cs, w.cells? base (a.add (i * sz)) sz = some cs ∧ cs = cells y := fun i hi => by
      obtain ⟨cs, h1, h2⟩ := hx i (by omega)
      rw [hc] at h1
      obtain ⟨y, hy⟩ := hone h2
      exact ⟨y, cs, h1, hy⟩
    obtain ⟨f, hf⟩ := choose_lt hex
    have hcell : ∀ i j, i < len → j < sz → w.cell? (a.add (i * sz + j)) = (cells (f i))[j]? := fun i j hi hj => by
      obtain ⟨cs, h1, h2⟩ := hf i hi
      obtain ⟨_, _, h3⟩ := World.cells?_some h1
      rw [← h2, ← h3 j hj, add_add]
    refine ⟨some a, cap, (List.range len).map f, by simp, some a, cap, by simp, by simpa using hl, by simpa using Nat.le_trans hl hm, fun r hr => ?_, fun hp => ?_⟩
    · obtain ⟨y, _, rfl⟩ := List.mem_map.1 hr
      exact hlen y
    · simp only [List.length_map, List.length_range] at hp
      obtain ⟨b, off, spot⟩ := a
      have h0 := hcell 0 0 hp hsz
      have hsome : ∃ u, (cells (f 0))[0]? = some u := ⟨_, List.getElem?_eq_getElem (by rw [hlen]; exact hsz)⟩
      obtain ⟨u, hu⟩ := hsome
      rw [hu] at h0
      have hspot : spot = none := by simpa [Addr.add] using World.cell?_spot h0
      subst hspot
      refine ⟨b, off, rfl, ?_, fun i j r c hi hj => ?_⟩
      · have := lt_of_cell h0
        simpa [Addr.add] using this
      · have hil : i < len := by
          have := (List.getElem?_eq_some_iff.1 hi).1
          simpa using this
        have hr : r = cells (f i) := by
          simp [List.getElem?_map, List.getElem?_range hil] at hi
          exact hi.symm
        subst hr
        have hjl : j < sz := by
          have := (List.getElem?_eq_some_iff.1 hj).1
          rwa [hlen] at this
        have h1 := hcell i j hil hjl
        rw [hj, Go.WideShapes.add_plain] at h1
        rw [Nat.add_assoc]
        exact h1
set_option maxRecDepth 100000 in
theorem open_book {v : Value} {d : DataW H} {p : List MemPlace} {r : Reach} {b0 : Nat} (hval : Value.okWide Tryd.prog w r b0 26 v) (h : DataW.Trod enc Tryd.prog w base spare held 26 v d p) :
    ∃ (b : Bk) (sa ka : Option Addr) (n1 sc n2 kc : Nat), v = .agg (b.cells (.slice sa n1 sc) (.slice ka n2 kc)).toArray ∧ BookW w w.heap.size sa ka n1 sc n2 kc b := by
  obtain ⟨cs, rfl, hsz⟩ := okWide_struct Tryd.underlying26 hval
  obtain ⟨fuel, hf⟩ := h
  have hf' : DataW.trod enc Tryd.prog w base spare held fuel 26 cs.toList = some (d, p) := hf
  obtain ⟨xs, n, _, _, hl, hx, hfs⟩ := DataW.trod_struct Tryd.underlying26 hf'
  rw [cells26] at hl
  obtain ⟨c0, c1, c2, c3, c4, c5, c6, hcs⟩ := seven_of hl
  rw [hcs] at hfs
  have h0 := hfs 0 { name := "Stages", type := 22, offset := 0, embedded := false, tag := "", pkgPath := "", byteOffset := 0 } rfl
  have h1 := hfs 1 { name := "Weathers", type := 3, offset := 1, embedded := false, tag := "", pkgPath := "", byteOffset := 24 } rfl
  have h2 := hfs 2 { name := "Costs", type := 23, offset := 2, embedded := false, tag := "", pkgPath := "", byteOffset := 32 } rfl
  have h3 := hfs 3 { name := "Clocks", type := 24, offset := 5, embedded := false, tag := "", pkgPath := "", byteOffset := 56 } rfl
  have h4 := hfs 4 { name := "Rate", type := 3, offset := 6, embedded := false, tag := "", pkgPath := "", byteOffset := 80 } rfl
  dsimp only at h0 h1 h2 h3 h4
  simp only [cells3, cells22, cells23, cells24, List.drop_zero, List.take_succ_cons, List.take_zero, List.drop_succ_cons] at h0 h1 h2 h3 h4
  rw [List.getElem?_eq_getElem (by rw [hx]; decide)] at h0 h1 h2 h3 h4
  obtain ⟨sa, sc, l, rfl, hs⟩ := open_rows St.cells Tryd.underlying22 cells56 (by decide) open_stage (fun _ => rfl) h0
  obtain ⟨wt, rfl⟩ := open_i64 h1
  obtain ⟨ys, m, _, _, _, hy, hys⟩ := DataW.trod_array Tryd.underlying23 h2
  have a0 := hys 0 (by decide)
  have a1 := hys 1 (by decide)
  have a2 := hys 2 (by decide)
  simp only [cells3, Nat.mul_one, List.drop_zero, List.take_succ_cons, List.take_zero, List.drop_succ_cons] at a0 a1 a2
  rw [List.getElem?_eq_getElem (by rw [hy]; decide)] at a0 a1 a2
  obtain ⟨k0, rfl⟩ := open_i64 a0
  obtain ⟨k1, rfl⟩ := open_i64 a1
  obtain ⟨k2, rfl⟩ := open_i64 a2
  obtain ⟨ka, kc, m, rfl, hk⟩ := open_rows Ck.cells Tryd.underlying24 cells42 (by decide) open_clock (fun _ => rfl) h3
  obtain ⟨rt, rfl⟩ := open_i64 h4
  refine ⟨⟨l, wt, k0, k1, k2, m, rt⟩, sa, ka, l.length, sc, m.length, kc, ?_, Nat.le_refl _, hs, hk, rfl, rfl⟩
  have : cs = (Bk.cells ⟨l, wt, k0, k1, k2, m, rt⟩ (.slice sa l.length sc) (.slice ka m.length kc)).toArray := by
    apply Array.ext'
    rw [hcs]
    rfl
  rw [this]
end
set_option maxRecDepth 100000 in
theorem of_laid {W : World} (h : laidMetH Tryd.prog laidU W) : Glob W := by
  have hk : W.cell? ⟨0, 0, none⟩ = some (.func (.func 125) #[] #[]) ∧ W.cell? ⟨0, 1, none⟩ = some (.func (.func 123) #[] #[]) := by
    obtain ⟨g, t, cs, fuel, p, hg, ht, hv, hd⟩ := h.funcs (show ("macadam/claim.kinds", DataW.iface "func table" _) ∈ laidU from List.mem_cons_of_mem _ List.mem_cons_self)
    obtain rfl := Option.some.inj (gKinds.symm.trans hg)
    obtain rfl := Option.some.inj (tKinds.symm.trans ht)
    have hd' : DataW.trod (funcToken Tryd.prog) Tryd.prog W 0 (fun _ => true) true fuel 102 cs.toList = some (.agg [.held [40, 109, 97, 99, 97, 100, 97, 109, 47, 99, 108, 97, 105, 109, 46, 118, 111, 116, 101, 115, 41, 46, 115, 111, 109, 101], .held [40, 109, 97, 99, 97, 100, 97, 109, 47, 99, 108, 97, 105, 109, 46, 118, 111, 116, 101, 115, 41, 46, 101, 97, 99, 104]], p) := hd
    obtain ⟨xs, m, _, hx, hl, hn, hel⟩ := DataW.trod_array Tryd.underlying102 hd'
    rw [cells102] at hl
    obtain ⟨c0, c1, hcs⟩ := two_of hl
    have e0 := hel 0 (by decide)
    have e1 := hel 1 (by decide)
    rw [hcs] at e0 e1
    simp only [cells101, Nat.zero_mul, Nat.one_mul, List.drop_zero, List.take_succ_cons, List.take_zero, List.drop_succ_cons] at e0 e1
    simp only [Prod.mk.injEq, DataW.agg.injEq] at hx
    match xs, hn, hx, e0, e1 with
    | [x0, x1], _, hx, e0, e1 =>
      simp only [List.map_cons, List.map_nil, List.cons.injEq, and_true] at hx
      obtain ⟨⟨hx0, hx1⟩, _⟩ := hx
      simp only [List.getElem?_cons_zero, List.getElem?_cons_succ] at e0 e1
      obtain ⟨x01, x02⟩ := x0
      obtain ⟨x11, x12⟩ := x1
      simp only at hx0 hx1
      subst hx0
      subst hx1
      obtain rfl := func_of_trod (f0 := 125) Tryd.underlying101 (by kernel_rfl) e0
      obtain rfl := func_of_trod (f0 := 123) Tryd.underlying101 (by kernel_rfl) e1
      have g0 := World.var?_cell hg hv 0
      have g1 := World.var?_cell hg hv 1
      rw [← Array.getElem?_toList, hcs] at g0 g1
      exact ⟨g0, g1⟩
  have hn : W.cell? ⟨1, 0, none⟩ = some (.int .i64 (-1)) ∧ W.cell? ⟨1, 1, none⟩ = some (.int .i64 (-1)) := by
    have h' := h
    unfold laidMetH at h'
    have h2 : laidMet Tryd.prog [("macadam/claim.nowhere", Rows.laid_macadam_claim_nowhere)] W := by
      have hf : laidU.filter (fun x => x.2.handleName?.isSome) = [("macadam/claim.kinds", Rows.laid_macadam_claim_kinds)] := by kernel_rfl
      have hp : laidU.filter (fun x => x.2.handleName?.isNone) = [("macadam/claim.nowhere", Rows.laid_macadam_claim_nowhere)] := by kernel_rfl
      rw [hf] at h'
      have h3 := h'.1
      rw [hp] at h3
      exact h3
    obtain ⟨ps, ⟨g0, t0, cs0, f0, p0, q0, hg0, ht0, hv0, hd0, _⟩, _⟩ := h2
    obtain rfl := Option.some.inj (gNowhere.symm.trans hg0)
    obtain rfl := Option.some.inj (tNowhere.symm.trans ht0)
    have hd' : DataW.trod _ Tryd.prog W 0 (fun _ => true) _ f0 115 cs0.toList = some (.agg [.lit (.int .i64 (-1)), .lit (.int .i64 (-1))], p0) := hd0
    obtain ⟨y0, y1, n, hx, hl, k0, k1⟩ := trod_struct2 Tryd.underlying115 hd'
    rw [cells115] at hl
    obtain ⟨c0, c1, hcs⟩ := two_of hl
    rw [hcs] at k0 k1
    simp only [cells3, List.drop_zero, List.take_succ_cons, List.take_zero, List.drop_succ_cons] at k0 k1
    simp only [Prod.mk.injEq, DataW.agg.injEq, List.cons.injEq, and_true] at hx
    obtain ⟨⟨hx0, hx1⟩, _⟩ := hx
    obtain ⟨a, ea, eb, _⟩ := DataW.trod_int Tryd.underlying3 k0
    obtain ⟨b, ec, ed, _⟩ := DataW.trod_int Tryd.underlying3 k1
    rw [eb] at hx0
    rw [ed] at hx1
    simp only [DataW.lit.injEq, Lit.int.injEq, true_and] at hx0 hx1
    injection ea with ea _
    injection ec with ec _
    have g0 := World.var?_cell hg0 hv0 0
    have g1 := World.var?_cell hg0 hv0 1
    rw [← Array.getElem?_toList, hcs] at g0 g1
    refine ⟨g0.trans ?_, g1.trans ?_⟩
    · rw [ea, ← hx0]; rfl
    · rw [ec, ← hx1]; rfl
  exact ⟨hk.1, hk.2, hn.1, hn.2⟩
end Go.Proofs.YtbhjfojbjpbdbaaDoor
namespace Go.Proofs.YtbhjfojbjpbdbaaDoor
open Go.ChangeShapes Go.WideShapes Go.ChangeAt Go.RowKit Go.Deep
end Go.Proofs.YtbhjfojbjpbdbaaDoor
namespace Go.Proofs.YtbhjfojbjpbdbaaDoorW.PrintLast
section
variable {P : Program} {ops : Array Oper} {Q : Exit → Act → World → Prop} {md : Region.Mode} {S : World → Prop} {ds : List Nat}
def Region.reachB (md : Region.Mode) (ops : Array Oper) (i : Nat) : Nat → Nat → Bool
  | 0, _ => false
  | fuel + 1, d => match ops[d]? with
    | some o => o.after.any fun e => Region.binds md e && (e.on == i || Region.reachB md ops i fuel e.on)
    | none => false
def Region.closedB (md : Region.Mode) (ops : Array Oper) (listed : Array Bool) : Bool :=
  (List.range ops.size).all fun j => !listed.getD j false || match ops[j]? with
    | some o => o.after.all fun e => !Region.binds md e || listed.getD e.on false
    | none => true
def Region.lastB (md : Region.Mode) (ops : Array Oper) (listed : Array Bool) (ds : List Nat) (i : Nat) : Bool :=
  ds.all fun d => listed.getD d true || Region.reachB md ops i ops.size d
def ListedClosed (md : Region.Mode) (ops : Array Oper) (listed : Array Bool) : Prop :=
  ∀ j oj, ops[j]? = some oj → listed.getD j false = true → ∀ e ∈ oj.after, Region.binds md e = true → listed.getD e.on false = true
theorem Region.closedB_spec {listed : Array Bool} (h : Region.closedB md ops listed = true) : ListedClosed md ops listed := by
  intro j oj hj hl e he hb
  have hlt : j < ops.size := (Array.getElem?_eq_some_iff.1 hj).1
  have h1 := List.all_eq_true.1 h j (List.mem_range.2 hlt)
  simp only [hl, hj, Bool.not_true, Bool.false_or] at h1
  have h2 := Array.all_eq_true_iff_forall_mem.1 h1 e he
  simpa [hb] using h2
theorem ListedClosed.set {listed : Array Bool} {i : Nat} (h : ListedClosed md ops listed) (hi : i ∈ Region.ready md ops listed) : ListedClosed md ops (listed.setIfInBounds i true) := by
  obtain ⟨_, oi, hoi, hall⟩ := mem_ready.1 hi
  intro j oj hj hl e he hb
  by_cases hij : i = j
  · subst hij
    have : oj = oi := Option.some.inj (hj.symm.trans hoi)
    subst this
    exact getD_set_true (hall e he hb)
  · rw [getD_set_ne false hij] at hl
    exact getD_set_true (h j oj hj hl e he hb)
theorem Region.reach_listed {listed : Array Bool} {i : Nat} (hc : ListedClosed md ops listed) : ∀ (fuel d : Nat), Region.reachB md ops i fuel d = true → listed.getD d false = true → listed.getD i false = true
  | 0, _, h, _ => by simp [Region.reachB] at h
  | fuel + 1, d, h, hl => by
    unfold Region.reachB at h
    cases ho : ops[d]? with
    | none => rw [ho] at h; simp at h
    | some o =>
      rw [ho] at h
      obtain ⟨e, he, h1⟩ := Array.any_eq_true'.1 h
      simp only [Bool.and_eq_true, Bool.or_eq_true, beq_iff_eq] at h1
      have hle := hc d o ho hl e he h1.1
      rcases h1.2 with h2 | h2
      · rw [← h2]; exact hle
      · exact Region.reach_listed hc fuel e.on h2 hle
theorem Region.reach_not_ready {listed : Array Bool} {i d fuel : Nat} (hc : ListedClosed md ops listed) (hr : Region.reachB md ops i fuel d = true) (hun : listed.getD i true = false) : d ∉ Region.ready md ops listed := by
  intro hd
  obtain ⟨_, o, ho, hall⟩ := mem_ready.1 hd
  have hi : listed.getD i false = true := by
    cases fuel with
    | zero => simp [Region.reachB] at hr
    | succ n =>
      unfold Region.reachB at hr
      rw [ho] at hr
      obtain ⟨e, he, h1⟩ := Array.any_eq_true'.1 hr
      simp only [Bool.and_eq_true, Bool.or_eq_true, beq_iff_eq] at h1
      have hle := hall e he h1.1
      rcases h1.2 with h2 | h2
      · rw [← h2]; exact hle
      · exact Region.reach_listed hc n e.on h2 hle
  rcases Nat.lt_or_ge i listed.size with h' | h'
  · simp [h'] at hun hi
    rw [hun] at hi
    cases hi
  · simp [Array.getElem?_eq_none h'] at hun
def wpAnyLast (P : Program) (md : Region.Mode) (ops : Array Oper) (Q : Exit → Act → World → Prop) (S : World → Prop) (ds : List Nat) : Nat → Array Bool → Act → World → Prop
  | 0, listed, a, w => Region.ready md ops listed = [] ∧ Q .normal a w
  | fuel + 1, listed, a, w =>
    (Region.ready md ops listed = [] → Q .normal a w) ∧
    ∀ i ∈ Region.ready md ops listed, wpOp P ops Q i (fun a' w' => (i ∉ ds → S w → S w') ∧ wpAnyLast P md ops Q S ds fuel (listed.setIfInBounds i true) a' w') a w
theorem wpAny_of_last : ∀ (fuel : Nat) (listed : Array Bool) (a : Act) (w : World), wpAnyLast P md ops Q S ds fuel listed a w → wpAny P md ops Q fuel listed a w
  | 0, _, _, _, h => h
  | fuel + 1, _, _, _, h => ⟨h.1, fun i hi => wpOp_mono (fun a' w' h' => wpAny_of_last fuel _ a' w' h'.2) (h.2 i hi)⟩
theorem wpAnyLast_first {i : Nat} {oi : Oper} {v : Value} (hi : ops[i]? = some oi) (hsel : ∀ (j : Nat) (o : Oper) cs b, ops[j]? = some o → o.op ≠ .select cs b)
    (hQ : ∀ c a w, Q (.panic c) (a.put oi.dst v) w → Q (.panic c) a w) (n : Nat) :
    ∀ (fuel : Nat) (listed : Array Bool) (a : Act) (w : World),
      (∀ j oj, ops[j]? = some oj → j ≠ i → listed.getD j true = false → (∀ e ∈ oj.after, Region.binds md e = true → e.on ≠ i) → oi.apart ops oj = true) →
      ListedClosed md ops listed → (∀ d ∈ ds, listed.getD d true = false → Region.reachB md ops i n d = true) →
      i ∈ Region.ready md ops listed → YieldsIf P ops S oi v a → S w →
      wpAnyLast P md ops Q S ds fuel (listed.setIfInBounds i true) (a.put oi.dst v) w → wpAnyLast P md ops Q S ds (fuel + 1) listed a w := by
  intro fuel
  induction fuel with
  | zero =>
    intro listed a w _ _ _ hr hy hS H
    refine ⟨fun h => (by rw [h] at hr; cases hr), fun j hj => ?_⟩
    by_cases hji : j = i
    · subst hji; exact hy.wpOp hi hS ⟨fun _ h => h, H⟩
    · have := ready_mono hj hji
      rw [H.1] at this
      cases this
  | succ fuel ih =>
    intro listed a w hfree hc hd hr hy hS H
    refine ⟨fun h => (by rw [h] at hr; cases hr), fun j hj => ?_⟩
    by_cases hji : j = i
    · subst hji; exact hy.wpOp hi hS ⟨fun _ h => h, H⟩
    · have h1 := H.2 j (ready_mono hj hji)
      obtain ⟨hjun, oj, hoj, hall⟩ := mem_ready.1 hj
      have hiun := (mem_ready.1 hr).1
      have hnot : ∀ e ∈ oj.after, Region.binds md e = true → e.on ≠ i := fun e he hb heq => by
        have h1 := hall e he hb
        rw [heq] at h1
        rcases Nat.lt_or_ge i listed.size with h' | h'
        · simp [h'] at hiun h1; rw [hiun] at h1; cases h1
        · simp [Array.getElem?_eq_none h'] at h1
      have hjd : j ∉ ds := fun hm => Region.reach_not_ready hc (hd j hm hjun) hiun hj
      have h2 := wpOp_putIf hoj (hfree j oj hoj hji hjun hnot) (fun cs b => hsel i oi cs b hi) (fun cs b => hsel j oj cs b hoj) hQ hy h1
      have hfree' : ∀ k ok, ops[k]? = some ok → k ≠ i → (listed.setIfInBounds j true).getD k true = false →
          (∀ e ∈ ok.after, Region.binds md e = true → e.on ≠ i) → oi.apart ops ok = true := fun k ok hk hki hun hno => by
        refine hfree k ok hk hki ?_ hno
        by_cases hjk : j = k
        · subst hjk; exact hjun
        · rw [getD_set_ne true hjk] at hun; exact hun
      have hd' : ∀ d ∈ ds, (listed.setIfInBounds j true).getD d true = false → Region.reachB md ops i n d = true := fun d hm hun => by
        refine hd d hm ?_
        by_cases hjk : j = d
        · subst hjk; exact hjun
        · rw [getD_set_ne true hjk] at hun; exact hun
      refine wpOp_mono (fun a' w' h3 => ⟨h3.2.1, ih (listed.setIfInBounds j true) a' w' hfree' (hc.set hj) hd' (ready_mono hr (Ne.symm hji)) h3.1 (h3.2.1 hjd hS) ?_⟩) h2
      rw [Array.setIfInBounds_comm _ _ hji]
      exact h3.2.2
theorem wpAnyLast_any {i : Nat} {oi : Oper} {v : Value} (hi : ops[i]? = some oi) (hsel : ∀ (j : Nat) (o : Oper) cs b, ops[j]? = some o → o.op ≠ .select cs b)
    (hQ : ∀ c a w, Q (.panic c) (a.put oi.dst v) w → Q (.panic c) a w) :
    ∀ (fuel : Nat) (listed : Array Bool) (a : Act) (w : World),
      (∀ j oj, ops[j]? = some oj → j ≠ i → listed.getD j true = false → (∀ e ∈ oj.after, Region.binds md e = true → e.on ≠ i) → oi.apart ops oj = true) →
      i ∈ Region.ready md ops listed → Yields P ops oi v a →
      wpAnyLast P md ops Q S ds fuel (listed.setIfInBounds i true) (a.put oi.dst v) w → wpAnyLast P md ops Q S ds (fuel + 1) listed a w := by
  intro fuel
  induction fuel with
  | zero =>
    intro listed a w _ hr hy H
    refine ⟨fun h => (by rw [h] at hr; cases hr), fun j hj => ?_⟩
    by_cases hji : j = i
    · subst hji; exact (hy.yieldsIf (S := fun _ => True)).wpOp hi trivial ⟨fun _ h => h, H⟩
    · have := ready_mono hj hji
      rw [H.1] at this
      cases this
  | succ fuel ih =>
    intro listed a w hfree hr hy H
    refine ⟨fun h => (by rw [h] at hr; cases hr), fun j hj => ?_⟩
    by_cases hji : j = i
    · subst hji; exact (hy.yieldsIf (S := fun _ => True)).wpOp hi trivial ⟨fun _ h => h, H⟩
    · have h1 := H.2 j (ready_mono hj hji)
      obtain ⟨hjun, oj, hoj, hall⟩ := mem_ready.1 hj
      have hiun := (mem_ready.1 hr).1
      have hnot : ∀ e ∈ oj.after, Region.binds md e = true → e.on ≠ i := fun e he hb heq => by
        have h1 := hall e he hb
        rw [heq] at h1
        rcases Nat.lt_or_ge i listed.size with h' | h'
        · simp [h'] at hiun h1; rw [hiun] at h1; cases h1
        · simp [Array.getElem?_eq_none h'] at h1
      have h2 := wpOp_put hoj (hfree j oj hoj hji hjun hnot) (fun cs b => hsel i oi cs b hi) (fun cs b => hsel j oj cs b hoj) hQ hy h1
      have hfree' : ∀ k ok, ops[k]? = some ok → k ≠ i → (listed.setIfInBounds j true).getD k true = false →
          (∀ e ∈ ok.after, Region.binds md e = true → e.on ≠ i) → oi.apart ops ok = true := fun k ok hk hki hun hno => by
        refine hfree k ok hk hki ?_ hno
        by_cases hjk : j = k
        · subst hjk; exact hjun
        · rw [getD_set_ne true hjk] at hun; exact hun
      refine wpOp_mono (fun a' w' h3 => ⟨h3.2.1, ih (listed.setIfInBounds j true) a' w' hfree' (ready_mono hr (Ne.symm hji)) h3.1 ?_⟩) h2
      rw [Array.setIfInBounds_comm _ _ hji]
      exact h3.2.2
theorem wpAnyLast_take {i : Nat} {oi : Oper} {v : Value} {fuel : Nat} {listed : Array Bool} {a : Act} {w : World} (hi : ops[i]? = some oi)
    (hs : Region.noSelect ops = true) (hf : Region.free md ops listed i = true) (hr : (Region.ready md ops listed).contains i = true)
    (hc : Region.closedB md ops listed = true) (hl : Region.lastB md ops listed ds i = true)
    (hQ : ∀ c a w, Q (.panic c) (a.put oi.dst v) w → Q (.panic c) a w) (hy : YieldsIf P ops S oi v a) (hS : S w)
    (h : wpAnyLast P md ops Q S ds fuel (listed.setIfInBounds i true) (a.put oi.dst v) w) : wpAnyLast P md ops Q S ds (fuel + 1) listed a w :=
  wpAnyLast_first hi (Region.noSelect_spec hs) hQ ops.size fuel listed a w (Region.free_spec hi hf) (Region.closedB_spec hc)
    (fun d hm hun => by have := List.all_eq_true.1 hl d hm; rw [hun] at this; simpa using this) (by simpa using hr) hy hS h
theorem wpAnyLast_all {rs : List Nat} {fuel : Nat} {listed : Array Bool} {a : Act} {w : World} (hr : Region.ready md ops listed = rs) (hne : rs ≠ [])
    (h : ∀ i ∈ rs, wpOp P ops Q i (fun a' w' => (i ∉ ds → S w → S w') ∧ wpAnyLast P md ops Q S ds fuel (listed.setIfInBounds i true) a' w') a w) : wpAnyLast P md ops Q S ds (fuel + 1) listed a w :=
  ⟨fun h0 => absurd (hr ▸ h0) hne, hr ▸ h⟩
theorem wpAnyLast_done {listed : Array Bool} {a : Act} {w : World} (hr : Region.ready md ops listed = []) (h : Q .normal a w) :
    ∀ fuel, wpAnyLast P md ops Q S ds fuel listed a w
  | 0 => ⟨hr, h⟩
  | _ + 1 => ⟨fun _ => h, by rw [hr]; simp⟩
theorem wp_region_last {id : Nat} {a : Act} {w : World} (hm : P.follows .mixedOrders = true)
    (h : wpAnyLast P .any ops Q S ds ops.size (Array.replicate ops.size false) a { w with drawn := w.drawn + 1 }) : (Code.region id ops true).wp P Q a w :=
  wp_region_any hm (wpAny_of_last _ _ _ _ h)
end
section
variable {P : Program} {ops : Array Oper} {Q : Exit → Act → World → Prop} {md : Region.Mode} {S : World → Prop} {ds : List Nat}
def AllReadyL (P : Program) (md : Region.Mode) (ops : Array Oper) (Q : Exit → Act → World → Prop) (S : World → Prop) (ds : List Nat) (fuel : Nat) (listed : Array Bool) (a : Act) (w : World) (rs : List Nat) : Prop :=
  ∀ i ∈ rs, wpOp P ops Q i (fun a' w' => (i ∉ ds → S w → S w') ∧ wpAnyLast P md ops Q S ds fuel (listed.setIfInBounds i true) a' w') a w
theorem AllReadyL.nil {fuel : Nat} {listed : Array Bool} {a : Act} {w : World} : AllReadyL P md ops Q S ds fuel listed a w [] := fun _ h => by cases h
theorem AllReadyL.cons {fuel : Nat} {listed : Array Bool} {a : Act} {w : World} {i : Nat} {o : Oper} {rs : List Nat} (ho : ops[i]? = some o) (hd : i ∉ ds)
    (h : ∀ K' : Act → World → Prop, Shut (∀ a w, S w → (S w → wpAnyLast P md ops Q S ds fuel (listed.setIfInBounds i true) a w) → K' a w) → if Region.wanted o (yielded ops a.tmps) = true then Oper.wp P o a w K' Q else K' (a.put o.dst undef) w)
    (hs : AllReadyL P md ops Q S ds fuel listed a w rs) : AllReadyL P md ops Q S ds fuel listed a w (i :: rs) := fun j hj => by
  rcases List.mem_cons.1 hj with rfl | hj
  · exact wpOp_step ho (fun K' hK => h K' (fun a w hS hW => hK a w ⟨fun _ _ => hS, hW hS⟩))
  · exact hs j hj
theorem AllReadyL.cons_last {fuel : Nat} {listed : Array Bool} {a : Act} {w : World} {i : Nat} {o : Oper} {rs : List Nat} (ho : ops[i]? = some o) (hd : i ∈ ds)
    (h : ∀ K' : Act → World → Prop, Shut (∀ a w, wpAnyLast P md ops Q S ds fuel (listed.setIfInBounds i true) a w → K' a w) → if Region.wanted o (yielded ops a.tmps) = true then Oper.wp P o a w K' Q else K' (a.put o.dst undef) w)
    (hs : AllReadyL P md ops Q S ds fuel listed a w rs) : AllReadyL P md ops Q S ds fuel listed a w (i :: rs) := fun j hj => by
  rcases List.mem_cons.1 hj with rfl | hj
  · exact wpOp_step ho (fun K' hK => h K' (fun a w hW => hK a w ⟨fun hn => absurd hd hn, hW⟩))
  · exact hs j hj
theorem wpAnyLast_ready {rs : List Nat} {fuel : Nat} {listed : Array Bool} {a : Act} {w : World} (hr : Region.ready md ops listed = rs) (hne : rs ≠ [])
    (h : AllReadyL P md ops Q S ds fuel listed a w rs) : wpAnyLast P md ops Q S ds (fuel + 1) listed a w := wpAnyLast_all hr hne h
theorem start_ {id n : Nat} {a : Act} {w : World} (l : Array Bool) (hm : P.follows .mixedOrders = true) (hn : ops.size = n) (hl : Array.replicate n false = l) (hS : S w.drew)
    (h : S w.drew → wpAnyLast P .any ops Q S ds n l a w.drew) : (Code.region id ops true).wp P Q a w := by
  subst hn
  subst hl
  exact wp_region_last hm (h hS)
def takeB (md : Region.Mode) (ops : Array Oper) (ds : List Nat) (l l' : Array Bool) (i : Nat) : Bool :=
  Region.noSelect ops && Region.free md ops l i && (Region.ready md ops l).contains i && Region.closedB md ops l && Region.lastB md ops l ds i && (l.setIfInBounds i true == l')
theorem take_ {i : Nat} {N : Option Tmp} {oi : Oper} {v : Value} {fuel : Nat} {l : Array Bool} {a : Act} {w : World} (l' : Array Bool) (hi : ops[i]? = some oi) (hN : oi.dst = N) (hc : takeB md ops ds l l' i = true)
    (hQ : ∀ c a w, Q (.panic c) (a.put oi.dst v) w → Q (.panic c) a w) (hy : YieldsIf P ops S oi v a) (hS : S w) {a' : Act} (ha : a.put N v = a')
    (h : wpAnyLast P md ops Q S ds fuel l' a' w) : wpAnyLast P md ops Q S ds (fuel + 1) l a w := by
  subst ha
  subst hN
  simp only [takeB, Bool.and_eq_true, beq_iff_eq] at hc
  obtain ⟨⟨⟨⟨⟨h1, h2⟩, h3⟩, h4⟩, h5⟩, h6⟩ := hc
  subst h6
  exact wpAnyLast_take hi h1 h2 h3 h4 h5 hQ hy hS h
def anyB (md : Region.Mode) (ops : Array Oper) (l l' : Array Bool) (i : Nat) : Bool :=
  Region.noSelect ops && Region.free md ops l i && (Region.ready md ops l).contains i && (l.setIfInBounds i true == l')
theorem pure_ {i : Nat} {N : Option Tmp} {oi : Oper} {v : Value} {fuel : Nat} {l : Array Bool} {a : Act} {w : World} (l' : Array Bool) (hi : ops[i]? = some oi) (hN : oi.dst = N) (hc : anyB md ops l l' i = true)
    (hQ : ∀ c a w, Q (.panic c) (a.put oi.dst v) w → Q (.panic c) a w) (hy : Yields P ops oi v a) {a' : Act} (ha : a.put N v = a')
    (h : wpAnyLast P md ops Q S ds fuel l' a' w) : wpAnyLast P md ops Q S ds (fuel + 1) l a w := by
  subst ha
  subst hN
  simp only [anyB, Bool.and_eq_true, beq_iff_eq] at hc
  obtain ⟨⟨⟨h1, h2⟩, h3⟩, h6⟩ := hc
  subst h6
  exact wpAnyLast_any hi (Region.noSelect_spec h1) hQ fuel l a w (Region.free_spec hi h2) (by simpa using h3) hy h
def readyB (md : Region.Mode) (ops : Array Oper) (l l' : Array Bool) (i : Nat) : Bool := (Region.ready md ops l == [i]) && (l.setIfInBounds i true == l')
theorem one_ {i : Nat} {N : Option Tmp} {oi : Oper} {fuel : Nat} {l : Array Bool} {a : Act} {w : World} (l' : Array Bool) (hi : ops[i]? = some oi) (hN : oi.dst = N) (hc : readyB md ops l l' i = true) (hd : i ∉ ds)
    (h : ∀ K : Act → World → Prop, Shut (∀ a' w', S w' → (S w' → wpAnyLast P md ops Q S ds fuel l' a' w') → K a' w') → if Region.wanted oi (yielded ops a.tmps) = true then Oper.wp P oi a w K Q else K (a.put N undef) w) :
    wpAnyLast P md ops Q S ds (fuel + 1) l a w := by
  subst hN
  simp only [readyB, Bool.and_eq_true, beq_iff_eq] at hc
  obtain ⟨h1, h2⟩ := hc
  subst h2
  exact wpAnyLast_ready h1 (by simp) (AllReadyL.cons hi hd (fun K hK => h K hK) AllReadyL.nil)
theorem last_ {i : Nat} {N : Option Tmp} {oi : Oper} {fuel : Nat} {l : Array Bool} {a : Act} {w : World} (l' : Array Bool) (hi : ops[i]? = some oi) (hN : oi.dst = N) (hc : readyB md ops l l' i = true) (hd : i ∈ ds)
    (h : ∀ K : Act → World → Prop, Shut (∀ a' w', wpAnyLast P md ops Q S ds fuel l' a' w' → K a' w') → if Region.wanted oi (yielded ops a.tmps) = true then Oper.wp P oi a w K Q else K (a.put N undef) w) :
    wpAnyLast P md ops Q S ds (fuel + 1) l a w := by
  subst hN
  simp only [readyB, Bool.and_eq_true, beq_iff_eq] at hc
  obtain ⟨h1, h2⟩ := hc
  subst h2
  exact wpAnyLast_ready h1 (by simp) (AllReadyL.cons_last hi hd (fun K hK => h K hK) AllReadyL.nil)
theorem done_ {l : Array Bool} {a : Act} {w : World} {n : Nat} (hr : (Region.ready md ops l == []) = true) (h : Q .normal a w) : wpAnyLast P md ops Q S ds n l a w := wpAnyLast_done (by simpa using hr) h n
theorem norm_ {fuel : Nat} {l : Array Bool} {a a' : Act} {w : World} (ha : a = a') (h : wpAnyLast P md ops Q S ds fuel l a' w) : wpAnyLast P md ops Q S ds fuel l a w := by
  subst ha
  exact h
theorem call_ {oi : Oper} {N : Option Tmp} {a : Act} {w : World} {K : Act → World → Prop} (f : FuncId) (args : Array Value) (hw : Region.wanted oi (yielded ops a.tmps) = true) (hN : oi.dst = N) (hrun : (execOp a.eval oi).run P w = .ok (.enter f args) w)
    (h : Calls P f args w fun e w' => ∃ v, e = .returned v ∧ K (a.put N v) w') : if Region.wanted oi (yielded ops a.tmps) = true then Oper.wp P oi a w K Q else K (a.put N undef) w := by
  rw [if_pos hw]
  subst hN
  unfold Oper.wp
  rw [hrun, Oper.upon_enter]
  refine h.mono fun e w'' hh => ?_
  obtain ⟨v, rfl, hk⟩ := hh
  exact hk
theorem enters_ {f : FuncId} {fn : Func} (hf : P.funcs[f]? = some fn) (hname : (fn.name == "runtime.NumGoroutine") = false) (hb : fn.body.isSome = true) (args : Array Value) (w : World) : (callFunc f args).run P w = .ok (.enter f args) w := by
  have h1 : fn.name ≠ "runtime.NumGoroutine" := by simpa using hname
  obtain ⟨c, hc⟩ := Option.isSome_iff_exists.1 hb
  simp [callFunc, hf, h1, hc]
theorem goes_ {oi : Oper} {N : Option Tmp} {a : Act} {w : World} {K : Act → World → Prop} {f : FuncId} {fn : Func} {asq : Array Operand} {ts : Array TypeId} (hf : P.funcs[f]? = some fn) (hname : (fn.name == "runtime.NumGoroutine") = false) (hb : fn.body.isSome = true) (args : Array Value)
    (hw : Region.wanted oi (yielded ops a.tmps) = true) (hN : oi.dst = N) (hop : oi.op = .call { callee := .value (.func f), args := asq, argTypes := ts }) (hargs : asq.map a.eval = args)
    (h : Calls P f args w fun e w' => ∃ v, e = .returned v ∧ K (a.put N v) w') : if Region.wanted oi (yielded ops a.tmps) = true then Oper.wp P oi a w K Q else K (a.put N undef) w := by
  refine call_ f args hw hN ?_ h
  have he := enters_ hf hname hb args w
  unfold execOp
  simp [hop, resolve, Deferred.ofValue, invoke, Act.eval, hargs, he]
theorem goesL_ {rest : List Oper} {oi : Oper} {a : Act} {w : World} (N : Option Tmp) (hd : oi.dst = N) (hg : oi.guard = none) {f : FuncId} {fn : Func} {asq : Array Operand} {ts : Array TypeId} (hf : P.funcs[f]? = some fn) (hname : (fn.name == "runtime.NumGoroutine") = false) (hb : fn.body.isSome = true) (args : Array Value)
    (hop : oi.op = .call { callee := .value (.func f), args := asq, argTypes := ts }) (hargs : asq.map a.eval = args)
    (h : Calls P f args w fun e w' => ∃ v, e = .returned v ∧ wpList P ops Q rest (a.put N v) w') : wpList P ops Q (oi :: rest) a w := by
  refine wpList_plain hg fun K hK => ?_
  have he := enters_ hf hname hb args w
  have hrun : (execOp a.eval oi).run P w = .ok (.enter f args) w := by
    unfold execOp
    simp [hop, resolve, Deferred.ofValue, invoke, Act.eval, hargs, he]
  unfold Oper.wp
  rw [hrun, Oper.upon_enter]
  refine h.mono fun e w'' hh => ?_
  obtain ⟨v, rfl, hk⟩ := hh
  subst hd
  exact hK _ _ hk
theorem value_ {oi : Oper} {N : Option Tmp} {a : Act} {w w1 : World} {v : Value} {K : Act → World → Prop} (hw : Region.wanted oi (yielded ops a.tmps) = true) (hN : oi.dst = N) (hrun : (execOp a.eval oi).run P w = .ok (.value v) w1)
    (h : K (a.put N v) w1) : if Region.wanted oi (yielded ops a.tmps) = true then Oper.wp P oi a w K Q else K (a.put N undef) w := by
  rw [if_pos hw]
  subst hN
  unfold Oper.wp
  rw [hrun]
  exact h
theorem skip_ {oi : Oper} {a : Act} {w w1 : World} {K : Act → World → Prop} (hw : Region.wanted oi (yielded ops a.tmps) = true) (hN : oi.dst = none) (hrun : (execOp a.eval oi).run P w = .ok .skip w1)
    (h : K a w1) : if Region.wanted oi (yielded ops a.tmps) = true then Oper.wp P oi a w K Q else K (a.put none undef) w := by
  rw [if_pos hw]
  unfold Oper.wp
  rw [hrun]
  show K (a.put oi.dst undef) w1
  rw [hN]
  exact h
theorem i64_w (n : Int) : IntKind.i64.wrap n = Go.RowKit.wrap64 n := by unfold Go.RowKit.wrap64; exact IntKind.wrap_i64 n
theorem i32_w (n : Int) : IntKind.i32.wrap n = Go.RowKit.wrap32 n := by unfold Go.RowKit.wrap32; exact IntKind.wrap_i32 n
end
end Go.Proofs.YtbhjfojbjpbdbaaDoorW.PrintLast
namespace Go.Proofs.YtbhjfojbjpbdbaaDoor
open Go Go.RowKit Go.Proofs.YtbhjfojbjpbdbaaDoorW.PrintLast
def blAux : Nat → Nat → List Bool
  | 0, _ => []
  | n + 1, k => (k % 2 == 1) :: blAux n (k / 2)
def bl (n k : Nat) : Array Bool := (blAux n k).toArray
theorem nrm_ : (∀ (a : Act) (d : Tmp) (v : Value), a.put (some d) v = { a with tmps := a.tmps.setIfInBounds d v }) ∧ (∀ (a : Act) (v : Value), a.put none v = a) ∧
    (∀ (l : List Value) (i : Nat) (v : Value), l.toArray.setIfInBounds i v = (l.set i v).toArray) ∧ (∀ (x : Value) (l : List Value) (v : Value), (x :: l).set 0 v = v :: l) ∧
    (∀ (x : Value) (l : List Value) (n : Nat) (v : Value), (x :: l).set (n + 1) v = x :: l.set n v) ∧ (∀ n : Int, IntKind.i64.wrap n = wrap64 n) ∧ (∀ n : Int, IntKind.i32.wrap n = wrap32 n) :=
  ⟨fun _ _ _ => rfl, fun _ _ => rfl, fun _ _ _ => by simp, fun _ _ _ => rfl, fun _ _ _ _ => rfl, i64_w, i32_w⟩
section
variable {P : Program} {ops : Array Oper} {Q : Exit → Act → World → Prop} {md : Region.Mode} {S : World → Prop} {ds : List Nat} {oi : Oper} {v : Value} {fuel : Nat} {l : Array Bool} {a : Act} {w : World}
theorem pu_ (i : Nat) (N : Option Tmp) (l' : Array Bool) (hi : ops[i]? = some oi) (hN : oi.dst = N) (hc : anyB md ops l l' i = true)
    (hQ : ∀ c a w, Q (.panic c) (a.put oi.dst v) w → Q (.panic c) a w) (hw : Region.wanted oi (yielded ops a.tmps) = true) (hy : ∀ w', (execOp a.eval oi).run P w' = .ok (.value v) w') {a' : Act} (ha : a.put N v = a')
    (h : wpAnyLast P md ops Q S ds fuel l' a' w) : wpAnyLast P md ops Q S ds (fuel + 1) l a w := pure_ l' hi hN hc hQ (Or.inl ⟨hw, hy⟩) ha h
theorem po_ (i : Nat) (N : Option Tmp) (l' : Array Bool) (hi : ops[i]? = some oi) (hN : oi.dst = N) (hc : anyB md ops l l' i = true)
    (hQ : ∀ c a w, Q (.panic c) (a.put oi.dst undef) w → Q (.panic c) a w) (hw : Region.wanted oi (yielded ops a.tmps) = false) {a' : Act} (ha : a.put N undef = a')
    (h : wpAnyLast P md ops Q S ds fuel l' a' w) : wpAnyLast P md ops Q S ds (fuel + 1) l a w := pure_ l' hi hN hc hQ (Or.inr ⟨hw, rfl⟩) ha h
theorem tk_ (i : Nat) (N : Option Tmp) (l' : Array Bool) (hi : ops[i]? = some oi) (hN : oi.dst = N) (hc : takeB md ops ds l l' i = true)
    (hQ : ∀ c a w, Q (.panic c) (a.put oi.dst v) w → Q (.panic c) a w) (hS : S w) (hw : Region.wanted oi (yielded ops a.tmps) = true) (hy : ∀ w', S w' → (execOp a.eval oi).run P w' = .ok (.value v) w') {a' : Act} (ha : a.put N v = a')
    (h : wpAnyLast P md ops Q S ds fuel l' a' w) : wpAnyLast P md ops Q S ds (fuel + 1) l a w := take_ l' hi hN hc hQ (Or.inl ⟨hw, hy⟩) hS ha h
end
end Go.Proofs.YtbhjfojbjpbdbaaDoor
set_option linter.unusedVariables false
set_option linter.unusedSimpArgs false
namespace Go.Proofs.YtbhjfojbjpbdbaaDoorW.PrintWords
open Go.RowKit
structure Aside0 (p : Prop) : Prop where mk :: (out : p)
structure Drawn0 (w w' : World) : Prop where mk :: (out : ∃ n, w' = w.drewN n)
theorem Drawn0.refl (w : World) : Drawn0 w w := ⟨⟨0, rfl⟩⟩
theorem Drawn0.step {w w' : World} (h : Drawn0 w w') (n : Nat) : Drawn0 w (w'.drewN n) := by
  obtain ⟨m, rfl⟩ := h
  exact ⟨⟨m + n, World.drewN_drewN ..⟩⟩
theorem Drawn0.grown {w w' : World} (h : Drawn0 w w') : Grown w w' := by
  obtain ⟨n, rfl⟩ := h
  induction n with
  | zero => exact Grown.refl _
  | succ n ih => rw [← World.drew_drewN]; exact Grown.drew ih
theorem Drawn0.below {w w' : World} (h : Drawn0 w w') : Below w.heap.size w w' := by
  obtain ⟨n, rfl⟩ := h
  induction n with
  | zero => exact Below.refl _ _
  | succ n ih => rw [← World.drew_drewN]; exact ih.drew
def rd (xs : List Int) (i : Int) : Int := xs.getD i.toNat 0
def bt (s : ByteArray) (i : Int) : Int := if h : i.toNat < s.size then ((s[i.toNat]'h).toNat : Int) else 0
theorem below_alloc {w W : World} (h : Below w.heap.size w W) (o : Obj) : Below w.heap.size w (W.alloc o) := h.alloc h.size o
theorem below_drew {B : Nat} {w W : World} (h : Below B w W) : Below B w W.drew := ⟨h.os, h.tape, h.output, h.size, h.block⟩
theorem pw_below_drewN {B : Nat} {w W : World} (h : Below B w W) (n : Nat) : Below B w (W.drewN n) := ⟨h.os, h.tape, h.output, h.size, h.block⟩
theorem below_then {B : Nat} {w w1 w2 : World} (h : Below B w w1) (hB : B ≤ w1.heap.size) (k : Below w1.heap.size w1 w2) : Below B w w2 :=
  h.trans ⟨k.os, k.tape, k.output, k.size, fun i hi => k.block i (Nat.lt_of_lt_of_le hi hB)⟩
theorem grown_of_below {w w1 : World} (h : Below w.heap.size w w1) (row : Option Nat) : w.grownBy w1 row := ⟨h.os, h.tape, h.output, h.size, fun i hi _ => h.block i hi⟩
theorem pw_cell_below {w w1 : World} (h : Below w.heap.size w w1) {a : Addr} {v : Value} (hc : w.cell? a = some v) : w1.cell? a = some v := (h.cell (World.block_lt_of_cell? w a hc)).trans hc
theorem add_plain (g j : Nat) : (⟨g, 0, none⟩ : Addr).add j = ⟨g, j, none⟩ := by unfold Addr.add; split <;> simp_all
def ReadsInt (w : World) (k : IntKind) (A : Option Addr) (n : Nat) (xs : List Int) : Prop :=
  xs.length = n ∧ n ≤ 9223372036854775807 ∧ (0 < n → ∃ ad, A = some ad ∧ ∀ j, j < n → w.cell? (ad.add j) = some (.int k (xs.getD j 0)))
theorem ReadsInt.at_ {w : World} {k : IntKind} {A : Option Addr} {n : Nat} {xs : List Int} (h : ReadsInt w k A n xs) (i : Int) (h0 : 0 ≤ i) (h1 : i < n) : ∃ ad, A = some ad ∧ w.cell? (ad.add i.toNat) = some (.int k (rd xs i)) := by
  obtain ⟨ad, e, hc⟩ := h.2.2 (by omega)
  exact ⟨ad, e, hc _ (by omega)⟩
theorem ReadsInt.below {w w1 : World} {k : IntKind} {A : Option Addr} {n : Nat} {xs : List Int} (h : ReadsInt w k A n xs) (hb : Below w.heap.size w w1) : ReadsInt w1 k A n xs :=
  ⟨h.1, h.2.1, fun hn => by
    obtain ⟨ad, e, hc⟩ := h.2.2 hn
    exact ⟨ad, e, fun j hj => pw_cell_below hb (hc j hj)⟩⟩
theorem own_nil (W : World) (base : Nat) (e : TypeId) (size : Nat) : W.ownsRow base e size (.slice none 0 0) 0 [] := ⟨by simp, .inl ⟨rfl, rfl⟩⟩
theorem own_base {w : World} {base : Nat} {e : TypeId} {size n : Nat} {v : Value} {xs : List Value} (h : w.ownsRow base e size v n xs) (k : Nat) (hk : v.ownBlock = some k) : base ≤ k := by
  rcases h.2 with ⟨rfl, _⟩ | ⟨g, cap, cur, rfl, hb, _⟩
  · simp [Value.ownBlock] at hk
  · have : g = k := by simpa [Value.ownBlock] using hk
    omega
theorem own_lt {w : World} {base : Nat} {e : TypeId} {size n : Nat} {v : Value} {xs : List Value} (h : w.ownsRow base e size v n xs) (k : Nat) (hk : v.ownBlock = some k) : k < w.heap.size := by
  rcases h.2 with ⟨rfl, _⟩ | ⟨g, cap, cur, rfl, hb, hh, _⟩
  · simp [Value.ownBlock] at hk
  · have : g = k := by simpa [Value.ownBlock] using hk
    subst this
    exact (Array.getElem?_eq_some_iff.1 hh).1
theorem pw_own_below {w w1 : World} {base : Nat} {e : TypeId} {size n : Nat} {v : Value} {xs : List Value} (h : w.ownsRow base e size v n xs) (hb : Below w.heap.size w w1) : w1.ownsRow base e size v n xs :=
  h.kept (grown_of_below hb none) (by cases v.ownBlock <;> simp)
theorem ReadsInt.take_ {w : World} {k : IntKind} {A : Option Addr} {n : Nat} {xs : List Int} (h : ReadsInt w k A n xs) (i : Nat) (hi : i ≤ n) : ReadsInt w k A i (xs.take i) := by
  refine ⟨by rw [List.length_take, h.1]; omega, by have := h.2.1; omega, fun hp => ?_⟩
  obtain ⟨ad, e, hc⟩ := h.2.2 (by omega)
  refine ⟨ad, e, fun j hj => ?_⟩
  rw [hc j (by omega)]
  simp [List.getD_eq_getElem?_getD, hj]
def LeO {α : Type} (a b : Option α) : Prop := ∀ r, a = some r → b = some r
theorem LeO.refl {α : Type} (a : Option α) : LeO a a := fun _ h => h
theorem LeO.none {α : Type} (b : Option α) : LeO Option.none b := fun _ h => by cases h
theorem LeO.trans {α : Type} {a b c : Option α} (h : LeO a b) (k : LeO b c) : LeO a c := fun r hr => k r (h r hr)
theorem LeO.bind {α β : Type} {a a' : Option α} {f f' : α → Option β} (h : LeO a a') (k : ∀ x, LeO (f x) (f' x)) : LeO (a.bind f) (a'.bind f') := by
  intro r hr
  obtain ⟨x, hx, hf⟩ := Option.bind_eq_some_iff.1 hr
  exact Option.bind_eq_some_iff.2 ⟨x, h x hx, k x r hf⟩
theorem LeO.map {α β : Type} {a a' : Option α} (f : α → β) (h : LeO a a') : LeO (a.map f) (a'.map f) := by
  intro r hr
  obtain ⟨x, hx, hf⟩ := Option.map_eq_some_iff.1 hr
  exact Option.map_eq_some_iff.2 ⟨x, h x hx, hf⟩
theorem more_rounds {α : Type} {g : Nat → Option α} (h : ∀ k, LeO (g k) (g (k + 1))) (k : Nat) : ∀ j, LeO (g k) (g (k + j))
  | 0 => LeO.refl _
  | j + 1 => (more_rounds h k j).trans (h (k + j))
theorem at_rounds {α : Type} {g : Nat → Option α} (h : ∀ k, LeO (g k) (g (k + 1))) {k k' : Nat} (hk : k ≤ k') {r : α} (hr : g k = some r) : g k' = some r := by
  have := more_rounds h k (k' - k) r hr
  rwa [Nat.add_sub_cancel' hk] at this
def Reps {α : Type} (R : α → List Value → Prop) (size : Nat) (ps : List α) (cs : List Value) : Prop :=
  cs.length = ps.length * size ∧ ∀ j p, ps[j]? = some p → R p ((cs.drop (j * size)).take size)
theorem Reps.none {α : Type} (R : α → List Value → Prop) (size : Nat) : Reps R size [] [] := ⟨by simp, fun j p h => by simp at h⟩
theorem Reps.snoc {α : Type} {R : α → List Value → Prop} {size : Nat} {ps : List α} {cs c : List Value} {p : α} (h : Reps R size ps cs) (hp : R p c) (hc : c.length = size) : Reps R size (ps ++ [p]) (cs ++ c) := by
  refine ⟨by rw [List.length_append, h.1, hc, List.length_append, List.length_singleton, Nat.add_mul, Nat.one_mul], fun j q hq => ?_⟩
  rcases Nat.lt_or_ge j ps.length with hj | hj
  · rw [List.getElem?_append_left hj] at hq
    have h1 : j * size + size ≤ cs.length := by rw [h.1, ← Nat.succ_mul]; exact Nat.mul_le_mul_right _ hj
    have h2 := h.2 j q hq
    rw [List.drop_append_of_le_length (by omega), List.take_append_of_le_length (by rw [List.length_drop]; omega)]
    exact h2
  · have hj' : j = ps.length := by
      have := (List.getElem?_eq_some_iff.1 hq).1
      rw [List.length_append, List.length_singleton] at this
      omega
    subst hj'
    have hq' : p = q := by simpa using hq
    subst hq'
    rw [← h.1, List.drop_left, ← hc, List.take_length]
    exact hp
theorem Reps.imp_ {α : Type} {R R' : α → List Value → Prop} {size : Nat} {ps : List α} {cs : List Value} (h : Reps R size ps cs) (hR : ∀ p c, R p c → R' p c) : Reps R' size ps cs := ⟨h.1, fun j p hj => hR _ _ (h.2 j p hj)⟩
def ReadsRow {α : Type} (R : α → List Value → Prop) (size : Nat) (w : World) (A : Option Addr) (n : Nat) (ps : List α) : Prop :=
  ps.length = n ∧ n ≤ 9223372036854775807 ∧ (0 < n → ∃ ad, A = some ad ∧ ∀ j p, ps[j]? = some p → ∃ c, c.length = size ∧ R p c ∧ ∀ i u, c[i]? = some u → w.cell? (ad.add (j * size + i)) = some u)
theorem ReadsRow.get_ {α : Type} {R : α → List Value → Prop} {size : Nat} {w : World} {A : Option Addr} {n : Nat} {ps : List α} (h : ReadsRow R size w A n ps) (d : α) (i : Int) (h0 : 0 ≤ i) (h1 : i < n) :
    ∃ ad c, A = some ad ∧ c.length = size ∧ R (ps.getD i.toNat d) c ∧ ∀ j u, c[j]? = some u → w.cell? (ad.add (i.toNat * size + j)) = some u := by
  obtain ⟨ad, e, hc⟩ := h.2.2 (by omega)
  have hl : i.toNat < ps.length := by have := h.1; omega
  obtain ⟨c, hs, hr, hcell⟩ := hc i.toNat _ (List.getElem?_eq_getElem hl)
  refine ⟨ad, c, e, hs, ?_, hcell⟩
  rw [List.getD_eq_getElem?_getD, List.getElem?_eq_getElem hl]
  exact hr
theorem ReadsRow.imp_ {α : Type} {R R' : α → List Value → Prop} {size : Nat} {w w1 : World} {A : Option Addr} {n : Nat} {ps : List α} (h : ReadsRow R size w A n ps) (hb : Below w.heap.size w w1) (hR : ∀ p c, R p c → R' p c) : ReadsRow R' size w1 A n ps :=
  ⟨h.1, h.2.1, fun hn => by
    obtain ⟨ad, e, hc⟩ := h.2.2 hn
    refine ⟨ad, e, fun j p hj => ?_⟩
    obtain ⟨c, hs, hr, hcell⟩ := hc j p hj
    exact ⟨c, hs, hR _ _ hr, fun i u hu => pw_cell_below hb (hcell i u hu)⟩⟩
theorem own_reads_row {α : Type} {R : α → List Value → Prop} {w : World} {base n size : Nat} {e : TypeId} {v : Value} {ps : List α} {cs : List Value} (h : w.ownsRow base e size v n cs) (hR : Reps R size ps cs) (hn : ps.length = n) :
    ∃ A c, v = .slice A n c ∧ ReadsRow R size w A n ps := by
  rcases Nat.eq_zero_or_pos n with h0 | h0
  · rcases h.2 with ⟨rfl, rfl⟩ | ⟨g, cap, cur, rfl, _⟩
    · exact ⟨none, 0, rfl, hn, by omega, fun hp => absurd hp (by omega)⟩
    · exact ⟨_, cap, rfl, hn, by omega, fun hp => absurd hp (by omega)⟩
  · obtain ⟨g, cap, rfl, _, _⟩ := h.form h0
    have hm : n ≤ 9223372036854775807 := by
      rcases h.2 with ⟨_, h1⟩ | ⟨g', cap', cur, he, _, _, h1, h2, _⟩
      · omega
      · simp only [maxLen] at h2
        omega
    refine ⟨_, cap, rfl, hn, hm, fun _ => ⟨_, rfl, fun j p hj => ⟨(cs.drop (j * size)).take size, ?_, hR.2 j p hj, fun i u hu => ?_⟩⟩⟩
    · have hjl := (List.getElem?_eq_some_iff.1 hj).1
      have h1 : j * size + size ≤ cs.length := by rw [hR.1, ← Nat.succ_mul]; exact Nat.mul_le_mul_right _ hjl
      rw [List.length_take, List.length_drop]
      omega
    · refine h.cells (g := g) rfl _ u ?_
      rw [List.getElem?_take] at hu
      split at hu
      · rw [List.getElem?_drop] at hu
        exact hu
      · cases hu
theorem add_field (ad : Addr) (m j : Nat) (hj : 0 < j) : ad.add (m + j) = ⟨(ad.add m).block, (ad.add m).off + j, none⟩ := by
  unfold Addr.add
  by_cases hm : m = 0
  · subst hm
    simp [Nat.ne_of_gt hj]
  · simp [hm, Nat.add_assoc]
section
variable {P : Program} {ops : Array Oper} {rest : List Oper} {o : Oper} {a : Act} {Q : Exit → Act → World → Prop}
theorem print_append_cells {w0 W : World} (base : Nat) (hgd : o.guard = none) (s x : Operand) (t e : TypeId) (z : Value) (size bytes : Nat)
    (ho : o.op = .call { callee := .builtin .append, args := #[s, x], argTypes := #[t, t] })
    (ht : P.underlying t = some (.slice e)) (hinfo : (P.info? e).map (fun i => (i.zero, i.size, i.bytes)) = some (some z, size, bytes)) (hz : z.cells.size = size) (hs0 : 0 < size) (hb0 : 0 < bytes)
    (v : Value) (n : Nat) (xs ys : List Value) (hs : a.eval s = v) (hx : a.eval x = .slice (some ⟨W.heap.size, 0, none⟩) 1 1) (hys : ys.length = size) (h1 : ∀ u ∈ ys, u.oneCell' = true)
    (HO : W.ownsRow base e size v n xs) (HB : Below base w0 W) (hbase : base ≤ W.heap.size) (hl : (n + 1) * bytes ≤ 140737488355328)
    (h : ∀ v1 w1, w1.ownsRow base e size v1 (n + 1) (xs ++ ys) → Below base w0 w1 → W.grownBy w1 v.ownBlock → (v1.ownBlock = v.ownBlock ∨ ∃ b, v1.ownBlock = some b ∧ W.heap.size ≤ b) → wpList P ops Q rest (a.put o.dst v1) w1) :
    wpList P ops Q (o :: rest) a (W.alloc (.cells ys.toArray e)) := by
  obtain ⟨i0, hi, hzz⟩ := Option.map_eq_some_iff.1 hinfo
  simp only [Prod.mk.injEq] at hzz
  obtain ⟨hz0, hz1, hz2⟩ := hzz
  have hlen : n + 1 ≤ 140737488355328 := Nat.le_trans (Nat.le_mul_of_pos_right _ hb0) hl
  refine wpList_append_own_at (W.alloc (.cells ys.toArray e)) hgd s x t ho base e i0 z size bytes ht hi hz0 hz1 hz2 hz hs0 v n xs hs (HO.alloc _) ⟨W.heap.size, 0, none⟩ 1 1 ys hx (by rw [hys]; simp)
    (by simpa using World.news_of_block (cs := ys.toArray) (t := e) (fr := (0, 0)) (heap_alloc_new W (.cells ys.toArray e))) h1 (by simp only [maxLen]; omega) hl (by simp; omega) ?_
  intro v1 w1 hown hg _ hat
  refine h v1 w1 hown ((HB.alloc hbase _).grown hg (by simp; omega) (own_base HO)) (World.grownBy.trans (World.grownBy_alloc W _ _) hg) ?_
  rcases hat with hat | hat
  · exact .inl hat
  · exact .inr ⟨_, hat, by simp⟩
end
theorem own_ne {w : World} {base : Nat} {e t : TypeId} {size n g : Nat} {v : Value} {xs : List Value} {cs : Array Value} (h : w.ownsRow base e size v n xs) (hg : w.heap[g]? = some (.cells cs t (0, 0))) (hne : e ≠ t) : some g ≠ v.ownBlock := by
  rcases h.2 with ⟨rfl, _⟩ | ⟨g', cap, cur, rfl, _, hh, _⟩
  · simp [Value.ownBlock]
  · intro he
    have : g = g' := by simpa [Value.ownBlock] using he
    subst this
    rw [hg] at hh
    injection hh with hh
    injection hh with _ ht
    exact hne ht.symm
theorem blk_set {w : World} {g : Nat} {t : TypeId} {cs : Array Value} (h : w.heap[g]? = some (.cells cs t (0, 0))) (i : Nat) (u : Value) : (w.setCell ⟨g, i, none⟩ u).heap[g]? = some (.cells (cs.setIfInBounds i u) t (0, 0)) := by
  simp [World.setCell, Array.getElem?_modify, h]
theorem blk_far {w : World} {g : Nat} {t : TypeId} {cs : Array Value} (h : w.heap[g]? = some (.cells cs t (0, 0))) {p : Addr} (hp : g ≠ p.block) (u : Value) : (w.setCell p u).heap[g]? = some (.cells cs t (0, 0)) := (Below.heap_setCell w p u g hp).trans h
theorem blk_lt {w : World} {g : Nat} {o : Obj} (h : w.heap[g]? = some o) : g < w.heap.size := (Array.getElem?_eq_some_iff.1 h).1
theorem blk_cell {w : World} {g : Nat} {t : TypeId} {cs : Array Value} (h : w.heap[g]? = some (.cells cs t (0, 0))) (i : Nat) : w.cell? ⟨g, i, none⟩ = cs[i]? := cell_of_row w g i cs t (0, 0) h
theorem blk_frozen {w : World} {g : Nat} {t : TypeId} {cs : Array Value} (h : w.heap[g]? = some (.cells cs t (0, 0))) (i : Nat) : w.frozen? ⟨g, i, none⟩ = false := by simp [World.frozen?, h]
theorem blk_grown {w w1 : World} {g : Nat} {o : Obj} {row : Option Nat} (h : w.heap[g]? = some o) (hg : w.grownBy w1 row) (hne : some g ≠ row) : w1.heap[g]? = some o := (hg.block g (blk_lt h) hne).trans h
def KeepBut (w w' : World) (g : Nat) (row : Option Nat) : Prop := w.heap.size ≤ w'.heap.size ∧ ∀ i, i < w.heap.size → i ≠ g → some i ≠ row → w'.heap[i]? = w.heap[i]?
theorem KeepBut.refl (w : World) (g : Nat) (row : Option Nat) : KeepBut w w g row := ⟨Nat.le_refl _, fun _ _ _ _ => rfl⟩
theorem KeepBut.of_below {w w1 : World} (h : Below w.heap.size w w1) (g : Nat) (row : Option Nat) : KeepBut w w1 g row := ⟨h.size, fun i hi _ _ => h.block i hi⟩
theorem KeepBut.trans {w w1 w2 : World} {g : Nat} {row row1 : Option Nat} (h : KeepBut w w1 g row) (k : KeepBut w1 w2 g row1) (hr : row1 = row ∨ ∃ b, row1 = some b ∧ w.heap.size ≤ b) : KeepBut w w2 g row :=
  ⟨Nat.le_trans h.1 k.1, fun i hi hg hn => by
    refine (k.2 i (Nat.lt_of_lt_of_le hi h.1) hg ?_).trans (h.2 i hi hg hn)
    rcases hr with rfl | ⟨b, rfl, hb⟩
    · exact hn
    · intro e
      injection e with e
      omega⟩
theorem KeepBut.blk {w w1 : World} {g g' : Nat} {row : Option Nat} {o : Obj} (h : KeepBut w w1 g row) (hb : w.heap[g']? = some o) (hg : g' ≠ g) (hr : some g' ≠ row) : w1.heap[g']? = some o := (h.2 g' (blk_lt hb) hg hr).trans hb
theorem KeepBut.own {w w1 : World} {g : Nat} {row : Option Nat} {base : Nat} {e : TypeId} {size n : Nat} {v : Value} {xs : List Value} (h : KeepBut w w1 g row) (ho : w.ownsRow base e size v n xs) (hg : v.ownBlock ≠ some g) (hr : v.ownBlock = none ∨ v.ownBlock ≠ row) : w1.ownsRow base e size v n xs := by
  obtain ⟨h1, h2⟩ := ho
  refine ⟨h1, ?_⟩
  rcases h2 with h2 | ⟨b, cap, cur, rfl, hb, hh, r⟩
  · exact .inl h2
  · refine .inr ⟨b, cap, cur, rfl, hb, h.blk hh ?_ ?_, r⟩
    · intro e
      exact hg (by rw [← e]; rfl)
    · rcases hr with hr | hr
      · simp [Value.ownBlock] at hr
      · exact hr
def Ev {α : Type} (g : Nat → Option α) (r : α) : Prop := ∃ K, ∀ k, K ≤ k → g k = some r
theorem Ev.of {α : Type} {g : Nat → Option α} {r : α} (hg : ∀ k, LeO (g k) (g (k + 1))) {k : Nat} (h : g k = some r) : Ev g r := ⟨k, fun _ hk => at_rounds hg hk h⟩
theorem Ev.now {α : Type} (r : α) : Ev (fun _ => some r) r := ⟨0, fun _ _ => rfl⟩
theorem Ev.rounds {α : Type} {g : Nat → Option α} {r : α} (h : Ev g r) : ∃ k, g k = some r := by
  obtain ⟨K, h⟩ := h
  exact ⟨K, h K (Nat.le_refl _)⟩
theorem Ev.bind {α β : Type} {g : Nat → Option α} {f : Nat → α → Option β} {a : α} {r : β} (h : Ev g a) (k : Ev (fun n => f n a) r) : Ev (fun n => (g n).bind (f n)) r := by
  obtain ⟨K, h⟩ := h
  obtain ⟨K', k⟩ := k
  refine ⟨max K K', fun n hn => ?_⟩
  have h1 := h n (by omega)
  have h2 := k n (by omega)
  simp only [h1, Option.bind_some]
  exact h2
theorem Ev.step {α : Type} {g f : Nat → Option α} {r : α} (h : ∀ k, g (k + 1) = f k) (k : Ev f r) : Ev g r := by
  obtain ⟨K, k⟩ := k
  refine ⟨K + 1, fun n hn => ?_⟩
  obtain ⟨m, rfl⟩ : ∃ m, n = m + 1 := ⟨n - 1, by omega⟩
  rw [h]
  exact k m (by omega)
theorem Ev.congr {α : Type} {g f : Nat → Option α} {r : α} (h : ∀ k, g k = f k) (k : Ev f r) : Ev g r := by
  obtain ⟨K, k⟩ := k
  exact ⟨K, fun n hn => (h n).trans (k n hn)⟩
section
variable {P : Program} {ops : Array Oper} {o : Oper} {a : Act} {Q : Exit → Act → World → Prop} {K : Act → World → Prop}
theorem step_append_cells {w0 W : World} (base : Nat) (hw : Region.wanted o (yielded ops a.tmps) = true) (s x : Operand) (t e : TypeId) (z : Value) (size bytes : Nat)
    (ho : o.op = .call { callee := .builtin .append, args := #[s, x], argTypes := #[t, t] })
    (ht : P.underlying t = some (.slice e)) (hinfo : (P.info? e).map (fun i => (i.zero, i.size, i.bytes)) = some (some z, size, bytes)) (hz : z.cells.size = size) (hs0 : 0 < size) (hb0 : 0 < bytes)
    (v : Value) (n : Nat) (xs ys : List Value) (hs : a.eval s = v) (hx : a.eval x = .slice (some ⟨W.heap.size, 0, none⟩) 1 1) (hys : ys.length = size) (h1 : ∀ u ∈ ys, u.oneCell' = true)
    (HO : W.ownsRow base e size v n xs) (HB : Below base w0 W) (hbase : base ≤ W.heap.size) (hl : (n + 1) * bytes ≤ 140737488355328)
    (h : ∀ v1 w1, w1.ownsRow base e size v1 (n + 1) (xs ++ ys) → Below base w0 w1 → W.grownBy w1 v.ownBlock → (v1.ownBlock = v.ownBlock ∨ ∃ b, v1.ownBlock = some b ∧ W.heap.size ≤ b) → K (a.put o.dst v1) w1) :
    if Region.wanted o (yielded ops a.tmps) = true then Oper.wp P o a (W.alloc (.cells ys.toArray e)) K Q else K (a.put o.dst undef) (W.alloc (.cells ys.toArray e)) := by
  obtain ⟨i0, hi, hzz⟩ := Option.map_eq_some_iff.1 hinfo
  simp only [Prod.mk.injEq] at hzz
  obtain ⟨hz0, hz1, hz2⟩ := hzz
  have hlen : n + 1 ≤ 140737488355328 := Nat.le_trans (Nat.le_mul_of_pos_right _ hb0) hl
  rw [if_pos hw]
  obtain ⟨v1, w1, hr, hown, hg, _, hat⟩ := run_append_own_at (P := P) (W.alloc (.cells ys.toArray e)) base t o.type e i0 z size bytes ht hi hz0 hz1 hz2 hz hs0 v n xs (HO.alloc _) ⟨W.heap.size, 0, none⟩ 1 1 ys (by rw [hys]; simp)
    (by simpa using World.news_of_block (cs := ys.toArray) (t := e) (fr := (0, 0)) (heap_alloc_new W (.cells ys.toArray e))) h1 (by simp only [maxLen]; omega) hl (by simp; omega)
  unfold Oper.wp execOp
  simp only [ho, resolve, invoke, builtin, Sem.run_bind, Sem.run_pure, Result.andThen_ok, List.map_toArray, List.map_cons, List.map_nil, hs, hx, hr]
  refine h v1 w1 hown ((HB.alloc hbase _).grown hg (by simp; omega) (own_base HO)) (World.grownBy.trans (World.grownBy_alloc W _ _) hg) ?_
  rcases hat with hat | hat
  · exact .inl hat
  · exact .inr ⟨_, hat, by simp⟩
end
theorem own_weaken {w : World} {base base' : Nat} {e : TypeId} {size n : Nat} {v : Value} {xs : List Value} (h : w.ownsRow base e size v n xs) (hb : base' ≤ base) : w.ownsRow base' e size v n xs := by
  obtain ⟨h1, h2⟩ := h
  refine ⟨h1, ?_⟩
  rcases h2 with h2 | ⟨g, cap, cur, rfl, hg, r⟩
  · exact .inl h2
  · exact .inr ⟨g, cap, cur, rfl, Nat.le_trans hb hg, r⟩
section
variable {α : Type} {enc : α → Value} {d : α}
def rdOf (d : α) (xs : List α) (i : Int) : α := xs.getD i.toNat d
def ReadsOf (enc : α → Value) (d : α) (w : World) (A : Option Addr) (n : Nat) (xs : List α) : Prop :=
  xs.length = n ∧ n ≤ 9223372036854775807 ∧ (0 < n → ∃ ad, A = some ad ∧ ∀ j, j < n → w.cell? (ad.add j) = some (enc (xs.getD j d)))
theorem ReadsOf.at_ {w : World} {A : Option Addr} {n : Nat} {xs : List α} (h : ReadsOf enc d w A n xs) (i : Int) (h0 : 0 ≤ i) (h1 : i < n) : ∃ ad, A = some ad ∧ w.cell? (ad.add i.toNat) = some (enc (rdOf d xs i)) := by
  obtain ⟨ad, e, hc⟩ := h.2.2 (by omega)
  exact ⟨ad, e, hc _ (by omega)⟩
theorem ReadsOf.below {w w1 : World} {A : Option Addr} {n : Nat} {xs : List α} (h : ReadsOf enc d w A n xs) (hb : Below w.heap.size w w1) : ReadsOf enc d w1 A n xs :=
  ⟨h.1, h.2.1, fun hn => by
    obtain ⟨ad, e, hc⟩ := h.2.2 hn
    exact ⟨ad, e, fun j hj => pw_cell_below hb (hc j hj)⟩⟩
theorem ReadsOf.take_ {w : World} {A : Option Addr} {n : Nat} {xs : List α} (h : ReadsOf enc d w A n xs) (i : Nat) (hi : i ≤ n) : ReadsOf enc d w A i (xs.take i) := by
  refine ⟨by rw [List.length_take, h.1]; omega, by have := h.2.1; omega, fun hp => ?_⟩
  obtain ⟨ad, e, hc⟩ := h.2.2 (by omega)
  refine ⟨ad, e, fun j hj => ?_⟩
  rw [hc j (by omega)]
  simp [List.getD_eq_getElem?_getD, hj]
end
theorem blk_alloc {w : World} {g : Nat} {o : Obj} (h : w.heap[g]? = some o) (o' : Obj) : (w.alloc o').heap[g]? = some o := (Below.heap_alloc w o' g (blk_lt h)).trans h
theorem blk_drew {w : World} {g : Nat} {o : Obj} (h : w.heap[g]? = some o) : w.drew.heap[g]? = some o := h
theorem blk_drewN {w : World} {g : Nat} {o : Obj} (h : w.heap[g]? = some o) (n : Nat) : (w.drewN n).heap[g]? = some o := h
theorem blk_below {w w1 : World} {g : Nat} {o : Obj} (h : w.heap[g]? = some o) (hb : Below w.heap.size w w1) : w1.heap[g]? = some o := (hb.block g (blk_lt h)).trans h
theorem blk_new (w : World) (o : Obj) : (w.alloc o).heap[w.heap.size]? = some o := heap_alloc_new w o
section
variable {P : Program}
theorem results_ct {fn : Func} {p u : Tmp} {ty : TypeId} (h : fn.results = #[.cell p ty, .tmp u]) (tmps : Array Value) (w : World) (g : Nat) (t : TypeId) (cs : Array Value) (fr : Nat × Nat) (d : TypeDesc)
    (hp : tmps.getD p undef = .pointer (some ⟨g, 0, none⟩)) (hg : w.heap[g]? = some (.cells cs t fr))
    (hu : P.underlying ty = some d) (hd : (match d with | .struct _ | .array _ _ => true | _ => false) = true) (hi : (P.info? ty).map (·.size) = some cs.size) :
    (results fn tmps).run P w = .ok (.tuple #[.agg cs, tmps.getD u undef]) w := by
  have hp' : tmps[p]?.getD undef = .pointer (some ⟨g, 0, none⟩) := by simpa using hp
  simp [results, h, hp', asAddr, run_loadVar_row w g t ty cs fr d hg hu hd hi]
end
theorem own_le {w : World} {base n m c size : Nat} {e : TypeId} {A : Option Addr} {xs : List Value} (h : w.ownsRow base e size (.slice A m c) n xs) : m ≤ c := by
  rcases h.2 with ⟨he, _⟩ | ⟨g, cap, cur, he, _, _, hnc, _⟩
  · injection he with _ h2 h3
    omega
  · injection he with _ h2 h3
    omega
def OwnRow {α : Type} (R : α → List Value → Prop) (e : TypeId) (size : Nat) (w : World) (base : Nat) (v : Value) (ps : List α) : Prop :=
  ∃ inner, w.ownsRow base e size v ps.length inner ∧ Reps R size ps inner
section
variable {α : Type} {R R' : α → List Value → Prop} {e : TypeId} {size : Nat} {w w1 : World} {base : Nat} {v : Value} {ps : List α}
theorem OwnRow.none_ (R : α → List Value → Prop) (e : TypeId) (size : Nat) (w : World) (base : Nat) : OwnRow R e size w base (.slice none 0 0) [] := ⟨[], own_nil _ _ _ _, Reps.none _ _⟩
theorem OwnRow.imp_ (h : OwnRow R e size w base v ps) (hR : ∀ p c, R p c → R' p c) : OwnRow R' e size w base v ps := by
  obtain ⟨inner, ho, hr⟩ := h
  exact ⟨inner, ho, hr.imp_ hR⟩
theorem OwnRow.below (h : OwnRow R e size w base v ps) (hb : Below w.heap.size w w1) : OwnRow R e size w1 base v ps := by
  obtain ⟨inner, ho, hr⟩ := h
  exact ⟨inner, pw_own_below ho hb, hr⟩
theorem OwnRow.keep (h : OwnRow R e size w base v ps) {g : Nat} {t : TypeId} {cells : Array Value} (hb : w.heap[g]? = some (.cells cells t (0, 0))) (ht : e ≠ t) (hk : KeepBut w w1 g none) : OwnRow R e size w1 base v ps := by
  obtain ⟨inner, ho, hr⟩ := h
  exact ⟨inner, hk.own ho (Ne.symm (own_ne ho hb ht)) (by cases v.ownBlock <;> simp), hr⟩
theorem OwnRow.reads (h : OwnRow R e size w base v ps) : ∃ A c, v = .slice A ps.length c ∧ ps.length ≤ c ∧ ReadsRow R size w A ps.length ps := by
  obtain ⟨inner, ho, hr⟩ := h
  obtain ⟨A, c, rfl, hrow⟩ := own_reads_row ho hr rfl
  exact ⟨A, c, rfl, own_le ho, hrow⟩
theorem OwnRow.ne_block (h : OwnRow R e size w base v ps) {g : Nat} {t : TypeId} {cells : Array Value} (hb : w.heap[g]? = some (.cells cells t (0, 0))) (ht : e ≠ t) : some g ≠ v.ownBlock := by
  obtain ⟨inner, ho, hr⟩ := h
  exact own_ne ho hb ht
theorem OwnRow.lit (W : World) (base : Nat) {inner : List Value} (hr : Reps R size ps inner) (hb : base ≤ W.heap.size) (hm : ps.length ≤ 9223372036854775807) :
    OwnRow R e size (W.alloc (.cells inner.toArray e)) base (.slice (some ⟨W.heap.size, 0, none⟩) ps.length ps.length) ps := by
  have h := World.ownsRow_lit (base := base) (e := e) (size := size) W inner.toArray ps.length hb (by simpa [maxLen] using hm) (by simpa using hr.1)
  exact ⟨inner, by simpa using h, hr⟩
end
section
variable {P : Program} {ops : Array Oper} {rest : List Oper} {o : Oper} {a : Act} {Q : Exit → Act → World → Prop} {α : Type} {R : α → List Value → Prop}
theorem OwnRow.append {w0 W : World} (base : Nat) (hgd : o.guard = none) (s x : Operand) (t e : TypeId) (z : Value) (size bytes : Nat)
    (ho : o.op = .call { callee := .builtin .append, args := #[s, x], argTypes := #[t, t] })
    (ht : P.underlying t = some (.slice e)) (hinfo : (P.info? e).map (fun i => (i.zero, i.size, i.bytes)) = some (some z, size, bytes)) (hz : z.cells.size = size) (hs0 : 0 < size) (hb0 : 0 < bytes)
    (v : Value) (ps : List α) (p : α) (cs : List Value) (hs : a.eval s = v) (hx : a.eval x = .slice (some ⟨W.heap.size, 0, none⟩) 1 1) (hp : R p cs) (hcs : cs.length = size) (h1 : ∀ u ∈ cs, u.oneCell' = true)
    (HO : OwnRow R e size W base v ps) (HB : Below base w0 W) (hbase : base ≤ W.heap.size) (hl : (ps.length + 1) * bytes ≤ 140737488355328)
    (h : ∀ v1 w1, OwnRow R e size w1 base v1 (ps ++ [p]) → Below base w0 w1 → W.grownBy w1 v.ownBlock → (v1.ownBlock = v.ownBlock ∨ ∃ b, v1.ownBlock = some b ∧ W.heap.size ≤ b) → wpList P ops Q rest (a.put o.dst v1) w1) :
    wpList P ops Q (o :: rest) a (W.alloc (.cells cs.toArray e)) := by
  obtain ⟨inner, hown, hr⟩ := HO
  refine print_append_cells base hgd s x t e z size bytes ho ht hinfo hz hs0 hb0 v ps.length inner cs hs hx hcs h1 hown HB hbase hl ?_
  intro v1 w1 hown1 hb1 hg1 hat1
  exact h v1 w1 ⟨inner ++ cs, by rw [List.length_append, List.length_singleton]; exact hown1, hr.snoc hp hcs⟩ hb1 hg1 hat1
end
theorem ReadsRow.inner_ {α : Type} {R : α → List Value → Prop} {size : Nat} {w : World} {ad : Addr} {n : Nat} {ps : List α} (h : ReadsRow R size w (some ad) n ps) :
    ∃ inner, Reps R size ps inner ∧ ∀ j u, inner[j]? = some u → w.cell? (ad.add j) = some u := by
  have key : ∀ m, m ≤ ps.length → ∃ inner, Reps R size (ps.take m) inner ∧ ∀ j u, inner[j]? = some u → w.cell? (ad.add j) = some u := by
    intro m
    induction m with
    | zero => exact fun _ => ⟨[], Reps.none _ _, fun j u hu => by simp at hu⟩
    | succ m ih =>
      intro hm
      obtain ⟨inner, hr, hc⟩ := ih (by omega)
      obtain ⟨ad', he, hcell⟩ := h.2.2 (by have := h.1; omega)
      injection he with he
      subst he
      obtain ⟨c, hcl, hp, hcc⟩ := hcell m _ (List.getElem?_eq_getElem (show m < ps.length by omega))
      refine ⟨inner ++ c, ?_, fun j u hu => ?_⟩
      · rw [List.take_succ_eq_append_getElem (show m < ps.length by omega)]
        exact hr.snoc hp hcl
      · have hil : inner.length = m * size := by rw [hr.1, List.length_take, Nat.min_eq_left (by omega)]
        rcases Nat.lt_or_ge j inner.length with hj | hj
        · rw [List.getElem?_append_left hj] at hu
          exact hc j u hu
        · rw [List.getElem?_append_right hj] at hu
          have := hcc (j - inner.length) u hu
          rwa [hil, Nat.add_sub_cancel' (by omega)] at this
  obtain ⟨inner, hr, hc⟩ := key ps.length (Nat.le_refl _)
  rw [List.take_length] at hr
  exact ⟨inner, hr, hc⟩
structure Kd (α : Type) where
  sz : Nat
  E : List Nat
  K : World → α → List Value → Prop
  M : World → Nat → (Nat → Prop) → α → List Value → Prop
  K_len : ∀ {w x cs}, K w x cs → cs.length = sz
  K_one : ∀ {w x cs}, K w x cs → ∀ u ∈ cs, u.oneCell' = true
  K_below : ∀ {w w1 : World} {x cs}, Below w.heap.size w w1 → K w x cs → K w1 x cs
  K_of_M : ∀ {w base ok x cs}, M w base ok x cs → K w x cs
  M_mono : ∀ {w base ok ok' x cs}, (∀ k, ok k → ok' k) → M w base ok x cs → M w base ok' x cs
  M_bound : ∀ {w : World} {base ok x cs}, M w base ok x cs → M w base (fun k => ok k ∧ base ≤ k ∧ k < w.heap.size ∧ ∃ q, q ∈ E ∧ ∃ cells, w.heap[k]? = some (.cells cells q (0, 0))) x cs
  M_move : ∀ {w w1 : World} {base ok x cs}, (∀ k, ok k → w1.heap[k]? = w.heap[k]?) → M w base ok x cs → M w1 base ok x cs
  M_lower : ∀ {w base base' ok x cs}, base' ≤ base → M w base ok x cs → M w base' ok x cs
theorem own_move {w w1 : World} {base : Nat} {e : TypeId} {size n : Nat} {v : Value} {xs : List Value} (h : w.ownsRow base e size v n xs) (hm : ∀ k, v.ownBlock = some k → w1.heap[k]? = w.heap[k]?) : w1.ownsRow base e size v n xs := by
  obtain ⟨h1, h2⟩ := h
  refine ⟨h1, ?_⟩
  rcases h2 with h2 | ⟨g, cap, cur, rfl, hg, hh, r⟩
  · exact .inl h2
  · exact .inr ⟨g, cap, cur, rfl, hg, (hm g (by simp [Value.ownBlock])).trans hh, r⟩
theorem own_typed {w : World} {base : Nat} {e : TypeId} {size n : Nat} {v : Value} {xs : List Value} (h : w.ownsRow base e size v n xs) (k : Nat) (hk : v.ownBlock = some k) : ∃ cells, w.heap[k]? = some (.cells cells e (0, 0)) := by
  rcases h.2 with ⟨rfl, _⟩ | ⟨g, cap, cur, rfl, hg, hh, r⟩
  · simp [Value.ownBlock] at hk
  · have : g = k := by simpa [Value.ownBlock] using hk
    subst this
    exact ⟨cur, hh⟩
namespace Kd
def C {α : Type} (d : Kd α) (w : World) (A : Option Addr) (n : Nat) (xs : List α) : Prop := ReadsRow (d.K w) d.sz w A n xs
def R {α : Type} (d : Kd α) (e : Nat) (w : World) (base : Nat) (ok : Nat → Prop) (v : Value) (xs : List α) : Prop :=
  (∀ k, v.ownBlock = some k → ok k) ∧ OwnRow (d.M w base (fun k => ok k ∧ some k ≠ v.ownBlock)) e d.sz w base v xs
section
variable {α : Type} {d : Kd α} {e : Nat} {w w1 : World} {base : Nat} {ok ok' : Nat → Prop} {v : Value} {xs : List α}
theorem C_below {A : Option Addr} {n : Nat} (h : d.C w A n xs) (hb : Below w.heap.size w w1) : d.C w1 A n xs := ReadsRow.imp_ h hb (fun _ _ hp => d.K_below hb hp)
theorem R_nil (d : Kd α) (e : Nat) (w : World) (base : Nat) (ok : Nat → Prop) : d.R e w base ok (.slice none 0 0) [] := ⟨fun k hk => by simp [Value.ownBlock] at hk, OwnRow.none_ _ _ _ _ _⟩
theorem R_mono (h : d.R e w base ok v xs) (hok : ∀ k, ok k → ok' k) : d.R e w base ok' v xs := ⟨fun k hk => hok k (h.1 k hk), h.2.imp_ (fun _ _ hp => d.M_mono (fun k hk => ⟨hok k hk.1, hk.2⟩) hp)⟩
theorem R_bound (h : d.R e w base ok v xs) : d.R e w base (fun k => ok k ∧ base ≤ k ∧ k < w.heap.size ∧ ∃ q, q ∈ e :: d.E ∧ ∃ cells, w.heap[k]? = some (.cells cells q (0, 0))) v xs := by
  obtain ⟨h0, inner, ho, hr⟩ := h
  refine ⟨fun k hk => ?_, inner, ho, hr.imp_ (fun _ _ hp => d.M_mono (fun k hk => ?_) (d.M_bound hp))⟩
  · obtain ⟨cells, hc⟩ := own_typed ho k hk
    exact ⟨h0 k hk, own_base ho k hk, own_lt ho k hk, e, List.mem_cons_self, cells, hc⟩
  · obtain ⟨⟨h1, h2⟩, h3, h4, q, hq, hc⟩ := hk
    exact ⟨⟨h1, h3, h4, q, List.mem_cons_of_mem _ hq, hc⟩, h2⟩
theorem R_move (h : d.R e w base ok v xs) (hm : ∀ k, ok k → w1.heap[k]? = w.heap[k]?) : d.R e w1 base ok v xs := by
  obtain ⟨h0, inner, ho, hr⟩ := h
  exact ⟨h0, inner, own_move ho (fun k hk => hm k (h0 k hk)), hr.imp_ (fun _ _ hp => d.M_move (fun k hk => hm k hk.1) hp)⟩
theorem R_lower {base' : Nat} (h : d.R e w base ok v xs) (hb : base' ≤ base) : d.R e w base' ok v xs := by
  obtain ⟨h0, inner, ho, hr⟩ := h
  exact ⟨h0, inner, own_weaken ho hb, hr.imp_ (fun _ _ hp => d.M_lower hb hp)⟩
theorem R_step (h : d.R e w base ok v xs) (hm : ∀ k, ok k → k < w.heap.size → w1.heap[k]? = w.heap[k]?) : d.R e w1 base ok v xs :=
  R_mono (R_move (R_bound h) (fun k hk => hm k hk.1 hk.2.2.1)) (fun _ hk => hk.1)
theorem M_step {x : α} {cs : List Value} (h : d.M w base ok x cs) (hm : ∀ k, ok k → k < w.heap.size → w1.heap[k]? = w.heap[k]?) : d.M w1 base ok x cs :=
  d.M_mono (fun _ hk => hk.1) (d.M_move (fun k hk => hm k hk.1 hk.2.2.1) (d.M_bound h))
theorem R_below (h : d.R e w base ok v xs) (hb : Below w.heap.size w w1) : d.R e w1 base ok v xs := R_step h (fun k _ hk => hb.block k hk)
theorem M_below {x : α} {cs : List Value} (h : d.M w base ok x cs) (hb : Below w.heap.size w w1) : d.M w1 base ok x cs := M_step h (fun k _ hk => hb.block k hk)
theorem R_types (h : d.R e w base ok v xs) {g t : Nat} {cells : Array Value} (hb : w.heap[g]? = some (.cells cells t (0, 0))) (ht : ∀ q, q ∈ e :: d.E → q ≠ t) : d.R e w base (fun k => ok k ∧ k ≠ g) v xs :=
  R_mono (R_bound h) (fun k hk => ⟨hk.1, by
    obtain ⟨_, _, _, q, hq, cells', hc⟩ := hk
    rintro rfl
    rw [hc] at hb
    injection hb with hb
    injection hb with _ hb
    exact ht q hq hb⟩)
theorem R_reads (h : d.R e w base ok v xs) : ∃ A c, v = .slice A xs.length c ∧ xs.length ≤ c ∧ d.C w A xs.length xs := by
  obtain ⟨A, c, he, hl, hr⟩ := OwnRow.reads h.2
  exact ⟨A, c, he, hl, hr.imp_ (Below.refl _ _) (fun _ _ hp => d.K_of_M hp)⟩
theorem R_slice (h : d.R e w base ok v xs) : ∃ A c, v = .slice A xs.length c := by
  obtain ⟨A, c, he, _⟩ := R_reads h
  exact ⟨A, c, he⟩
theorem R_own (h : d.R e w base ok v xs) : ∃ inner, w.ownsRow base e d.sz v xs.length inner := by
  obtain ⟨_, inner, ho, _⟩ := h
  exact ⟨inner, ho⟩
theorem R_ne (h : d.R e w base ok v xs) {g t : Nat} {cells : Array Value} (hb : w.heap[g]? = some (.cells cells t (0, 0))) (ht : e ≠ t) : some g ≠ v.ownBlock := OwnRow.ne_block h.2 hb ht
end
def scalar {α : Type} (enc : α → Value) (h1 : ∀ x, (enc x).oneCell' = true) : Kd α where
  sz := 1
  E := []
  K := fun _ x cs => cs = [enc x]
  M := fun _ _ _ x cs => cs = [enc x]
  K_len := fun h => by rw [h]; rfl
  K_one := fun h u hu => by
    rw [h] at hu
    rw [List.mem_singleton.1 hu]
    exact h1 _
  K_below := fun _ h => h
  K_of_M := fun h => h
  M_mono := fun _ h => h
  M_bound := fun h => h
  M_move := fun _ h => h
  M_lower := fun _ h => h
def int (k : IntKind) : Kd Int := scalar (Value.int k) (fun _ => rfl)
def bool : Kd Bool := scalar Value.bool (fun _ => rfl)
def slice {α : Type} (e : Nat) (d : Kd α) : Kd (List α) where
  sz := 1
  E := e :: d.E
  K := fun w xs cs => ∃ A c, cs = [.slice A xs.length c] ∧ xs.length ≤ c ∧ d.C w A xs.length xs
  M := fun w base ok xs cs => ∃ v, cs = [v] ∧ d.R e w base ok v xs
  K_len := by
    rintro w x cs ⟨A, c, rfl, _⟩
    rfl
  K_one := by
    rintro w x cs ⟨A, c, rfl, _⟩ u hu
    rw [List.mem_singleton.1 hu]
    rfl
  K_below := by
    rintro w w1 x cs hb ⟨A, c, rfl, hl, hr⟩
    exact ⟨A, c, rfl, hl, C_below hr hb⟩
  K_of_M := by
    rintro w base ok x cs ⟨v, rfl, h⟩
    obtain ⟨A, c, rfl, hl, hr⟩ := R_reads h
    exact ⟨A, c, rfl, hl, hr⟩
  M_mono := by
    rintro w base ok ok' x cs hok ⟨v, rfl, h⟩
    exact ⟨v, rfl, R_mono h hok⟩
  M_bound := by
    rintro w base ok x cs ⟨v, rfl, h⟩
    exact ⟨v, rfl, R_bound h⟩
  M_move := by
    rintro w w1 base ok x cs hm ⟨v, rfl, h⟩
    exact ⟨v, rfl, R_move h hm⟩
  M_lower := by
    rintro w base base' ok x cs hb ⟨v, rfl, h⟩
    exact ⟨v, rfl, R_lower h hb⟩
def pair {α β : Type} (a : Kd α) (b : Kd β) : Kd (α × β) where
  sz := a.sz + b.sz
  E := a.E ++ b.E
  K := fun w x cs => ∃ c0 c1, cs = c0 ++ c1 ∧ a.K w x.1 c0 ∧ b.K w x.2 c1
  M := fun w base ok x cs => ∃ c0 c1, cs = c0 ++ c1 ∧ a.M w base ok x.1 c0 ∧ b.M w base ok x.2 c1
  K_len := by
    rintro w x cs ⟨c0, c1, rfl, h0, h1⟩
    rw [List.length_append, a.K_len h0, b.K_len h1]
  K_one := by
    rintro w x cs ⟨c0, c1, rfl, h0, h1⟩ u hu
    rcases List.mem_append.1 hu with hu | hu
    · exact a.K_one h0 u hu
    · exact b.K_one h1 u hu
  K_below := by
    rintro w w1 x cs hb ⟨c0, c1, rfl, h0, h1⟩
    exact ⟨c0, c1, rfl, a.K_below hb h0, b.K_below hb h1⟩
  K_of_M := by
    rintro w base ok x cs ⟨c0, c1, rfl, h0, h1⟩
    exact ⟨c0, c1, rfl, a.K_of_M h0, b.K_of_M h1⟩
  M_mono := by
    rintro w base ok ok' x cs hok ⟨c0, c1, rfl, h0, h1⟩
    exact ⟨c0, c1, rfl, a.M_mono hok h0, b.M_mono hok h1⟩
  M_bound := by
    rintro w base ok x cs ⟨c0, c1, rfl, h0, h1⟩
    refine ⟨c0, c1, rfl, a.M_mono ?_ (a.M_bound h0), b.M_mono ?_ (b.M_bound h1)⟩
    · rintro k ⟨h2, h3, h4, q, hq, hc⟩
      exact ⟨h2, h3, h4, q, List.mem_append_left _ hq, hc⟩
    · rintro k ⟨h2, h3, h4, q, hq, hc⟩
      exact ⟨h2, h3, h4, q, List.mem_append_right _ hq, hc⟩
  M_move := by
    rintro w w1 base ok x cs hm ⟨c0, c1, rfl, h0, h1⟩
    exact ⟨c0, c1, rfl, a.M_move hm h0, b.M_move hm h1⟩
  M_lower := by
    rintro w base base' ok x cs hb ⟨c0, c1, rfl, h0, h1⟩
    exact ⟨c0, c1, rfl, a.M_lower hb h0, b.M_lower hb h1⟩
def iso {α β : Type} (d : Kd α) (f : β → α) : Kd β where
  sz := d.sz
  E := d.E
  K := fun w x cs => d.K w (f x) cs
  M := fun w base ok x cs => d.M w base ok (f x) cs
  K_len := d.K_len
  K_one := d.K_one
  K_below := d.K_below
  K_of_M := d.K_of_M
  M_mono := d.M_mono
  M_bound := d.M_bound
  M_move := d.M_move
  M_lower := d.M_lower
def bot {α : Type} (sz : Nat) (E : List Nat) : Kd α where
  sz := sz
  E := E
  K := fun _ _ _ => False
  M := fun _ _ _ _ _ => False
  K_len := fun h => h.elim
  K_one := fun h => h.elim
  K_below := fun _ h => h
  K_of_M := fun h => h
  M_mono := fun _ h => h
  M_bound := fun h => h
  M_move := fun _ h => h
  M_lower := fun _ h => h
def upto {α : Type} (F : Kd α → Kd α) (sz : Nat) (E : List Nat) : Nat → Kd α
  | 0 => bot sz E
  | n + 1 => F (upto F sz E n)
theorem C_get {α : Type} {d : Kd α} {w : World} {A : Option Addr} {n : Nat} {xs : List α} (h : d.C w A n xs) (z : α) (i : Int) (h0 : 0 ≤ i) (h1 : i < n) :
    ∃ ad c, A = some ad ∧ c.length = d.sz ∧ d.K w (xs.getD i.toNat z) c ∧ ∀ j u, c[j]? = some u → w.cell? (ad.add (i.toNat * d.sz + j)) = some u := ReadsRow.get_ h z i h0 h1
theorem R_appended {α : Type} {d : Kd α} {e base : Nat} {ok okp : Nat → Prop} {W w1 : World} {v v1 : Value} {xs : List α} {p : α} {inner cs : List Value} (h0 : ∀ k, v.ownBlock = some k → ok k) (hr : Reps (d.M W base (fun k => ok k ∧ some k ≠ v.ownBlock)) d.sz xs inner) (hp : d.M W base okp p cs) (hokp : ∀ k, okp k → ok k ∧ some k ≠ v.ownBlock) (hfresh : ∀ k, W.heap.size ≤ k → ok k)
    (hown : w1.ownsRow base e d.sz v1 (xs.length + 1) (inner ++ cs)) (hg : W.grownBy w1 v.ownBlock) (hat : v1.ownBlock = v.ownBlock ∨ ∃ b, v1.ownBlock = some b ∧ W.heap.size ≤ b) : d.R e w1 base ok v1 (xs ++ [p]) := by
  have hne : ∀ k, some k ≠ v.ownBlock → k < W.heap.size → some k ≠ v1.ownBlock := by
    intro k hk hlt
    rcases hat with hat | ⟨b, hb, hle⟩
    · rw [hat]; exact hk
    · rw [hb]
      intro he
      injection he with he
      omega
  have step : ∀ {q : α} {c : List Value} {o : Nat → Prop}, d.M W base o q c → (∀ k, o k → ok k ∧ some k ≠ v.ownBlock) → d.M w1 base (fun k => ok k ∧ some k ≠ v1.ownBlock) q c := by
    intro q c o hq ho
    have h1 := d.M_move (w1 := w1) (fun k hk => hg.block k hk.2.2.1 (ho k hk.1).2) (d.M_bound hq)
    exact d.M_mono (fun k hk => ⟨(ho k hk.1).1, hne k (ho k hk.1).2 hk.2.2.1⟩) h1
  refine ⟨fun k hk => ?_, inner ++ cs, by rw [List.length_append, List.length_singleton]; exact hown, ?_⟩
  · rcases hat with hat | ⟨b, hb, hle⟩
    · exact h0 k (hat ▸ hk)
    · rw [hb] at hk
      injection hk with hk
      exact hfresh k (by omega)
  · exact (hr.imp_ (fun _ _ hq => step hq (fun _ hk => hk))).snoc (step hp hokp) (d.K_len (d.K_of_M hp))
section
variable {P : Program} {ops : Array Oper} {rest : List Oper} {o : Oper} {a : Act} {Q : Exit → Act → World → Prop} {α : Type}
theorem R_append (d : Kd α) {w0 W : World} (base : Nat) (hgd : o.guard = none) (s x : Operand) (t e : TypeId) (z : Value) (bytes : Nat)
    (ho : o.op = .call { callee := .builtin .append, args := #[s, x], argTypes := #[t, t] })
    (ht : P.underlying t = some (.slice e)) (hinfo : (P.info? e).map (fun i => (i.zero, i.size, i.bytes)) = some (some z, d.sz, bytes)) (hz : z.cells.size = d.sz) (hs0 : 0 < d.sz) (hb0 : 0 < bytes)
    (v : Value) (xs : List α) (p : α) (cs : List Value) (ok okp : Nat → Prop) (hs : a.eval s = v) (hx : a.eval x = .slice (some ⟨W.heap.size, 0, none⟩) 1 1) (hp : d.M W base okp p cs) (hokp : ∀ k, okp k → ok k ∧ some k ≠ v.ownBlock) (hfresh : ∀ k, W.heap.size ≤ k → ok k)
    (HO : d.R e W base ok v xs) (HB : Below base w0 W) (hbase : base ≤ W.heap.size) (hl : (xs.length + 1) * bytes ≤ 140737488355328)
    (h : ∀ v1 w1, d.R e w1 base ok v1 (xs ++ [p]) → Below base w0 w1 → W.grownBy w1 v.ownBlock → (v1.ownBlock = v.ownBlock ∨ ∃ b, v1.ownBlock = some b ∧ W.heap.size ≤ b) → wpList P ops Q rest (a.put o.dst v1) w1) :
    wpList P ops Q (o :: rest) a (W.alloc (.cells cs.toArray e)) := by
  obtain ⟨h0, inner, hown, hr⟩ := HO
  refine print_append_cells base hgd s x t e z d.sz bytes ho ht hinfo hz hs0 hb0 v xs.length inner cs hs hx (d.K_len (d.K_of_M hp)) (d.K_one (d.K_of_M hp)) hown HB hbase hl ?_
  intro v1 w1 hown1 hb1 hg1 hat1
  exact h v1 w1 (R_appended h0 hr hp hokp hfresh hown1 hg1 hat1) hb1 hg1 hat1
end
section
variable {P : Program} {ops : Array Oper} {o : Oper} {a : Act} {Q : Exit → Act → World → Prop} {Kc : Act → World → Prop} {α : Type}
theorem R_append_step (d : Kd α) {w0 W : World} (base : Nat) (hw : Region.wanted o (yielded ops a.tmps) = true) (s x : Operand) (t e : TypeId) (z : Value) (bytes : Nat)
    (ho : o.op = .call { callee := .builtin .append, args := #[s, x], argTypes := #[t, t] })
    (ht : P.underlying t = some (.slice e)) (hinfo : (P.info? e).map (fun i => (i.zero, i.size, i.bytes)) = some (some z, d.sz, bytes)) (hz : z.cells.size = d.sz) (hs0 : 0 < d.sz) (hb0 : 0 < bytes)
    (v : Value) (xs : List α) (p : α) (cs : List Value) (ok okp : Nat → Prop) (hs : a.eval s = v) (hx : a.eval x = .slice (some ⟨W.heap.size, 0, none⟩) 1 1) (hp : d.M W base okp p cs) (hokp : ∀ k, okp k → ok k ∧ some k ≠ v.ownBlock) (hfresh : ∀ k, W.heap.size ≤ k → ok k)
    (HO : d.R e W base ok v xs) (HB : Below base w0 W) (hbase : base ≤ W.heap.size) (hl : (xs.length + 1) * bytes ≤ 140737488355328)
    (h : ∀ v1 w1, d.R e w1 base ok v1 (xs ++ [p]) → Below base w0 w1 → W.grownBy w1 v.ownBlock → (v1.ownBlock = v.ownBlock ∨ ∃ b, v1.ownBlock = some b ∧ W.heap.size ≤ b) → Kc (a.put o.dst v1) w1) :
    if Region.wanted o (yielded ops a.tmps) = true then Oper.wp P o a (W.alloc (.cells cs.toArray e)) Kc Q else Kc (a.put o.dst undef) (W.alloc (.cells cs.toArray e)) := by
  obtain ⟨h0, inner, hown, hr⟩ := HO
  refine step_append_cells base hw s x t e z d.sz bytes ho ht hinfo hz hs0 hb0 v xs.length inner cs hs hx (d.K_len (d.K_of_M hp)) (d.K_one (d.K_of_M hp)) hown HB hbase hl ?_
  intro v1 w1 hown1 hb1 hg1 hat1
  exact h v1 w1 (R_appended h0 hr hp hokp hfresh hown1 hg1 hat1) hb1 hg1 hat1
end
theorem reads_of_C {α : Type} {enc : α → Value} {d : α} {h1 : ∀ x, (enc x).oneCell' = true} {w : World} {A : Option Addr} {n : Nat} {xs : List α} (h : (scalar enc h1).C w A n xs) : ReadsOf enc d w A n xs := by
  refine ⟨h.1, h.2.1, fun hn => ?_⟩
  obtain ⟨ad, e, hc⟩ := h.2.2 hn
  refine ⟨ad, e, fun j hj => ?_⟩
  have hl : j < xs.length := by have := h.1; omega
  obtain ⟨c, _, hK, hcell⟩ := hc j _ (List.getElem?_eq_getElem hl)
  have hK' : c = [enc xs[j]] := hK
  subst hK'
  have := hcell 0 _ rfl
  simpa [scalar, List.getD_eq_getElem?_getD, List.getElem?_eq_getElem hl] using this
end Kd
namespace Kd
structure Mono {α β : Type} (F : Kd α → Kd β) : Prop where
  sz : ∀ d d' : Kd α, d.sz = d'.sz → (F d).sz = (F d').sz
  K : ∀ d d' : Kd α, d.sz = d'.sz → (∀ w x cs, d.K w x cs → d'.K w x cs) → ∀ w x cs, (F d).K w x cs → (F d').K w x cs
  M : ∀ d d' : Kd α, d.sz = d'.sz → (∀ w base ok x cs, d.M w base ok x cs → d'.M w base ok x cs) → ∀ w base ok x cs, (F d).M w base ok x cs → (F d').M w base ok x cs
end Kd
namespace Kd
end Kd
namespace Kd
section
variable {α β : Type} {d : Kd α} {d' : Kd β} {e e' : Nat} {w w1 W : World} {base b b' : Nat} {ok ok' okv oku : Nat → Prop} {v u : Value} {xs : List α} {ys : List β}
theorem R_alloc (h : d.R e w base ok v xs) (o : Obj) : d.R e (w.alloc o) base ok v xs := R_below h (below_alloc (Below.refl _ _) o)
theorem R_drew (h : d.R e w base ok v xs) : d.R e w.drew base ok v xs := R_below h (below_drew (Below.refl _ _))
theorem R_drewN (h : d.R e w base ok v xs) (m : Nat) : d.R e (w.drewN m) base ok v xs := R_below h (pw_below_drewN (Below.refl _ _) m)
theorem C_alloc {A : Option Addr} {n : Nat} (h : d.C w A n xs) (o : Obj) : d.C (w.alloc o) A n xs := C_below h (below_alloc (Below.refl _ _) o)
theorem C_drew {A : Option Addr} {n : Nat} (h : d.C w A n xs) : d.C w.drew A n xs := C_below h (below_drew (Below.refl _ _))
theorem C_drewN {A : Option Addr} {n : Nat} (h : d.C w A n xs) (m : Nat) : d.C (w.drewN m) A n xs := C_below h (pw_below_drewN (Below.refl _ _) m)
theorem C_nil (d : Kd α) (w : World) : d.C w none ([] : List α).length [] := ⟨rfl, by simp, fun h => absurd h (Nat.lt_irrefl 0)⟩
theorem R_reads' {A : Option Addr} {n c : Nat} (h : d.R e w base ok (.slice A n c) xs) : n = xs.length ∧ n ≤ c ∧ d.C w A xs.length xs := by
  obtain ⟨A', c', he, hl, hr⟩ := R_reads h
  injection he with h1 h2 h3
  subst h1
  exact ⟨h2, by omega, hr⟩
theorem R_lt (h : d.R e w base ok v xs) : ∀ k, v.ownBlock = some k → k < w.heap.size := by
  obtain ⟨inner, ho⟩ := R_own h
  exact own_lt ho
theorem R_base (h : d.R e w base ok v xs) : ∀ k, v.ownBlock = some k → base ≤ k := by
  obtain ⟨inner, ho⟩ := R_own h
  exact own_base ho
end
section
variable {w W : World} {A : Option Addr} {n : Nat}
theorem at_int {k : IntKind} {xs : List Int} (h : (Kd.int k).C w A n xs) (i : Int) (h0 : 0 ≤ i) (h1 : i < n) : ∃ ad, A = some ad ∧ w.cell? (ad.add i.toNat) = some (.int k (rd xs i)) :=
  ReadsOf.at_ (reads_of_C (enc := Value.int k) (d := (0 : Int)) (h1 := fun _ => rfl) h) i h0 h1
variable {α : Type} {enc : α → Value} {h1 : ∀ x, (enc x).oneCell' = true} {e base g cap : Nat} {ok : Nat → Prop} {xs : List α}
end
section
variable {P : Program} {ops : Array Oper} {rest : List Oper} {o : Oper} {a : Act} {Q : Exit → Act → World → Prop}
theorem event_run {W w1 : World} {v : Value} (hgd : o.guard = none) (hrun : (execOp a.eval o).run P W = .ok (.value v) w1) (h : wpList P ops Q rest (a.put o.dst v) w1) : wpList P ops Q (o :: rest) a W := by
  refine wpList_plain hgd fun K hK => ?_
  unfold Oper.wp
  rw [hrun]
  exact hK _ _ h
variable {α : Type}
theorem R_lit (d : Kd α) {w0 W : World} (base e : Nat) (hgd : o.guard = none) {N : Tmp} (_hd : o.dst = some N) {xs : List α} {inner : List Value} {ok okp : Nat → Prop}
    (hrun : (execOp a.eval o).run P W = .ok (.value (.slice (some ⟨W.heap.size, 0, none⟩) xs.length xs.length)) (W.alloc (.cells inner.toArray e)))
    (hrep : Reps (d.M W base okp) d.sz xs inner) (hok : ∀ k, okp k → ok k) (hfresh : ok W.heap.size) (HB : Below base w0 W) (hbase : base ≤ W.heap.size) (hm : xs.length ≤ 9223372036854775807)
    (h : ∀ v1 w1, d.R e w1 base ok v1 xs → Below base w0 w1 → W.grownBy w1 none → (∃ b, v1.ownBlock = some b ∧ W.heap.size ≤ b) → wpList P ops Q rest (a.put o.dst v1) w1) : wpList P ops Q (o :: rest) a W := by
  refine event_run hgd hrun (h _ _ ⟨fun k hk => ?_, inner, ?_, ?_⟩ (HB.alloc hbase _) (World.grownBy_alloc W _ none) ⟨W.heap.size, by simp [Value.ownBlock], Nat.le_refl _⟩)
  · have : W.heap.size = k := by simpa [Value.ownBlock] using hk
    subst this
    exact hfresh
  · have h2 := World.ownsRow_lit (base := base) (e := e) (size := d.sz) W inner.toArray xs.length hbase (by simpa [maxLen] using hm) (by simpa using hrep.1)
    simpa using h2
  · refine hrep.imp_ (fun p c hp => d.M_mono (fun k hk => ⟨hok k hk.1, fun he => ?_⟩) (M_below (d.M_bound hp) (below_alloc (Below.refl _ _) _)))
    have h3 : k = W.heap.size := by simpa [Value.ownBlock] using he
    have := hk.2.2.1
    omega
end
end Kd
def QRow (w : World) (base : Nat) (e : TypeId) (size : Nat) (v : Value) (n : Nat) (xs : List Value) : Prop :=
  xs.length = n * size ∧
  ((n = 0 ∧ ∃ A, v = .slice A 0 0 ∧ ∀ a, A = some a → base ≤ a.block ∧ ∃ cur, w.heap[a.block]? = some (.cells cur e (0, 0))) ∨
   ∃ g off cap cur, v = .slice (some ⟨g, off * size, none⟩) n cap ∧ base ≤ g ∧ w.heap[g]? = some (.cells cur e (0, 0)) ∧ n ≤ cap ∧ off + cap ≤ maxLen ∧ cur.size = (off + cap) * size ∧ (cur.toList.drop (off * size)).take (n * size) = xs)
section
variable {w w1 : World} {base n size : Nat} {e : TypeId} {v : Value} {xs : List Value}
theorem q_of_own (h : w.ownsRow base e size v n xs) : QRow w base e size v n xs := by
  obtain ⟨h1, h2⟩ := h
  refine ⟨h1, ?_⟩
  rcases h2 with ⟨rfl, h0⟩ | ⟨g, cap, cur, rfl, hb, hh, hnc, hcm, hcs, ht⟩
  · exact .inl ⟨h0, none, rfl, fun a ha => by cases ha⟩
  · exact .inr ⟨g, 0, cap, cur, by rw [Nat.zero_mul], hb, hh, hnc, by rw [Nat.zero_add]; exact hcm, by rw [Nat.zero_add]; exact hcs, by rw [Nat.zero_mul, List.drop_zero]; exact ht⟩
theorem add_at (g o j : Nat) : (⟨g, o, none⟩ : Addr).add j = ⟨g, o + j, none⟩ := by unfold Addr.add; split <;> simp_all
end
namespace Kd
def Q {α : Type} (d : Kd α) (e : Nat) (w : World) (base : Nat) (ok : Nat → Prop) (v : Value) (xs : List α) : Prop :=
  (∀ k, v.ownBlock = some k → ok k) ∧ ∃ inner, QRow w base e d.sz v xs.length inner ∧ Reps (d.M w base (fun k => ok k ∧ some k ≠ v.ownBlock)) d.sz xs inner
section
variable {α : Type} {d : Kd α} {e : Nat} {w w1 W : World} {base : Nat} {ok ok' : Nat → Prop} {v : Value} {xs : List α}
theorem Q_of_R (h : d.R e w base ok v xs) : d.Q e w base ok v xs := by
  obtain ⟨h0, inner, ho, hr⟩ := h
  exact ⟨h0, inner, q_of_own ho, hr⟩
theorem Q_nil (d : Kd α) (e : Nat) (w : World) (base : Nat) (ok : Nat → Prop) : d.Q e w base ok (.slice none 0 0) [] := Q_of_R (R_nil d e w base ok)
end
end Kd
namespace Kd
section
variable {α : Type} {d : Kd α} {e e' : Nat} {w w1 W : World} {base : Nat} {ok : Nat → Prop} {u v : Value} {xs : List α}
theorem R_typed (h : d.R e w base ok v xs) : ∀ k, v.ownBlock = some k → ∃ cells, w.heap[k]? = some (.cells cells e (0, 0)) := by
  obtain ⟨inner, ho⟩ := R_own h
  exact fun k hk => own_typed ho k hk
theorem R_over' (h : d.R e W base ok u xs) (hty : ∀ k, v.ownBlock = some k → ∃ cells, W.heap[k]? = some (.cells cells e' (0, 0))) (ht : ∀ q, q ∈ e :: d.E → q ≠ e') (hg : W.grownBy w1 v.ownBlock) : d.R e w1 base ok u xs := by
  refine R_mono (R_move (R_bound h) (fun k hk => hg.block k hk.2.2.1 (fun he => ?_))) (fun _ hk => hk.1)
  obtain ⟨_, _, _, q, hq, cells, hc⟩ := hk
  obtain ⟨cells', hc'⟩ := hty k he.symm
  rw [hc] at hc'
  injection hc' with hc'
  injection hc' with _ hc'
  exact ht q hq hc'
theorem R_apart' (h : d.R e W base ok u xs) (hty : ∀ k, v.ownBlock = some k → ∃ cells, W.heap[k]? = some (.cells cells e' (0, 0))) (ht : ∀ q, q ∈ e :: d.E → q ≠ e') : d.R e W base (fun k => ok k ∧ some k ≠ v.ownBlock) u xs := by
  refine R_mono (R_bound h) (fun k hk => ⟨hk.1, fun he => ?_⟩)
  obtain ⟨_, _, _, q, hq, cells, hc⟩ := hk
  obtain ⟨cells', hc'⟩ := hty k he.symm
  rw [hc] at hc'
  injection hc' with hc'
  injection hc' with _ hc'
  exact ht q hq hc'
theorem R_elder' (hu : d.R e W base ok u xs) (hbase : ∀ k, v.ownBlock = some k → W.heap.size ≤ k) (hb : Below W.heap.size W w1) : d.R e w1 base (fun k => ok k ∧ some k ≠ v.ownBlock) u xs :=
  R_mono (R_move (R_bound hu) (fun k hk => hb.block k hk.2.2.1)) (fun k hk => ⟨hk.1, fun he => by have := hbase k he.symm; have := hk.2.2.1; omega⟩)
theorem R_new' (h : d.R e w1 W.heap.size ok v xs) (hlt : ∀ k, u.ownBlock = some k → k < W.heap.size) : d.R e w1 W.heap.size (fun k => ok k ∧ some k ≠ u.ownBlock) v xs :=
  R_mono (R_bound h) (fun k hk => ⟨hk.1, fun he => by have := hlt k he.symm; have := hk.2.1; omega⟩)
theorem fresh' (hlt : ∀ k, u.ownBlock = some k → k < W.heap.size) : ∀ k, W.heap.size ≤ k → some k ≠ u.ownBlock := fun k hk he => by have := hlt k he.symm; omega
end
end Kd
namespace Kd
section
variable {α : Type} {d : Kd α} {e base g n cap : Nat} {ok okp : Nat → Prop} {W : World} {xs : List α}
theorem R_elem (h : d.R e W base ok (.slice (some ⟨g, 0, none⟩) n cap) xs) (z : α) (i : Int) (h0 : 0 ≤ i) (h1 : i < n) :
    ∃ c, c.length = d.sz ∧ d.M W base (fun k => ok k ∧ k ≠ g) (xs.getD i.toNat z) c ∧ (∀ j u, c[j]? = some u → W.cell? ⟨g, i.toNat * d.sz + j, none⟩ = some u) ∧ ∀ j, W.frozen? ⟨g, i.toNat * d.sz + j, none⟩ = false := by
  obtain ⟨hn, hnc, hC⟩ := R_reads' h
  obtain ⟨_, inner, ho, hr⟩ := h
  have hil : i.toNat < xs.length := by omega
  have hseg : i.toNat * d.sz + d.sz ≤ inner.length := by rw [hr.1, ← Nat.succ_mul]; exact Nat.mul_le_mul_right _ hil
  have hM := hr.2 i.toNat _ (List.getElem?_eq_getElem hil)
  refine ⟨(inner.drop (i.toNat * d.sz)).take d.sz, by rw [List.length_take, List.length_drop]; omega, ?_, fun j u hu => ?_, fun j => ?_⟩
  · rw [List.getD_eq_getElem?_getD, List.getElem?_eq_getElem hil]
    exact d.M_mono (fun k hk => ⟨hk.1, fun he => hk.2 (by rw [he]; simp [Value.ownBlock])⟩) hM
  · rw [List.getElem?_take] at hu
    split at hu
    · rw [List.getElem?_drop] at hu
      have := ho.cells (g := g) (by simp [Value.ownBlock]) _ u hu
      rwa [add_plain] at this
    · cases hu
  · obtain ⟨cells, hc⟩ := own_typed ho g (by simp [Value.ownBlock])
    exact blk_frozen hc _
end
end Kd
namespace Kd
end Kd
namespace Kd
theorem reps_append {α : Type} {R : α → List Value → Prop} {size : Nat} {ps qs : List α} {cs ds : List Value} (h : Reps R size ps cs) (h' : Reps R size qs ds) : Reps R size (ps ++ qs) (cs ++ ds) := by
  refine ⟨by rw [List.length_append, List.length_append, h.1, h'.1, Nat.add_mul], fun j p hj => ?_⟩
  rcases Nat.lt_or_ge j ps.length with hlt | hge
  · rw [List.getElem?_append_left hlt] at hj
    have hle : j * size + size ≤ cs.length := by rw [h.1, ← Nat.succ_mul]; exact Nat.mul_le_mul_right _ hlt
    rw [List.drop_append_of_le_length (by omega), List.take_append_of_le_length (by rw [List.length_drop]; omega)]
    exact h.2 j p hj
  · rw [List.getElem?_append_right hge] at hj
    have h2 := h'.2 (j - ps.length) p hj
    have hle : ps.length * size ≤ j * size := Nat.mul_le_mul_right _ hge
    rw [List.drop_append, List.drop_eq_nil_of_le (by rw [h.1]; exact hle), List.nil_append, h.1, ← Nat.sub_mul]
    exact h2
section
variable {P : Program} {ops : Array Oper} {rest : List Oper} {o : Oper} {a : Act} {Q : Exit → Act → World → Prop} {α : Type}
theorem R_append_rows (d : Kd α) {Rr : α → List Value → Prop} {w0 W : World} (base : Nat) (hgd : o.guard = none) (s x : Operand) (t e : TypeId) (z : Value) (bytes : Nat)
    (ho : o.op = .call { callee := .builtin .append, args := #[s, x], argTypes := #[t, t] })
    (ht : P.underlying t = some (.slice e)) (hinfo : (P.info? e).map (fun i => (i.zero, i.size, i.bytes)) = some (some z, d.sz, bytes)) (hz : z.cells.size = d.sz) (hs0 : 0 < d.sz) (hb0 : 0 < bytes)
    (v : Value) (xs ys : List α) (A : Option Addr) (m c : Nat) (ok okp : Nat → Prop) (hs : a.eval s = v) (hx : a.eval x = .slice A m c)
    (HO : d.R e W base ok v xs) (HR : ReadsRow Rr d.sz W A m ys) (hKM : ∀ x cs, Rr x cs → d.M W base okp x cs) (hokp : ∀ k, okp k → ok k ∧ some k ≠ v.ownBlock) (hfresh : ∀ k, W.heap.size ≤ k → ok k)
    (HB : Below base w0 W) (hbase : base ≤ W.heap.size) (hl : (xs.length + m) * bytes ≤ 140737488355328)
    (h : ∀ v1 w1, d.R e w1 base ok v1 (xs ++ ys) → Below base w0 w1 → W.grownBy w1 v.ownBlock → (v1.ownBlock = v.ownBlock ∨ ∃ b, v1.ownBlock = some b ∧ W.heap.size ≤ b) → wpList P ops Q rest (a.put o.dst v1) w1) :
    wpList P ops Q (o :: rest) a W := by
  obtain ⟨i0, hi, hzz⟩ := Option.map_eq_some_iff.1 hinfo
  simp only [Prod.mk.injEq] at hzz
  obtain ⟨hz0, hz1, hz2⟩ := hzz
  have hm : ys.length = m := HR.1
  have hlen : xs.length + m ≤ 140737488355328 := Nat.le_trans (Nat.le_mul_of_pos_right _ hb0) hl
  obtain ⟨hok, inner, hown, hr⟩ := HO
  have hrun : ∃ v1 w1, (Builtin.append_ #[t, t] o.type #[v, .slice A m c]).run P W = .ok v1 w1 ∧ d.R e w1 base ok v1 (xs ++ ys) ∧ W.grownBy w1 v.ownBlock ∧ (v1.ownBlock = v.ownBlock ∨ ∃ b, v1.ownBlock = some b ∧ W.heap.size ≤ b) := by
    rcases A with _ | ad
    · have h0 : m = 0 := by
        rcases Nat.eq_zero_or_pos m with h0 | h0
        · exact h0
        · obtain ⟨ad, h, _⟩ := HR.2.2 h0
          cases h
      subst h0
      obtain rfl : ys = [] := List.eq_nil_of_length_eq_zero hm
      refine ⟨v, W, ?_, by rw [List.append_nil]; exact ⟨hok, inner, hown, hr⟩, World.grownBy.refl W _, .inl rfl⟩
      rcases hown.2 with ⟨rfl, hn⟩ | ⟨g, cap, cur, rfl, _, _, hnc, _⟩
      · simp [Builtin.append_, run_underlying ht, sizeOf, typeInfo, hi, Builtin.lenOf, Builtin.firstCells]
      · simp [Builtin.append_, run_underlying ht, sizeOf, typeInfo, hi, Builtin.lenOf, Builtin.firstCells, hnc, storeCells]
    · obtain ⟨news, hnr, hnc⟩ := ReadsRow.inner_ HR
      have hnM : Reps (d.M W base okp) d.sz ys news := hnr.imp_ (fun p c hp => hKM p c hp)
      have hone : ∀ u ∈ news, u.oneCell' = true := by
        intro u hu
        obtain ⟨q, hq, rfl⟩ := List.mem_iff_getElem.1 hu
        have hql : q / d.sz < ys.length := by
          rw [Nat.div_lt_iff_lt_mul hs0]
          rw [← hnM.1]
          exact hq
        have hc := hnM.2 (q / d.sz) _ (List.getElem?_eq_getElem hql)
        refine d.K_one (d.K_of_M hc) _ ?_
        rw [List.mem_iff_getElem?]
        refine ⟨q % d.sz, ?_⟩
        rw [List.getElem?_take, if_pos (Nat.mod_lt _ hs0), List.getElem?_drop, Nat.mul_comm, Nat.div_add_mod, List.getElem?_eq_getElem hq]
      obtain ⟨v1, w1, hrun, h2, hg, _, hat⟩ := run_append_own_at (P := P) W base t o.type e i0 z d.sz bytes ht hi hz0 hz1 hz2 hz hs0 v xs.length inner hown ad m c news (by rw [hnM.1, hm]) hnc hone (by simp only [maxLen]; omega) hl hbase
      have hat' : v1.ownBlock = v.ownBlock ∨ ∃ b, v1.ownBlock = some b ∧ W.heap.size ≤ b := by
        rcases hat with hat | hat
        · exact .inl hat
        · exact .inr ⟨_, hat, Nat.le_refl _⟩
      have hne : ∀ k, some k ≠ v.ownBlock → k < W.heap.size → some k ≠ v1.ownBlock := by
        intro k hk hlt
        rcases hat' with hat | ⟨b, hb, hle⟩
        · rw [hat]; exact hk
        · rw [hb]
          intro he
          injection he with he
          omega
      have step : ∀ {q : α} {c : List Value} {o : Nat → Prop}, d.M W base o q c → (∀ k, o k → ok k ∧ some k ≠ v.ownBlock) → d.M w1 base (fun k => ok k ∧ some k ≠ v1.ownBlock) q c := by
        intro q c o hq ho
        have h1 := d.M_move (w1 := w1) (fun k hk => hg.block k hk.2.2.1 (ho k hk.1).2) (d.M_bound hq)
        exact d.M_mono (fun k hk => ⟨(ho k hk.1).1, hne k (ho k hk.1).2 hk.2.2.1⟩) h1
      refine ⟨v1, w1, hrun, ⟨fun k hk => ?_, inner ++ news, by rw [List.length_append, hm]; exact h2, reps_append (hr.imp_ (fun _ _ hq => step hq (fun _ hk => hk))) (hnM.imp_ (fun _ _ hq => step hq hokp))⟩, hg, hat'⟩
      rcases hat' with hat | ⟨b, hb, hle⟩
      · exact hok k (hat ▸ hk)
      · rw [hb] at hk
        injection hk with hk
        exact hfresh k (by omega)
  obtain ⟨v1, w1, hr1, h1, hg, hat⟩ := hrun
  refine wpList_plain hgd fun K hK => ?_
  unfold Oper.wp execOp
  simp only [ho, resolve, invoke, builtin, Sem.run_bind, Sem.run_pure, Result.andThen_ok, List.map_toArray, List.map_cons, List.map_nil, hs, hx, hr1]
  exact hK _ _ (h v1 w1 h1 (HB.grown hg hbase (own_base hown)) hg hat)
end
end Kd
namespace Kd
end Kd
theorem add_add (a : Addr) (i j : Nat) : (a.add i).add j = a.add (i + j) := by
  unfold Addr.add
  by_cases h1 : i = 0 <;> by_cases h2 : j = 0 <;> simp [h1, h2, Nat.add_assoc]
namespace Kd
end Kd
theorem below_size {w W : World} (h : Below w.heap.size w W) : w.heap.size ≤ W.heap.size := h.size
theorem below_step {w W w2 : World} (h : Below w.heap.size w W) (k : Below W.heap.size W w2) : Below w.heap.size w w2 := below_then h h.size k
theorem ReadsInt.nil (W : World) (k : IntKind) : ReadsInt W k none ([] : List Int).length [] := ⟨rfl, by simp, fun h => absurd h (Nat.lt_irrefl 0)⟩
theorem ReadsInt.drewN {W : World} {k : IntKind} {A : Option Addr} {n : Nat} {xs : List Int} (h : ReadsInt W k A n xs) (m : Nat) : ReadsInt (W.drewN m) k A n xs := h
theorem below_set {w W : World} {g j : Nat} {v : Value} (h : Below w.heap.size w W) (hg : w.heap.size ≤ g) : Below w.heap.size w (W.setCell ⟨g, j, none⟩ v) := h.setCell hg _
theorem keep_cell {w W : World} {g : Nat} (h : KeepBut w W g none) {a : Addr} {v : Value} (hc : w.cell? a = some v) (hne : a.block ≠ g) : W.cell? a = some v := by
  have := h.2 a.block (World.block_lt_of_cell? w a hc) hne (by simp)
  simpa [World.cell?, this] using hc
theorem add_block (a : Addr) (i : Nat) : (a.add i).block = a.block := by unfold Addr.add; split <;> rfl
theorem ReadsOf.nil {α : Type} (enc : α → Value) (d : α) (W : World) : ReadsOf enc d W none ([] : List α).length [] := ⟨rfl, by simp, fun h => absurd h (Nat.lt_irrefl 0)⟩
theorem ReadsOf.drewN {α : Type} {enc : α → Value} {d : α} {W : World} {A : Option Addr} {n : Nat} {xs : List α} (h : ReadsOf enc d W A n xs) (m : Nat) : ReadsOf enc d (W.drewN m) A n xs := h
theorem ReadsInt.keep {w W : World} {k : IntKind} {A : Option Addr} {n g : Nat} {xs : List Int} (h : ReadsInt w k A n xs) (hk : KeepBut w W g none) (hf : ∀ ad, A = some ad → 0 < n → ad.block ≠ g) : ReadsInt W k A n xs :=
  ⟨h.1, h.2.1, fun hn => by
    obtain ⟨ad, e, hc⟩ := h.2.2 hn
    exact ⟨ad, e, fun j hj => keep_cell hk (hc j hj) (by rw [add_block]; exact hf ad e hn)⟩⟩
theorem ReadsOf.keep {α : Type} {enc : α → Value} {d : α} {w W : World} {A : Option Addr} {n g : Nat} {xs : List α} (h : ReadsOf enc d w A n xs) (hk : KeepBut w W g none) (hf : ∀ ad, A = some ad → 0 < n → ad.block ≠ g) : ReadsOf enc d W A n xs :=
  ⟨h.1, h.2.1, fun hn => by
    obtain ⟨ad, e, hc⟩ := h.2.2 hn
    exact ⟨ad, e, fun j hj => keep_cell hk (hc j hj) (by rw [add_block]; exact hf ad e hn)⟩⟩
theorem blk_put {w : World} {g : Nat} {t : TypeId} {cs cs' : Array Value} (h : w.heap[g]? = some (.cells cs t (0, 0))) (i : Nat) (u : Value) (e : cs.setIfInBounds i u = cs') : (w.setCell ⟨g, i, none⟩ u).heap[g]? = some (.cells cs' t (0, 0)) := e ▸ blk_set h i u
theorem below_drew1 {base : Nat} {w W : World} (h : Below base w W) : Below base w W.drew := h.drew
namespace Kd
end Kd
namespace Kd
section
variable {α : Type} {d : Kd α} {e base g : Nat} {ok : Nat → Prop} {w w1 : World} {v : Value} {xs : List α} {o : Obj}
theorem freshB (hb : w.heap[g]? = some o) : ∀ k, w.heap.size ≤ k → k ≠ g := fun k hk => by have := blk_lt hb; omega
end
end Kd
section
variable {P : Program} {ops : Array Oper} {rest : List Oper} {o : Oper} {a : Act} {Q : Exit → Act → World → Prop}
theorem box_event {W : World} (hgd : o.guard = none) {N : Tmp} (_hd : o.dst = some N) {cs : Array Value} {t : TypeId}
    (hrun : (execOp a.eval o).run P W = .ok (.value (.pointer (some ⟨W.heap.size, 0, none⟩))) (W.alloc (.cells cs t (0, 0))))
    (h : ∀ g, g = W.heap.size → ∀ w1, w1.heap[g]? = some (.cells cs t (0, 0)) → Below W.heap.size W w1 → wpList P ops Q rest (a.put o.dst (.pointer (some ⟨g, 0, none⟩))) w1) : wpList P ops Q (o :: rest) a W :=
  Kd.event_run hgd hrun (h _ rfl _ (blk_new W _) (below_alloc (Below.refl _ _) _))
end
namespace Kd
end Kd
namespace Kd
end Kd
section
variable {P : Program} {ops : Array Oper} {rest : List Oper} {o : Oper} {a : Act} {Q : Exit → Act → World → Prop} {W : World}
theorem gate_dst {N : Tmp} (_hN : o.dst = some N) (h : wpList P ops Q (o :: rest) a W) : wpList P ops Q (o :: rest) a W := h
end
section
variable {P : Program} {ops : Array Oper} {o : Oper} {a : Act} {Q : Exit → Act → World → Prop} {Kc : Act → World → Prop}
namespace Kd
variable {α : Type}
theorem R_append_rows_step (d : Kd α) {Rr : α → List Value → Prop} {w0 W : World} (base : Nat) (hw : Region.wanted o (yielded ops a.tmps) = true) (s x : Operand) (t e : TypeId) (z : Value) (bytes : Nat)
    (ho : o.op = .call { callee := .builtin .append, args := #[s, x], argTypes := #[t, t] })
    (ht : P.underlying t = some (.slice e)) (hinfo : (P.info? e).map (fun i => (i.zero, i.size, i.bytes)) = some (some z, d.sz, bytes)) (hz : z.cells.size = d.sz) (hs0 : 0 < d.sz) (hb0 : 0 < bytes)
    (v : Value) (xs ys : List α) (A : Option Addr) (m c : Nat) (ok okp : Nat → Prop) (hs : a.eval s = v) (hx : a.eval x = .slice A m c)
    (HO : d.R e W base ok v xs) (HR : ReadsRow Rr d.sz W A m ys) (hKM : ∀ x cs, Rr x cs → d.M W base okp x cs) (hokp : ∀ k, okp k → ok k ∧ some k ≠ v.ownBlock) (hfresh : ∀ k, W.heap.size ≤ k → ok k)
    (HB : Below base w0 W) (hbase : base ≤ W.heap.size) (hl : (xs.length + m) * bytes ≤ 140737488355328)
    (h : ∀ v1 w1, d.R e w1 base ok v1 (xs ++ ys) → Below base w0 w1 → W.grownBy w1 v.ownBlock → (v1.ownBlock = v.ownBlock ∨ ∃ b, v1.ownBlock = some b ∧ W.heap.size ≤ b) → Kc (a.put o.dst v1) w1) :
    if Region.wanted o (yielded ops a.tmps) = true then Oper.wp P o a W Kc Q else Kc (a.put o.dst undef) W := by
  obtain ⟨i0, hi, hzz⟩ := Option.map_eq_some_iff.1 hinfo
  simp only [Prod.mk.injEq] at hzz
  obtain ⟨hz0, hz1, hz2⟩ := hzz
  have hm : ys.length = m := HR.1
  have hlen : xs.length + m ≤ 140737488355328 := Nat.le_trans (Nat.le_mul_of_pos_right _ hb0) hl
  obtain ⟨hok, inner, hown, hr⟩ := HO
  have hrun : ∃ v1 w1, (Builtin.append_ #[t, t] o.type #[v, .slice A m c]).run P W = .ok v1 w1 ∧ d.R e w1 base ok v1 (xs ++ ys) ∧ W.grownBy w1 v.ownBlock ∧ (v1.ownBlock = v.ownBlock ∨ ∃ b, v1.ownBlock = some b ∧ W.heap.size ≤ b) := by
    rcases A with _ | ad
    · have h0 : m = 0 := by
        rcases Nat.eq_zero_or_pos m with h0 | h0
        · exact h0
        · obtain ⟨ad, h, _⟩ := HR.2.2 h0
          cases h
      subst h0
      obtain rfl : ys = [] := List.eq_nil_of_length_eq_zero hm
      refine ⟨v, W, ?_, by rw [List.append_nil]; exact ⟨hok, inner, hown, hr⟩, World.grownBy.refl W _, .inl rfl⟩
      rcases hown.2 with ⟨rfl, hn⟩ | ⟨g, cap, cur, rfl, _, _, hnc, _⟩
      · simp [Builtin.append_, run_underlying ht, sizeOf, typeInfo, hi, Builtin.lenOf, Builtin.firstCells]
      · simp [Builtin.append_, run_underlying ht, sizeOf, typeInfo, hi, Builtin.lenOf, Builtin.firstCells, hnc, storeCells]
    · obtain ⟨news, hnr, hnc⟩ := ReadsRow.inner_ HR
      have hnM : Reps (d.M W base okp) d.sz ys news := hnr.imp_ (fun p c hp => hKM p c hp)
      have hone : ∀ u ∈ news, u.oneCell' = true := by
        intro u hu
        obtain ⟨q, hq, rfl⟩ := List.mem_iff_getElem.1 hu
        have hql : q / d.sz < ys.length := by
          rw [Nat.div_lt_iff_lt_mul hs0]
          rw [← hnM.1]
          exact hq
        have hc := hnM.2 (q / d.sz) _ (List.getElem?_eq_getElem hql)
        refine d.K_one (d.K_of_M hc) _ ?_
        rw [List.mem_iff_getElem?]
        refine ⟨q % d.sz, ?_⟩
        rw [List.getElem?_take, if_pos (Nat.mod_lt _ hs0), List.getElem?_drop, Nat.mul_comm, Nat.div_add_mod, List.getElem?_eq_getElem hq]
      obtain ⟨v1, w1, hrun, h2, hg, _, hat⟩ := run_append_own_at (P := P) W base t o.type e i0 z d.sz bytes ht hi hz0 hz1 hz2 hz hs0 v xs.length inner hown ad m c news (by rw [hnM.1, hm]) hnc hone (by simp only [maxLen]; omega) hl hbase
      have hat' : v1.ownBlock = v.ownBlock ∨ ∃ b, v1.ownBlock = some b ∧ W.heap.size ≤ b := by
        rcases hat with hat | hat
        · exact .inl hat
        · exact .inr ⟨_, hat, Nat.le_refl _⟩
      have hne : ∀ k, some k ≠ v.ownBlock → k < W.heap.size → some k ≠ v1.ownBlock := by
        intro k hk hlt
        rcases hat' with hat | ⟨b, hb, hle⟩
        · rw [hat]; exact hk
        · rw [hb]
          intro he
          injection he with he
          omega
      have step : ∀ {q : α} {c : List Value} {o : Nat → Prop}, d.M W base o q c → (∀ k, o k → ok k ∧ some k ≠ v.ownBlock) → d.M w1 base (fun k => ok k ∧ some k ≠ v1.ownBlock) q c := by
        intro q c o hq ho
        have h1 := d.M_move (w1 := w1) (fun k hk => hg.block k hk.2.2.1 (ho k hk.1).2) (d.M_bound hq)
        exact d.M_mono (fun k hk => ⟨(ho k hk.1).1, hne k (ho k hk.1).2 hk.2.2.1⟩) h1
      refine ⟨v1, w1, hrun, ⟨fun k hk => ?_, inner ++ news, by rw [List.length_append, hm]; exact h2, reps_append (hr.imp_ (fun _ _ hq => step hq (fun _ hk => hk))) (hnM.imp_ (fun _ _ hq => step hq hokp))⟩, hg, hat'⟩
      rcases hat' with hat | ⟨b, hb, hle⟩
      · exact hok k (hat ▸ hk)
      · rw [hb] at hk
        injection hk with hk
        exact hfresh k (by omega)
  obtain ⟨v1, w1, hr1, h1, hg, hat⟩ := hrun
  rw [if_pos hw]
  unfold Oper.wp execOp
  simp only [ho, resolve, invoke, builtin, Sem.run_bind, Sem.run_pure, Result.andThen_ok, List.map_toArray, List.map_cons, List.map_nil, hs, hx, hr1]
  exact h v1 w1 h1 (HB.grown hg hbase (own_base hown)) hg hat
end Kd
end
namespace Kd
end Kd
end Go.Proofs.YtbhjfojbjpbdbaaDoorW.PrintWords
namespace Go.Proofs.YtbhjfojbjpbdbaaDoorW.PrintWords
open Go.RowKit
namespace Kd
end Kd
end Go.Proofs.YtbhjfojbjpbdbaaDoorW.PrintWords
namespace Go.Proofs.YtbhjfojbjpbdbaaDoorW.PrintWords
open Go.RowKit
namespace Kd
def tag {α : Type} (f : Nat → Nat) (d : Kd α) : Kd (α × Nat) where
  sz := d.sz
  E := d.E
  K := fun w x cs => d.K w x.1 cs
  M := fun w base ok x cs => d.M w base (fun k => ok k ∧ f k = x.2) x.1 cs
  K_len := fun h => d.K_len h
  K_one := fun h => d.K_one h
  K_below := fun hb h => d.K_below hb h
  K_of_M := fun h => d.K_of_M h
  M_mono := fun hok h => d.M_mono (fun k hk => ⟨hok k hk.1, hk.2⟩) h
  M_bound := fun h => d.M_mono (fun _ hk => ⟨⟨hk.1.1, hk.2⟩, hk.1.2⟩) (d.M_bound h)
  M_move := fun hm h => d.M_move (fun k hk => hm k hk.1) h
  M_lower := fun hb h => d.M_lower hb h
def raw (sz : Nat) : Kd (List Value) where
  sz := sz
  E := []
  K := fun _ x cs => cs = x ∧ cs.length = sz ∧ ∀ u ∈ cs, u.oneCell' = true
  M := fun _ _ _ x cs => cs = x ∧ cs.length = sz ∧ ∀ u ∈ cs, u.oneCell' = true
  K_len := fun h => h.2.1
  K_one := fun h => h.2.2
  K_below := fun _ h => h
  K_of_M := fun h => h
  M_mono := fun _ h => h
  M_bound := fun h => h
  M_move := fun _ h => h
  M_lower := fun _ h => h
def S {α : Type} (d : Kd α) (e : Nat) (w : World) (base : Nat) (ok : Nat → Prop) (v : Value) (xs : List α) : Prop := ∃ f, (tag f d).R e w base ok v xs.zipIdx
section
variable {α β : Type} {d : Kd α} {d' : Kd β} {e e' : Nat} {w w1 W : World} {base b : Nat} {ok ok' okv oku : Nat → Prop} {u v : Value} {xs : List α} {ys : List β}
theorem R_head {ad : Addr} {n cap : Nat} (h : d.R e w base ok (.slice (some ad) n cap) xs) : ∃ g, ad = ⟨g, 0, none⟩ := by
  obtain ⟨_, inner, ho, hr⟩ := h
  rcases ho.2 with ⟨hv, _⟩ | ⟨g, cap', cur, hv, _⟩
  · cases hv
  · injection hv with ha _ _
    injection ha with ha
    exact ⟨g, ha⟩
theorem R_tight (hE : d.E = []) (h : d.R e w base ok v xs) : d.R e w base (fun k => some k = v.ownBlock) v xs := by
  obtain ⟨h0, inner, ho, hr⟩ := h
  refine ⟨fun k hk => hk.symm, inner, ho, hr.imp_ (fun p c hp => d.M_mono (fun k hk => ?_) (d.M_bound hp))⟩
  obtain ⟨_, _, _, q, hq, _⟩ := hk
  rw [hE] at hq
  cases hq
theorem S_nil (d : Kd α) (e : Nat) (w : World) (base : Nat) (ok : Nat → Prop) : S d e w base ok (.slice none 0 0) [] := ⟨fun _ => 0, R_nil _ _ _ _ _⟩
end
def gap {α : Type} (f : Nat → Nat) (d : Kd α) (i : Nat) (c : List Value) : Kd (α × Nat) where
  sz := d.sz
  E := d.E
  K := fun w x cs => (x.2 = i → cs = c ∧ cs.length = d.sz ∧ ∀ u ∈ cs, u.oneCell' = true) ∧ (x.2 ≠ i → d.K w x.1 cs)
  M := fun w base ok x cs => (x.2 = i → cs = c ∧ cs.length = d.sz ∧ ∀ u ∈ cs, u.oneCell' = true) ∧ (x.2 ≠ i → d.M w base (fun k => ok k ∧ f k = x.2) x.1 cs)
  K_len := fun {w x cs} h => by
    by_cases hx : x.2 = i
    · exact (h.1 hx).2.1
    · exact d.K_len (h.2 hx)
  K_one := fun {w x cs} h => by
    by_cases hx : x.2 = i
    · exact (h.1 hx).2.2
    · exact d.K_one (h.2 hx)
  K_below := fun hb h => ⟨h.1, fun hx => d.K_below hb (h.2 hx)⟩
  K_of_M := fun h => ⟨h.1, fun hx => d.K_of_M (h.2 hx)⟩
  M_mono := fun hok h => ⟨h.1, fun hx => d.M_mono (fun k hk => ⟨hok k hk.1, hk.2⟩) (h.2 hx)⟩
  M_bound := fun h => ⟨h.1, fun hx => d.M_mono (fun _ hk => ⟨⟨hk.1.1, hk.2⟩, hk.1.2⟩) (d.M_bound (h.2 hx))⟩
  M_move := fun hm h => ⟨h.1, fun hx => d.M_move (fun k hk => hm k hk.1) (h.2 hx)⟩
  M_lower := fun hb h => ⟨h.1, fun hx => d.M_lower hb (h.2 hx)⟩
def H {α : Type} (d : Kd α) (e : Nat) (w : World) (base : Nat) (ok : Nat → Prop) (v : Value) (xs : List α) (i : Int) (oki : Nat → Prop) (c : List Value) : Prop :=
  (∀ k, oki k → ok k) ∧ ∃ f, (gap f d i.toNat c).R e w base (fun k => ok k ∧ ¬ oki k) v xs.zipIdx
end Kd
end Go.Proofs.YtbhjfojbjpbdbaaDoorW.PrintWords
namespace Go.Proofs.YtbhjfojbjpbdbaaDoorW.PrintWords
open Go.RowKit
namespace Kd
end Kd
end Go.Proofs.YtbhjfojbjpbdbaaDoorW.PrintWords
namespace Go.Proofs.YtbhjfojbjpbdbaaDoorW.PrintWords
open Go.RowKit
namespace Kd
end Kd
end Go.Proofs.YtbhjfojbjpbdbaaDoorW.PrintWords
namespace Go.Proofs.YtbhjfojbjpbdbaaDoorW.PrintWords
open Go.RowKit
namespace Kd
structure Heap {α : Type} (d : Kd α) : Prop where
  K : ∀ {w w1 : World} {x : α} {cs : List Value}, (∀ k, k < w.heap.size → w1.heap[k]? = w.heap[k]?) → d.K w x cs → d.K w1 x cs
theorem cell_heap {w w1 : World} (hb : ∀ k, k < w.heap.size → w1.heap[k]? = w.heap[k]?) {a : Addr} {v : Value} (h : w.cell? a = some v) : w1.cell? a = some v := by
  have := hb a.block (World.block_lt_of_cell? w a h)
  simpa [World.cell?, this] using h
theorem Heap.C {α : Type} {d : Kd α} (hd : Heap d) {w w1 : World} {A : Option Addr} {n : Nat} {xs : List α} (hb : ∀ k, k < w.heap.size → w1.heap[k]? = w.heap[k]?) (h : d.C w A n xs) : d.C w1 A n xs :=
  ⟨h.1, h.2.1, fun hn => by
    obtain ⟨ad, e, hc⟩ := h.2.2 hn
    refine ⟨ad, e, fun j p hj => ?_⟩
    obtain ⟨c, hs, hr, hcell⟩ := hc j p hj
    exact ⟨c, hs, hd.K hb hr, fun i u hu => cell_heap hb (hcell i u hu)⟩⟩
end Kd
end Go.Proofs.YtbhjfojbjpbdbaaDoorW.PrintWords
namespace Go.Proofs.YtbhjfojbjpbdbaaDoorW.PrintWords
open Go.RowKit
def Kept (w W : World) (S : Nat → Prop) : Prop := w.heap.size ≤ W.heap.size ∧ ∀ i, i < w.heap.size → ¬ S i → W.heap[i]? = w.heap[i]?
section
variable {w W W2 : World} {S S2 S' : Nat → Prop}
theorem Kept.refl (w : World) (S : Nat → Prop) : Kept w w S := ⟨Nat.le_refl _, fun _ _ _ => rfl⟩
theorem Kept.of_below (h : Below w.heap.size w W) (S : Nat → Prop) : Kept w W S := ⟨h.size, fun i hi _ => h.block i hi⟩
theorem Kept.mono (h : Kept w W S) (hs : ∀ k, S k → S' k) : Kept w W S' := ⟨h.1, fun i hi hn => h.2 i hi (fun hk => hn (hs i hk))⟩
theorem Kept.then_ (h : Kept w W S) (k : Kept W W2 S2) (hs : ∀ k, S2 k → S k ∨ w.heap.size ≤ k) : Kept w W2 S :=
  ⟨Nat.le_trans h.1 k.1, fun i hi hn => (k.2 i (Nat.lt_of_lt_of_le hi h.1) (fun h2 => (hs i h2).elim hn (fun h3 => by omega))).trans (h.2 i hi hn)⟩
theorem Kept.below (h : Kept w W S) (hb : Below W.heap.size W W2) : Kept w W2 S := h.then_ (Kept.of_below hb (fun _ => False)) (fun _ hk => hk.elim)
theorem Kept.alloc (h : Kept w W S) (o : Obj) : Kept w (W.alloc o) S := h.below (below_alloc (Below.refl _ _) o)
theorem Kept.drew (h : Kept w W S) : Kept w W.drew S := h
theorem Kept.drewN (h : Kept w W S) (m : Nat) : Kept w (W.drewN m) S := h
theorem Kept.setCell (h : Kept w W S) {p : Addr} (hp : S p.block ∨ w.heap.size ≤ p.block) (u : Value) : Kept w (W.setCell p u) S :=
  h.then_ (S2 := fun k => k = p.block) ⟨by simp [World.setCell], fun i _ hn => Below.heap_setCell W p u i hn⟩ (fun k hk => by rw [hk]; exact hp)
theorem Kept.keep {g : Nat} (h : KeepBut w W g none) (k : Kept W W2 S2) (hs : ∀ k, S2 k → w.heap.size ≤ k) : KeepBut w W2 g none :=
  ⟨Nat.le_trans h.1 k.1, fun i hi hg hr => (k.2 i (Nat.lt_of_lt_of_le hi h.1) (fun h2 => by have := hs i h2; omega)).trans (h.2 i hi hg hr)⟩
end
namespace Kd
end Kd
end Go.Proofs.YtbhjfojbjpbdbaaDoorW.PrintWords
namespace Go.Proofs.YtbhjfojbjpbdbaaDoorW.PrintWords
open Go.RowKit
def Foot (P : World → Prop) (W : World) (ok : Nat → Prop) : Prop := ∀ W' : World, (∀ k, ok k → k < W.heap.size → W'.heap[k]? = W.heap[k]?) → P W'
theorem heap_lt {W W1 : World} {k : Nat} (h : W1.heap[k]? = W.heap[k]?) (hlt : k < W.heap.size) : k < W1.heap.size := by
  rw [Array.getElem?_eq_getElem hlt] at h
  exact (Array.getElem?_eq_some_iff.1 h).1
namespace Foot
variable {P Q : World → Prop} {W W1 : World} {ok ok' : Nat → Prop}
theorem now (h : Foot P W ok) : P W := h W (fun _ _ _ => rfl)
theorem mono (h : Foot P W ok) (hok : ∀ k, ok k → ok' k) : Foot P W ok' := fun W' hW => h W' (fun k hk hlt => hW k (hok k hk) hlt)
theorem bound (h : Foot P W ok) : Foot P W (fun k => ok k ∧ k < W.heap.size) := fun W' hW => h W' (fun k hk hlt => hW k ⟨hk, hlt⟩ hlt)
theorem step (h : Foot P W ok) (hm : ∀ k, ok k → k < W.heap.size → W1.heap[k]? = W.heap[k]?) : Foot P W1 ok := fun W' hW => h W' (fun k hk hlt => (hW k hk (heap_lt (hm k hk hlt) hlt)).trans (hm k hk hlt))
theorem old (h : Foot P W ok) (hb : Below W.heap.size W W1) : Foot P W1 (fun k => ok k ∧ k < W.heap.size) := (h.bound).step (fun k _ hlt => hb.block k hlt)
end Foot
namespace Kd
def F {α : Type} (d : Kd α) (W : World) (ok : Nat → Prop) (A : Option Addr) (n : Nat) (xs : List α) : Prop := Foot (fun W => d.C W A n xs) W ok
def FK {α : Type} (d : Kd α) (W : World) (ok : Nat → Prop) (x : α) (c : List Value) : Prop := Foot (fun W => d.K W x c) W ok
section
variable {α β : Type} {d : Kd α} {e base n n' cc g N : Nat} {ok ok' okp S : Nat → Prop} {w w0 w1 W W1 : World} {A A' : Option Addr} {u v v1 : Value} {xs : List α} {xs' : List β} {d' : Kd β} {x : α} {c : List Value}
theorem F_now (h : F d W ok A n xs) : d.C W A n xs := Foot.now h
theorem F_mono (h : F d W ok A n xs) (hok : ∀ k, ok k → ok' k) : F d W ok' A n xs := Foot.mono h hok
theorem F_bound (h : F d W ok A n xs) : F d W (fun k => ok k ∧ k < W.heap.size) A n xs := Foot.bound h
theorem F_step (h : F d W ok A n xs) (hm : ∀ k, ok k → k < W.heap.size → W1.heap[k]? = W.heap[k]?) : F d W1 ok A n xs := Foot.step h hm
theorem F_below (h : F d W ok A n xs) (hb : Below W.heap.size W W1) : F d W1 ok A n xs := F_step h (fun k _ hlt => hb.block k hlt)
theorem F_alloc (h : F d W ok A n xs) (o : Obj) : F d (W.alloc o) ok A n xs := F_below h (below_alloc (Below.refl _ _) o)
theorem F_drew (h : F d W ok A n xs) : F d W.drew ok A n xs := F_below h (below_drew (Below.refl _ _))
theorem F_drewN (h : F d W ok A n xs) (m : Nat) : F d (W.drewN m) ok A n xs := F_below h (pw_below_drewN (Below.refl _ _) m)
theorem F_far (h : F d W ok A n xs) {p : Addr} (hok : ∀ k, ok k → k ≠ p.block) (u : Value) : F d (W.setCell p u) ok A n xs := F_step h (fun k hk _ => Below.heap_setCell W p u k (hok k hk))
theorem F_nil (d : Kd α) (W : World) (ok : Nat → Prop) : F d W ok none ([] : List α).length [] := fun W' _ => C_nil d W'
theorem F_elder' (h : F d W ok A n xs) (hbase : ∀ k, v.ownBlock = some k → W.heap.size ≤ k) (hb : Below W.heap.size W W1) : F d W1 (fun k => ok k ∧ some k ≠ v.ownBlock) A n xs :=
  F_mono (Foot.old h hb) (fun k hk => ⟨hk.1, fun he => by have := hbase k he.symm; have := hk.2; omega⟩)
theorem F_elderB (h : F d W ok A n xs) (a : Nat) (ha : W.heap.size ≤ a) : F d W (fun k => ok k ∧ k ≠ a) A n xs := F_mono (F_bound h) (fun k hk => ⟨hk.1, by have := hk.2; omega⟩)
theorem F_after (h : F d W (fun k => ok k ∧ some k ≠ v.ownBlock) A n xs) (hg : W.grownBy W1 v.ownBlock) (hat : v1.ownBlock = v.ownBlock ∨ ∃ b, v1.ownBlock = some b ∧ W.heap.size ≤ b) : F d W1 (fun k => ok k ∧ some k ≠ v1.ownBlock) A n xs := by
  refine F_mono (Foot.step (F_bound h) (fun k hk hlt => hg.block k hlt hk.1.2)) (fun k hk => ⟨hk.1.1, ?_⟩)
  rcases hat with hat | ⟨b, hb, hle⟩
  · rw [hat]; exact hk.1.2
  · rw [hb]
    intro he
    injection he with he
    have := hk.2
    omega
theorem R_F (h : d.R e W base ok (.slice A n cc) xs) : F d W ok A n xs := fun W' hW => by
  have h2 := R_reads' (R_step h hW)
  rw [h2.1]
  exact h2.2.2
theorem FK_now (h : FK d W ok x c) : d.K W x c := Foot.now h
theorem FK_mono (h : FK d W ok x c) (hok : ∀ k, ok k → ok' k) : FK d W ok' x c := Foot.mono h hok
theorem FK_bound (h : FK d W ok x c) : FK d W (fun k => ok k ∧ k < W.heap.size) x c := Foot.bound h
theorem FK_step (h : FK d W ok x c) (hm : ∀ k, ok k → k < W.heap.size → W1.heap[k]? = W.heap[k]?) : FK d W1 ok x c := Foot.step h hm
theorem FK_of_M (h : d.M W base ok x c) : FK d W ok x c := fun _ hW => d.K_of_M (M_step h hW)
theorem emptied (W : World) (g : Nat) : ∃ W' : World, (∀ k, k ≠ g → W'.heap[k]? = W.heap[k]?) ∧ ∀ a : Addr, a.block = g → W'.cell? a = none := by
  refine ⟨{ W with heap := W.heap.setIfInBounds g (.cells #[] 0) }, fun k hk => by simp [Ne.symm hk], fun a ha => ?_⟩
  subst ha
  by_cases hlt : a.block < W.heap.size
  · simp [World.cell?, hlt]
  · simp [World.cell?, hlt]
end
end Kd
end Go.Proofs.YtbhjfojbjpbdbaaDoorW.PrintWords
namespace Go.Proofs.YtbhjfojbjpbdbaaDoorW.PrintWords
open Go.RowKit
namespace Kd
def chunks (sz : Nat) (n : Nat) (inner : List Value) : List (List Value) := (List.range n).map fun j => (inner.drop (j * sz)).take sz
theorem chunks_length (sz n : Nat) (inner : List Value) : (chunks sz n inner).length = n := by simp [chunks]
theorem chunks_at {sz n : Nat} {inner : List Value} {j : Nat} (hj : j < n) : (chunks sz n inner)[j]? = some ((inner.drop (j * sz)).take sz) := by simp [chunks, hj]
theorem chunks_get {sz n : Nat} {inner : List Value} {j : Nat} {c : List Value} (h : (chunks sz n inner)[j]? = some c) : c = (inner.drop (j * sz)).take sz := by
  have hj : j < n := by have := (List.getElem?_eq_some_iff.1 h).1; rwa [chunks_length] at this
  rw [chunks_at hj] at h
  injection h with h
  exact h.symm
theorem reps_raw {α : Type} {Rr : α → List Value → Prop} {sz : Nat} {xs : List α} {inner : List Value} (h : Reps Rr sz xs inner) (hR : ∀ x c, Rr x c → c.length = sz ∧ ∀ u ∈ c, u.oneCell' = true) : Reps (fun x cs => cs = x ∧ cs.length = sz ∧ ∀ u ∈ cs, u.oneCell' = true) sz (chunks sz xs.length inner) inner := by
  refine ⟨by rw [chunks_length]; exact h.1, fun j p hj => ?_⟩
  have hjl : j < xs.length := by have := (List.getElem?_eq_some_iff.1 hj).1; rwa [chunks_length] at this
  have hp := chunks_get hj
  exact ⟨hp.symm, hR _ _ (h.2 j _ (List.getElem?_eq_getElem hjl))⟩
section
variable {α : Type} {d : Kd α} {e base n cc g : Nat} {ok ok' okp S : Nat → Prop} {w w1 W W1 : World} {A : Option Addr} {u v v1 : Value} {xs : List α} {x : α} {c : List Value}
theorem F_get (h : F d W ok A n xs) (z : α) (i : Int) (h0 : 0 ≤ i) (h1 : i < n) :
    ∃ ad c, A = some ad ∧ c.length = d.sz ∧ FK d W ok (xs.getD i.toNat z) c ∧ (∀ j u, c[j]? = some u → W.cell? (ad.add (i.toNat * d.sz + j)) = some u) ∧ (0 < d.sz → ok ad.block) := by
  obtain ⟨ad, c, rfl, hcl, hK, hcc⟩ := C_get (F_now h) z i h0 h1
  have hin : 0 < d.sz → ok ad.block := by
    intro hs
    by_cases hk : ok ad.block
    · exact hk
    · obtain ⟨W', h2, h3⟩ := emptied W ad.block
      obtain ⟨ad', c', he, hcl', _, hcc'⟩ := C_get (h W' (fun k hk' _ => h2 k (fun e => hk (e ▸ hk')))) z i h0 h1
      injection he with he
      subst he
      have h4 := hcc' 0 _ (List.getElem?_eq_getElem (by omega))
      rw [h3 _ (add_block _ _)] at h4
      cases h4
  refine ⟨ad, c, rfl, hcl, fun W' hW => ?_, hcc, hin⟩
  obtain ⟨ad', c', he, hcl', hK', hcc'⟩ := C_get (h W' hW) z i h0 h1
  injection he with he
  subst he
  have hc : c = c' := by
    apply List.ext_getElem?
    intro j
    by_cases hj : j < d.sz
    · have hb : W'.heap[ad.block]? = W.heap[ad.block]? := by
        have h5 := hcc j _ (List.getElem?_eq_getElem (by omega))
        have h6 := World.block_lt_of_cell? W _ h5
        rw [add_block] at h6
        exact hW _ (hin (by omega)) h6
      have h5 := hcc j _ (List.getElem?_eq_getElem (by omega))
      have h6 := hcc' j _ (List.getElem?_eq_getElem (by omega))
      have h7 : W'.cell? (ad.add (i.toNat * d.sz + j)) = W.cell? (ad.add (i.toNat * d.sz + j)) := by simp [World.cell?, add_block, hb]
      rw [h7, h5] at h6
      rw [List.getElem?_eq_getElem (by omega), List.getElem?_eq_getElem (by omega)]
      exact h6
    · rw [List.getElem?_eq_none (by omega), List.getElem?_eq_none (by omega)]
  rw [hc]
  exact hK'
theorem F_rows (h : F d W ok A n xs) : ReadsRow (fun x c => FK d W ok x c) d.sz W A n xs := by
  obtain ⟨hl, hm, hn⟩ := F_now h
  refine ⟨hl, hm, fun hp => ?_⟩
  obtain ⟨ad, rfl, _⟩ := hn hp
  refine ⟨ad, rfl, fun j p hj => ?_⟩
  obtain ⟨hjl, hjp⟩ := List.getElem?_eq_some_iff.1 hj
  obtain ⟨ad', c, he, hcl, hK, hcc, _⟩ := F_get h p (j : Int) (by omega) (by omega)
  injection he with he
  subst he
  simp only [Int.toNat_natCast] at hK hcc
  rw [List.getD_eq_getElem?_getD, hj] at hK
  exact ⟨c, hcl, hK, hcc⟩
def N {α : Type} (d : Kd α) (e : Nat) (w : World) (base : Nat) (ok : Nat → Prop) (v : Value) (xs : List α) : Prop :=
  (∀ k, v.ownBlock = some k → ok k) ∧ ∃ rows : List (List Value), rows.length = xs.length ∧ (raw d.sz).R e w base (fun k => some k = v.ownBlock) v rows ∧ ∀ (j : Nat) (x : α) (c : List Value), xs[j]? = some x → rows[j]? = some c → FK d w (fun k => ok k ∧ some k ≠ v.ownBlock) x c
theorem raw_tight {sz : Nat} {rows : List (List Value)} (h : (raw sz).R e w base ok v rows) : (raw sz).R e w base (fun k => some k = v.ownBlock) v rows := R_tight rfl h
theorem raw_any {sz : Nat} {rows : List (List Value)} (h : (raw sz).R e w base ok v rows) : (raw sz).R e w base (fun _ => True) v rows := R_mono h (fun _ _ => trivial)
theorem R_N (h : d.R e w base ok v xs) : N d e w base ok v xs := by
  obtain ⟨h0, inner, ho, hr⟩ := h
  refine ⟨h0, chunks d.sz xs.length inner, chunks_length _ _ _, ⟨fun k hk => hk.symm, inner, by rw [chunks_length]; exact ho, reps_raw hr (fun x c hp => ⟨d.K_len (d.K_of_M hp), d.K_one (d.K_of_M hp)⟩)⟩, fun j x c hx hc => ?_⟩
  rw [chunks_get hc]
  exact FK_of_M (hr.2 j x hx)
theorem N_nil (d : Kd α) (e : Nat) (w : World) (base : Nat) (ok : Nat → Prop) : N d e w base ok (.slice none 0 0) [] := R_N (R_nil _ _ _ _ _)
theorem N_mono (h : N d e w base ok v xs) (hok : ∀ k, ok k → ok' k) : N d e w base ok' v xs := by
  obtain ⟨h0, rows, hl, hR, hf⟩ := h
  exact ⟨fun k hk => hok k (h0 k hk), rows, hl, hR, fun j x c hx hc => FK_mono (hf j x c hx hc) (fun k hk => ⟨hok k hk.1, hk.2⟩)⟩
theorem N_lt (h : N d e w base ok v xs) : ∀ k, v.ownBlock = some k → k < w.heap.size := by
  obtain ⟨_, rows, _, hR, _⟩ := h
  exact R_lt hR
theorem N_base (h : N d e w base ok v xs) : ∀ k, v.ownBlock = some k → base ≤ k := by
  obtain ⟨_, rows, _, hR, _⟩ := h
  exact R_base hR
theorem N_typed (h : N d e w base ok v xs) : ∀ k, v.ownBlock = some k → ∃ cells, w.heap[k]? = some (.cells cells e (0, 0)) := by
  obtain ⟨_, rows, _, hR, _⟩ := h
  exact R_typed hR
theorem N_ne (h : N d e w base ok v xs) {t : Nat} {cells : Array Value} (hb : w.heap[g]? = some (.cells cells t (0, 0))) (ht : e ≠ t) : some g ≠ v.ownBlock := by
  obtain ⟨_, rows, _, hR, _⟩ := h
  exact R_ne hR hb ht
theorem N_away (h : N d e w base ok v xs) (hok : ∀ k, ok k → k ≠ g) : some g ≠ v.ownBlock := fun he => hok g (h.1 g he.symm) rfl
theorem N_bound (h : N d e w base ok v xs) : N d e w base (fun k => ok k ∧ k < w.heap.size) v xs := by
  have hlt := N_lt h
  obtain ⟨h0, rows, hl, hR, hf⟩ := h
  exact ⟨fun k hk => ⟨h0 k hk, hlt k hk⟩, rows, hl, hR, fun j x c hx hc => FK_mono (FK_bound (hf j x c hx hc)) (fun k hk => ⟨⟨hk.1.1, hk.2⟩, hk.1.2⟩)⟩
theorem N_lower {base' : Nat} (h : N d e w base ok v xs) (hb : base' ≤ base) : N d e w base' ok v xs := by
  obtain ⟨h0, rows, hl, hR, hf⟩ := h
  exact ⟨h0, rows, hl, R_lower hR hb, hf⟩
theorem N_step (h : N d e w base ok v xs) (hm : ∀ k, ok k → k < w.heap.size → w1.heap[k]? = w.heap[k]?) : N d e w1 base ok v xs := by
  obtain ⟨h0, rows, hl, hR, hf⟩ := h
  exact ⟨h0, rows, hl, R_step hR (fun k hk hlt => hm k (h0 k hk.symm) hlt), fun j x c hx hc => FK_step (hf j x c hx hc) (fun k hk hlt => hm k hk.1 hlt)⟩
theorem N_below (h : N d e w base ok v xs) (hb : Below w.heap.size w w1) : N d e w1 base ok v xs := N_step h (fun k _ hk => hb.block k hk)
theorem N_alloc (h : N d e w base ok v xs) (o : Obj) : N d e (w.alloc o) base ok v xs := N_below h (below_alloc (Below.refl _ _) o)
theorem N_drew (h : N d e w base ok v xs) : N d e w.drew base ok v xs := N_below h (below_drew (Below.refl _ _))
theorem N_drewN (h : N d e w base ok v xs) (m : Nat) : N d e (w.drewN m) base ok v xs := N_below h (pw_below_drewN (Below.refl _ _) m)
theorem N_elder' (h : N d e W base ok v xs) (hbase : ∀ k, u.ownBlock = some k → W.heap.size ≤ k) (hb : Below W.heap.size W w1) : N d e w1 base (fun k => ok k ∧ some k ≠ u.ownBlock) v xs :=
  N_mono (N_below (N_bound h) hb) (fun k hk => ⟨hk.1, fun he => by have := hbase k he.symm; have := hk.2; omega⟩)
theorem N_after (h : N d e W base (fun k => ok k ∧ some k ≠ u.ownBlock) v xs) {u1 : Value} (hg : W.grownBy w1 u.ownBlock) (hat : u1.ownBlock = u.ownBlock ∨ ∃ b, u1.ownBlock = some b ∧ W.heap.size ≤ b) : N d e w1 base (fun k => ok k ∧ some k ≠ u1.ownBlock) v xs := by
  refine N_mono (N_step (N_bound h) (fun k hk hlt => hg.block k hlt hk.1.2)) (fun k hk => ⟨hk.1.1, ?_⟩)
  rcases hat with hat | ⟨b, hb, hle⟩
  · rw [hat]; exact hk.1.2
  · rw [hb]
    intro he
    injection he with he
    have := hk.2
    omega
theorem N_slice (h : N d e w base ok v xs) : ∃ A c, v = .slice A xs.length c := by
  obtain ⟨_, rows, hl, hR, _⟩ := h
  obtain ⟨A, c, he⟩ := R_slice hR
  exact ⟨A, c, by rw [he, hl]⟩
theorem N_reads' {n c : Nat} (h : N d e w base ok (.slice A n c) xs) : n = xs.length ∧ n ≤ c ∧ d.C w A xs.length xs := by
  obtain ⟨_, rows, hl, hR, hf⟩ := h
  obtain ⟨hn, hc, hC⟩ := R_reads' hR
  refine ⟨by omega, hc, ?_⟩
  rw [hl] at hC
  refine ⟨rfl, hC.2.1, fun hp => ?_⟩
  obtain ⟨ad, he, hcell⟩ := hC.2.2 hp
  refine ⟨ad, he, fun j p hj => ?_⟩
  have hjl : j < rows.length := by have := (List.getElem?_eq_some_iff.1 hj).1; omega
  obtain ⟨c', hcl, hK, hcc⟩ := hcell j _ (List.getElem?_eq_getElem hjl)
  have hk := FK_now (hf j p _ hj (List.getElem?_eq_getElem hjl))
  refine ⟨c', hcl, ?_, hcc⟩
  rw [show c' = rows[j] from hK.1]
  exact hk
theorem N_F {n : Nat} (h : N d e w base ok (.slice A n cc) xs) : F d w ok A n xs := fun W' hW => by
  have h2 := N_reads' (N_step h hW)
  rw [h2.1]
  exact h2.2.2
theorem N_elem {n cap : Nat} (h : N d e W base ok (.slice (some ⟨g, 0, none⟩) n cap) xs) (z : α) (i : Int) (h0 : 0 ≤ i) (h1 : i < n) :
    ∃ c, c.length = d.sz ∧ FK d W (fun k => ok k ∧ k ≠ g) (xs.getD i.toNat z) c ∧ (∀ j u, c[j]? = some u → W.cell? ⟨g, i.toNat * d.sz + j, none⟩ = some u) ∧ ∀ j, W.frozen? ⟨g, i.toNat * d.sz + j, none⟩ = false := by
  obtain ⟨_, rows, hl, hR, hf⟩ := h
  have hn := (R_reads' hR).1
  obtain ⟨c, hcl, hM, hcc, hfr⟩ := R_elem hR [] i h0 h1
  have hil : i.toNat < rows.length := by omega
  have hil' : i.toNat < xs.length := by omega
  have hc : c = rows[i.toNat] := by
    have h2 := hM.1
    rwa [List.getD_eq_getElem?_getD, List.getElem?_eq_getElem hil] at h2
  refine ⟨c, hcl, ?_, hcc, hfr⟩
  rw [List.getD_eq_getElem?_getD, List.getElem?_eq_getElem hil']
  exact FK_mono (hf _ _ _ (List.getElem?_eq_getElem hil') (by rw [hc]; exact List.getElem?_eq_getElem hil)) (fun k hk => ⟨hk.1, fun he => hk.2 (by rw [he]; simp [Value.ownBlock])⟩)
theorem N_get {ad : Addr} {n cap : Nat} (h : N d e W base ok (.slice (some ad) n cap) xs) (z : α) (i : Int) (h0 : 0 ≤ i) (h1 : i < n) :
    ∃ c, c.length = d.sz ∧ FK d W (fun k => ok k ∧ some k ≠ (Value.slice (some ad) n cap).ownBlock) (xs.getD i.toNat z) c ∧ ∀ j u, c[j]? = some u → W.cell? (ad.add (i.toNat * d.sz + j)) = some u := by
  obtain ⟨g, rfl⟩ : ∃ g, ad = ⟨g, 0, none⟩ := by
    obtain ⟨_, rows, _, hR, _⟩ := h
    exact R_head hR
  obtain ⟨c, hcl, hM, hcc, _⟩ := N_elem h z i h0 h1
  refine ⟨c, hcl, FK_mono hM (fun k hk => ⟨hk.1, fun he => hk.2 (by simpa [Value.ownBlock] using he)⟩), fun j u hu => ?_⟩
  rw [add_at, Nat.zero_add]
  exact hcc j u hu
end
end Kd
end Go.Proofs.YtbhjfojbjpbdbaaDoorW.PrintWords
namespace Go.Proofs.YtbhjfojbjpbdbaaDoorW.PrintWords
open Go.RowKit
namespace Kd
section
variable {α : Type} {d : Kd α} {e base n cap g : Nat} {ok ok' okp : Nat → Prop} {w w1 W : World} {v v1 : Value} {xs ys : List α}
theorem N_appended {rows news : List (List Value)} (h0 : ∀ k, v.ownBlock = some k → ok k) (hl : rows.length = xs.length) (hf : ∀ (j : Nat) (x : α) (c : List Value), xs[j]? = some x → rows[j]? = some c → FK d W (fun k => ok k ∧ some k ≠ v.ownBlock) x c)
    (hl2 : news.length = ys.length) (hf2 : ∀ (j : Nat) (x : α) (c : List Value), ys[j]? = some x → news[j]? = some c → FK d W okp x c) (hokp : ∀ k, okp k → ok k ∧ some k ≠ v.ownBlock) (hfresh : ∀ k, W.heap.size ≤ k → ok k)
    (hR : (raw d.sz).R e w1 base (fun _ => True) v1 (rows ++ news)) (hg : W.grownBy w1 v.ownBlock) (hat : v1.ownBlock = v.ownBlock ∨ ∃ b, v1.ownBlock = some b ∧ W.heap.size ≤ b) : N d e w1 base ok v1 (xs ++ ys) := by
  have hne : ∀ k, some k ≠ v.ownBlock → k < W.heap.size → some k ≠ v1.ownBlock := by
    intro k hk hlt
    rcases hat with hat | ⟨b, hb, hle⟩
    · rw [hat]; exact hk
    · rw [hb]
      intro he
      injection he with he
      omega
  have step : ∀ {x : α} {c : List Value} {o : Nat → Prop}, FK d W o x c → (∀ k, o k → ok k ∧ some k ≠ v.ownBlock) → FK d w1 (fun k => ok k ∧ some k ≠ v1.ownBlock) x c := by
    intro x c o hq ho
    exact FK_mono (FK_step (FK_bound hq) (fun k hk hlt => hg.block k hlt (ho k hk.1).2)) (fun k hk => ⟨(ho k hk.1).1, hne k (ho k hk.1).2 hk.2⟩)
  refine ⟨fun k hk => ?_, rows ++ news, by rw [List.length_append, List.length_append, hl, hl2], raw_tight hR, fun j x c hx hc => ?_⟩
  · rcases hat with hat | ⟨b, hb, hle⟩
    · exact h0 k (hat ▸ hk)
    · rw [hb] at hk
      injection hk with hk
      exact hfresh k (by omega)
  · rcases Nat.lt_or_ge j xs.length with hlt | hge
    · rw [List.getElem?_append_left hlt] at hx
      rw [List.getElem?_append_left (by omega)] at hc
      exact step (hf j x c hx hc) (fun _ hk => hk)
    · rw [List.getElem?_append_right hge] at hx
      rw [List.getElem?_append_right (by omega), hl] at hc
      exact step (hf2 _ x c hx hc) hokp
theorem N_made {rows : List (List Value)} (hR : (raw d.sz).R e w1 base (fun k => k = W.heap.size) v1 rows) (hg : W.grownBy w1 none) (hat : ∃ b, v1.ownBlock = some b ∧ W.heap.size ≤ b) (hl : rows.length = xs.length) (hf : ∀ (j : Nat) (x : α) (c : List Value), xs[j]? = some x → rows[j]? = some c → FK d W okp x c)
    (hok : ∀ k, okp k → ok k) (hfresh : ok W.heap.size) : N d e w1 base ok v1 xs := by
  obtain ⟨b, hb, hle⟩ := hat
  refine ⟨fun k hk => by rw [hR.1 k hk]; exact hfresh, rows, hl, raw_tight hR, fun j x c hx hc => ?_⟩
  refine FK_mono (FK_step (FK_bound (hf j x c hx hc)) (fun k hk hlt => hg.block k hlt (by simp))) (fun k hk => ⟨hok k hk.1, fun he => ?_⟩)
  rw [hb] at he
  injection he with he
  have := hk.2
  omega
theorem reads_raw {Rr : α → List Value → Prop} {sz m : Nat} {A : Option Addr} (h : ReadsRow Rr sz W A m ys) (hR : ∀ x c, Rr x c → c.length = sz ∧ ∀ u ∈ c, u.oneCell' = true) :
    ∃ news : List (List Value), news.length = ys.length ∧ ReadsRow (fun x cs => cs = x ∧ cs.length = sz ∧ ∀ u ∈ cs, u.oneCell' = true) sz W A m news ∧ ∀ (j : Nat) (x : α) (c : List Value), ys[j]? = some x → news[j]? = some c → Rr x c := by
  rcases Nat.eq_zero_or_pos m with h0 | hp
  · have hy : ys = [] := List.eq_nil_of_length_eq_zero (h.1.trans h0)
    subst hy
    exact ⟨[], rfl, ⟨h0 ▸ rfl, h.2.1, fun hp => by omega⟩, fun j x c hx => by simp at hx⟩
  · obtain ⟨ad, rfl, _⟩ := h.2.2 hp
    obtain ⟨inner, hr, hc⟩ := ReadsRow.inner_ h
    refine ⟨chunks sz ys.length inner, chunks_length _ _ _, ⟨by rw [chunks_length]; exact h.1, h.2.1, fun _ => ⟨ad, rfl, fun j p hj => ?_⟩⟩, fun j x c hx hcc => ?_⟩
    · have hjl : j < ys.length := by have := (List.getElem?_eq_some_iff.1 hj).1; rwa [chunks_length] at this
      have hpe := chunks_get hj
      have hq := hR _ _ (hr.2 j _ (List.getElem?_eq_getElem hjl))
      rw [← hpe] at hq
      refine ⟨p, hq.1, ⟨rfl, hq⟩, fun i u hu => ?_⟩
      have hu2 : inner[j * sz + i]? = some u := by
        rw [hpe, List.getElem?_take] at hu
        split at hu
        · rw [List.getElem?_drop] at hu
          exact hu
        · cases hu
      exact hc _ u hu2
    · rw [chunks_get hcc]
      exact hr.2 j x hx
end
section
variable {P : Program} {ops : Array Oper} {rest : List Oper} {o : Oper} {a : Act} {Q : Exit → Act → World → Prop} {Kc : Act → World → Prop} {α : Type}
theorem N_append_rows (d : Kd α) {w0 W : World} (base : Nat) (hgd : o.guard = none) (s x : Operand) (t e : TypeId) (z : Value) (bytes : Nat)
    (ho : o.op = .call { callee := .builtin .append, args := #[s, x], argTypes := #[t, t] })
    (ht : P.underlying t = some (.slice e)) (hinfo : (P.info? e).map (fun i => (i.zero, i.size, i.bytes)) = some (some z, d.sz, bytes)) (hz : z.cells.size = d.sz) (hs0 : 0 < d.sz) (hb0 : 0 < bytes)
    (v : Value) (xs ys : List α) (A : Option Addr) (m c : Nat) (ok okp : Nat → Prop) (hs : a.eval s = v) (hx : a.eval x = .slice A m c)
    (HO : N d e W base ok v xs) (HR : F d W okp A m ys) (hokp : ∀ k, okp k → ok k ∧ some k ≠ v.ownBlock) (hfresh : ∀ k, W.heap.size ≤ k → ok k)
    (HB : Below base w0 W) (hbase : base ≤ W.heap.size) (hl : (xs.length + m) * bytes ≤ 140737488355328)
    (h : ∀ v1 w1, N d e w1 base ok v1 (xs ++ ys) → Below base w0 w1 → W.grownBy w1 v.ownBlock → (v1.ownBlock = v.ownBlock ∨ ∃ b, v1.ownBlock = some b ∧ W.heap.size ≤ b) → wpList P ops Q rest (a.put o.dst v1) w1) :
    wpList P ops Q (o :: rest) a W := by
  obtain ⟨h0, rows, hlr, hR, hf⟩ := HO
  obtain ⟨news, hnl, hnr, hnf⟩ := reads_raw (F_rows HR) (fun y c hk => ⟨d.K_len (FK_now hk), d.K_one (FK_now hk)⟩)
  refine R_append_rows (raw d.sz) base hgd s x t e z bytes ho ht hinfo hz hs0 hb0 v rows news A m c (fun _ => True) (fun _ => False) hs hx (raw_any hR) hnr (fun _ _ hk => hk) (fun _ hk => hk.elim) (fun _ _ => trivial) HB hbase (by rw [hlr]; exact hl) ?_
  intro v1 w1 hr hb hg hat
  exact h v1 w1 (N_appended h0 hlr hf hnl hnf hokp hfresh hr hg hat) hb hg hat
theorem N_append_rows_step (d : Kd α) {w0 W : World} (base : Nat) (hw : Region.wanted o (yielded ops a.tmps) = true) (s x : Operand) (t e : TypeId) (z : Value) (bytes : Nat)
    (ho : o.op = .call { callee := .builtin .append, args := #[s, x], argTypes := #[t, t] })
    (ht : P.underlying t = some (.slice e)) (hinfo : (P.info? e).map (fun i => (i.zero, i.size, i.bytes)) = some (some z, d.sz, bytes)) (hz : z.cells.size = d.sz) (hs0 : 0 < d.sz) (hb0 : 0 < bytes)
    (v : Value) (xs ys : List α) (A : Option Addr) (m c : Nat) (ok okp : Nat → Prop) (hs : a.eval s = v) (hx : a.eval x = .slice A m c)
    (HO : N d e W base ok v xs) (HR : F d W okp A m ys) (hokp : ∀ k, okp k → ok k ∧ some k ≠ v.ownBlock) (hfresh : ∀ k, W.heap.size ≤ k → ok k)
    (HB : Below base w0 W) (hbase : base ≤ W.heap.size) (hl : (xs.length + m) * bytes ≤ 140737488355328)
    (h : ∀ v1 w1, N d e w1 base ok v1 (xs ++ ys) → Below base w0 w1 → W.grownBy w1 v.ownBlock → (v1.ownBlock = v.ownBlock ∨ ∃ b, v1.ownBlock = some b ∧ W.heap.size ≤ b) → Kc (a.put o.dst v1) w1) :
    if Region.wanted o (yielded ops a.tmps) = true then Oper.wp P o a W Kc Q else Kc (a.put o.dst undef) W := by
  obtain ⟨h0, rows, hlr, hR, hf⟩ := HO
  obtain ⟨news, hnl, hnr, hnf⟩ := reads_raw (F_rows HR) (fun y c hk => ⟨d.K_len (FK_now hk), d.K_one (FK_now hk)⟩)
  refine R_append_rows_step (raw d.sz) base hw s x t e z bytes ho ht hinfo hz hs0 hb0 v rows news A m c (fun _ => True) (fun _ => False) hs hx (raw_any hR) hnr (fun _ _ hk => hk) (fun _ hk => hk.elim) (fun _ _ => trivial) HB hbase (by rw [hlr]; exact hl) ?_
  intro v1 w1 hr hb hg hat
  exact h v1 w1 (N_appended h0 hlr hf hnl hnf hokp hfresh hr hg hat) hb hg hat
theorem N_lit (d : Kd α) {w0 W : World} (base e : Nat) (hgd : o.guard = none) {N' : Tmp} (_hd : o.dst = some N') {xs : List α} {inner : List Value} {ok okp : Nat → Prop}
    (hrun : (execOp a.eval o).run P W = .ok (.value (.slice (some ⟨W.heap.size, 0, none⟩) xs.length xs.length)) (W.alloc (.cells inner.toArray e)))
    (hrep : Reps (FK d W okp) d.sz xs inner) (hok : ∀ k, okp k → ok k) (hfresh : ok W.heap.size) (HB : Below base w0 W) (hbase : base ≤ W.heap.size) (hm : xs.length ≤ 9223372036854775807)
    (h : ∀ v1 w1, N d e w1 base ok v1 xs → Below base w0 w1 → W.grownBy w1 none → (∃ b, v1.ownBlock = some b ∧ W.heap.size ≤ b) → wpList P ops Q rest (a.put o.dst v1) w1) :
    wpList P ops Q (o :: rest) a W := by
  refine R_lit (raw d.sz) base e hgd _hd (xs := chunks d.sz xs.length inner) (inner := inner) (ok := fun k => k = W.heap.size) (okp := fun _ => False) (by rw [chunks_length]; exact hrun) (reps_raw hrep (fun y c hk => ⟨d.K_len (FK_now hk), d.K_one (FK_now hk)⟩)) (fun _ hk => hk.elim) rfl HB hbase (by rw [chunks_length]; exact hm) ?_
  intro v1 w1 hr hb hg hat
  exact h v1 w1 (N_made hr hg hat (chunks_length _ _ _) (fun j y c hy hc => by rw [chunks_get hc]; exact hrep.2 j y hy) hok hfresh) hb hg hat
end
end Kd
end Go.Proofs.YtbhjfojbjpbdbaaDoorW.PrintWords
namespace Go.Proofs.YtbhjfojbjpbdbaaDoorW.PrintMore
open Go.RowKit Go.Proofs.YtbhjfojbjpbdbaaDoorW.PrintWords
namespace Kd
open Go.Proofs.YtbhjfojbjpbdbaaDoorW.PrintWords.Kd
end Kd
namespace Kd
open Go.Proofs.YtbhjfojbjpbdbaaDoorW.PrintWords.Kd
end Kd
end Go.Proofs.YtbhjfojbjpbdbaaDoorW.PrintMore
namespace Go.Proofs.YtbhjfojbjpbdbaaDoorW.PrintWords
open Go.RowKit
section
variable {P : Program} {ops : Array Oper} {rest : List Oper} {o : Oper} {a : Act} {Q : Exit → Act → World → Prop} {W : World}
theorem gate_callee {f : FuncId} {asq : Array Operand} {ts : Array TypeId} (_ho : o.op = .call { callee := .value (.func f), args := asq, argTypes := ts }) (h : wpList P ops Q (o :: rest) a W) : wpList P ops Q (o :: rest) a W := h
theorem gate_builtin {b : Builtin} {xs : Array Operand} {ts : Array TypeId} (_ho : o.op = .call { callee := .builtin b, args := xs, argTypes := ts }) (h : wpList P ops Q (o :: rest) a W) : wpList P ops Q (o :: rest) a W := h
end
def mx (a b : Int) : Int := if a < b then b else a
def mn (a b : Int) : Int := if b < a then b else a
def shr (k : IntKind) (x y : Int) : Int := x / 2 ^ min y.toNat k.bits
theorem shr_small {k : IntKind} {x y j : Int} (h : shr k x y = j) (hy : y ≤ k.bits) : x / 2 ^ y.toNat = j := by rw [← h]; unfold shr; rw [Nat.min_eq_left (by omega)]
namespace Kd
end Kd
end Go.Proofs.YtbhjfojbjpbdbaaDoorW.PrintWords
namespace Go.Proofs.YtbhjfojbjpbdbaaDoorW.PrintWords
open Go.RowKit
namespace Kd
def V {α : Type} (d : Kd α) (_e : Nat) (W : World) (_base : Nat) (ok : Nat → Prop) (v : Value) (xs : List α) : Prop := ∃ A c, v = .slice A xs.length c ∧ xs.length ≤ c ∧ F d W ok A xs.length xs
section
variable {α β : Type} {d : Kd α} {e base base' n m c g N' lo hi : Nat} {ok ok' S : Nat → Prop} {w W w1 : World} {A : Option Addr} {ad : Addr} {u v v1 : Value} {xs : List α}
theorem V_map (h : V d e W base ok v xs) (hF : ∀ A, F d W ok A xs.length xs → F d w1 ok' A xs.length xs) : V d e w1 base' ok' v xs := by
  obtain ⟨A, c, hv, hl, hf⟩ := h
  exact ⟨A, c, hv, hl, hF A hf⟩
theorem V_mk (hl : xs.length ≤ c) (hf : F d W ok A xs.length xs) : V d e W base ok (.slice A xs.length c) xs := ⟨A, c, rfl, hl, hf⟩
theorem V_at (h : V d e W base ok (.slice A n c) xs) : n = xs.length ∧ n ≤ c ∧ F d W ok A xs.length xs := by
  obtain ⟨A', c', hv, hl, hf⟩ := h
  injection hv with ha hn hc
  subst ha; subst hc
  exact ⟨hn, by rw [hn]; exact hl, hf⟩
theorem V_reads' (h : V d e W base ok (.slice A n c) xs) : n = xs.length ∧ n ≤ c ∧ d.C W A xs.length xs := ⟨(V_at h).1, (V_at h).2.1, F_now (V_at h).2.2⟩
theorem V_F (h : V d e W base ok (.slice A n c) xs) : F d W ok A n xs := by
  obtain ⟨hn, _, hf⟩ := V_at h
  rw [hn]
  exact hf
theorem V_nil (d : Kd α) (e : Nat) (W : World) (base : Nat) (ok : Nat → Prop) : V d e W base ok (.slice none 0 0) [] := ⟨none, 0, rfl, Nat.le_refl _, F_nil d W ok⟩
theorem R_V (h : d.R e W base ok v xs) : V d e W base' ok v xs := by
  obtain ⟨A, c, rfl⟩ := R_slice h
  exact ⟨A, c, rfl, (R_reads' h).2.1, R_F h⟩
theorem V_mono (h : V d e W base ok v xs) (hok : ∀ k, ok k → ok' k) : V d e W base ok' v xs := V_map h (fun _ hf => F_mono hf hok)
theorem V_below (h : V d e W base ok v xs) (hb : Below W.heap.size W w1) : V d e w1 base ok v xs := V_map h (fun _ hf => F_below hf hb)
theorem V_alloc (h : V d e W base ok v xs) (o : Obj) : V d e (W.alloc o) base ok v xs := V_map h (fun _ hf => F_alloc hf o)
theorem V_drew (h : V d e W base ok v xs) : V d e W.drew base ok v xs := V_map h (fun _ hf => F_drew hf)
theorem V_drewN (h : V d e W base ok v xs) (m : Nat) : V d e (W.drewN m) base ok v xs := V_map h (fun _ hf => F_drewN hf m)
theorem V_far (h : V d e W base ok v xs) {p : Addr} (hok : ∀ k, ok k → k ≠ p.block) (u : Value) : V d e (W.setCell p u) base ok v xs := V_map h (fun _ hf => F_far hf hok u)
theorem V_after (h : V d e W base (fun k => ok k ∧ some k ≠ u.ownBlock) v xs) (hg : W.grownBy w1 u.ownBlock) (hat : v1.ownBlock = u.ownBlock ∨ ∃ b, v1.ownBlock = some b ∧ W.heap.size ≤ b) : V d e w1 base (fun k => ok k ∧ some k ≠ v1.ownBlock) v xs := V_map h (fun _ hf => F_after hf hg hat)
theorem V_afterv (h : V d e W base (fun k => ok k ∧ some k ≠ v.ownBlock) u xs) (hg : W.grownBy w1 v.ownBlock) (hat : v1.ownBlock = v.ownBlock ∨ ∃ b, v1.ownBlock = some b ∧ W.heap.size ≤ b) : V d e w1 base (fun k => ok k ∧ some k ≠ v1.ownBlock) u xs := V_after h hg hat
theorem N_afterv (h : N d e W base (fun k => ok k ∧ some k ≠ v.ownBlock) u xs) (hg : W.grownBy w1 v.ownBlock) (hat : v1.ownBlock = v.ownBlock ∨ ∃ b, v1.ownBlock = some b ∧ W.heap.size ≤ b) : N d e w1 base (fun k => ok k ∧ some k ≠ v1.ownBlock) u xs := N_after h hg hat
theorem V_elder' (h : V d e W base ok v xs) (hbase : ∀ k, u.ownBlock = some k → W.heap.size ≤ k) (hb : Below W.heap.size W w1) : V d e w1 base (fun k => ok k ∧ some k ≠ u.ownBlock) v xs := V_map h (fun _ hf => F_elder' hf hbase hb)
theorem V_elderB (h : V d e W base ok v xs) (a : Nat) (ha : W.heap.size ≤ a) : V d e W base (fun k => ok k ∧ k ≠ a) v xs := V_map h (fun _ hf => F_elderB hf a ha)
theorem R_newM {M : Nat → Prop} (h : d.R e w1 W.heap.size ok v xs) (hle : w.heap.size ≤ W.heap.size) (hM : ∀ k, w.heap.size ≤ k → M k) : d.R e w1 W.heap.size (fun k => M k ∧ ok k) v xs := R_mono (R_bound h) (fun k hk => ⟨hM k (Nat.le_trans hle hk.2.1), hk.1⟩)
end
end Kd
end Go.Proofs.YtbhjfojbjpbdbaaDoorW.PrintWords
namespace Go.Proofs.YtbhjfojbjpbdbaaDoor
open Go.RowKit Go.Proofs.YtbhjfojbjpbdbaaDoorW.PrintWords
theorem Glob.step {W w : World} (h : Glob W) (hb : Below W.heap.size W w) : Glob w := h.below h.lt hb
theorem sl_of_reads {α β : Type} (cells : α → List Value) {f : β → α} {d : Kd β} {w : World} {A : Option Addr} {c sz : Nat} {xs : List β} (hK : ∀ {x : β} {cs : List Value}, d.K w x cs → cs = cells (f x))
    (hlen : ∀ a, (cells a).length = sz) (hsz : 0 < sz) (hz : d.sz = sz) (h : Kd.C d w A xs.length xs) (hc : xs.length ≤ c) : SlOf w w.heap.size sz (.slice A xs.length c) ((xs.map f).map cells) := by
  obtain ⟨h1, h2, h3⟩ := h
  refine ⟨A, c, by simp, by simpa using hc, by simp only [List.length_map]; unfold maxLen; omega, fun r hr => ?_, fun hp => ?_⟩
  · obtain ⟨y, _, rfl⟩ := List.mem_map.1 hr
    exact hlen y
  · simp only [List.length_map] at hp
    obtain ⟨ad, rfl, hj⟩ := h3 hp
    obtain ⟨b, o, spot⟩ := ad
    obtain ⟨cs0, l0, k0, e0⟩ := hj 0 _ (List.getElem?_eq_getElem hp)
    have hlt : 0 < cs0.length := by rw [l0, hz]; exact hsz
    have g0 := e0 0 _ (List.getElem?_eq_getElem hlt)
    have hspot : spot = none := by simpa [Addr.add] using World.cell?_spot g0
    subst hspot
    refine ⟨b, o, rfl, ?_, fun i j r u hi hu => ?_⟩
    · have := lt_of_cell g0
      simpa [Addr.add] using this
    · rw [List.map_map, List.getElem?_map] at hi
      cases hx : xs[i]? with
      | none => rw [hx] at hi; cases hi
      | some x =>
        rw [hx] at hi
        obtain rfl : cells (f x) = r := Option.some.inj hi
        obtain ⟨cs, l1, k1, e1⟩ := hj i x hx
        obtain rfl := hK k1
        have g1 := e1 j u hu
        rw [hz, Go.WideShapes.add_plain] at g1
        rw [Nat.add_assoc]
        exact g1
def ix3 (a b c j : Int) : Int := if j = 0 then a else if j = 1 then b else c
theorem ix_cell {W : World} {g : Nat} {cs : Array Value} {T : TypeId} {fr : Nat × Nat} (h : W.heap[g]? = some (.cells cs T fr)) (o : Nat) : W.cell? ⟨g, o, none⟩ = cs[o]? := by
  simp [World.cell?, h]
theorem blk_ix3 {W : World} {g : Nat} {cs : Array Value} {T : TypeId} {fr : Nat × Nat} (h : W.heap[g]? = some (.cells cs T fr)) (off : Nat) {k : IntKind} {a b c : Int} (h0 : cs[off]? = some (.int k a)) (h1 : cs[off + 1]? = some (.int k b)) (h2 : cs[off + 2]? = some (.int k c))
    {j : Int} (j0 : 0 ≤ j) (j3 : j < 3) : W.cell? ⟨g, off + j.toNat, none⟩ = some (.int k (ix3 a b c j)) := by
  rw [ix_cell h]
  have hj : j = 0 ∨ j = 1 ∨ j = 2 := by omega
  rcases hj with rfl | rfl | rfl
  · exact h0
  · exact h1
  · exact h2
theorem reads_of_sl {α β : Type} (cells : α → List Value) {f : β → α} {d : Kd β} {w : World} {a : Option Addr} {n sz len c : Nat} {xs : List β} (hK : ∀ x : β, d.K w x (cells (f x))) (hlen : ∀ a, (cells a).length = sz) (hz : d.sz = sz)
    (h : SlOf w n sz (.slice a len c) ((xs.map f).map cells)) : Kd.C d w a xs.length xs ∧ xs.length ≤ c ∧ len = xs.length := by
  obtain ⟨a', c', e, h1, h2, h3, h4⟩ := h
  injection e with ea el ec
  subst ea; subst ec
  simp only [List.length_map] at el h1 h2 h4
  refine ⟨⟨rfl, by unfold maxLen at h2; omega, fun hp => ?_⟩, h1, el⟩
  obtain ⟨b, o, e1, hb, hc⟩ := h4 hp
  refine ⟨_, e1, fun j p hj => ⟨cells (f p), by rw [hlen, hz], hK p, fun i u hi => ?_⟩⟩
  have h5 := hc j i (cells (f p)) u (by rw [List.map_map, List.getElem?_map, hj]; rfl) hi
  rw [hz, Go.WideShapes.add_plain, ← Nat.add_assoc]
  exact h5
end Go.Proofs.YtbhjfojbjpbdbaaDoor
namespace Go.Proofs.YtbhjfojbjpbdbaaDoor
open Go.RowKit
theorem amid_any (n lo hi : Int) (w : World) : Calls Tryd.prog 45 #[.int .i64 n, .int .i64 lo, .int .i64 hi] w fun e w' => e = .returned (.bool (within n lo hi)) ∧ w = w' := by
  go_enter Tryd.func45, Tryd.ntmps45
  go_wp2
  all_goals (go_ret; exact ⟨ret_bool (by unfold within; rw [Bool.eq_iff_iff]; simp; try omega), rfl⟩)
theorem reach_any (a b : Int) (w : World) : Calls Tryd.prog 53 #[.int .i64 a, .int .i64 b] w fun e w' => e = .returned (.agg #[.int .i64 a, .int .i64 b]) ∧ Below w.heap.size w w' := by
  go_enter Tryd.func53, Tryd.ntmps53
  go_wp2
  refine bodyPost_ret (v := .agg #[.int .i64 a, .int .i64 b]) (by simp [results, Tryd.results53, go_sem]) rfl ⟨rfl, ?_⟩
  first
    | exact (Below.refl _ _).alloc (Nat.le_refl _) _
    | exact (((Below.refl _ _).alloc (Nat.le_refl _) _).setCell (by simp) _).setCell (by simp) _
theorem just_any (a : Int) (w : World) : Calls Tryd.prog 50 #[.int .i64 a] w fun e w' => e = .returned (.agg #[.int .i64 a, .int .i64 a]) ∧ Below w.heap.size w w' := by
  obtain ⟨V, hV⟩ : ∃ V, w.alloc (.cells #[.int .i64 0, .int .i64 0] 32) = V := ⟨_, rfl⟩
  have hBV : Below w.heap.size w V := by rw [← hV]; exact (Below.refl _ _).alloc (Nat.le_refl _) _
  have hr : V.heap[w.heap.size]? = some (.cells #[.int .i64 0, .int .i64 0] 32) := by rw [← hV]; exact World.alloc_heap_new _ _
  have hlt : w.heap.size < V.heap.size := (Array.getElem?_eq_some_iff.1 hr).1
  have r0 : V.cell? ⟨w.heap.size, 0, none⟩ = some (.int .i64 0) := by unfold World.cell?; rw [hr]; rfl
  have r1 : V.cell? ⟨w.heap.size, 1, none⟩ = some (.int .i64 0) := by unfold World.cell?; rw [hr]; rfl
  have f0 : V.frozen? ⟨w.heap.size, 0, none⟩ = false := by unfold World.frozen?; rw [hr]; simp
  have f1 : V.frozen? ⟨w.heap.size, 1, none⟩ = false := by unfold World.frozen?; rw [hr]; simp
  have HR := Lib.hid hr
  clear hr
  go_enter Tryd.func50, Tryd.ntmps50
  go_upto_region 1 with fail
  try rw [hV]
  clear hV
  go_wp2_with (first | (go_at_call 53; refine (reach_any _ _ _).mono ?_; rintro e w1 ⟨rfl, hb1⟩; have hk1 := (bcell hb1).1; have hk2 := (bcell hb1).2; have HB1 := Lib.hid hb1; clear hb1) | fail)
  obtain ⟨k0, k1, hBZ⟩ := stored2 ((HB1.out.block _ hlt).trans HR.out) (.int .i64 a) (.int .i64 a) (hBV.trans (HB1.out.mono hBV.size)) (Nat.le_refl w.heap.size)
  generalize (w1.setCell ⟨w.heap.size, 0, none⟩ (.int .i64 a)).setCell ⟨w.heap.size, 1, none⟩ (.int .i64 a) = Z at k0 k1 hBZ ⊢
  exact bodyPost_ret (v := .agg #[.int .i64 a, .int .i64 a]) (by simp [results, Tryd.results50, go_sem, k0, k1]) rfl ⟨rfl, hBZ⟩
theorem sane_any (a b lo hi wide : Int) (hw : lo ≤ hi ∧ -1000000 ≤ lo ∧ hi ≤ 1000000) (w : World) :
    Calls Tryd.prog 69 #[.agg #[.int .i64 a, .int .i64 b], .int .i64 lo, .int .i64 hi, .int .i64 wide] w fun e w' => e = .returned (.bool (spanOk a b lo hi wide)) ∧ Below w.heap.size w w' := by
  by_cases h1 : lo ≤ a
  · by_cases h2 : a ≤ b
    · by_cases h3 : b ≤ hi
      · have hwr : IntKind.i64.wrap (b - a) = b - a := IntWalk.i64_in _ (by omega)
        go_enter Tryd.func69, Tryd.ntmps69
        go_wp2
        all_goals (go_ret; exact ⟨ret_bool (by unfold spanOk; rw [Bool.eq_iff_iff]; simp; try omega), (Below.refl _ _).alloc (Nat.le_refl _) _⟩)
      · go_enter Tryd.func69, Tryd.ntmps69
        go_wp2
        all_goals (go_ret; exact ⟨ret_bool (by unfold spanOk; rw [Bool.eq_iff_iff]; simp; try omega), (Below.refl _ _).alloc (Nat.le_refl _) _⟩)
    · go_enter Tryd.func69, Tryd.ntmps69
      go_wp2
      all_goals (go_ret; exact ⟨ret_bool (by unfold spanOk; rw [Bool.eq_iff_iff]; simp; try omega), (Below.refl _ _).alloc (Nat.le_refl _) _⟩)
  · go_enter Tryd.func69, Tryd.ntmps69
    go_wp2
    all_goals (go_ret; exact ⟨ret_bool (by unfold spanOk; rw [Bool.eq_iff_iff]; simp; try omega), (Below.refl _ _).alloc (Nat.le_refl _) _⟩)
end Go.Proofs.YtbhjfojbjpbdbaaDoor
namespace Go.Proofs.YtbhjfojbjpbdbaaDoor
open Go.RowKit
set_option maxHeartbeats 1000000 in
theorem like_any (W : World) (v u : Value) (l m : List Int) (n : Nat) (hv : SlOf W n 1 v (intCells l)) (hu : SlOf W n 1 u (intCells m)) (hn : n ≤ W.heap.size) :
    Calls Tryd.prog 40 #[v, u] W fun e W' => e = .returned (.bool (decide (l = m))) ∧ Below W.heap.size W W' := by
  obtain ⟨va, vc, rfl, v1, v2, v3, v4⟩ := hv
  obtain ⟨ua, uc, rfl, u1, u2, u3, u4⟩ := hu
  have hvl : (intCells l).length = l.length := by simp [intCells]
  have hul : (intCells m).length = m.length := by simp [intCells]
  rw [hvl] at v1 v4 ⊢
  rw [hul] at u1 u4 ⊢
  have hb : l.length ≤ 9223372036854775807 := by unfold maxLen at v2; omega
  have H4 := Lib.hid v4
  have H5 := Lib.hid u4
  clear v1 v2 v3 v4 u1 u2 u3 u4 hvl hul
  by_cases hlen : l.length = m.length
  · obtain ⟨k, hk⟩ : ∃ k, l.length = k := ⟨_, rfl⟩
    have HK := Lib.hid hk
    have HM := Lib.hid (show m.length = k by rw [← hlen]; exact hk)
    rw [← hlen, hk]
    rw [hk] at hb
    clear hlen hk
    go_enter Tryd.func40, Tryd.ntmps40
    go_wp2_with fail
    go_loopg [5, 6] k (fun n sm i wx => ∃ (q : Nat) (o : Bool), Below W.heap.size W wx ∧ q ≤ k ∧ n = k - q ∧ sm = .bool o ∧ i = .int .i64 (q : Int) ∧ (o && decide (l.drop q = m.drop q)) = decide (l = m))
    case atStart => exact ⟨0, true, Below.refl _ _, by omega, rfl, rfl, rfl, by simp⟩
    case round =>
      obtain ⟨q, o, hbx, hq, hgk, rfl, rfl, hT⟩ := hrel
      have HG := Lib.hid hgk
      have HT := Lib.hid hT
      clear hgk hT
      cases o with
      | false =>
        go_wp2_with fail
        go_ret
        exact ⟨by rw [← HT.out]; rfl, hbx⟩
      | true =>
        by_cases hlt : q < k
        · obtain ⟨x, hx⟩ : ∃ x, l[q]? = some x := ⟨_, List.getElem?_eq_getElem (by rw [HK.out]; exact hlt)⟩
          obtain ⟨y, hy⟩ : ∃ y, m[q]? = some y := ⟨_, List.getElem?_eq_getElem (by rw [HM.out]; exact hlt)⟩
          obtain ⟨g, p, hva, hg, hcs⟩ := sl_at (fun h0 => H4.out (by simpa [intCells] using h0)) (show (intCells l)[q]? = some [.int .i64 x] by simp [intCells, hx])
          obtain ⟨g2, p2, hua, hg2, hcs2⟩ := sl_at (fun h0 => H5.out (by simpa [intCells] using h0)) (show (intCells m)[q]? = some [.int .i64 y] by simp [intCells, hy])
          subst hva
          subst hua
          have r0 : wr.cell? ⟨g, p + q, none⟩ = some (.int .i64 x) := (hbx.cell (p := ⟨g, p + q, none⟩) (by show g < _; omega)).trans (by have := hcs 0 _ rfl; simpa using this)
          have r1 : wr.cell? ⟨g2, p2 + q, none⟩ = some (.int .i64 y) := (hbx.cell (p := ⟨g2, p2 + q, none⟩) (by show g2 < _; omega)).trans (by have := hcs2 0 _ rfl; simpa using this)
          have hd : (decide (l.drop q = m.drop q)) = ((x == y) && decide (l.drop (q + 1) = m.drop (q + 1))) := by
            have h1 : q < l.length := by rw [HK.out]; exact hlt
            have h2 : q < m.length := by rw [HM.out]; exact hlt
            rw [List.drop_eq_getElem_cons h1, List.drop_eq_getElem_cons h2]
            rw [List.getElem?_eq_getElem h1] at hx
            rw [List.getElem?_eq_getElem h2] at hy
            injection hx with hx
            injection hy with hy
            rw [hx, hy, Bool.eq_iff_iff]
            simp
          have HD := Lib.hid hd
          clear hcs hcs2 hx hy hd
          go_wp2_with fail
          go_region
          all_goals (
            go_wp2_with fail
            go_roundg (k - (q + 1))
            case measure => rw [HG.out]; omega
            case rel => exact ⟨q + 1, x == y, hbx.drew, by omega, rfl, rfl, by go_num, by rw [← HT.out, HD.out]; rfl⟩)
        · have hf : decide (l = m) = true := by rw [← HT.out, List.drop_eq_nil_of_le (by rw [HK.out]; omega), List.drop_eq_nil_of_le (by rw [HM.out]; omega)]; rfl
          have HF := Lib.hid hf
          clear hf
          go_wp2_with fail
          go_ret
          exact ⟨by rw [HF.out]; rfl, hbx⟩
  · have hne : decide (l = m) = false := by simp; intro e; exact hlen (by rw [e])
    have HNE := Lib.hid hne
    have hi : ((l.length : Int) == (m.length : Int)) = false := by simp; omega
    clear hne
    go_enter Tryd.func40, Tryd.ntmps40
    go_wp2_with fail
    go_loopg [5, 6] 0 (fun n sm i wx => W = wx ∧ sm = .bool false ∧ i = .int .i64 0)
    case atStart => exact ⟨rfl, rfl, rfl⟩
    case round =>
      obtain ⟨rfl, rfl, rfl⟩ := hrel
      go_wp2_with fail
      go_ret
      exact ⟨by rw [HNE.out]; rfl, Below.refl _ _⟩
end Go.Proofs.YtbhjfojbjpbdbaaDoor
namespace Go.Proofs.YtbhjfojbjpbdbaaDoor
open Go.RowKit
theorem clock_any (a b c : Int) (w : World) : Calls Tryd.prog 49 #[.int .i64 a, .int .i64 b, .int .i64 c] w fun e w' => e = .returned (.agg (Ck.cells ⟨a, b, c⟩).toArray) ∧ Below w.heap.size w w' := by
  go_enter Tryd.func49, Tryd.ntmps49
  go_wp2
  refine bodyPost_ret (v := .agg #[.int .i64 a, .int .i64 b, .int .i64 c]) (by simp [results, Tryd.results49, go_sem]) rfl ⟨rfl, ?_⟩
  exact (Below.refl _ _).alloc (Nat.le_refl _) _
theorem stage93_any (d a1 b1 a2 b2 a3 b3 : Int) (w : World) : Calls Tryd.prog 93 #[.int .i64 d, .agg #[.int .i64 a1, .int .i64 b1], .agg #[.int .i64 a2, .int .i64 b2], .agg #[.int .i64 a3, .int .i64 b3]] w fun e w' =>
    e = .returned (.agg (St.cells ⟨d, a1, b1, a2, b2, a3, b3⟩).toArray) ∧ Below w.heap.size w w' := by
  go_enter Tryd.func93, Tryd.ntmps93
  go_wp2
  refine bodyPost_ret (v := .agg #[.int .i64 d, .int .i64 a1, .int .i64 b1, .int .i64 a2, .int .i64 b2, .int .i64 a3, .int .i64 b3]) (by simp [results, Tryd.results93, go_sem]) rfl ⟨rfl, ?_⟩
  exact ((((Below.refl _ _).alloc (Nat.le_refl _) _).alloc (by simp) _).alloc (by simp; omega) _).alloc (by simp; omega) _
theorem stored7 {B K : Nat} {T : TypeId} {V W : World} {z0 z1 z2 z3 z4 z5 z6 : Value} (h : W.heap[B]? = some (.cells #[z0, z1, z2, z3, z4, z5, z6] T)) (v0 v1 v2 v3 v4 v5 v6 : Value) (hb : Below K V W) (hB : K ≤ B) :
    (((((((W.setCell ⟨B, 0, none⟩ v0).setCell ⟨B, 1, none⟩ v1).setCell ⟨B, 2, none⟩ v2).setCell ⟨B, 3, none⟩ v3).setCell ⟨B, 4, none⟩ v4).setCell ⟨B, 5, none⟩ v5).setCell ⟨B, 6, none⟩ v6).heap[B]? = some (.cells #[v0, v1, v2, v3, v4, v5, v6] T) ∧
    Below K V (((((((W.setCell ⟨B, 0, none⟩ v0).setCell ⟨B, 1, none⟩ v1).setCell ⟨B, 2, none⟩ v2).setCell ⟨B, 3, none⟩ v3).setCell ⟨B, 4, none⟩ v4).setCell ⟨B, 5, none⟩ v5).setCell ⟨B, 6, none⟩ v6) ∧
    (((((((W.setCell ⟨B, 0, none⟩ v0).setCell ⟨B, 1, none⟩ v1).setCell ⟨B, 2, none⟩ v2).setCell ⟨B, 3, none⟩ v3).setCell ⟨B, 4, none⟩ v4).setCell ⟨B, 5, none⟩ v5).setCell ⟨B, 6, none⟩ v6).heap.size = W.heap.size := by
  have h7 := blk_set (j := 6) (v := v6) (blk_set (j := 5) (v := v5) (blk_set (j := 4) (v := v4) (blk_set (j := 3) (v := v3) (blk_set (j := 2) (v := v2) (blk_set (j := 1) (v := v1) (blk_set (j := 0) (v := v0) h))))))
  simp only [List.setIfInBounds_toArray, List.set_cons_zero, List.set_cons_succ] at h7
  refine ⟨h7, ?_, by simp [World.setCell]⟩
  exact ((((((hb.setCell (p := ⟨B, 0, none⟩) hB v0).setCell (p := ⟨B, 1, none⟩) hB v1).setCell (p := ⟨B, 2, none⟩) hB v2).setCell (p := ⟨B, 3, none⟩) hB v3).setCell (p := ⟨B, 4, none⟩) hB v4).setCell (p := ⟨B, 5, none⟩) hB v5).setCell (p := ⟨B, 6, none⟩) hB v6
theorem slOf_new (w : World) (T : TypeId) (sz : Nat) (rows : List (List Value)) (hr : ∀ r ∈ rows, r.length = sz) (hm : rows.length ≤ maxLen) :
    SlOf (w.alloc (.cells rows.flatten.toArray T)) (w.heap.size + 1) sz (.slice (some ⟨w.heap.size, 0, none⟩) rows.length rows.length) rows := by
  refine ⟨_, _, rfl, Nat.le_refl _, hm, hr, fun _ => ⟨w.heap.size, 0, rfl, by omega, fun i j r c hi hj => ?_⟩⟩
  rw [cell_new, Nat.zero_add, List.getElem?_toArray]
  exact flat_at rows hr i j r c hi hj
set_option maxHeartbeats 1000000 in
theorem book_any (due : Int) (ka : Option Addr) (kl kc : Nat) (W : World) : Calls Tryd.prog 60 #[.int .i64 due, .slice ka kl kc] W fun e W' => ∃ g,
    e = .returned (.agg #[.slice (some ⟨g, 0, none⟩) 2 2, .int .i64 3, .int .i64 0, .int .i64 2, .int .i64 6, .slice ka kl kc, .int .i64 5]) ∧ Below W.heap.size W W' ∧ W.heap.size ≤ g ∧
      SlOf W' W'.heap.size 7 (.slice (some ⟨g, 0, none⟩) 2 2) (stCells [⟨30, 26, 28, 0, 2, 3, 4⟩, ⟨due, 25, 26, 2, 4, 0, 0⟩]) := by
  obtain ⟨V, hV⟩ : ∃ V, W.alloc (.cells #[.slice none 0 0, .int .i64 0, .int .i64 0, .int .i64 0, .int .i64 0, .slice none 0 0, .int .i64 0] 26) = V := ⟨_, rfl⟩
  have hBV : Below W.heap.size W V := by rw [← hV]; exact (Below.refl _ _).alloc (Nat.le_refl _) _
  have hr : V.heap[W.heap.size]? = some (.cells #[.slice none 0 0, .int .i64 0, .int .i64 0, .int .i64 0, .int .i64 0, .slice none 0 0, .int .i64 0] 26) := by rw [← hV]; exact World.alloc_heap_new _ _
  have hlt : W.heap.size < V.heap.size := (Array.getElem?_eq_some_iff.1 hr).1
  have r0 : V.cell? ⟨W.heap.size, 0, none⟩ = some (.slice none 0 0) := blk_cell hr
  have f0 := blk_frozen hr 0
  have r1 : V.cell? ⟨W.heap.size, 1, none⟩ = some (.int .i64 0) := blk_cell hr
  have f1 := blk_frozen hr 1
  have r2 : V.cell? ⟨W.heap.size, 2, none⟩ = some (.int .i64 0) := blk_cell hr
  have f2 := blk_frozen hr 2
  have r3 : V.cell? ⟨W.heap.size, 3, none⟩ = some (.int .i64 0) := blk_cell hr
  have f3 := blk_frozen hr 3
  have r4 : V.cell? ⟨W.heap.size, 4, none⟩ = some (.int .i64 0) := blk_cell hr
  have f4 := blk_frozen hr 4
  have r5 : V.cell? ⟨W.heap.size, 5, none⟩ = some (.slice none 0 0) := blk_cell hr
  have f5 := blk_frozen hr 5
  have r6 : V.cell? ⟨W.heap.size, 6, none⟩ = some (.int .i64 0) := blk_cell hr
  have f6 := blk_frozen hr 6
  have HR := Lib.hid hr
  clear hr
  have hBB : Below V.heap.size V V := Below.refl _ _
  go_enter Tryd.func60, Tryd.ntmps60
  go_upto_region 1 with fail
  try rw [hV]
  clear hV
  go_wp2_with (first
    | (go_at_call 53; refine (reach_any _ _ _).mono ?_; rintro e w' ⟨rfl, hb⟩; replace hBB := hBB.trans (hb.mono hBB.size); clear hb; have hk := (bcell hBB).1; have hf := (bcell hBB).2; have hz := Nat.lt_of_lt_of_le hlt hBB.size)
    | (go_at_call 50; refine (just_any _ _).mono ?_; rintro e w' ⟨rfl, hb⟩; replace hBB := hBB.trans (hb.mono hBB.size); clear hb; have hk := (bcell hBB).1; have hf := (bcell hBB).2; have hz := Nat.lt_of_lt_of_le hlt hBB.size)
    | (go_at_call 93; refine (stage93_any _ _ _ _ _ _ _ _).mono ?_; rintro e w' ⟨rfl, hb⟩; replace hBB := hBB.trans (hb.mono hBB.size); clear hb; have hk := (bcell hBB).1; have hf := (bcell hBB).2; have hz := Nat.lt_of_lt_of_le hlt hBB.size; simp only [St.cells])
    | fail)
  obtain ⟨k7, hBZ, hZz⟩ := stored7 ((hBB.block _ hlt).trans HR.out) (.slice (some ⟨w'.heap.size, 0, none⟩) 2 2) (.int .i64 3) (.int .i64 0) (.int .i64 2) (.int .i64 6) (.slice ka kl kc) (.int .i64 5) (hBV.trans (hBB.mono hBV.size)) (Nat.le_refl W.heap.size)
  generalize ((((((w'.setCell ⟨W.heap.size, 0, none⟩ (.slice (some ⟨w'.heap.size, 0, none⟩) 2 2)).setCell ⟨W.heap.size, 1, none⟩ (.int .i64 3)).setCell ⟨W.heap.size, 2, none⟩ (.int .i64 0)).setCell ⟨W.heap.size, 3, none⟩ (.int .i64 2)).setCell
    ⟨W.heap.size, 4, none⟩ (.int .i64 6)).setCell ⟨W.heap.size, 5, none⟩ (.slice ka kl kc)).setCell ⟨W.heap.size, 6, none⟩ (.int .i64 5) = Z at k7 hBZ hZz ⊢
  have hlz : W.heap.size < Z.heap.size := by rw [hZz]; exact hz
  have hsl := slOf_new Z 56 7 (stCells [⟨30, 26, 28, 0, 2, 3, 4⟩, ⟨due, 25, 26, 2, 4, 0, 0⟩]) (by intro r hr; simp [stCells, St.cells] at hr; rcases hr with rfl | rfl <;> rfl) (by simp [stCells, maxLen])
  have k7' := (heap_alloc_old Z (.cells (stCells [⟨30, 26, 28, 0, 2, 3, 4⟩, ⟨due, 25, 26, 2, 4, 0, 0⟩]).flatten.toArray 56) hlz).trans k7
  have hBY : Below W.heap.size W (Z.alloc (.cells (stCells [⟨30, 26, 28, 0, 2, 3, 4⟩, ⟨due, 25, 26, 2, 4, 0, 0⟩]).flatten.toArray 56)) := hBZ.alloc (Nat.le_of_lt hlz) _
  have hYz : (Z.alloc (.cells (stCells [⟨30, 26, 28, 0, 2, 3, 4⟩, ⟨due, 25, 26, 2, 4, 0, 0⟩]).flatten.toArray 56)).heap.size = w'.heap.size + 1 := by simp [hZz]
  rw [hZz] at hsl
  simp only [stCells, St.cells, List.map_cons, List.map_nil, List.flatten_cons, List.flatten_nil, List.cons_append, List.nil_append, List.append_nil, List.length_cons, List.length_nil, Nat.zero_add, Nat.reduceAdd] at hsl k7' hBY hYz ⊢
  generalize Z.alloc _ = Y at hsl k7' hBY hYz ⊢
  have c0 : Y.cell? ⟨W.heap.size, 0, none⟩ = some (.slice (some ⟨w'.heap.size, 0, none⟩) 2 2) := blk_cell k7'
  have c1 : Y.cell? ⟨W.heap.size, 1, none⟩ = some (.int .i64 3) := blk_cell k7'
  have c2 : Y.cell? ⟨W.heap.size, 2, none⟩ = some (.int .i64 0) := blk_cell k7'
  have c3 : Y.cell? ⟨W.heap.size, 3, none⟩ = some (.int .i64 2) := blk_cell k7'
  have c4 : Y.cell? ⟨W.heap.size, 4, none⟩ = some (.int .i64 6) := blk_cell k7'
  have c5 : Y.cell? ⟨W.heap.size, 5, none⟩ = some (.slice ka kl kc) := blk_cell k7'
  have c6 : Y.cell? ⟨W.heap.size, 6, none⟩ = some (.int .i64 5) := blk_cell k7'
  exact bodyPost_ret (v := .agg #[.slice (some ⟨w'.heap.size, 0, none⟩) 2 2, .int .i64 3, .int .i64 0, .int .i64 2, .int .i64 6, .slice ka kl kc, .int .i64 5]) (by simp [results, Tryd.results60, go_sem, c0, c1, c2, c3, c4, c5, c6]) rfl
    ⟨w'.heap.size, rfl, hBY, by omega, by rw [hYz]; exact hsl⟩
end Go.Proofs.YtbhjfojbjpbdbaaDoor
namespace Go.Proofs.YtbhjfojbjpbdbaaDoor
open Go.RowKit
def bookB (due : Int) (cks : List Ck) : Bk := ⟨[⟨30, 26, 28, 0, 2, 3, 4⟩, ⟨due, 25, 26, 2, 4, 0, 0⟩], 3, 0, 2, 6, cks, 5⟩
set_option maxHeartbeats 1000000 in
theorem own_any (W : World) : Calls Tryd.prog 59 #[] W fun e W' => ∃ g, e = .returned (.agg ((bookB 62 []).cells (.slice (some ⟨g, 0, none⟩) 2 2) (.slice none 0 0)).toArray) ∧ Below W.heap.size W W' ∧ BookW W' W'.heap.size (some ⟨g, 0, none⟩) none 2 2 0 0 (bookB 62 []) := by
  obtain ⟨V, hV⟩ : ∃ V, W.alloc (.cells #[.slice none 0 0, .int .i64 0, .int .i64 0, .int .i64 0, .int .i64 0, .slice none 0 0, .int .i64 0] 26) = V := ⟨_, rfl⟩
  have hBV : Below W.heap.size W V := by rw [← hV]; exact (Below.refl _ _).alloc (Nat.le_refl _) _
  have hr : V.heap[W.heap.size]? = some (.cells #[.slice none 0 0, .int .i64 0, .int .i64 0, .int .i64 0, .int .i64 0, .slice none 0 0, .int .i64 0] 26) := by rw [← hV]; exact World.alloc_heap_new _ _
  have hlt : W.heap.size < V.heap.size := (Array.getElem?_eq_some_iff.1 hr).1
  have r0 : V.cell? ⟨W.heap.size, 0, none⟩ = some (.slice none 0 0) := blk_cell hr
  have f0 := blk_frozen hr 0
  have r1 : V.cell? ⟨W.heap.size, 1, none⟩ = some (.int .i64 0) := blk_cell hr
  have f1 := blk_frozen hr 1
  have r2 : V.cell? ⟨W.heap.size, 2, none⟩ = some (.int .i64 0) := blk_cell hr
  have f2 := blk_frozen hr 2
  have r3 : V.cell? ⟨W.heap.size, 3, none⟩ = some (.int .i64 0) := blk_cell hr
  have f3 := blk_frozen hr 3
  have r4 : V.cell? ⟨W.heap.size, 4, none⟩ = some (.int .i64 0) := blk_cell hr
  have f4 := blk_frozen hr 4
  have r5 : V.cell? ⟨W.heap.size, 5, none⟩ = some (.slice none 0 0) := blk_cell hr
  have f5 := blk_frozen hr 5
  have r6 : V.cell? ⟨W.heap.size, 6, none⟩ = some (.int .i64 0) := blk_cell hr
  have f6 := blk_frozen hr 6
  have HR := Lib.hid hr
  clear hr
  go_enter Tryd.func59, Tryd.ntmps59
  go_upto_region 1 with fail
  try rw [hV]
  clear hV
  go_wp2_with (first
    | (go_at_call 60; refine (book_any 62 none 0 0 V).mono ?_; rintro e w' ⟨g, rfl, hb, hgv, hs⟩; have hk := (bcell hb).1; have hf := (bcell hb).2; have HB := Lib.hid hb; have HS := Lib.hid hs; clear hb hs)
    | fail)
  obtain ⟨k7, hBZ, hZz⟩ := stored7 ((HB.out.block _ hlt).trans HR.out) (.slice (some ⟨g, 0, none⟩) 2 2) (.int .i64 3) (.int .i64 0) (.int .i64 2) (.int .i64 6) (.slice none 0 0) (.int .i64 5) (hBV.trans (HB.out.mono hBV.size)) (Nat.le_refl W.heap.size)
  have hkeep : ∀ k, k ≠ W.heap.size → ((((((((w'.setCell ⟨W.heap.size, 0, none⟩ (.slice (some ⟨g, 0, none⟩) 2 2)).setCell ⟨W.heap.size, 1, none⟩ (.int .i64 3)).setCell ⟨W.heap.size, 2, none⟩ (.int .i64 0)).setCell ⟨W.heap.size, 3, none⟩ (.int .i64 2)).setCell
    ⟨W.heap.size, 4, none⟩ (.int .i64 6)).setCell ⟨W.heap.size, 5, none⟩ (.slice none 0 0)).setCell ⟨W.heap.size, 6, none⟩ (.int .i64 5)).heap[k]? = w'.heap[k]?) := fun k hk =>
    (Below.heap_setCell _ _ _ _ hk).trans ((Below.heap_setCell _ _ _ _ hk).trans ((Below.heap_setCell _ _ _ _ hk).trans ((Below.heap_setCell _ _ _ _ hk).trans ((Below.heap_setCell _ _ _ _ hk).trans ((Below.heap_setCell _ _ _ _ hk).trans (Below.heap_setCell _ _ _ _ hk))))))
  generalize ((((((w'.setCell ⟨W.heap.size, 0, none⟩ (.slice (some ⟨g, 0, none⟩) 2 2)).setCell ⟨W.heap.size, 1, none⟩ (.int .i64 3)).setCell ⟨W.heap.size, 2, none⟩ (.int .i64 0)).setCell ⟨W.heap.size, 3, none⟩ (.int .i64 2)).setCell
    ⟨W.heap.size, 4, none⟩ (.int .i64 6)).setCell ⟨W.heap.size, 5, none⟩ (.slice none 0 0)).setCell ⟨W.heap.size, 6, none⟩ (.int .i64 5) = Y at k7 hBZ hZz hkeep ⊢
  have c0 : Y.cell? ⟨W.heap.size, 0, none⟩ = some (.slice (some ⟨g, 0, none⟩) 2 2) := blk_cell k7
  have c1 : Y.cell? ⟨W.heap.size, 1, none⟩ = some (.int .i64 3) := blk_cell k7
  have c2 : Y.cell? ⟨W.heap.size, 2, none⟩ = some (.int .i64 0) := blk_cell k7
  have c3 : Y.cell? ⟨W.heap.size, 3, none⟩ = some (.int .i64 2) := blk_cell k7
  have c4 : Y.cell? ⟨W.heap.size, 4, none⟩ = some (.int .i64 6) := blk_cell k7
  have c5 : Y.cell? ⟨W.heap.size, 5, none⟩ = some (.slice none 0 0) := blk_cell k7
  have c6 : Y.cell? ⟨W.heap.size, 6, none⟩ = some (.int .i64 5) := blk_cell k7
  have hsY : SlOf Y Y.heap.size 7 (.slice (some ⟨g, 0, none⟩) 2 2) (stCells (bookB 62 []).sts) := by
    obtain ⟨a, cap, e, h1, h2, h3, h4⟩ := HS.out
    refine ⟨a, cap, e, h1, h2, h3, fun hp => ?_⟩
    obtain ⟨b, o, e1, hb, hc⟩ := h4 hp
    rw [e1] at e
    injection e with e2 _ _
    injection e2 with e2
    have hbg : g = b := congrArg Addr.block e2
    refine ⟨b, o, e1, by rw [hZz]; exact hb, fun i j r c hi hj => ?_⟩
    exact (World.cell?_of_block (w := w') (a := ⟨b, _, none⟩) (hkeep b (by omega))).trans (hc i j r c hi hj)
  exact bodyPost_ret (v := .agg #[.slice (some ⟨g, 0, none⟩) 2 2, .int .i64 3, .int .i64 0, .int .i64 2, .int .i64 6, .slice none 0 0, .int .i64 5]) (by simp [results, Tryd.results59, go_sem, c0, c1, c2, c3, c4, c5, c6]) rfl
    ⟨g, rfl, hBZ, Nat.le_refl _, hsY, slOf_nil _ _ _, rfl, rfl⟩
end Go.Proofs.YtbhjfojbjpbdbaaDoor
namespace Go.Proofs.YtbhjfojbjpbdbaaDoor
open Go.RowKit
set_option maxHeartbeats 1000000 in
theorem read_any (W : World) : Calls Tryd.prog 62 #[] W fun e W' => ∃ g h, e = .returned (.agg ((bookB 62 [⟨1, 66, 0⟩]).cells (.slice (some ⟨g, 0, none⟩) 2 2) (.slice (some ⟨h, 0, none⟩) 1 1)).toArray) ∧ Below W.heap.size W W' ∧ BookW W' W'.heap.size (some ⟨g, 0, none⟩) (some ⟨h, 0, none⟩) 2 2 1 1 (bookB 62 [⟨1, 66, 0⟩]) := by
  obtain ⟨V, hV⟩ : ∃ V, W.alloc (.cells #[.slice none 0 0, .int .i64 0, .int .i64 0, .int .i64 0, .int .i64 0, .slice none 0 0, .int .i64 0] 26) = V := ⟨_, rfl⟩
  have hBV : Below W.heap.size W V := by rw [← hV]; exact (Below.refl _ _).alloc (Nat.le_refl _) _
  have hr : V.heap[W.heap.size]? = some (.cells #[.slice none 0 0, .int .i64 0, .int .i64 0, .int .i64 0, .int .i64 0, .slice none 0 0, .int .i64 0] 26) := by rw [← hV]; exact World.alloc_heap_new _ _
  have hlt : W.heap.size < V.heap.size := (Array.getElem?_eq_some_iff.1 hr).1
  have r0 : V.cell? ⟨W.heap.size, 0, none⟩ = some (.slice none 0 0) := blk_cell hr
  have f0 := blk_frozen hr 0
  have r1 : V.cell? ⟨W.heap.size, 1, none⟩ = some (.int .i64 0) := blk_cell hr
  have f1 := blk_frozen hr 1
  have r2 : V.cell? ⟨W.heap.size, 2, none⟩ = some (.int .i64 0) := blk_cell hr
  have f2 := blk_frozen hr 2
  have r3 : V.cell? ⟨W.heap.size, 3, none⟩ = some (.int .i64 0) := blk_cell hr
  have f3 := blk_frozen hr 3
  have r4 : V.cell? ⟨W.heap.size, 4, none⟩ = some (.int .i64 0) := blk_cell hr
  have f4 := blk_frozen hr 4
  have r5 : V.cell? ⟨W.heap.size, 5, none⟩ = some (.slice none 0 0) := blk_cell hr
  have f5 := blk_frozen hr 5
  have r6 : V.cell? ⟨W.heap.size, 6, none⟩ = some (.int .i64 0) := blk_cell hr
  have f6 := blk_frozen hr 6
  have HR := Lib.hid hr
  clear hr
  go_enter Tryd.func62, Tryd.ntmps62
  go_upto_region 1 with fail
  try rw [hV]
  clear hV
  go_wp2_with (first
    | (go_at_call 49; refine (clock_any _ _ _ _).mono ?_; rintro e w1 ⟨rfl, hb1⟩; have HB1 := Lib.hid hb1; clear hb1; simp only [Ck.cells])
    | fail)
  have hV1 : Below V.heap.size V (w1.alloc (.cells #[.int .i64 1, .int .i64 66, .int .i64 0] 42)) := HB1.out.alloc HB1.out.size _
  have hk1 := slOf_new w1 42 3 (ckCells [⟨1, 66, 0⟩]) (by intro r hr; simp [ckCells, Ck.cells] at hr; subst hr; rfl) (by simp [ckCells, maxLen])
  have HK1 := Lib.hid (show SlOf (w1.alloc (.cells #[.int .i64 1, .int .i64 66, .int .i64 0] 42)) (w1.alloc (.cells #[.int .i64 1, .int .i64 66, .int .i64 0] 42)).heap.size 3 (.slice (some ⟨w1.heap.size, 0, none⟩) 1 1) (ckCells [⟨1, 66, 0⟩]) by rw [World.size_alloc]; exact hk1)
  clear hk1
  go_wp2_with (first
    | (go_at_call 60; refine (book_any 62 (some ⟨w1.heap.size, 0, none⟩) 1 1 _).mono ?_; rintro e w' ⟨g, rfl, hb', hgv, hs⟩; have HBB := Lib.hid hb'; have hb := hV1.trans (hb'.mono hV1.size); have hk := (bcell hb).1; have hf := (bcell hb).2; have HB := Lib.hid hb; have HS := Lib.hid hs; clear hb hs hb')
    | fail)
  obtain ⟨k7, hBZ, hZz⟩ := stored7 ((HB.out.block _ hlt).trans HR.out) (.slice (some ⟨g, 0, none⟩) 2 2) (.int .i64 3) (.int .i64 0) (.int .i64 2) (.int .i64 6) (.slice (some ⟨w1.heap.size, 0, none⟩) 1 1) (.int .i64 5) (hBV.trans (HB.out.mono hBV.size)) (Nat.le_refl W.heap.size)
  have hkeep : ∀ k, k ≠ W.heap.size → ((((((((w'.setCell ⟨W.heap.size, 0, none⟩ (.slice (some ⟨g, 0, none⟩) 2 2)).setCell ⟨W.heap.size, 1, none⟩ (.int .i64 3)).setCell ⟨W.heap.size, 2, none⟩ (.int .i64 0)).setCell ⟨W.heap.size, 3, none⟩ (.int .i64 2)).setCell
    ⟨W.heap.size, 4, none⟩ (.int .i64 6)).setCell ⟨W.heap.size, 5, none⟩ (.slice (some ⟨w1.heap.size, 0, none⟩) 1 1)).setCell ⟨W.heap.size, 6, none⟩ (.int .i64 5)).heap[k]? = w'.heap[k]?) := fun k hk =>
    (Below.heap_setCell _ _ _ _ hk).trans ((Below.heap_setCell _ _ _ _ hk).trans ((Below.heap_setCell _ _ _ _ hk).trans ((Below.heap_setCell _ _ _ _ hk).trans ((Below.heap_setCell _ _ _ _ hk).trans ((Below.heap_setCell _ _ _ _ hk).trans (Below.heap_setCell _ _ _ _ hk))))))
  generalize ((((((w'.setCell ⟨W.heap.size, 0, none⟩ (.slice (some ⟨g, 0, none⟩) 2 2)).setCell ⟨W.heap.size, 1, none⟩ (.int .i64 3)).setCell ⟨W.heap.size, 2, none⟩ (.int .i64 0)).setCell ⟨W.heap.size, 3, none⟩ (.int .i64 2)).setCell
    ⟨W.heap.size, 4, none⟩ (.int .i64 6)).setCell ⟨W.heap.size, 5, none⟩ (.slice (some ⟨w1.heap.size, 0, none⟩) 1 1)).setCell ⟨W.heap.size, 6, none⟩ (.int .i64 5) = Y at k7 hBZ hZz hkeep ⊢
  have c0 : Y.cell? ⟨W.heap.size, 0, none⟩ = some (.slice (some ⟨g, 0, none⟩) 2 2) := blk_cell k7
  have c1 : Y.cell? ⟨W.heap.size, 1, none⟩ = some (.int .i64 3) := blk_cell k7
  have c2 : Y.cell? ⟨W.heap.size, 2, none⟩ = some (.int .i64 0) := blk_cell k7
  have c3 : Y.cell? ⟨W.heap.size, 3, none⟩ = some (.int .i64 2) := blk_cell k7
  have c4 : Y.cell? ⟨W.heap.size, 4, none⟩ = some (.int .i64 6) := blk_cell k7
  have c5 : Y.cell? ⟨W.heap.size, 5, none⟩ = some (.slice (some ⟨w1.heap.size, 0, none⟩) 1 1) := blk_cell k7
  have c6 : Y.cell? ⟨W.heap.size, 6, none⟩ = some (.int .i64 5) := blk_cell k7
  have hsY : SlOf Y Y.heap.size 7 (.slice (some ⟨g, 0, none⟩) 2 2) (stCells (bookB 62 [⟨1, 66, 0⟩]).sts) := by
    obtain ⟨a, cap, e, h1, h2, h3, h4⟩ := HS.out
    refine ⟨a, cap, e, h1, h2, h3, fun hp => ?_⟩
    obtain ⟨b, o, e1, hb, hc⟩ := h4 hp
    rw [e1] at e
    injection e with e2 _ _
    injection e2 with e2
    have hbg : g = b := congrArg Addr.block e2
    refine ⟨b, o, e1, by rw [hZz]; exact hb, fun i j r c hi hj => ?_⟩
    exact (World.cell?_of_block (w := w') (a := ⟨b, _, none⟩) (hkeep b (by have := hV1.size; omega))).trans (hc i j r c hi hj)
  have hkY : SlOf Y Y.heap.size 3 (.slice (some ⟨w1.heap.size, 0, none⟩) 1 1) (ckCells [⟨1, 66, 0⟩]) := by
    obtain ⟨a, cap, e, h1, h2, h3, h4⟩ := HK1.out
    refine ⟨a, cap, e, h1, h2, h3, fun hp => ?_⟩
    obtain ⟨b, o, e1, hb, hc⟩ := h4 hp
    rw [e1] at e
    injection e with e2 _ _
    injection e2 with e2
    have hbg : w1.heap.size = b := congrArg Addr.block e2
    have hz1 := HB1.out.size
    refine ⟨b, o, e1, by rw [hZz]; have := HBB.out.size; omega, fun i j r c hi hj => ?_⟩
    exact (World.cell?_of_block (w := w') (a := ⟨b, _, none⟩) (hkeep b (by omega))).trans ((HBB.out.cell (p := ⟨b, _, none⟩) hb).trans (hc i j r c hi hj))
  exact bodyPost_ret (v := .agg #[.slice (some ⟨g, 0, none⟩) 2 2, .int .i64 3, .int .i64 0, .int .i64 2, .int .i64 6, .slice (some ⟨w1.heap.size, 0, none⟩) 1 1, .int .i64 5]) (by simp [results, Tryd.results62, go_sem, c0, c1, c2, c3, c4, c5, c6]) rfl
    ⟨g, w1.heap.size, rfl, hBZ, Nat.le_refl _, hsY, hkY, rfl, rfl⟩
set_option maxHeartbeats 1000000 in
theorem tight_any (W : World) : Calls Tryd.prog 63 #[] W fun e W' => ∃ g h, e = .returned (.agg ((bookB 61 [⟨1, 66, 0⟩]).cells (.slice (some ⟨g, 0, none⟩) 2 2) (.slice (some ⟨h, 0, none⟩) 1 1)).toArray) ∧ Below W.heap.size W W' ∧ BookW W' W'.heap.size (some ⟨g, 0, none⟩) (some ⟨h, 0, none⟩) 2 2 1 1 (bookB 61 [⟨1, 66, 0⟩]) := by
  obtain ⟨V, hV⟩ : ∃ V, W.alloc (.cells #[.slice none 0 0, .int .i64 0, .int .i64 0, .int .i64 0, .int .i64 0, .slice none 0 0, .int .i64 0] 26) = V := ⟨_, rfl⟩
  have hBV : Below W.heap.size W V := by rw [← hV]; exact (Below.refl _ _).alloc (Nat.le_refl _) _
  have hr : V.heap[W.heap.size]? = some (.cells #[.slice none 0 0, .int .i64 0, .int .i64 0, .int .i64 0, .int .i64 0, .slice none 0 0, .int .i64 0] 26) := by rw [← hV]; exact World.alloc_heap_new _ _
  have hlt : W.heap.size < V.heap.size := (Array.getElem?_eq_some_iff.1 hr).1
  have r0 : V.cell? ⟨W.heap.size, 0, none⟩ = some (.slice none 0 0) := blk_cell hr
  have f0 := blk_frozen hr 0
  have r1 : V.cell? ⟨W.heap.size, 1, none⟩ = some (.int .i64 0) := blk_cell hr
  have f1 := blk_frozen hr 1
  have r2 : V.cell? ⟨W.heap.size, 2, none⟩ = some (.int .i64 0) := blk_cell hr
  have f2 := blk_frozen hr 2
  have r3 : V.cell? ⟨W.heap.size, 3, none⟩ = some (.int .i64 0) := blk_cell hr
  have f3 := blk_frozen hr 3
  have r4 : V.cell? ⟨W.heap.size, 4, none⟩ = some (.int .i64 0) := blk_cell hr
  have f4 := blk_frozen hr 4
  have r5 : V.cell? ⟨W.heap.size, 5, none⟩ = some (.slice none 0 0) := blk_cell hr
  have f5 := blk_frozen hr 5
  have r6 : V.cell? ⟨W.heap.size, 6, none⟩ = some (.int .i64 0) := blk_cell hr
  have f6 := blk_frozen hr 6
  have HR := Lib.hid hr
  clear hr
  go_enter Tryd.func63, Tryd.ntmps63
  go_upto_region 1 with fail
  try rw [hV]
  clear hV
  go_wp2_with (first
    | (go_at_call 49; refine (clock_any _ _ _ _).mono ?_; rintro e w1 ⟨rfl, hb1⟩; have HB1 := Lib.hid hb1; clear hb1; simp only [Ck.cells])
    | fail)
  have hV1 : Below V.heap.size V (w1.alloc (.cells #[.int .i64 1, .int .i64 66, .int .i64 0] 42)) := HB1.out.alloc HB1.out.size _
  have hk1 := slOf_new w1 42 3 (ckCells [⟨1, 66, 0⟩]) (by intro r hr; simp [ckCells, Ck.cells] at hr; subst hr; rfl) (by simp [ckCells, maxLen])
  have HK1 := Lib.hid (show SlOf (w1.alloc (.cells #[.int .i64 1, .int .i64 66, .int .i64 0] 42)) (w1.alloc (.cells #[.int .i64 1, .int .i64 66, .int .i64 0] 42)).heap.size 3 (.slice (some ⟨w1.heap.size, 0, none⟩) 1 1) (ckCells [⟨1, 66, 0⟩]) by rw [World.size_alloc]; exact hk1)
  clear hk1
  go_wp2_with (first
    | (go_at_call 60; refine (book_any 61 (some ⟨w1.heap.size, 0, none⟩) 1 1 _).mono ?_; rintro e w' ⟨g, rfl, hb', hgv, hs⟩; have HBB := Lib.hid hb'; have hb := hV1.trans (hb'.mono hV1.size); have hk := (bcell hb).1; have hf := (bcell hb).2; have HB := Lib.hid hb; have HS := Lib.hid hs; clear hb hs hb')
    | fail)
  obtain ⟨k7, hBZ, hZz⟩ := stored7 ((HB.out.block _ hlt).trans HR.out) (.slice (some ⟨g, 0, none⟩) 2 2) (.int .i64 3) (.int .i64 0) (.int .i64 2) (.int .i64 6) (.slice (some ⟨w1.heap.size, 0, none⟩) 1 1) (.int .i64 5) (hBV.trans (HB.out.mono hBV.size)) (Nat.le_refl W.heap.size)
  have hkeep : ∀ k, k ≠ W.heap.size → ((((((((w'.setCell ⟨W.heap.size, 0, none⟩ (.slice (some ⟨g, 0, none⟩) 2 2)).setCell ⟨W.heap.size, 1, none⟩ (.int .i64 3)).setCell ⟨W.heap.size, 2, none⟩ (.int .i64 0)).setCell ⟨W.heap.size, 3, none⟩ (.int .i64 2)).setCell
    ⟨W.heap.size, 4, none⟩ (.int .i64 6)).setCell ⟨W.heap.size, 5, none⟩ (.slice (some ⟨w1.heap.size, 0, none⟩) 1 1)).setCell ⟨W.heap.size, 6, none⟩ (.int .i64 5)).heap[k]? = w'.heap[k]?) := fun k hk =>
    (Below.heap_setCell _ _ _ _ hk).trans ((Below.heap_setCell _ _ _ _ hk).trans ((Below.heap_setCell _ _ _ _ hk).trans ((Below.heap_setCell _ _ _ _ hk).trans ((Below.heap_setCell _ _ _ _ hk).trans ((Below.heap_setCell _ _ _ _ hk).trans (Below.heap_setCell _ _ _ _ hk))))))
  generalize ((((((w'.setCell ⟨W.heap.size, 0, none⟩ (.slice (some ⟨g, 0, none⟩) 2 2)).setCell ⟨W.heap.size, 1, none⟩ (.int .i64 3)).setCell ⟨W.heap.size, 2, none⟩ (.int .i64 0)).setCell ⟨W.heap.size, 3, none⟩ (.int .i64 2)).setCell
    ⟨W.heap.size, 4, none⟩ (.int .i64 6)).setCell ⟨W.heap.size, 5, none⟩ (.slice (some ⟨w1.heap.size, 0, none⟩) 1 1)).setCell ⟨W.heap.size, 6, none⟩ (.int .i64 5) = Y at k7 hBZ hZz hkeep ⊢
  have c0 : Y.cell? ⟨W.heap.size, 0, none⟩ = some (.slice (some ⟨g, 0, none⟩) 2 2) := blk_cell k7
  have c1 : Y.cell? ⟨W.heap.size, 1, none⟩ = some (.int .i64 3) := blk_cell k7
  have c2 : Y.cell? ⟨W.heap.size, 2, none⟩ = some (.int .i64 0) := blk_cell k7
  have c3 : Y.cell? ⟨W.heap.size, 3, none⟩ = some (.int .i64 2) := blk_cell k7
  have c4 : Y.cell? ⟨W.heap.size, 4, none⟩ = some (.int .i64 6) := blk_cell k7
  have c5 : Y.cell? ⟨W.heap.size, 5, none⟩ = some (.slice (some ⟨w1.heap.size, 0, none⟩) 1 1) := blk_cell k7
  have c6 : Y.cell? ⟨W.heap.size, 6, none⟩ = some (.int .i64 5) := blk_cell k7
  have hsY : SlOf Y Y.heap.size 7 (.slice (some ⟨g, 0, none⟩) 2 2) (stCells (bookB 61 [⟨1, 66, 0⟩]).sts) := by
    obtain ⟨a, cap, e, h1, h2, h3, h4⟩ := HS.out
    refine ⟨a, cap, e, h1, h2, h3, fun hp => ?_⟩
    obtain ⟨b, o, e1, hb, hc⟩ := h4 hp
    rw [e1] at e
    injection e with e2 _ _
    injection e2 with e2
    have hbg : g = b := congrArg Addr.block e2
    refine ⟨b, o, e1, by rw [hZz]; exact hb, fun i j r c hi hj => ?_⟩
    exact (World.cell?_of_block (w := w') (a := ⟨b, _, none⟩) (hkeep b (by have := hV1.size; omega))).trans (hc i j r c hi hj)
  have hkY : SlOf Y Y.heap.size 3 (.slice (some ⟨w1.heap.size, 0, none⟩) 1 1) (ckCells [⟨1, 66, 0⟩]) := by
    obtain ⟨a, cap, e, h1, h2, h3, h4⟩ := HK1.out
    refine ⟨a, cap, e, h1, h2, h3, fun hp => ?_⟩
    obtain ⟨b, o, e1, hb, hc⟩ := h4 hp
    rw [e1] at e
    injection e with e2 _ _
    injection e2 with e2
    have hbg : w1.heap.size = b := congrArg Addr.block e2
    have hz1 := HB1.out.size
    refine ⟨b, o, e1, by rw [hZz]; have := HBB.out.size; omega, fun i j r c hi hj => ?_⟩
    exact (World.cell?_of_block (w := w') (a := ⟨b, _, none⟩) (hkeep b (by omega))).trans ((HBB.out.cell (p := ⟨b, _, none⟩) hb).trans (hc i j r c hi hj))
  exact bodyPost_ret (v := .agg #[.slice (some ⟨g, 0, none⟩) 2 2, .int .i64 3, .int .i64 0, .int .i64 2, .int .i64 6, .slice (some ⟨w1.heap.size, 0, none⟩) 1 1, .int .i64 5]) (by simp [results, Tryd.results63, go_sem, c0, c1, c2, c3, c4, c5, c6]) rfl
    ⟨g, w1.heap.size, rfl, hBZ, Nat.le_refl _, hsY, hkY, rfl, rfl⟩
end Go.Proofs.YtbhjfojbjpbdbaaDoor
namespace Go.Proofs.YtbhjfojbjpbdbaaDoor
open Go.RowKit
set_option maxHeartbeats 1000000 in
theorem torn_any (W : World) : Calls Tryd.prog 61 #[] W fun e W' => ∃ g h, e = .returned (.agg ((bookB 62 [⟨1, 66, 0⟩, ⟨0, 26, 0⟩]).cells (.slice (some ⟨g, 0, none⟩) 2 2) (.slice (some ⟨h, 0, none⟩) 2 2)).toArray) ∧ Below W.heap.size W W' ∧ BookW W' W'.heap.size (some ⟨g, 0, none⟩) (some ⟨h, 0, none⟩) 2 2 2 2 (bookB 62 [⟨1, 66, 0⟩, ⟨0, 26, 0⟩]) := by
  obtain ⟨V, hV⟩ : ∃ V, W.alloc (.cells #[.slice none 0 0, .int .i64 0, .int .i64 0, .int .i64 0, .int .i64 0, .slice none 0 0, .int .i64 0] 26) = V := ⟨_, rfl⟩
  have hBV : Below W.heap.size W V := by rw [← hV]; exact (Below.refl _ _).alloc (Nat.le_refl _) _
  have hr : V.heap[W.heap.size]? = some (.cells #[.slice none 0 0, .int .i64 0, .int .i64 0, .int .i64 0, .int .i64 0, .slice none 0 0, .int .i64 0] 26) := by rw [← hV]; exact World.alloc_heap_new _ _
  have hlt : W.heap.size < V.heap.size := (Array.getElem?_eq_some_iff.1 hr).1
  have r0 : V.cell? ⟨W.heap.size, 0, none⟩ = some (.slice none 0 0) := blk_cell hr
  have f0 := blk_frozen hr 0
  have r1 : V.cell? ⟨W.heap.size, 1, none⟩ = some (.int .i64 0) := blk_cell hr
  have f1 := blk_frozen hr 1
  have r2 : V.cell? ⟨W.heap.size, 2, none⟩ = some (.int .i64 0) := blk_cell hr
  have f2 := blk_frozen hr 2
  have r3 : V.cell? ⟨W.heap.size, 3, none⟩ = some (.int .i64 0) := blk_cell hr
  have f3 := blk_frozen hr 3
  have r4 : V.cell? ⟨W.heap.size, 4, none⟩ = some (.int .i64 0) := blk_cell hr
  have f4 := blk_frozen hr 4
  have r5 : V.cell? ⟨W.heap.size, 5, none⟩ = some (.slice none 0 0) := blk_cell hr
  have f5 := blk_frozen hr 5
  have r6 : V.cell? ⟨W.heap.size, 6, none⟩ = some (.int .i64 0) := blk_cell hr
  have f6 := blk_frozen hr 6
  have hVV : Below V.heap.size V V := Below.refl _ _
  have HR := Lib.hid hr
  clear hr
  go_enter Tryd.func61, Tryd.ntmps61
  go_upto_region 1 with fail
  try rw [hV]
  clear hV
  go_wp2_with (first
    | (go_at_call 49; refine (clock_any _ _ _ _).mono ?_; rintro e w1 ⟨rfl, hb1⟩; replace hVV := hVV.trans (hb1.mono hVV.size); clear hb1; simp only [Ck.cells])
    | fail)
  have HB1 := Lib.hid hVV
  have hV1 : Below V.heap.size V (w1.alloc (.cells #[.int .i64 1, .int .i64 66, .int .i64 0, .int .i64 0, .int .i64 26, .int .i64 0] 42)) := HB1.out.alloc HB1.out.size _
  have hk1 := slOf_new w1 42 3 (ckCells [⟨1, 66, 0⟩, ⟨0, 26, 0⟩]) (by intro r hr; simp [ckCells, Ck.cells] at hr; rcases hr with rfl | rfl <;> rfl) (by simp [ckCells, maxLen])
  have HK1 := Lib.hid (show SlOf (w1.alloc (.cells #[.int .i64 1, .int .i64 66, .int .i64 0, .int .i64 0, .int .i64 26, .int .i64 0] 42)) (w1.alloc (.cells #[.int .i64 1, .int .i64 66, .int .i64 0, .int .i64 0, .int .i64 26, .int .i64 0] 42)).heap.size 3 (.slice (some ⟨w1.heap.size, 0, none⟩) 2 2) (ckCells [⟨1, 66, 0⟩, ⟨0, 26, 0⟩]) by rw [World.size_alloc]; exact hk1)
  clear hk1
  go_wp2_with (first
    | (go_at_call 60; refine (book_any 62 (some ⟨w1.heap.size, 0, none⟩) 2 2 _).mono ?_; rintro e w' ⟨g, rfl, hb', hgv, hs⟩; have HBB := Lib.hid hb'; have hb := hV1.trans (hb'.mono hV1.size); have hk := (bcell hb).1; have hf := (bcell hb).2; have HB := Lib.hid hb; have HS := Lib.hid hs; clear hb hs hb')
    | fail)
  obtain ⟨k7, hBZ, hZz⟩ := stored7 ((HB.out.block _ hlt).trans HR.out) (.slice (some ⟨g, 0, none⟩) 2 2) (.int .i64 3) (.int .i64 0) (.int .i64 2) (.int .i64 6) (.slice (some ⟨w1.heap.size, 0, none⟩) 2 2) (.int .i64 5) (hBV.trans (HB.out.mono hBV.size)) (Nat.le_refl W.heap.size)
  have hkeep : ∀ k, k ≠ W.heap.size → ((((((((w'.setCell ⟨W.heap.size, 0, none⟩ (.slice (some ⟨g, 0, none⟩) 2 2)).setCell ⟨W.heap.size, 1, none⟩ (.int .i64 3)).setCell ⟨W.heap.size, 2, none⟩ (.int .i64 0)).setCell ⟨W.heap.size, 3, none⟩ (.int .i64 2)).setCell
    ⟨W.heap.size, 4, none⟩ (.int .i64 6)).setCell ⟨W.heap.size, 5, none⟩ (.slice (some ⟨w1.heap.size, 0, none⟩) 2 2)).setCell ⟨W.heap.size, 6, none⟩ (.int .i64 5)).heap[k]? = w'.heap[k]?) := fun k hk =>
    (Below.heap_setCell _ _ _ _ hk).trans ((Below.heap_setCell _ _ _ _ hk).trans ((Below.heap_setCell _ _ _ _ hk).trans ((Below.heap_setCell _ _ _ _ hk).trans ((Below.heap_setCell _ _ _ _ hk).trans ((Below.heap_setCell _ _ _ _ hk).trans (Below.heap_setCell _ _ _ _ hk))))))
  generalize ((((((w'.setCell ⟨W.heap.size, 0, none⟩ (.slice (some ⟨g, 0, none⟩) 2 2)).setCell ⟨W.heap.size, 1, none⟩ (.int .i64 3)).setCell ⟨W.heap.size, 2, none⟩ (.int .i64 0)).setCell ⟨W.heap.size, 3, none⟩ (.int .i64 2)).setCell
    ⟨W.heap.size, 4, none⟩ (.int .i64 6)).setCell ⟨W.heap.size, 5, none⟩ (.slice (some ⟨w1.heap.size, 0, none⟩) 2 2)).setCell ⟨W.heap.size, 6, none⟩ (.int .i64 5) = Y at k7 hBZ hZz hkeep ⊢
  have c0 : Y.cell? ⟨W.heap.size, 0, none⟩ = some (.slice (some ⟨g, 0, none⟩) 2 2) := blk_cell k7
  have c1 : Y.cell? ⟨W.heap.size, 1, none⟩ = some (.int .i64 3) := blk_cell k7
  have c2 : Y.cell? ⟨W.heap.size, 2, none⟩ = some (.int .i64 0) := blk_cell k7
  have c3 : Y.cell? ⟨W.heap.size, 3, none⟩ = some (.int .i64 2) := blk_cell k7
  have c4 : Y.cell? ⟨W.heap.size, 4, none⟩ = some (.int .i64 6) := blk_cell k7
  have c5 : Y.cell? ⟨W.heap.size, 5, none⟩ = some (.slice (some ⟨w1.heap.size, 0, none⟩) 2 2) := blk_cell k7
  have c6 : Y.cell? ⟨W.heap.size, 6, none⟩ = some (.int .i64 5) := blk_cell k7
  have hsY : SlOf Y Y.heap.size 7 (.slice (some ⟨g, 0, none⟩) 2 2) (stCells (bookB 62 [⟨1, 66, 0⟩, ⟨0, 26, 0⟩]).sts) := by
    obtain ⟨a, cap, e, h1, h2, h3, h4⟩ := HS.out
    refine ⟨a, cap, e, h1, h2, h3, fun hp => ?_⟩
    obtain ⟨b, o, e1, hb, hc⟩ := h4 hp
    rw [e1] at e
    injection e with e2 _ _
    injection e2 with e2
    have hbg : g = b := congrArg Addr.block e2
    refine ⟨b, o, e1, by rw [hZz]; exact hb, fun i j r c hi hj => ?_⟩
    exact (World.cell?_of_block (w := w') (a := ⟨b, _, none⟩) (hkeep b (by have := hV1.size; omega))).trans (hc i j r c hi hj)
  have hkY : SlOf Y Y.heap.size 3 (.slice (some ⟨w1.heap.size, 0, none⟩) 2 2) (ckCells [⟨1, 66, 0⟩, ⟨0, 26, 0⟩]) := by
    obtain ⟨a, cap, e, h1, h2, h3, h4⟩ := HK1.out
    refine ⟨a, cap, e, h1, h2, h3, fun hp => ?_⟩
    obtain ⟨b, o, e1, hb, hc⟩ := h4 hp
    rw [e1] at e
    injection e with e2 _ _
    injection e2 with e2
    have hbg : w1.heap.size = b := congrArg Addr.block e2
    have hz1 := HB1.out.size
    refine ⟨b, o, e1, by rw [hZz]; have := HBB.out.size; omega, fun i j r c hi hj => ?_⟩
    exact (World.cell?_of_block (w := w') (a := ⟨b, _, none⟩) (hkeep b (by omega))).trans ((HBB.out.cell (p := ⟨b, _, none⟩) hb).trans (hc i j r c hi hj))
  exact bodyPost_ret (v := .agg #[.slice (some ⟨g, 0, none⟩) 2 2, .int .i64 3, .int .i64 0, .int .i64 2, .int .i64 6, .slice (some ⟨w1.heap.size, 0, none⟩) 2 2, .int .i64 5]) (by simp [results, Tryd.results61, go_sem, c0, c1, c2, c3, c4, c5, c6]) rfl
    ⟨g, w1.heap.size, rfl, hBZ, Nat.le_refl _, hsY, hkY, rfl, rfl⟩
end Go.Proofs.YtbhjfojbjpbdbaaDoor
namespace Go.Proofs.YtbhjfojbjpbdbaaDoor
open Go.RowKit
set_option maxHeartbeats 400000 in
theorem refStage_any (w : World) (b : Bk) (s k : Value) (a : Option Addr) (n : Int) (len cap : Nat) (hs : s = .slice a len cap) (hl : len ≤ maxLen) :
    Calls Tryd.prog 74 #[.agg (b.cells s k).toArray, .int .i64 n] w fun e w' => e = .returned (.bool (within n 0 ((len : Int) - 1))) ∧ Below w.heap.size w w' := by
  subst hs
  unfold maxLen at hl
  simp only [Bk.cells]
  go_enter Tryd.func74, Tryd.ntmps74
  go_wp2_with (go_at_call 45; refine (amid_any _ _ _ _).mono ?_; rintro e w' ⟨rfl, rfl⟩)
  all_goals (go_ret; exact ⟨ret_bool (by simp [*]), (Below.refl _ _).alloc (Nat.le_refl _) _⟩)
set_option maxHeartbeats 1000000 in
theorem refClock_any (w : World) (b : Bk) (s k : Value) (a : Option Addr) (c : Ck) (len cap : Nat) (hs : s = .slice a len cap) (hl : len ≤ maxLen) :
    Calls Tryd.prog 70 #[.agg (b.cells s k).toArray, .agg c.cells.toArray] w fun e w' => e = .returned (.bool (ckOk len c)) ∧ Below w.heap.size w w' := by
  subst hs
  have HL := Lib.hid hl
  clear hl
  obtain ⟨B1, hB1⟩ : ∃ B, within c.st 0 ((len : Int) - 1) = B := ⟨_, rfl⟩
  obtain ⟨B2, hB2⟩ : ∃ B, within c.rd 0 600 = B := ⟨_, rfl⟩
  obtain ⟨B3, hB3⟩ : ∃ B, within c.er 0 5 = B := ⟨_, rfl⟩
  have HB1 := Lib.hid hB1
  have HB2 := Lib.hid hB2
  have HB3 := Lib.hid hB3
  have HK := Lib.hid (show ckOk len c = (B1 && B2 && B3) by unfold ckOk; rw [hB1, hB2, hB3])
  clear hB1 hB2 hB3
  simp only [Bk.cells, Ck.cells]
  cases B1 <;> cases B2 <;> cases B3
  all_goals
    go_enter Tryd.func70, Tryd.ntmps70
    go_wp2_with (first
      | (go_at_call 74; refine (refStage_any _ b _ _ _ _ _ _ rfl HL.out).mono ?_; rintro e w1 ⟨rfl, hb1⟩; rw [HB1.out]; obtain ⟨hc, hf⟩ := bcell hb1)
      | (go_at_call 45; refine (amid_any _ _ _ _).mono ?_; rintro e w' ⟨rfl, rfl⟩; first | rw [HB2.out] | rw [HB3.out]))
    go_ret
    exact ⟨ret_bool HK.out.symm, (((Below.refl _ _).alloc (Nat.le_refl _) _).alloc (by simp) _).trans (hb1.mono (by simp; omega))⟩
theorem stOk_ref {d : Int} {x : St} {z : Bool} (hd : 0 ≤ d) (hz : z = true → d = 0) :
    (within x.due 1 300 && (z || decide (d < x.due)) && spanOk x.dl x.dh 1 90 2 && spanOk x.rl x.rh 0 30 2 && spanOk x.sl x.sh 0 20 1) = stOk d x := by
  unfold stOk
  congr 3
  rw [Bool.eq_iff_iff]
  cases z <;> simp [within] at hz ⊢ <;> omega
def dueB (b : Bk) (k : Nat) : Int := if k = 0 then 0 else (b.sts.map St.due).getD (k - 1) 0
set_option maxRecDepth 100000 in
set_option maxHeartbeats 16000000 in
theorem refcheck_v (w : World) (v : Value) (b : Bk) (h : BookV w w.heap.size v b) :
    Calls Tryd.prog 18 #[v] w fun e w' => e = .returned (.int .i64 (checkS b)) ∧ Below w.heap.size w w' := by
  obtain ⟨s, k, rfl, hs, hk⟩ := h
  obtain ⟨sa, scap, rfl, hq1, hq2, hq3, hq4⟩ := hs
  obtain ⟨ka, kcap, rfl, hk1, hk2, hk3, hk4⟩ := hk
  simp only [stCells, ckCells, List.length_map] at hq1 hk1 hq2 hk2
  simp only [Bk.cells, stCells, ckCells, List.length_map]
  have hls : b.sts.length ≤ maxLen := by omega
  have hlk : b.cks.length ≤ maxLen := by omega
  unfold maxLen at hls hlk
  go_enter Tryd.func18, Tryd.ntmps18
  go_upto_region 1 with fail
  go_cut [3] (fun s3 wx => s3 = .bool (headOk b) ∧ Below w.heap.size w wx ∧ wx.heap.size = w.heap.size + 1 ∧ wx.heap[w.heap.size]? = some (.cells #[Value.slice sa b.sts.length scap, Value.int IntKind.i64 b.wth, Value.int IntKind.i64 b.c0,
      Value.int IntKind.i64 b.c1, Value.int IntKind.i64 b.c2, Value.slice ka b.cks.length kcap,
      Value.int IntKind.i64 b.rate] 26))
  case first =>
    go_wp2_with (go_at_call 45; refine (amid_any _ _ _ _).mono ?_; rintro e w' ⟨rfl, rfl⟩)
    all_goals go_meet
    all_goals exact ⟨by first | (simp [headOk, *]; done) | (simp [headOk, *]; omega), (Below.refl _ _).alloc (Nat.le_refl _) _, by simp, World.alloc_heap_new _ _⟩
  case rest =>
    obtain ⟨rfl, hb1, hz1, hB⟩ := hcut
    have H1 := Lib.hid hq4
    have H2 := Lib.hid hk4
    have H3 := Lib.hid hq3
    have H4 := Lib.hid hk3
    clear hq4 hk4 hq3 hk3
    have hc0 : wc.cell? ⟨w.heap.size, 0, none⟩ = some (.slice sa b.sts.length scap) := by simp [World.cell?, hB]
    have hc1 : wc.cell? ⟨w.heap.size, 1, none⟩ = some (.int .i64 b.wth) := by simp [World.cell?, hB]
    have hc6 : wc.cell? ⟨w.heap.size, 6, none⟩ = some (.int .i64 b.rate) := by simp [World.cell?, hB]
    have hc2 : wc.cell? ⟨w.heap.size, 2, none⟩ = some (.int .i64 b.c0) := by simp [World.cell?, hB]
    have hc3 : wc.cell? ⟨w.heap.size, 3, none⟩ = some (.int .i64 b.c1) := by simp [World.cell?, hB]
    have hc4 : wc.cell? ⟨w.heap.size, 4, none⟩ = some (.int .i64 b.c2) := by simp [World.cell?, hB]
    have hc5 : wc.cell? ⟨w.heap.size, 5, none⟩ = some (.slice ka b.cks.length kcap) := by simp [World.cell?, hB]
    go_wp2_with fail
    go_loopg [3, 4] (b.sts.length) (fun n ok i wr => ∃ (k : Nat) (o : Bool), k ≤ b.sts.length ∧ n = b.sts.length - k ∧ ok = .bool o ∧ i = .int .i64 k ∧ (o && stsOk (dueB b k) (b.sts.drop k)) = (headOk b && stsOk 0 b.sts) ∧ (o = true → 0 ≤ dueB b k) ∧ Below (w.heap.size + 1) wc wr)
    case atStart => exact ⟨0, _, by omega, rfl, rfl, rfl, rfl, fun _ => by simp [dueB], Below.refl _ _⟩
    case round =>
      obtain ⟨k, o, hk, hgk, rfl, rfl, hT, hd, hbr⟩ := hrel
      have HT := Lib.hid hT
      have HGK := Lib.hid hgk
      clear hT hgk
      have e0 : wr.cell? ⟨w.heap.size, 0, none⟩ = some (.slice sa b.sts.length scap) := (hbr.cell (p := ⟨w.heap.size, 0, none⟩) (by show w.heap.size < _; omega)).trans hc0
      by_cases hlt : o = true ∧ k < b.sts.length
      · obtain ⟨ho, hlt⟩ := hlt
        subst ho
        have hd0 := hd rfl
        clear hd
        obtain ⟨x, hx⟩ : ∃ x, b.sts[k]? = some x := ⟨_, List.getElem?_eq_getElem hlt⟩
        obtain ⟨g, q, hsa, hg, hcs⟩ := sl_at H1.out (show (stCells b.sts)[k]? = some x.cells by simp [stCells, hx])
        obtain ⟨d, hdd⟩ : ∃ d, dueB b k = d := ⟨_, rfl⟩
        rw [hdd] at hd0
        obtain ⟨z, hz⟩ : ∃ z, decide (k = 0) = z := ⟨_, rfl⟩
        have HZ0 := Lib.hid (show z = true → d = 0 from fun e => by subst e; have : k = 0 := by simpa using hz
                                                                    subst this; rw [← hdd]; rfl)
        have hkz : ((k : Int) == 0) = z := by rw [← hz, Bool.eq_iff_iff]; simp
        have HKZ := Lib.hid hkz
        have hpr : z = false → wr.cell? ⟨g, q + (k - 1) * 7, none⟩ = some (.int .i64 d) ∧ IntKind.i64.wrap ((k : Int) - 1) = ((k - 1 : Nat) : Int) := fun e => by
          subst e
          have hk0 : 0 < k := by have : ¬ k = 0 := by simpa using hz
                                 omega
          obtain ⟨y, hy⟩ : ∃ y, b.sts[k - 1]? = some y := ⟨_, List.getElem?_eq_getElem (by omega)⟩
          obtain ⟨g', q', hsa', _, hcs'⟩ := sl_at H1.out (show (stCells b.sts)[k - 1]? = some y.cells by simp [stCells, hy])
          rw [hsa] at hsa'
          injection hsa' with h1
          injection h1 with h1 h2
          subst h1; subst h2
          have h3 := hcs' 0 _ rfl
          have h4 : y.due = d := by rw [← hdd]; unfold dueB; rw [if_neg (by omega)]; simp [hy]
          rw [h4] at h3
          exact ⟨(hbr.cell (p := ⟨g, q + (k - 1) * 7, none⟩) (by show g < _; omega)).trans ((hb1.cell (p := ⟨g, q + (k - 1) * 7, none⟩) (by show g < _; omega)).trans h3), by rw [IntWalk.i64_in _ (by omega)]; omega⟩
        have HPR := Lib.hid hpr
        have HX := Lib.hid hx
        have HDD := Lib.hid hdd
        subst hsa
        have hr : ∀ j c, x.cells[j]? = some c → wr.cell? ⟨g, q + k * 7 + j, none⟩ = some c := fun j c hj =>
          (hbr.cell (p := ⟨g, q + k * 7 + j, none⟩) (by show g < _; omega)).trans ((hb1.cell (p := ⟨g, q + k * 7 + j, none⟩) (by show g < _; omega)).trans (hcs j c hj))
        have r0 : wr.cell? ⟨g, q + k * 7, none⟩ = some (.int .i64 x.due) := hr 0 _ rfl
        have r1 : wr.cell? ⟨g, q + k * 7 + 1, none⟩ = some (.int .i64 x.dl) := hr 1 _ rfl
        have r2 : wr.cell? ⟨g, q + k * 7 + 2, none⟩ = some (.int .i64 x.dh) := hr 2 _ rfl
        have r3 : wr.cell? ⟨g, q + k * 7 + 3, none⟩ = some (.int .i64 x.rl) := hr 3 _ rfl
        have r4 : wr.cell? ⟨g, q + k * 7 + 4, none⟩ = some (.int .i64 x.rh) := hr 4 _ rfl
        have r5 : wr.cell? ⟨g, q + k * 7 + 5, none⟩ = some (.int .i64 x.sl) := hr 5 _ rfl
        have r6 : wr.cell? ⟨g, q + k * 7 + 6, none⟩ = some (.int .i64 x.sh) := hr 6 _ rfl
        have hgw : g < w.heap.size := hg
        have hzw : w.heap.size < wr.heap.size := by have := hbr.size; omega
        clear hr hcs hx hz hkz hpr hdd hg
        have hki : (k : Int) < (b.sts.length : Int) := by omega
        go_upto_region 6 with fail
        obtain ⟨W0, hW0⟩ : ∃ W0, wr.alloc (Obj.cells #[Value.int IntKind.i64 x.due, Value.int IntKind.i64 x.dl, Value.int IntKind.i64 x.dh, Value.int IntKind.i64 x.rl, Value.int IntKind.i64 x.rh, Value.int IntKind.i64 x.sl, Value.int IntKind.i64 x.sh] 56) = W0 := ⟨_, rfl⟩
        rw [hW0]
        have g0 : W0.cell? ⟨wr.heap.size, 0, none⟩ = some (.int .i64 x.due) := by rw [← hW0]; simp [World.cell?_alloc_new]
        have g1 : W0.cell? ⟨wr.heap.size, 1, none⟩ = some (.int .i64 x.dl) := by rw [← hW0]; simp [World.cell?_alloc_new]
        have g2 : W0.cell? ⟨wr.heap.size, 2, none⟩ = some (.int .i64 x.dh) := by rw [← hW0]; simp [World.cell?_alloc_new]
        have g3 : W0.cell? ⟨wr.heap.size, 3, none⟩ = some (.int .i64 x.rl) := by rw [← hW0]; simp [World.cell?_alloc_new]
        have g4 : W0.cell? ⟨wr.heap.size, 4, none⟩ = some (.int .i64 x.rh) := by rw [← hW0]; simp [World.cell?_alloc_new]
        have g5 : W0.cell? ⟨wr.heap.size, 5, none⟩ = some (.int .i64 x.sl) := by rw [← hW0]; simp [World.cell?_alloc_new]
        have g6 : W0.cell? ⟨wr.heap.size, 6, none⟩ = some (.int .i64 x.sh) := by rw [← hW0]; simp [World.cell?_alloc_new]
        have hz0 : wr.heap.size < W0.heap.size := by rw [← hW0]; simp
        have hb0w : Below wr.heap.size wr W0 := by rw [← hW0]; exact (Below.refl _ _).alloc (Nat.le_refl _) _
        have m0 : W0.cell? ⟨w.heap.size, 0, none⟩ = some (.slice (some ⟨g, q, none⟩) b.sts.length scap) := (hb0w.cell (p := ⟨w.heap.size, 0, none⟩) hzw).trans e0
        have HPW := Lib.hid (show z = false → ∃ kp : Nat, W0.cell? ⟨g, q + kp * 7, none⟩ = some (.int .i64 d) ∧ IntKind.i64.wrap ((k : Int) - 1) = (kp : Int) ∧ (kp : Int) < (b.sts.length : Int) from fun e => ⟨k - 1, (hb0w.cell (p := ⟨g, q + (k - 1) * 7, none⟩) (by show g < _; omega)).trans (HPR.out e).1, (HPR.out e).2, by omega⟩)
        have HbB := Lib.hid (show Below (w.heap.size + 1) wc W0 by rw [← hW0]; exact hbr.alloc (by have := hbr.size; omega) _)
        have l1 : g < W0.heap.size := by omega
        have l2 : w.heap.size < W0.heap.size := by omega
        clear hW0 hb0w e0 r0 r1 r2 r3 r4 r5 r6
        have HST := Lib.hid (stOk_ref (x := x) hd0 HZ0.out)
        obtain ⟨B1, hB1⟩ : ∃ B, within x.due 1 300 = B := ⟨_, rfl⟩
        obtain ⟨C1, hC1⟩ : ∃ B, decide (d < x.due) = B := ⟨_, rfl⟩
        obtain ⟨B2, hB2⟩ : ∃ B, spanOk x.dl x.dh 1 90 2 = B := ⟨_, rfl⟩
        obtain ⟨B3, hB3⟩ : ∃ B, spanOk x.rl x.rh 0 30 2 = B := ⟨_, rfl⟩
        obtain ⟨B4, hB4⟩ : ∃ B, spanOk x.sl x.sh 0 20 1 = B := ⟨_, rfl⟩
        have HB1 := Lib.hid hB1
        have HB2 := Lib.hid hB2
        have HB3 := Lib.hid hB3
        have HB4 := Lib.hid hB4
        have HC1 := Lib.hid hC1
        have HS := Lib.hid (show stOk d x = (B1 && (z || C1) && B2 && B3 && B4) by rw [← HST.out, hB1, hC1, hB2, hB3, hB4])
        have HD0 := Lib.hid hd0
        clear hB1 hB2 hB3 hB4 hC1 hd0
        have key : ∀ (vv : Bool) (w9 : World), vv = stOk d x → Below W0.heap.size W0 w9 → (vv && stsOk (dueB b (k + 1)) (b.sts.drop (k + 1))) = (headOk b && stsOk 0 b.sts) ∧ (vv = true → 0 ≤ dueB b (k + 1)) ∧ Below (w.heap.size + 1) wc w9 := fun vv w9 hv hb9 => by
          have hdx : dueB b (k + 1) = x.due := by unfold dueB; rw [if_neg (by omega)]; simp [HX.out]
          have h1 := HT.out
          have hdr : b.sts.drop k = x :: b.sts.drop (k + 1) := by
            rw [List.drop_eq_getElem_cons hlt]; have h2 := HX.out; rw [List.getElem?_eq_getElem hlt] at h2; cases h2; rfl
          rw [hdr, HDD.out] at h1
          refine ⟨by rw [← h1, hdx, hv]; simp [stsOk], fun e => ?_, HbB.out.trans (hb9.mono (by have := HbB.out.size; omega))⟩
          rw [hdx]
          rw [hv] at e
          simp [stOk, within] at e
          have := HD0.out
          omega
        have KEY := Lib.hid key
        clear key
        have hcs10 : B1 = false ∨ (B1 = true ∧ z = false ∧ C1 = false) ∨ (B1 = true ∧ (z = true ∨ (z = false ∧ C1 = true)) ∧ (B2 = false ∨ (B2 = true ∧ (B3 = false ∨ (B3 = true ∧ (B4 = false ∨ B4 = true)))))) := by
          cases B1 <;> cases z <;> cases C1 <;> cases B2 <;> cases B3 <;> cases B4 <;> simp
        rcases hcs10 with rfl | ⟨rfl, rfl, rfl⟩ | ⟨rfl, rfl | ⟨rfl, rfl⟩, rfl | ⟨rfl, rfl | ⟨rfl, rfl | rfl⟩⟩⟩
        all_goals (try (obtain ⟨kp, m1, m2, m3⟩ := HPW.out rfl))
        all_goals
          have hkz := HKZ.out
          have hcd := HC1.out
          refine wp_region_det (S := fun _ w' => (∀ b o, b < W0.heap.size → w'.cell? ⟨b, o, none⟩ = W0.cell? ⟨b, o, none⟩) ∧ Below W0.heap.size W0 w') (by kernel_rfl) (by kernel_rfl) (hs0 W0) ?_
          repeat
            first
              | (apply det_skip
                 · exact ⟨by rfl, fun L w hN hS => fun _ _ _ => hS⟩)
              | (apply det_cons
                 · refine ⟨by rfl, fun L w hN hS => ?_⟩
                   obtain ⟨hcc, hu⟩ := hS
                   go_simp
                   first
                     | exact ⟨rfl, fun _ _ _ => ⟨hcc, hu⟩⟩
                     | (refine (amid_any _ _ _ _).mono ?_; rintro e w' ⟨rfl, rfl⟩; exact ⟨congrArg (fun z => Ending.returned (.bool z)) HB1.out, fun _ _ _ => ⟨hcc, hu⟩⟩)
                     | (refine (sane_any _ _ _ _ _ (by omega) _).mono ?_; rintro e w' ⟨rfl, hbb⟩; (first | exact ⟨congrArg (fun z => Ending.returned (.bool z)) HB2.out, fun _ _ _ => hs1 hbb ⟨hcc, hu⟩⟩ | exact ⟨congrArg (fun z => Ending.returned (.bool z)) HB3.out, fun _ _ _ => hs1 hbb ⟨hcc, hu⟩⟩ | exact ⟨congrArg (fun z => Ending.returned (.bool z)) HB4.out, fun _ _ _ => hs1 hbb ⟨hcc, hu⟩⟩)))
            try simp only [Act.put, List.setIfInBounds_toArray, List.set_cons_zero, List.set_cons_succ]
          refine det_nil ?_
          rintro L w9 hL ⟨hcc, hu⟩
          have HU := Lib.hid hu
          clear hL hu hcc
          go_wp2_with fail
          obtain ⟨k1, k2, k3⟩ := KEY.out _ _ HS.out.symm HU.out
          go_roundg (b.sts.length - (k + 1))
          case measure => rw [HGK.out]; omega
          case rel => exact ⟨k + 1, _, by omega, rfl, rfl, by go_num, k1, k2, k3⟩
      · have hT1 : o = (headOk b && stsOk 0 b.sts) := by
          have h1 := HT.out
          cases o with
          | false => rw [← h1]; rfl
          | true =>
            have hkl : k = b.sts.length := by
              rcases Nat.lt_or_ge k b.sts.length with h | h
              · exact absurd ⟨rfl, h⟩ hlt
              · omega
            rw [hkl, List.drop_length] at h1
            simpa [stsOk] using h1
        have hnlt : (o && decide ((k : Int) < (b.sts.length : Int))) = false := by
          cases o with
          | false => rfl
          | true =>
            rcases Nat.lt_or_ge k b.sts.length with h | h
            · exact absurd ⟨rfl, h⟩ hlt
            · simp; omega
        have HT1 := Lib.hid hT1
        clear hT1 HT hd
        have e1 : ∀ j, wr.cell? ⟨w.heap.size, j, none⟩ = wc.cell? ⟨w.heap.size, j, none⟩ := fun j => hbr.cell (p := ⟨w.heap.size, j, none⟩) (by show w.heap.size < _; omega)
        have e2 := (e1 2).trans hc2
        have e3 := (e1 3).trans hc3
        have e4 := (e1 4).trans hc4
        have e5 := (e1 5).trans hc5
        clear e1
        have HNL := Lib.hid hlt
        clear hlt
        cases o
        all_goals
          have hnl2 : ∀ (_ : True), True := fun _ => trivial
          clear hnl2
          try (have hkge : ¬ ((k : Int) < (b.sts.length : Int)) := by simpa using hnlt)
          clear hnlt
          go_wp2_with fail
          go_loopg [3, 6] 3 (fun n ok i wx => wr = wx ∧ ∃ (k : Nat) (o' : Bool), k ≤ 3 ∧ n = 3 - k ∧ ok = .bool o' ∧ i = .int .i64 k ∧ (o' && costsFrom b k) = ((headOk b && stsOk 0 b.sts) && costsFrom b 0))
          case atStart => exact ⟨rfl, 0, _, by omega, rfl, rfl, rfl, by rw [← HT1.out]⟩
          case round =>
            obtain ⟨rfl, k2, o2, hk2', hgk, rfl, rfl, hT2⟩ := hrel
            have HT2 := Lib.hid hT2
            have HG := Lib.hid hgk
            clear hT2 hgk
            by_cases hk3 : o2 = true ∧ k2 < 3
            · obtain ⟨ho2, hk3⟩ := hk3
              subst ho2
              have hk3i : (k2 : Int) < 3 := by omega
              have HCF := Lib.hid (costsFrom_succ b k2 hk3)
              have hkk : k2 = 0 ∨ k2 = 1 ∨ k2 = 2 := by omega
              rcases hkk with rfl | rfl | rfl
              all_goals
                go_wp2_with (go_at_call 45; refine (amid_any _ _ _ _).mono ?_; rintro e w' ⟨rfl, rfl⟩)
              · go_roundg 2
                case measure => rw [HG.out]; omega
                case rel => exact ⟨rfl, 1, _, by omega, rfl, rfl, by go_num, by rw [← HT2.out, HCF.out]; simp [at3]⟩
              · go_roundg 1
                case measure => rw [HG.out]; omega
                case rel => exact ⟨rfl, 2, _, by omega, rfl, rfl, by go_num, by rw [← HT2.out, HCF.out]; simp [at3]⟩
              · go_roundg 0
                case measure => rw [HG.out]; omega
                case rel => exact ⟨rfl, 3, _, by omega, rfl, rfl, by go_num, by rw [← HT2.out, HCF.out]; simp [at3]⟩
            · have hT3 : o2 = ((headOk b && stsOk 0 b.sts) && costsOk b) := by
                have h2 := HT2.out
                have h3 : costsFrom b 0 = costsOk b := by simp [costsFrom, costsOk, Bool.and_assoc]
                rw [h3] at h2
                cases o2 with
                | false => rw [← h2]; rfl
                | true =>
                  have : k2 = 3 := by
                    rcases Nat.lt_or_ge k2 3 with h | h
                    · exact absurd ⟨rfl, h⟩ hk3
                    · omega
                  subst this
                  rw [← h2]; simp [costsFrom]
              have hge : o2 = true → ¬ (k2 : Int) < 3 := fun e => by
                subst e
                rcases Nat.lt_or_ge k2 3 with h | h
                · exact absurd ⟨rfl, h⟩ hk3
                · omega
              have HT3 := Lib.hid hT3
              clear hT3 HT2 hk3
              cases o2
              all_goals
                try (have hge' := hge rfl)
                clear hge
                go_wp2_with fail
                go_loopg [3, 7] b.cks.length (fun n ok i wx => ∃ (k : Nat) (o' : Bool), k ≤ b.cks.length ∧ n = b.cks.length - k ∧ ok = .bool o' ∧ i = .int .i64 k ∧ (o' && (b.cks.drop k).all (ckOk b.sts.length)) = (((headOk b && stsOk 0 b.sts) && costsOk b) && b.cks.all (ckOk b.sts.length)) ∧ Below (w.heap.size + 1) wc wx)
                case atStart => exact ⟨0, _, by omega, rfl, rfl, rfl, by rw [← HT3.out]; rfl, hbr⟩
                case round =>
                  clear e2 e3 e4 e5
                  obtain ⟨k3, o3, hk4', hgk, rfl, rfl, hT4, hb3⟩ := hrel
                  have HT4 := Lib.hid hT4
                  have HG2 := Lib.hid hgk
                  clear hT4 hgk
                  have hbx : ∀ j, wr.cell? ⟨w.heap.size, j, none⟩ = wc.cell? ⟨w.heap.size, j, none⟩ := fun j => hb3.cell (p := ⟨w.heap.size, j, none⟩) (by show w.heap.size < _; omega)
                  have b0 := (hbx 0).trans hc0
                  have b1 := (hbx 1).trans hc1
                  have b2 := (hbx 2).trans hc2
                  have b3 := (hbx 3).trans hc3
                  have b4 := (hbx 4).trans hc4
                  have b5 := (hbx 5).trans hc5
                  have b6 := (hbx 6).trans hc6
                  have hzw : w.heap.size < wr.heap.size := by have := hb3.size; omega
                  clear hbx
                  by_cases hlt3 : o3 = true ∧ k3 < b.cks.length
                  · obtain ⟨ho3, hlt3⟩ := hlt3
                    subst ho3
                    have hlt3i : (k3 : Int) < (b.cks.length : Int) := by omega
                    obtain ⟨x, hx⟩ : ∃ x, b.cks[k3]? = some x := ⟨_, List.getElem?_eq_getElem hlt3⟩
                    obtain ⟨g, q, hka, hg, hcs⟩ := sl_at H2.out (show (ckCells b.cks)[k3]? = some x.cells by simp [ckCells, hx])
                    have hdr : (b.cks.drop k3) = x :: b.cks.drop (k3 + 1) := by
                      rw [List.drop_eq_getElem_cons hlt3]; rw [List.getElem?_eq_getElem hlt3] at hx; cases hx; rfl
                    have HD := Lib.hid hdr
                    clear hx hdr
                    subst hka
                    have hr : ∀ j c, x.cells[j]? = some c → wr.cell? ⟨g, q + k3 * 3 + j, none⟩ = some c := fun j c hj =>
                      (hb3.cell (p := ⟨g, q + k3 * 3 + j, none⟩) (by show g < _; omega)).trans ((hb1.cell (p := ⟨g, q + k3 * 3 + j, none⟩) (by show g < _; omega)).trans (hcs j c hj))
                    have r0 : wr.cell? ⟨g, q + k3 * 3, none⟩ = some (.int .i64 x.st) := hr 0 _ rfl
                    have r1 : wr.cell? ⟨g, q + k3 * 3 + 1, none⟩ = some (.int .i64 x.rd) := hr 1 _ rfl
                    have r2 : wr.cell? ⟨g, q + k3 * 3 + 2, none⟩ = some (.int .i64 x.er) := hr 2 _ rfl
                    have l1 : g < wr.heap.size := by omega
                    clear hr hcs
                    go_upto_region 14 with fail
                    refine wp_region_det (S := fun _ w' => (∀ b o, b < wr.heap.size → w'.cell? ⟨b, o, none⟩ = wr.cell? ⟨b, o, none⟩) ∧ Below wr.heap.size wr w') (by kernel_rfl) (by kernel_rfl) (hs0 wr) ?_
                    repeat
                      first
                        | (apply det_skip
                           · exact ⟨by rfl, fun L w hN hS => fun _ _ _ => hS⟩)
                        | (apply det_cons
                           · refine ⟨by rfl, fun L w hN hS => ?_⟩
                             obtain ⟨hcc, hu⟩ := hS
                             go_simp
                             first
                               | exact ⟨rfl, fun _ _ _ => ⟨hcc, hu⟩⟩
                               | (refine (refClock_any _ b _ _ _ x _ _ rfl (by unfold maxLen; omega)).mono ?_; rintro e w' ⟨rfl, hbb⟩; exact ⟨rfl, fun _ _ _ => hs1 hbb ⟨hcc, hu⟩⟩))
                      try simp only [Act.put, List.setIfInBounds_toArray, List.set_cons_zero, List.set_cons_succ]
                    refine det_nil ?_
                    rintro L w9 hL ⟨hcc, hu⟩
                    have HU := Lib.hid hu
                    clear hL hu hcc b0 b1 b2 b3 b4 b5 b6
                    go_wp2_with fail
                    go_roundg (b.cks.length - (k3 + 1))
                    case measure => rw [HG2.out]; omega
                    case rel => exact ⟨k3 + 1, _, by omega, rfl, rfl, by go_num, by rw [← HT4.out, HD.out]; simp, hb3.trans (HU.out.mono (by have := hb3.size; omega))⟩
                  · have hv : o3 = bkOk b := by
                      have h1 := HT4.out
                      have h2 : bkOk b = (((headOk b && stsOk 0 b.sts) && costsOk b) && b.cks.all (ckOk b.sts.length)) := rfl
                      rw [← h2] at h1
                      cases o3 with
                      | false => rw [← h1]; rfl
                      | true =>
                        have hkl : k3 = b.cks.length := by
                          rcases Nat.lt_or_ge k3 b.cks.length with h | h
                          · exact absurd ⟨rfl, h⟩ hlt3
                          · omega
                        rw [hkl, List.drop_length] at h1
                        simpa using h1
                    have hge3 : o3 = true → ¬ (k3 : Int) < (b.cks.length : Int) := fun e => by
                      subst e
                      rcases Nat.lt_or_ge k3 b.cks.length with h | h
                      · exact absurd ⟨rfl, h⟩ hlt3
                      · omega
                    have HV := Lib.hid hv
                    clear hv HT4 hlt3
                    cases o3
                    all_goals
                      try (have hge3' := hge3 rfl)
                      clear hge3
                      go_wp2_with fail
                      go_ret
                      exact ⟨ret_int (by unfold checkS; rw [← HV.out]; rfl), hb1.trans (hb3.mono (by omega))⟩
theorem refcheck_any (W : World) (b : Bk) (n : Nat) (sa ka : Option Addr) (n1 sc n2 kc : Nat) (hv : BookW W n sa ka n1 sc n2 kc b) :
    Calls Tryd.prog 18 #[.agg (b.cells (.slice sa n1 sc) (.slice ka n2 kc)).toArray] W fun e W' => e = .returned (.int .i64 (checkS b)) ∧ Below W.heap.size W W' := refcheck_v W _ b hv.v
end Go.Proofs.YtbhjfojbjpbdbaaDoor
namespace Go.Proofs.YtbhjfojbjpbdbaaDoor
open Go.RowKit
set_option maxRecDepth 100000 in
set_option maxHeartbeats 4000000 in
theorem stage_any (W : World) (b : Bk) (at' : Int) (n : Nat) (sa ka : Option Addr) (n1 sc n2 kc : Nat) (g PA : Nat) (f : Tr → Int) (hv : BookW W n sa ka n1 sc n2 kc b) (hG : Glob W) (hE : Enters g) (hof : isStage b at' = true → bkOk b = true → OfFn W b sa n1 sc g PA f) :
    Calls Tryd.prog 71 #[.agg (b.cells (.slice sa n1 sc) (.slice ka n2 kc)).toArray, .int .i64 at', .func (.func g) #[] #[.pointer (some ⟨PA, 0, none⟩)]] W fun e W' => e = .returned (.tuple #[.agg #[.int .i64 (spanE b (isStage b at') f).1, .int .i64 (spanE b (isStage b at') f).2.1], .int .i64 (spanE b (isStage b at') f).2.2]) ∧ Below W.heap.size W W' := by
  obtain ⟨V, hV⟩ : ∃ V, ((W.alloc (Obj.cells #[.slice sa n1 sc, .int .i64 b.wth, .int .i64 b.c0, .int .i64 b.c1, .int .i64 b.c2, .slice ka n2 kc, .int .i64 b.rate] 26)).alloc (Obj.cells #[Value.func (Fn.func g) #[] #[Value.pointer (some ⟨PA, 0, none⟩)]] 88)).alloc (.cells #[.int .i64 0, .int .i64 0] 32) = V := ⟨_, rfl⟩
  have hBV : Below W.heap.size W V := by rw [← hV]; exact (((Below.refl _ _).alloc (Nat.le_refl _) _).alloc (by simp) _).alloc (by simp; omega) _
  have hb0 : V.heap[W.heap.size]? = some (Obj.cells #[.slice sa n1 sc, .int .i64 b.wth, .int .i64 b.c0, .int .i64 b.c1, .int .i64 b.c2, .slice ka n2 kc, .int .i64 b.rate] 26) := by rw [← hV]; exact (heap_alloc_old _ _ (by simp; omega)).trans ((heap_alloc_old _ _ (by simp)).trans (World.alloc_heap_new _ _))
  have hVz : W.heap.size < V.heap.size := (Array.getElem?_eq_some_iff.1 hb0).1
  have HGV := Lib.hid (hG.below hG.lt hBV)
  have HVB := Lib.hid (hv.below hv.hn hBV)
  have HN := Lib.hid hv.hn
  have c0 : V.cell? ⟨W.heap.size, 0, none⟩ = some (.slice sa n1 sc) := blk_cell hb0
  have c1 : V.cell? ⟨W.heap.size, 1, none⟩ = some (.int .i64 b.wth) := blk_cell hb0
  have c2 : V.cell? ⟨W.heap.size, 2, none⟩ = some (.int .i64 b.c0) := blk_cell hb0
  have c3 : V.cell? ⟨W.heap.size, 3, none⟩ = some (.int .i64 b.c1) := blk_cell hb0
  have c4 : V.cell? ⟨W.heap.size, 4, none⟩ = some (.int .i64 b.c2) := blk_cell hb0
  have c5 : V.cell? ⟨W.heap.size, 5, none⟩ = some (.slice ka n2 kc) := blk_cell hb0
  have c6 : V.cell? ⟨W.heap.size, 6, none⟩ = some (.int .i64 b.rate) := blk_cell hb0
  have hf0 : V.heap[W.heap.size + 1]? = some (Obj.cells #[Value.func (Fn.func g) #[] #[Value.pointer (some ⟨PA, 0, none⟩)]] 88) := by rw [← hV]; refine (heap_alloc_old _ _ (by simp)).trans ?_; have := World.alloc_heap_new (W.alloc (Obj.cells #[.slice sa n1 sc, .int .i64 b.wth, .int .i64 b.c0, .int .i64 b.c1, .int .i64 b.c2, .slice ka n2 kc, .int .i64 b.rate] 26)) (Obj.cells #[Value.func (Fn.func g) #[] #[Value.pointer (some ⟨PA, 0, none⟩)]] 88); rwa [World.size_alloc] at this
  have hr0 : V.heap[W.heap.size + 1 + 1]? = some (.cells #[.int .i64 0, .int .i64 0] 32) := by rw [← hV]; have := World.alloc_heap_new ((W.alloc (Obj.cells #[.slice sa n1 sc, .int .i64 b.wth, .int .i64 b.c0, .int .i64 b.c1, .int .i64 b.c2, .slice ka n2 kc, .int .i64 b.rate] 26)).alloc (Obj.cells #[Value.func (Fn.func g) #[] #[Value.pointer (some ⟨PA, 0, none⟩)]] 88)) (.cells #[.int .i64 0, .int .i64 0] 32); rwa [World.size_alloc, World.size_alloc] at this
  have hVx : W.heap.size + 1 < V.heap.size := (Array.getElem?_eq_some_iff.1 hf0).1
  have hVy : W.heap.size + 1 + 1 < V.heap.size := (Array.getElem?_eq_some_iff.1 hr0).1
  have fb : V.cell? ⟨W.heap.size + 1, 0, none⟩ = some (.func (.func g) #[] #[.pointer (some ⟨PA, 0, none⟩)]) := blk_cell hf0
  have l1 : W.heap.size < V.heap.size + 1 := by omega
  have l2 : W.heap.size ≤ V.heap.size := by omega
  have HB0 := Lib.hid hb0
  have HF0 := Lib.hid hf0
  have HR0 := Lib.hid hr0
  clear hb0 hr0 hf0
  have hn1 : n1 ≤ 9223372036854775807 := by obtain ⟨_, _, e, h1, h2, _⟩ := hv.hs; injection e with _ e2 _; unfold maxLen at h2; omega
  have hwr : IntKind.i64.wrap ((n1 : Int) - 1) = (n1 : Int) - 1 := IntWalk.i64_in _ (by omega)
  have HIS := Lib.hid (show within at' 0 ((n1 : Int) - 1) = isStage b at' by rw [hv.l1]; rfl)
  have HEN := Lib.hid hE
  have HOF := Lib.hid hof
  clear hv hG hE hof hn1
  simp only [Bk.cells]
  go_enter Tryd.func71, Tryd.ntmps71
  go_upto_region 1 with fail
  try rw [hV]
  clear hV
  rename_i Q' K aK
  have hkey : ∀ (P8 : Nat) (X : World) (x : Bk) (sa' ka' ta : Option Addr) (sl' sc' kl' kc' tl tc : Nat) (mo : Option Nat) (u10 u18 u19 : Value) (E : Int), E = askE b (isStage b at') → Below V.heap.size V X → V.heap.size ≤ P8 →
      X.heap[P8]? = some (.cells (x.cells9 (.slice sa' sl' sc') (.slice ka' kl' kc') (.map mo) (.slice ta tl tc)).toArray 79) → (E = 0 → x = b ∧ sa' = sa ∧ sl' = n1 ∧ sc' = sc ∧ SlOf X X.heap.size 7 (.slice ta tl tc) (trCells (truths b))) →
      Exit.then K Q' Exit.normal { tmps := #[.agg #[.slice sa n1 sc, .int .i64 b.wth, .int .i64 b.c0, .int .i64 b.c1, .int .i64 b.c2, .slice ka n2 kc, .int .i64 b.rate], .int .i64 at', .func (.func g) #[] #[.pointer (some ⟨PA, 0, none⟩)],
        .pointer (some ⟨W.heap.size, 0, none⟩), undef, .pointer (some ⟨W.heap.size + 1, 0, none⟩), .pointer (some ⟨W.heap.size + 1 + 1, 0, none⟩), .int .i64 0, .pointer (some ⟨P8, 0, none⟩), .int .i64 E, u10,
        .agg #[.slice sa n1 sc, .int .i64 b.wth, .int .i64 b.c0, .int .i64 b.c1, .int .i64 b.c2, .slice ka n2 kc, .int .i64 b.rate], .int .i64 at', .pointer (some ⟨W.heap.size, 0, none⟩), .slice sa n1 sc, .int .i64 (n1 : Int), .int .i64 ((n1 : Int) - 1),
        .bool (within at' 0 ((n1 : Int) - 1)), u18, u19, .int .i64 E, undef, undef, undef, undef, undef, undef, undef, undef], defers := [] } X := by
    clear c0 c1 c2 c3 c4 c5 c6 hwr fb
    intro P8 X x sa' ka' ta sl' sc' kl' kc' tl tc mo u10 u18 u19 E hE hBX hP8 hC hX
    have hBW := hBV.trans (hBX.mono hBV.size)
    have h5 : X.heap[W.heap.size + 1]? = some (.cells #[.func (.func g) #[] #[.pointer (some ⟨PA, 0, none⟩)]] 88) := (hBX.block _ hVx).trans HF0.out
    have hr : X.heap[W.heap.size + 1 + 1]? = some (.cells #[.int .i64 0, .int .i64 0] 32) := (hBX.block _ hVy).trans HR0.out
    have r0 : X.cell? ⟨W.heap.size + 1 + 1, 0, none⟩ = some (.int .i64 0) := blk_cell hr
    have r1 : X.cell? ⟨W.heap.size + 1 + 1, 1, none⟩ = some (.int .i64 0) := blk_cell hr
    have rf0 := blk_frozen hr 0
    have rf1 := blk_frozen hr 1
    have HRR := Lib.hid hr
    by_cases hE0 : E = 0
    · obtain ⟨rfl, rfl, rfl, rfl, hT⟩ := hX hE0
      have hask : askE x (isStage x at') = 0 := by rw [← hE, hE0]
      have hok : bkOk x = true ∧ isStage x at' = true ∧ (truths x).isEmpty = false := by
        unfold askE at hask
        split at hask
        · rename_i h1
          split at hask
          · rename_i h2
            split at hask
            · cases hask
            · rename_i h3; exact ⟨h1, h2, by simpa using h3⟩
          · cases hask
        · cases hask
      have hS : spanE x (isStage x at') f = (toldLo f (truths x), toldHi f (truths x), 0) := by simp [spanE, hask]
      have hne : truths x ≠ [] := by intro e; rw [e] at hok; simp at hok
      have hfn : FnOf X 97 #[] #[.pointer (some ⟨W.heap.size + 1, 0, none⟩), .pointer (some ⟨P8, 0, none⟩)] f := fun t W1 ht hb1 =>
        stage1_any W W1 x sa' ka' ta sl' sc' kl' kc' tl tc mo t g PA (W.heap.size + 1) P8 f ht (HOF.out hok.2.1 hok.1) HEN.out (hBW.trans (hb1.mono hBW.size)) ((hb1.block _ (by have := hBX.size; omega)).trans h5) ((hb1.block _ (Array.getElem?_eq_some_iff.1 hC).1).trans hC)
      have e0 : X.cell? ⟨P8, 0, none⟩ = some (.slice sa' sl' sc') := blk_cell hC
      have e1 : X.cell? ⟨P8, 1, none⟩ = some (.int .i64 x.wth) := blk_cell hC
      have e2 : X.cell? ⟨P8, 2, none⟩ = some (.int .i64 x.c0) := blk_cell hC
      have e3 : X.cell? ⟨P8, 3, none⟩ = some (.int .i64 x.c1) := blk_cell hC
      have e4 : X.cell? ⟨P8, 4, none⟩ = some (.int .i64 x.c2) := blk_cell hC
      have e5 : X.cell? ⟨P8, 5, none⟩ = some (.slice ka' kl' kc') := blk_cell hC
      have e6 : X.cell? ⟨P8, 6, none⟩ = some (.int .i64 x.rate) := blk_cell hC
      have e7 : X.cell? ⟨P8, 7, none⟩ = some (.map mo) := blk_cell hC
      have e8 : X.cell? ⟨P8, 8, none⟩ = some (.slice ta tl tc) := blk_cell hC
      have hlr : W.heap.size + 1 + 1 < X.heap.size := (Array.getElem?_eq_some_iff.1 hr).1
      have HT := Lib.hid hT
      have HFN := Lib.hid hfn
      have HSS := Lib.hid hS
      have HNE := Lib.hid hne
      have HOK := Lib.hid (truths_ok (sound_of hok.1))
      clear hX hT hfn hS hne hask hok hE h5 hr hC
      subst hE0
      go_wp2_with fail
      refine (told_any X x (.slice sa' sl' sc') (.slice ka' kl' kc') (.map mo) (.slice ta tl tc) (truths x) X.heap.size 97 #[] #[.pointer (some ⟨W.heap.size + 1, 0, none⟩), .pointer (some ⟨P8, 0, none⟩)] f (Nat.le_refl _) HT.out HNE.out HOK.out HFN.out (enters_of Tryd.func97 (by kernel_rfl) rfl)).mono ?_
      rintro e w5 ⟨rfl, hb5⟩
      have hk5 := (bcell hb5).1
      have hf5 := (bcell hb5).2
      have HB5 := Lib.hid hb5
      clear hb5
      go_wp2_with fail
      obtain ⟨k0, k1, hBZ⟩ := stored2 ((HB5.out.block _ hlr).trans HRR.out) (.int .i64 (toldLo f (truths x))) (.int .i64 (toldHi f (truths x))) (hBW.trans (HB5.out.mono hBW.size)) (show W.heap.size ≤ W.heap.size + 1 + 1 by omega)
      generalize (w5.setCell ⟨W.heap.size + 1 + 1, 0, none⟩ (.int .i64 (toldLo f (truths x)))).setCell ⟨W.heap.size + 1 + 1, 1, none⟩ (.int .i64 (toldHi f (truths x))) = Z at k0 k1 hBZ ⊢
      exact bodyPost_ret (v := .tuple #[.agg #[.int .i64 (toldLo f (truths x)), .int .i64 (toldHi f (truths x))], .int .i64 0]) (by simp [results, Tryd.results71, go_sem, k0, k1]) rfl ⟨by rw [HSS.out], hBZ⟩
    · have hS : spanE b (isStage b at') f = (0, 0, E) := by unfold spanE; rw [← hE, if_neg hE0]
      have HSS := Lib.hid hS
      clear hX hS hE hC h5 hr
      go_wp2_with fail
      obtain ⟨k0, k1, hBZ⟩ := stored2 HRR.out (.int .i64 0) (.int .i64 0) hBW (show W.heap.size ≤ W.heap.size + 1 + 1 by omega)
      generalize (X.setCell ⟨W.heap.size + 1 + 1, 0, none⟩ (.int .i64 0)).setCell ⟨W.heap.size + 1 + 1, 1, none⟩ (.int .i64 0) = Z at k0 k1 hBZ ⊢
      exact bodyPost_ret (v := .tuple #[.agg #[.int .i64 0, .int .i64 0], .int .i64 E]) (by simp [results, Tryd.results71, go_sem, k0, k1]) rfl ⟨by rw [HSS.out], hBZ⟩
  clear aK
  have HY1 := Lib.hid (show BookW V.drew n sa ka n1 sc n2 kc b from HVB.out.below HVB.out.hn (Below.refl _ V).drew)
  have HY2 := Lib.hid (show BookW (V.alloc zero79).drew n sa ka n1 sc n2 kc b from HVB.out.below HVB.out.hn ((Below.refl _ V).alloc (Nat.le_refl _) _).drew)
  have HZ1 := Lib.hid (show Glob V.drew from HGV.out.below HGV.out.lt (Below.refl _ V).drew)
  have HZ2 := Lib.hid (show Glob (V.alloc zero79).drew from HGV.out.below HGV.out.lt ((Below.refl _ V).alloc (Nat.le_refl _) _).drew)
  go_region_with (first
    | (go_at_call 66; refine (within_any _ _ _ _).mono ?_; rintro e w1 ⟨rfl, rfl⟩)
    | (go_at_call 80; refine (asked_any _ b _ n sa ka n1 sc n2 kc (by first | exact HY1.out | exact HY2.out) (by first | exact HZ1.out | exact HZ2.out)).mono ?_; rintro e w2 ⟨x, sa', ka', ta, sl', sc', kl', kc', tl, tc, mo, rfl, hb2, hx⟩; have hk1 := (bcell hb2).1; have hk2 := (bcell hb2).2; have HB2 := Lib.hid hb2; have HX := Lib.hid hx; clear hb2 hx; simp only [Bk.cells9]))
  all_goals simp only [Act.put, List.setIfInBounds_toArray]
  all_goals first
    | (obtain ⟨a1, a2, a3, a4⟩ := asked_new HB2.out HX.out; exact hkey _ _ x sa' ka' ta sl' sc' kl' kc' tl tc mo _ _ _ _ (by rw [HIS.out]) a1 a2 a3 a4)
    | (obtain ⟨a1, a2, a3, a4⟩ := asked_old HB2.out HX.out; exact hkey _ _ x sa' ka' ta sl' sc' kl' kc' tl tc mo _ _ _ _ (by rw [HIS.out]) a1 a2 a3 a4)
end Go.Proofs.YtbhjfojbjpbdbaaDoor
