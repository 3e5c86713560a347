/-
  The contracts of stage and of what it calls (package claim). Written by this session; printed by wip/tools/a15.py.
-/
import Derived.Test.YtbhjfojbjpbdbaaDoorK3
import Derived.Shelf.Abstract
namespace Go.Proofs.YtbhjfojbjpbdbaaDoor
open Go.RowKit

set_option maxRecDepth 100000 in
set_option maxHeartbeats 4000000 in
theorem stage_any (W : World) (b : Bk) (at' : Int) (n : Nat) (sa ka : Option Addr) (n1 sc n2 kc : Nat) (g PA : Nat) (f : Tr → Int) (hv : BookW W n sa ka n1 sc n2 kc b) (hG : Glob W) (hE : Enters g) (hof : isStage b at' = true → bkOk b = true → OfFn W b sa n1 sc g PA f) :
    Calls Tryd.prog 71 #[.agg (b.cells (.slice sa n1 sc) (.slice ka n2 kc)).toArray, .int .i64 at', .func (.func g) #[] #[.pointer (some ⟨PA, 0, none⟩)]] W fun e W' => e = .returned (.tuple #[.agg #[.int .i64 (spanE b (isStage b at') f).1, .int .i64 (spanE b (isStage b at') f).2.1], .int .i64 (spanE b (isStage b at') f).2.2]) ∧ Below W.heap.size W W' := by
  obtain ⟨V, hV⟩ : ∃ V, ((W.alloc (Obj.cells #[.slice sa n1 sc, .int .i64 b.wth, .int .i64 b.c0, .int .i64 b.c1, .int .i64 b.c2, .slice ka n2 kc, .int .i64 b.rate] 26)).alloc (Obj.cells #[Value.func (Fn.func g) #[] #[Value.pointer (some ⟨PA, 0, none⟩)]] 88)).alloc (.cells #[.int .i64 0, .int .i64 0] 32) = V := ⟨_, rfl⟩
  have hBV : Below W.heap.size W V := by rw [← hV]; exact (((Below.refl _ _).alloc (Nat.le_refl _) _).alloc (by simp) _).alloc (by simp; omega) _
  have hb0 : V.heap[W.heap.size]? = some (Obj.cells #[.slice sa n1 sc, .int .i64 b.wth, .int .i64 b.c0, .int .i64 b.c1, .int .i64 b.c2, .slice ka n2 kc, .int .i64 b.rate] 26) := by rw [← hV]; exact (heap_alloc_old _ _ (by simp; omega)).trans ((heap_alloc_old _ _ (by simp)).trans (World.alloc_heap_new _ _))
  have hVz : W.heap.size < V.heap.size := (Array.getElem?_eq_some_iff.1 hb0).1
  have HGV := Lib.hid (hG.below hG.lt hBV)
  have HVB := Lib.hid (hv.below hv.hn hBV)
  have HN := Lib.hid hv.hn
  have c0 : V.cell? ⟨W.heap.size, 0, none⟩ = some (.slice sa n1 sc) := blk_cell hb0
  have c1 : V.cell? ⟨W.heap.size, 1, none⟩ = some (.int .i64 b.wth) := blk_cell hb0
  have c2 : V.cell? ⟨W.heap.size, 2, none⟩ = some (.int .i64 b.c0) := blk_cell hb0
  have c3 : V.cell? ⟨W.heap.size, 3, none⟩ = some (.int .i64 b.c1) := blk_cell hb0
  have c4 : V.cell? ⟨W.heap.size, 4, none⟩ = some (.int .i64 b.c2) := blk_cell hb0
  have c5 : V.cell? ⟨W.heap.size, 5, none⟩ = some (.slice ka n2 kc) := blk_cell hb0
  have c6 : V.cell? ⟨W.heap.size, 6, none⟩ = some (.int .i64 b.rate) := blk_cell hb0
  have hf0 : V.heap[W.heap.size + 1]? = some (Obj.cells #[Value.func (Fn.func g) #[] #[Value.pointer (some ⟨PA, 0, none⟩)]] 88) := by rw [← hV]; refine (heap_alloc_old _ _ (by simp)).trans ?_; have := World.alloc_heap_new (W.alloc (Obj.cells #[.slice sa n1 sc, .int .i64 b.wth, .int .i64 b.c0, .int .i64 b.c1, .int .i64 b.c2, .slice ka n2 kc, .int .i64 b.rate] 26)) (Obj.cells #[Value.func (Fn.func g) #[] #[Value.pointer (some ⟨PA, 0, none⟩)]] 88); rwa [World.size_alloc] at this
  have hr0 : V.heap[W.heap.size + 1 + 1]? = some (.cells #[.int .i64 0, .int .i64 0] 32) := by rw [← hV]; have := World.alloc_heap_new ((W.alloc (Obj.cells #[.slice sa n1 sc, .int .i64 b.wth, .int .i64 b.c0, .int .i64 b.c1, .int .i64 b.c2, .slice ka n2 kc, .int .i64 b.rate] 26)).alloc (Obj.cells #[Value.func (Fn.func g) #[] #[Value.pointer (some ⟨PA, 0, none⟩)]] 88)) (.cells #[.int .i64 0, .int .i64 0] 32); rwa [World.size_alloc, World.size_alloc] at this
  have hVx : W.heap.size + 1 < V.heap.size := (Array.getElem?_eq_some_iff.1 hf0).1
  have hVy : W.heap.size + 1 + 1 < V.heap.size := (Array.getElem?_eq_some_iff.1 hr0).1
  have fb : V.cell? ⟨W.heap.size + 1, 0, none⟩ = some (.func (.func g) #[] #[.pointer (some ⟨PA, 0, none⟩)]) := blk_cell hf0
  have l1 : W.heap.size < V.heap.size + 1 := by omega
  have l2 : W.heap.size ≤ V.heap.size := by omega
  have HB0 := Lib.hid hb0
  have HF0 := Lib.hid hf0
  have HR0 := Lib.hid hr0
  clear hb0 hr0 hf0
  have hn1 : n1 ≤ 9223372036854775807 := by obtain ⟨_, _, e, h1, h2, _⟩ := hv.hs; injection e with _ e2 _; unfold maxLen at h2; omega
  have hwr : IntKind.i64.wrap ((n1 : Int) - 1) = (n1 : Int) - 1 := IntWalk.i64_in _ (by omega)
  have HIS := Lib.hid (show within at' 0 ((n1 : Int) - 1) = isStage b at' by rw [hv.l1]; rfl)
  have HEN := Lib.hid hE
  have HOF := Lib.hid hof
  clear hv hG hE hof hn1
  simp only [Bk.cells]
  go_enter Tryd.func71, Tryd.ntmps71
  go_upto_region 1 with fail
  try rw [hV]
  clear hV
  rename_i Q' K aK
  have hkey : ∀ (P8 : Nat) (X : World) (x : Bk) (sa' ka' ta : Option Addr) (sl' sc' kl' kc' tl tc : Nat) (mo : Option Nat) (u10 u18 u19 : Value) (E : Int), E = askE b (isStage b at') → Below V.heap.size V X → V.heap.size ≤ P8 →
      X.heap[P8]? = some (.cells (x.cells9 (.slice sa' sl' sc') (.slice ka' kl' kc') (.map mo) (.slice ta tl tc)).toArray 79) → (E = 0 → x = b ∧ sa' = sa ∧ sl' = n1 ∧ sc' = sc ∧ SlOf X X.heap.size 7 (.slice ta tl tc) (trCells (truths b))) →
      Exit.then K Q' Exit.normal { tmps := #[.agg #[.slice sa n1 sc, .int .i64 b.wth, .int .i64 b.c0, .int .i64 b.c1, .int .i64 b.c2, .slice ka n2 kc, .int .i64 b.rate], .int .i64 at', .func (.func g) #[] #[.pointer (some ⟨PA, 0, none⟩)],
        .pointer (some ⟨W.heap.size, 0, none⟩), undef, .pointer (some ⟨W.heap.size + 1, 0, none⟩), .pointer (some ⟨W.heap.size + 1 + 1, 0, none⟩), .int .i64 0, .pointer (some ⟨P8, 0, none⟩), .int .i64 E, u10,
        .agg #[.slice sa n1 sc, .int .i64 b.wth, .int .i64 b.c0, .int .i64 b.c1, .int .i64 b.c2, .slice ka n2 kc, .int .i64 b.rate], .int .i64 at', .pointer (some ⟨W.heap.size, 0, none⟩), .slice sa n1 sc, .int .i64 (n1 : Int), .int .i64 ((n1 : Int) - 1),
        .bool (within at' 0 ((n1 : Int) - 1)), u18, u19, .int .i64 E, undef, undef, undef, undef, undef, undef, undef, undef], defers := [] } X := by
    clear c0 c1 c2 c3 c4 c5 c6 hwr fb
    intro P8 X x sa' ka' ta sl' sc' kl' kc' tl tc mo u10 u18 u19 E hE hBX hP8 hC hX
    have hBW := hBV.trans (hBX.mono hBV.size)
    have h5 : X.heap[W.heap.size + 1]? = some (.cells #[.func (.func g) #[] #[.pointer (some ⟨PA, 0, none⟩)]] 88) := (hBX.block _ hVx).trans HF0.out
    have hr : X.heap[W.heap.size + 1 + 1]? = some (.cells #[.int .i64 0, .int .i64 0] 32) := (hBX.block _ hVy).trans HR0.out
    have r0 : X.cell? ⟨W.heap.size + 1 + 1, 0, none⟩ = some (.int .i64 0) := blk_cell hr
    have r1 : X.cell? ⟨W.heap.size + 1 + 1, 1, none⟩ = some (.int .i64 0) := blk_cell hr
    have rf0 := blk_frozen hr 0
    have rf1 := blk_frozen hr 1
    have HRR := Lib.hid hr
    by_cases hE0 : E = 0
    · obtain ⟨rfl, rfl, rfl, rfl, hT⟩ := hX hE0
      have hask : askE x (isStage x at') = 0 := by rw [← hE, hE0]
      have hok : bkOk x = true ∧ isStage x at' = true ∧ (truths x).isEmpty = false := by
        unfold askE at hask
        split at hask
        · rename_i h1
          split at hask
          · rename_i h2
            split at hask
            · cases hask
            · rename_i h3; exact ⟨h1, h2, by simpa using h3⟩
          · cases hask
        · cases hask
      have hS : spanE x (isStage x at') f = (toldLo f (truths x), toldHi f (truths x), 0) := by simp [spanE, hask]
      have hne : truths x ≠ [] := by intro e; rw [e] at hok; simp at hok
      have hfn : FnOf X 97 #[] #[.pointer (some ⟨W.heap.size + 1, 0, none⟩), .pointer (some ⟨P8, 0, none⟩)] f := fun t W1 ht hb1 =>
        stage1_any W W1 x sa' ka' ta sl' sc' kl' kc' tl tc mo t g PA (W.heap.size + 1) P8 f ht (HOF.out hok.2.1 hok.1) HEN.out (hBW.trans (hb1.mono hBW.size)) ((hb1.block _ (by have := hBX.size; omega)).trans h5) ((hb1.block _ (Array.getElem?_eq_some_iff.1 hC).1).trans hC)
      have e0 : X.cell? ⟨P8, 0, none⟩ = some (.slice sa' sl' sc') := blk_cell hC
      have e1 : X.cell? ⟨P8, 1, none⟩ = some (.int .i64 x.wth) := blk_cell hC
      have e2 : X.cell? ⟨P8, 2, none⟩ = some (.int .i64 x.c0) := blk_cell hC
      have e3 : X.cell? ⟨P8, 3, none⟩ = some (.int .i64 x.c1) := blk_cell hC
      have e4 : X.cell? ⟨P8, 4, none⟩ = some (.int .i64 x.c2) := blk_cell hC
      have e5 : X.cell? ⟨P8, 5, none⟩ = some (.slice ka' kl' kc') := blk_cell hC
      have e6 : X.cell? ⟨P8, 6, none⟩ = some (.int .i64 x.rate) := blk_cell hC
      have e7 : X.cell? ⟨P8, 7, none⟩ = some (.map mo) := blk_cell hC
      have e8 : X.cell? ⟨P8, 8, none⟩ = some (.slice ta tl tc) := blk_cell hC
      have hlr : W.heap.size + 1 + 1 < X.heap.size := (Array.getElem?_eq_some_iff.1 hr).1
      have HT := Lib.hid hT
      have HFN := Lib.hid hfn
      have HSS := Lib.hid hS
      have HNE := Lib.hid hne
      have HOK := Lib.hid (truths_ok (sound_of hok.1))
      clear hX hT hfn hS hne hask hok hE h5 hr hC
      subst hE0
      go_wp2_with fail
      refine (told_any X x (.slice sa' sl' sc') (.slice ka' kl' kc') (.map mo) (.slice ta tl tc) (truths x) X.heap.size 97 #[] #[.pointer (some ⟨W.heap.size + 1, 0, none⟩), .pointer (some ⟨P8, 0, none⟩)] f (Nat.le_refl _) HT.out HNE.out HOK.out HFN.out (enters_of Tryd.func97 (by kernel_rfl) rfl)).mono ?_
      rintro e w5 ⟨rfl, hb5⟩
      have hk5 := (bcell hb5).1
      have hf5 := (bcell hb5).2
      have HB5 := Lib.hid hb5
      clear hb5
      go_wp2_with fail
      obtain ⟨k0, k1, hBZ⟩ := stored2 ((HB5.out.block _ hlr).trans HRR.out) (.int .i64 (toldLo f (truths x))) (.int .i64 (toldHi f (truths x))) (hBW.trans (HB5.out.mono hBW.size)) (show W.heap.size ≤ W.heap.size + 1 + 1 by omega)
      generalize (w5.setCell ⟨W.heap.size + 1 + 1, 0, none⟩ (.int .i64 (toldLo f (truths x)))).setCell ⟨W.heap.size + 1 + 1, 1, none⟩ (.int .i64 (toldHi f (truths x))) = Z at k0 k1 hBZ ⊢
      exact bodyPost_ret (v := .tuple #[.agg #[.int .i64 (toldLo f (truths x)), .int .i64 (toldHi f (truths x))], .int .i64 0]) (by simp [results, Tryd.results71, go_sem, k0, k1]) rfl ⟨by rw [HSS.out], hBZ⟩
    · have hS : spanE b (isStage b at') f = (0, 0, E) := by unfold spanE; rw [← hE, if_neg hE0]
      have HSS := Lib.hid hS
      clear hX hS hE hC h5 hr
      go_wp2_with fail
      obtain ⟨k0, k1, hBZ⟩ := stored2 HRR.out (.int .i64 0) (.int .i64 0) hBW (show W.heap.size ≤ W.heap.size + 1 + 1 by omega)
      generalize (X.setCell ⟨W.heap.size + 1 + 1, 0, none⟩ (.int .i64 0)).setCell ⟨W.heap.size + 1 + 1, 1, none⟩ (.int .i64 0) = Z at k0 k1 hBZ ⊢
      exact bodyPost_ret (v := .tuple #[.agg #[.int .i64 0, .int .i64 0], .int .i64 E]) (by simp [results, Tryd.results71, go_sem, k0, k1]) rfl ⟨by rw [HSS.out], hBZ⟩
  clear aK
  have HY1 := Lib.hid (show BookW V.drew n sa ka n1 sc n2 kc b from HVB.out.below HVB.out.hn (Below.refl _ V).drew)
  have HY2 := Lib.hid (show BookW (V.alloc zero79).drew n sa ka n1 sc n2 kc b from HVB.out.below HVB.out.hn ((Below.refl _ V).alloc (Nat.le_refl _) _).drew)
  have HZ1 := Lib.hid (show Glob V.drew from HGV.out.below HGV.out.lt (Below.refl _ V).drew)
  have HZ2 := Lib.hid (show Glob (V.alloc zero79).drew from HGV.out.below HGV.out.lt ((Below.refl _ V).alloc (Nat.le_refl _) _).drew)
  go_region_with (first
    | (go_at_call 66; refine (within_any _ _ _ _).mono ?_; rintro e w1 ⟨rfl, rfl⟩)
    | (go_at_call 80; refine (asked_any _ b _ n sa ka n1 sc n2 kc (by first | exact HY1.out | exact HY2.out) (by first | exact HZ1.out | exact HZ2.out)).mono ?_; rintro e w2 ⟨x, sa', ka', ta, sl', sc', kl', kc', tl, tc, mo, rfl, hb2, hx⟩; have hk1 := (bcell hb2).1; have hk2 := (bcell hb2).2; have HB2 := Lib.hid hb2; have HX := Lib.hid hx; clear hb2 hx; simp only [Bk.cells9]))
  all_goals simp only [Act.put, List.setIfInBounds_toArray]
  all_goals first
    | (obtain ⟨a1, a2, a3, a4⟩ := asked_new HB2.out HX.out; exact hkey _ _ x sa' ka' ta sl' sc' kl' kc' tl tc mo _ _ _ _ (by rw [HIS.out]) a1 a2 a3 a4)
    | (obtain ⟨a1, a2, a3, a4⟩ := asked_old HB2.out HX.out; exact hkey _ _ x sa' ka' ta sl' sc' kl' kc' tl tc mo _ _ _ _ (by rw [HIS.out]) a1 a2 a3 a4)
end Go.Proofs.YtbhjfojbjpbdbaaDoor
