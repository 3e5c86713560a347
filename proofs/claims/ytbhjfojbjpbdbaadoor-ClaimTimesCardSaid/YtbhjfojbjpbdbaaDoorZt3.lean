/-
  What the claim needs, gathered by a program of this session (wip/tools/trim.py) out of the texts YtbhjfojbjpbdbaaDoorA18, YtbhjfojbjpbdbaaDoorK4, YtbhjfojbjpbdbaaDoorK5, YtbhjfojbjpbdbaaDoorA23, YtbhjfojbjpbdbaaDoorA28, YtbhjfojbjpbdbaaDoorA29: nothing that stands here is proved for its own sake.
-/
import Derived.Test.YtbhjfojbjpbdbaaDoorZt2
import Derived.Test.YtbhjfojbjpbdbaaDoorZt1
import Derived.Shelf.Abstract
import Derived.ArgAppend
import Derived.Lib.SmallJoins
import Derived.Deep.RegionLaw
namespace Go.Proofs.YtbhjfojbjpbdbaaDoor
open Go.RowKit
theorem isStage_nat {b : Bk} {k : Int} (h : isStage b k = true) : ∃ j : Nat, k = (j : Int) ∧ j < b.sts.length := by
  simp only [isStage, within, Bool.and_eq_true, decide_eq_true_iff] at h
  exact ⟨k.toNat, by omega, by omega⟩
set_option maxRecDepth 100000 in
set_option maxHeartbeats 2000000 in
theorem comes_ex (W : World) (b : Bk) (at' : Int) (n : Nat) (sa ka : Option Addr) (n1 sc n2 kc : Nat) (hv : BookW W n sa ka n1 sc n2 kc b) (hG : Glob W) :
    Calls Tryd.prog 19 #[.agg (b.cells (.slice sa n1 sc) (.slice ka n2 kc)).toArray, .int .i64 at'] W fun e W' => e = .returned (.tuple #[.agg #[.int .i64 (comesS b at').1, .int .i64 (comesS b at').2.1], .int .i64 (comesS b at').2.2]) ∧ Below W.heap.size W W' := by
  obtain ⟨V, hV⟩ : ∃ V, ((W.alloc (Obj.cells #[.slice sa n1 sc, .int .i64 b.wth, .int .i64 b.c0, .int .i64 b.c1, .int .i64 b.c2, .slice ka n2 kc, .int .i64 b.rate] 26)).alloc (Obj.cells #[Value.int .i64 at'] 3)).alloc (Obj.cells #[Value.int .i64 0, Value.int .i64 0] 32) = V := ⟨_, rfl⟩
  have hBV : Below W.heap.size W V := by rw [← hV]; exact (((Below.refl _ _).alloc (Nat.le_refl _) _).alloc (by simp) _).alloc (by simp; omega) _
  have hb0 : V.heap[W.heap.size]? = some (Obj.cells #[.slice sa n1 sc, .int .i64 b.wth, .int .i64 b.c0, .int .i64 b.c1, .int .i64 b.c2, .slice ka n2 kc, .int .i64 b.rate] 26) := by rw [← hV]; exact (heap_alloc_old _ _ (by simp; omega)).trans ((heap_alloc_old _ _ (by simp)).trans (World.alloc_heap_new _ _))
  have hVz : W.heap.size < V.heap.size := (Array.getElem?_eq_some_iff.1 hb0).1
  have HGV := Lib.hid (hG.below hG.lt hBV)
  have HVB := Lib.hid (hv.below hv.hn hBV)
  have HN := Lib.hid hv.hn
  have c0 : V.cell? ⟨W.heap.size, 0, none⟩ = some (.slice sa n1 sc) := blk_cell hb0
  have c1 : V.cell? ⟨W.heap.size, 1, none⟩ = some (.int .i64 b.wth) := blk_cell hb0
  have c2 : V.cell? ⟨W.heap.size, 2, none⟩ = some (.int .i64 b.c0) := blk_cell hb0
  have c3 : V.cell? ⟨W.heap.size, 3, none⟩ = some (.int .i64 b.c1) := blk_cell hb0
  have c4 : V.cell? ⟨W.heap.size, 4, none⟩ = some (.int .i64 b.c2) := blk_cell hb0
  have c5 : V.cell? ⟨W.heap.size, 5, none⟩ = some (.slice ka n2 kc) := blk_cell hb0
  have c6 : V.cell? ⟨W.heap.size, 6, none⟩ = some (.int .i64 b.rate) := blk_cell hb0
  have hi0 : V.heap[W.heap.size + 1]? = some (Obj.cells #[Value.int .i64 at'] 3) := by rw [← hV]; refine (heap_alloc_old _ _ (by simp)).trans ?_; have := World.alloc_heap_new (W.alloc (Obj.cells #[.slice sa n1 sc, .int .i64 b.wth, .int .i64 b.c0, .int .i64 b.c1, .int .i64 b.c2, .slice ka n2 kc, .int .i64 b.rate] 26)) (Obj.cells #[Value.int .i64 at'] 3); rwa [World.size_alloc] at this
  have hr0 : V.heap[W.heap.size + 1 + 1]? = some (Obj.cells #[Value.int .i64 0, Value.int .i64 0] 32) := by rw [← hV]; have := World.alloc_heap_new ((W.alloc (Obj.cells #[.slice sa n1 sc, .int .i64 b.wth, .int .i64 b.c0, .int .i64 b.c1, .int .i64 b.c2, .slice ka n2 kc, .int .i64 b.rate] 26)).alloc (Obj.cells #[Value.int .i64 at'] 3)) (Obj.cells #[Value.int .i64 0, Value.int .i64 0] 32); rwa [World.size_alloc, World.size_alloc] at this
  have hVx : W.heap.size + 1 < V.heap.size := (Array.getElem?_eq_some_iff.1 hi0).1
  have hVy : W.heap.size + 1 + 1 < V.heap.size := (Array.getElem?_eq_some_iff.1 hr0).1
  have i0 : V.cell? ⟨W.heap.size + 1, 0, none⟩ = some (.int .i64 at') := blk_cell hi0
  have HR0 := Lib.hid hr0
  have hof : isStage b at' = true → bkOk b = true → OfFn V b sa n1 sc 72 (W.heap.size + 1) (fun t => t.comes at'.toNat) := by
    intro his hok ka0 ta kl kc0 tl tc mo t W2 ht h2
    obtain ⟨j, rfl, hj⟩ := isStage_nat his
    have hAt := (h2.block _ hVx).trans hi0
    exact comes1_any W2 b sa ka0 ta n1 sc kl kc0 tl tc mo t j (W.heap.size + 1) (by have := (bkOk_head hok).1; omega) hAt
  have HOF := Lib.hid hof
  clear hv hG hb0 hi0 hof
  have hz0 : V.cell? ⟨W.heap.size + 1 + 1, 0, none⟩ = some (.int .i64 0) := blk_cell hr0
  have hz1 : V.cell? ⟨W.heap.size + 1 + 1, 1, none⟩ = some (.int .i64 0) := blk_cell hr0
  have hf0 := blk_frozen hr0 0
  have hf1 := blk_frozen hr0 1
  clear hr0
  simp only [Bk.cells]
  go_enter Tryd.func19, Tryd.ntmps19
  go_upto_region 1 with fail
  try rw [hV]
  clear hV
  go_wp2_with fail
  refine (stage_any V b at' n sa ka n1 sc n2 kc 72 (W.heap.size + 1) (fun t => t.comes at'.toNat) HVB.out HGV.out (enters_of Tryd.func72 (by kernel_rfl) rfl) HOF.out).mono ?_
  rintro e w5 ⟨rfl, hb5⟩
  have hk5 := (bcell hb5).1
  have hf5 := (bcell hb5).2
  have HB5 := Lib.hid hb5
  clear hb5
  have HSP := Lib.hid (show comesS b at' = spanE b (isStage b at') (fun t => t.comes at'.toNat) from rfl)
  obtain ⟨S, hS⟩ : ∃ S, spanE b (isStage b at') (fun t => t.comes at'.toNat) = S := ⟨_, rfl⟩
  rw [hS] at HSP ⊢
  clear hS
  obtain ⟨S1, S2, S3⟩ := S
  simp only
  go_wp2_with fail
  obtain ⟨k0, k1, hBZ⟩ := stored2 ((HB5.out.block _ hVy).trans HR0.out) (.int .i64 S1) (.int .i64 S2) (hBV.trans (HB5.out.mono hBV.size)) (show W.heap.size ≤ W.heap.size + 1 + 1 by omega)
  generalize (w5.setCell ⟨W.heap.size + 1 + 1, 0, none⟩ (.int .i64 S1)).setCell ⟨W.heap.size + 1 + 1, 1, none⟩ (.int .i64 S2) = Z at k0 k1 hBZ ⊢
  exact bodyPost_ret (v := .tuple #[.agg #[.int .i64 S1, .int .i64 S2], .int .i64 S3]) (by simp [results, Tryd.results19, go_sem, k0, k1]) rfl ⟨by rw [HSP.out], hBZ⟩
set_option maxRecDepth 100000 in
set_option maxHeartbeats 2000000 in
theorem late_ex (W : World) (b : Bk) (at' : Int) (n : Nat) (sa ka : Option Addr) (n1 sc n2 kc : Nat) (hv : BookW W n sa ka n1 sc n2 kc b) (hG : Glob W) :
    Calls Tryd.prog 21 #[.agg (b.cells (.slice sa n1 sc) (.slice ka n2 kc)).toArray, .int .i64 at'] W fun e W' => e = .returned (.tuple #[.agg #[.int .i64 (lateS b at').1, .int .i64 (lateS b at').2.1], .int .i64 (lateS b at').2.2]) ∧ Below W.heap.size W W' := by
  obtain ⟨V, hV⟩ : ∃ V, ((W.alloc (Obj.cells #[.slice sa n1 sc, .int .i64 b.wth, .int .i64 b.c0, .int .i64 b.c1, .int .i64 b.c2, .slice ka n2 kc, .int .i64 b.rate] 26)).alloc (Obj.cells #[Value.int .i64 at'] 3)).alloc (Obj.cells #[Value.int .i64 0, Value.int .i64 0] 32) = V := ⟨_, rfl⟩
  have hBV : Below W.heap.size W V := by rw [← hV]; exact (((Below.refl _ _).alloc (Nat.le_refl _) _).alloc (by simp) _).alloc (by simp; omega) _
  have hb0 : V.heap[W.heap.size]? = some (Obj.cells #[.slice sa n1 sc, .int .i64 b.wth, .int .i64 b.c0, .int .i64 b.c1, .int .i64 b.c2, .slice ka n2 kc, .int .i64 b.rate] 26) := by rw [← hV]; exact (heap_alloc_old _ _ (by simp; omega)).trans ((heap_alloc_old _ _ (by simp)).trans (World.alloc_heap_new _ _))
  have hVz : W.heap.size < V.heap.size := (Array.getElem?_eq_some_iff.1 hb0).1
  have HGV := Lib.hid (hG.below hG.lt hBV)
  have HVB := Lib.hid (hv.below hv.hn hBV)
  have HN := Lib.hid hv.hn
  have c0 : V.cell? ⟨W.heap.size, 0, none⟩ = some (.slice sa n1 sc) := blk_cell hb0
  have c1 : V.cell? ⟨W.heap.size, 1, none⟩ = some (.int .i64 b.wth) := blk_cell hb0
  have c2 : V.cell? ⟨W.heap.size, 2, none⟩ = some (.int .i64 b.c0) := blk_cell hb0
  have c3 : V.cell? ⟨W.heap.size, 3, none⟩ = some (.int .i64 b.c1) := blk_cell hb0
  have c4 : V.cell? ⟨W.heap.size, 4, none⟩ = some (.int .i64 b.c2) := blk_cell hb0
  have c5 : V.cell? ⟨W.heap.size, 5, none⟩ = some (.slice ka n2 kc) := blk_cell hb0
  have c6 : V.cell? ⟨W.heap.size, 6, none⟩ = some (.int .i64 b.rate) := blk_cell hb0
  have hi0 : V.heap[W.heap.size + 1]? = some (Obj.cells #[Value.int .i64 at'] 3) := by rw [← hV]; refine (heap_alloc_old _ _ (by simp)).trans ?_; have := World.alloc_heap_new (W.alloc (Obj.cells #[.slice sa n1 sc, .int .i64 b.wth, .int .i64 b.c0, .int .i64 b.c1, .int .i64 b.c2, .slice ka n2 kc, .int .i64 b.rate] 26)) (Obj.cells #[Value.int .i64 at'] 3); rwa [World.size_alloc] at this
  have hr0 : V.heap[W.heap.size + 1 + 1]? = some (Obj.cells #[Value.int .i64 0, Value.int .i64 0] 32) := by rw [← hV]; have := World.alloc_heap_new ((W.alloc (Obj.cells #[.slice sa n1 sc, .int .i64 b.wth, .int .i64 b.c0, .int .i64 b.c1, .int .i64 b.c2, .slice ka n2 kc, .int .i64 b.rate] 26)).alloc (Obj.cells #[Value.int .i64 at'] 3)) (Obj.cells #[Value.int .i64 0, Value.int .i64 0] 32); rwa [World.size_alloc, World.size_alloc] at this
  have hVx : W.heap.size + 1 < V.heap.size := (Array.getElem?_eq_some_iff.1 hi0).1
  have hVy : W.heap.size + 1 + 1 < V.heap.size := (Array.getElem?_eq_some_iff.1 hr0).1
  have i0 : V.cell? ⟨W.heap.size + 1, 0, none⟩ = some (.int .i64 at') := blk_cell hi0
  have HR0 := Lib.hid hr0
  have hof : isStage b at' = true → bkOk b = true → OfFn V b sa n1 sc 76 (W.heap.size + 1) (lateT b at'.toNat) := by
    intro his hok ka0 ta kl kc0 tl tc mo t W2 ht h2
    obtain ⟨j, rfl, hj⟩ := isStage_nat his
    have hAt := (h2.block _ hVx).trans hi0
    exact late1_any W2 b sa ka0 ta n1 sc kl kc0 tl tc n mo t j (W.heap.size + 1) hj (bkOk_head hok).1.2 (Nat.le_trans HVB.out.hn h2.size) (HVB.out.hs.below HVB.out.hn h2) ht (by have := due_bd hok j; omega) hAt
  have HOF := Lib.hid hof
  clear hv hG hb0 hi0 hof
  have hz0 : V.cell? ⟨W.heap.size + 1 + 1, 0, none⟩ = some (.int .i64 0) := blk_cell hr0
  have hz1 : V.cell? ⟨W.heap.size + 1 + 1, 1, none⟩ = some (.int .i64 0) := blk_cell hr0
  have hf0 := blk_frozen hr0 0
  have hf1 := blk_frozen hr0 1
  clear hr0
  simp only [Bk.cells]
  go_enter Tryd.func21, Tryd.ntmps21
  go_upto_region 1 with fail
  try rw [hV]
  clear hV
  go_wp2_with fail
  refine (stage_any V b at' n sa ka n1 sc n2 kc 76 (W.heap.size + 1) (lateT b at'.toNat) HVB.out HGV.out (enters_of Tryd.func76 (by kernel_rfl) rfl) HOF.out).mono ?_
  rintro e w5 ⟨rfl, hb5⟩
  have hk5 := (bcell hb5).1
  have hf5 := (bcell hb5).2
  have HB5 := Lib.hid hb5
  clear hb5
  have HSP := Lib.hid (show lateS b at' = spanE b (isStage b at') (lateT b at'.toNat) from rfl)
  obtain ⟨S, hS⟩ : ∃ S, spanE b (isStage b at') (lateT b at'.toNat) = S := ⟨_, rfl⟩
  rw [hS] at HSP ⊢
  clear hS
  obtain ⟨S1, S2, S3⟩ := S
  simp only
  go_wp2_with fail
  obtain ⟨k0, k1, hBZ⟩ := stored2 ((HB5.out.block _ hVy).trans HR0.out) (.int .i64 S1) (.int .i64 S2) (hBV.trans (HB5.out.mono hBV.size)) (show W.heap.size ≤ W.heap.size + 1 + 1 by omega)
  generalize (w5.setCell ⟨W.heap.size + 1 + 1, 0, none⟩ (.int .i64 S1)).setCell ⟨W.heap.size + 1 + 1, 1, none⟩ (.int .i64 S2) = Z at k0 k1 hBZ ⊢
  exact bodyPost_ret (v := .tuple #[.agg #[.int .i64 S1, .int .i64 S2], .int .i64 S3]) (by simp [results, Tryd.results21, go_sem, k0, k1]) rfl ⟨by rw [HSP.out], hBZ⟩
set_option maxRecDepth 100000 in
set_option maxHeartbeats 2000000 in
theorem rough_ex (W : World) (b : Bk) (at' : Int) (n : Nat) (sa ka : Option Addr) (n1 sc n2 kc : Nat) (hv : BookW W n sa ka n1 sc n2 kc b) (hG : Glob W) :
    Calls Tryd.prog 23 #[.agg (b.cells (.slice sa n1 sc) (.slice ka n2 kc)).toArray, .int .i64 at'] W fun e W' => e = .returned (.tuple #[.agg #[.int .i64 (roughS b at').1, .int .i64 (roughS b at').2.1], .int .i64 (roughS b at').2.2]) ∧ Below W.heap.size W W' := by
  obtain ⟨V, hV⟩ : ∃ V, ((W.alloc (Obj.cells #[.slice sa n1 sc, .int .i64 b.wth, .int .i64 b.c0, .int .i64 b.c1, .int .i64 b.c2, .slice ka n2 kc, .int .i64 b.rate] 26)).alloc (Obj.cells #[Value.int .i64 at'] 3)).alloc (Obj.cells #[Value.int .i64 0, Value.int .i64 0] 32) = V := ⟨_, rfl⟩
  have hBV : Below W.heap.size W V := by rw [← hV]; exact (((Below.refl _ _).alloc (Nat.le_refl _) _).alloc (by simp) _).alloc (by simp; omega) _
  have hb0 : V.heap[W.heap.size]? = some (Obj.cells #[.slice sa n1 sc, .int .i64 b.wth, .int .i64 b.c0, .int .i64 b.c1, .int .i64 b.c2, .slice ka n2 kc, .int .i64 b.rate] 26) := by rw [← hV]; exact (heap_alloc_old _ _ (by simp; omega)).trans ((heap_alloc_old _ _ (by simp)).trans (World.alloc_heap_new _ _))
  have hVz : W.heap.size < V.heap.size := (Array.getElem?_eq_some_iff.1 hb0).1
  have HGV := Lib.hid (hG.below hG.lt hBV)
  have HVB := Lib.hid (hv.below hv.hn hBV)
  have HN := Lib.hid hv.hn
  have c0 : V.cell? ⟨W.heap.size, 0, none⟩ = some (.slice sa n1 sc) := blk_cell hb0
  have c1 : V.cell? ⟨W.heap.size, 1, none⟩ = some (.int .i64 b.wth) := blk_cell hb0
  have c2 : V.cell? ⟨W.heap.size, 2, none⟩ = some (.int .i64 b.c0) := blk_cell hb0
  have c3 : V.cell? ⟨W.heap.size, 3, none⟩ = some (.int .i64 b.c1) := blk_cell hb0
  have c4 : V.cell? ⟨W.heap.size, 4, none⟩ = some (.int .i64 b.c2) := blk_cell hb0
  have c5 : V.cell? ⟨W.heap.size, 5, none⟩ = some (.slice ka n2 kc) := blk_cell hb0
  have c6 : V.cell? ⟨W.heap.size, 6, none⟩ = some (.int .i64 b.rate) := blk_cell hb0
  have hi0 : V.heap[W.heap.size + 1]? = some (Obj.cells #[Value.int .i64 at'] 3) := by rw [← hV]; refine (heap_alloc_old _ _ (by simp)).trans ?_; have := World.alloc_heap_new (W.alloc (Obj.cells #[.slice sa n1 sc, .int .i64 b.wth, .int .i64 b.c0, .int .i64 b.c1, .int .i64 b.c2, .slice ka n2 kc, .int .i64 b.rate] 26)) (Obj.cells #[Value.int .i64 at'] 3); rwa [World.size_alloc] at this
  have hr0 : V.heap[W.heap.size + 1 + 1]? = some (Obj.cells #[Value.int .i64 0, Value.int .i64 0] 32) := by rw [← hV]; have := World.alloc_heap_new ((W.alloc (Obj.cells #[.slice sa n1 sc, .int .i64 b.wth, .int .i64 b.c0, .int .i64 b.c1, .int .i64 b.c2, .slice ka n2 kc, .int .i64 b.rate] 26)).alloc (Obj.cells #[Value.int .i64 at'] 3)) (Obj.cells #[Value.int .i64 0, Value.int .i64 0] 32); rwa [World.size_alloc, World.size_alloc] at this
  have hVx : W.heap.size + 1 < V.heap.size := (Array.getElem?_eq_some_iff.1 hi0).1
  have hVy : W.heap.size + 1 + 1 < V.heap.size := (Array.getElem?_eq_some_iff.1 hr0).1
  have i0 : V.cell? ⟨W.heap.size + 1, 0, none⟩ = some (.int .i64 at') := blk_cell hi0
  have HR0 := Lib.hid hr0
  have hof : isStage b at' = true → bkOk b = true → OfFn V b sa n1 sc 79 (W.heap.size + 1) (fun t => t.rough at'.toNat) := by
    intro his hok ka0 ta kl kc0 tl tc mo t W2 ht h2
    obtain ⟨j, rfl, hj⟩ := isStage_nat his
    have hAt := (h2.block _ hVx).trans hi0
    exact rough1_any W2 b sa ka0 ta n1 sc kl kc0 tl tc mo t j (W.heap.size + 1) (by have := (bkOk_head hok).1; omega) hAt
  have HOF := Lib.hid hof
  clear hv hG hb0 hi0 hof
  have hz0 : V.cell? ⟨W.heap.size + 1 + 1, 0, none⟩ = some (.int .i64 0) := blk_cell hr0
  have hz1 : V.cell? ⟨W.heap.size + 1 + 1, 1, none⟩ = some (.int .i64 0) := blk_cell hr0
  have hf0 := blk_frozen hr0 0
  have hf1 := blk_frozen hr0 1
  clear hr0
  simp only [Bk.cells]
  go_enter Tryd.func23, Tryd.ntmps23
  go_upto_region 1 with fail
  try rw [hV]
  clear hV
  go_wp2_with fail
  refine (stage_any V b at' n sa ka n1 sc n2 kc 79 (W.heap.size + 1) (fun t => t.rough at'.toNat) HVB.out HGV.out (enters_of Tryd.func79 (by kernel_rfl) rfl) HOF.out).mono ?_
  rintro e w5 ⟨rfl, hb5⟩
  have hk5 := (bcell hb5).1
  have hf5 := (bcell hb5).2
  have HB5 := Lib.hid hb5
  clear hb5
  have HSP := Lib.hid (show roughS b at' = spanE b (isStage b at') (fun t => t.rough at'.toNat) from rfl)
  obtain ⟨S, hS⟩ : ∃ S, spanE b (isStage b at') (fun t => t.rough at'.toNat) = S := ⟨_, rfl⟩
  rw [hS] at HSP ⊢
  clear hS
  obtain ⟨S1, S2, S3⟩ := S
  simp only
  go_wp2_with fail
  obtain ⟨k0, k1, hBZ⟩ := stored2 ((HB5.out.block _ hVy).trans HR0.out) (.int .i64 S1) (.int .i64 S2) (hBV.trans (HB5.out.mono hBV.size)) (show W.heap.size ≤ W.heap.size + 1 + 1 by omega)
  generalize (w5.setCell ⟨W.heap.size + 1 + 1, 0, none⟩ (.int .i64 S1)).setCell ⟨W.heap.size + 1 + 1, 1, none⟩ (.int .i64 S2) = Z at k0 k1 hBZ ⊢
  exact bodyPost_ret (v := .tuple #[.agg #[.int .i64 S1, .int .i64 S2], .int .i64 S3]) (by simp [results, Tryd.results23, go_sem, k0, k1]) rfl ⟨by rw [HSP.out], hBZ⟩
end Go.Proofs.YtbhjfojbjpbdbaaDoor
namespace Go.Proofs.YtbhjfojbjpbdbaaDoor
open Go.RowKit
theorem askE_zero {b : Bk} {is : Bool} (h : askE b is = 0) : bkOk b = true ∧ is = true ∧ truths b ≠ [] := by
  unfold askE at h
  split at h
  · rename_i h1
    split at h
    · rename_i h2
      split at h
      · cases h
      · rename_i h3; exact ⟨h1, h2, fun e => h3 (by rw [e]; rfl)⟩
    · cases h
  · cases h
set_option maxRecDepth 100000 in
set_option maxHeartbeats 2000000 in
theorem owes_ex (W : World) (b : Bk) (n : Nat) (sa ka : Option Addr) (n1 sc n2 kc : Nat) (hv : BookW W n sa ka n1 sc n2 kc b) (hG : Glob W) :
    Calls Tryd.prog 30 #[.agg (b.cells (.slice sa n1 sc) (.slice ka n2 kc)).toArray] W fun e W' => e = .returned (.tuple #[.agg #[.int .i64 (owesS b).1, .int .i64 (owesS b).2.1], .int .i64 (owesS b).2.2]) ∧ Below W.heap.size W W' := by
  obtain ⟨V, hV⟩ : ∃ V, (W.alloc (Obj.cells #[.slice sa n1 sc, .int .i64 b.wth, .int .i64 b.c0, .int .i64 b.c1, .int .i64 b.c2, .slice ka n2 kc, .int .i64 b.rate] 26)).alloc (.cells #[.int .i64 0, .int .i64 0] 32) = V := ⟨_, rfl⟩
  have hBV : Below W.heap.size W V := by rw [← hV]; exact ((Below.refl _ _).alloc (Nat.le_refl _) _).alloc (by simp) _
  have hb0 : V.heap[W.heap.size]? = some (Obj.cells #[.slice sa n1 sc, .int .i64 b.wth, .int .i64 b.c0, .int .i64 b.c1, .int .i64 b.c2, .slice ka n2 kc, .int .i64 b.rate] 26) := by rw [← hV]; exact (heap_alloc_old _ _ (by simp)).trans (World.alloc_heap_new _ _)
  have hVz : W.heap.size < V.heap.size := (Array.getElem?_eq_some_iff.1 hb0).1
  have HGV := Lib.hid (hG.below hG.lt hBV)
  have HVB := Lib.hid (hv.below hv.hn hBV)
  have HN := Lib.hid hv.hn
  have c0 : V.cell? ⟨W.heap.size, 0, none⟩ = some (.slice sa n1 sc) := blk_cell hb0
  have c1 : V.cell? ⟨W.heap.size, 1, none⟩ = some (.int .i64 b.wth) := blk_cell hb0
  have c2 : V.cell? ⟨W.heap.size, 2, none⟩ = some (.int .i64 b.c0) := blk_cell hb0
  have c3 : V.cell? ⟨W.heap.size, 3, none⟩ = some (.int .i64 b.c1) := blk_cell hb0
  have c4 : V.cell? ⟨W.heap.size, 4, none⟩ = some (.int .i64 b.c2) := blk_cell hb0
  have c5 : V.cell? ⟨W.heap.size, 5, none⟩ = some (.slice ka n2 kc) := blk_cell hb0
  have c6 : V.cell? ⟨W.heap.size, 6, none⟩ = some (.int .i64 b.rate) := blk_cell hb0
  have hr0 : V.heap[W.heap.size + 1]? = some (.cells #[.int .i64 0, .int .i64 0] 32) := by rw [← hV]; have := World.alloc_heap_new (W.alloc (Obj.cells #[.slice sa n1 sc, .int .i64 b.wth, .int .i64 b.c0, .int .i64 b.c1, .int .i64 b.c2, .slice ka n2 kc, .int .i64 b.rate] 26)) (.cells #[.int .i64 0, .int .i64 0] 32); rwa [World.size_alloc] at this
  have hVy : W.heap.size + 1 < V.heap.size := (Array.getElem?_eq_some_iff.1 hr0).1
  have HR0 := Lib.hid hr0
  clear hr0
  have HL1 := Lib.hid hv.l1
  clear hv hG hb0
  simp only [Bk.cells]
  go_enter Tryd.func30, Tryd.ntmps30
  go_upto_region 2 with (first
    | (go_at_call 80; refine (asked_any V b true n sa ka n1 sc n2 kc HVB.out HGV.out).mono ?_; rintro e w2 ⟨x, sa', ka', ta, sl', sc', kl', kc', tl, tc, mo, rfl, hb2, hx⟩; have HB2 := Lib.hid hb2; have HX := Lib.hid hx; clear hb2 hx; simp only [Bk.cells9])
    | fail)
  obtain ⟨hBX, _, hC, hX⟩ := asked_new (V := V) (w2 := w2) (ka' := ka') (kl' := kl') (kc' := kc') (mo := mo) (x := x) ⟨HB2.out.os, HB2.out.tape, HB2.out.output, HB2.out.size, HB2.out.block⟩ HX.out
  simp only [Bk.cells9] at hBX hC hX
  obtain ⟨X, hXe⟩ : ∃ X, w2.alloc (.cells #[.slice sa' sl' sc', .int .i64 x.wth, .int .i64 x.c0, .int .i64 x.c1, .int .i64 x.c2, .slice ka' kl' kc', .int .i64 x.rate, .map mo, .slice ta tl tc] 79) = X := ⟨_, rfl⟩
  try rw [hXe]
  rw [hXe] at hBX hC hX
  clear hXe HB2 HX
  obtain ⟨P8, hP8⟩ : ∃ P8, w2.heap.size = P8 := ⟨_, rfl⟩
  rw [hP8] at hC ⊢
  clear hP8
  obtain ⟨E, hE⟩ : ∃ E, askE b true = E := ⟨_, rfl⟩
  rw [hE] at hX ⊢
  have hBW := hBV.trans (hBX.mono hBV.size)
  have HC := Lib.hid hC
  clear c0 c1 c2 c3 c4 c5 c6 hC
  have hr : X.heap[W.heap.size + 1]? = some (.cells #[.int .i64 0, .int .i64 0] 32) := (hBX.block _ hVy).trans HR0.out
  have r0 : X.cell? ⟨W.heap.size + 1, 0, none⟩ = some (.int .i64 0) := blk_cell hr
  have r1 : X.cell? ⟨W.heap.size + 1, 1, none⟩ = some (.int .i64 0) := blk_cell hr
  have rf0 := blk_frozen hr 0
  have rf1 := blk_frozen hr 1
  have HRR := Lib.hid hr
  have hlr : W.heap.size + 1 < X.heap.size := Nat.lt_of_lt_of_le hVy hBX.size
  by_cases hE0 : E = 0
  · obtain ⟨rfl, rfl, rfl, rfl, hT⟩ := hX hE0
    have hask : askE x true = 0 := by rw [hE, hE0]
    obtain ⟨hok, _, hne⟩ := askE_zero hask
    have HT := Lib.hid hT
    have HNE := Lib.hid hne
    have HOK := Lib.hid (truths_ok (sound_of hok))
    have HSO := Lib.hid (sound_of hok)
    have HS := Lib.hid ((HVB.out.below (by have := HN.out; omega) hBX).hs)
    have HNX := Lib.hid (show n ≤ X.heap.size from Nat.le_trans HN.out hBW.size)
    have e0 : X.cell? ⟨P8, 0, none⟩ = some (.slice sa' sl' sc') := blk_cell HC.out
    have e1 : X.cell? ⟨P8, 1, none⟩ = some (.int .i64 x.wth) := blk_cell HC.out
    have e2 : X.cell? ⟨P8, 2, none⟩ = some (.int .i64 x.c0) := blk_cell HC.out
    have e3 : X.cell? ⟨P8, 3, none⟩ = some (.int .i64 x.c1) := blk_cell HC.out
    have e4 : X.cell? ⟨P8, 4, none⟩ = some (.int .i64 x.c2) := blk_cell HC.out
    have e5 : X.cell? ⟨P8, 5, none⟩ = some (.slice ka' kl' kc') := blk_cell HC.out
    have e6 : X.cell? ⟨P8, 6, none⟩ = some (.int .i64 x.rate) := blk_cell HC.out
    have e7 : X.cell? ⟨P8, 7, none⟩ = some (.map mo) := blk_cell HC.out
    have e8 : X.cell? ⟨P8, 8, none⟩ = some (.slice ta tl tc) := blk_cell HC.out
    have hfn : FnOf X 84 #[.agg #[.slice sa' sl' sc', .int .i64 x.wth, .int .i64 x.c0, .int .i64 x.c1, .int .i64 x.c2, .slice ka' kl' kc', .int .i64 x.rate, .map mo, .slice ta tl tc]] #[] (owesT x) := fun t W1 ht hb1 =>
      owes_any W1 x (.slice sa' sl' sc') (.slice ka' kl' kc') (.map mo) (.slice ta tl tc) n t (Nat.le_trans HNX.out hb1.size) (HS.out.below HNX.out hb1) (bds_of hok) ht
    have HFN := Lib.hid hfn
    have HSS := Lib.hid (show owesS x = (toldLo (owesT x) (truths x), toldHi (owesT x) (truths x), 0) by simp [owesS, spanE, hask])
    clear hX hE hT hne hask hok hfn hr
    subst hE0
    go_wp2_with fail
    refine (told_any X x (.slice sa' sl' sc') (.slice ka' kl' kc') (.map mo) (.slice ta tl tc) (truths x) X.heap.size 84 #[.agg #[.slice sa' sl' sc', .int .i64 x.wth, .int .i64 x.c0, .int .i64 x.c1, .int .i64 x.c2, .slice ka' kl' kc', .int .i64 x.rate, .map mo, .slice ta tl tc]] #[] (owesT x) (Nat.le_refl _) HT.out HNE.out HOK.out HFN.out (enters_of Tryd.func84 (by kernel_rfl) rfl)).mono ?_
    rintro e w5 ⟨rfl, hb5⟩
    have hk5 := (bcell hb5).1
    have hf5 := (bcell hb5).2
    have HB5 := Lib.hid hb5
    clear hb5
    go_wp2_with fail
    obtain ⟨k0, k1, hBZ⟩ := stored2 ((HB5.out.block _ hlr).trans HRR.out) (.int .i64 (toldLo (owesT x) (truths x))) (.int .i64 (toldHi (owesT x) (truths x))) (hBW.trans (HB5.out.mono hBW.size)) (show W.heap.size ≤ W.heap.size + 1 by omega)
    generalize (w5.setCell ⟨W.heap.size + 1, 0, none⟩ (.int .i64 (toldLo (owesT x) (truths x)))).setCell ⟨W.heap.size + 1, 1, none⟩ (.int .i64 (toldHi (owesT x) (truths x))) = Z at k0 k1 hBZ ⊢
    exact bodyPost_ret (v := .tuple #[.agg #[.int .i64 (toldLo (owesT x) (truths x)), .int .i64 (toldHi (owesT x) (truths x))], .int .i64 0]) (by simp [results, Tryd.results30, go_sem, k0, k1]) rfl ⟨by rw [HSS.out], hBZ⟩
  · have HSS := Lib.hid (show owesS b = (0, 0, E) by unfold owesS spanE; rw [hE, if_neg hE0])
    clear hX hE hr
    go_wp2_with fail
    obtain ⟨k0, k1, hBZ⟩ := stored2 HRR.out (.int .i64 0) (.int .i64 0) hBW (show W.heap.size ≤ W.heap.size + 1 by omega)
    generalize (X.setCell ⟨W.heap.size + 1, 0, none⟩ (.int .i64 0)).setCell ⟨W.heap.size + 1, 1, none⟩ (.int .i64 0) = Z at k0 k1 hBZ ⊢
    exact bodyPost_ret (v := .tuple #[.agg #[.int .i64 0, .int .i64 0], .int .i64 E]) (by simp [results, Tryd.results30, go_sem, k0, k1]) rfl ⟨by rw [HSS.out], hBZ⟩
theorem field32 : ∀ (v0 v1 : Value) (w : World), (Instr.field 32 (.agg #[v0, v1]) 0).run Tryd.prog w = .ok v0 w := by
  intro v0 v1 w
  kernel_rfl
set_option maxHeartbeats 1000000 in
theorem each_any (W : World) (s a : Int) : Calls Tryd.prog 123 #[.agg #[.int .i64 s, .int .i64 a]] W fun e W' => e = .returned (.bool (s == a)) ∧ Below W.heap.size W W' := by
  go_enter Tryd.func123, Tryd.ntmps123
  go_wp2
  go_ret
  exact ⟨by first | rfl | (apply ret_bool; simp), (Below.refl _ _).alloc (Nat.le_refl _) _⟩
set_option maxHeartbeats 1000000 in
theorem some_any (W : World) (s a : Int) : Calls Tryd.prog 125 #[.agg #[.int .i64 s, .int .i64 a]] W fun e W' => e = .returned (.bool (decide (0 < s))) ∧ Below W.heap.size W W' := by
  go_enter Tryd.func125, Tryd.ntmps125
  go_wp2
  go_ret
  exact ⟨by first | rfl | (apply ret_bool; simp), (Below.refl _ _).alloc (Nat.le_refl _) _⟩
set_option maxRecDepth 100000 in
set_option maxHeartbeats 2000000 in
theorem pays_ex (W : World) (b : Bk) (n : Nat) (sa ka : Option Addr) (n1 sc n2 kc : Nat) (hv : BookW W n sa ka n1 sc n2 kc b) (hG : Glob W) :
    Calls Tryd.prog 32 #[.agg (b.cells (.slice sa n1 sc) (.slice ka n2 kc)).toArray] W fun e W' => e = .returned (.tuple #[.int .i64 (paysS b).1, .int .i64 (paysS b).2]) ∧ Below W.heap.size W W' := by
  obtain ⟨V, hV⟩ : ∃ V, W.alloc (Obj.cells #[.slice sa n1 sc, .int .i64 b.wth, .int .i64 b.c0, .int .i64 b.c1, .int .i64 b.c2, .slice ka n2 kc, .int .i64 b.rate] 26) = V := ⟨_, rfl⟩
  have hBV : Below W.heap.size W V := by rw [← hV]; exact (Below.refl _ _).alloc (Nat.le_refl _) _
  have hb0 : V.heap[W.heap.size]? = some (Obj.cells #[.slice sa n1 sc, .int .i64 b.wth, .int .i64 b.c0, .int .i64 b.c1, .int .i64 b.c2, .slice ka n2 kc, .int .i64 b.rate] 26) := by rw [← hV]; exact World.alloc_heap_new _ _
  have hVz : W.heap.size < V.heap.size := (Array.getElem?_eq_some_iff.1 hb0).1
  have HGV := Lib.hid (hG.below hG.lt hBV)
  have HVB := Lib.hid (hv.below hv.hn hBV)
  have HN := Lib.hid hv.hn
  have c0 : V.cell? ⟨W.heap.size, 0, none⟩ = some (.slice sa n1 sc) := blk_cell hb0
  have c1 : V.cell? ⟨W.heap.size, 1, none⟩ = some (.int .i64 b.wth) := blk_cell hb0
  have c2 : V.cell? ⟨W.heap.size, 2, none⟩ = some (.int .i64 b.c0) := blk_cell hb0
  have c3 : V.cell? ⟨W.heap.size, 3, none⟩ = some (.int .i64 b.c1) := blk_cell hb0
  have c4 : V.cell? ⟨W.heap.size, 4, none⟩ = some (.int .i64 b.c2) := blk_cell hb0
  have c5 : V.cell? ⟨W.heap.size, 5, none⟩ = some (.slice ka n2 kc) := blk_cell hb0
  have c6 : V.cell? ⟨W.heap.size, 6, none⟩ = some (.int .i64 b.rate) := blk_cell hb0
  have HL1 := Lib.hid hv.l1
  clear hv hG hb0
  simp only [Bk.cells]
  go_enter Tryd.func32, Tryd.ntmps32
  go_upto_region 2 with (first
    | (go_at_call 80; refine (asked_any V b true n sa ka n1 sc n2 kc HVB.out HGV.out).mono ?_; rintro e w2 ⟨x, sa', ka', ta, sl', sc', kl', kc', tl, tc, mo, rfl, hb2, hx⟩; have HB2 := Lib.hid hb2; have HX := Lib.hid hx; clear hb2 hx; simp only [Bk.cells9])
    | fail)
  obtain ⟨hBX, _, hC, hX⟩ := asked_new (V := V) (w2 := w2) (ka' := ka') (kl' := kl') (kc' := kc') (mo := mo) (x := x) ⟨HB2.out.os, HB2.out.tape, HB2.out.output, HB2.out.size, HB2.out.block⟩ HX.out
  simp only [Bk.cells9] at hBX hC hX
  obtain ⟨X, hXe⟩ : ∃ X, w2.alloc (.cells #[.slice sa' sl' sc', .int .i64 x.wth, .int .i64 x.c0, .int .i64 x.c1, .int .i64 x.c2, .slice ka' kl' kc', .int .i64 x.rate, .map mo, .slice ta tl tc] 79) = X := ⟨_, rfl⟩
  try rw [hXe]
  rw [hXe] at hBX hC hX
  clear hXe HB2 HX
  obtain ⟨P8, hP8⟩ : ∃ P8, w2.heap.size = P8 := ⟨_, rfl⟩
  rw [hP8] at hC ⊢
  clear hP8
  obtain ⟨E, hE⟩ : ∃ E, askE b true = E := ⟨_, rfl⟩
  rw [hE] at hX ⊢
  have hBW := hBV.trans (hBX.mono hBV.size)
  have HC := Lib.hid hC
  clear c0 c1 c2 c3 c4 c5 c6 hC
  have HGX := Lib.hid (HGV.out.below HGV.out.lt hBX)
  by_cases hE0 : E = 0
  · obtain ⟨rfl, rfl, rfl, rfl, hT⟩ := hX hE0
    have hask : askE x true = 0 := by rw [hE, hE0]
    obtain ⟨hok, _, hne⟩ := askE_zero hask
    have HT := Lib.hid hT
    have HNE := Lib.hid hne
    have HOK := Lib.hid (truths_ok (sound_of hok))
    have HSO := Lib.hid (sound_of hok)
    have HS := Lib.hid ((HVB.out.below (by have := HN.out; omega) hBX).hs)
    have HNX := Lib.hid (show n ≤ X.heap.size from Nat.le_trans HN.out hBW.size)
    have e0 : X.cell? ⟨P8, 0, none⟩ = some (.slice sa' sl' sc') := blk_cell HC.out
    have e1 : X.cell? ⟨P8, 1, none⟩ = some (.int .i64 x.wth) := blk_cell HC.out
    have e2 : X.cell? ⟨P8, 2, none⟩ = some (.int .i64 x.c0) := blk_cell HC.out
    have e3 : X.cell? ⟨P8, 3, none⟩ = some (.int .i64 x.c1) := blk_cell HC.out
    have e4 : X.cell? ⟨P8, 4, none⟩ = some (.int .i64 x.c2) := blk_cell HC.out
    have e5 : X.cell? ⟨P8, 5, none⟩ = some (.slice ka' kl' kc') := blk_cell HC.out
    have e6 : X.cell? ⟨P8, 6, none⟩ = some (.int .i64 x.rate) := blk_cell HC.out
    have e7 : X.cell? ⟨P8, 7, none⟩ = some (.map mo) := blk_cell HC.out
    have e8 : X.cell? ⟨P8, 8, none⟩ = some (.slice ta tl tc) := blk_cell HC.out
    have hfn : ∀ W5, Below X.heap.size X W5 → FnOf W5 84 #[.agg #[.slice sa' sl' sc', .int .i64 x.wth, .int .i64 x.c0, .int .i64 x.c1, .int .i64 x.c2, .slice ka' kl' kc', .int .i64 x.rate, .map mo, .slice ta tl tc]] #[] (owesT x) := fun W5 h5 t W1 ht hb1 =>
      owes_any W1 x (.slice sa' sl' sc') (.slice ka' kl' kc') (.map mo) (.slice ta tl tc) n t (Nat.le_trans HNX.out (Nat.le_trans h5.size hb1.size)) ((HS.out.below HNX.out h5).below (Nat.le_trans HNX.out h5.size) hb1) (bds_of hok) ht
    have HFN := Lib.hid hfn
    have HBD := Lib.hid (bds_of hok)
    have HSS := Lib.hid (show paysS x = (if blames x = (truths x).length then toldLo (owesT x) (truths x) else 0, 0) by simp [paysS, hask])
    have kk : X.cell? ⟨0, 1, none⟩ = some (.func (.func 123) #[] #[]) := HGX.out.k1
    have l0 : 0 < X.heap.size := by have := HGX.out.lt; omega
    have l8 : P8 < X.heap.size := (Array.getElem?_eq_some_iff.1 HC.out).1
    clear hX hE hT hne hask hfn hok
    subst hE0
    have HDN := Lib.hid (show X.heap.size ≤ X.drew.heap.size from Nat.le_refl _)
    have HDS := Lib.hid ((HS.out.mono HNX.out).below (Nat.le_refl _) (Below.refl X.heap.size X).drew)
    have HDT := Lib.hid (HT.out.below (Nat.le_refl _) (Below.refl X.heap.size X).drew)
    by_cases hbl : blames x = (truths x).length
    · have hq : (((truths x).countP (blamed x) : Nat) : Int) = (((truths x).length : Nat) : Int) := by unfold blames at hbl; omega
      have HSS2 := Lib.hid (show paysS x = (toldLo (owesT x) (truths x), 0) by rw [HSS.out, if_pos hbl])
      clear hbl
      go_upto_region 4 with fail
      go_region_with (first
        | (go_at_call 81; refine (blame_any _ x (.slice sa' sl' sc') (.slice ka' kl' kc') (.map mo) (.slice ta tl tc) (truths x) X.heap.size HDN.out HDS.out HBD.out HDT.out HOK.out).mono ?_; rintro e w5 ⟨rfl, hb5⟩; have kk5 : w5.cell? ⟨0, 1, none⟩ = some (.func (.func 123) #[] #[]) := (hb5.cell (p := ⟨0, 1, none⟩) l0).trans kk; have HB5 := Lib.hid hb5; clear hb5)
        | (go_at_call 123; refine (each_any _ _ _).mono ?_; rintro e w6 ⟨rfl, hb6⟩; have HB6 := Lib.hid hb6; clear hb6))
      all_goals (
        have h6 : Below X.heap.size X w6 := (((Below.refl X.heap.size X).drew).trans HB5.out).trans (HB6.out.mono HB5.out.size)
        have g0 := (h6.cell (p := ⟨P8, 0, none⟩) l8).trans e0
        have g1 := (h6.cell (p := ⟨P8, 1, none⟩) l8).trans e1
        have g2 := (h6.cell (p := ⟨P8, 2, none⟩) l8).trans e2
        have g3 := (h6.cell (p := ⟨P8, 3, none⟩) l8).trans e3
        have g4 := (h6.cell (p := ⟨P8, 4, none⟩) l8).trans e4
        have g5 := (h6.cell (p := ⟨P8, 5, none⟩) l8).trans e5
        have g6 := (h6.cell (p := ⟨P8, 6, none⟩) l8).trans e6
        have g7 := (h6.cell (p := ⟨P8, 7, none⟩) l8).trans e7
        have g8 := (h6.cell (p := ⟨P8, 8, none⟩) l8).trans e8
        have H6 := Lib.hid h6
        have HFN6 := Lib.hid (HFN.out w6 h6)
        clear h6
        go_wp2_with fail
        refine (told_any w6 x (.slice sa' sl' sc') (.slice ka' kl' kc') (.map mo) (.slice ta tl tc) (truths x) X.heap.size 84 #[.agg #[.slice sa' sl' sc', .int .i64 x.wth, .int .i64 x.c0, .int .i64 x.c1, .int .i64 x.c2, .slice ka' kl' kc', .int .i64 x.rate, .map mo, .slice ta tl tc]] #[] (owesT x) H6.out.size (HT.out.below (Nat.le_refl _) H6.out) HNE.out HOK.out HFN6.out (enters_of Tryd.func84 (by kernel_rfl) rfl)).mono ?_
        rintro e w7 ⟨rfl, hb7⟩
        have HB7 := Lib.hid hb7
        have hfld := field32
        clear hb7
        go_wp2_with fail
        refine bodyPost_ret (results_tmp2 rfl _ _ _) rfl ⟨?_, (hBW.trans (H6.out.mono hBW.size)).trans (HB7.out.mono (Nat.le_trans hBW.size H6.out.size))⟩
        rw [HSS2.out]
        rfl)
    · have hq : ((((truths x).countP (blamed x) : Nat) : Int) == (((truths x).length : Nat) : Int)) = false := by unfold blames at hbl; simp; omega
      have hq2 : ¬ (((truths x).countP (blamed x) : Nat) : Int) = (((truths x).length : Nat) : Int) := by unfold blames at hbl; omega
      have hq3 : ¬ (truths x).countP (blamed x) = (truths x).length := by unfold blames at hbl; omega
      have HSS2 := Lib.hid (show paysS x = (0, 0) by rw [HSS.out, if_neg hbl])
      clear hbl
      go_upto_region 4 with fail
      go_region_with (first
        | (go_at_call 81; refine (blame_any _ x (.slice sa' sl' sc') (.slice ka' kl' kc') (.map mo) (.slice ta tl tc) (truths x) X.heap.size HDN.out HDS.out HBD.out HDT.out HOK.out).mono ?_; rintro e w5 ⟨rfl, hb5⟩; have kk5 : w5.cell? ⟨0, 1, none⟩ = some (.func (.func 123) #[] #[]) := (hb5.cell (p := ⟨0, 1, none⟩) l0).trans kk; have HB5 := Lib.hid hb5; clear hb5)
        | (go_at_call 123; refine (each_any _ _ _).mono ?_; rintro e w6 ⟨rfl, hb6⟩; have HB6 := Lib.hid hb6; clear hb6))
      all_goals (
        have h6 : Below X.heap.size X w6 := (((Below.refl X.heap.size X).drew).trans HB5.out).trans (HB6.out.mono HB5.out.size)
        have H6 := Lib.hid h6
        clear h6
        go_wp2_with fail
        refine bodyPost_ret (results_tmp2 rfl _ _ _) rfl ⟨?_, hBW.trans (H6.out.mono hBW.size)⟩
        rw [HSS2.out]
        rfl)
  · have HSS := Lib.hid (show paysS b = (0, E) by unfold paysS; rw [hE, if_neg hE0])
    clear hX hE
    go_wp2_with fail
    refine bodyPost_ret (results_tmp2 rfl _ _ _) rfl ⟨?_, hBW⟩
    rw [HSS.out]
    rfl
end Go.Proofs.YtbhjfojbjpbdbaaDoor
namespace Go.Proofs.YtbhjfojbjpbdbaaDoor
open Go.RowKit
theorem shl3 {w : Int} (h : 0 ≤ w ∧ w ≤ 2) {s : Nat} (hs : s < 8) : bits BinOp.or IntKind.i64 (s : Int) (wrap64 (2 ^ w.toNat)) = ((s ||| (1 <<< w.toNat) : Nat) : Int) ∧ (s ||| (1 <<< w.toNat)) < 8 := by
  have h1 : w = 0 ∨ w = 1 ∨ w = 2 := by omega
  have h2 : s = 0 ∨ s = 1 ∨ s = 2 ∨ s = 3 ∨ s = 4 ∨ s = 5 ∨ s = 6 ∨ s = 7 := by omega
  rcases h1 with rfl | rfl | rfl <;> rcases h2 with rfl | rfl | rfl | rfl | rfl | rfl | rfl | rfl <;> exact ⟨by kernel_rfl, by decide⟩
set_option maxRecDepth 100000 in
set_option maxHeartbeats 2000000 in
theorem weather_ex (W : World) (b : Bk) (n : Nat) (sa ka : Option Addr) (n1 sc n2 kc : Nat) (hv : BookW W n sa ka n1 sc n2 kc b) (hG : Glob W) :
    Calls Tryd.prog 26 #[.agg (b.cells (.slice sa n1 sc) (.slice ka n2 kc)).toArray] W fun e W' => e = .returned (.tuple #[.int .i64 (weatherS b).1, .int .i64 (weatherS b).2]) ∧ Below W.heap.size W W' := by
  obtain ⟨V, hV⟩ : ∃ V, W.alloc (Obj.cells #[.slice sa n1 sc, .int .i64 b.wth, .int .i64 b.c0, .int .i64 b.c1, .int .i64 b.c2, .slice ka n2 kc, .int .i64 b.rate] 26) = V := ⟨_, rfl⟩
  have hBV : Below W.heap.size W V := by rw [← hV]; exact (Below.refl _ _).alloc (Nat.le_refl _) _
  have hb0 : V.heap[W.heap.size]? = some (Obj.cells #[.slice sa n1 sc, .int .i64 b.wth, .int .i64 b.c0, .int .i64 b.c1, .int .i64 b.c2, .slice ka n2 kc, .int .i64 b.rate] 26) := by rw [← hV]; exact World.alloc_heap_new _ _
  have hVz : W.heap.size < V.heap.size := (Array.getElem?_eq_some_iff.1 hb0).1
  have HGV := Lib.hid (hG.below hG.lt hBV)
  have HVB := Lib.hid (hv.below hv.hn hBV)
  have HN := Lib.hid hv.hn
  have c0 : V.cell? ⟨W.heap.size, 0, none⟩ = some (.slice sa n1 sc) := blk_cell hb0
  have c1 : V.cell? ⟨W.heap.size, 1, none⟩ = some (.int .i64 b.wth) := blk_cell hb0
  have c2 : V.cell? ⟨W.heap.size, 2, none⟩ = some (.int .i64 b.c0) := blk_cell hb0
  have c3 : V.cell? ⟨W.heap.size, 3, none⟩ = some (.int .i64 b.c1) := blk_cell hb0
  have c4 : V.cell? ⟨W.heap.size, 4, none⟩ = some (.int .i64 b.c2) := blk_cell hb0
  have c5 : V.cell? ⟨W.heap.size, 5, none⟩ = some (.slice ka n2 kc) := blk_cell hb0
  have c6 : V.cell? ⟨W.heap.size, 6, none⟩ = some (.int .i64 b.rate) := blk_cell hb0
  have HL1 := Lib.hid hv.l1
  clear hv hG hb0
  simp only [Bk.cells]
  go_enter Tryd.func26, Tryd.ntmps26
  go_upto_region 2 with (first
    | (go_at_call 80; refine (asked_any V b true n sa ka n1 sc n2 kc HVB.out HGV.out).mono ?_; rintro e w2 ⟨x, sa', ka', ta, sl', sc', kl', kc', tl, tc, mo, rfl, hb2, hx⟩; have HB2 := Lib.hid hb2; have HX := Lib.hid hx; clear hb2 hx; simp only [Bk.cells9])
    | fail)
  obtain ⟨hBX, _, hC, hX⟩ := asked_new (V := V) (w2 := w2) (ka' := ka') (kl' := kl') (kc' := kc') (mo := mo) (x := x) ⟨HB2.out.os, HB2.out.tape, HB2.out.output, HB2.out.size, HB2.out.block⟩ HX.out
  simp only [Bk.cells9] at hBX hC hX
  obtain ⟨X, hXe⟩ : ∃ X, w2.alloc (.cells #[.slice sa' sl' sc', .int .i64 x.wth, .int .i64 x.c0, .int .i64 x.c1, .int .i64 x.c2, .slice ka' kl' kc', .int .i64 x.rate, .map mo, .slice ta tl tc] 79) = X := ⟨_, rfl⟩
  try rw [hXe]
  rw [hXe] at hBX hC hX
  clear hXe HB2 HX
  obtain ⟨P8, hP8⟩ : ∃ P8, w2.heap.size = P8 := ⟨_, rfl⟩
  rw [hP8] at hC ⊢
  clear hP8
  obtain ⟨E, hE⟩ : ∃ E, askE b true = E := ⟨_, rfl⟩
  rw [hE] at hX ⊢
  have hBW := hBV.trans (hBX.mono hBV.size)
  have HC := Lib.hid hC
  clear c0 c1 c2 c3 c4 c5 c6 hC
  by_cases hE0 : E = 0
  · obtain ⟨rfl, rfl, rfl, rfl, hT⟩ := hX hE0
    have hask : askE x true = 0 := by rw [hE, hE0]
    obtain ⟨hok, _, hne⟩ := askE_zero hask
    have HT := Lib.hid hT
    have HNE := Lib.hid hne
    have HOK := Lib.hid (truths_ok (sound_of hok))
    have HSO := Lib.hid (sound_of hok)
    have HS := Lib.hid ((HVB.out.below (by have := HN.out; omega) hBX).hs)
    have HNX := Lib.hid (show n ≤ X.heap.size from Nat.le_trans HN.out hBW.size)
    have e0 : X.cell? ⟨P8, 0, none⟩ = some (.slice sa' sl' sc') := blk_cell HC.out
    have e1 : X.cell? ⟨P8, 1, none⟩ = some (.int .i64 x.wth) := blk_cell HC.out
    have e2 : X.cell? ⟨P8, 2, none⟩ = some (.int .i64 x.c0) := blk_cell HC.out
    have e3 : X.cell? ⟨P8, 3, none⟩ = some (.int .i64 x.c1) := blk_cell HC.out
    have e4 : X.cell? ⟨P8, 4, none⟩ = some (.int .i64 x.c2) := blk_cell HC.out
    have e5 : X.cell? ⟨P8, 5, none⟩ = some (.slice ka' kl' kc') := blk_cell HC.out
    have e6 : X.cell? ⟨P8, 6, none⟩ = some (.int .i64 x.rate) := blk_cell HC.out
    have e7 : X.cell? ⟨P8, 7, none⟩ = some (.map mo) := blk_cell HC.out
    have e8 : X.cell? ⟨P8, 8, none⟩ = some (.slice ta tl tc) := blk_cell HC.out
    have HSS := Lib.hid (show weatherS x = (((weathers (truths x) : Nat) : Int), 0) by simp [weatherS, hask])
    have hlen : (truths x).length ≤ 20000 := truths_len (sound_of hok)
    obtain ⟨tl2, htl⟩ : ∃ m, (truths x).length = m := ⟨_, rfl⟩
    have htq : tl = tl2 := by obtain ⟨_, _, e, _⟩ := hT; injection e with _ e2 _; rw [e2, ← htl]; simp [trCells]
    subst htq
    rw [htl] at hlen
    have HTL := Lib.hid htl
    clear hX hE hT hne hask hok htl
    subst hE0
    go_wp2_with fail
    go_loopg [6, 20] tl (fun n st i wx => ∃ (q s : Nat), q ≤ tl ∧ n = tl - q ∧ st = .int .i64 (s : Int) ∧ i = .int .i64 (q : Int) ∧ s < 8 ∧ ((truths x).drop q).foldl (fun s t => s ||| (1 <<< t.w.toNat)) s = weathers (truths x) ∧ Below X.heap.size X wx)
    case atStart => exact ⟨0, 0, by omega, rfl, rfl, rfl, by omega, rfl, Below.refl _ _⟩
    case round =>
      obtain ⟨q, s, hq, hgk, rfl, rfl, hs8, hT2, hbx⟩ := hrel
      have HG2 := Lib.hid hgk
      have HT2 := Lib.hid hT2
      clear hgk hT2
      by_cases hlt : q < tl
      · obtain ⟨t, ht⟩ : ∃ t, (truths x)[q]? = some t := ⟨_, List.getElem?_eq_getElem (by rw [HTL.out]; exact hlt)⟩
        obtain ⟨_, _, e, _, _, _, h4⟩ := HT.out
        obtain ⟨g, p, hta, hg, hcs⟩ := sl_at h4 (show (trCells (truths x))[q]? = some t.cells by simp [trCells, ht])
        rw [hta] at e
        injection e with e1 e2 e3
        subst e1
        have hr : ∀ i c, t.cells[i]? = some c → wr.cell? ⟨g, p + q * 7 + i, none⟩ = some c := fun i c hi => (hbx.cell (p := ⟨g, p + q * 7 + i, none⟩) hg).trans (hcs i c hi)
        have r0 : wr.cell? ⟨g, p + q * 7, none⟩ = some (.int .i64 t.w) := hr 0 _ rfl
        have r1 : wr.cell? ⟨g, p + q * 7 + 1, none⟩ = some (.int .i64 t.a0) := hr 1 _ rfl
        have r2 : wr.cell? ⟨g, p + q * 7 + 2, none⟩ = some (.int .i64 t.a1) := hr 2 _ rfl
        have r3 : wr.cell? ⟨g, p + q * 7 + 3, none⟩ = some (.int .i64 t.a2) := hr 3 _ rfl
        have r4 : wr.cell? ⟨g, p + q * 7 + 4, none⟩ = some (.int .i64 t.b0) := hr 4 _ rfl
        have r5 : wr.cell? ⟨g, p + q * 7 + 5, none⟩ = some (.int .i64 t.b1) := hr 5 _ rfl
        have r6 : wr.cell? ⟨g, p + q * 7 + 6, none⟩ = some (.int .i64 t.b2) := hr 6 _ rfl
        have htw : 0 ≤ t.w ∧ t.w ≤ 2 := (HOK.out t (List.mem_of_getElem? ht)).1
        have hd : (truths x).drop q = t :: (truths x).drop (q + 1) := by
          have hl : q < (truths x).length := by rw [HTL.out]; exact hlt
          rw [List.drop_eq_getElem_cons hl]
          rw [List.getElem?_eq_getElem hl] at ht
          injection ht with ht
          rw [ht]
        have HD := Lib.hid hd
        clear ht h4 hcs hr hd hta
        obtain ⟨hsh, hs9⟩ := shl3 htw hs8
        have HSH := Lib.hid hsh
        clear hsh
        go_wp2_with fail
        go_roundg (tl - (q + 1))
        case measure => rw [HG2.out]; omega
        case rel => exact ⟨q + 1, s ||| (1 <<< t.w.toNat), by omega, rfl, by rw [HSH.out], by go_num, hs9, by rw [← HT2.out, HD.out]; rfl, hbx.alloc hbx.size _⟩
      · have hs2 : s = weathers (truths x) := by have := HT2.out; rw [List.drop_eq_nil_of_le (by rw [HTL.out]; omega)] at this; exact this
        have HS2 := Lib.hid hs2
        clear hs2
        go_wp2_with fail
        refine bodyPost_ret (results_tmp2 rfl _ _ _) rfl ⟨?_, hBW.trans (hbx.mono hBW.size)⟩
        rw [HSS.out, ← HS2.out]
        rfl
  · have HSS := Lib.hid (show weatherS b = (0, E) by unfold weatherS; rw [hE, if_neg hE0])
    clear hX hE
    go_wp2_with fail
    refine bodyPost_ret (results_tmp2 rfl _ _ _) rfl ⟨?_, hBW⟩
    rw [HSS.out]
    rfl
end Go.Proofs.YtbhjfojbjpbdbaaDoor
namespace Go.Proofs.YtbhjfojbjpbdbaaDoor
open Go.RowKit
theorem index102 (f0 f1 : Value) : (∀ w, (Instr.index 102 (.agg #[f0, f1]) (.int .i64 0)).run Tryd.prog w = .ok f0 w) ∧ (∀ w, (Instr.index 102 (.agg #[f0, f1]) (.int .i64 1)).run Tryd.prog w = .ok f1 w) :=
  ⟨fun w => by kernel_rfl, fun w => by kernel_rfl⟩
set_option maxRecDepth 100000 in
set_option maxHeartbeats 2000000 in
theorem blame_ex (W : World) (b : Bk) (n : Nat) (sa ka : Option Addr) (n1 sc n2 kc : Nat) (hv : BookW W n sa ka n1 sc n2 kc b) (hG : Glob W) :
    Calls Tryd.prog 28 #[.agg (b.cells (.slice sa n1 sc) (.slice ka n2 kc)).toArray] W fun e W' => e = .returned (.tuple #[.int .i64 (blameS b).1, .int .i64 (blameS b).2]) ∧ Below W.heap.size W W' := by
  obtain ⟨V, hV⟩ : ∃ V, W.alloc (Obj.cells #[.slice sa n1 sc, .int .i64 b.wth, .int .i64 b.c0, .int .i64 b.c1, .int .i64 b.c2, .slice ka n2 kc, .int .i64 b.rate] 26) = V := ⟨_, rfl⟩
  have hBV : Below W.heap.size W V := by rw [← hV]; exact (Below.refl _ _).alloc (Nat.le_refl _) _
  have hb0 : V.heap[W.heap.size]? = some (Obj.cells #[.slice sa n1 sc, .int .i64 b.wth, .int .i64 b.c0, .int .i64 b.c1, .int .i64 b.c2, .slice ka n2 kc, .int .i64 b.rate] 26) := by rw [← hV]; exact World.alloc_heap_new _ _
  have hVz : W.heap.size < V.heap.size := (Array.getElem?_eq_some_iff.1 hb0).1
  have HGV := Lib.hid (hG.below hG.lt hBV)
  have HVB := Lib.hid (hv.below hv.hn hBV)
  have HN := Lib.hid hv.hn
  have c0 : V.cell? ⟨W.heap.size, 0, none⟩ = some (.slice sa n1 sc) := blk_cell hb0
  have c1 : V.cell? ⟨W.heap.size, 1, none⟩ = some (.int .i64 b.wth) := blk_cell hb0
  have c2 : V.cell? ⟨W.heap.size, 2, none⟩ = some (.int .i64 b.c0) := blk_cell hb0
  have c3 : V.cell? ⟨W.heap.size, 3, none⟩ = some (.int .i64 b.c1) := blk_cell hb0
  have c4 : V.cell? ⟨W.heap.size, 4, none⟩ = some (.int .i64 b.c2) := blk_cell hb0
  have c5 : V.cell? ⟨W.heap.size, 5, none⟩ = some (.slice ka n2 kc) := blk_cell hb0
  have c6 : V.cell? ⟨W.heap.size, 6, none⟩ = some (.int .i64 b.rate) := blk_cell hb0
  have HL1 := Lib.hid hv.l1
  clear hv hG hb0
  simp only [Bk.cells]
  go_enter Tryd.func28, Tryd.ntmps28
  go_upto_region 2 with (first
    | (go_at_call 80; refine (asked_any V b true n sa ka n1 sc n2 kc HVB.out HGV.out).mono ?_; rintro e w2 ⟨x, sa', ka', ta, sl', sc', kl', kc', tl, tc, mo, rfl, hb2, hx⟩; have HB2 := Lib.hid hb2; have HX := Lib.hid hx; clear hb2 hx; simp only [Bk.cells9])
    | fail)
  obtain ⟨hBX, _, hC, hX⟩ := asked_new (V := V) (w2 := w2) (ka' := ka') (kl' := kl') (kc' := kc') (mo := mo) (x := x) ⟨HB2.out.os, HB2.out.tape, HB2.out.output, HB2.out.size, HB2.out.block⟩ HX.out
  simp only [Bk.cells9] at hBX hC hX
  obtain ⟨X, hXe⟩ : ∃ X, w2.alloc (.cells #[.slice sa' sl' sc', .int .i64 x.wth, .int .i64 x.c0, .int .i64 x.c1, .int .i64 x.c2, .slice ka' kl' kc', .int .i64 x.rate, .map mo, .slice ta tl tc] 79) = X := ⟨_, rfl⟩
  try rw [hXe]
  rw [hXe] at hBX hC hX
  clear hXe HB2 HX
  obtain ⟨P8, hP8⟩ : ∃ P8, w2.heap.size = P8 := ⟨_, rfl⟩
  rw [hP8] at hC ⊢
  clear hP8
  obtain ⟨E, hE⟩ : ∃ E, askE b true = E := ⟨_, rfl⟩
  rw [hE] at hX ⊢
  have hBW := hBV.trans (hBX.mono hBV.size)
  have HC := Lib.hid hC
  clear c0 c1 c2 c3 c4 c5 c6 hC
  have HGX := Lib.hid (HGV.out.below HGV.out.lt hBX)
  by_cases hE0 : E = 0
  · obtain ⟨rfl, rfl, rfl, rfl, hT⟩ := hX hE0
    have hask : askE x true = 0 := by rw [hE, hE0]
    obtain ⟨hok, _, hne⟩ := askE_zero hask
    have HT := Lib.hid hT
    have HNE := Lib.hid hne
    have HOK := Lib.hid (truths_ok (sound_of hok))
    have HSO := Lib.hid (sound_of hok)
    have HS := Lib.hid ((HVB.out.below (by have := HN.out; omega) hBX).hs)
    have HNX := Lib.hid (show n ≤ X.heap.size from Nat.le_trans HN.out hBW.size)
    have e0 : X.cell? ⟨P8, 0, none⟩ = some (.slice sa' sl' sc') := blk_cell HC.out
    have e1 : X.cell? ⟨P8, 1, none⟩ = some (.int .i64 x.wth) := blk_cell HC.out
    have e2 : X.cell? ⟨P8, 2, none⟩ = some (.int .i64 x.c0) := blk_cell HC.out
    have e3 : X.cell? ⟨P8, 3, none⟩ = some (.int .i64 x.c1) := blk_cell HC.out
    have e4 : X.cell? ⟨P8, 4, none⟩ = some (.int .i64 x.c2) := blk_cell HC.out
    have e5 : X.cell? ⟨P8, 5, none⟩ = some (.slice ka' kl' kc') := blk_cell HC.out
    have e6 : X.cell? ⟨P8, 6, none⟩ = some (.int .i64 x.rate) := blk_cell HC.out
    have e7 : X.cell? ⟨P8, 7, none⟩ = some (.map mo) := blk_cell HC.out
    have e8 : X.cell? ⟨P8, 8, none⟩ = some (.slice ta tl tc) := blk_cell HC.out
    have HSS := Lib.hid (show blameS x = (kindOf x, 0) by simp [blameS, hask])
    have HBD := Lib.hid (bds_of hok)
    clear hX hE hT hne hask hok
    subst hE0
    go_upto_region 5 with (first
      | (go_at_call 81; refine (blame_any X x (.slice sa' sl' sc') (.slice ka' kl' kc') (.map mo) (.slice ta tl tc) (truths x) X.heap.size (Nat.le_refl _) (HS.out.mono HNX.out) HBD.out HT.out HOK.out).mono ?_; rintro e w5 ⟨rfl, hb5⟩; have HB5 := Lib.hid hb5; clear hb5)
      | fail)
    obtain ⟨Y, hY⟩ : ∃ Y, w5.alloc (.cells #[.int .i64 (((truths x).countP (blamed x) : Nat) : Int), .int .i64 (((truths x).length : Nat) : Int)] 99) = Y := ⟨_, rfl⟩
    have hY0 : Y.heap[w5.heap.size]? = some (.cells #[.int .i64 (((truths x).countP (blamed x) : Nat) : Int), .int .i64 (((truths x).length : Nat) : Int)] 99) := by rw [← hY]; exact World.alloc_heap_new _ _
    have hXY : Below X.heap.size X Y := by rw [← hY]; exact HB5.out.alloc HB5.out.size _
    try rw [hY]
    clear hY
    obtain ⟨P7, hP7⟩ : ∃ P7, w5.heap.size = P7 := ⟨_, rfl⟩
    rw [hP7] at hY0 ⊢
    clear hP7
    have HGY := Lib.hid (HGX.out.below HGX.out.lt hXY)
    have kk0 : Y.cell? ⟨0, 0, none⟩ = some (.func (.func 125) #[] #[]) := HGY.out.k0
    have kk1 : Y.cell? ⟨0, 1, none⟩ = some (.func (.func 123) #[] #[]) := HGY.out.k1
    have HXY := Lib.hid hXY
    have HY0 := Lib.hid hY0
    have hWY := hBW.trans (hXY.mono hBW.size)
    have HWY := Lib.hid hWY
    clear hXY hY0 hWY e0 e1 e2 e3 e4 e5 e6 e7 e8
    obtain ⟨hi0, hi1⟩ := index102 (.func (.func 125) #[] #[]) (.func (.func 123) #[] #[])
    obtain ⟨so, hso⟩ : ∃ so, (truths x).countP (blamed x) = so := ⟨_, rfl⟩
    obtain ⟨al, hal⟩ : ∃ al, (truths x).length = al := ⟨_, rfl⟩
    have HK := Lib.hid (show kindOf x = (if 0 < so then 1 else 0) + (if so = al then 1 else 0) by unfold kindOf blames; rw [hso, hal])
    rw [hso, hal] at HY0 ⊢
    clear hso hal
    go_wp2_with fail
    go_loopg [6, 21] 2 (fun n st i wx => ∃ (q : Nat) (m : Int), q ≤ 2 ∧ n = 2 - q ∧ st = .int .i64 m ∧ i = .int .i64 (q : Int) ∧ m = (if 1 ≤ q then (if 0 < so then 1 else 0) else 0) + (if 2 ≤ q then (if so = al then 1 else 0) else 0) ∧ Below Y.heap.size Y wx)
    case atStart => exact ⟨0, 0, by omega, rfl, rfl, rfl, by simp, Below.refl _ _⟩
    case round =>
      obtain ⟨q, m, hq, hgk, rfl, rfl, hm, hbx⟩ := hrel
      have HG2 := Lib.hid hgk
      have HM := Lib.hid hm
      have v0 : wr.cell? ⟨P7, 0, none⟩ = some (.int .i64 (so : Int)) := (hbx.cell (p := ⟨P7, 0, none⟩) (Array.getElem?_eq_some_iff.1 HY0.out).1).trans (blk_cell HY0.out)
      have v1 : wr.cell? ⟨P7, 1, none⟩ = some (.int .i64 (al : Int)) := (hbx.cell (p := ⟨P7, 1, none⟩) (Array.getElem?_eq_some_iff.1 HY0.out).1).trans (blk_cell HY0.out)
      clear hgk hm
      have hmb : 0 ≤ m ∧ m ≤ 2 := by rw [HM.out]; split <;> split <;> (try split) <;> (try split) <;> omega
      have hqq : q = 0 ∨ q = 1 ∨ q = 2 := by omega
      rcases hqq with rfl | rfl | rfl
      · have HM0 := Lib.hid (show m = 0 by rw [HM.out]; simp)
        by_cases hso : 0 < so
        · have hso2 : decide ((0 : Int) < (so : Int)) = true := by simp; omega
          have HM1 := Lib.hid (show m + 1 = (if 1 ≤ 0 + 1 then (if 0 < so then 1 else 0) else 0) + (if 2 ≤ 0 + 1 then (if so = al then 1 else 0) else 0) by rw [HM0.out]; simp [hso])
          clear hso
          go_wp2_with (first | (go_at_call 125; refine (some_any _ _ _).mono ?_; rintro e w6 ⟨rfl, hb6⟩; rw [hso2]; have HB6 := Lib.hid hb6; clear hb6) | fail)
          go_roundg 1
          case measure => rw [HG2.out]; omega
          case rel => exact ⟨0 + 1, m + 1, by omega, rfl, rfl, by go_num, HM1.out, hbx.trans (HB6.out.mono hbx.size)⟩
        · have hso2 : decide ((0 : Int) < (so : Int)) = false := by simp; omega
          have HM1 := Lib.hid (show m = (if 1 ≤ 0 + 1 then (if 0 < so then 1 else 0) else 0) + (if 2 ≤ 0 + 1 then (if so = al then 1 else 0) else 0) by rw [HM0.out]; simp [hso])
          clear hso
          go_wp2_with (first | (go_at_call 125; refine (some_any _ _ _).mono ?_; rintro e w6 ⟨rfl, hb6⟩; rw [hso2]; have HB6 := Lib.hid hb6; clear hb6) | fail)
          go_roundg 1
          case measure => rw [HG2.out]; omega
          case rel => exact ⟨0 + 1, m, by omega, rfl, rfl, by go_num, HM1.out, hbx.trans (HB6.out.mono hbx.size)⟩
      · by_cases hso : so = al
        · have hso2 : ((so : Int) == (al : Int)) = true := by simp; omega
          have HM1 := Lib.hid (show m + 1 = (if 1 ≤ 1 + 1 then (if 0 < so then 1 else 0) else 0) + (if 2 ≤ 1 + 1 then (if so = al then 1 else 0) else 0) by rw [HM.out]; simp [hso])
          clear hso
          go_wp2_with (first | (go_at_call 123; refine (each_any _ _ _).mono ?_; rintro e w6 ⟨rfl, hb6⟩; rw [hso2]; have HB6 := Lib.hid hb6; clear hb6) | fail)
          go_roundg 0
          case measure => rw [HG2.out]; omega
          case rel => exact ⟨1 + 1, m + 1, by omega, rfl, rfl, by go_num, HM1.out, hbx.trans (HB6.out.mono hbx.size)⟩
        · have hso2 : ((so : Int) == (al : Int)) = false := by simp; omega
          have HM1 := Lib.hid (show m = (if 1 ≤ 1 + 1 then (if 0 < so then 1 else 0) else 0) + (if 2 ≤ 1 + 1 then (if so = al then 1 else 0) else 0) by rw [HM.out]; simp [hso])
          clear hso
          go_wp2_with (first | (go_at_call 123; refine (each_any _ _ _).mono ?_; rintro e w6 ⟨rfl, hb6⟩; rw [hso2]; have HB6 := Lib.hid hb6; clear hb6) | fail)
          go_roundg 0
          case measure => rw [HG2.out]; omega
          case rel => exact ⟨1 + 1, m, by omega, rfl, rfl, by go_num, HM1.out, hbx.trans (HB6.out.mono hbx.size)⟩
      · have HMK := Lib.hid (show m = kindOf x by rw [HM.out, HK.out]; simp)
        go_wp2_with fail
        refine bodyPost_ret (results_tmp2 rfl _ _ _) rfl ⟨?_, HWY.out.trans (hbx.mono HWY.out.size)⟩
        rw [HSS.out, ← HMK.out]
        rfl
  · have HSS := Lib.hid (show blameS b = (0, E) by unfold blameS; rw [hE, if_neg hE0])
    clear hX hE
    go_wp2_with fail
    refine bodyPost_ret (results_tmp2 rfl _ _ _) rfl ⟨?_, hBW⟩
    rw [HSS.out]
    rfl
end Go.Proofs.YtbhjfojbjpbdbaaDoor
namespace Go.Proofs.YtbhjfojbjpbdbaaDoor
open Go.RowKit
theorem find_range {p : Nat → Bool} : ∀ {n q : Nat}, q < n → (∀ k, k < q → p k = false) → p q = true → (List.range n).find? p = some q := by
  intro n q hq h1 h2
  rw [List.find?_range_eq_some]
  exact ⟨h2, by simpa using hq, fun j hj => by simp [h1 j hj]⟩
theorem find_range_none {p : Nat → Bool} {n : Nat} (h : ∀ k, k < n → p k = false) : (List.range n).find? p = none := by
  rw [List.find?_eq_none]
  intro k hk
  simp [h k (List.mem_range.1 hk)]
theorem firstS_some {b : Bk} {q : Nat} (h : askE b true = 0) (hf : ((List.range b.sts.length).find? fun k => decide (0 < toldLo (lateT b k) (truths b))) = some q) : firstS b = ((q : Int), 0) := by
  unfold firstS
  rw [if_pos h, hf]
theorem firstS_none {b : Bk} (h : askE b true = 0) (hf : ((List.range b.sts.length).find? fun k => decide (0 < toldLo (lateT b k) (truths b))) = none) : firstS b = (0, 4) := by
  unfold firstS
  rw [if_pos h, hf]
set_option maxHeartbeats 1000000 in
theorem first1_any (W1 : World) (b : Bk) (sa ka ta : Option Addr) (sl sc kl kc tl tc n : Nat) (mo : Option Nat) (t : Tr) (j P8 P6 : Nat) (ht : TrOk t) (hj : j < b.sts.length) (h3 : b.sts.length ≤ 3) (hn : n ≤ W1.heap.size) (hs : SlOf W1 n 7 (.slice sa sl sc) (stCells b.sts))
    (hd : 0 ≤ b.due j ∧ b.due j ≤ 1000) (h6 : W1.heap[P6]? = some (.cells #[.int .i64 (j : Int)] 3)) (h8 : W1.heap[P8]? = some (.cells (b.cells9 (.slice sa sl sc) (.slice ka kl kc) (.map mo) (.slice ta tl tc)).toArray 79)) :
    Calls Tryd.prog 85 #[.agg t.cells.toArray, .pointer (some ⟨P8, 0, none⟩), .pointer (some ⟨P6, 0, none⟩)] W1 fun e W' => e = .returned (.int .i64 (lateT b j t)) ∧ Below W1.heap.size W1 W' := by
  obtain ⟨V, hV⟩ : ∃ V, W1.alloc (.cells t.cells.toArray 87) = V := ⟨_, rfl⟩
  have hBV : Below W1.heap.size W1 V := by rw [← hV]; exact (Below.refl _ _).alloc (Nat.le_refl _) _
  have hT : V.heap[W1.heap.size]? = some (.cells t.cells.toArray 87) := by rw [← hV]; exact World.alloc_heap_new _ _
  have g6 := (hBV.block P6 (Array.getElem?_eq_some_iff.1 h6).1).trans h6
  have g8 := (hBV.block P8 (Array.getElem?_eq_some_iff.1 h8).1).trans h8
  have HS := Lib.hid (hs.below hn hBV)
  have HN := Lib.hid (Nat.le_trans hn hBV.size)
  have c6 : V.cell? ⟨P6, 0, none⟩ = some (.int .i64 (j : Int)) := blk_cell g6
  have p0 : V.cell? ⟨W1.heap.size, 0, none⟩ = some (.int .i64 t.w) := blk_cell hT
  have p1 : V.cell? ⟨W1.heap.size, 1, none⟩ = some (.int .i64 t.a0) := blk_cell hT
  have p2 : V.cell? ⟨W1.heap.size, 2, none⟩ = some (.int .i64 t.a1) := blk_cell hT
  have p3 : V.cell? ⟨W1.heap.size, 3, none⟩ = some (.int .i64 t.a2) := blk_cell hT
  have p4 : V.cell? ⟨W1.heap.size, 4, none⟩ = some (.int .i64 t.b0) := blk_cell hT
  have p5 : V.cell? ⟨W1.heap.size, 5, none⟩ = some (.int .i64 t.b1) := blk_cell hT
  have p6 : V.cell? ⟨W1.heap.size, 6, none⟩ = some (.int .i64 t.b2) := blk_cell hT
  have q0 : V.cell? ⟨P8, 0, none⟩ = some (.slice sa sl sc) := blk_cell g8
  have q1 : V.cell? ⟨P8, 1, none⟩ = some (.int .i64 b.wth) := blk_cell g8
  have q2 : V.cell? ⟨P8, 2, none⟩ = some (.int .i64 b.c0) := blk_cell g8
  have q3 : V.cell? ⟨P8, 3, none⟩ = some (.int .i64 b.c1) := blk_cell g8
  have q4 : V.cell? ⟨P8, 4, none⟩ = some (.int .i64 b.c2) := blk_cell g8
  have q5 : V.cell? ⟨P8, 5, none⟩ = some (.slice ka kl kc) := blk_cell g8
  have q6 : V.cell? ⟨P8, 6, none⟩ = some (.int .i64 b.rate) := blk_cell g8
  have q7 : V.cell? ⟨P8, 7, none⟩ = some (.map mo) := blk_cell g8
  have q8 : V.cell? ⟨P8, 8, none⟩ = some (.slice ta tl tc) := blk_cell g8
  have l6 := lt_of_cell c6
  have l8 := lt_of_cell q0
  clear hT g6 g8 h6 h8 hs hn
  simp only [Tr.cells]
  simp only [Tr.cells] at hV
  go_enter Tryd.func85, Tryd.ntmps85
  go_upto_region 1 with fail
  try rw [hV]
  clear hV
  go_wp2_with (go_at_call 77; refine (late_any V b (.slice sa sl sc) (.slice ka kl kc) (.map mo) (.slice ta tl tc) n t j HN.out HS.out hj h3 ht hd).mono ?_; rintro e w1 ⟨rfl, hb1⟩; have HB1 := Lib.hid hb1; clear hb1)
  go_ret
  exact ⟨rfl, hBV.trans (HB1.out.mono hBV.size)⟩
set_option maxRecDepth 100000 in
set_option maxHeartbeats 2000000 in
theorem first_ex (W : World) (b : Bk) (n : Nat) (sa ka : Option Addr) (n1 sc n2 kc : Nat) (hv : BookW W n sa ka n1 sc n2 kc b) (hG : Glob W) :
    Calls Tryd.prog 34 #[.agg (b.cells (.slice sa n1 sc) (.slice ka n2 kc)).toArray] W fun e W' => e = .returned (.tuple #[.int .i64 (firstS b).1, .int .i64 (firstS b).2]) ∧ Below W.heap.size W W' := by
  obtain ⟨V, hV⟩ : ∃ V, W.alloc (Obj.cells #[.slice sa n1 sc, .int .i64 b.wth, .int .i64 b.c0, .int .i64 b.c1, .int .i64 b.c2, .slice ka n2 kc, .int .i64 b.rate] 26) = V := ⟨_, rfl⟩
  have hBV : Below W.heap.size W V := by rw [← hV]; exact (Below.refl _ _).alloc (Nat.le_refl _) _
  have hb0 : V.heap[W.heap.size]? = some (Obj.cells #[.slice sa n1 sc, .int .i64 b.wth, .int .i64 b.c0, .int .i64 b.c1, .int .i64 b.c2, .slice ka n2 kc, .int .i64 b.rate] 26) := by rw [← hV]; exact World.alloc_heap_new _ _
  have hVz : W.heap.size < V.heap.size := (Array.getElem?_eq_some_iff.1 hb0).1
  have HGV := Lib.hid (hG.below hG.lt hBV)
  have HVB := Lib.hid (hv.below hv.hn hBV)
  have HN := Lib.hid hv.hn
  have c0 : V.cell? ⟨W.heap.size, 0, none⟩ = some (.slice sa n1 sc) := blk_cell hb0
  have c1 : V.cell? ⟨W.heap.size, 1, none⟩ = some (.int .i64 b.wth) := blk_cell hb0
  have c2 : V.cell? ⟨W.heap.size, 2, none⟩ = some (.int .i64 b.c0) := blk_cell hb0
  have c3 : V.cell? ⟨W.heap.size, 3, none⟩ = some (.int .i64 b.c1) := blk_cell hb0
  have c4 : V.cell? ⟨W.heap.size, 4, none⟩ = some (.int .i64 b.c2) := blk_cell hb0
  have c5 : V.cell? ⟨W.heap.size, 5, none⟩ = some (.slice ka n2 kc) := blk_cell hb0
  have c6 : V.cell? ⟨W.heap.size, 6, none⟩ = some (.int .i64 b.rate) := blk_cell hb0
  have HL1 := Lib.hid hv.l1
  have HB0 := Lib.hid hb0
  clear hv hG hb0
  simp only [Bk.cells]
  go_enter Tryd.func34, Tryd.ntmps34
  go_upto_region 2 with (first
    | (go_at_call 80; refine (asked_any V b true n sa ka n1 sc n2 kc HVB.out HGV.out).mono ?_; rintro e w2 ⟨x, sa', ka', ta, sl', sc', kl', kc', tl, tc, mo, rfl, hb2, hx⟩; have HB2 := Lib.hid hb2; have HX := Lib.hid hx; clear hb2 hx; simp only [Bk.cells9])
    | fail)
  obtain ⟨hBX, _, hC, hX⟩ := asked_new (V := V) (w2 := w2) (ka' := ka') (kl' := kl') (kc' := kc') (mo := mo) (x := x) ⟨HB2.out.os, HB2.out.tape, HB2.out.output, HB2.out.size, HB2.out.block⟩ HX.out
  simp only [Bk.cells9] at hBX hC hX
  obtain ⟨X, hXe⟩ : ∃ X, w2.alloc (.cells #[.slice sa' sl' sc', .int .i64 x.wth, .int .i64 x.c0, .int .i64 x.c1, .int .i64 x.c2, .slice ka' kl' kc', .int .i64 x.rate, .map mo, .slice ta tl tc] 79) = X := ⟨_, rfl⟩
  try rw [hXe]
  rw [hXe] at hBX hC hX
  clear hXe HB2 HX
  obtain ⟨P8, hP8⟩ : ∃ P8, w2.heap.size = P8 := ⟨_, rfl⟩
  rw [hP8] at hC ⊢
  clear hP8
  obtain ⟨E, hE⟩ : ∃ E, askE b true = E := ⟨_, rfl⟩
  rw [hE] at hX ⊢
  have hBW := hBV.trans (hBX.mono hBV.size)
  have HC := Lib.hid hC
  clear c0 c1 c2 c3 c4 c5 c6 hC
  have cx : X.cell? ⟨W.heap.size, 0, none⟩ = some (.slice sa n1 sc) := blk_cell ((hBX.block _ hVz).trans HB0.out)
  by_cases hE0 : E = 0
  · obtain ⟨rfl, rfl, rfl, rfl, hT⟩ := hX hE0
    have hask : askE x true = 0 := by rw [hE, hE0]
    obtain ⟨hok, _, hne⟩ := askE_zero hask
    have HT := Lib.hid hT
    have HNE := Lib.hid hne
    have HOK := Lib.hid (truths_ok (sound_of hok))
    have HSO := Lib.hid (sound_of hok)
    have HS := Lib.hid ((HVB.out.below (by have := HN.out; omega) hBX).hs)
    have HNX := Lib.hid (show n ≤ X.heap.size from Nat.le_trans HN.out hBW.size)
    have e0 : X.cell? ⟨P8, 0, none⟩ = some (.slice sa' sl' sc') := blk_cell HC.out
    have e1 : X.cell? ⟨P8, 1, none⟩ = some (.int .i64 x.wth) := blk_cell HC.out
    have e2 : X.cell? ⟨P8, 2, none⟩ = some (.int .i64 x.c0) := blk_cell HC.out
    have e3 : X.cell? ⟨P8, 3, none⟩ = some (.int .i64 x.c1) := blk_cell HC.out
    have e4 : X.cell? ⟨P8, 4, none⟩ = some (.int .i64 x.c2) := blk_cell HC.out
    have e5 : X.cell? ⟨P8, 5, none⟩ = some (.slice ka' kl' kc') := blk_cell HC.out
    have e6 : X.cell? ⟨P8, 6, none⟩ = some (.int .i64 x.rate) := blk_cell HC.out
    have e7 : X.cell? ⟨P8, 7, none⟩ = some (.map mo) := blk_cell HC.out
    have e8 : X.cell? ⟨P8, 8, none⟩ = some (.slice ta tl tc) := blk_cell HC.out
    have HASK := Lib.hid hask
    have hl3 := (bkOk_head hok).1
    have hsb : sl' ≤ 3 := by have := HL1.out; omega
    have HDU := Lib.hid (show ∀ j, 0 ≤ x.due j ∧ x.due j ≤ 1000 from fun j => by have := due_bd hok j; omega)
    have hlx : W.heap.size < X.heap.size := Nat.lt_of_lt_of_le hVz hBX.size
    have hfld := field32
    clear hX hE hT hne hask hok
    subst hE0
    go_wp2_with fail
    go_loopg [18] sl' (fun n i wx => ∃ (q : Nat), q ≤ sl' ∧ n = sl' - q ∧ i = .int .i64 (q : Int) ∧ (∀ k, k < q → decide (0 < toldLo (lateT x k) (truths x)) = false) ∧ Below X.heap.size X wx)
    case atStart => exact ⟨0, by omega, rfl, rfl, fun k hk => by omega, Below.refl _ _⟩
    case round =>
      obtain ⟨q, hq, hgk, rfl, hnone, hbx⟩ := hrel
      have HG2 := Lib.hid hgk
      have HNO := Lib.hid hnone
      clear hgk hnone
      by_cases hlt : q < sl'
      · go_upto_region 7 with fail
        obtain ⟨Y, hY⟩ : ∃ Y, wr.alloc (.cells #[.int .i64 (q : Int)] 3) = Y := ⟨_, rfl⟩
        have hY0 : Y.heap[wr.heap.size]? = some (.cells #[.int .i64 (q : Int)] 3) := by rw [← hY]; exact World.alloc_heap_new _ _
        have hXY : Below X.heap.size X Y := by rw [← hY]; exact hbx.alloc hbx.size _
        try rw [hY]
        clear hY
        obtain ⟨P6, hP6⟩ : ∃ P6, wr.heap.size = P6 := ⟨_, rfl⟩
        rw [hP6] at hY0 ⊢
        clear hP6
        have hY8 := (hXY.block P8 (Array.getElem?_eq_some_iff.1 HC.out).1).trans HC.out
        have y0 : Y.cell? ⟨P8, 0, none⟩ = some (.slice sa' sl' sc') := blk_cell hY8
        have y1 : Y.cell? ⟨P8, 1, none⟩ = some (.int .i64 x.wth) := blk_cell hY8
        have y2 : Y.cell? ⟨P8, 2, none⟩ = some (.int .i64 x.c0) := blk_cell hY8
        have y3 : Y.cell? ⟨P8, 3, none⟩ = some (.int .i64 x.c1) := blk_cell hY8
        have y4 : Y.cell? ⟨P8, 4, none⟩ = some (.int .i64 x.c2) := blk_cell hY8
        have y5 : Y.cell? ⟨P8, 5, none⟩ = some (.slice ka' kl' kc') := blk_cell hY8
        have y6 : Y.cell? ⟨P8, 6, none⟩ = some (.int .i64 x.rate) := blk_cell hY8
        have y7 : Y.cell? ⟨P8, 7, none⟩ = some (.map mo) := blk_cell hY8
        have y8 : Y.cell? ⟨P8, 8, none⟩ = some (.slice ta tl tc) := blk_cell hY8
        have hfn : FnOf Y 85 #[] #[.pointer (some ⟨P8, 0, none⟩), .pointer (some ⟨P6, 0, none⟩)] (lateT x q) := fun t W1 ht hb1 =>
          first1_any W1 x sa' ka' ta sl' sc' kl' kc' tl tc n mo t q P8 P6 ht (by have := HL1.out; omega) (by omega) (Nat.le_trans HNX.out (Nat.le_trans hXY.size hb1.size)) ((HS.out.below HNX.out hXY).below (Nat.le_trans HNX.out hXY.size) hb1) (HDU.out q) ((hb1.block _ (Array.getElem?_eq_some_iff.1 hY0).1).trans hY0) ((hb1.block _ (Array.getElem?_eq_some_iff.1 hY8).1).trans hY8)
        have HFN := Lib.hid hfn
        have HY0 := Lib.hid hY0
        have HXY := Lib.hid hXY
        have hl6 := (Array.getElem?_eq_some_iff.1 hY0).1
        clear hfn hY0 hXY hY8
        obtain ⟨lo, hlo⟩ : ∃ lo, toldLo (lateT x q) (truths x) = lo := ⟨_, rfl⟩
        have HLO := Lib.hid hlo
        by_cases hp : 0 < lo
        · go_wp2_with fail
          (refine (told_any Y x (.slice sa' sl' sc') (.slice ka' kl' kc') (.map mo) (.slice ta tl tc) (truths x) X.heap.size 85 #[] #[.pointer (some ⟨P8, 0, none⟩), .pointer (some ⟨P6, 0, none⟩)] (lateT x q) HXY.out.size (HT.out.below (Nat.le_refl _) HXY.out) HNE.out HOK.out HFN.out (enters_of Tryd.func85 (by kernel_rfl) rfl)).mono ?_; rintro e w7 ⟨rfl, hb7⟩; rw [hlo]; have k6 : w7.cell? ⟨P6, 0, none⟩ = some (.int .i64 (q : Int)) := (hb7.cell (p := ⟨P6, 0, none⟩) hl6).trans (blk_cell HY0.out); have HB7 := Lib.hid hb7; clear hb7)
          go_wp2_with fail
          refine bodyPost_ret (results_tmp2 rfl _ _ _) rfl ⟨?_, (hBW.trans (HXY.out.mono hBW.size)).trans (HB7.out.mono (Nat.le_trans hBW.size HXY.out.size))⟩
          rw [firstS_some HASK.out (find_range (q := q) (by have := HL1.out; omega) HNO.out (by rw [HLO.out]; simpa using hp))]
          rfl
        · go_wp2_with fail
          (refine (told_any Y x (.slice sa' sl' sc') (.slice ka' kl' kc') (.map mo) (.slice ta tl tc) (truths x) X.heap.size 85 #[] #[.pointer (some ⟨P8, 0, none⟩), .pointer (some ⟨P6, 0, none⟩)] (lateT x q) HXY.out.size (HT.out.below (Nat.le_refl _) HXY.out) HNE.out HOK.out HFN.out (enters_of Tryd.func85 (by kernel_rfl) rfl)).mono ?_; rintro e w7 ⟨rfl, hb7⟩; rw [hlo]; have HB7 := Lib.hid hb7; clear hb7)
          go_wp2_with fail
          go_roundg (sl' - (q + 1))
          case measure => rw [HG2.out]; omega
          case rel => exact ⟨q + 1, by omega, rfl, by go_num, fun k hk => by
            rcases Nat.lt_or_ge k q with h | h
            · exact HNO.out k h
            · (rw [show k = q from Nat.le_antisymm (Nat.le_of_lt_succ hk) h, HLO.out]; simpa using hp), HXY.out.trans (HB7.out.mono HXY.out.size)⟩
      · go_wp2_with fail
        refine bodyPost_ret (results_tmp2 rfl _ _ _) rfl ⟨?_, hBW.trans (hbx.mono hBW.size)⟩
        rw [firstS_none HASK.out (find_range_none (fun k hk => HNO.out k (by have := HL1.out; omega)))]
        rfl
  · have HSS := Lib.hid (show firstS b = (0, E) by unfold firstS; rw [hE, if_neg hE0])
    clear hX hE
    go_wp2_with fail
    refine bodyPost_ret (results_tmp2 rfl _ _ _) rfl ⟨?_, hBW⟩
    rw [HSS.out]
    rfl
end Go.Proofs.YtbhjfojbjpbdbaaDoor
namespace Go.Proofs.YtbhjfojbjpbdbaaDoor
open Go.RowKit
end Go.Proofs.YtbhjfojbjpbdbaaDoor
namespace Go.Proofs.YtbhjfojbjpbdbaaDoor
open Go.RowKit
theorem flat_len {sz : Nat} : ∀ (rows : List (List Value)), (∀ r ∈ rows, r.length = sz) → rows.flatten.length = rows.length * sz
  | [], _ => by simp
  | x :: rows, h => by
    rw [List.flatten_cons, List.length_append, flat_len rows (fun r hr => h r (List.mem_cons_of_mem _ hr)), h x List.mem_cons_self, List.length_cons, Nat.add_mul]
    omega
theorem flat_at' {sz : Nat} (hsz : 0 < sz) : ∀ (rows : List (List Value)), (∀ r ∈ rows, r.length = sz) → ∀ (j : Nat) (u : Value), rows.flatten[j]? = some u → ∃ i k r, rows[i]? = some r ∧ r[k]? = some u ∧ j = i * sz + k
  | [], _, j, u, h => by simp at h
  | x :: rows, hl, j, u, h => by
    have hx := hl x List.mem_cons_self
    rw [List.flatten_cons] at h
    by_cases hj : j < x.length
    · rw [List.getElem?_append_left hj] at h
      exact ⟨0, j, x, rfl, h, by omega⟩
    · rw [List.getElem?_append_right (by omega)] at h
      obtain ⟨i, k, r, h1, h2, h3⟩ := flat_at' hsz rows (fun r hr => hl r (List.mem_cons_of_mem _ hr)) (j - x.length) u h
      exact ⟨i + 1, k, r, h1, h2, by rw [Nat.add_mul]; omega⟩
theorem grown_below {w w' : World} (h : w.grownBy w' none) : Below w.heap.size w w' :=
  ⟨h.os, h.tape, h.output, h.size, fun k hk => h.block k hk (by simp)⟩
theorem append_sl {P : Program} {w : World} (t ty e : TypeId) (i : TypeInfo) (z : Value) (size bytes : Nat) (ht : P.underlying t = some (.slice e)) (hi : P.info? e = some i) (hz : i.zero = some z)
    (hsize : i.size = size) (hby : i.bytes = bytes) (hzs : z.cells.size = size) (hsz : 0 < size) {n : Nat} {a : Option Addr} {len c : Nat} {rows : List (List Value)} (hl : len = rows.length)
    (hs : SlOf w n size (.slice a len c) rows) (r : List Value) (hr : r.length = size) (h1 : ∀ u ∈ r, u.oneCell' = true) (N : Nat) (hN : ∀ j u, r[j]? = some u → w.cell? ⟨N, j, none⟩ = some u)
    (b1 : len + 1 ≤ maxLen) (b2 : (len + 1) * bytes ≤ 140737488355328) :
    ∃ g cap w', (Builtin.append_ #[t, t] ty #[.slice a len len, .slice (some ⟨N, 0, none⟩) 1 1]).run P w = .ok (.slice (some ⟨g, 0, none⟩) (len + 1) cap) w' ∧
      SlOf w' w'.heap.size size (.slice (some ⟨g, 0, none⟩) (len + 1) cap) (rows ++ [r]) ∧ Below w.heap.size w w' ∧ w.heap.size ≤ g ∧ g < w'.heap.size := by
  obtain ⟨a', cap', e1, h2, h3, h4, h5⟩ := hs
  injection e1 with ea el ec
  subst ea
  subst hl
  have hnews : ∀ j u, r[j]? = some u → w.cell? ((⟨N, 0, none⟩ : Addr).add j) = some u := fun j u h => by
    rw [Go.WideShapes.add_plain, Nat.zero_add]; exact hN j u h
  have key : ∃ v' w', (Builtin.append_ #[t, t] ty #[.slice a rows.length rows.length, .slice (some ⟨N, 0, none⟩) 1 1]).run P w = .ok v' w' ∧ w'.ownsRow w.heap.size e size v' (rows.length + 1) (rows.flatten ++ r) ∧ w.grownBy w' none := by
    cases a with
    | some ad =>
      refine run_append_arg_grows (P := P) w t ty e i z size bytes ht hi hz hsize hby hzs hsz ad rows.length rows.length rows.flatten (flat_len rows h4) ?_ ⟨N, 0, none⟩ 1 1 r (by rw [hr, Nat.one_mul]) hnews (by omega) b1 b2
      intro j u hj
      obtain ⟨q, k, x, hq, hk, hjj⟩ := flat_at' hsz rows h4 j u hj
      have hp : 0 < rows.length := by have := (List.getElem?_eq_some_iff.1 hq).1; omega
      obtain ⟨b, o, e3, _, h6⟩ := h5 hp
      injection e3 with e4
      subst e4
      rw [Go.WideShapes.add_plain, hjj, ← Nat.add_assoc]
      exact h6 q k x u hq hk
    | none =>
      have h0 : rows.length = 0 := by
        rcases Nat.eq_zero_or_pos rows.length with h | h
        · exact h
        · obtain ⟨_, _, e3, _⟩ := h5 h; cases e3
      have hrows : rows = [] := List.eq_nil_of_length_eq_zero h0
      subst hrows
      obtain ⟨v', w', hrun, r1, r2, _⟩ := run_append_own (P := P) w w.heap.size t ty e i z size bytes ht hi hz hsize hby hzs hsz (.slice none 0 0) 0 [] (World.ownsRow_nil w _ e size) ⟨N, 0, none⟩ 1 1 r (by rw [hr, Nat.one_mul]) hnews h1 b1 b2 (Nat.le_refl _)
      exact ⟨v', w', hrun, r1, r2⟩
  obtain ⟨v', w', hrun, hown, hgr⟩ := key
  have hr' : ∀ x ∈ rows ++ [r], x.length = size := fun x hx => by
    rcases List.mem_append.1 hx with hx | hx
    · exact h4 x hx
    · simp at hx; subst hx; exact hr
  have hsl : SlOf w' w'.heap.size size v' (rows ++ [r]) := SlOf.own (by rw [List.length_append]; simpa using hown) hr'
  rcases hown.2 with ⟨_, h0⟩ | ⟨g, cap, cur, rfl, hb, hg, hc, hm, hs, htk⟩
  · omega
  · exact ⟨g, cap, w', hrun, hsl, grown_below hgr, hb, (Array.getElem?_eq_some_iff.1 hg).1⟩
end Go.Proofs.YtbhjfojbjpbdbaaDoor
namespace Go.Proofs.YtbhjfojbjpbdbaaDoor
def nextOf (l : List Nat) : Nat := match l.getLast? with
  | none => 0
  | some x => x + 1
def canBe (b : Bk) (l : List Nat) : Bool := !(truths (b.but l)).isEmpty
def leaveL (b : Bk) : Nat → List Nat → Option (List Nat)
  | 0, l => if canBe b l then some l else none
  | d + 1, l => ((List.range b.cks.length).filter (nextOf l ≤ ·)).findSome? fun n => leaveL b d (l ++ [n])
def restL (b : Bk) (d : Nat) (l : List Nat) (q : Nat) : Option (List Nat) := ((List.range b.cks.length).filter (q ≤ ·)).findSome? fun n => leaveL b d (l ++ [n])
theorem filter_range_cons {n q : Nat} (h : q < n) : (List.range n).filter (q ≤ ·) = q :: (List.range n).filter (q + 1 ≤ ·) := by
  induction n with
  | zero => omega
  | succ n ih =>
    rw [List.range_succ, List.filter_append, List.filter_append]
    rcases Nat.lt_or_ge q n with hq | hq
    · rw [ih hq]
      simp [show q ≤ n by omega, show q + 1 ≤ n by omega]
    · have hqn : q = n := by omega
      subst hqn
      have h1 : (List.range q).filter (q ≤ ·) = [] := by
        rw [List.filter_eq_nil_iff]
        intro x hx
        have := List.mem_range.1 hx
        simp; omega
      have h2 : (List.range q).filter (q + 1 ≤ ·) = [] := by
        rw [List.filter_eq_nil_iff]
        intro x hx
        have := List.mem_range.1 hx
        simp; omega
      rw [h1, h2]
      simp
theorem filter_range_nil {n q : Nat} (h : n ≤ q) : (List.range n).filter (q ≤ ·) = [] := by
  rw [List.filter_eq_nil_iff]
  intro x hx
  have := List.mem_range.1 hx
  simp; omega
theorem restL_step (b : Bk) (d : Nat) (l : List Nat) {q : Nat} (h : q < b.cks.length) : restL b d l q = match leaveL b d (l ++ [q]) with | some r => some r | none => restL b d l (q + 1) := by
  unfold restL
  rw [filter_range_cons h, List.findSome?_cons]
  cases leaveL b d (l ++ [q]) <;> rfl
theorem restL_end (b : Bk) (d : Nat) (l : List Nat) {q : Nat} (h : b.cks.length ≤ q) : restL b d l q = none := by
  unfold restL
  rw [filter_range_nil h]
  rfl
theorem nextOf_concat (l : List Nat) (n : Nat) : nextOf (l ++ [n]) = n + 1 := by simp [nextOf]
theorem find_flatMap {α β : Type} (p : β → Bool) (f : α → List β) : ∀ (l : List α), (l.flatMap f).find? p = l.findSome? fun x => (f x).find? p
  | [] => rfl
  | x :: l => by
    rw [List.flatMap_cons, List.find?_append, List.findSome?_cons, find_flatMap p f l]
    cases h : (f x).find? p <;> rfl
theorem leaveL_eq (b : Bk) : ∀ (d : Nat) (l : List Nat), leaveL b d l = (((picks d b.cks.length (nextOf l)).map (l ++ ·)).find? (canBe b))
  | 0, l => by
    simp only [leaveL, picks, List.map_cons, List.map_nil, List.append_nil]
    cases h : canBe b l <;> simp [List.find?, h]
  | d + 1, l => by
    simp only [leaveL, picks, List.map_flatMap, List.map_map]
    rw [find_flatMap]
    congr 1
    funext n
    rw [leaveL_eq b d (l ++ [n]), nextOf_concat]
    congr 2
    funext x
    simp
def wrongFrom (b : Bk) : Nat → Nat → Option (List Nat)
  | _, 0 => none
  | m, k + 1 => match leaveL b m [] with
    | some r => some r
    | none => wrongFrom b (m + 1) k
theorem wrongFrom_eq (b : Bk) : ∀ (k m : Nat), wrongFrom b m k = (List.range' m k).findSome? fun m => leaveL b m []
  | 0, m => rfl
  | k + 1, m => by
    rw [wrongFrom, List.range'_succ, List.findSome?_cons, wrongFrom_eq b k (m + 1)]
    cases leaveL b m [] <;> rfl
theorem wrongL_eq (b : Bk) : wrongL b = (wrongFrom b 0 (b.cks.length + 1)).getD [] := by
  rw [wrongFrom_eq]
  unfold wrongL allPicks
  rw [find_flatMap, List.range_eq_range']
  congr 2
  funext m
  rw [leaveL_eq]
  have h : ((picks m b.cks.length (nextOf [])).map fun x => [] ++ x) = picks m b.cks.length 0 := by
    show (picks m b.cks.length 0).map _ = _
    simp
  rw [h]
  rfl
end Go.Proofs.YtbhjfojbjpbdbaaDoor
namespace Go.Proofs.YtbhjfojbjpbdbaaDoor
open Go.RowKit
theorem step_append_sl {P : Program} {ops : Array Oper} {o : Oper} {a : Act} {w : World} {K : Act → World → Prop} {Q : Exit → Act → World → Prop} {E : Prop}
    (hg : o.guard = none) (s x : Operand) (t : TypeId) (hop : o.op = Op.call { callee := Callee.builtin Builtin.append, args := #[s, x], argTypes := #[t, t] })
    (e : TypeId) (i : TypeInfo) (z : Value) (size bytes : Nat) (ht : P.underlying t = some (.slice e)) (hi : P.info? e = some i) (hz : i.zero = some z)
    (hsize : i.size = size) (hby : i.bytes = bytes) (hzs : z.cells.size = size) (hsz : 0 < size) {n : Nat} {ad : Option Addr} {len c : Nat} {rows : List (List Value)} (hl : len = rows.length)
    (hs : SlOf w n size (.slice ad len c) rows) (r : List Value) (hr : r.length = size) (h1 : ∀ u ∈ r, u.oneCell' = true) (N : Nat) (hN : ∀ j u, r[j]? = some u → w.cell? ⟨N, j, none⟩ = some u)
    (b1 : len + 1 ≤ maxLen) (b2 : (len + 1) * bytes ≤ 140737488355328) (hsv : a.eval s = .slice ad len len) (hx : a.eval x = .slice (some ⟨N, 0, none⟩) 1 1)
    (hK : ∀ g cap w', SlOf w' w'.heap.size size (.slice (some ⟨g, 0, none⟩) (len + 1) cap) (rows ++ [r]) → Below w.heap.size w w' → w.heap.size ≤ g → K (a.put o.dst (.slice (some ⟨g, 0, none⟩) (len + 1) cap)) w') :
    if Region.wanted o (yielded ops a.tmps) = true then Oper.wp P o a w K Q else E := by
  have hw : Region.wanted o (yielded ops a.tmps) = true := by simp [Region.wanted, hg]
  rw [if_pos hw]
  obtain ⟨g, cap, w', hrun, h2, h3, h4, _⟩ := append_sl (P := P) (w := w) t o.type e i z size bytes ht hi hz hsize hby hzs hsz hl hs r hr h1 N hN b1 b2
  unfold Oper.wp
  simp [execOp, hop, resolve, invoke, builtin, hsv, hx, hrun, Result.andThen]
  exact hK g cap w' h2 h3 h4
theorem info3z : (Tryd.prog.info? 3).map (fun i => (i.zero, i.size, i.bytes)) = some (some (.int .i64 0), 1, 8) := by kernel_rfl
structure LEnv (b : Bk) (n : Nat) (sa ka : Option Addr) (n1 sc n2 kc PX PL : Nat) (W : World) : Prop where
  hv : BookW W n sa ka n1 sc n2 kc b
  hG : Glob W
  hx : W.heap[PX]? = some (Obj.cells #[.slice sa n1 sc, .int .i64 b.wth, .int .i64 b.c0, .int .i64 b.c1, .int .i64 b.c2, .slice ka n2 kc, .int .i64 b.rate] 26)
  hl : W.heap[PL]? = some (.cells #[.func (.func 87) #[] #[.pointer (some ⟨PX, 0, none⟩), .pointer (some ⟨PL, 0, none⟩)]] 108)
theorem LEnv.below {b : Bk} {n : Nat} {sa ka : Option Addr} {n1 sc n2 kc PX PL : Nat} {W V : World} (h : LEnv b n sa ka n1 sc n2 kc PX PL W) (hb : Below W.heap.size W V) : LEnv b n sa ka n1 sc n2 kc PX PL V :=
  ⟨h.hv.below h.hv.hn hb, h.hG.below h.hG.lt hb, (hb.block _ (Array.getElem?_eq_some_iff.1 h.hx).1).trans h.hx, (hb.block _ (Array.getElem?_eq_some_iff.1 h.hl).1).trans h.hl⟩
theorem natCells_append (l : List Nat) (q : Nat) : natCells (l ++ [q]) = natCells l ++ [[.int .i64 (q : Int)]] := by simp [natCells]
theorem own_new {B0 g len cap : Nat} (h : B0 ≤ g) : ∀ g', (Value.slice (some ⟨g, 0, none⟩) len cap).ownBlock = some g' → B0 ≤ g' := by
  intro g' e
  simp [Value.ownBlock] at e
  omega
def LeaveAt (b : Bk) (n : Nat) (sa ka : Option Addr) (n1 sc n2 kc PX PL d : Nat) : Prop :=
  ∀ (l : List Nat) (W : World) (la : Option Addr) (k lc m : Nat) (many : Int) (B0 : Nat), LEnv b n sa ka n1 sc n2 kc PX PL W → k = l.length → SlOf W m 1 (.slice la k lc) (natCells l) → m ≤ W.heap.size → (∀ x ∈ l, x < n2) → k + d ≤ n2 → many = ((k + d : Nat) : Int) → B0 ≤ W.heap.size → (∀ g, (Value.slice la k lc).ownBlock = some g → B0 ≤ g) →
    Calls Tryd.prog 87 #[.slice la k lc, .int .i64 many, .pointer (some ⟨PX, 0, none⟩), .pointer (some ⟨PL, 0, none⟩)] W fun e W' => ∃ (ra : Option Addr) (rl rc : Nat), e = .returned (.tuple #[.slice ra rl rc, .bool (leaveL b d l).isSome]) ∧ Below W.heap.size W W' ∧
      ∀ r, leaveL b d l = some r → SlOf W' W'.heap.size 1 (.slice ra rl rc) (natCells r) ∧ ∀ g, (Value.slice ra rl rc).ownBlock = some g → B0 ≤ g
set_option maxRecDepth 100000 in
set_option maxHeartbeats 2000000 in
theorem leave_zero {b : Bk} {n : Nat} {sa ka : Option Addr} {n1 sc n2 kc PX PL : Nat} (hS : Sound b) (_h4 : n2 ≤ 4) : LeaveAt b n sa ka n1 sc n2 kc PX PL 0 := by
  intro l W la k lc m many B0 hE hk hs hm hx hle hmany hB0 hBg
  have HBG := Lib.hid hBg
  clear hB0 hBg
  subst hmany
  rw [Nat.add_zero] at hle ⊢
  have x0 : W.cell? ⟨PX, 0, none⟩ = some (.slice sa n1 sc) := blk_cell hE.hx
  have x1 : W.cell? ⟨PX, 1, none⟩ = some (.int .i64 b.wth) := blk_cell hE.hx
  have x2 : W.cell? ⟨PX, 2, none⟩ = some (.int .i64 b.c0) := blk_cell hE.hx
  have x3 : W.cell? ⟨PX, 3, none⟩ = some (.int .i64 b.c1) := blk_cell hE.hx
  have x4 : W.cell? ⟨PX, 4, none⟩ = some (.int .i64 b.c2) := blk_cell hE.hx
  have x5 : W.cell? ⟨PX, 5, none⟩ = some (.slice ka n2 kc) := blk_cell hE.hx
  have x6 : W.cell? ⟨PX, 6, none⟩ = some (.int .i64 b.rate) := blk_cell hE.hx
  have HE := Lib.hid hE
  have HS := Lib.hid hs
  have HM := Lib.hid hm
  have HK := Lib.hid hk
  have HSO := Lib.hid hS
  have hfield := field79
  clear hE hs hm hk hS hx hle
  go_enter Tryd.func87, Tryd.ntmps87
  go_wp2_with (first
    | (go_at_call 64; refine (opened_ok W b (.slice sa n1 sc) (.slice ka n2 kc) (.slice la k lc) l W.heap.size (Nat.le_refl _) (HE.out.hv.hs.mono HE.out.hv.hn) (HE.out.hv.hk.mono HE.out.hv.hn) HE.out.hG (HS.out.mono HM.out) HSO.out).mono ?_; rintro e w2 ⟨ka', kl', kc', M, tv, rfl, hb2, ht, hfr⟩; obtain ⟨ta, tc, rfl⟩ := ht.slice; have HB2 := Lib.hid hb2; have HT := Lib.hid ht; clear hb2 ht hfr; simp only [Bk.cells9])
    | fail)
  refine bodyPost_ret (results_tmp2 rfl _ _ _) rfl ⟨la, k, lc, ?_, HB2.out, ?_⟩
  · show Ending.returned (.tuple #[.slice la k lc, .bool (decide (0 < (trCells (truths (b.but l))).length))]) = _
    rw [dec_len]
    have : (leaveL b 0 l).isSome = !(truths (b.but l)).isEmpty := by
      show (if canBe b l then some l else none).isSome = _
      unfold canBe
      cases (truths (b.but l)).isEmpty <;> rfl
    rw [this]
  · intro r hr
    have : r = l := by
      simp only [leaveL] at hr
      split at hr
      · injection hr with h; exact h.symm
      · cases hr
    subst this
    exact ⟨(HS.out.below HM.out HB2.out).mono (Nat.le_trans HM.out HB2.out.size), HBG.out⟩
theorem new_one {w : World} (u : Value) (T : TypeId) : ∀ j v, [u][j]? = some v → (w.drew.alloc (.cells #[u] T)).cell? ⟨w.heap.size, j, none⟩ = some v := by
  intro j v h
  have e := blk_cell (j := j) (World.alloc_heap_new w.drew (.cells #[u] T))
  refine Eq.trans e ?_
  simpa using h
theorem bel3' {V w1 : World} {o : Obj} (h : Below (V.drew.alloc o).heap.size (V.drew.alloc o) w1) : Below V.heap.size V w1 := (((Below.refl V.heap.size V).drew.alloc (Nat.le_refl _) o)).trans (h.mono ((Below.refl V.heap.size V).drew.alloc (Nat.le_refl _) o).size)
set_option maxRecDepth 100000 in
set_option maxHeartbeats 40000000 in
theorem leave_succ {b : Bk} {n : Nat} {sa ka : Option Addr} {n1 sc n2 kc PX PL d : Nat} (h4 : n2 ≤ 4) (hI : LeaveAt b n sa ka n1 sc n2 kc PX PL d) : LeaveAt b n sa ka n1 sc n2 kc PX PL (d + 1) := by
  intro l W la k lc m many B0 hE hk hs hm hx hle hmany hB0 hBg
  have HB00 := Lib.hid hB0
  clear hB0 hBg
  have ne1 : ((k : Int) == many) = false := by rw [hmany]; simp; omega
  obtain ⟨i3, i3a, i3b, i3c, i3d⟩ := info_parts info3z
  have x5 : W.cell? ⟨PX, 5, none⟩ = some (.slice ka n2 kc) := blk_cell hE.hx
  have hkc : k ≤ lc := by obtain ⟨_, _, e, _, h1, _⟩ := hs; injection e with _ e2 e3; omega
  have HE := Lib.hid hE
  have HS := Lib.hid hs
  have HM := Lib.hid hm
  have HK := Lib.hid hk
  have HKL := Lib.hid (show k = (natCells l).length by rw [hk]; simp [natCells])
  have HI := Lib.hid hI
  have HMA := Lib.hid hmany
  have HSX := Lib.hid (show ∀ w, Below W.heap.size W w → SlOf w m 1 (.slice la k lc) (natCells l) from fun w h => hs.below hm h)
  have HXQ := Lib.hid (show ∀ q, q < n2 → ∀ x ∈ l ++ [q], x < n2 from fun q hq x h => by
    rcases List.mem_append.1 h with h | h
    · exact hx x h
    · simp at h; omega)
  have hk4 : k ≤ 3 := by omega
  clear hE hI hmany
  rcases List.eq_nil_or_concat l with hl | ⟨init, last, hl⟩
  · have hk0 : k = 0 := by rw [hk, hl]; rfl
    have HNX := Lib.hid (show nextOf l ≤ n2 by rw [hl]; exact Nat.zero_le _)
    have HFR := Lib.hid (show Value.int .i64 0 = Value.int .i64 ((nextOf l : Nat) : Int) by rw [hl]; rfl)
    clear hs hm hk hl hx
    subst hk0
    have ne0 : ((0 : Int) == many) = false := ne1
    clear ne1
    go_enter Tryd.func87, Tryd.ntmps87
    go_wp2_with fail
    try simp only [ne0]
    clear ne0
    go_loopg [10] (n2 - nextOf l) (fun n0 i wx => ∃ (q : Nat), q ≤ n2 ∧ n0 = n2 - q ∧ i = .int .i64 (q : Int) ∧ restL b d l q = leaveL b (d + 1) l ∧ Below W.heap.size W wx)
    case atStart => exact ⟨nextOf l, HNX.out, rfl, HFR.out, rfl, Below.refl _ _⟩
    case round =>
      obtain ⟨q, hq, hgk, rfl, hrest, hbx⟩ := hrel
      have HG2 := Lib.hid hgk
      have HRE := Lib.hid hrest
      have HER := Lib.hid (HE.out.below hbx)
      have HBX := Lib.hid hbx
      have z5 : wr.cell? ⟨PX, 5, none⟩ = some (.slice ka n2 kc) := blk_cell HER.out.hx
      have zl : wr.cell? ⟨PL, 0, none⟩ = some (.func (.func 87) #[] #[.pointer (some ⟨PX, 0, none⟩), .pointer (some ⟨PL, 0, none⟩)]) := blk_cell HER.out.hl
      have ltl : PL < wr.heap.size := (Array.getElem?_eq_some_iff.1 HER.out.hl).1
      clear hgk hrest hbx
      by_cases hlt : q < n2
      · obtain ⟨fd, hfd⟩ : ∃ fd, (leaveL b d (l ++ [q])).isSome = fd := ⟨_, rfl⟩
        have HFD := Lib.hid hfd
        clear hfd
        go_upto_region 10 with fail
        have HMX := Lib.hid (show many = ((0 + 1 + d : Nat) : Int) by rw [HMA.out]; congr 1; omega)
        have HSM := Lib.hid (show 0 + 1 ≤ maxLen by unfold maxLen; omega)
        have HSB := Lib.hid (show (0 + 1) * 8 ≤ 140737488355328 by omega)
        go_region_law (first
            | (go_simp
               refine (HI.out (l ++ [q]) w1 (some ⟨g, 0, none⟩) (0 + 1) cap w1.heap.size many B0 (HER.out.below HB1.out) (by rw [List.length_append, HK.out]; rfl) (by rw [natCells_append]; exact HS1.out) (Nat.le_refl _) ?hx2 (by omega) (HMX.out) (Nat.le_trans HB00.out (Nat.le_trans HBX.out.size HB1.out.size)) (own_new HG1.out)).mono ?_
               case hx2 => exact HXQ.out q hlt
               rintro e w2 ⟨ra, rl, rc, rfl, hb2, hr2⟩
               rw [HFD.out]
               have HRR := Lib.hid hr2
               have HBZ := Lib.hid (HBX.out.trans ((HB1.out.trans (hb2.mono HB1.out.size)).mono HBX.out.size))
               clear hb2 hr2
               go_simp)
            | (refine step_append_sl rfl (.tmp 46) (.tmp 48) 44 rfl 3 i3 (.int .i64 0) 1 8 Tryd.underlying44 i3a i3b i3c i3d rfl (by decide) HKL.out (HSX.out _ (HBX.out.drew.alloc HBX.out.size _)) [.int .i64 (q : Int)] rfl (by simp [Value.oneCell']) wr.heap.size (new_one _ _) HSM.out HSB.out (by simp [Act.eval]) (by simp [Act.eval]) ?_
               intro g cap w1 hs1 hb1 hg1
               have HG1 := Lib.hid (show B0 ≤ g from by have h1 := HBX.out.size; have h2 := HB00.out; simp at hg1; omega)
               clear hg1
               have hbv := bel3' hb1
               have zl1 : w1.cell? ⟨PL, 0, none⟩ = some (.func (.func 87) #[] #[.pointer (some ⟨PX, 0, none⟩), .pointer (some ⟨PL, 0, none⟩)]) := (hbv.cell (p := ⟨PL, 0, none⟩) ltl).trans zl
               have HS1 := Lib.hid hs1
               have HB1 := Lib.hid hbv
               clear hs1 hb1 hbv))
        all_goals
          rcases hcl : leaveL b d (l ++ [q]) with _ | r
          · have hf : fd = false := by rw [← HFD.out, hcl]; rfl
            have HCL := Lib.hid hcl
            clear hcl
            subst hf
            go_wp2_with fail
            go_roundg (n2 - (q + 1))
            case measure => rw [HG2.out]; omega
            case rel => exact ⟨q + 1, by omega, rfl, by go_num, by (have h := restL_step b d l (q := q) (by rw [← HE.out.hv.l2]; exact hlt)); rw [HCL.out] at h; rw [← HRE.out]; exact h.symm, HBZ.out⟩
          · have hf : fd = true := by rw [← HFD.out, hcl]; rfl
            have HCL := Lib.hid hcl
            clear hcl
            subst hf
            go_wp2_with fail
            refine bodyPost_ret (results_tmp2 rfl _ _ _) rfl ⟨ra, rl, rc, ?_, HBZ.out, ?_⟩
            · rw [← HRE.out, restL_step b d l (by rw [← HE.out.hv.l2]; exact hlt), HCL.out]; rfl
            · intro r' hr'
              rw [← HRE.out, restL_step b d l (by rw [← HE.out.hv.l2]; exact hlt), HCL.out] at hr'
              injection hr' with hr'
              subst hr'
              exact HRR.out _ HCL.out
      · go_wp2_with fail
        refine bodyPost_ret (results_tmp2 rfl _ _ _) rfl ⟨none, 0, 0, ?_, HBX.out, ?_⟩
        · rw [← HRE.out, restL_end b d l (by rw [← HE.out.hv.l2]; omega)]; rfl
        · intro r' hr'; rw [← HRE.out, restL_end b d l (by rw [← HE.out.hv.l2]; omega)] at hr'; cases hr'
  · have hl' : l = init ++ [last] := by rw [hl]; simp
    have hkk : k = init.length + 1 := by rw [hk, hl']; simp
    have hlast : last < n2 := hx last (by rw [hl']; simp)
    have hwk : IntKind.i64.wrap ((k : Int) - 1) = ((k - 1 : Nat) : Int) := by rw [IntWalk.i64_in _ (by omega)]; omega
    obtain ⟨bb, o, hla, hbb, hcc⟩ : ∃ bb o, la = some ⟨bb, o, none⟩ ∧ bb < m ∧ W.cell? ⟨bb, o + (k - 1), none⟩ = some (.int .i64 (last : Int)) := by
      obtain ⟨_, _, e, _, _, _, h5⟩ := hs
      injection e with e1 e2 e3
      obtain ⟨bb, o, h6, h7, h8⟩ := h5 (by omega)
      refine ⟨bb, o, e1.trans h6, h7, ?_⟩
      have := h8 (k - 1) 0 [.int .i64 (last : Int)] (.int .i64 (last : Int)) (by rw [hl', natCells_append, hkk, List.getElem?_append_right (by simp [natCells])]; simp [natCells]) rfl
      simpa using this
    have hk1 : ((k - 1 : Nat) : Int) < (k : Int) := by omega
    have HNX := Lib.hid (show nextOf l ≤ n2 by rw [hl', nextOf_concat]; omega)
    have HFR := Lib.hid (show Value.int .i64 ((last : Int) + 1) = Value.int .i64 ((nextOf l : Nat) : Int) by rw [hl', nextOf_concat]; simp)
    have hkpos : (0 : Int) < (k : Int) := by omega
    have hkp2 : ¬ ((k : Int) ≤ 0) := by omega
    have hl4 : last < 4 := by omega
    clear hs hm hk hl hl' hx hkk
    subst hla
    go_enter Tryd.func87, Tryd.ntmps87
    go_wp2_with fail
    try simp only [ne1]
    clear ne1
    go_loopg [10] (n2 - nextOf l) (fun n0 i wx => ∃ (q : Nat), q ≤ n2 ∧ n0 = n2 - q ∧ i = .int .i64 (q : Int) ∧ restL b d l q = leaveL b (d + 1) l ∧ Below W.heap.size W wx)
    case atStart => exact ⟨nextOf l, HNX.out, rfl, HFR.out, rfl, Below.refl _ _⟩
    case round =>
      obtain ⟨q, hq, hgk, rfl, hrest, hbx⟩ := hrel
      have HG2 := Lib.hid hgk
      have HRE := Lib.hid hrest
      have HER := Lib.hid (HE.out.below hbx)
      have HBX := Lib.hid hbx
      have z5 : wr.cell? ⟨PX, 5, none⟩ = some (.slice ka n2 kc) := blk_cell HER.out.hx
      have zl : wr.cell? ⟨PL, 0, none⟩ = some (.func (.func 87) #[] #[.pointer (some ⟨PX, 0, none⟩), .pointer (some ⟨PL, 0, none⟩)]) := blk_cell HER.out.hl
      have ltl : PL < wr.heap.size := (Array.getElem?_eq_some_iff.1 HER.out.hl).1
      clear hgk hrest hbx
      by_cases hlt : q < n2
      · obtain ⟨fd, hfd⟩ : ∃ fd, (leaveL b d (l ++ [q])).isSome = fd := ⟨_, rfl⟩
        have HFD := Lib.hid hfd
        clear hfd
        go_upto_region 10 with fail
        have HMX := Lib.hid (show many = ((k + 1 + d : Nat) : Int) by rw [HMA.out]; congr 1; omega)
        have HSM := Lib.hid (show k + 1 ≤ maxLen by unfold maxLen; omega)
        have HSB := Lib.hid (show (k + 1) * 8 ≤ 140737488355328 by omega)
        go_region_law (first
            | (go_simp
               refine (HI.out (l ++ [q]) w1 (some ⟨g, 0, none⟩) (k + 1) cap w1.heap.size many B0 (HER.out.below HB1.out) (by rw [List.length_append, HK.out]; rfl) (by rw [natCells_append]; exact HS1.out) (Nat.le_refl _) ?hx2 (by omega) (HMX.out) (Nat.le_trans HB00.out (Nat.le_trans HBX.out.size HB1.out.size)) (own_new HG1.out)).mono ?_
               case hx2 => exact HXQ.out q hlt
               rintro e w2 ⟨ra, rl, rc, rfl, hb2, hr2⟩
               rw [HFD.out]
               have HRR := Lib.hid hr2
               have HBZ := Lib.hid (HBX.out.trans ((HB1.out.trans (hb2.mono HB1.out.size)).mono HBX.out.size))
               clear hb2 hr2
               go_simp)
            | (refine step_append_sl rfl (.tmp 46) (.tmp 48) 44 rfl 3 i3 (.int .i64 0) 1 8 Tryd.underlying44 i3a i3b i3c i3d rfl (by decide) HKL.out (HSX.out _ (HBX.out.drew.alloc HBX.out.size _)) [.int .i64 (q : Int)] rfl (by simp [Value.oneCell']) wr.heap.size (new_one _ _) HSM.out HSB.out (by simp [Act.eval]) (by simp [Act.eval]) ?_
               intro g cap w1 hs1 hb1 hg1
               have HG1 := Lib.hid (show B0 ≤ g from by have h1 := HBX.out.size; have h2 := HB00.out; simp at hg1; omega)
               clear hg1
               have hbv := bel3' hb1
               have zl1 : w1.cell? ⟨PL, 0, none⟩ = some (.func (.func 87) #[] #[.pointer (some ⟨PX, 0, none⟩), .pointer (some ⟨PL, 0, none⟩)]) := (hbv.cell (p := ⟨PL, 0, none⟩) ltl).trans zl
               have HS1 := Lib.hid hs1
               have HB1 := Lib.hid hbv
               clear hs1 hb1 hbv))
        all_goals
          rcases hcl : leaveL b d (l ++ [q]) with _ | r
          · have hf : fd = false := by rw [← HFD.out, hcl]; rfl
            have HCL := Lib.hid hcl
            clear hcl
            subst hf
            go_wp2_with fail
            go_roundg (n2 - (q + 1))
            case measure => rw [HG2.out]; omega
            case rel => exact ⟨q + 1, by omega, rfl, by go_num, by (have h := restL_step b d l (q := q) (by rw [← HE.out.hv.l2]; exact hlt)); rw [HCL.out] at h; rw [← HRE.out]; exact h.symm, HBZ.out⟩
          · have hf : fd = true := by rw [← HFD.out, hcl]; rfl
            have HCL := Lib.hid hcl
            clear hcl
            subst hf
            go_wp2_with fail
            refine bodyPost_ret (results_tmp2 rfl _ _ _) rfl ⟨ra, rl, rc, ?_, HBZ.out, ?_⟩
            · rw [← HRE.out, restL_step b d l (by rw [← HE.out.hv.l2]; exact hlt), HCL.out]; rfl
            · intro r' hr'
              rw [← HRE.out, restL_step b d l (by rw [← HE.out.hv.l2]; exact hlt), HCL.out] at hr'
              injection hr' with hr'
              subst hr'
              exact HRR.out _ HCL.out
      · go_wp2_with fail
        refine bodyPost_ret (results_tmp2 rfl _ _ _) rfl ⟨none, 0, 0, ?_, HBX.out, ?_⟩
        · rw [← HRE.out, restL_end b d l (by rw [← HE.out.hv.l2]; omega)]; rfl
        · intro r' hr'; rw [← HRE.out, restL_end b d l (by rw [← HE.out.hv.l2]; omega)] at hr'; cases hr'
theorem leave_any {b : Bk} {n : Nat} {sa ka : Option Addr} {n1 sc n2 kc PX PL : Nat} (hS : Sound b) (h4 : n2 ≤ 4) : ∀ d, LeaveAt b n sa ka n1 sc n2 kc PX PL d
  | 0 => leave_zero hS h4
  | d + 1 => leave_succ h4 (leave_any hS h4 d)
end Go.Proofs.YtbhjfojbjpbdbaaDoor
namespace Go.Proofs.YtbhjfojbjpbdbaaDoor
open Go.RowKit
theorem SlOf.cut {W : World} {m : Nat} {ra : Option Addr} {rl rc : Nat} {rows : List (List Value)} (h : SlOf W m 1 (.slice ra rl rc) rows) : SlOf W m 1 (.slice ra rl rl) rows ∧ rl ≤ rc ∧ rl ≤ maxLen := by
  obtain ⟨a, c, e, h1, h2, h3, h4⟩ := h
  injection e with e1 e2 e3
  subst e1; subst e2; subst e3
  exact ⟨⟨ra, rows.length, rfl, Nat.le_refl _, by omega, h3, h4⟩, h1, h2⟩
theorem own_cut {B0 : Nat} {ra : Option Addr} {rl rc : Nat} (h : ∀ g, (Value.slice ra rl rc).ownBlock = some g → B0 ≤ g) : ∀ g, (Value.slice ra rl rl).ownBlock = some g → B0 ≤ g := fun g e => h g (by
  cases ra with
  | none => simp [Value.ownBlock] at e
  | some a => simpa [Value.ownBlock] using e)
theorem wrongFrom_step (b : Bk) {q N : Nat} (h : q < N) : wrongFrom b q (N - q) = match leaveL b q [] with | some r => some r | none => wrongFrom b (q + 1) (N - (q + 1)) := by
  rw [show N - q = (N - (q + 1)) + 1 by omega, wrongFrom]
  all_goals (cases leaveL b q [] <;> rfl)
set_option maxRecDepth 100000 in
set_option maxHeartbeats 4000000 in
theorem wrong_own (W : World) (b : Bk) (n : Nat) (sa ka : Option Addr) (n1 sc n2 kc : Nat) (hv : BookW W n sa ka n1 sc n2 kc b) (hG : Glob W) :
    Calls Tryd.prog 38 #[.agg (b.cells (.slice sa n1 sc) (.slice ka n2 kc)).toArray] W fun e W' => ∃ (ra : Option Addr) (rl rc : Nat), e = .returned (.tuple #[.slice ra rl rc, .int .i64 (wrongS b).2]) ∧ Below W.heap.size W W' ∧
      SlOf W' W'.heap.size 1 (.slice ra rl rc) (natCells (wrongS b).1) ∧ ∀ g, (Value.slice ra rl rc).ownBlock = some g → W.heap.size ≤ g := by
  obtain ⟨V, hV⟩ : ∃ V, W.alloc (Obj.cells #[.slice sa n1 sc, .int .i64 b.wth, .int .i64 b.c0, .int .i64 b.c1, .int .i64 b.c2, .slice ka n2 kc, .int .i64 b.rate] 26) = V := ⟨_, rfl⟩
  have hBV : Below W.heap.size W V := by rw [← hV]; exact (Below.refl _ _).alloc (Nat.le_refl _) _
  have hb0 : V.heap[W.heap.size]? = some (Obj.cells #[.slice sa n1 sc, .int .i64 b.wth, .int .i64 b.c0, .int .i64 b.c1, .int .i64 b.c2, .slice ka n2 kc, .int .i64 b.rate] 26) := by rw [← hV]; exact World.alloc_heap_new _ _
  have hVz : W.heap.size < V.heap.size := (Array.getElem?_eq_some_iff.1 hb0).1
  have HGV := Lib.hid (hG.below hG.lt hBV)
  have HVB := Lib.hid (hv.below hv.hn hBV)
  have HN := Lib.hid hv.hn
  have c0 : V.cell? ⟨W.heap.size, 0, none⟩ = some (.slice sa n1 sc) := blk_cell hb0
  have c1 : V.cell? ⟨W.heap.size, 1, none⟩ = some (.int .i64 b.wth) := blk_cell hb0
  have c2 : V.cell? ⟨W.heap.size, 2, none⟩ = some (.int .i64 b.c0) := blk_cell hb0
  have c3 : V.cell? ⟨W.heap.size, 3, none⟩ = some (.int .i64 b.c1) := blk_cell hb0
  have c4 : V.cell? ⟨W.heap.size, 4, none⟩ = some (.int .i64 b.c2) := blk_cell hb0
  have c5 : V.cell? ⟨W.heap.size, 5, none⟩ = some (.slice ka n2 kc) := blk_cell hb0
  have c6 : V.cell? ⟨W.heap.size, 6, none⟩ = some (.int .i64 b.rate) := blk_cell hb0
  have HB0 := Lib.hid hb0
  clear hb0 hv hG
  simp only [Bk.cells]
  by_cases hok : bkOk b = true
  · have HCK := Lib.hid (show checkS b = 0 by simp [checkS, hok])
    have HSO := Lib.hid (sound_of hok)
    have HR := Lib.hid (show wrongS b = (wrongL b, 0) by simp [wrongS, hok])
    have h4 : n2 ≤ 4 := by have h := HVB.out.l2; have h2 := bkOk_head hok; omega
    have HL2 := Lib.hid HVB.out.l2
    clear hok
    go_enter Tryd.func38, Tryd.ntmps38
    go_upto_region 1 with fail
    try rw [hV]
    clear hV
    go_upto_region 6 with (first
      | (go_at_call 17; refine (check_any _ _ b HVB.out.v).mono ?_; rintro e w1 ⟨rfl, hb1⟩; rw [HCK.out]; have hk1 := (bcell hb1).1; have hz1 := Nat.lt_of_lt_of_le hVz hb1.size; have HB1 := Lib.hid hb1; clear hb1)
      | fail)
    obtain ⟨PL, hPL⟩ : ∃ PL, w1.heap.size = PL := ⟨_, rfl⟩
    obtain ⟨X, hX⟩ : ∃ X, w1.alloc (.cells #[.func (.func 87) #[] #[.pointer (some ⟨W.heap.size, 0, none⟩), .pointer (some ⟨w1.heap.size, 0, none⟩)]] 108) = X := ⟨_, rfl⟩
    have hl : X.heap[w1.heap.size]? = some (.cells #[.func (.func 87) #[] #[.pointer (some ⟨W.heap.size, 0, none⟩), .pointer (some ⟨w1.heap.size, 0, none⟩)]] 108) := by rw [← hX]; exact World.alloc_heap_new _ _
    have hBX : Below V.heap.size V X := by rw [← hX]; exact HB1.out.alloc HB1.out.size _
    try rw [hX]
    have hEX : LEnv b n sa ka n1 sc n2 kc W.heap.size w1.heap.size X := ⟨HVB.out.below HVB.out.hn hBX, HGV.out.below HGV.out.lt hBX, (hBX.block _ hVz).trans HB0.out, hl⟩
    rw [hPL] at hEX hl ⊢
    have HEX := Lib.hid hEX
    have HBW := Lib.hid (hBV.trans (hBX.mono hBV.size))
    have x5 : X.cell? ⟨W.heap.size, 5, none⟩ = some (.slice ka n2 kc) := blk_cell hEX.hx
    clear hX hl hBX hEX hk1 hz1 hPL c0 c1 c2 c3 c4 c5 c6 HB1
    go_wp2_with fail
    go_loopg [19] (n2 + 1) (fun n0 i wx => ∃ (q : Nat), q ≤ n2 + 1 ∧ n0 = n2 + 1 - q ∧ i = .int .i64 (q : Int) ∧ wrongFrom b q (n2 + 1 - q) = wrongFrom b 0 (n2 + 1) ∧ Below X.heap.size X wx)
    case atStart => exact ⟨0, by omega, rfl, rfl, rfl, Below.refl _ _⟩
    case round =>
      obtain ⟨q, hq, hgk, rfl, hrest, hbx⟩ := hrel
      have HG2 := Lib.hid hgk
      have HRE := Lib.hid hrest
      have HER := Lib.hid (HEX.out.below hbx)
      have HBX := Lib.hid hbx
      have zl : wr.cell? ⟨PL, 0, none⟩ = some (.func (.func 87) #[] #[.pointer (some ⟨W.heap.size, 0, none⟩), .pointer (some ⟨PL, 0, none⟩)]) := blk_cell HER.out.hl
      clear hgk hrest hbx
      by_cases hlt : q < n2 + 1
      · have hqi : (q : Int) < (n2 : Int) + 1 := by omega
        have HCALL := Lib.hid (leave_any HSO.out h4 q [] wr none 0 0 0 (q : Int) W.heap.size HER.out rfl ⟨none, 0, rfl, Nat.le_refl _, by simp [maxLen, natCells], by simp [natCells], fun h => absurd h (by simp [natCells])⟩ (Nat.zero_le _) (by simp) (by omega) (by simp) (Nat.le_trans HBW.out.size HBX.out.size) (fun g e => by simp [Value.ownBlock] at e))
        rcases hcl : leaveL b q [] with _ | r
        · have HCL := Lib.hid hcl
          clear hcl
          go_wp2_with fail
          refine HCALL.out.mono ?_
          rintro e w2 ⟨ra, rl, rc, rfl, hb2, _⟩
          rw [HCL.out]
          have HB2 := Lib.hid hb2
          clear hb2
          simp only [Option.isSome]
          go_wp2_with fail
          go_roundg (n2 + 1 - (q + 1))
          case measure => rw [HG2.out]; omega
          case rel => exact ⟨q + 1, by omega, rfl, by go_num, by (have h := wrongFrom_step b hlt); rw [HCL.out] at h; rw [← HRE.out]; exact h.symm, HBX.out.trans (HB2.out.mono HBX.out.size)⟩
        · have HCL := Lib.hid hcl
          clear hcl
          go_wp2_with fail
          refine HCALL.out.mono ?_
          rintro e w2 ⟨ra, rl, rc, rfl, hb2, hr⟩
          obtain ⟨hs1, hs2, hs3⟩ := (hr r HCL.out).1.cut
          have HNW := Lib.hid (hr r HCL.out).2
          unfold maxLen at hs3
          rw [HCL.out]
          have HB2 := Lib.hid hb2
          have HS1 := Lib.hid hs1
          clear hb2 hr hs1
          simp only [Option.isSome]
          go_wp2_with fail
          refine bodyPost_ret (results_tmp2 rfl _ _ _) rfl ⟨ra, rl, rl, ?_, HBW.out.trans ((HBX.out.trans (HB2.out.mono HBX.out.size)).mono HBW.out.size), ?_⟩
          · rw [HR.out]; rfl
          · have h := wrongFrom_step b hlt
            rw [HCL.out, HRE.out] at h
            have hw : (wrongS b).1 = r := by rw [HR.out]; show wrongL b = r; rw [wrongL_eq, ← HL2.out, h]; rfl
            rw [hw]
            exact ⟨HS1.out, own_cut HNW.out⟩
      · have hqi : ¬ (q : Int) < (n2 : Int) + 1 := by omega
        go_wp2_with fail
        refine bodyPost_ret (results_tmp2 rfl _ _ _) rfl ⟨none, 0, 0, ?_, HBW.out.trans (HBX.out.mono HBW.out.size), ?_⟩
        · rw [HR.out]; rfl
        · have h := HRE.out
          rw [show n2 + 1 - q = 0 by omega] at h
          have hw : (wrongS b).1 = [] := by rw [HR.out]; show wrongL b = []; rw [wrongL_eq, ← HL2.out, ← h]; cases q <;> rfl
          rw [hw]
          exact ⟨slOf_nil _ _ _, fun g e => by simp [Value.ownBlock] at e⟩
  · have HCK := Lib.hid (show checkS b = 60 by simp [checkS, hok])
    have HR := Lib.hid (show wrongS b = ([], 60) by simp [wrongS, hok])
    clear hok
    go_enter Tryd.func38, Tryd.ntmps38
    go_upto_region 1 with fail
    try rw [hV]
    clear hV
    go_wp2_with (first
      | (go_at_call 17; refine (check_any _ _ b HVB.out.v).mono ?_; rintro e w1 ⟨rfl, hb1⟩; rw [HCK.out]; have HB1 := Lib.hid hb1; clear hb1)
      | fail)
    refine bodyPost_ret (results_tmp2 rfl _ _ _) rfl ⟨none, 0, 0, ?_, hBV.trans (HB1.out.mono hBV.size), ?_⟩
    · rw [HR.out]; rfl
    · rw [HR.out]; exact ⟨slOf_nil _ _ _, fun g e => by simp [Value.ownBlock] at e⟩
theorem wrong_ex (W : World) (b : Bk) (n : Nat) (sa ka : Option Addr) (n1 sc n2 kc : Nat) (hv : BookW W n sa ka n1 sc n2 kc b) (hG : Glob W) :
    Calls Tryd.prog 38 #[.agg (b.cells (.slice sa n1 sc) (.slice ka n2 kc)).toArray] W fun e W' => ∃ (ra : Option Addr) (rl rc : Nat), e = .returned (.tuple #[.slice ra rl rc, .int .i64 (wrongS b).2]) ∧ Below W.heap.size W W' ∧
      SlOf W' W'.heap.size 1 (.slice ra rl rc) (natCells (wrongS b).1) :=
  (wrong_own W b n sa ka n1 sc n2 kc hv hG).mono fun _ _ ⟨ra, rl, rc, h1, h2, h3, _⟩ => ⟨ra, rl, rc, h1, h2, h3⟩
end Go.Proofs.YtbhjfojbjpbdbaaDoor
namespace Go.Proofs.YtbhjfojbjpbdbaaDoor
open Go.RowKit
theorem bel1 {V w1 : World} (h : Below V.drew.heap.size V.drew w1) : Below V.heap.size V w1 := ((Below.refl V.heap.size V).drew).trans h
theorem bel2 {V w1 : World} (h : Below V.drew.heap.size V.drew w1) (o : Obj) : Below V.heap.size V (w1.alloc o) := (bel1 h).alloc h.size o
theorem bel3 {V w1 : World} {o : Obj} (h : Below (V.alloc o).drew.heap.size (V.alloc o).drew w1) : Below V.heap.size V w1 := (((Below.refl V.heap.size V).alloc (Nat.le_refl _) o).drew).trans (h.mono (by show V.heap.size ≤ (V.alloc o).heap.size; simp))
theorem bel4 {V w1 : World} {o : Obj} (h : Below (V.alloc o).drew.heap.size (V.alloc o).drew w1) : V.heap.size < w1.heap.size := Nat.lt_of_lt_of_le (show V.heap.size < (V.alloc o).heap.size by simp) h.size
theorem bel5 {V w1 : World} {o : Obj} (h : Below (V.alloc o).heap.size (V.alloc o) w1) : V.heap.size < w1.heap.size := Nat.lt_of_lt_of_le (by simp) h.size
set_option maxRecDepth 100000 in
set_option maxHeartbeats 4000000 in
theorem fits_ex (W : World) (b : Bk) (c : Ck) (n : Nat) (sa ka : Option Addr) (n1 sc n2 kc : Nat) (hv : BookW W n sa ka n1 sc n2 kc b) (hG : Glob W) :
    Calls Tryd.prog 36 #[.agg (b.cells (.slice sa n1 sc) (.slice ka n2 kc)).toArray, .agg c.cells.toArray] W fun e W' => e = .returned (.tuple #[.bool (fitsS b c).1, .int .i64 (fitsS b c).2]) ∧ Below W.heap.size W W' := by
  obtain ⟨V, hV⟩ : ∃ V, (W.alloc (Obj.cells #[.slice sa n1 sc, .int .i64 b.wth, .int .i64 b.c0, .int .i64 b.c1, .int .i64 b.c2, .slice ka n2 kc, .int .i64 b.rate] 26)).alloc (Obj.cells #[Value.int .i64 c.st, Value.int .i64 c.rd, Value.int .i64 c.er] 42) = V := ⟨_, rfl⟩
  have hBV : Below W.heap.size W V := by rw [← hV]; exact ((Below.refl _ _).alloc (Nat.le_refl _) _).alloc (by simp) _
  have hb0 : V.heap[W.heap.size]? = some (Obj.cells #[.slice sa n1 sc, .int .i64 b.wth, .int .i64 b.c0, .int .i64 b.c1, .int .i64 b.c2, .slice ka n2 kc, .int .i64 b.rate] 26) := by rw [← hV]; exact (heap_alloc_old _ _ (by simp)).trans (World.alloc_heap_new _ _)
  have hVz : W.heap.size < V.heap.size := (Array.getElem?_eq_some_iff.1 hb0).1
  have HGV := Lib.hid (hG.below hG.lt hBV)
  have HVB := Lib.hid (hv.below hv.hn hBV)
  have HN := Lib.hid hv.hn
  have c0 : V.cell? ⟨W.heap.size, 0, none⟩ = some (.slice sa n1 sc) := blk_cell hb0
  have c1 : V.cell? ⟨W.heap.size, 1, none⟩ = some (.int .i64 b.wth) := blk_cell hb0
  have c2 : V.cell? ⟨W.heap.size, 2, none⟩ = some (.int .i64 b.c0) := blk_cell hb0
  have c3 : V.cell? ⟨W.heap.size, 3, none⟩ = some (.int .i64 b.c1) := blk_cell hb0
  have c4 : V.cell? ⟨W.heap.size, 4, none⟩ = some (.int .i64 b.c2) := blk_cell hb0
  have c5 : V.cell? ⟨W.heap.size, 5, none⟩ = some (.slice ka n2 kc) := blk_cell hb0
  have c6 : V.cell? ⟨W.heap.size, 6, none⟩ = some (.int .i64 b.rate) := blk_cell hb0
  have hi0 : V.heap[W.heap.size + 1]? = some (Obj.cells #[Value.int .i64 c.st, Value.int .i64 c.rd, Value.int .i64 c.er] 42) := by rw [← hV]; have := World.alloc_heap_new (W.alloc (Obj.cells #[.slice sa n1 sc, .int .i64 b.wth, .int .i64 b.c0, .int .i64 b.c1, .int .i64 b.c2, .slice ka n2 kc, .int .i64 b.rate] 26)) (Obj.cells #[Value.int .i64 c.st, Value.int .i64 c.rd, Value.int .i64 c.er] 42); rwa [World.size_alloc] at this
  have hVx : W.heap.size + 1 < V.heap.size := (Array.getElem?_eq_some_iff.1 hi0).1
  have d0 : V.cell? ⟨W.heap.size + 1, 0, none⟩ = some (.int .i64 c.st) := blk_cell hi0
  have d1 : V.cell? ⟨W.heap.size + 1, 1, none⟩ = some (.int .i64 c.rd) := blk_cell hi0
  have d2 : V.cell? ⟨W.heap.size + 1, 2, none⟩ = some (.int .i64 c.er) := blk_cell hi0
  have HI0 := Lib.hid hi0
  have HB0 := Lib.hid hb0
  have hn1 : n1 ≤ maxLen := by obtain ⟨_, _, e, h1, h2, _⟩ := hv.hs; injection e with _ e2 _; omega
  have HN1 := Lib.hid hn1
  have HL1 := Lib.hid hv.l1
  have BZ := Lib.hid (show ∀ w, Below V.heap.size V w → BookW w n sa ka n1 sc n2 kc b from fun w h => HVB.out.below HVB.out.hn h)
  have GZ := Lib.hid (show ∀ w, Below V.heap.size V w → Glob w from fun w h => HGV.out.below HGV.out.lt h)
  clear hv hG hb0 hi0 hn1
  simp only [Bk.cells, Ck.cells]
  go_enter Tryd.func36, Tryd.ntmps36
  go_upto_region 1 with fail
  try rw [hV]
  clear hV
  rename_i Q' K1 aK1 K aK
  have hkey : ∀ (P8 : Nat) (X : World) (u9 u14 u15 : Value) (E : Int), E = askE b (ckOk n1 c) → Below V.heap.size V X →
      Exit.then K (Exit.then K1 Q') Exit.normal { tmps := #[.agg #[.slice sa n1 sc, .int .i64 b.wth, .int .i64 b.c0, .int .i64 b.c1, .int .i64 b.c2, .slice ka n2 kc, .int .i64 b.rate], .agg #[.int .i64 c.st, .int .i64 c.rd, .int .i64 c.er], .pointer (some ⟨W.heap.size, 0, none⟩), .pointer (some ⟨W.heap.size + 1, 0, none⟩), .bool false, .int .i64 0, .pointer (some ⟨P8, 0, none⟩), .int .i64 E, undef, u9,
        .agg #[.slice sa n1 sc, .int .i64 b.wth, .int .i64 b.c0, .int .i64 b.c1, .int .i64 b.c2, .slice ka n2 kc, .int .i64 b.rate], .agg #[.slice sa n1 sc, .int .i64 b.wth, .int .i64 b.c0, .int .i64 b.c1, .int .i64 b.c2, .slice ka n2 kc, .int .i64 b.rate], .agg #[.int .i64 c.st, .int .i64 c.rd, .int .i64 c.er], .bool (ckOk n1 c), u14, u15, .int .i64 E, undef, undef, undef, undef, undef, undef, undef, undef, undef, undef, undef, undef, undef, undef, undef, undef, undef, undef, undef, undef, undef, undef], defers := [] } X := by
    clear d0 d1 d2 c0 c1 c2 c3 c4 c5 c6
    intro P8 X u9 u14 u15 E hE hBX
    have hBW := hBV.trans (hBX.mono hBV.size)
    have hb0 : X.heap[W.heap.size]? = some (Obj.cells #[.slice sa n1 sc, .int .i64 b.wth, .int .i64 b.c0, .int .i64 b.c1, .int .i64 b.c2, .slice ka n2 kc, .int .i64 b.rate] 26) := (hBX.block _ hVz).trans HB0.out
    have hi0 : X.heap[W.heap.size + 1]? = some (Obj.cells #[Value.int .i64 c.st, Value.int .i64 c.rd, Value.int .i64 c.er] 42) := (hBX.block _ hVx).trans HI0.out
    have hlt0 : W.heap.size < X.heap.size := (Array.getElem?_eq_some_iff.1 hb0).1
    have hlt1 : W.heap.size + 1 < X.heap.size := (Array.getElem?_eq_some_iff.1 hi0).1
    have e0 : X.cell? ⟨W.heap.size, 0, none⟩ = some (.slice sa n1 sc) := blk_cell hb0
    have e1 : X.cell? ⟨W.heap.size, 1, none⟩ = some (.int .i64 b.wth) := blk_cell hb0
    have e2 : X.cell? ⟨W.heap.size, 2, none⟩ = some (.int .i64 b.c0) := blk_cell hb0
    have e3 : X.cell? ⟨W.heap.size, 3, none⟩ = some (.int .i64 b.c1) := blk_cell hb0
    have e4 : X.cell? ⟨W.heap.size, 4, none⟩ = some (.int .i64 b.c2) := blk_cell hb0
    have e5 : X.cell? ⟨W.heap.size, 5, none⟩ = some (.slice ka n2 kc) := blk_cell hb0
    have e6 : X.cell? ⟨W.heap.size, 6, none⟩ = some (.int .i64 b.rate) := blk_cell hb0
    by_cases hE0 : E = 0
    · have hask : askE b (ckOk n1 c) = 0 := by rw [← hE, hE0]
      have hok : bkOk b = true ∧ ckOk n1 c = true := by
        unfold askE at hask
        split at hask
        · rename_i h1
          split at hask
          · rename_i h2; exact ⟨h1, h2⟩
          · cases hask
        · cases hask
      have hSw : Sound (b.with c) := (sound_of hok.1).with (by
        have h1 := hok.2
        have h2 := bkOk_head hok.1
        have h3 := HL1.out
        simp only [ckOk, within, Bool.and_eq_true, decide_eq_true_iff] at h1
        omega) (by have h2 := bkOk_head hok.1; omega)
      have hF : fitsS b c = (!(truths (b.with c)).isEmpty, 0) := by
        unfold fitsS
        rw [← HL1.out, if_pos hask]
      have HF := Lib.hid hF
      have HSW := Lib.hid hSw
      have hn2 : n2 ≤ 4 := by have h := (BZ.out V (Below.refl _ _)).l2; have h2 := bkOk_head hok.1; omega
      have hn2c : n2 ≤ kc := by obtain ⟨_, _, e, _, h1, _⟩ := (BZ.out V (Below.refl _ _)).hk; injection e with _ e2 e3; omega
      clear hE hask hok hF hSw
      subst hE0
      go_upto_region 5 with fail
      obtain ⟨Y, hY⟩ : ∃ Y, X.alloc (Obj.cells #[.slice sa n1 sc, .int .i64 b.wth, .int .i64 b.c0, .int .i64 b.c1, .int .i64 b.c2, .slice ka n2 kc, .int .i64 b.rate] 26) = Y := ⟨_, rfl⟩
      have hBY : Below X.heap.size X Y := by rw [← hY]; exact (Below.refl _ _).alloc (Nat.le_refl _) _
      have hyb : Y.heap[X.heap.size]? = some (Obj.cells #[.slice sa n1 sc, .int .i64 b.wth, .int .i64 b.c0, .int .i64 b.c1, .int .i64 b.c2, .slice ka n2 kc, .int .i64 b.rate] 26) := by rw [← hY]; exact World.alloc_heap_new _ _
      have hyz : X.heap.size < Y.heap.size := (Array.getElem?_eq_some_iff.1 hyb).1
      have y5 : Y.cell? ⟨W.heap.size, 5, none⟩ = some (.slice ka n2 kc) := (hBY.cell (p := ⟨W.heap.size, 5, none⟩) hlt0).trans e5
      have g0 : Y.cell? ⟨W.heap.size + 1, 0, none⟩ = some (.int .i64 c.st) := (hBY.cell (p := ⟨W.heap.size + 1, 0, none⟩) hlt1).trans (blk_cell hi0)
      have g1 : Y.cell? ⟨W.heap.size + 1, 1, none⟩ = some (.int .i64 c.rd) := (hBY.cell (p := ⟨W.heap.size + 1, 1, none⟩) hlt1).trans (blk_cell hi0)
      have g2 : Y.cell? ⟨W.heap.size + 1, 2, none⟩ = some (.int .i64 c.er) := (hBY.cell (p := ⟨W.heap.size + 1, 2, none⟩) hlt1).trans (blk_cell hi0)
      rw [hY]
      have ltY0 : W.heap.size < Y.heap.size := by omega
      have ltY1 : W.heap.size + 1 < Y.heap.size := by omega
      have hVY : Below V.heap.size V Y := hBX.trans (hBY.mono hBX.size)
      obtain ⟨W1, hW1⟩ : ∃ W1, Y.drew.alloc (Obj.cells #[Value.int .i64 c.st, Value.int .i64 c.rd, Value.int .i64 c.er] 42) = W1 := ⟨_, rfl⟩
      have hB1 : Below Y.heap.size Y W1 := by rw [← hW1]; exact ((Below.refl Y.heap.size Y).drew).alloc (Nat.le_refl _) _
      have hn1' : W1.heap[Y.heap.size]? = some (Obj.cells #[Value.int .i64 c.st, Value.int .i64 c.rd, Value.int .i64 c.er] 42) := by rw [← hW1]; exact World.alloc_heap_new Y.drew _
      obtain ⟨i42, i42a, i42b, i42c, i42d⟩ := info_parts info42
      have hV1 : Below V.heap.size V W1 := hVY.trans (hB1.mono hVY.size)
      obtain ⟨g, cap, W2, hrun, hsl, hb2, hg1, hg2⟩ := append_sl (P := Tryd.prog) (w := W1) 24 24 42 i42 _ 3 24 Tryd.underlying24 i42a i42b i42c i42d rfl (by decide) (by rw [(BZ.out V (Below.refl _ _)).l2]; simp [ckCells]) (BZ.out W1 hV1).hk c.cells rfl (by simp [Ck.cells, Value.oneCell']) Y.heap.size
        (fun j u hj => by rw [blk_cell hn1']; simpa [Ck.cells] using hj) (by unfold maxLen; omega) (by omega)
      have hz1 : Y.heap.size < W1.heap.size := (Array.getElem?_eq_some_iff.1 hn1').1
      have hB2 : Below Y.heap.size Y W2 := hB1.trans (hb2.mono hB1.size)
      obtain ⟨W3, hW3⟩ : ∃ W3, W2.setCell ⟨X.heap.size, 5, none⟩ (.slice (some ⟨g, 0, none⟩) (n2 + 1) cap) = W3 := ⟨_, rfl⟩
      have HW3 := Lib.hid hW3
      have HW1 := Lib.hid hW1
      have HRUN := Lib.hid hrun
      have HSL := Lib.hid hsl
      have HYB := Lib.hid hyb
      have HC := Lib.hid (show ∀ (L : Nat → Bool) (w : World), L 13 = false → w = (if L 13 = true then W3 else if L 11 = true then W2 else if L 10 = true then W1 else Y.drew) → ∀ bl o, bl < Y.heap.size → w.cell? ⟨bl, o, none⟩ = Y.cell? ⟨bl, o, none⟩ from fun L w h hw bl o hbl => by
        rw [hw, if_neg (by simp [h])]
        split
        · exact hB2.cell (p := ⟨bl, o, none⟩) hbl
        · split
          · exact hB1.cell (p := ⟨bl, o, none⟩) hbl
          · rfl)
      have HB2Y := Lib.hid hB2
      have HBY := Lib.hid hBY
      have HG1 := Lib.hid hg1
      have HG2 := Lib.hid hg2
      clear hrun hsl hyb hb2 hB1 hB2 hn1' hW1 hY hW3 hBY hz1 hg1 hg2
      refine wp_region_det (S := fun L w => w = (if L 13 = true then W3 else if L 11 = true then W2 else if L 10 = true then W1 else Y.drew)) (by kernel_rfl) (by kernel_rfl) (by simp) ?_
      apply det_cons
      · refine ⟨by rfl, fun L w hN hS => ?_⟩
        have h13 : L 13 = false := (hN.chain (hN.chain (hN.chain (hN.chain hN.free (k := 1) (by kernel_rfl)) (k := 8) (by kernel_rfl)) (k := 11) (by kernel_rfl)) (k := 13) (by kernel_rfl))
        have hcc := HC.out L w h13 hS
        have HS := Lib.hid hS
        clear hS h13
        go_simp
        exact ⟨rfl, fun L' h1 h2 => by show _ = (if L' 13 = true then _ else if L' 11 = true then _ else if L' 10 = true then _ else _); rw [h2 13 (by decide), h2 11 (by decide), h2 10 (by decide)]; exact HS.out⟩
      try simp only [Act.put, List.setIfInBounds_toArray, List.set_cons_zero, List.set_cons_succ]
      apply det_cons
      · refine ⟨by rfl, fun L w hN hS => ?_⟩
        have h13 : L 13 = false := (hN.chain (hN.chain (hN.chain hN.free (k := 8) (by kernel_rfl)) (k := 11) (by kernel_rfl)) (k := 13) (by kernel_rfl))
        have hcc := HC.out L w h13 hS
        have HS := Lib.hid hS
        clear hS h13
        go_simp
        exact ⟨rfl, fun L' h1 h2 => by show _ = (if L' 13 = true then _ else if L' 11 = true then _ else if L' 10 = true then _ else _); rw [h2 13 (by decide), h2 11 (by decide), h2 10 (by decide)]; exact HS.out⟩
      try simp only [Act.put, List.setIfInBounds_toArray, List.set_cons_zero, List.set_cons_succ]
      apply det_cons
      · refine ⟨by rfl, fun L w hN hS => ?_⟩
        have h13 : L 13 = false := (hN.chain (hN.chain (hN.chain (hN.chain (hN.chain hN.free (k := 3) (by kernel_rfl)) (k := 4) (by kernel_rfl)) (k := 8) (by kernel_rfl)) (k := 11) (by kernel_rfl)) (k := 13) (by kernel_rfl))
        have hcc := HC.out L w h13 hS
        have HS := Lib.hid hS
        clear hS h13
        go_simp
        exact ⟨rfl, fun L' h1 h2 => by show _ = (if L' 13 = true then _ else if L' 11 = true then _ else if L' 10 = true then _ else _); rw [h2 13 (by decide), h2 11 (by decide), h2 10 (by decide)]; exact HS.out⟩
      try simp only [Act.put, List.setIfInBounds_toArray, List.set_cons_zero, List.set_cons_succ]
      apply det_cons
      · refine ⟨by rfl, fun L w hN hS => ?_⟩
        have h13 : L 13 = false := (hN.chain (hN.chain (hN.chain (hN.chain hN.free (k := 4) (by kernel_rfl)) (k := 8) (by kernel_rfl)) (k := 11) (by kernel_rfl)) (k := 13) (by kernel_rfl))
        have hcc := HC.out L w h13 hS
        have HS := Lib.hid hS
        clear hS h13
        go_simp
        exact ⟨rfl, fun L' h1 h2 => by show _ = (if L' 13 = true then _ else if L' 11 = true then _ else if L' 10 = true then _ else _); rw [h2 13 (by decide), h2 11 (by decide), h2 10 (by decide)]; exact HS.out⟩
      try simp only [Act.put, List.setIfInBounds_toArray, List.set_cons_zero, List.set_cons_succ]
      apply det_cons
      · refine ⟨by rfl, fun L w hN hS => ?_⟩
        have h13 : L 13 = false := (hN.chain (hN.chain (hN.chain hN.free (k := 8) (by kernel_rfl)) (k := 11) (by kernel_rfl)) (k := 13) (by kernel_rfl))
        have hcc := HC.out L w h13 hS
        have HS := Lib.hid hS
        clear hS h13
        go_simp
        exact ⟨rfl, fun L' h1 h2 => by show _ = (if L' 13 = true then _ else if L' 11 = true then _ else if L' 10 = true then _ else _); rw [h2 13 (by decide), h2 11 (by decide), h2 10 (by decide)]; exact HS.out⟩
      try simp only [Act.put, List.setIfInBounds_toArray, List.set_cons_zero, List.set_cons_succ]
      apply det_cons
      · refine ⟨by rfl, fun L w hN hS => ?_⟩
        have h13 : L 13 = false := (hN.chain (hN.chain (hN.chain (hN.chain (hN.chain hN.free (k := 6) (by kernel_rfl)) (k := 7) (by kernel_rfl)) (k := 8) (by kernel_rfl)) (k := 11) (by kernel_rfl)) (k := 13) (by kernel_rfl))
        have hcc := HC.out L w h13 hS
        have HS := Lib.hid hS
        clear hS h13
        go_simp
        exact ⟨rfl, fun L' h1 h2 => by show _ = (if L' 13 = true then _ else if L' 11 = true then _ else if L' 10 = true then _ else _); rw [h2 13 (by decide), h2 11 (by decide), h2 10 (by decide)]; exact HS.out⟩
      try simp only [Act.put, List.setIfInBounds_toArray, List.set_cons_zero, List.set_cons_succ]
      apply det_cons
      · refine ⟨by rfl, fun L w hN hS => ?_⟩
        have h13 : L 13 = false := (hN.chain (hN.chain (hN.chain (hN.chain hN.free (k := 7) (by kernel_rfl)) (k := 8) (by kernel_rfl)) (k := 11) (by kernel_rfl)) (k := 13) (by kernel_rfl))
        have hcc := HC.out L w h13 hS
        have HS := Lib.hid hS
        clear hS h13
        go_simp
        exact ⟨rfl, fun L' h1 h2 => by show _ = (if L' 13 = true then _ else if L' 11 = true then _ else if L' 10 = true then _ else _); rw [h2 13 (by decide), h2 11 (by decide), h2 10 (by decide)]; exact HS.out⟩
      try simp only [Act.put, List.setIfInBounds_toArray, List.set_cons_zero, List.set_cons_succ]
      apply det_cons
      · refine ⟨by rfl, fun L w hN hS => ?_⟩
        have h13 : L 13 = false := (hN.chain (hN.chain (hN.chain hN.free (k := 8) (by kernel_rfl)) (k := 11) (by kernel_rfl)) (k := 13) (by kernel_rfl))
        have hcc := HC.out L w h13 hS
        have HS := Lib.hid hS
        clear hS h13
        go_simp
        exact ⟨rfl, fun L' h1 h2 => by show _ = (if L' 13 = true then _ else if L' 11 = true then _ else if L' 10 = true then _ else _); rw [h2 13 (by decide), h2 11 (by decide), h2 10 (by decide)]; exact HS.out⟩
      try simp only [Act.put, List.setIfInBounds_toArray, List.set_cons_zero, List.set_cons_succ]
      apply det_cons
      · refine ⟨by rfl, fun L w hN hS => ?_⟩
        have h13 : L 13 = false := (hN.chain (hN.chain hN.free (k := 11) (by kernel_rfl)) (k := 13) (by kernel_rfl))
        have hcc := HC.out L w h13 hS
        have HS := Lib.hid hS
        clear hS h13
        go_simp
        exact ⟨rfl, fun L' h1 h2 => by show _ = (if L' 13 = true then _ else if L' 11 = true then _ else if L' 10 = true then _ else _); rw [h2 13 (by decide), h2 11 (by decide), h2 10 (by decide)]; exact HS.out⟩
      try simp only [Act.put, List.setIfInBounds_toArray, List.set_cons_zero, List.set_cons_succ]
      apply det_cons
      · refine ⟨by rfl, fun L w hN hS => ?_⟩
        have h13 : L 13 = false := (hN.chain (hN.chain (hN.chain hN.free (k := 10) (by kernel_rfl)) (k := 11) (by kernel_rfl)) (k := 13) (by kernel_rfl))
        have hcc := HC.out L w h13 hS
        have HS := Lib.hid hS
        clear hS h13
        go_simp
        exact ⟨rfl, fun L' h1 h2 => by show _ = (if L' 13 = true then _ else if L' 11 = true then _ else if L' 10 = true then _ else _); rw [h2 13 (by decide), h2 11 (by decide), h2 10 (by decide)]; exact HS.out⟩
      try simp only [Act.put, List.setIfInBounds_toArray, List.set_cons_zero, List.set_cons_succ]
      apply det_cons
      · refine ⟨by rfl, fun L w hN hS => ?_⟩
        have h13 : L 13 = false := (hN.chain (hN.chain hN.free (k := 11) (by kernel_rfl)) (k := 13) (by kernel_rfl))
        have h11 : L 11 = false := (hN.chain hN.free (k := 11) (by kernel_rfl))
        have h10 : L 10 = false := hN.free
        have hw : w = Y.drew := by rw [hS, if_neg (by simp [h13]), if_neg (by simp [h11]), if_neg (by simp [h10])]
        subst hw
        have H13 := Lib.hid h13
        have H11 := Lib.hid h11
        clear h13 h11 h10 hS
        go_simp
        exact ⟨rfl, fun L' h1 h2 => by show _ = (if L' 13 = true then _ else if L' 11 = true then _ else if L' 10 = true then _ else _); rw [h2 13 (by decide), h2 11 (by decide), h1, if_neg (by simp [H13.out]), if_neg (by simp [H11.out]), if_pos rfl]; exact HW1.out⟩
      try simp only [Act.put, List.setIfInBounds_toArray, List.set_cons_zero, List.set_cons_succ]
      apply det_cons
      · refine ⟨by rfl, fun L w hN hS => ?_⟩
        have h13 : L 13 = false := (hN.chain hN.free (k := 13) (by kernel_rfl))
        have h11 : L 11 = false := hN.free
        have h10 : L 10 = true := hN.was (by kernel_rfl)
        have hw : w = W1 := by rw [hS, if_neg (by simp [h13]), if_neg (by simp [h11]), if_pos h10]
        subst hw
        show Res Tryd.prog (.slice (some ⟨g, 0, none⟩) (n2 + 1) cap) _ _
        have hr := HRUN.out
        simp [execOp, resolve, invoke, builtin, Act.eval, hr]
        exact ⟨rfl, fun L' h1 h2 => by show _ = (if L' 13 = true then _ else if L' 11 = true then _ else if L' 10 = true then _ else _); rw [h2 13 (by decide), h1, if_neg (by simp [h13]), if_pos rfl]⟩
      try simp only [Act.put, List.setIfInBounds_toArray, List.set_cons_zero, List.set_cons_succ]
      apply det_cons
      · refine ⟨by rfl, fun L w hN hS => ?_⟩
        have h13 : L 13 = false := (hN.chain hN.free (k := 13) (by kernel_rfl))
        have hcc := HC.out L w h13 hS
        have HS := Lib.hid hS
        clear hS h13
        go_simp
        exact ⟨rfl, fun L' h1 h2 => by show _ = (if L' 13 = true then _ else if L' 11 = true then _ else if L' 10 = true then _ else _); rw [h2 13 (by decide), h2 11 (by decide), h2 10 (by decide)]; exact HS.out⟩
      try simp only [Act.put, List.setIfInBounds_toArray, List.set_cons_zero, List.set_cons_succ]
      apply det_cons
      · refine ⟨by rfl, fun L w hN hS => ?_⟩
        have h13 : L 13 = false := hN.free
        have h11 : L 11 = true := hN.was (by kernel_rfl)
        have hw : w = W2 := by rw [hS, if_neg (by simp [h13]), if_pos h11]
        subst hw
        have hq := (HB2Y.out.block _ hyz).trans HYB.out
        have q5 : w.cell? ⟨X.heap.size, 5, none⟩ = some (.slice ka n2 kc) := blk_cell hq
        have q5f : w.frozen? ⟨X.heap.size, 5, none⟩ = false := blk_frozen hq 5
        clear hq h13 h11 hS
        go_simp
        exact ⟨rfl, fun L' h1 h2 => by show _ = (if L' 13 = true then _ else if L' 11 = true then _ else if L' 10 = true then _ else _); rw [h1, if_pos rfl]; exact HW3.out⟩
      try simp only [Act.put]
      refine det_nil ?_
      intro L w' hall hS
      have hw : w' = W3 := by rw [hS, if_pos (hall 13 (by decide))]
      subst hw
      clear hS hall
      have hq2 := (HB2Y.out.block _ hyz).trans HYB.out
      have hq := blk_set (j := 5) (v := .slice (some ⟨g, 0, none⟩) (n2 + 1) cap) hq2
      rw [HW3.out] at hq
      have hBV' : Below V.heap.size V w' := by
        rw [← HW3.out]
        exact (hVY.trans (HB2Y.out.mono hVY.size)).setCell (show V.heap.size ≤ X.heap.size from hBX.size) _
      have hsl' : SlOf w' w'.heap.size 3 (.slice (some ⟨g, 0, none⟩) (n2 + 1) cap) (ckCells (b.with c).cks) := by
        obtain ⟨a0, c0, ea, h1, h2, h3, h4⟩ := HSL.out
        have hrows : ckCells (b.with c).cks = ckCells b.cks ++ [c.cells] := by simp [ckCells, Bk.with]
        rw [hrows]
        refine ⟨a0, c0, ea, h1, h2, h3, fun hp => ?_⟩
        obtain ⟨b0, o0, e0', h5, h6⟩ := h4 hp
        injection ea with ea1 _ _
        rw [e0'] at ea1
        injection ea1 with ea2
        injection ea2 with ea3 ea4 _
        subst ea3
        refine ⟨g, o0, e0', ?_, fun i j r u hi hj => ?_⟩
        · rw [← HW3.out]; simpa [World.setCell] using h5
        · rw [← HW3.out]
          refine (World.cell?_of_block (Below.heap_setCell _ _ _ _ ?_)).trans (h6 i j r u hi hj)
          have h7 := HG1.out
          have h8 : Y.heap.size ≤ W1.heap.size := by rw [← HW1.out]; exact ((Below.refl Y.heap.size Y.drew).alloc (Nat.le_refl _) _).size
          show g ≠ X.heap.size
          omega
      have m0 : w'.cell? ⟨X.heap.size, 0, none⟩ = some (.slice sa n1 sc) := blk_cell hq
      have m1 : w'.cell? ⟨X.heap.size, 1, none⟩ = some (.int .i64 b.wth) := blk_cell hq
      have m2 : w'.cell? ⟨X.heap.size, 2, none⟩ = some (.int .i64 b.c0) := blk_cell hq
      have m3 : w'.cell? ⟨X.heap.size, 3, none⟩ = some (.int .i64 b.c1) := blk_cell hq
      have m4 : w'.cell? ⟨X.heap.size, 4, none⟩ = some (.int .i64 b.c2) := blk_cell hq
      have m5 : w'.cell? ⟨X.heap.size, 5, none⟩ = some (.slice (some ⟨g, 0, none⟩) (n2 + 1) cap) := blk_cell hq
      have m6 : w'.cell? ⟨X.heap.size, 6, none⟩ = some (.int .i64 b.rate) := blk_cell hq
      have HBV' := Lib.hid hBV'
      have HSL' := Lib.hid hsl'
      clear hq hq2 hBV' hsl' y5 g0 g1 g2 e0 e1 e2 e3 e4 e5 e6 hb0 hi0
      have hfield := field79
      go_wp2_with (first
        | (go_at_call 64; refine (opened_nil w' (b.with c) (.slice sa n1 sc) (.slice (some ⟨g, 0, none⟩) (n2 + 1) cap) w'.heap.size (Nat.le_refl _) ((BZ.out _ HBV'.out).hs.mono (BZ.out _ HBV'.out).hn) HSL'.out (GZ.out _ HBV'.out) HSW.out).mono ?_; rintro e w2 ⟨ka', kl', kc', M, tv, rfl, hb2, ht, hfr⟩; obtain ⟨ta, tc, rfl⟩ := ht.slice; have HB2 := Lib.hid hb2; have HT := Lib.hid ht; have HFR := Lib.hid hfr; clear hb2 ht hfr; simp only [Bk.cells9])
        | fail)
      refine bodyPost_ret (results_tmp2 rfl _ _ _) rfl ⟨?_, (hBV.trans (HBV'.out.mono hBV.size)).trans (HB2.out.mono (Nat.le_trans hBV.size HBV'.out.size))⟩
      rw [HF.out]
      show Ending.returned (.tuple #[.bool (decide (0 < (trCells (truths (b.with c))).length)), .int .i64 0]) = _
      rw [dec_len]
    · have hS : fitsS b c = (false, E) := by
        unfold fitsS
        rw [← HL1.out, ← hE, if_neg hE0]
      have HSS := Lib.hid hS
      clear hS hE hb0 hi0
      go_wp2_with fail
      exact bodyPost_ret (results_tmp2 rfl _ _ _) rfl ⟨by rw [HSS.out]; rfl, hBW⟩
  clear aK1 aK
  go_region_with (first
    | (go_at_call 68; refine (isClock_any _ b (.slice sa n1 sc) (.slice ka n2 kc) sa c n1 sc rfl HN1.out).mono ?_; rintro e w1 ⟨rfl, hb1⟩; have hk1 := (bcell hb1).1; have hf1 := (bcell hb1).2; (first | have hbv := bel1 (V := V) hb1 | have hbv := bel3 (V := V) hb1); have hk1v := (bcell hbv).1; clear hbv; (first | have hzz := (bel1 (V := V) hb1).size | have hzz := (bel3 (V := V) hb1).size); (first | have hz2 := bel4 (V := V) hb1 | skip); have hz0 := Nat.lt_of_lt_of_le hVz hzz; have hz6 := Nat.lt_of_lt_of_le hVx hzz; have hz5 := Nat.ne_of_lt hz0; have hz7 := Nat.ne_of_lt hz6; have HB1 := Lib.hid hb1; clear hb1)
    | (go_at_call 80; refine (asked_any _ b _ n sa ka n1 sc n2 kc (BZ.out _ ?hw1) (GZ.out _ ?hw2)).mono ?_; (case hw1 => first | exact bel1 HB1.out | exact bel2 HB1.out _ | exact bel3 HB1.out | (trace_state; fail)); (case hw2 => first | exact bel1 HB1.out | exact bel2 HB1.out _ | exact bel3 HB1.out | (trace_state; fail)); rintro e w2 ⟨x, sa', ka', ta, sl', sc', kl', kc', tl, tc, mo, rfl, hb2, hx⟩; have hk2 := (bcell hb2).1; have hf2 := (bcell hb2).2; have hz3 := hb2.size; (first | have hz3 := bel5 (V := w1) hb2 | skip); (first | have hz4 := Nat.lt_of_lt_of_le hz2 hb2.size | skip); have HB2 := Lib.hid hb2; clear hb2 hx; simp only [Bk.cells9]))
  all_goals simp only [Act.put, List.setIfInBounds_toArray]
  all_goals (refine hkey _ _ _ _ _ _ rfl ?_)
  all_goals first
    | ((iterate 9 refine Below.setCell ?_ (Nat.le_refl V.heap.size) _); exact (bel3 HB1.out).trans (HB2.out.mono (bel3 (V := V) HB1.out).size))
    | ((iterate 9 refine Below.setCell ?_ (bel1 (V := V) HB1.out).size _); exact (bel2 (V := V) HB1.out _).trans (HB2.out.mono (bel2 (V := V) HB1.out _).size))
    | exact ((bel1 (V := V) HB1.out).trans (HB2.out.mono (bel1 (V := V) HB1.out).size)).alloc (Nat.le_trans (bel1 (V := V) HB1.out).size HB2.out.size) _
end Go.Proofs.YtbhjfojbjpbdbaaDoor
namespace Go.Proofs.YtbhjfojbjpbdbaaDoor
open Go.RowKit
theorem bil1 : comesS (bookB 62 []) 1 = (56, 68, 0) := by decide +kernel
theorem bil2 : lateS (bookB 62 [⟨1, 66, 0⟩]) 0 = (0, 2, 0) := by decide +kernel
theorem bil3 : roughS (bookB 62 [⟨1, 66, 0⟩]) 0 = (0, 2, 0) := by decide +kernel
theorem bil4 : weatherS (bookB 62 [⟨1, 66, 0⟩]) = (2, 0) := by decide +kernel
theorem bil5 : blameS (bookB 61 [⟨1, 66, 0⟩]) = (1, 0) := by decide +kernel
theorem bil6 : owesS (bookB 61 [⟨1, 66, 0⟩]) = (20, 25, 0) := by decide +kernel
theorem bil7 : paysS (bookB 62 [⟨1, 66, 0⟩]) = (20, 0) := by decide +kernel
theorem bil8 : fitsS (bookB 62 [⟨1, 66, 0⟩]) ⟨0, 32, 0⟩ = (true, 0) := by decide +kernel
theorem bil9 : wrongS (bookB 62 [⟨1, 66, 0⟩, ⟨0, 26, 0⟩]) = ([0], 0) := by decide +kernel
theorem bil10 : firstS (bookB 62 [⟨1, 66, 0⟩]) = (1, 0) := by decide +kernel
theorem bil11 : rightS (bookB 62 []) = (true, 0) := by decide +kernel
theorem reach_sz (a b : Int) (w : World) : Calls Tryd.prog 53 #[.int .i64 a, .int .i64 b] w fun e w' => e = .returned (.agg #[.int .i64 a, .int .i64 b]) ∧ Below w.heap.size w w' ∧ w'.heap.size = w.heap.size + 1 := by
  go_enter Tryd.func53, Tryd.ntmps53
  go_wp2
  refine bodyPost_ret (v := .agg #[.int .i64 a, .int .i64 b]) (by simp [results, Tryd.results53, go_sem]) rfl ⟨rfl, ?_⟩
  first
    | exact ⟨(Below.refl _ _).alloc (Nat.le_refl _) _, by simp⟩
    | exact ⟨(((Below.refl _ _).alloc (Nat.le_refl _) _).setCell (by simp) _).setCell (by simp) _, by simp [World.setCell]⟩
set_option maxRecDepth 100000 in
set_option maxHeartbeats 8000000 in
theorem billed_any (W : World) (hG : Glob W) : Calls Tryd.prog 25 #[] W fun e W' => e = .returned (.bool true) ∧ Below W.heap.size W W' := by
  have HG0 := Lib.hid hG
  have HB0 := Lib.hid (Below.refl W.heap.size W)
  clear hG
  go_enter Tryd.func25, Tryd.ntmps25
  go_upto_region 1 with fail
  go_upto_region 2 with (first
    | (go_at_call 59; refine (own_any _).mono ?_; rintro e wa1 ⟨g, rfl, hba, hva⟩; have HA1 := Lib.hid hba; have HV1 := Lib.hid hva; have HGA1 := Lib.hid (HG0.out.below HG0.out.lt hba); clear hba hva; simp only [bookB, Bk.cells])
    | (go_at_call 19; refine (comes_ex wa1 (bookB 62 []) 1 _ _ _ _ _ _ _ HV1.out HGA1.out).mono ?_; rintro e wb1 ⟨rfl, hbb⟩; rw [bil1]; have HBB1 := Lib.hid hbb; clear hbb)
    | fail)
  have hbw1 : Below W.heap.size W wb1 := HA1.out.trans (HBB1.out.mono HA1.out.size)
  obtain ⟨X1, hX1⟩ : ∃ X, wb1.alloc (.cells #[.int .i64 56, .int .i64 68] 32) = X := ⟨_, rfl⟩
  have hq1 : X1.heap[wb1.heap.size]? = some (.cells #[.int .i64 56, .int .i64 68] 32) := by rw [← hX1]; exact World.alloc_heap_new _ _
  have hbx1 : Below W.heap.size W X1 := by rw [← hX1]; exact hbw1.alloc hbw1.size _
  rw [hX1]
  clear hX1
  obtain ⟨P1, hP1⟩ : ∃ P, wb1.heap.size = P := ⟨_, rfl⟩
  rw [hP1] at hq1 ⊢
  clear hP1
  have HQ1 := Lib.hid hq1
  clear hq1
  have HG1 := Lib.hid (HG0.out.below HG0.out.lt hbx1)
  have HB1 := Lib.hid (HB0.out.trans (hbx1.mono HB0.out.size))
  clear hbx1 hbw1 HA1 HBB1 HV1 HGA1
  go_upto_region 3 with (first
    | (go_at_call 62; refine (read_any _).mono ?_; rintro e wa2 ⟨g, h, rfl, hba, hva⟩; have HA2 := Lib.hid hba; have HV2 := Lib.hid hva; have HGA2 := Lib.hid (HG1.out.below HG1.out.lt hba); clear hba hva; simp only [bookB, Bk.cells])
    | (go_at_call 21; refine (late_ex wa2 (bookB 62 [⟨1, 66, 0⟩]) 0 _ _ _ _ _ _ _ HV2.out HGA2.out).mono ?_; rintro e wb2 ⟨rfl, hbb⟩; rw [bil2]; have HBB2 := Lib.hid hbb; clear hbb)
    | fail)
  have hbw2 : Below X1.heap.size X1 wb2 := HA2.out.trans (HBB2.out.mono HA2.out.size)
  obtain ⟨X2, hX2⟩ : ∃ X, wb2.alloc (.cells #[.int .i64 0, .int .i64 2] 32) = X := ⟨_, rfl⟩
  have hq2 : X2.heap[wb2.heap.size]? = some (.cells #[.int .i64 0, .int .i64 2] 32) := by rw [← hX2]; exact World.alloc_heap_new _ _
  have hbx2 : Below X1.heap.size X1 X2 := by rw [← hX2]; exact hbw2.alloc hbw2.size _
  rw [hX2]
  clear hX2
  obtain ⟨P2, hP2⟩ : ∃ P, wb2.heap.size = P := ⟨_, rfl⟩
  rw [hP2] at hq2 ⊢
  clear hP2
  have hq1 : X2.heap[P1]? = some (.cells #[.int .i64 56, .int .i64 68] 32) := (hbx2.block _ (Array.getElem?_eq_some_iff.1 HQ1.out).1).trans HQ1.out
  have HQ1 := Lib.hid hq1
  have HQ2 := Lib.hid hq2
  clear hq1 hq2
  have HG2 := Lib.hid (HG1.out.below HG1.out.lt hbx2)
  have HB2 := Lib.hid (HB1.out.trans (hbx2.mono HB1.out.size))
  clear hbx2 hbw2 HA2 HBB2 HV2 HGA2
  go_upto_region 4 with (first
    | (go_at_call 62; refine (read_any _).mono ?_; rintro e wa3 ⟨g, h, rfl, hba, hva⟩; have HA3 := Lib.hid hba; have HV3 := Lib.hid hva; have HGA3 := Lib.hid (HG2.out.below HG2.out.lt hba); clear hba hva; simp only [bookB, Bk.cells])
    | (go_at_call 23; refine (rough_ex wa3 (bookB 62 [⟨1, 66, 0⟩]) 0 _ _ _ _ _ _ _ HV3.out HGA3.out).mono ?_; rintro e wb3 ⟨rfl, hbb⟩; rw [bil3]; have HBB3 := Lib.hid hbb; clear hbb)
    | fail)
  have hbw3 : Below X2.heap.size X2 wb3 := HA3.out.trans (HBB3.out.mono HA3.out.size)
  obtain ⟨X3, hX3⟩ : ∃ X, wb3.alloc (.cells #[.int .i64 0, .int .i64 2] 32) = X := ⟨_, rfl⟩
  have hq3 : X3.heap[wb3.heap.size]? = some (.cells #[.int .i64 0, .int .i64 2] 32) := by rw [← hX3]; exact World.alloc_heap_new _ _
  have hbx3 : Below X2.heap.size X2 X3 := by rw [← hX3]; exact hbw3.alloc hbw3.size _
  rw [hX3]
  clear hX3
  obtain ⟨P3, hP3⟩ : ∃ P, wb3.heap.size = P := ⟨_, rfl⟩
  rw [hP3] at hq3 ⊢
  clear hP3
  have hq1 : X3.heap[P1]? = some (.cells #[.int .i64 56, .int .i64 68] 32) := (hbx3.block _ (Array.getElem?_eq_some_iff.1 HQ1.out).1).trans HQ1.out
  have hq2 : X3.heap[P2]? = some (.cells #[.int .i64 0, .int .i64 2] 32) := (hbx3.block _ (Array.getElem?_eq_some_iff.1 HQ2.out).1).trans HQ2.out
  have HQ1 := Lib.hid hq1
  have HQ2 := Lib.hid hq2
  have HQ3 := Lib.hid hq3
  clear hq1 hq2 hq3
  have HG3 := Lib.hid (HG2.out.below HG2.out.lt hbx3)
  have HB3 := Lib.hid (HB2.out.trans (hbx3.mono HB2.out.size))
  clear hbx3 hbw3 HA3 HBB3 HV3 HGA3
  go_upto_region 5 with (first
    | (go_at_call 62; refine (read_any _).mono ?_; rintro e wa4 ⟨g, h, rfl, hba, hva⟩; have HA4 := Lib.hid hba; have HV4 := Lib.hid hva; have HGA4 := Lib.hid (HG3.out.below HG3.out.lt hba); clear hba hva; simp only [bookB, Bk.cells])
    | (go_at_call 26; refine (weather_ex wa4 (bookB 62 [⟨1, 66, 0⟩]) _ _ _ _ _ _ _ HV4.out HGA4.out).mono ?_; rintro e wb4 ⟨rfl, hbb⟩; rw [bil4]; have HBB4 := Lib.hid hbb; clear hbb)
    | fail)
  have hbw4 : Below X3.heap.size X3 wb4 := HA4.out.trans (HBB4.out.mono HA4.out.size)
  have hbx4 := hbw4
  have hq1 : wb4.heap[P1]? = some (.cells #[.int .i64 56, .int .i64 68] 32) := (hbx4.block _ (Array.getElem?_eq_some_iff.1 HQ1.out).1).trans HQ1.out
  have hq2 : wb4.heap[P2]? = some (.cells #[.int .i64 0, .int .i64 2] 32) := (hbx4.block _ (Array.getElem?_eq_some_iff.1 HQ2.out).1).trans HQ2.out
  have hq3 : wb4.heap[P3]? = some (.cells #[.int .i64 0, .int .i64 2] 32) := (hbx4.block _ (Array.getElem?_eq_some_iff.1 HQ3.out).1).trans HQ3.out
  have HQ1 := Lib.hid hq1
  have HQ2 := Lib.hid hq2
  have HQ3 := Lib.hid hq3
  clear hq1 hq2 hq3
  have HG4 := Lib.hid (HG3.out.below HG3.out.lt hbx4)
  have HB4 := Lib.hid (HB3.out.trans (hbx4.mono HB3.out.size))
  clear hbx4 hbw4 HA4 HBB4 HV4 HGA4
  go_upto_region 6 with (first
    | (go_at_call 63; refine (tight_any _).mono ?_; rintro e wa5 ⟨g, h, rfl, hba, hva⟩; have HA5 := Lib.hid hba; have HV5 := Lib.hid hva; have HGA5 := Lib.hid (HG4.out.below HG4.out.lt hba); clear hba hva; simp only [bookB, Bk.cells])
    | (go_at_call 28; refine (blame_ex wa5 (bookB 61 [⟨1, 66, 0⟩]) _ _ _ _ _ _ _ HV5.out HGA5.out).mono ?_; rintro e wb5 ⟨rfl, hbb⟩; rw [bil5]; have HBB5 := Lib.hid hbb; clear hbb)
    | fail)
  have hbw5 : Below wb4.heap.size wb4 wb5 := HA5.out.trans (HBB5.out.mono HA5.out.size)
  have hbx5 := hbw5
  have hq1 : wb5.heap[P1]? = some (.cells #[.int .i64 56, .int .i64 68] 32) := (hbx5.block _ (Array.getElem?_eq_some_iff.1 HQ1.out).1).trans HQ1.out
  have hq2 : wb5.heap[P2]? = some (.cells #[.int .i64 0, .int .i64 2] 32) := (hbx5.block _ (Array.getElem?_eq_some_iff.1 HQ2.out).1).trans HQ2.out
  have hq3 : wb5.heap[P3]? = some (.cells #[.int .i64 0, .int .i64 2] 32) := (hbx5.block _ (Array.getElem?_eq_some_iff.1 HQ3.out).1).trans HQ3.out
  have HQ1 := Lib.hid hq1
  have HQ2 := Lib.hid hq2
  have HQ3 := Lib.hid hq3
  clear hq1 hq2 hq3
  have HG5 := Lib.hid (HG4.out.below HG4.out.lt hbx5)
  have HB5 := Lib.hid (HB4.out.trans (hbx5.mono HB4.out.size))
  clear hbx5 hbw5 HA5 HBB5 HV5 HGA5
  have a0 : wb5.cell? ⟨P1, 0, none⟩ = _ := blk_cell HQ1.out
  have a1 : wb5.cell? ⟨P1, 1, none⟩ = _ := blk_cell HQ1.out
  have al : P1 < wb5.heap.size := (Array.getElem?_eq_some_iff.1 HQ1.out).1
  have b0 : wb5.cell? ⟨P2, 0, none⟩ = _ := blk_cell HQ2.out
  have b1 : wb5.cell? ⟨P2, 1, none⟩ = _ := blk_cell HQ2.out
  have bl : P2 < wb5.heap.size := (Array.getElem?_eq_some_iff.1 HQ2.out).1
  have c0 : wb5.cell? ⟨P3, 0, none⟩ = _ := blk_cell HQ3.out
  have c1 : wb5.cell? ⟨P3, 1, none⟩ = _ := blk_cell HQ3.out
  have cl : P3 < wb5.heap.size := (Array.getElem?_eq_some_iff.1 HQ3.out).1
  refine wp_region_det (S := fun _ w' => (∀ b o, b < wb5.heap.size → w'.cell? ⟨b, o, none⟩ = wb5.cell? ⟨b, o, none⟩) ∧ Below wb5.heap.size wb5 w') (by kernel_rfl) (by kernel_rfl) (hs0 wb5) ?_
  repeat
    apply det_cons
    · refine ⟨by rfl, fun L w hN hS => ?_⟩
      obtain ⟨hcc, hu⟩ := hS
      go_simp
      first
        | exact ⟨rfl, fun _ _ _ => ⟨hcc, hu⟩⟩
        | (refine (reach_any _ _ _).mono ?_; rintro e w' ⟨rfl, hbb⟩; exact ⟨rfl, fun _ _ _ => hs1 hbb ⟨hcc, hu⟩⟩)
    try simp only [Act.put, List.setIfInBounds_toArray, List.set_cons_zero, List.set_cons_succ]
  refine det_nil ?_
  rintro L w' hL ⟨hcc, hu⟩
  clear a0 a1 al b0 b1 bl c0 c1 cl hL
  have HG6 := Lib.hid (HG5.out.below HG5.out.lt hu)
  have HB6 := Lib.hid (HB5.out.trans (hu.mono HB5.out.size))
  clear hcc hu
  clear HQ1 HQ2 HQ3
  go_upto_region 8 with fail
  go_upto_region 9 with (first
    | (go_at_call 63; refine (tight_any _).mono ?_; rintro e wa7 ⟨g, h, rfl, hba, hva⟩; have HA7 := Lib.hid hba; have HV7 := Lib.hid hva; have HGA7 := Lib.hid (HG6.out.below HG6.out.lt hba); clear hba hva; simp only [bookB, Bk.cells])
    | (go_at_call 30; refine (owes_ex wa7 (bookB 61 [⟨1, 66, 0⟩]) _ _ _ _ _ _ _ HV7.out HGA7.out).mono ?_; rintro e wb7 ⟨rfl, hbb⟩; rw [bil6]; have HBB7 := Lib.hid hbb; clear hbb)
    | fail)
  have hbw7 : Below w'.heap.size w' wb7 := HA7.out.trans (HBB7.out.mono HA7.out.size)
  obtain ⟨X7, hX7⟩ : ∃ X, wb7.alloc (.cells #[.int .i64 20, .int .i64 25] 32) = X := ⟨_, rfl⟩
  have hq7 : X7.heap[wb7.heap.size]? = some (.cells #[.int .i64 20, .int .i64 25] 32) := by rw [← hX7]; exact World.alloc_heap_new _ _
  have hbx7 : Below w'.heap.size w' X7 := by rw [← hX7]; exact hbw7.alloc hbw7.size _
  rw [hX7]
  clear hX7
  obtain ⟨P7, hP7⟩ : ∃ P, wb7.heap.size = P := ⟨_, rfl⟩
  rw [hP7] at hq7 ⊢
  clear hP7
  have HQ7 := Lib.hid hq7
  clear hq7
  have HG7 := Lib.hid (HG6.out.below HG6.out.lt hbx7)
  have HB7 := Lib.hid (HB6.out.trans (hbx7.mono HB6.out.size))
  clear hbx7 hbw7 HA7 HBB7 HV7 HGA7
  go_upto_region 10 with (first
    | (go_at_call 62; refine (read_any _).mono ?_; rintro e wa8 ⟨g, h, rfl, hba, hva⟩; have HA8 := Lib.hid hba; have HV8 := Lib.hid hva; have HGA8 := Lib.hid (HG7.out.below HG7.out.lt hba); clear hba hva; simp only [bookB, Bk.cells])
    | (go_at_call 32; refine (pays_ex wa8 (bookB 62 [⟨1, 66, 0⟩]) _ _ _ _ _ _ _ HV8.out HGA8.out).mono ?_; rintro e wb8 ⟨rfl, hbb⟩; rw [bil7]; have HBB8 := Lib.hid hbb; clear hbb)
    | fail)
  have hbw8 : Below X7.heap.size X7 wb8 := HA8.out.trans (HBB8.out.mono HA8.out.size)
  have hbx8 := hbw8
  have hq7 : wb8.heap[P7]? = some (.cells #[.int .i64 20, .int .i64 25] 32) := (hbx8.block _ (Array.getElem?_eq_some_iff.1 HQ7.out).1).trans HQ7.out
  have HQ7 := Lib.hid hq7
  clear hq7
  have HG8 := Lib.hid (HG7.out.below HG7.out.lt hbx8)
  have HB8 := Lib.hid (HB7.out.trans (hbx8.mono HB7.out.size))
  clear hbx8 hbw8 HA8 HBB8 HV8 HGA8
  go_upto_region 11 with (first
    | (go_at_call 62; refine (read_any _).mono ?_; rintro e wa9 ⟨g, h, rfl, hba, hva⟩; have HA9 := Lib.hid hba; have HV9 := Lib.hid hva; have HGA9 := Lib.hid (HG8.out.below HG8.out.lt hba); clear hba hva; simp only [bookB, Bk.cells])
    | (go_at_call 49; refine (clock_any _ _ _ _).mono ?_; rintro e wc9 ⟨rfl, hbc⟩; have HC9 := Lib.hid hbc; have HVC9 := Lib.hid (HV9.out.below (Nat.le_refl _) hbc); have HGC9 := Lib.hid (HGA9.out.below HGA9.out.lt hbc); clear hbc; simp only [Ck.cells])
    | (go_at_call 36; refine (fits_ex wc9 (bookB 62 [⟨1, 66, 0⟩]) ⟨0, 32, 0⟩ _ _ _ _ _ _ _ HVC9.out HGC9.out).mono ?_; rintro e wb9 ⟨rfl, hbb⟩; rw [bil8]; have HBB9 := Lib.hid hbb; clear hbb)
    | fail)
  have hbw9 : Below wb8.heap.size wb8 wb9 := HA9.out.trans ((HC9.out.trans (HBB9.out.mono HC9.out.size)).mono HA9.out.size)
  have hbx9 := hbw9
  have hq7 : wb9.heap[P7]? = some (.cells #[.int .i64 20, .int .i64 25] 32) := (hbx9.block _ (Array.getElem?_eq_some_iff.1 HQ7.out).1).trans HQ7.out
  have HQ7 := Lib.hid hq7
  clear hq7
  have HG9 := Lib.hid (HG8.out.below HG8.out.lt hbx9)
  have HB9 := Lib.hid (HB8.out.trans (hbx9.mono HB8.out.size))
  clear hbx9 hbw9 HA9 HBB9 HV9 HGA9
  go_upto_region 12 with (first
    | (go_at_call 61; refine (torn_any _).mono ?_; rintro e wa10 ⟨g, h, rfl, hba, hva⟩; have HA10 := Lib.hid hba; have HV10 := Lib.hid hva; have HGA10 := Lib.hid (HG9.out.below HG9.out.lt hba); clear hba hva; simp only [bookB, Bk.cells])
    | (go_at_call 38; refine (wrong_ex wa10 (bookB 62 [⟨1, 66, 0⟩, ⟨0, 26, 0⟩]) _ _ _ _ _ _ _ HV10.out HGA10.out).mono ?_; rintro e wb10 ⟨ra, rl, rc, rfl, hbb, hsw⟩; rw [bil9] at hsw ⊢; have HBB10 := Lib.hid hbb; have HSW := Lib.hid hsw; clear hbb hsw)
    | fail)
  have hbw10 : Below wb9.heap.size wb9 wb10 := HA10.out.trans (HBB10.out.mono HA10.out.size)
  have hbx10 := hbw10
  have hq7 : wb10.heap[P7]? = some (.cells #[.int .i64 20, .int .i64 25] 32) := (hbx10.block _ (Array.getElem?_eq_some_iff.1 HQ7.out).1).trans HQ7.out
  have HQ7 := Lib.hid hq7
  clear hq7
  have HSX := HSW
  have HG10 := Lib.hid (HG9.out.below HG9.out.lt hbx10)
  have HB10 := Lib.hid (HB9.out.trans (hbx10.mono HB9.out.size))
  clear hbx10 hbw10 HA10 HBB10 HV10 HGA10
  go_upto_region 13 with (first
    | (go_at_call 62; refine (read_any _).mono ?_; rintro e wa11 ⟨g, h, rfl, hba, hva⟩; have HA11 := Lib.hid hba; have HV11 := Lib.hid hva; have HGA11 := Lib.hid (HG10.out.below HG10.out.lt hba); clear hba hva; simp only [bookB, Bk.cells])
    | (go_at_call 34; refine (first_ex wa11 (bookB 62 [⟨1, 66, 0⟩]) _ _ _ _ _ _ _ HV11.out HGA11.out).mono ?_; rintro e wb11 ⟨rfl, hbb⟩; rw [bil10]; have HBB11 := Lib.hid hbb; clear hbb)
    | fail)
  have hbw11 : Below wb10.heap.size wb10 wb11 := HA11.out.trans (HBB11.out.mono HA11.out.size)
  have hbx11 := hbw11
  have hq7 : wb11.heap[P7]? = some (.cells #[.int .i64 20, .int .i64 25] 32) := (hbx11.block _ (Array.getElem?_eq_some_iff.1 HQ7.out).1).trans HQ7.out
  have HQ7 := Lib.hid hq7
  clear hq7
  have hsx := HSX.out.below (Nat.le_refl _) hbx11
  have HSX := Lib.hid (hsx.mono hbx11.size)
  clear hsx
  have HG11 := Lib.hid (HG10.out.below HG10.out.lt hbx11)
  have HB11 := Lib.hid (HB10.out.trans (hbx11.mono HB10.out.size))
  clear hbx11 hbw11 HA11 HBB11 HV11 HGA11
  go_upto_region 14 with (first
    | (go_at_call 59; refine (own_any _).mono ?_; rintro e wa12 ⟨g, rfl, hba, hva⟩; have HA12 := Lib.hid hba; have HV12 := Lib.hid hva; have HGA12 := Lib.hid (HG11.out.below HG11.out.lt hba); clear hba hva; simp only [bookB, Bk.cells])
    | (go_at_call 15; refine (right_ex wa12 (bookB 62 []) _ _ _ _ _ _ _ HV12.out HGA12.out).mono ?_; rintro e wb12 ⟨rfl, hbb⟩; rw [bil11]; have HBB12 := Lib.hid hbb; clear hbb)
    | fail)
  have hbw12 : Below wb11.heap.size wb11 wb12 := HA12.out.trans (HBB12.out.mono HA12.out.size)
  have hbx12 := hbw12
  have hq7 : wb12.heap[P7]? = some (.cells #[.int .i64 20, .int .i64 25] 32) := (hbx12.block _ (Array.getElem?_eq_some_iff.1 HQ7.out).1).trans HQ7.out
  have HQ7 := Lib.hid hq7
  clear hq7
  have hsx := HSX.out.below (Nat.le_refl _) hbx12
  have HSX := Lib.hid (hsx.mono hbx12.size)
  clear hsx
  have HG12 := Lib.hid (HG11.out.below HG11.out.lt hbx12)
  have HB12 := Lib.hid (HB11.out.trans (hbx12.mono HB11.out.size))
  clear hbx12 hbw12 HA12 HBB12 HV12 HGA12
  have a0 : wb12.cell? ⟨P7, 0, none⟩ = _ := blk_cell HQ7.out
  have a1 : wb12.cell? ⟨P7, 1, none⟩ = _ := blk_cell HQ7.out
  have al : P7 < wb12.heap.size := (Array.getElem?_eq_some_iff.1 HQ7.out).1
  have hsz : wb12.heap.size < wb12.heap.size + 1 := Nat.lt_succ_self _
  have hz0 : ∀ L : Nat → Bool, (∀ i, L i = false) → (fun (L : Nat → Bool) (w' : World) => ((∀ b o, b < wb12.heap.size → w'.cell? ⟨b, o, none⟩ = wb12.cell? ⟨b, o, none⟩) ∧ Below wb12.heap.size wb12 w') ∧ (L 36 = false → w'.heap.size = wb12.heap.size + (if L 24 = true then 1 else 0)) ∧ (L 36 = true → wb12.heap.size + 1 < w'.heap.size ∧ w'.cell? ⟨wb12.heap.size + 1, 0, none⟩ = some (.int .i64 0))) L wb12.drew := fun L h => ⟨hs0 _, fun _ => by rw [h 24]; rfl, fun h' => by rw [h 36] at h'; cases h'⟩
  refine wp_region_det (S := fun L w' => ((∀ b o, b < wb12.heap.size → w'.cell? ⟨b, o, none⟩ = wb12.cell? ⟨b, o, none⟩) ∧ Below wb12.heap.size wb12 w') ∧ (L 36 = false → w'.heap.size = wb12.heap.size + (if L 24 = true then 1 else 0)) ∧ (L 36 = true → wb12.heap.size + 1 < w'.heap.size ∧ w'.cell? ⟨wb12.heap.size + 1, 0, none⟩ = some (.int .i64 0))) (by kernel_rfl) (by kernel_rfl) (hz0 _ fun _ => rfl) ?_
  clear hz0
  apply det_cons
  · refine ⟨by rfl, fun L w hN hS => ?_⟩
    obtain ⟨⟨hcc, hu⟩, hz, hy⟩ := hS
    have HZ := Lib.hid hz
    have HY := Lib.hid hy
    clear hz hy
    go_simp
    exact ⟨rfl, fun L' h1 h2 => ⟨⟨hcc, hu⟩, (fun h => by rw [h2 36 (by decide)] at h; rw [h2 24 (by decide)]; exact HZ.out h), fun h => by rw [h2 36 (by decide)] at h; exact HY.out h⟩⟩
  try simp only [Act.put, List.setIfInBounds_toArray, List.set_cons_zero, List.set_cons_succ]
  apply det_cons
  · refine ⟨by rfl, fun L w hN hS => ?_⟩
    obtain ⟨⟨hcc, hu⟩, hz, hy⟩ := hS
    have HZ := Lib.hid hz
    have HY := Lib.hid hy
    clear hz hy
    go_simp
    exact ⟨rfl, fun L' h1 h2 => ⟨⟨hcc, hu⟩, (fun h => by rw [h2 36 (by decide)] at h; rw [h2 24 (by decide)]; exact HZ.out h), fun h => by rw [h2 36 (by decide)] at h; exact HY.out h⟩⟩
  try simp only [Act.put, List.setIfInBounds_toArray, List.set_cons_zero, List.set_cons_succ]
  apply det_cons
  · refine ⟨by rfl, fun L w hN hS => ?_⟩
    obtain ⟨⟨hcc, hu⟩, hz, hy⟩ := hS
    have HZ := Lib.hid hz
    have HY := Lib.hid hy
    clear hz hy
    go_simp
    exact ⟨rfl, fun L' h1 h2 => ⟨⟨hcc, hu⟩, (fun h => by rw [h2 36 (by decide)] at h; rw [h2 24 (by decide)]; exact HZ.out h), fun h => by rw [h2 36 (by decide)] at h; exact HY.out h⟩⟩
  try simp only [Act.put, List.setIfInBounds_toArray, List.set_cons_zero, List.set_cons_succ]
  apply det_cons
  · refine ⟨by rfl, fun L w hN hS => ?_⟩
    obtain ⟨⟨hcc, hu⟩, hz, hy⟩ := hS
    have HZ := Lib.hid hz
    have HY := Lib.hid hy
    clear hz hy
    go_simp
    exact ⟨rfl, fun L' h1 h2 => ⟨⟨hcc, hu⟩, (fun h => by rw [h2 36 (by decide)] at h; rw [h2 24 (by decide)]; exact HZ.out h), fun h => by rw [h2 36 (by decide)] at h; exact HY.out h⟩⟩
  try simp only [Act.put, List.setIfInBounds_toArray, List.set_cons_zero, List.set_cons_succ]
  apply det_cons
  · refine ⟨by rfl, fun L w hN hS => ?_⟩
    obtain ⟨⟨hcc, hu⟩, hz, hy⟩ := hS
    have HZ := Lib.hid hz
    have HY := Lib.hid hy
    clear hz hy
    go_simp
    exact ⟨rfl, fun L' h1 h2 => ⟨⟨hcc, hu⟩, (fun h => by rw [h2 36 (by decide)] at h; rw [h2 24 (by decide)]; exact HZ.out h), fun h => by rw [h2 36 (by decide)] at h; exact HY.out h⟩⟩
  try simp only [Act.put, List.setIfInBounds_toArray, List.set_cons_zero, List.set_cons_succ]
  apply det_cons
  · refine ⟨by rfl, fun L w hN hS => ?_⟩
    obtain ⟨⟨hcc, hu⟩, hz, hy⟩ := hS
    have HZ := Lib.hid hz
    have HY := Lib.hid hy
    clear hz hy
    go_simp
    exact ⟨rfl, fun L' h1 h2 => ⟨⟨hcc, hu⟩, (fun h => by rw [h2 36 (by decide)] at h; rw [h2 24 (by decide)]; exact HZ.out h), fun h => by rw [h2 36 (by decide)] at h; exact HY.out h⟩⟩
  try simp only [Act.put, List.setIfInBounds_toArray, List.set_cons_zero, List.set_cons_succ]
  apply det_cons
  · refine ⟨by rfl, fun L w hN hS => ?_⟩
    obtain ⟨⟨hcc, hu⟩, hz, hy⟩ := hS
    have HZ := Lib.hid hz
    have HY := Lib.hid hy
    clear hz hy
    go_simp
    exact ⟨rfl, fun L' h1 h2 => ⟨⟨hcc, hu⟩, (fun h => by rw [h2 36 (by decide)] at h; rw [h2 24 (by decide)]; exact HZ.out h), fun h => by rw [h2 36 (by decide)] at h; exact HY.out h⟩⟩
  try simp only [Act.put, List.setIfInBounds_toArray, List.set_cons_zero, List.set_cons_succ]
  apply det_cons
  · refine ⟨by rfl, fun L w hN hS => ?_⟩
    obtain ⟨⟨hcc, hu⟩, hz, hy⟩ := hS
    have HZ := Lib.hid hz
    have HY := Lib.hid hy
    clear hz hy
    go_simp
    exact ⟨rfl, fun L' h1 h2 => ⟨⟨hcc, hu⟩, (fun h => by rw [h2 36 (by decide)] at h; rw [h2 24 (by decide)]; exact HZ.out h), fun h => by rw [h2 36 (by decide)] at h; exact HY.out h⟩⟩
  try simp only [Act.put, List.setIfInBounds_toArray, List.set_cons_zero, List.set_cons_succ]
  apply det_cons
  · refine ⟨by rfl, fun L w hN hS => ?_⟩
    obtain ⟨⟨hcc, hu⟩, hz, hy⟩ := hS
    have HZ := Lib.hid hz
    have HY := Lib.hid hy
    clear hz hy
    go_simp
    exact ⟨rfl, fun L' h1 h2 => ⟨⟨hcc, hu⟩, (fun h => by rw [h2 36 (by decide)] at h; rw [h2 24 (by decide)]; exact HZ.out h), fun h => by rw [h2 36 (by decide)] at h; exact HY.out h⟩⟩
  try simp only [Act.put, List.setIfInBounds_toArray, List.set_cons_zero, List.set_cons_succ]
  apply det_cons
  · refine ⟨by rfl, fun L w hN hS => ?_⟩
    obtain ⟨⟨hcc, hu⟩, hz, hy⟩ := hS
    have HZ := Lib.hid hz
    have HY := Lib.hid hy
    clear hz hy
    go_simp
    exact ⟨rfl, fun L' h1 h2 => ⟨⟨hcc, hu⟩, (fun h => by rw [h2 36 (by decide)] at h; rw [h2 24 (by decide)]; exact HZ.out h), fun h => by rw [h2 36 (by decide)] at h; exact HY.out h⟩⟩
  try simp only [Act.put, List.setIfInBounds_toArray, List.set_cons_zero, List.set_cons_succ]
  apply det_cons
  · refine ⟨by rfl, fun L w hN hS => ?_⟩
    obtain ⟨⟨hcc, hu⟩, hz, hy⟩ := hS
    have HZ := Lib.hid hz
    have HY := Lib.hid hy
    clear hz hy
    go_simp
    exact ⟨rfl, fun L' h1 h2 => ⟨⟨hcc, hu⟩, (fun h => by rw [h2 36 (by decide)] at h; rw [h2 24 (by decide)]; exact HZ.out h), fun h => by rw [h2 36 (by decide)] at h; exact HY.out h⟩⟩
  try simp only [Act.put, List.setIfInBounds_toArray, List.set_cons_zero, List.set_cons_succ]
  apply det_cons
  · refine ⟨by rfl, fun L w hN hS => ?_⟩
    obtain ⟨⟨hcc, hu⟩, hz, hy⟩ := hS
    have HZ := Lib.hid hz
    have HY := Lib.hid hy
    clear hz hy
    go_simp
    exact ⟨rfl, fun L' h1 h2 => ⟨⟨hcc, hu⟩, (fun h => by rw [h2 36 (by decide)] at h; rw [h2 24 (by decide)]; exact HZ.out h), fun h => by rw [h2 36 (by decide)] at h; exact HY.out h⟩⟩
  try simp only [Act.put, List.setIfInBounds_toArray, List.set_cons_zero, List.set_cons_succ]
  apply det_cons
  · refine ⟨by rfl, fun L w hN hS => ?_⟩
    obtain ⟨⟨hcc, hu⟩, hz, hy⟩ := hS
    have HZ := Lib.hid hz
    have HY := Lib.hid hy
    clear hz hy
    go_simp
    exact ⟨rfl, fun L' h1 h2 => ⟨⟨hcc, hu⟩, (fun h => by rw [h2 36 (by decide)] at h; rw [h2 24 (by decide)]; exact HZ.out h), fun h => by rw [h2 36 (by decide)] at h; exact HY.out h⟩⟩
  try simp only [Act.put, List.setIfInBounds_toArray, List.set_cons_zero, List.set_cons_succ]
  apply det_cons
  · refine ⟨by rfl, fun L w hN hS => ?_⟩
    obtain ⟨⟨hcc, hu⟩, hz, hy⟩ := hS
    have HZ := Lib.hid hz
    have HY := Lib.hid hy
    clear hz hy
    go_simp
    exact ⟨rfl, fun L' h1 h2 => ⟨⟨hcc, hu⟩, (fun h => by rw [h2 36 (by decide)] at h; rw [h2 24 (by decide)]; exact HZ.out h), fun h => by rw [h2 36 (by decide)] at h; exact HY.out h⟩⟩
  try simp only [Act.put, List.setIfInBounds_toArray, List.set_cons_zero, List.set_cons_succ]
  apply det_cons
  · refine ⟨by rfl, fun L w hN hS => ?_⟩
    obtain ⟨⟨hcc, hu⟩, hz, hy⟩ := hS
    have HZ := Lib.hid hz
    have HY := Lib.hid hy
    clear hz hy
    go_simp
    exact ⟨rfl, fun L' h1 h2 => ⟨⟨hcc, hu⟩, (fun h => by rw [h2 36 (by decide)] at h; rw [h2 24 (by decide)]; exact HZ.out h), fun h => by rw [h2 36 (by decide)] at h; exact HY.out h⟩⟩
  try simp only [Act.put, List.setIfInBounds_toArray, List.set_cons_zero, List.set_cons_succ]
  apply det_cons
  · refine ⟨by rfl, fun L w hN hS => ?_⟩
    obtain ⟨⟨hcc, hu⟩, hz, hy⟩ := hS
    have HZ := Lib.hid hz
    have HY := Lib.hid hy
    clear hz hy
    go_simp
    exact ⟨rfl, fun L' h1 h2 => ⟨⟨hcc, hu⟩, (fun h => by rw [h2 36 (by decide)] at h; rw [h2 24 (by decide)]; exact HZ.out h), fun h => by rw [h2 36 (by decide)] at h; exact HY.out h⟩⟩
  try simp only [Act.put, List.setIfInBounds_toArray, List.set_cons_zero, List.set_cons_succ]
  apply det_cons
  · refine ⟨by rfl, fun L w hN hS => ?_⟩
    obtain ⟨⟨hcc, hu⟩, hz, hy⟩ := hS
    have HZ := Lib.hid hz
    have HY := Lib.hid hy
    clear hz hy
    go_simp
    exact ⟨rfl, fun L' h1 h2 => ⟨⟨hcc, hu⟩, (fun h => by rw [h2 36 (by decide)] at h; rw [h2 24 (by decide)]; exact HZ.out h), fun h => by rw [h2 36 (by decide)] at h; exact HY.out h⟩⟩
  try simp only [Act.put, List.setIfInBounds_toArray, List.set_cons_zero, List.set_cons_succ]
  apply det_cons
  · refine ⟨by rfl, fun L w hN hS => ?_⟩
    obtain ⟨⟨hcc, hu⟩, hz, hy⟩ := hS
    have HZ := Lib.hid hz
    have HY := Lib.hid hy
    clear hz hy
    go_simp
    exact ⟨rfl, fun L' h1 h2 => ⟨⟨hcc, hu⟩, (fun h => by rw [h2 36 (by decide)] at h; rw [h2 24 (by decide)]; exact HZ.out h), fun h => by rw [h2 36 (by decide)] at h; exact HY.out h⟩⟩
  try simp only [Act.put, List.setIfInBounds_toArray, List.set_cons_zero, List.set_cons_succ]
  apply det_cons
  · refine ⟨by rfl, fun L w hN hS => ?_⟩
    obtain ⟨⟨hcc, hu⟩, hz, hy⟩ := hS
    have HZ := Lib.hid hz
    have HY := Lib.hid hy
    clear hz hy
    go_simp
    exact ⟨rfl, fun L' h1 h2 => ⟨⟨hcc, hu⟩, (fun h => by rw [h2 36 (by decide)] at h; rw [h2 24 (by decide)]; exact HZ.out h), fun h => by rw [h2 36 (by decide)] at h; exact HY.out h⟩⟩
  try simp only [Act.put, List.setIfInBounds_toArray, List.set_cons_zero, List.set_cons_succ]
  apply det_cons
  · refine ⟨by rfl, fun L w hN hS => ?_⟩
    obtain ⟨⟨hcc, hu⟩, hz, hy⟩ := hS
    have HZ := Lib.hid hz
    have HY := Lib.hid hy
    clear hz hy
    go_simp
    exact ⟨rfl, fun L' h1 h2 => ⟨⟨hcc, hu⟩, (fun h => by rw [h2 36 (by decide)] at h; rw [h2 24 (by decide)]; exact HZ.out h), fun h => by rw [h2 36 (by decide)] at h; exact HY.out h⟩⟩
  try simp only [Act.put, List.setIfInBounds_toArray, List.set_cons_zero, List.set_cons_succ]
  apply det_cons
  · refine ⟨by rfl, fun L w hN hS => ?_⟩
    obtain ⟨⟨hcc, hu⟩, hz, hy⟩ := hS
    have HZ := Lib.hid hz
    have HY := Lib.hid hy
    clear hz hy
    go_simp
    exact ⟨rfl, fun L' h1 h2 => ⟨⟨hcc, hu⟩, (fun h => by rw [h2 36 (by decide)] at h; rw [h2 24 (by decide)]; exact HZ.out h), fun h => by rw [h2 36 (by decide)] at h; exact HY.out h⟩⟩
  try simp only [Act.put, List.setIfInBounds_toArray, List.set_cons_zero, List.set_cons_succ]
  apply det_cons
  · refine ⟨by rfl, fun L w hN hS => ?_⟩
    obtain ⟨⟨hcc, hu⟩, hz, hy⟩ := hS
    have HZ := Lib.hid hz
    have HY := Lib.hid hy
    clear hz hy
    go_simp
    exact ⟨rfl, fun L' h1 h2 => ⟨⟨hcc, hu⟩, (fun h => by rw [h2 36 (by decide)] at h; rw [h2 24 (by decide)]; exact HZ.out h), fun h => by rw [h2 36 (by decide)] at h; exact HY.out h⟩⟩
  try simp only [Act.put, List.setIfInBounds_toArray, List.set_cons_zero, List.set_cons_succ]
  apply det_cons
  · refine ⟨by rfl, fun L w hN hS => ?_⟩
    obtain ⟨⟨hcc, hu⟩, hz, hy⟩ := hS
    have HZ := Lib.hid hz
    have HY := Lib.hid hy
    clear hz hy
    go_simp
    exact ⟨rfl, fun L' h1 h2 => ⟨⟨hcc, hu⟩, (fun h => by rw [h2 36 (by decide)] at h; rw [h2 24 (by decide)]; exact HZ.out h), fun h => by rw [h2 36 (by decide)] at h; exact HY.out h⟩⟩
  try simp only [Act.put, List.setIfInBounds_toArray, List.set_cons_zero, List.set_cons_succ]
  apply det_cons
  · refine ⟨by rfl, fun L w hN hS => ?_⟩
    obtain ⟨⟨hcc, hu⟩, hz, hy⟩ := hS
    have HZ := Lib.hid hz
    have HY := Lib.hid hy
    clear hz hy
    go_simp
    exact ⟨rfl, fun L' h1 h2 => ⟨⟨hcc, hu⟩, (fun h => by rw [h2 36 (by decide)] at h; rw [h2 24 (by decide)]; exact HZ.out h), fun h => by rw [h2 36 (by decide)] at h; exact HY.out h⟩⟩
  try simp only [Act.put, List.setIfInBounds_toArray, List.set_cons_zero, List.set_cons_succ]
  apply det_cons
  · refine ⟨by rfl, fun L w hN hS => ?_⟩
    obtain ⟨⟨hcc, hu⟩, hz, hy⟩ := hS
    have HZ := Lib.hid hz
    have HY := Lib.hid hy
    clear hz hy
    have h36 : L 36 = false := (hN.chain (hN.chain (hN.chain (hN.chain hN.free (k := 27) (by kernel_rfl)) (k := 31) (by kernel_rfl)) (k := 34) (by kernel_rfl)) (k := 36) (by kernel_rfl))
    have hsz2 := HZ.out h36
    rw [show L 24 = false from hN.free, if_neg (by simp)] at hsz2
    have H36 := Lib.hid h36
    have HSZ2 := Lib.hid hsz2
    clear h36 hsz2
    go_simp
    refine (reach_sz _ _ _).mono ?_
    rintro e w' ⟨rfl, hbb, hzz⟩
    exact ⟨rfl, fun L' h1 h2 => ⟨hs1 hbb ⟨hcc, hu⟩, fun _ => by rw [h1, if_pos rfl, hzz, HSZ2.out], fun h => by rw [h2 36 (by decide), H36.out] at h; cases h⟩⟩
  try simp only [Act.put, List.setIfInBounds_toArray, List.set_cons_zero, List.set_cons_succ]
  apply det_cons
  · refine ⟨by rfl, fun L w hN hS => ?_⟩
    obtain ⟨⟨hcc, hu⟩, hz, hy⟩ := hS
    have HZ := Lib.hid hz
    have HY := Lib.hid hy
    clear hz hy
    go_simp
    exact ⟨rfl, fun L' h1 h2 => ⟨⟨hcc, hu⟩, (fun h => by rw [h2 36 (by decide)] at h; rw [h2 24 (by decide)]; exact HZ.out h), fun h => by rw [h2 36 (by decide)] at h; exact HY.out h⟩⟩
  try simp only [Act.put, List.setIfInBounds_toArray, List.set_cons_zero, List.set_cons_succ]
  apply det_cons
  · refine ⟨by rfl, fun L w hN hS => ?_⟩
    obtain ⟨⟨hcc, hu⟩, hz, hy⟩ := hS
    have HZ := Lib.hid hz
    have HY := Lib.hid hy
    clear hz hy
    go_simp
    exact ⟨rfl, fun L' h1 h2 => ⟨⟨hcc, hu⟩, (fun h => by rw [h2 36 (by decide)] at h; rw [h2 24 (by decide)]; exact HZ.out h), fun h => by rw [h2 36 (by decide)] at h; exact HY.out h⟩⟩
  try simp only [Act.put, List.setIfInBounds_toArray, List.set_cons_zero, List.set_cons_succ]
  apply det_cons
  · refine ⟨by rfl, fun L w hN hS => ?_⟩
    obtain ⟨⟨hcc, hu⟩, hz, hy⟩ := hS
    have HZ := Lib.hid hz
    have HY := Lib.hid hy
    clear hz hy
    go_simp
    exact ⟨rfl, fun L' h1 h2 => ⟨⟨hcc, hu⟩, (fun h => by rw [h2 36 (by decide)] at h; rw [h2 24 (by decide)]; exact HZ.out h), fun h => by rw [h2 36 (by decide)] at h; exact HY.out h⟩⟩
  try simp only [Act.put, List.setIfInBounds_toArray, List.set_cons_zero, List.set_cons_succ]
  apply det_cons
  · refine ⟨by rfl, fun L w hN hS => ?_⟩
    obtain ⟨⟨hcc, hu⟩, hz, hy⟩ := hS
    have HZ := Lib.hid hz
    have HY := Lib.hid hy
    clear hz hy
    go_simp
    exact ⟨rfl, fun L' h1 h2 => ⟨⟨hcc, hu⟩, (fun h => by rw [h2 36 (by decide)] at h; rw [h2 24 (by decide)]; exact HZ.out h), fun h => by rw [h2 36 (by decide)] at h; exact HY.out h⟩⟩
  try simp only [Act.put, List.setIfInBounds_toArray, List.set_cons_zero, List.set_cons_succ]
  apply det_cons
  · refine ⟨by rfl, fun L w hN hS => ?_⟩
    obtain ⟨⟨hcc, hu⟩, hz, hy⟩ := hS
    have HZ := Lib.hid hz
    have HY := Lib.hid hy
    clear hz hy
    go_simp
    exact ⟨rfl, fun L' h1 h2 => ⟨⟨hcc, hu⟩, (fun h => by rw [h2 36 (by decide)] at h; rw [h2 24 (by decide)]; exact HZ.out h), fun h => by rw [h2 36 (by decide)] at h; exact HY.out h⟩⟩
  try simp only [Act.put, List.setIfInBounds_toArray, List.set_cons_zero, List.set_cons_succ]
  apply det_cons
  · refine ⟨by rfl, fun L w hN hS => ?_⟩
    obtain ⟨⟨hcc, hu⟩, hz, hy⟩ := hS
    have HZ := Lib.hid hz
    have HY := Lib.hid hy
    clear hz hy
    go_simp
    exact ⟨rfl, fun L' h1 h2 => ⟨⟨hcc, hu⟩, (fun h => by rw [h2 36 (by decide)] at h; rw [h2 24 (by decide)]; exact HZ.out h), fun h => by rw [h2 36 (by decide)] at h; exact HY.out h⟩⟩
  try simp only [Act.put, List.setIfInBounds_toArray, List.set_cons_zero, List.set_cons_succ]
  apply det_cons
  · refine ⟨by rfl, fun L w hN hS => ?_⟩
    obtain ⟨⟨hcc, hu⟩, hz, hy⟩ := hS
    have HZ := Lib.hid hz
    have HY := Lib.hid hy
    clear hz hy
    go_simp
    exact ⟨rfl, fun L' h1 h2 => ⟨⟨hcc, hu⟩, (fun h => by rw [h2 36 (by decide)] at h; rw [h2 24 (by decide)]; exact HZ.out h), fun h => by rw [h2 36 (by decide)] at h; exact HY.out h⟩⟩
  try simp only [Act.put, List.setIfInBounds_toArray, List.set_cons_zero, List.set_cons_succ]
  apply det_cons
  · refine ⟨by rfl, fun L w hN hS => ?_⟩
    obtain ⟨⟨hcc, hu⟩, hz, hy⟩ := hS
    have HZ := Lib.hid hz
    have HY := Lib.hid hy
    clear hz hy
    go_simp
    exact ⟨rfl, fun L' h1 h2 => ⟨⟨hcc, hu⟩, (fun h => by rw [h2 36 (by decide)] at h; rw [h2 24 (by decide)]; exact HZ.out h), fun h => by rw [h2 36 (by decide)] at h; exact HY.out h⟩⟩
  try simp only [Act.put, List.setIfInBounds_toArray, List.set_cons_zero, List.set_cons_succ]
  apply det_cons
  · refine ⟨by rfl, fun L w hN hS => ?_⟩
    obtain ⟨⟨hcc, hu⟩, hz, hy⟩ := hS
    have HZ := Lib.hid hz
    have HY := Lib.hid hy
    clear hz hy
    go_simp
    exact ⟨rfl, fun L' h1 h2 => ⟨⟨hcc, hu⟩, (fun h => by rw [h2 36 (by decide)] at h; rw [h2 24 (by decide)]; exact HZ.out h), fun h => by rw [h2 36 (by decide)] at h; exact HY.out h⟩⟩
  try simp only [Act.put, List.setIfInBounds_toArray, List.set_cons_zero, List.set_cons_succ]
  apply det_cons
  · refine ⟨by rfl, fun L w hN hS => ?_⟩
    obtain ⟨⟨hcc, hu⟩, hz, hy⟩ := hS
    have HZ := Lib.hid hz
    have HY := Lib.hid hy
    clear hz hy
    go_simp
    exact ⟨rfl, fun L' h1 h2 => ⟨⟨hcc, hu⟩, (fun h => by rw [h2 36 (by decide)] at h; rw [h2 24 (by decide)]; exact HZ.out h), fun h => by rw [h2 36 (by decide)] at h; exact HY.out h⟩⟩
  try simp only [Act.put, List.setIfInBounds_toArray, List.set_cons_zero, List.set_cons_succ]
  apply det_cons
  · refine ⟨by rfl, fun L w hN hS => ?_⟩
    obtain ⟨⟨hcc, hu⟩, hz, hy⟩ := hS
    have HZ := Lib.hid hz
    have HY := Lib.hid hy
    clear hz hy
    go_simp
    exact ⟨rfl, fun L' h1 h2 => ⟨⟨hcc, hu⟩, (fun h => by rw [h2 36 (by decide)] at h; rw [h2 24 (by decide)]; exact HZ.out h), fun h => by rw [h2 36 (by decide)] at h; exact HY.out h⟩⟩
  try simp only [Act.put, List.setIfInBounds_toArray, List.set_cons_zero, List.set_cons_succ]
  apply det_cons
  · refine ⟨by rfl, fun L w hN hS => ?_⟩
    obtain ⟨⟨hcc, hu⟩, hz, hy⟩ := hS
    have HZ := Lib.hid hz
    have HY := Lib.hid hy
    clear hz hy
    have h24 : L 24 = true := (hN.up (hN.up (hN.up (hN.was (j := 34) (by kernel_rfl)) (k := 31) (by kernel_rfl)) (k := 27) (by kernel_rfl)) (k := 24) (by kernel_rfl))
    have hsz2 := HZ.out hN.free
    rw [h24, if_pos rfl] at hsz2
    have HSZ2 := Lib.hid hsz2
    have HP := Lib.hid (congrArg (fun k => Value.slice (some ⟨k, 0, none⟩) 1 1) hsz2)
    clear h24 hsz2
    go_simp
    refine ⟨HP.out, fun L' h1 h2 => ⟨⟨?_, hu.alloc hu.size _⟩, (fun h => by rw [h1] at h; cases h), fun _ => ⟨?_, ?_⟩⟩⟩
    · intro b o hb
      have h3 := ((Below.refl _ w).alloc (Nat.le_refl _) (.cells #[.int .i64 0] 3)).cell (p := ⟨b, o, none⟩) (show b < w.heap.size by have := HSZ2.out; omega)
      exact h3.trans (hcc b o hb)
    · have h3 := HSZ2.out
      simp [h3]
    · rw [← HSZ2.out]
      exact blk_cell (World.alloc_heap_new _ _)
  try simp only [Act.put, List.setIfInBounds_toArray, List.set_cons_zero, List.set_cons_succ]
  apply det_cons
  · refine ⟨by rfl, fun L w hN hS => ?_⟩
    obtain ⟨⟨hcc, hu⟩, hz, hy⟩ := hS
    have HZ := Lib.hid hz
    have HY := Lib.hid hy
    clear hz hy
    have h36 : L 36 = true := hN.was (by kernel_rfl)
    obtain ⟨hy1, hy2⟩ := HY.out h36
    have HY1 := Lib.hid hy1
    have HY2 := Lib.hid hy2
    clear hy1 hy2
    go_simp
    refine (like_any w _ _ [0] [0] w.heap.size (by have h := HSX.out.below (Nat.le_refl _) hu; exact h.mono hu.size) ⟨_, 1, rfl, Nat.le_refl _, by simp [maxLen, intCells], by simp [intCells], fun _ => ⟨_, 0, rfl, HY1.out, fun i j r c hi hj => ?_⟩⟩ (Nat.le_refl _)).mono ?_
    · have hi0 : i = 0 := by
        have := (List.getElem?_eq_some_iff.1 hi).1
        simp [intCells] at this
        exact this
      subst hi0
      simp [intCells] at hi
      subst hi
      have hj0 : j = 0 := by
        have := (List.getElem?_eq_some_iff.1 hj).1
        simp at this
        exact this
      subst hj0
      simp at hj
      subst hj
      exact HY2.out
    · rintro e w' ⟨rfl, hbb⟩
      exact ⟨rfl, fun L' h1 h2 => ⟨hs1 hbb ⟨hcc, hu⟩, (fun h => by rw [h2 36 (by decide)] at h; rw [show L 36 = true from hN.was (by kernel_rfl)] at h; cases h), fun _ => ⟨Nat.lt_of_lt_of_le HY1.out hbb.size, (hbb.cell (p := ⟨wb12.heap.size + 1, 0, none⟩) HY1.out).trans HY2.out⟩⟩⟩
  try simp only [Act.put, List.setIfInBounds_toArray, List.set_cons_zero, List.set_cons_succ]
  apply det_cons
  · refine ⟨by rfl, fun L w hN hS => ?_⟩
    obtain ⟨⟨hcc, hu⟩, hz, hy⟩ := hS
    have HZ := Lib.hid hz
    have HY := Lib.hid hy
    clear hz hy
    go_simp
    exact ⟨rfl, fun L' h1 h2 => ⟨⟨hcc, hu⟩, (fun h => by rw [h2 36 (by decide)] at h; rw [h2 24 (by decide)]; exact HZ.out h), fun h => by rw [h2 36 (by decide)] at h; exact HY.out h⟩⟩
  try simp only [Act.put, List.setIfInBounds_toArray, List.set_cons_zero, List.set_cons_succ]
  apply det_cons
  · refine ⟨by rfl, fun L w hN hS => ?_⟩
    obtain ⟨⟨hcc, hu⟩, hz, hy⟩ := hS
    have HZ := Lib.hid hz
    have HY := Lib.hid hy
    clear hz hy
    go_simp
    exact ⟨rfl, fun L' h1 h2 => ⟨⟨hcc, hu⟩, (fun h => by rw [h2 36 (by decide)] at h; rw [h2 24 (by decide)]; exact HZ.out h), fun h => by rw [h2 36 (by decide)] at h; exact HY.out h⟩⟩
  try simp only [Act.put, List.setIfInBounds_toArray, List.set_cons_zero, List.set_cons_succ]
  apply det_cons
  · refine ⟨by rfl, fun L w hN hS => ?_⟩
    obtain ⟨⟨hcc, hu⟩, hz, hy⟩ := hS
    have HZ := Lib.hid hz
    have HY := Lib.hid hy
    clear hz hy
    go_simp
    exact ⟨rfl, fun L' h1 h2 => ⟨⟨hcc, hu⟩, (fun h => by rw [h2 36 (by decide)] at h; rw [h2 24 (by decide)]; exact HZ.out h), fun h => by rw [h2 36 (by decide)] at h; exact HY.out h⟩⟩
  try simp only [Act.put, List.setIfInBounds_toArray, List.set_cons_zero, List.set_cons_succ]
  apply det_cons
  · refine ⟨by rfl, fun L w hN hS => ?_⟩
    obtain ⟨⟨hcc, hu⟩, hz, hy⟩ := hS
    have HZ := Lib.hid hz
    have HY := Lib.hid hy
    clear hz hy
    go_simp
    exact ⟨rfl, fun L' h1 h2 => ⟨⟨hcc, hu⟩, (fun h => by rw [h2 36 (by decide)] at h; rw [h2 24 (by decide)]; exact HZ.out h), fun h => by rw [h2 36 (by decide)] at h; exact HY.out h⟩⟩
  try simp only [Act.put, List.setIfInBounds_toArray, List.set_cons_zero, List.set_cons_succ]
  apply det_cons
  · refine ⟨by rfl, fun L w hN hS => ?_⟩
    obtain ⟨⟨hcc, hu⟩, hz, hy⟩ := hS
    have HZ := Lib.hid hz
    have HY := Lib.hid hy
    clear hz hy
    go_simp
    exact ⟨rfl, fun L' h1 h2 => ⟨⟨hcc, hu⟩, (fun h => by rw [h2 36 (by decide)] at h; rw [h2 24 (by decide)]; exact HZ.out h), fun h => by rw [h2 36 (by decide)] at h; exact HY.out h⟩⟩
  try simp only [Act.put, List.setIfInBounds_toArray, List.set_cons_zero, List.set_cons_succ]
  apply det_cons
  · refine ⟨by rfl, fun L w hN hS => ?_⟩
    obtain ⟨⟨hcc, hu⟩, hz, hy⟩ := hS
    have HZ := Lib.hid hz
    have HY := Lib.hid hy
    clear hz hy
    go_simp
    exact ⟨rfl, fun L' h1 h2 => ⟨⟨hcc, hu⟩, (fun h => by rw [h2 36 (by decide)] at h; rw [h2 24 (by decide)]; exact HZ.out h), fun h => by rw [h2 36 (by decide)] at h; exact HY.out h⟩⟩
  try simp only [Act.put, List.setIfInBounds_toArray, List.set_cons_zero, List.set_cons_succ]
  apply det_cons
  · refine ⟨by rfl, fun L w hN hS => ?_⟩
    obtain ⟨⟨hcc, hu⟩, hz, hy⟩ := hS
    have HZ := Lib.hid hz
    have HY := Lib.hid hy
    clear hz hy
    go_simp
    exact ⟨rfl, fun L' h1 h2 => ⟨⟨hcc, hu⟩, (fun h => by rw [h2 36 (by decide)] at h; rw [h2 24 (by decide)]; exact HZ.out h), fun h => by rw [h2 36 (by decide)] at h; exact HY.out h⟩⟩
  try simp only [Act.put, List.setIfInBounds_toArray, List.set_cons_zero, List.set_cons_succ]
  apply det_cons
  · refine ⟨by rfl, fun L w hN hS => ?_⟩
    obtain ⟨⟨hcc, hu⟩, hz, hy⟩ := hS
    have HZ := Lib.hid hz
    have HY := Lib.hid hy
    clear hz hy
    go_simp
    exact ⟨rfl, fun L' h1 h2 => ⟨⟨hcc, hu⟩, (fun h => by rw [h2 36 (by decide)] at h; rw [h2 24 (by decide)]; exact HZ.out h), fun h => by rw [h2 36 (by decide)] at h; exact HY.out h⟩⟩
  try simp only [Act.put, List.setIfInBounds_toArray, List.set_cons_zero, List.set_cons_succ]
  apply det_cons
  · refine ⟨by rfl, fun L w hN hS => ?_⟩
    obtain ⟨⟨hcc, hu⟩, hz, hy⟩ := hS
    have HZ := Lib.hid hz
    have HY := Lib.hid hy
    clear hz hy
    go_simp
    exact ⟨rfl, fun L' h1 h2 => ⟨⟨hcc, hu⟩, (fun h => by rw [h2 36 (by decide)] at h; rw [h2 24 (by decide)]; exact HZ.out h), fun h => by rw [h2 36 (by decide)] at h; exact HY.out h⟩⟩
  try simp only [Act.put, List.setIfInBounds_toArray, List.set_cons_zero]
  refine det_nil ?_
  rintro L w9 hL ⟨⟨hcc, hu⟩, _, _⟩
  go_wp2
  go_ret
  exact ⟨rfl, HB12.out.trans (hu.mono HB12.out.size)⟩
end Go.Proofs.YtbhjfojbjpbdbaaDoor
namespace Go.Proofs.YtbhjfojbjpbdbaaDoor
open Go.RowKit
end Go.Proofs.YtbhjfojbjpbdbaaDoor
