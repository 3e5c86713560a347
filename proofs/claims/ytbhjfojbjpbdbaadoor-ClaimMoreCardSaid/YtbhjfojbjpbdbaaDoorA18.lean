/-
  The contracts of Comes, Late and Rough (package claim). Written by this session; printed by wip/tools/a18.py.
-/
import Derived.Test.YtbhjfojbjpbdbaaDoorA15
namespace Go.Proofs.YtbhjfojbjpbdbaaDoor
open Go.RowKit

theorem isStage_nat {b : Bk} {k : Int} (h : isStage b k = true) : ∃ j : Nat, k = (j : Int) ∧ j < b.sts.length := by
  simp only [isStage, within, Bool.and_eq_true, decide_eq_true_iff] at h
  exact ⟨k.toNat, by omega, by omega⟩

set_option maxRecDepth 100000 in
set_option maxHeartbeats 2000000 in
theorem comes_ex (W : World) (b : Bk) (at' : Int) (n : Nat) (sa ka : Option Addr) (n1 sc n2 kc : Nat) (hv : BookW W n sa ka n1 sc n2 kc b) (hG : Glob W) :
    Calls Tryd.prog 19 #[.agg (b.cells (.slice sa n1 sc) (.slice ka n2 kc)).toArray, .int .i64 at'] W fun e W' => e = .returned (.tuple #[.agg #[.int .i64 (comesS b at').1, .int .i64 (comesS b at').2.1], .int .i64 (comesS b at').2.2]) ∧ Below W.heap.size W W' := by
  obtain ⟨V, hV⟩ : ∃ V, ((W.alloc (Obj.cells #[.slice sa n1 sc, .int .i64 b.wth, .int .i64 b.c0, .int .i64 b.c1, .int .i64 b.c2, .slice ka n2 kc, .int .i64 b.rate] 26)).alloc (Obj.cells #[Value.int .i64 at'] 3)).alloc (Obj.cells #[Value.int .i64 0, Value.int .i64 0] 32) = V := ⟨_, rfl⟩
  have hBV : Below W.heap.size W V := by rw [← hV]; exact (((Below.refl _ _).alloc (Nat.le_refl _) _).alloc (by simp) _).alloc (by simp; omega) _
  have hb0 : V.heap[W.heap.size]? = some (Obj.cells #[.slice sa n1 sc, .int .i64 b.wth, .int .i64 b.c0, .int .i64 b.c1, .int .i64 b.c2, .slice ka n2 kc, .int .i64 b.rate] 26) := by rw [← hV]; exact (heap_alloc_old _ _ (by simp; omega)).trans ((heap_alloc_old _ _ (by simp)).trans (World.alloc_heap_new _ _))
  have hVz : W.heap.size < V.heap.size := (Array.getElem?_eq_some_iff.1 hb0).1
  have HGV := Lib.hid (hG.below hG.lt hBV)
  have HVB := Lib.hid (hv.below hv.hn hBV)
  have HN := Lib.hid hv.hn
  have c0 : V.cell? ⟨W.heap.size, 0, none⟩ = some (.slice sa n1 sc) := blk_cell hb0
  have c1 : V.cell? ⟨W.heap.size, 1, none⟩ = some (.int .i64 b.wth) := blk_cell hb0
  have c2 : V.cell? ⟨W.heap.size, 2, none⟩ = some (.int .i64 b.c0) := blk_cell hb0
  have c3 : V.cell? ⟨W.heap.size, 3, none⟩ = some (.int .i64 b.c1) := blk_cell hb0
  have c4 : V.cell? ⟨W.heap.size, 4, none⟩ = some (.int .i64 b.c2) := blk_cell hb0
  have c5 : V.cell? ⟨W.heap.size, 5, none⟩ = some (.slice ka n2 kc) := blk_cell hb0
  have c6 : V.cell? ⟨W.heap.size, 6, none⟩ = some (.int .i64 b.rate) := blk_cell hb0
  have hi0 : V.heap[W.heap.size + 1]? = some (Obj.cells #[Value.int .i64 at'] 3) := by rw [← hV]; refine (heap_alloc_old _ _ (by simp)).trans ?_; have := World.alloc_heap_new (W.alloc (Obj.cells #[.slice sa n1 sc, .int .i64 b.wth, .int .i64 b.c0, .int .i64 b.c1, .int .i64 b.c2, .slice ka n2 kc, .int .i64 b.rate] 26)) (Obj.cells #[Value.int .i64 at'] 3); rwa [World.size_alloc] at this
  have hr0 : V.heap[W.heap.size + 1 + 1]? = some (Obj.cells #[Value.int .i64 0, Value.int .i64 0] 32) := by rw [← hV]; have := World.alloc_heap_new ((W.alloc (Obj.cells #[.slice sa n1 sc, .int .i64 b.wth, .int .i64 b.c0, .int .i64 b.c1, .int .i64 b.c2, .slice ka n2 kc, .int .i64 b.rate] 26)).alloc (Obj.cells #[Value.int .i64 at'] 3)) (Obj.cells #[Value.int .i64 0, Value.int .i64 0] 32); rwa [World.size_alloc, World.size_alloc] at this
  have hVx : W.heap.size + 1 < V.heap.size := (Array.getElem?_eq_some_iff.1 hi0).1
  have hVy : W.heap.size + 1 + 1 < V.heap.size := (Array.getElem?_eq_some_iff.1 hr0).1
  have i0 : V.cell? ⟨W.heap.size + 1, 0, none⟩ = some (.int .i64 at') := blk_cell hi0
  have HR0 := Lib.hid hr0
  have hof : isStage b at' = true → bkOk b = true → OfFn V b sa n1 sc 72 (W.heap.size + 1) (fun t => t.comes at'.toNat) := by
    intro his hok ka0 ta kl kc0 tl tc mo t W2 ht h2
    obtain ⟨j, rfl, hj⟩ := isStage_nat his
    have hAt := (h2.block _ hVx).trans hi0
    exact comes1_any W2 b sa ka0 ta n1 sc kl kc0 tl tc mo t j (W.heap.size + 1) (by have := (bkOk_head hok).1; omega) hAt
  have HOF := Lib.hid hof
  clear hv hG hb0 hi0 hof
  have hz0 : V.cell? ⟨W.heap.size + 1 + 1, 0, none⟩ = some (.int .i64 0) := blk_cell hr0
  have hz1 : V.cell? ⟨W.heap.size + 1 + 1, 1, none⟩ = some (.int .i64 0) := blk_cell hr0
  have hf0 := blk_frozen hr0 0
  have hf1 := blk_frozen hr0 1
  clear hr0
  simp only [Bk.cells]
  go_enter Tryd.func19, Tryd.ntmps19
  go_upto_region 1 with fail
  try rw [hV]
  clear hV
  go_wp2_with fail
  refine (stage_any V b at' n sa ka n1 sc n2 kc 72 (W.heap.size + 1) (fun t => t.comes at'.toNat) HVB.out HGV.out (enters_of Tryd.func72 (by kernel_rfl) rfl) HOF.out).mono ?_
  rintro e w5 ⟨rfl, hb5⟩
  have hk5 := (bcell hb5).1
  have hf5 := (bcell hb5).2
  have HB5 := Lib.hid hb5
  clear hb5
  have HSP := Lib.hid (show comesS b at' = spanE b (isStage b at') (fun t => t.comes at'.toNat) from rfl)
  obtain ⟨S, hS⟩ : ∃ S, spanE b (isStage b at') (fun t => t.comes at'.toNat) = S := ⟨_, rfl⟩
  rw [hS] at HSP ⊢
  clear hS
  obtain ⟨S1, S2, S3⟩ := S
  simp only
  go_wp2_with fail
  obtain ⟨k0, k1, hBZ⟩ := stored2 ((HB5.out.block _ hVy).trans HR0.out) (.int .i64 S1) (.int .i64 S2) (hBV.trans (HB5.out.mono hBV.size)) (show W.heap.size ≤ W.heap.size + 1 + 1 by omega)
  generalize (w5.setCell ⟨W.heap.size + 1 + 1, 0, none⟩ (.int .i64 S1)).setCell ⟨W.heap.size + 1 + 1, 1, none⟩ (.int .i64 S2) = Z at k0 k1 hBZ ⊢
  exact bodyPost_ret (v := .tuple #[.agg #[.int .i64 S1, .int .i64 S2], .int .i64 S3]) (by simp [results, Tryd.results19, go_sem, k0, k1]) rfl ⟨by rw [HSP.out], hBZ⟩

set_option maxRecDepth 100000 in
set_option maxHeartbeats 2000000 in
theorem late_ex (W : World) (b : Bk) (at' : Int) (n : Nat) (sa ka : Option Addr) (n1 sc n2 kc : Nat) (hv : BookW W n sa ka n1 sc n2 kc b) (hG : Glob W) :
    Calls Tryd.prog 21 #[.agg (b.cells (.slice sa n1 sc) (.slice ka n2 kc)).toArray, .int .i64 at'] W fun e W' => e = .returned (.tuple #[.agg #[.int .i64 (lateS b at').1, .int .i64 (lateS b at').2.1], .int .i64 (lateS b at').2.2]) ∧ Below W.heap.size W W' := by
  obtain ⟨V, hV⟩ : ∃ V, ((W.alloc (Obj.cells #[.slice sa n1 sc, .int .i64 b.wth, .int .i64 b.c0, .int .i64 b.c1, .int .i64 b.c2, .slice ka n2 kc, .int .i64 b.rate] 26)).alloc (Obj.cells #[Value.int .i64 at'] 3)).alloc (Obj.cells #[Value.int .i64 0, Value.int .i64 0] 32) = V := ⟨_, rfl⟩
  have hBV : Below W.heap.size W V := by rw [← hV]; exact (((Below.refl _ _).alloc (Nat.le_refl _) _).alloc (by simp) _).alloc (by simp; omega) _
  have hb0 : V.heap[W.heap.size]? = some (Obj.cells #[.slice sa n1 sc, .int .i64 b.wth, .int .i64 b.c0, .int .i64 b.c1, .int .i64 b.c2, .slice ka n2 kc, .int .i64 b.rate] 26) := by rw [← hV]; exact (heap_alloc_old _ _ (by simp; omega)).trans ((heap_alloc_old _ _ (by simp)).trans (World.alloc_heap_new _ _))
  have hVz : W.heap.size < V.heap.size := (Array.getElem?_eq_some_iff.1 hb0).1
  have HGV := Lib.hid (hG.below hG.lt hBV)
  have HVB := Lib.hid (hv.below hv.hn hBV)
  have HN := Lib.hid hv.hn
  have c0 : V.cell? ⟨W.heap.size, 0, none⟩ = some (.slice sa n1 sc) := blk_cell hb0
  have c1 : V.cell? ⟨W.heap.size, 1, none⟩ = some (.int .i64 b.wth) := blk_cell hb0
  have c2 : V.cell? ⟨W.heap.size, 2, none⟩ = some (.int .i64 b.c0) := blk_cell hb0
  have c3 : V.cell? ⟨W.heap.size, 3, none⟩ = some (.int .i64 b.c1) := blk_cell hb0
  have c4 : V.cell? ⟨W.heap.size, 4, none⟩ = some (.int .i64 b.c2) := blk_cell hb0
  have c5 : V.cell? ⟨W.heap.size, 5, none⟩ = some (.slice ka n2 kc) := blk_cell hb0
  have c6 : V.cell? ⟨W.heap.size, 6, none⟩ = some (.int .i64 b.rate) := blk_cell hb0
  have hi0 : V.heap[W.heap.size + 1]? = some (Obj.cells #[Value.int .i64 at'] 3) := by rw [← hV]; refine (heap_alloc_old _ _ (by simp)).trans ?_; have := World.alloc_heap_new (W.alloc (Obj.cells #[.slice sa n1 sc, .int .i64 b.wth, .int .i64 b.c0, .int .i64 b.c1, .int .i64 b.c2, .slice ka n2 kc, .int .i64 b.rate] 26)) (Obj.cells #[Value.int .i64 at'] 3); rwa [World.size_alloc] at this
  have hr0 : V.heap[W.heap.size + 1 + 1]? = some (Obj.cells #[Value.int .i64 0, Value.int .i64 0] 32) := by rw [← hV]; have := World.alloc_heap_new ((W.alloc (Obj.cells #[.slice sa n1 sc, .int .i64 b.wth, .int .i64 b.c0, .int .i64 b.c1, .int .i64 b.c2, .slice ka n2 kc, .int .i64 b.rate] 26)).alloc (Obj.cells #[Value.int .i64 at'] 3)) (Obj.cells #[Value.int .i64 0, Value.int .i64 0] 32); rwa [World.size_alloc, World.size_alloc] at this
  have hVx : W.heap.size + 1 < V.heap.size := (Array.getElem?_eq_some_iff.1 hi0).1
  have hVy : W.heap.size + 1 + 1 < V.heap.size := (Array.getElem?_eq_some_iff.1 hr0).1
  have i0 : V.cell? ⟨W.heap.size + 1, 0, none⟩ = some (.int .i64 at') := blk_cell hi0
  have HR0 := Lib.hid hr0
  have hof : isStage b at' = true → bkOk b = true → OfFn V b sa n1 sc 76 (W.heap.size + 1) (lateT b at'.toNat) := by
    intro his hok ka0 ta kl kc0 tl tc mo t W2 ht h2
    obtain ⟨j, rfl, hj⟩ := isStage_nat his
    have hAt := (h2.block _ hVx).trans hi0
    exact late1_any W2 b sa ka0 ta n1 sc kl kc0 tl tc n mo t j (W.heap.size + 1) hj (bkOk_head hok).1.2 (Nat.le_trans HVB.out.hn h2.size) (HVB.out.hs.below HVB.out.hn h2) ht (by have := due_bd hok j; omega) hAt
  have HOF := Lib.hid hof
  clear hv hG hb0 hi0 hof
  have hz0 : V.cell? ⟨W.heap.size + 1 + 1, 0, none⟩ = some (.int .i64 0) := blk_cell hr0
  have hz1 : V.cell? ⟨W.heap.size + 1 + 1, 1, none⟩ = some (.int .i64 0) := blk_cell hr0
  have hf0 := blk_frozen hr0 0
  have hf1 := blk_frozen hr0 1
  clear hr0
  simp only [Bk.cells]
  go_enter Tryd.func21, Tryd.ntmps21
  go_upto_region 1 with fail
  try rw [hV]
  clear hV
  go_wp2_with fail
  refine (stage_any V b at' n sa ka n1 sc n2 kc 76 (W.heap.size + 1) (lateT b at'.toNat) HVB.out HGV.out (enters_of Tryd.func76 (by kernel_rfl) rfl) HOF.out).mono ?_
  rintro e w5 ⟨rfl, hb5⟩
  have hk5 := (bcell hb5).1
  have hf5 := (bcell hb5).2
  have HB5 := Lib.hid hb5
  clear hb5
  have HSP := Lib.hid (show lateS b at' = spanE b (isStage b at') (lateT b at'.toNat) from rfl)
  obtain ⟨S, hS⟩ : ∃ S, spanE b (isStage b at') (lateT b at'.toNat) = S := ⟨_, rfl⟩
  rw [hS] at HSP ⊢
  clear hS
  obtain ⟨S1, S2, S3⟩ := S
  simp only
  go_wp2_with fail
  obtain ⟨k0, k1, hBZ⟩ := stored2 ((HB5.out.block _ hVy).trans HR0.out) (.int .i64 S1) (.int .i64 S2) (hBV.trans (HB5.out.mono hBV.size)) (show W.heap.size ≤ W.heap.size + 1 + 1 by omega)
  generalize (w5.setCell ⟨W.heap.size + 1 + 1, 0, none⟩ (.int .i64 S1)).setCell ⟨W.heap.size + 1 + 1, 1, none⟩ (.int .i64 S2) = Z at k0 k1 hBZ ⊢
  exact bodyPost_ret (v := .tuple #[.agg #[.int .i64 S1, .int .i64 S2], .int .i64 S3]) (by simp [results, Tryd.results21, go_sem, k0, k1]) rfl ⟨by rw [HSP.out], hBZ⟩

set_option maxRecDepth 100000 in
set_option maxHeartbeats 2000000 in
theorem rough_ex (W : World) (b : Bk) (at' : Int) (n : Nat) (sa ka : Option Addr) (n1 sc n2 kc : Nat) (hv : BookW W n sa ka n1 sc n2 kc b) (hG : Glob W) :
    Calls Tryd.prog 23 #[.agg (b.cells (.slice sa n1 sc) (.slice ka n2 kc)).toArray, .int .i64 at'] W fun e W' => e = .returned (.tuple #[.agg #[.int .i64 (roughS b at').1, .int .i64 (roughS b at').2.1], .int .i64 (roughS b at').2.2]) ∧ Below W.heap.size W W' := by
  obtain ⟨V, hV⟩ : ∃ V, ((W.alloc (Obj.cells #[.slice sa n1 sc, .int .i64 b.wth, .int .i64 b.c0, .int .i64 b.c1, .int .i64 b.c2, .slice ka n2 kc, .int .i64 b.rate] 26)).alloc (Obj.cells #[Value.int .i64 at'] 3)).alloc (Obj.cells #[Value.int .i64 0, Value.int .i64 0] 32) = V := ⟨_, rfl⟩
  have hBV : Below W.heap.size W V := by rw [← hV]; exact (((Below.refl _ _).alloc (Nat.le_refl _) _).alloc (by simp) _).alloc (by simp; omega) _
  have hb0 : V.heap[W.heap.size]? = some (Obj.cells #[.slice sa n1 sc, .int .i64 b.wth, .int .i64 b.c0, .int .i64 b.c1, .int .i64 b.c2, .slice ka n2 kc, .int .i64 b.rate] 26) := by rw [← hV]; exact (heap_alloc_old _ _ (by simp; omega)).trans ((heap_alloc_old _ _ (by simp)).trans (World.alloc_heap_new _ _))
  have hVz : W.heap.size < V.heap.size := (Array.getElem?_eq_some_iff.1 hb0).1
  have HGV := Lib.hid (hG.below hG.lt hBV)
  have HVB := Lib.hid (hv.below hv.hn hBV)
  have HN := Lib.hid hv.hn
  have c0 : V.cell? ⟨W.heap.size, 0, none⟩ = some (.slice sa n1 sc) := blk_cell hb0
  have c1 : V.cell? ⟨W.heap.size, 1, none⟩ = some (.int .i64 b.wth) := blk_cell hb0
  have c2 : V.cell? ⟨W.heap.size, 2, none⟩ = some (.int .i64 b.c0) := blk_cell hb0
  have c3 : V.cell? ⟨W.heap.size, 3, none⟩ = some (.int .i64 b.c1) := blk_cell hb0
  have c4 : V.cell? ⟨W.heap.size, 4, none⟩ = some (.int .i64 b.c2) := blk_cell hb0
  have c5 : V.cell? ⟨W.heap.size, 5, none⟩ = some (.slice ka n2 kc) := blk_cell hb0
  have c6 : V.cell? ⟨W.heap.size, 6, none⟩ = some (.int .i64 b.rate) := blk_cell hb0
  have hi0 : V.heap[W.heap.size + 1]? = some (Obj.cells #[Value.int .i64 at'] 3) := by rw [← hV]; refine (heap_alloc_old _ _ (by simp)).trans ?_; have := World.alloc_heap_new (W.alloc (Obj.cells #[.slice sa n1 sc, .int .i64 b.wth, .int .i64 b.c0, .int .i64 b.c1, .int .i64 b.c2, .slice ka n2 kc, .int .i64 b.rate] 26)) (Obj.cells #[Value.int .i64 at'] 3); rwa [World.size_alloc] at this
  have hr0 : V.heap[W.heap.size + 1 + 1]? = some (Obj.cells #[Value.int .i64 0, Value.int .i64 0] 32) := by rw [← hV]; have := World.alloc_heap_new ((W.alloc (Obj.cells #[.slice sa n1 sc, .int .i64 b.wth, .int .i64 b.c0, .int .i64 b.c1, .int .i64 b.c2, .slice ka n2 kc, .int .i64 b.rate] 26)).alloc (Obj.cells #[Value.int .i64 at'] 3)) (Obj.cells #[Value.int .i64 0, Value.int .i64 0] 32); rwa [World.size_alloc, World.size_alloc] at this
  have hVx : W.heap.size + 1 < V.heap.size := (Array.getElem?_eq_some_iff.1 hi0).1
  have hVy : W.heap.size + 1 + 1 < V.heap.size := (Array.getElem?_eq_some_iff.1 hr0).1
  have i0 : V.cell? ⟨W.heap.size + 1, 0, none⟩ = some (.int .i64 at') := blk_cell hi0
  have HR0 := Lib.hid hr0
  have hof : isStage b at' = true → bkOk b = true → OfFn V b sa n1 sc 79 (W.heap.size + 1) (fun t => t.rough at'.toNat) := by
    intro his hok ka0 ta kl kc0 tl tc mo t W2 ht h2
    obtain ⟨j, rfl, hj⟩ := isStage_nat his
    have hAt := (h2.block _ hVx).trans hi0
    exact rough1_any W2 b sa ka0 ta n1 sc kl kc0 tl tc mo t j (W.heap.size + 1) (by have := (bkOk_head hok).1; omega) hAt
  have HOF := Lib.hid hof
  clear hv hG hb0 hi0 hof
  have hz0 : V.cell? ⟨W.heap.size + 1 + 1, 0, none⟩ = some (.int .i64 0) := blk_cell hr0
  have hz1 : V.cell? ⟨W.heap.size + 1 + 1, 1, none⟩ = some (.int .i64 0) := blk_cell hr0
  have hf0 := blk_frozen hr0 0
  have hf1 := blk_frozen hr0 1
  clear hr0
  simp only [Bk.cells]
  go_enter Tryd.func23, Tryd.ntmps23
  go_upto_region 1 with fail
  try rw [hV]
  clear hV
  go_wp2_with fail
  refine (stage_any V b at' n sa ka n1 sc n2 kc 79 (W.heap.size + 1) (fun t => t.rough at'.toNat) HVB.out HGV.out (enters_of Tryd.func79 (by kernel_rfl) rfl) HOF.out).mono ?_
  rintro e w5 ⟨rfl, hb5⟩
  have hk5 := (bcell hb5).1
  have hf5 := (bcell hb5).2
  have HB5 := Lib.hid hb5
  clear hb5
  have HSP := Lib.hid (show roughS b at' = spanE b (isStage b at') (fun t => t.rough at'.toNat) from rfl)
  obtain ⟨S, hS⟩ : ∃ S, spanE b (isStage b at') (fun t => t.rough at'.toNat) = S := ⟨_, rfl⟩
  rw [hS] at HSP ⊢
  clear hS
  obtain ⟨S1, S2, S3⟩ := S
  simp only
  go_wp2_with fail
  obtain ⟨k0, k1, hBZ⟩ := stored2 ((HB5.out.block _ hVy).trans HR0.out) (.int .i64 S1) (.int .i64 S2) (hBV.trans (HB5.out.mono hBV.size)) (show W.heap.size ≤ W.heap.size + 1 + 1 by omega)
  generalize (w5.setCell ⟨W.heap.size + 1 + 1, 0, none⟩ (.int .i64 S1)).setCell ⟨W.heap.size + 1 + 1, 1, none⟩ (.int .i64 S2) = Z at k0 k1 hBZ ⊢
  exact bodyPost_ret (v := .tuple #[.agg #[.int .i64 S1, .int .i64 S2], .int .i64 S3]) (by simp [results, Tryd.results23, go_sem, k0, k1]) rfl ⟨by rw [HSP.out], hBZ⟩

end Go.Proofs.YtbhjfojbjpbdbaaDoor
