/-
  The chapter's books (package macadamlaw06: own). Written by this session.
-/
import Derived.Test.YtbhjfojbjpbdbaaDoorB3
namespace Go.Proofs.YtbhjfojbjpbdbaaDoor
open Go.RowKit

/-- the chapter's book, due in a minute, with some clocks. -/
def bookB (due : Int) (cks : List Ck) : Bk := ⟨[⟨30, 26, 28, 0, 2, 3, 4⟩, ⟨due, 25, 26, 2, 4, 0, 0⟩], 3, 0, 2, 6, cks, 5⟩

set_option maxHeartbeats 1000000 in
theorem own_any (W : World) : Calls Tryd.prog 59 #[] W fun e W' => ∃ g, e = .returned (.agg ((bookB 62 []).cells (.slice (some ⟨g, 0, none⟩) 2 2) (.slice none 0 0)).toArray) ∧ Below W.heap.size W W' ∧ BookW W' W'.heap.size (some ⟨g, 0, none⟩) none 2 2 0 0 (bookB 62 []) := by
  obtain ⟨V, hV⟩ : ∃ V, W.alloc (.cells #[.slice none 0 0, .int .i64 0, .int .i64 0, .int .i64 0, .int .i64 0, .slice none 0 0, .int .i64 0] 26) = V := ⟨_, rfl⟩
  have hBV : Below W.heap.size W V := by rw [← hV]; exact (Below.refl _ _).alloc (Nat.le_refl _) _
  have hr : V.heap[W.heap.size]? = some (.cells #[.slice none 0 0, .int .i64 0, .int .i64 0, .int .i64 0, .int .i64 0, .slice none 0 0, .int .i64 0] 26) := by rw [← hV]; exact World.alloc_heap_new _ _
  have hlt : W.heap.size < V.heap.size := (Array.getElem?_eq_some_iff.1 hr).1
  have r0 : V.cell? ⟨W.heap.size, 0, none⟩ = some (.slice none 0 0) := blk_cell hr
  have f0 := blk_frozen hr 0
  have r1 : V.cell? ⟨W.heap.size, 1, none⟩ = some (.int .i64 0) := blk_cell hr
  have f1 := blk_frozen hr 1
  have r2 : V.cell? ⟨W.heap.size, 2, none⟩ = some (.int .i64 0) := blk_cell hr
  have f2 := blk_frozen hr 2
  have r3 : V.cell? ⟨W.heap.size, 3, none⟩ = some (.int .i64 0) := blk_cell hr
  have f3 := blk_frozen hr 3
  have r4 : V.cell? ⟨W.heap.size, 4, none⟩ = some (.int .i64 0) := blk_cell hr
  have f4 := blk_frozen hr 4
  have r5 : V.cell? ⟨W.heap.size, 5, none⟩ = some (.slice none 0 0) := blk_cell hr
  have f5 := blk_frozen hr 5
  have r6 : V.cell? ⟨W.heap.size, 6, none⟩ = some (.int .i64 0) := blk_cell hr
  have f6 := blk_frozen hr 6
  have HR := Lib.hid hr
  clear hr
  go_enter Tryd.func59, Tryd.ntmps59
  go_upto_region 1 with fail
  try rw [hV]
  clear hV
  go_wp2_with (first
    | (go_at_call 60; refine (book_any 62 none 0 0 V).mono ?_; rintro e w' ⟨g, rfl, hb, hgv, hs⟩; have hk := (bcell hb).1; have hf := (bcell hb).2; have HB := Lib.hid hb; have HS := Lib.hid hs; clear hb hs)
    | fail)
  obtain ⟨k7, hBZ, hZz⟩ := stored7 ((HB.out.block _ hlt).trans HR.out) (.slice (some ⟨g, 0, none⟩) 2 2) (.int .i64 3) (.int .i64 0) (.int .i64 2) (.int .i64 6) (.slice none 0 0) (.int .i64 5) (hBV.trans (HB.out.mono hBV.size)) (Nat.le_refl W.heap.size)
  have hkeep : ∀ k, k ≠ W.heap.size → ((((((((w'.setCell ⟨W.heap.size, 0, none⟩ (.slice (some ⟨g, 0, none⟩) 2 2)).setCell ⟨W.heap.size, 1, none⟩ (.int .i64 3)).setCell ⟨W.heap.size, 2, none⟩ (.int .i64 0)).setCell ⟨W.heap.size, 3, none⟩ (.int .i64 2)).setCell
    ⟨W.heap.size, 4, none⟩ (.int .i64 6)).setCell ⟨W.heap.size, 5, none⟩ (.slice none 0 0)).setCell ⟨W.heap.size, 6, none⟩ (.int .i64 5)).heap[k]? = w'.heap[k]?) := fun k hk =>
    (Below.heap_setCell _ _ _ _ hk).trans ((Below.heap_setCell _ _ _ _ hk).trans ((Below.heap_setCell _ _ _ _ hk).trans ((Below.heap_setCell _ _ _ _ hk).trans ((Below.heap_setCell _ _ _ _ hk).trans ((Below.heap_setCell _ _ _ _ hk).trans (Below.heap_setCell _ _ _ _ hk))))))
  generalize ((((((w'.setCell ⟨W.heap.size, 0, none⟩ (.slice (some ⟨g, 0, none⟩) 2 2)).setCell ⟨W.heap.size, 1, none⟩ (.int .i64 3)).setCell ⟨W.heap.size, 2, none⟩ (.int .i64 0)).setCell ⟨W.heap.size, 3, none⟩ (.int .i64 2)).setCell
    ⟨W.heap.size, 4, none⟩ (.int .i64 6)).setCell ⟨W.heap.size, 5, none⟩ (.slice none 0 0)).setCell ⟨W.heap.size, 6, none⟩ (.int .i64 5) = Y at k7 hBZ hZz hkeep ⊢
  have c0 : Y.cell? ⟨W.heap.size, 0, none⟩ = some (.slice (some ⟨g, 0, none⟩) 2 2) := blk_cell k7
  have c1 : Y.cell? ⟨W.heap.size, 1, none⟩ = some (.int .i64 3) := blk_cell k7
  have c2 : Y.cell? ⟨W.heap.size, 2, none⟩ = some (.int .i64 0) := blk_cell k7
  have c3 : Y.cell? ⟨W.heap.size, 3, none⟩ = some (.int .i64 2) := blk_cell k7
  have c4 : Y.cell? ⟨W.heap.size, 4, none⟩ = some (.int .i64 6) := blk_cell k7
  have c5 : Y.cell? ⟨W.heap.size, 5, none⟩ = some (.slice none 0 0) := blk_cell k7
  have c6 : Y.cell? ⟨W.heap.size, 6, none⟩ = some (.int .i64 5) := blk_cell k7
  have hsY : SlOf Y Y.heap.size 7 (.slice (some ⟨g, 0, none⟩) 2 2) (stCells (bookB 62 []).sts) := by
    obtain ⟨a, cap, e, h1, h2, h3, h4⟩ := HS.out
    refine ⟨a, cap, e, h1, h2, h3, fun hp => ?_⟩
    obtain ⟨b, o, e1, hb, hc⟩ := h4 hp
    rw [e1] at e
    injection e with e2 _ _
    injection e2 with e2
    have hbg : g = b := congrArg Addr.block e2
    refine ⟨b, o, e1, by rw [hZz]; exact hb, fun i j r c hi hj => ?_⟩
    exact (World.cell?_of_block (w := w') (a := ⟨b, _, none⟩) (hkeep b (by omega))).trans (hc i j r c hi hj)
  exact bodyPost_ret (v := .agg #[.slice (some ⟨g, 0, none⟩) 2 2, .int .i64 3, .int .i64 0, .int .i64 2, .int .i64 6, .slice none 0 0, .int .i64 5]) (by simp [results, Tryd.results59, go_sem, c0, c1, c2, c3, c4, c5, c6]) rfl
    ⟨g, rfl, hBZ, Nat.le_refl _, hsY, slOf_nil _ _ _, rfl, rfl⟩
end Go.Proofs.YtbhjfojbjpbdbaaDoor
