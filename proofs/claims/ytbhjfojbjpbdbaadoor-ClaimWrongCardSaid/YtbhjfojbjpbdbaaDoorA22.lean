/-
  What asked has handed back, stored in a block laid at any time ahead of the call (for Fits). Written by this session.
-/
import Derived.Test.YtbhjfojbjpbdbaaDoorA17
namespace Go.Proofs.YtbhjfojbjpbdbaaDoor
open Go.RowKit

theorem asked_at {V w2 : World} {b x : Bk} {sa sa' ka' ta : Option Addr} {n1 sc sl' sc' kl' kc' tl tc P W0 : Nat} {mo : Option Nat} {E : Int} (hb : Below V.heap.size V w2) (hP : V.heap.size ≤ P) (hw : w2.heap[P]? = some zero79) (hW : P < W0)
    (hx : E = 0 → x = b ∧ sa' = sa ∧ sl' = n1 ∧ sc' = sc ∧ SlOf w2 w2.heap.size 7 (.slice ta tl tc) (trCells (truths b)) ∧ (∀ g, (Value.slice ta tl tc).ownBlock = some g → W0 ≤ g)) :
    let X := ((((((((w2.setCell ⟨P, 0, none⟩ (.slice sa' sl' sc')).setCell ⟨P, 1, none⟩ (.int .i64 x.wth)).setCell ⟨P, 2, none⟩ (.int .i64 x.c0)).setCell ⟨P, 3, none⟩ (.int .i64 x.c1)).setCell ⟨P, 4, none⟩ (.int .i64 x.c2)).setCell
      ⟨P, 5, none⟩ (.slice ka' kl' kc')).setCell ⟨P, 6, none⟩ (.int .i64 x.rate)).setCell ⟨P, 7, none⟩ (.map mo)).setCell ⟨P, 8, none⟩ (.slice ta tl tc)
    Below V.heap.size V X ∧ V.heap.size ≤ P ∧ X.heap[P]? = some (.cells (x.cells9 (.slice sa' sl' sc') (.slice ka' kl' kc') (.map mo) (.slice ta tl tc)).toArray 79) ∧
      (E = 0 → x = b ∧ sa' = sa ∧ sl' = n1 ∧ sc' = sc ∧ SlOf X X.heap.size 7 (.slice ta tl tc) (trCells (truths b))) := by
  have hst := stored9 hw (.slice sa' sl' sc') (.int .i64 x.wth) (.int .i64 x.c0) (.int .i64 x.c1) (.int .i64 x.c2) (.slice ka' kl' kc') (.int .i64 x.rate) (.map mo) (.slice ta tl tc)
  intro X
  refine ⟨hst.below hb hP, hP, hst.cells, fun h => ?_⟩
  obtain ⟨h1, h2, h3, h4, h5, h6⟩ := hx h
  exact ⟨h1, h2, h3, h4, hst.slOf h5 (fun g o len cap e => by have := h6 g (by rw [e]; rfl); omega) (Nat.le_refl _)⟩
end Go.Proofs.YtbhjfojbjpbdbaaDoor
