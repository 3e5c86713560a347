/-
  ClaimMore, region 3: what is known while the book with one clock more is laid into a block of its own, in any order. Written by this session.
-/
import Derived.Test.YtbhjfojbjpbdbaaDoorK9
namespace Go.Proofs.YtbhjfojbjpbdbaaDoor
open Go.RowKit

/-- sa, n1, sc: the stages; x: the book that is made; Z: the cells of a new block. -/
structure LayI (X : World) (sa : Option Addr) (n1 sc : Nat) (x : Bk) (Z : Array Value) (L : Nat → Bool) (V : Nat → Value) (w : World) : Prop where
  hb : Below X.heap.size X w
  h2 : L 2 = true → ∃ g m cc, V 2 = .agg (x.cells (.slice sa n1 sc) (.slice (some ⟨g, 0, none⟩) m cc)).toArray ∧ BookW w w.heap.size sa (some ⟨g, 0, none⟩) n1 sc m cc x ∧ X.heap.size ≤ g ∧ g < w.heap.size ∧ (L 8 = true → V 8 ≠ .pointer (some ⟨g, 0, none⟩))
  h8 : L 8 = true → ∃ P, V 8 = .pointer (some ⟨P, 0, none⟩) ∧ X.heap.size ≤ P ∧ P < w.heap.size ∧ (L 9 = false → w.heap[P]? = some (.cells Z 26)) ∧ (L 9 = true → ∃ C, V 2 = .agg C ∧ w.heap[P]? = some (.cells C 26))
  h9 : L 9 = true → L 2 = true ∧ L 8 = true

section
variable {X : World} {sa : Option Addr} {n1 sc : Nat} {x : Bk} {Z : Array Value} {L : Nat → Bool} {V : Nat → Value} {w w' : World} {i : Nat}

theorem LayI.start (X : World) (sa : Option Addr) (n1 sc : Nat) (x : Bk) (Z : Array Value) : ∀ V, LayI X sa n1 sc x Z (fun _ => false) V X.drew :=
  fun _ => ⟨(Below.refl _ _).drew, fun h => (by cases h), fun h => (by cases h), fun h => (by cases h)⟩

theorem LayI.keep (h : LayI X sa n1 sc x Z L V w) (e2 : i ≠ 2) (e8 : i ≠ 8) (e9 : i ≠ 9) : ThenM (LayI X sa n1 sc x Z) L V i w := fun L' _ g2 => by
  refine ⟨h.hb, ?_, ?_, ?_⟩
  · rw [g2 2 (Ne.symm e2), g2 8 (Ne.symm e8)]; exact h.h2
  · rw [g2 8 (Ne.symm e8), g2 9 (Ne.symm e9)]; exact h.h8
  · rw [g2 2 (Ne.symm e2), g2 8 (Ne.symm e8), g2 9 (Ne.symm e9)]; exact h.h9

theorem LayI.cell (h : LayI X sa n1 sc x Z L V w) : ∀ b o, b < X.heap.size → w.cell? ⟨b, o, none⟩ = X.cell? ⟨b, o, none⟩ := fun b o hb => h.hb.cell (p := ⟨b, o, none⟩) hb

theorem LayI.with (h : LayI X sa n1 sc x Z L V w) (l2 : L 2 = false) (hb : Below w.heap.size w w') {g m cc : Nat} (hk : BookW w' w'.heap.size sa (some ⟨g, 0, none⟩) n1 sc m cc x) (hg : w.heap.size ≤ g) (hm : 0 < x.cks.length) :
    ThenX (LayI X sa n1 sc x Z) L V 2 (.agg (x.cells (.slice sa n1 sc) (.slice (some ⟨g, 0, none⟩) m cc)).toArray) w' := fun L' V' g1 g2 g3 g4 => by
  have l9 : L 9 = false := by
    cases e : L 9 with
    | false => rfl
    | true => rw [(h.h9 e).1] at l2; cases l2
  have hlt : g < w'.heap.size := by
    obtain ⟨_, _, e, _, _, _, h5⟩ := hk.hk
    obtain ⟨b, o, e1, h6, _⟩ := h5 (by simp [ckCells]; omega)
    injection e with e _ _
    rw [e1] at e
    injection e with e
    injection e with e
    omega
  refine ⟨h.hb.trans (hb.mono h.hb.size), fun _ => ⟨g, m, cc, g3, hk, Nat.le_trans h.hb.size hg, hlt, ?_⟩, ?_, ?_⟩
  · rw [g2 8 (by decide), g4 8 (by decide)]
    intro l8 e
    obtain ⟨P, e1, _, hP, _⟩ := h.h8 l8
    rw [e1] at e
    injection e with e
    injection e with e
    injection e with e
    omega
  · rw [g2 8 (by decide), g2 9 (by decide), g4 8 (by decide)]
    intro l8
    obtain ⟨P, e1, h1, hP, h3, _⟩ := h.h8 l8
    exact ⟨P, e1, h1, Nat.lt_of_lt_of_le hP hb.size, fun l => (hb.block P hP).trans (h3 l), fun l => by rw [l9] at l; cases l⟩
  · rw [g2 9 (by decide), l9]
    intro e; cases e

theorem LayI.new (h : LayI X sa n1 sc x Z L V w) (l8 : L 8 = false) : ThenX (LayI X sa n1 sc x Z) L V 8 (.pointer (some ⟨w.heap.size, 0, none⟩)) (w.alloc (.cells Z 26)) := fun L' V' g1 g2 g3 g4 => by
  have l9 : L 9 = false := by
    cases e : L 9 with
    | false => rfl
    | true => rw [(h.h9 e).2] at l8; cases l8
  have hb : Below w.heap.size w (w.alloc (.cells Z 26)) := (Below.refl _ _).alloc (Nat.le_refl _) _
  refine ⟨below_alloc h.hb _, ?_, fun _ => ⟨w.heap.size, g3, h.hb.size, by simp, fun _ => World.alloc_heap_new _ _, ?_⟩, ?_⟩
  · rw [g2 2 (by decide), g1, g3, g4 2 (by decide)]
    intro l2
    obtain ⟨g, m, cc, e, hk, h1, h3, _⟩ := h.h2 l2
    refine ⟨g, m, cc, e, ?_, h1, by simp; omega, fun _ e => ?_⟩
    · have := hk.below (Nat.le_refl _) hb
      exact ⟨Nat.le_refl _, this.hs.mono hb.size, this.hk.mono hb.size, this.l1, this.l2⟩
    · injection e with e
      injection e with e
      injection e with e
      omega
  · rw [g2 9 (by decide), l9]
    intro e; cases e
  · rw [g2 9 (by decide), l9]
    intro e; cases e

theorem LayI.store (h : LayI X sa n1 sc x Z L V w) (l2 : L 2 = true) (l8 : L 8 = true) (l9 : L 9 = false) {P : Nat} (eP : V 8 = .pointer (some ⟨P, 0, none⟩)) {z0 z1 z2 z3 z4 z5 z6 v0 v1 v2 v3 v4 v5 v6 : Value} (eZ : Z = #[z0, z1, z2, z3, z4, z5, z6]) (eV : V 2 = .agg #[v0, v1, v2, v3, v4, v5, v6])
    (hss : ∀ w, Below X.heap.size X w → SlOf w X.heap.size 7 (.slice sa n1 sc) (stCells x.sts)) :
    ThenM (LayI X sa n1 sc x Z) L V 9 (((((((w.setCell ⟨P, 0, none⟩ v0).setCell ⟨P, 1, none⟩ v1).setCell ⟨P, 2, none⟩ v2).setCell ⟨P, 3, none⟩ v3).setCell ⟨P, 4, none⟩ v4).setCell ⟨P, 5, none⟩ v5).setCell ⟨P, 6, none⟩ v6) := fun L' g1 g2 => by
  obtain ⟨P', e1, h1, hP, h3, _⟩ := h.h8 l8
  rw [eP] at e1
  injection e1 with e1
  injection e1 with e1
  injection e1 with e1
  subst e1
  have hz := h3 l9
  rw [eZ] at hz
  obtain ⟨j1, j2, j3⟩ := stored7 hz v0 v1 v2 v3 v4 v5 v6 h.hb h1
  have jo := fun k hk => set7_other (W := w) (B := P) v0 v1 v2 v3 v4 v5 v6 k hk
  refine ⟨j2, ?_, fun _ => ⟨P, eP, h1, by rw [j3]; exact hP, fun l => (by rw [g1] at l; cases l), fun _ => ⟨_, eV, j1⟩⟩, fun _ => ⟨by rw [g2 2 (by decide)]; exact l2, by rw [g2 8 (by decide)]; exact l8⟩⟩
  intro _
  obtain ⟨g, m, cc, e, hk, q1, q2, q3⟩ := h.h2 l2
  have hne : g ≠ P := fun e => q3 l8 (by rw [eP, e])
  refine ⟨g, m, cc, e, ⟨by rw [j3]; exact hk.hn, ?_, ?_, hk.l1, hk.l2⟩, q1, by rw [j3]; exact q2, fun _ => q3 l8⟩
  · exact (hss _ j2).mono j2.size
  · rw [j3]
    exact hk.hk.other jo (fun g' o len cap e e' => by injection e with e3 _ _; injection e3 with e3; injection e3 with e3; omega)
end
end Go.Proofs.YtbhjfojbjpbdbaaDoor
