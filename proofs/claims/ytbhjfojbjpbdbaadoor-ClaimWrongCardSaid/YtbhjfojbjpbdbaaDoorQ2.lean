/-
  Plain law of ClaimFirst: the first stage at which the coach surely is late. Written by this session.
-/
import Derived.Test.YtbhjfojbjpbdbaaDoorQ1
namespace Go.Proofs.YtbhjfojbjpbdbaaDoor

theorem isStage_in {b : Bk} {k : Nat} (h : k < b.sts.length) : isStage b (k : Int) = true := by
  simp only [isStage, within, Bool.and_eq_true, decide_eq_true_iff]
  omega

theorem spanE_ok {b : Bk} {is : Bool} {f : Tr → Int} (h : bkOk b = true) (hT : truths b ≠ []) (hi : is = true) : spanE b is f = (toldLo f (truths b), toldHi f (truths b), 0) := by
  unfold spanE
  rw [if_pos (ask_ok h hT hi)]
theorem spanE_false {b : Bk} {is : Bool} {f : Tr → Int} (h : bkOk b = true) (hT : truths b = []) (hi : is = true) : spanE b is f = (0, 0, 62) := by
  unfold spanE
  rw [ask_false h hT hi, if_neg (by decide)]
theorem spanE_bad {b : Bk} {is : Bool} {f : Tr → Int} (h : bkOk b = false) : spanE b is f = (0, 0, 60) := by
  unfold spanE
  rw [ask_bad h, if_neg (by decide)]
theorem firstS_bad {b : Bk} (h : bkOk b = false) : firstS b = (0, 60) := by
  unfold firstS
  rw [ask_bad h, if_neg (by decide)]
theorem firstS_false {b : Bk} (h : bkOk b = true) (hT : truths b = []) : firstS b = (0, 62) := by
  unfold firstS
  rw [ask_false h hT rfl, if_neg (by decide)]

theorem firstS_ok {b : Bk} (h : bkOk b = true) (hT : truths b ≠ []) :
    (firstS b = (0, 4) ∧ ∀ k, k < b.sts.length → ¬ 0 < toldLo (lateT b k) (truths b)) ∨
    (∃ q, q < b.sts.length ∧ firstS b = ((q : Int), 0) ∧ 0 < toldLo (lateT b q) (truths b) ∧ ∀ k, k < q → ¬ 0 < toldLo (lateT b k) (truths b)) := by
  have e := ask_ok h hT (is := true) rfl
  rcases hf : (List.range b.sts.length).find? fun k => decide (0 < toldLo (lateT b k) (truths b)) with _ | q
  · refine .inl ⟨by unfold firstS; rw [if_pos e, hf], fun k hk => ?_⟩
    have := List.find?_eq_none.1 hf k (List.mem_range.2 hk)
    simpa using this
  · refine .inr ⟨q, ?_, by unfold firstS; rw [if_pos e, hf], ?_, ?_⟩
    · exact List.mem_range.1 (List.mem_of_find?_eq_some hf)
    · simpa using List.find?_some hf
    · intro k hk hc
      rw [List.find?_range_eq_some] at hf
      have := hf.2.2 k hk
      simp at this
      omega

theorem lateS_of_comesS {b : Bk} {k : Nat} (h : bkOk b = true) (hT : truths b ≠ []) (hk : k < b.sts.length) :
    ∃ lo hi, lo ≤ hi ∧ (0 ≤ lo ∧ hi ≤ 1000) ∧ comesS b k = (lo, hi, 0) ∧ lateS b k = (max 0 (lo - b.due k), max 0 (hi - b.due k), 0) ∧ toldLo (lateT b k) (truths b) = max 0 (lo - b.due k) ∧ toldHi (lateT b k) (truths b) = max 0 (hi - b.due k) := by
  have hi := isStage_in hk
  refine ⟨_, _, toldLo_le_hi (fun t => t.comes k) hT, ?_, spanE_ok h hT hi, ?_, late_lo b k hT, late_hi b k hT⟩
  · obtain ⟨t, ht, e⟩ := toldLo_mem (fun t => t.comes k) hT
    obtain ⟨t', ht', e'⟩ := toldHi_mem (fun t => t.comes k) hT
    rw [e, e']
    obtain ⟨_, h0, h1, h2, _⟩ := truths_ok (sound_of h) t ht
    obtain ⟨_, h0', h1', h2', _⟩ := truths_ok (sound_of h) t' ht'
    unfold Tr.comes
    constructor
    · split <;> omega
    · split <;> omega
  · have := spanE_ok (f := lateT b k) h hT hi
    rw [late_lo b k hT, late_hi b k hT] at this
    exact this

/-- all of it, at a stage. -/
theorem first_law {b : Bk} {k : Nat} (h : bkOk b = true) (hT : truths b ≠ []) (hk : k < b.sts.length) :
    ∃ lo hi, lo ≤ hi ∧ (0 ≤ lo ∧ hi ≤ 1000) ∧ comesS b k = (lo, hi, 0) ∧ lateS b k = (max 0 (lo - b.due k), max 0 (hi - b.due k), 0) ∧
      ((firstS b = (0, 4) ∧ max 0 (lo - b.due k) = 0) ∨
      (∃ q, q < b.sts.length ∧ firstS b = ((q : Int), 0) ∧ (max 0 (lo - b.due k) = 0 ∨ q ≤ k) ∧ (k ≠ q ∨ 0 < max 0 (lo - b.due k)))) := by
  obtain ⟨lo, hi, h1, h2, h3, h4, h5, _⟩ := lateS_of_comesS h hT hk
  refine ⟨lo, hi, h1, h2, h3, h4, ?_⟩
  rcases firstS_ok h hT with ⟨e, hn⟩ | ⟨q, hq, e, hp, hn⟩
  · have := hn k hk
    exact .inl ⟨e, by omega⟩
  · refine .inr ⟨q, hq, e, ?_, ?_⟩
    · by_cases hkq : k < q
      · have := hn k hkq
        left; omega
      · right; omega
    · by_cases hkq : k = q
      · subst hkq; right; omega
      · exact .inl hkq
end Go.Proofs.YtbhjfojbjpbdbaaDoor
