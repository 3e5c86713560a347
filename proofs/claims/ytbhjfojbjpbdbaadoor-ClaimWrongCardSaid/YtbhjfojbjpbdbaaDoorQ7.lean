/-
  Plain law of ClaimWrong: the clocks that must be wrong. Written by this session.
-/
import Derived.Test.YtbhjfojbjpbdbaaDoorB9
namespace Go.Proofs.YtbhjfojbjpbdbaaDoor

theorem picks_order : ∀ N < 5, (allPicks N).Pairwise (fun l m => fewerL l m = true ∧ fewerL m l = false) := by decide +kernel
theorem picks_each : ∀ N < 5, ∀ l ∈ allPicks N, fewerL l l = false ∧ l.Pairwise (· < ·) ∧ ∀ x ∈ l, x < N := by decide +kernel
theorem picks_bits : ∀ N < 5, ∀ s < 2 ^ N, bitsL ((s : Nat) : Int) N ∈ allPicks N := by decide +kernel
theorem picks_head : ∀ N < 5, (allPicks N).head? = some [] := by decide +kernel
theorem picks_all : ∀ N < 5, List.range N ∈ allPicks N := by decide +kernel

theorem leaveOut_all : ∀ (l : List Ck) (but : List Nat) (k : Nat), (∀ i, i < l.length → but.contains (k + i) = true) → leaveOut but k l = []
  | [], _, _, _ => rfl
  | c :: l, but, k, h => by
    have h0 := h 0 (by simp)
    rw [Nat.add_zero] at h0
    simp only [leaveOut, h0, if_true]
    exact leaveOut_all l but (k + 1) fun i hi => by
      have := h (i + 1) (by simpa using hi)
      rwa [show k + (i + 1) = k + 1 + i by omega] at this

theorem but_ok {b : Bk} (h : bkOk b = true) (l : List Nat) : bkOk (b.but l) = true := by
  simp only [bkOk, headOk, Bool.and_eq_true] at h ⊢
  obtain ⟨⟨⟨h1, h2⟩, h3⟩, h4⟩ := h
  refine ⟨⟨⟨⟨⟨h1.1.1, ?_⟩, h1.2⟩, h2⟩, h3⟩, ?_⟩
  · have := leaveOut_len b.cks l 0
    have h5 := h1.1.2
    simp only [decide_eq_true_iff] at h5 ⊢
    show ((leaveOut l 0 b.cks).length : Int) ≤ 4
    omega
  · rw [List.all_eq_true] at h4 ⊢
    exact fun c hc => h4 c (leaveOut_mem _ _ _ _ hc)

theorem canBe_ne {b : Bk} {l : List Nat} : canBe b l = true ↔ truths (b.but l) ≠ [] := by
  unfold canBe
  cases h : truths (b.but l) <;> simp

theorem wrong_law {b : Bk} (h : bkOk b = true) : ∃ w, wrongS b = (w, 0) ∧ w.Pairwise (· < ·) ∧ (∀ x ∈ w, x < b.cks.length) ∧ (w.length = 0 ↔ truths b ≠ []) ∧ truths (b.but w) ≠ [] ∧
    ∀ s : Nat, s < 2 ^ b.cks.length → fewerL (bitsL ((s : Nat) : Int) b.cks.length) w = true → truths (b.but (bitsL ((s : Nat) : Int) b.cks.length)) = [] := by
  have hN : b.cks.length < 5 := by have := bkOk_head h; omega
  have hall : canBe b (List.range b.cks.length) = true := by
    rw [canBe_ne]
    have e : b.but (List.range b.cks.length) = b.bare := by
      unfold Bk.but Bk.bare
      rw [leaveOut_all b.cks _ 0 (fun i hi => by simp; omega)]
    rw [e]
    exact bare_ne h
  rcases hf : (allPicks b.cks.length).find? (canBe b) with _ | w
  · have := List.find?_eq_none.1 hf _ (picks_all _ hN)
    exact absurd hall this
  · have hw := List.find?_some hf
    have hm := List.mem_of_find?_eq_some hf
    obtain ⟨hww, hinc, hlt⟩ := picks_each _ hN w hm
    refine ⟨w, ?_, hinc, hlt, ?_, canBe_ne.1 hw, ?_⟩
    · unfold wrongS
      rw [if_pos h]
      show (wrongL b, (0 : Int)) = _
      have : wrongL b = w := by
        unfold wrongL
        rw [show (fun l => !(truths (b.but l)).isEmpty) = canBe b from rfl, hf]
        rfl
      rw [this]
    · constructor
      · intro h0
        have : w = [] := List.eq_nil_of_length_eq_zero h0
        subst this
        have := canBe_ne.1 hw
        rwa [but_nil] at this
      · intro hT
        have hc : canBe b [] = true := by rw [canBe_ne, but_nil]; exact hT
        have hh := picks_head _ hN
        rcases hp : allPicks b.cks.length with _ | ⟨x, r⟩
        · rw [hp] at hh; cases hh
        · rw [hp] at hh hf
          simp at hh
          subst hh
          rw [List.find?_cons_of_pos hc] at hf
          injection hf with e
          rw [← e]; rfl
    · intro s hs hfw
      have hmem := picks_bits _ hN s hs
      rcases hcb : canBe b (bitsL ((s : Nat) : Int) b.cks.length) with _ | _
      · have : ¬ truths (b.but (bitsL ((s : Nat) : Int) b.cks.length)) ≠ [] := fun hne => by
          rw [canBe_ne.2 hne] at hcb; cases hcb
        exact Classical.byContradiction this
      · exfalso
        obtain ⟨_, l1, l2, hl, has⟩ := List.find?_eq_some_iff_append.1 hf
        have hpw := picks_order _ hN
        rw [hl] at hmem hpw
        rcases List.mem_append.1 hmem with hin | hin
        · have := has _ hin
          rw [hcb] at this
          simp at this
        · rcases List.mem_cons.1 hin with e | hin
          · rw [e, hww] at hfw; cases hfw
          · have := (List.pairwise_append.1 hpw).2.1
            have := (List.pairwise_cons.1 this).1 _ hin
            rw [this.2] at hfw; cases hfw
end Go.Proofs.YtbhjfojbjpbdbaaDoor
