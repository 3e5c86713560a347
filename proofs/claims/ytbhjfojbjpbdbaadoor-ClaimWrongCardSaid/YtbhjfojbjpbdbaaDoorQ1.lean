/-
  Plain laws on what is told of truths: the least and the greatest of their numbers. Written by this session.
-/
import Derived.Test.YtbhjfojbjpbdbaaDoorP1
namespace Go.Proofs.YtbhjfojbjpbdbaaDoor

theorem minL_le (f : Tr → Int) : ∀ (l : List Tr) (m : Int), minL f m l ≤ m ∧ ∀ t ∈ l, minL f m l ≤ f t
  | [], m => ⟨Int.le_refl _, by simp⟩
  | x :: l, m => by
    obtain ⟨h1, h2⟩ := minL_le f l (min m (f x))
    have e : minL f m (x :: l) = minL f (min m (f x)) l := rfl
    rw [e]
    refine ⟨by omega, fun t ht => ?_⟩
    rcases List.mem_cons.1 ht with rfl | ht
    · omega
    · exact h2 t ht
theorem minL_mem (f : Tr → Int) : ∀ (l : List Tr) (m : Int), minL f m l = m ∨ ∃ t ∈ l, minL f m l = f t
  | [], m => .inl rfl
  | x :: l, m => by
    have e : minL f m (x :: l) = minL f (min m (f x)) l := rfl
    rw [e]
    rcases minL_mem f l (min m (f x)) with h | ⟨t, ht, h⟩
    · rw [h]
      by_cases hm : m ≤ f x
      · left; omega
      · right; exact ⟨x, List.mem_cons_self, by omega⟩
    · exact .inr ⟨t, List.mem_cons_of_mem _ ht, h⟩
theorem maxL_le (f : Tr → Int) : ∀ (l : List Tr) (m : Int), m ≤ maxL f m l ∧ ∀ t ∈ l, f t ≤ maxL f m l
  | [], m => ⟨Int.le_refl _, by simp⟩
  | x :: l, m => by
    obtain ⟨h1, h2⟩ := maxL_le f l (max m (f x))
    have e : maxL f m (x :: l) = maxL f (max m (f x)) l := rfl
    rw [e]
    refine ⟨by omega, fun t ht => ?_⟩
    rcases List.mem_cons.1 ht with rfl | ht
    · omega
    · exact h2 t ht
theorem maxL_mem (f : Tr → Int) : ∀ (l : List Tr) (m : Int), maxL f m l = m ∨ ∃ t ∈ l, maxL f m l = f t
  | [], m => .inl rfl
  | x :: l, m => by
    have e : maxL f m (x :: l) = maxL f (max m (f x)) l := rfl
    rw [e]
    rcases maxL_mem f l (max m (f x)) with h | ⟨t, ht, h⟩
    · rw [h]
      by_cases hm : f x ≤ m
      · left; omega
      · right; exact ⟨x, List.mem_cons_self, by omega⟩
    · exact .inr ⟨t, List.mem_cons_of_mem _ ht, h⟩

theorem toldLo_le (f : Tr → Int) {l : List Tr} {t : Tr} (h : t ∈ l) : toldLo f l ≤ f t := by
  cases l with
  | nil => cases h
  | cons x l => exact (minL_le f (x :: l) (f x)).2 t h
theorem toldLo_mem (f : Tr → Int) {l : List Tr} (h : l ≠ []) : ∃ t ∈ l, toldLo f l = f t := by
  cases l with
  | nil => exact absurd rfl h
  | cons x l =>
    rcases minL_mem f (x :: l) (f x) with h | ⟨t, ht, h⟩
    · exact ⟨x, List.mem_cons_self, h⟩
    · exact ⟨t, ht, h⟩
theorem le_toldHi (f : Tr → Int) {l : List Tr} {t : Tr} (h : t ∈ l) : f t ≤ toldHi f l := by
  cases l with
  | nil => cases h
  | cons x l => exact (maxL_le f (x :: l) (f x)).2 t h
theorem toldHi_mem (f : Tr → Int) {l : List Tr} (h : l ≠ []) : ∃ t ∈ l, toldHi f l = f t := by
  cases l with
  | nil => exact absurd rfl h
  | cons x l =>
    rcases maxL_mem f (x :: l) (f x) with h | ⟨t, ht, h⟩
    · exact ⟨x, List.mem_cons_self, h⟩
    · exact ⟨t, ht, h⟩
theorem toldLo_le_hi (f : Tr → Int) {l : List Tr} (h : l ≠ []) : toldLo f l ≤ toldHi f l := by
  obtain ⟨t, ht, e⟩ := toldLo_mem f h
  rw [e]; exact le_toldHi f ht

theorem toldLo_eq {f : Tr → Int} {l : List Tr} {m : Int} (h : ∃ t ∈ l, f t = m) (hl : ∀ t ∈ l, m ≤ f t) : toldLo f l = m := by
  obtain ⟨t, ht, e⟩ := h
  obtain ⟨t', ht', e'⟩ := toldLo_mem f (List.ne_nil_of_mem ht)
  have h1 := toldLo_le f ht
  have h2 := hl t' ht'
  omega
theorem toldHi_eq {f : Tr → Int} {l : List Tr} {m : Int} (h : ∃ t ∈ l, f t = m) (hl : ∀ t ∈ l, f t ≤ m) : toldHi f l = m := by
  obtain ⟨t, ht, e⟩ := h
  obtain ⟨t', ht', e'⟩ := toldHi_mem f (List.ne_nil_of_mem ht)
  have h1 := le_toldHi f ht
  have h2 := hl t' ht'
  omega

/-- a number told of a number that grows with another one. -/
theorem toldLo_comp {g f : Tr → Int} {l : List Tr} (u : Int → Int) (hu : ∀ a c, a ≤ c → u a ≤ u c) (hg : ∀ t ∈ l, g t = u (f t)) (h : l ≠ []) : toldLo g l = u (toldLo f l) := by
  obtain ⟨t, ht, e⟩ := toldLo_mem f h
  exact toldLo_eq ⟨t, ht, by rw [hg t ht, e]⟩ fun s hs => by rw [hg s hs]; exact hu _ _ (toldLo_le f hs)
theorem toldHi_comp {g f : Tr → Int} {l : List Tr} (u : Int → Int) (hu : ∀ a c, a ≤ c → u a ≤ u c) (hg : ∀ t ∈ l, g t = u (f t)) (h : l ≠ []) : toldHi g l = u (toldHi f l) := by
  obtain ⟨t, ht, e⟩ := toldHi_mem f h
  exact toldHi_eq ⟨t, ht, by rw [hg t ht, e]⟩ fun s hs => by rw [hg s hs]; exact hu _ _ (le_toldHi f hs)

/-- what is told that a coach is late, out of when it comes. -/
theorem late_lo (b : Bk) (k : Nat) (h : truths b ≠ []) : toldLo (lateT b k) (truths b) = max 0 (toldLo (fun t => t.comes k) (truths b) - b.due k) :=
  toldLo_comp (fun a => max 0 (a - b.due k)) (fun a c h => by omega) (fun _ _ => rfl) h
theorem late_hi (b : Bk) (k : Nat) (h : truths b ≠ []) : toldHi (lateT b k) (truths b) = max 0 (toldHi (fun t => t.comes k) (truths b) - b.due k) :=
  toldHi_comp (fun a => max 0 (a - b.due k)) (fun a c h => by omega) (fun _ _ => rfl) h

theorem ask_ok {b : Bk} (h : bkOk b = true) (hT : truths b ≠ []) {is : Bool} (hi : is = true) : askE b is = 0 := by
  unfold askE
  rw [if_pos h, if_pos hi, if_neg (show ¬ (truths b).isEmpty = true by simpa using hT)]
theorem ask_false {b : Bk} (h : bkOk b = true) (hT : truths b = []) {is : Bool} (hi : is = true) : askE b is = 62 := by
  unfold askE
  rw [if_pos h, if_pos hi, if_pos (show (truths b).isEmpty = true by simp [hT])]
theorem ask_bad {b : Bk} (h : bkOk b = false) {is : Bool} : askE b is = 60 := by
  unfold askE
  rw [if_neg (show ¬ bkOk b = true by simp [h])]
end Go.Proofs.YtbhjfojbjpbdbaaDoor
