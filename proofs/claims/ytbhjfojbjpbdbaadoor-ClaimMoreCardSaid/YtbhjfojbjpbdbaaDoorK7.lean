/-
  Merged: Q1, Q2, Q3, Q4, Q6. Written by sessions of this seat.
-/
import Derived.Test.YtbhjfojbjpbdbaaDoorP1

-- Q1: Plain laws on what is told of truths: the least and the greatest of their numbers. Written by a session.
namespace Go.Proofs.YtbhjfojbjpbdbaaDoor

theorem minL_le (f : Tr → Int) : ∀ (l : List Tr) (m : Int), minL f m l ≤ m ∧ ∀ t ∈ l, minL f m l ≤ f t
  | [], m => ⟨Int.le_refl _, by simp⟩
  | x :: l, m => by
    obtain ⟨h1, h2⟩ := minL_le f l (min m (f x))
    have e : minL f m (x :: l) = minL f (min m (f x)) l := rfl
    rw [e]
    refine ⟨by omega, fun t ht => ?_⟩
    rcases List.mem_cons.1 ht with rfl | ht
    · omega
    · exact h2 t ht
theorem minL_mem (f : Tr → Int) : ∀ (l : List Tr) (m : Int), minL f m l = m ∨ ∃ t ∈ l, minL f m l = f t
  | [], m => .inl rfl
  | x :: l, m => by
    have e : minL f m (x :: l) = minL f (min m (f x)) l := rfl
    rw [e]
    rcases minL_mem f l (min m (f x)) with h | ⟨t, ht, h⟩
    · rw [h]
      by_cases hm : m ≤ f x
      · left; omega
      · right; exact ⟨x, List.mem_cons_self, by omega⟩
    · exact .inr ⟨t, List.mem_cons_of_mem _ ht, h⟩
theorem maxL_le (f : Tr → Int) : ∀ (l : List Tr) (m : Int), m ≤ maxL f m l ∧ ∀ t ∈ l, f t ≤ maxL f m l
  | [], m => ⟨Int.le_refl _, by simp⟩
  | x :: l, m => by
    obtain ⟨h1, h2⟩ := maxL_le f l (max m (f x))
    have e : maxL f m (x :: l) = maxL f (max m (f x)) l := rfl
    rw [e]
    refine ⟨by omega, fun t ht => ?_⟩
    rcases List.mem_cons.1 ht with rfl | ht
    · omega
    · exact h2 t ht
theorem maxL_mem (f : Tr → Int) : ∀ (l : List Tr) (m : Int), maxL f m l = m ∨ ∃ t ∈ l, maxL f m l = f t
  | [], m => .inl rfl
  | x :: l, m => by
    have e : maxL f m (x :: l) = maxL f (max m (f x)) l := rfl
    rw [e]
    rcases maxL_mem f l (max m (f x)) with h | ⟨t, ht, h⟩
    · rw [h]
      by_cases hm : f x ≤ m
      · left; omega
      · right; exact ⟨x, List.mem_cons_self, by omega⟩
    · exact .inr ⟨t, List.mem_cons_of_mem _ ht, h⟩

theorem toldLo_le (f : Tr → Int) {l : List Tr} {t : Tr} (h : t ∈ l) : toldLo f l ≤ f t := by
  cases l with
  | nil => cases h
  | cons x l => exact (minL_le f (x :: l) (f x)).2 t h
theorem toldLo_mem (f : Tr → Int) {l : List Tr} (h : l ≠ []) : ∃ t ∈ l, toldLo f l = f t := by
  cases l with
  | nil => exact absurd rfl h
  | cons x l =>
    rcases minL_mem f (x :: l) (f x) with h | ⟨t, ht, h⟩
    · exact ⟨x, List.mem_cons_self, h⟩
    · exact ⟨t, ht, h⟩
theorem le_toldHi (f : Tr → Int) {l : List Tr} {t : Tr} (h : t ∈ l) : f t ≤ toldHi f l := by
  cases l with
  | nil => cases h
  | cons x l => exact (maxL_le f (x :: l) (f x)).2 t h
theorem toldHi_mem (f : Tr → Int) {l : List Tr} (h : l ≠ []) : ∃ t ∈ l, toldHi f l = f t := by
  cases l with
  | nil => exact absurd rfl h
  | cons x l =>
    rcases maxL_mem f (x :: l) (f x) with h | ⟨t, ht, h⟩
    · exact ⟨x, List.mem_cons_self, h⟩
    · exact ⟨t, ht, h⟩
theorem toldLo_le_hi (f : Tr → Int) {l : List Tr} (h : l ≠ []) : toldLo f l ≤ toldHi f l := by
  obtain ⟨t, ht, e⟩ := toldLo_mem f h
  rw [e]; exact le_toldHi f ht

theorem toldLo_eq {f : Tr → Int} {l : List Tr} {m : Int} (h : ∃ t ∈ l, f t = m) (hl : ∀ t ∈ l, m ≤ f t) : toldLo f l = m := by
  obtain ⟨t, ht, e⟩ := h
  obtain ⟨t', ht', e'⟩ := toldLo_mem f (List.ne_nil_of_mem ht)
  have h1 := toldLo_le f ht
  have h2 := hl t' ht'
  omega
theorem toldHi_eq {f : Tr → Int} {l : List Tr} {m : Int} (h : ∃ t ∈ l, f t = m) (hl : ∀ t ∈ l, f t ≤ m) : toldHi f l = m := by
  obtain ⟨t, ht, e⟩ := h
  obtain ⟨t', ht', e'⟩ := toldHi_mem f (List.ne_nil_of_mem ht)
  have h1 := le_toldHi f ht
  have h2 := hl t' ht'
  omega

/-- a number told of a number that grows with another one. -/
theorem toldLo_comp {g f : Tr → Int} {l : List Tr} (u : Int → Int) (hu : ∀ a c, a ≤ c → u a ≤ u c) (hg : ∀ t ∈ l, g t = u (f t)) (h : l ≠ []) : toldLo g l = u (toldLo f l) := by
  obtain ⟨t, ht, e⟩ := toldLo_mem f h
  exact toldLo_eq ⟨t, ht, by rw [hg t ht, e]⟩ fun s hs => by rw [hg s hs]; exact hu _ _ (toldLo_le f hs)
theorem toldHi_comp {g f : Tr → Int} {l : List Tr} (u : Int → Int) (hu : ∀ a c, a ≤ c → u a ≤ u c) (hg : ∀ t ∈ l, g t = u (f t)) (h : l ≠ []) : toldHi g l = u (toldHi f l) := by
  obtain ⟨t, ht, e⟩ := toldHi_mem f h
  exact toldHi_eq ⟨t, ht, by rw [hg t ht, e]⟩ fun s hs => by rw [hg s hs]; exact hu _ _ (le_toldHi f hs)

/-- what is told that a coach is late, out of when it comes. -/
theorem late_lo (b : Bk) (k : Nat) (h : truths b ≠ []) : toldLo (lateT b k) (truths b) = max 0 (toldLo (fun t => t.comes k) (truths b) - b.due k) :=
  toldLo_comp (fun a => max 0 (a - b.due k)) (fun a c h => by omega) (fun _ _ => rfl) h
theorem late_hi (b : Bk) (k : Nat) (h : truths b ≠ []) : toldHi (lateT b k) (truths b) = max 0 (toldHi (fun t => t.comes k) (truths b) - b.due k) :=
  toldHi_comp (fun a => max 0 (a - b.due k)) (fun a c h => by omega) (fun _ _ => rfl) h

theorem ask_ok {b : Bk} (h : bkOk b = true) (hT : truths b ≠ []) {is : Bool} (hi : is = true) : askE b is = 0 := by
  unfold askE
  rw [if_pos h, if_pos hi, if_neg (show ¬ (truths b).isEmpty = true by simpa using hT)]
theorem ask_false {b : Bk} (h : bkOk b = true) (hT : truths b = []) {is : Bool} (hi : is = true) : askE b is = 62 := by
  unfold askE
  rw [if_pos h, if_pos hi, if_pos (show (truths b).isEmpty = true by simp [hT])]
theorem ask_bad {b : Bk} (h : bkOk b = false) {is : Bool} : askE b is = 60 := by
  unfold askE
  rw [if_neg (show ¬ bkOk b = true by simp [h])]
end Go.Proofs.YtbhjfojbjpbdbaaDoor

-- Q2: Plain law of ClaimFirst: the first stage at which the coach surely is late. Written by a session.
namespace Go.Proofs.YtbhjfojbjpbdbaaDoor

theorem isStage_in {b : Bk} {k : Nat} (h : k < b.sts.length) : isStage b (k : Int) = true := by
  simp only [isStage, within, Bool.and_eq_true, decide_eq_true_iff]
  omega

theorem spanE_ok {b : Bk} {is : Bool} {f : Tr → Int} (h : bkOk b = true) (hT : truths b ≠ []) (hi : is = true) : spanE b is f = (toldLo f (truths b), toldHi f (truths b), 0) := by
  unfold spanE
  rw [if_pos (ask_ok h hT hi)]
theorem spanE_false {b : Bk} {is : Bool} {f : Tr → Int} (h : bkOk b = true) (hT : truths b = []) (hi : is = true) : spanE b is f = (0, 0, 62) := by
  unfold spanE
  rw [ask_false h hT hi, if_neg (by decide)]
theorem spanE_bad {b : Bk} {is : Bool} {f : Tr → Int} (h : bkOk b = false) : spanE b is f = (0, 0, 60) := by
  unfold spanE
  rw [ask_bad h, if_neg (by decide)]
theorem firstS_bad {b : Bk} (h : bkOk b = false) : firstS b = (0, 60) := by
  unfold firstS
  rw [ask_bad h, if_neg (by decide)]
theorem firstS_false {b : Bk} (h : bkOk b = true) (hT : truths b = []) : firstS b = (0, 62) := by
  unfold firstS
  rw [ask_false h hT rfl, if_neg (by decide)]

theorem firstS_ok {b : Bk} (h : bkOk b = true) (hT : truths b ≠ []) :
    (firstS b = (0, 4) ∧ ∀ k, k < b.sts.length → ¬ 0 < toldLo (lateT b k) (truths b)) ∨
    (∃ q, q < b.sts.length ∧ firstS b = ((q : Int), 0) ∧ 0 < toldLo (lateT b q) (truths b) ∧ ∀ k, k < q → ¬ 0 < toldLo (lateT b k) (truths b)) := by
  have e := ask_ok h hT (is := true) rfl
  rcases hf : (List.range b.sts.length).find? fun k => decide (0 < toldLo (lateT b k) (truths b)) with _ | q
  · refine .inl ⟨by unfold firstS; rw [if_pos e, hf], fun k hk => ?_⟩
    have := List.find?_eq_none.1 hf k (List.mem_range.2 hk)
    simpa using this
  · refine .inr ⟨q, ?_, by unfold firstS; rw [if_pos e, hf], ?_, ?_⟩
    · exact List.mem_range.1 (List.mem_of_find?_eq_some hf)
    · simpa using List.find?_some hf
    · intro k hk hc
      rw [List.find?_range_eq_some] at hf
      have := hf.2.2 k hk
      simp at this
      omega

theorem lateS_of_comesS {b : Bk} {k : Nat} (h : bkOk b = true) (hT : truths b ≠ []) (hk : k < b.sts.length) :
    ∃ lo hi, lo ≤ hi ∧ (0 ≤ lo ∧ hi ≤ 1000) ∧ comesS b k = (lo, hi, 0) ∧ lateS b k = (max 0 (lo - b.due k), max 0 (hi - b.due k), 0) ∧ toldLo (lateT b k) (truths b) = max 0 (lo - b.due k) ∧ toldHi (lateT b k) (truths b) = max 0 (hi - b.due k) := by
  have hi := isStage_in hk
  refine ⟨_, _, toldLo_le_hi (fun t => t.comes k) hT, ?_, spanE_ok h hT hi, ?_, late_lo b k hT, late_hi b k hT⟩
  · obtain ⟨t, ht, e⟩ := toldLo_mem (fun t => t.comes k) hT
    obtain ⟨t', ht', e'⟩ := toldHi_mem (fun t => t.comes k) hT
    rw [e, e']
    obtain ⟨_, h0, h1, h2, _⟩ := truths_ok (sound_of h) t ht
    obtain ⟨_, h0', h1', h2', _⟩ := truths_ok (sound_of h) t' ht'
    unfold Tr.comes
    constructor
    · split <;> omega
    · split <;> omega
  · have := spanE_ok (f := lateT b k) h hT hi
    rw [late_lo b k hT, late_hi b k hT] at this
    exact this

/-- all of it, at a stage. -/
theorem first_law {b : Bk} {k : Nat} (h : bkOk b = true) (hT : truths b ≠ []) (hk : k < b.sts.length) :
    ∃ lo hi, lo ≤ hi ∧ (0 ≤ lo ∧ hi ≤ 1000) ∧ comesS b k = (lo, hi, 0) ∧ lateS b k = (max 0 (lo - b.due k), max 0 (hi - b.due k), 0) ∧
      ((firstS b = (0, 4) ∧ max 0 (lo - b.due k) = 0) ∨
      (∃ q, q < b.sts.length ∧ firstS b = ((q : Int), 0) ∧ (max 0 (lo - b.due k) = 0 ∨ q ≤ k) ∧ (k ≠ q ∨ 0 < max 0 (lo - b.due k)))) := by
  obtain ⟨lo, hi, h1, h2, h3, h4, h5, _⟩ := lateS_of_comesS h hT hk
  refine ⟨lo, hi, h1, h2, h3, h4, ?_⟩
  rcases firstS_ok h hT with ⟨e, hn⟩ | ⟨q, hq, e, hp, hn⟩
  · have := hn k hk
    exact .inl ⟨e, by omega⟩
  · refine .inr ⟨q, hq, e, ?_, ?_⟩
    · by_cases hkq : k < q
      · have := hn k hkq
        left; omega
      · right; omega
    · by_cases hkq : k = q
      · subst hkq; right; omega
      · exact .inl hkq
end Go.Proofs.YtbhjfojbjpbdbaaDoor

-- Q3: Plain laws: what a truth is made of; ClaimPaid's. Written by a session.
namespace Go.Proofs.YtbhjfojbjpbdbaaDoor

/-- a truth that is reached so. -/
def Way (cost : Int) (cks : List Ck) : List St → Nat → Tr → Int → Tr → Prop
  | [], _, t, _, y => y = t
  | x :: l, j, t, fr, y => ∃ d r s, (x.dl ≤ d ∧ d ≤ x.dh) ∧ (x.rl ≤ r ∧ r ≤ x.rh) ∧ (x.sl ≤ s ∧ s ≤ x.sh) ∧ rightL cks j (fr + d + r + cost) = true ∧ Way cost cks l (j + 1) (t.put j (fr + d + r + cost) r) (fr + d + r + cost + s) y

theorem mem_goes (cost : Int) (cks : List Ck) : ∀ (l : List St) (j : Nat) (t : Tr) (fr : Int) (y : Tr), y ∈ goes cost cks l j t fr ↔ Way cost cks l j t fr y
  | [], _, t, _, y => by simp [goes, Way]
  | x :: l, j, t, fr, y => by
    simp only [goes, Way, List.mem_flatMap]
    constructor
    · rintro ⟨d, hd, r, hr, hy⟩
      split at hy
      · rename_i hR
        rw [List.mem_flatMap] at hy
        obtain ⟨s, hs, hy⟩ := hy
        exact ⟨d, r, s, upto_mem.1 hd, upto_mem.1 hr, upto_mem.1 hs, hR, (mem_goes cost cks l _ _ _ _).1 hy⟩
      · cases hy
    · rintro ⟨d, r, s, hd, hr, hs, hR, hy⟩
      refine ⟨d, upto_mem.2 hd, r, upto_mem.2 hr, ?_⟩
      rw [if_pos hR, List.mem_flatMap]
      exact ⟨s, upto_mem.2 hs, (mem_goes cost cks l _ _ _ _).2 hy⟩

theorem mem_truths {b : Bk} {y : Tr} : y ∈ truths b ↔ ∃ w, w < 3 ∧ bitOf b.wth w = true ∧ Way (b.cost w) b.cks b.sts 0 (Tr.start w) 0 y := by
  simp only [truths, List.mem_flatMap, List.mem_range]
  constructor
  · rintro ⟨w, hw, hy⟩
    split at hy
    · rename_i hb; exact ⟨w, hw, hb, (mem_goes _ _ _ _ _ _ _).1 hy⟩
    · cases hy
  · rintro ⟨w, hw, hb, hy⟩
    exact ⟨w, hw, by rw [if_pos hb]; exact (mem_goes _ _ _ _ _ _ _).2 hy⟩

theorem put_wth (t : Tr) (k : Nat) (m r : Int) : (t.put k m r).w = t.w := by unfold Tr.put; split <;> rfl
theorem put_rough_same (t : Tr) (k : Nat) (m r : Int) (hk : k ≤ 2) : (t.put k m r).rough k = r ∧ (t.put k m r).comes k = m := by
  unfold Tr.put Tr.rough Tr.comes
  match k, hk with
  | 0, _ => exact ⟨rfl, rfl⟩
  | 1, _ => exact ⟨rfl, rfl⟩
  | 2, _ => exact ⟨rfl, rfl⟩
theorem put_rough_other (t : Tr) (k i : Nat) (m r : Int) (hk : k ≤ 2) (hi : i ≤ 2) (h : i ≠ k) : (t.put k m r).rough i = t.rough i ∧ (t.put k m r).comes i = t.comes i := by
  have h1 : k = 0 ∨ k = 1 ∨ k = 2 := by omega
  have h2 : i = 0 ∨ i = 1 ∨ i = 2 := by omega
  rcases h1 with rfl | rfl | rfl <;> rcases h2 with rfl | rfl | rfl <;> first | exact absurd rfl h | exact ⟨rfl, rfl⟩

/-- what a way leaves as it was: the weather, and all stages but its own. -/
theorem way_frame {cost : Int} {cks : List Ck} : ∀ {l : List St} {j : Nat} {t : Tr} {fr : Int} {y : Tr}, j + l.length ≤ 3 → Way cost cks l j t fr y → y.w = t.w ∧ ∀ i, i ≤ 2 → i < j ∨ j + l.length ≤ i → y.rough i = t.rough i ∧ y.comes i = t.comes i
  | [], _, _, _, _, _, h => by cases h; exact ⟨rfl, fun _ _ _ => ⟨rfl, rfl⟩⟩
  | x :: l, j, t, fr, y, hj, h => by
    obtain ⟨d, r, s, _, _, _, _, hy⟩ := h
    simp only [List.length_cons] at hj
    obtain ⟨h1, h2⟩ := way_frame (by omega) hy
    refine ⟨h1.trans (put_wth _ _ _ _), fun i hi hij => ?_⟩
    simp only [List.length_cons] at hij
    obtain ⟨e1, e2⟩ := h2 i hi (by omega)
    obtain ⟨e3, e4⟩ := put_rough_other t j i (fr + d + r + cost) r (by omega) hi (by omega)
    exact ⟨e1.trans e3, e2.trans e4⟩

/-- what the road costs on a stage of a way lies in its span. -/
theorem way_rough {cost : Int} {cks : List Ck} : ∀ {l : List St} {j : Nat} {t : Tr} {fr : Int} {y : Tr}, j + l.length ≤ 3 → Way cost cks l j t fr y → ∀ i x, l[i]? = some x → x.rl ≤ y.rough (j + i) ∧ y.rough (j + i) ≤ x.rh
  | [], _, _, _, _, _, _, i, x, hx => by simp at hx
  | x :: l, j, t, fr, y, hj, h, i, z, hz => by
    obtain ⟨d, r, s, _, hr, _, _, hy⟩ := h
    simp only [List.length_cons] at hj
    cases i with
    | zero =>
      simp at hz; subst hz
      obtain ⟨e1, _⟩ := (way_frame (by omega) hy).2 j (by omega) (by omega)
      rw [Nat.add_zero, e1, (put_rough_same t j _ r (by omega)).1]
      exact hr
    | succ i =>
      simp only [List.getElem?_cons_succ] at hz
      have := way_rough (by omega) hy i z hz
      rwa [show j + 1 + i = j + (i + 1) by omega] at this

theorem truth_rough {b : Bk} (hs : b.sts.length ≤ 3) {t : Tr} (ht : t ∈ truths b) : (∀ i x, b.sts[i]? = some x → x.rl ≤ t.rough i ∧ t.rough i ≤ x.rh) ∧ ∀ i, i ≤ 2 → b.sts.length ≤ i → t.rough i = 0 ∧ t.comes i = 0 := by
  obtain ⟨w, _, _, hy⟩ := mem_truths.1 ht
  refine ⟨fun i x hx => ?_, fun i hi hl => ?_⟩
  · have := way_rough (by omega) hy i x hx
    rwa [Nat.zero_add] at this
  · obtain ⟨e1, e2⟩ := (way_frame (by omega) hy).2 i hi (by omega)
    rw [e1, e2]
    unfold Tr.start Tr.rough Tr.comes
    constructor
    · split <;> rfl
    · split <;> rfl

/-- what the road can cost on the first stages together. -/
def roughUp (b : Bk) : Nat → Int
  | 0 => 0
  | k + 1 => roughUp b k + toldHi (fun t => t.rough k) (truths b)

theorem roughUp_bd {b : Bk} (h : bkOk b = true) (hT : truths b ≠ []) : ∀ k, 0 ≤ roughUp b k ∧ roughUp b k ≤ 30 * k
  | 0 => ⟨Int.le_refl _, by simp [roughUp]⟩
  | k + 1 => by
    have ih := roughUp_bd h hT k
    obtain ⟨t, ht, e⟩ := toldHi_mem (fun t => t.rough k) hT
    obtain ⟨_, _, _, _, h1, h2, h3⟩ := truths_ok (sound_of h) t ht
    have : 0 ≤ t.rough k ∧ t.rough k ≤ 30 := by unfold Tr.rough; split <;> omega
    simp only [roughUp, e]
    omega

theorem all_le_up {b : Bk} (h : bkOk b = true) {t : Tr} (ht : t ∈ truths b) : t.all ≤ roughUp b b.sts.length ∧ 0 ≤ t.all := by
  have hh := bkOk_head h
  obtain ⟨_, _, _, _, h1, h2, h3⟩ := truths_ok (sound_of h) t ht
  have hz := (truth_rough hh.1.2 ht).2
  have k0 := le_toldHi (fun t => t.rough 0) ht
  have k1 := le_toldHi (fun t => t.rough 1) ht
  have k2 := le_toldHi (fun t => t.rough 2) ht
  have z1 := fun h => (hz 1 (by omega) h).1
  have z2 := fun h => (hz 2 (by omega) h).1
  have e0 : t.rough 0 = t.b0 := rfl
  have e1 : t.rough 1 = t.b1 := rfl
  have e2 : t.rough 2 = t.b2 := rfl
  refine ⟨?_, by unfold Tr.all; omega⟩
  unfold Tr.all
  have hl : b.sts.length = 1 ∨ b.sts.length = 2 ∨ b.sts.length = 3 := by omega
  rcases hl with hl | hl | hl <;> rw [hl] at z1 z2 ⊢ <;> simp only [roughUp] <;> omega

theorem roughS_ok {b : Bk} {k : Nat} {x : St} (h : bkOk b = true) (hT : truths b ≠ []) (hk : b.sts[k]? = some x) : roughS b k = (toldLo (fun t => t.rough k) (truths b), toldHi (fun t => t.rough k) (truths b), 0) ∧ x.rl ≤ toldLo (fun t => t.rough k) (truths b) ∧ toldHi (fun t => t.rough k) (truths b) ≤ x.rh := by
  have hlt := (List.getElem?_eq_some_iff.1 hk).1
  have hh := bkOk_head h
  refine ⟨spanE_ok h hT (isStage_in hlt), ?_, ?_⟩
  · obtain ⟨t, ht, e⟩ := toldLo_mem (fun t => t.rough k) hT
    rw [e]; exact ((truth_rough hh.1.2 ht).1 k x hk).1
  · obtain ⟨t, ht, e⟩ := toldHi_mem (fun t => t.rough k) hT
    rw [e]; exact ((truth_rough hh.1.2 ht).1 k x hk).2

theorem lateT_bdT {b : Bk} (h : bkOk b = true) (k : Nat) {t : Tr} (ht : t ∈ truths b) : 0 ≤ lateT b k t ∧ lateT b k t ≤ 1000 := by
  obtain ⟨_, h0, h1, h2, _⟩ := truths_ok (sound_of h) t ht
  have hd := due_bd h k
  have : 0 ≤ t.comes k ∧ t.comes k ≤ 1000 := by unfold Tr.comes; split <;> omega
  unfold lateT
  omega

theorem kind_cases {b : Bk} (hT : truths b ≠ []) :
    (kindOf b = 0 ∧ blames b = 0 ∧ blames b ≠ (truths b).length) ∨ (kindOf b = 1 ∧ 0 < blames b ∧ blames b ≠ (truths b).length) ∨ (kindOf b = 2 ∧ 0 < blames b ∧ blames b = (truths b).length) := by
  have hl : 0 < (truths b).length := List.length_pos_iff.2 hT
  unfold kindOf
  by_cases h1 : 0 < blames b
  · by_cases h2 : blames b = (truths b).length
    · right; right; rw [if_pos h1, if_pos h2]; exact ⟨rfl, h1, h2⟩
    · right; left; rw [if_pos h1, if_neg h2]; exact ⟨rfl, h1, h2⟩
  · left
    have h2 : blames b ≠ (truths b).length := by omega
    rw [if_neg h1, if_neg h2]; exact ⟨rfl, by omega, h2⟩

theorem blames_pos {b : Bk} (h : 0 < blames b) : ∃ t ∈ truths b, blamed b t = true := List.countP_pos_iff.1 h
theorem blames_all {b : Bk} (h : blames b = (truths b).length) : ∀ t ∈ truths b, blamed b t = true := List.countP_eq_length.1 h
theorem blamed_late {b : Bk} {t : Tr} (h : blamed b t = true) : 0 < lateT b (b.sts.length - 1) t := by
  unfold blamed at h
  simp only [Bool.and_eq_true, decide_eq_true_iff] at h
  exact h.1

/-- ClaimPaid's, at a book that can be true. -/
theorem paid_law {b : Bk} (h : bkOk b = true) (hT : truths b ≠ []) :
    ∃ ol oh ll lh kind pays : Int, owesS b = (ol, oh, 0) ∧ blameS b = (kind, 0) ∧ paysS b = (pays, 0) ∧ lateS b ((b.sts.length - 1 : Nat) : Int) = (ll, lh, 0) ∧
      0 ≤ ol ∧ oh ≤ b.rate * min lh (roughUp b b.sts.length) ∧ ol ≤ b.rate * ll ∧ (0 ≤ kind ∧ kind ≤ 2) ∧ (0 < kind → lh ≠ 0) ∧ (kind = 2 → ll ≠ 0) ∧ (kind = 2 → pays = ol) ∧ (kind ≠ 2 → pays = 0) ∧
      (0 ≤ ll ∧ ll ≤ 1000 ∧ 0 ≤ lh ∧ lh ≤ 1000) := by
  have hh := bkOk_head h
  have ha := ask_ok h hT (is := true) rfl
  obtain ⟨t0, ht0, e0⟩ := toldLo_mem (owesT b) hT
  obtain ⟨t1, ht1, e1⟩ := toldHi_mem (owesT b) hT
  obtain ⟨t2, ht2, e2⟩ := toldLo_mem (lateT b (b.sts.length - 1)) hT
  obtain ⟨t3, ht3, e3⟩ := toldHi_mem (lateT b (b.sts.length - 1)) hT
  have b2 := lateT_bdT h (b.sts.length - 1) ht2
  have b3 := lateT_bdT h (b.sts.length - 1) ht3
  refine ⟨toldLo (owesT b) (truths b), toldHi (owesT b) (truths b), toldLo (lateT b (b.sts.length - 1)) (truths b), toldHi (lateT b (b.sts.length - 1)) (truths b), kindOf b, if blames b = (truths b).length then toldLo (owesT b) (truths b) else 0, spanE_ok h hT rfl, by unfold blameS; rw [if_pos ha], by unfold paysS; rw [if_pos ha], spanE_ok h hT (isStage_in (by omega)), ?_, ?_, ?_, ?_, ?_, ?_, ?_, ?_, ?_⟩
  · rw [e0]
    have := lateT_bdT h (b.sts.length - 1) ht0
    have := (all_le_up h ht0).2
    exact Int.mul_nonneg hh.2.2.2.1 (by omega)
  · rw [e1]
    have := le_toldHi (lateT b (b.sts.length - 1)) ht1
    have := (all_le_up h ht1).1
    exact Int.mul_le_mul_of_nonneg_left (by omega) hh.2.2.2.1
  · refine Int.le_trans (toldLo_le (owesT b) ht2) ?_
    rw [e2]
    exact Int.mul_le_mul_of_nonneg_left (by omega) hh.2.2.2.1
  · rcases kind_cases hT with ⟨e, _⟩ | ⟨e, _⟩ | ⟨e, _⟩ <;> rw [e] <;> decide
  · intro hk
    have hb : 0 < blames b := by rcases kind_cases hT with ⟨e, _⟩ | ⟨e, h, _⟩ | ⟨e, h, _⟩ <;> first | exact h | (rw [e] at hk; omega)
    obtain ⟨t, ht, hb⟩ := blames_pos hb
    have := blamed_late hb
    have := le_toldHi (lateT b (b.sts.length - 1)) ht
    omega
  · intro hk
    have hb : blames b = (truths b).length := by rcases kind_cases hT with ⟨e, _⟩ | ⟨e, _⟩ | ⟨e, _, h⟩ <;> first | exact h | (rw [e] at hk; omega)
    have := blamed_late (blames_all hb t2 ht2)
    omega
  · intro hk
    have hb : blames b = (truths b).length := by rcases kind_cases hT with ⟨e, _⟩ | ⟨e, _⟩ | ⟨e, _, h⟩ <;> first | exact h | (rw [e] at hk; omega)
    rw [if_pos hb]
  · intro hk
    have hb : blames b ≠ (truths b).length := by rcases kind_cases hT with ⟨e, _, h⟩ | ⟨e, _, h⟩ | ⟨e, _⟩ <;> first | exact h | exact absurd e hk
    rw [if_neg hb]
  · omega

theorem paysS_bad {b : Bk} (h : bkOk b = false) : paysS b = (0, 60) := by
  unfold paysS
  rw [ask_bad h, if_neg (by decide)]
theorem paysS_false {b : Bk} (h : bkOk b = true) (hT : truths b = []) : paysS b = (0, 62) := by
  unfold paysS
  rw [ask_false h hT rfl, if_neg (by decide)]
theorem blameS_false {b : Bk} (h : bkOk b = true) (hT : truths b = []) : blameS b = (0, 62) := by
  unfold blameS
  rw [ask_false h hT rfl, if_neg (by decide)]
end Go.Proofs.YtbhjfojbjpbdbaaDoor

-- Q4: Plain law of ClaimDue: each stage is due some minutes later. Written by a session.
namespace Go.Proofs.YtbhjfojbjpbdbaaDoor

def St.later (y : Int) (x : St) : St := { x with due := x.due + y }
def Bk.later (b : Bk) (y : Int) : Bk := { b with sts := b.sts.map (St.later y) }

theorem goes_later (y : Int) (cost : Int) (cks : List Ck) : ∀ (l : List St) (j : Nat) (t : Tr) (fr : Int), goes cost cks (l.map (St.later y)) j t fr = goes cost cks l j t fr
  | [], _, _, _ => rfl
  | x :: l, j, t, fr => by
    have ih := fun j t fr => goes_later y cost cks l j t fr
    simp only [List.map_cons, goes, ih]
    rfl

theorem truths_later (b : Bk) (y : Int) : truths (b.later y) = truths b := by
  unfold truths
  have hc : ∀ w, (b.later y).cost w = b.cost w := fun w => rfl
  simp only [hc, show (b.later y).wth = b.wth from rfl, show (b.later y).cks = b.cks from rfl, show (b.later y).sts = b.sts.map (St.later y) from rfl, goes_later]

theorem due_later (b : Bk) (y : Int) {k : Nat} (h : k < b.sts.length) : (b.later y).due k = b.due k + y := by
  unfold Bk.due Bk.later
  simp [List.getD_eq_getElem?_getD, h, St.later]

theorem len_later (b : Bk) (y : Int) : (b.later y).sts.length = b.sts.length := by simp [Bk.later]

theorem lateT_later (b : Bk) (y : Int) (hy : 0 ≤ y) {k : Nat} (h : k < b.sts.length) (t : Tr) : lateT (b.later y) k t = max 0 (lateT b k t - y) := by
  unfold lateT
  rw [due_later b y h]
  omega

theorem due_law {b : Bk} {y : Int} {k : Nat} (h : bkOk b = true) (hx : bkOk (b.later y) = true) (hy : 0 ≤ y) (hT : truths b ≠ []) (hk : k < b.sts.length) :
    ∃ cl ch ul uh ol oh pl ph : Int, comesS b k = (cl, ch, 0) ∧ comesS (b.later y) k = (cl, ch, 0) ∧ lateS b k = (ul, uh, 0) ∧ lateS (b.later y) k = (max 0 (ul - y), max 0 (uh - y), 0) ∧
      owesS b = (ol, oh, 0) ∧ owesS (b.later y) = (pl, ph, 0) ∧ pl ≤ ol ∧ ph ≤ oh ∧ (0 ≤ ul ∧ ul ≤ 1000 ∧ 0 ≤ uh ∧ uh ≤ 1000) ∧
      ((firstS (b.later y)).2 = 4 ∧ ((firstS b).2 = 0 ∨ (firstS b).2 = 4) ∨ (firstS (b.later y)).2 = 0 ∧ (firstS b).2 = 0 ∧ (firstS b).1 ≤ (firstS (b.later y)).1) := by
  have hh := bkOk_head h
  have hT' : truths (b.later y) ≠ [] := by rw [truths_later]; exact hT
  have hi := isStage_in hk
  have hi' : isStage (b.later y) k = true := isStage_in (by rw [len_later]; exact hk)
  obtain ⟨t2, ht2, e2⟩ := toldLo_mem (lateT b k) hT
  obtain ⟨t3, ht3, e3⟩ := toldHi_mem (lateT b k) hT
  have hle : ∀ j, j < b.sts.length → ∀ t, lateT (b.later y) j t ≤ lateT b j t := fun j hj t => by
    rw [lateT_later b y hy hj]
    have : 0 ≤ lateT b j t := by unfold lateT; omega
    omega
  have how : ∀ t, owesT (b.later y) t ≤ owesT b t := fun t => by
    unfold owesT
    rw [len_later]
    have := hle (b.sts.length - 1) (by omega) t
    exact Int.mul_le_mul_of_nonneg_left (by omega) hh.2.2.2.1
  refine ⟨_, _, toldLo (lateT b k) (truths b), toldHi (lateT b k) (truths b), _, _, _, _, spanE_ok h hT hi, ?_, spanE_ok h hT hi, ?_, spanE_ok h hT rfl, spanE_ok hx hT' rfl, ?_, ?_, ?_, ?_⟩
  · have := spanE_ok (f := fun t => t.comes (k : Int).toNat) hx hT' hi'
    rw [truths_later] at this
    exact this
  · have := spanE_ok (f := lateT (b.later y) k) hx hT' hi'
    rw [truths_later, toldLo_comp (fun a => max 0 (a - y)) (fun a c h => by omega) (fun t _ => lateT_later b y hy hk t) hT, toldHi_comp (fun a => max 0 (a - y)) (fun a c h => by omega) (fun t _ => lateT_later b y hy hk t) hT] at this
    exact this
  · rw [truths_later]
    obtain ⟨t, ht, e⟩ := toldLo_mem (owesT b) hT
    rw [e]
    exact Int.le_trans (toldLo_le _ ht) (how t)
  · rw [truths_later]
    obtain ⟨t, ht, e⟩ := toldHi_mem (owesT (b.later y)) hT
    rw [e]
    exact Int.le_trans (how t) (le_toldHi _ ht)
  · have b2 := lateT_bdT h k ht2
    have b3 := lateT_bdT h k ht3
    omega
  · rcases firstS_ok hx hT' with ⟨e, hn⟩ | ⟨q, hq, e, hp, hn⟩
    · left
      rw [e]
      refine ⟨rfl, ?_⟩
      rcases firstS_ok h hT with ⟨e, _⟩ | ⟨q, _, e, _⟩
      · rw [e]; exact .inr rfl
      · rw [e]; exact .inl rfl
    · right
      rw [len_later] at hq
      rw [truths_later] at hp
      have hp' : 0 < toldLo (lateT b q) (truths b) := by
        obtain ⟨t, ht, e⟩ := toldLo_mem (lateT b q) hT
        rw [e]
        have h1 := toldLo_le (lateT (b.later y) q) ht
        have h2 := hle q hq t
        omega
      rcases firstS_ok h hT with ⟨e', hn'⟩ | ⟨p, hp1, e', hp2, hn'⟩
      · exact absurd hp' (hn' q hq)
      · rw [e, e']
        refine ⟨rfl, rfl, ?_⟩
        show (p : Int) ≤ q
        by_cases hpq : q < p
        · exact absurd hp' (hn' q hpq)
        · omega

theorem due_false {b : Bk} {y : Int} {k : Nat} (h : bkOk b = true) (hx : bkOk (b.later y) = true) (hT : truths b = []) (hk : k < b.sts.length) :
    comesS b k = (0, 0, 62) ∧ comesS (b.later y) k = (0, 0, 62) ∧ lateS b k = (0, 0, 62) ∧ lateS (b.later y) k = (0, 0, 62) := by
  have hT' : truths (b.later y) = [] := by rw [truths_later]; exact hT
  have hi := isStage_in hk
  have hi' : isStage (b.later y) k = true := isStage_in (by rw [len_later]; exact hk)
  exact ⟨spanE_false h hT hi, spanE_false hx hT' hi', spanE_false h hT hi, spanE_false hx hT' hi'⟩
end Go.Proofs.YtbhjfojbjpbdbaaDoor

-- Q6: Plain law of ClaimSmooth: a road that costs nothing on any stage. Written by a session.
namespace Go.Proofs.YtbhjfojbjpbdbaaDoor

def St.smooth (x : St) : St := { x with rl := 0, rh := 0 }
def Bk.smooth (b : Bk) : Bk := { b with sts := b.sts.map St.smooth }
def Bk.bare (b : Bk) : Bk := { b with cks := [] }

theorem smooth_len (b : Bk) : b.smooth.sts.length = b.sts.length := by simp [Bk.smooth]

theorem smooth_stsOk : ∀ (l : List St) (d : Int), stsOk d l = true → stsOk d (l.map St.smooth) = true
  | [], _, _ => rfl
  | x :: l, d, h => by
    simp only [stsOk, Bool.and_eq_true] at h
    simp only [List.map_cons, stsOk, Bool.and_eq_true]
    refine ⟨?_, smooth_stsOk l x.due h.2⟩
    have h1 := h.1
    simp only [stOk, Bool.and_eq_true, spanOk, within, decide_eq_true_iff] at h1 ⊢
    simp only [St.smooth]
    omega
theorem smooth_ok {b : Bk} (h : bkOk b = true) : bkOk b.smooth = true := by
  simp only [bkOk, headOk, Bool.and_eq_true] at h ⊢
  obtain ⟨⟨⟨h1, h2⟩, h3⟩, h4⟩ := h
  refine ⟨⟨⟨?_, smooth_stsOk _ _ h2⟩, h3⟩, ?_⟩
  · rw [smooth_len]; exact h1
  · rw [smooth_len]; exact h4
theorem bare_ok {b : Bk} (h : bkOk b = true) : bkOk b.bare = true := by
  simp only [bkOk, headOk, Bool.and_eq_true] at h ⊢
  obtain ⟨⟨⟨h1, h2⟩, h3⟩, h4⟩ := h
  refine ⟨⟨⟨⟨⟨h1.1.1, ?_⟩, h1.2⟩, h2⟩, h3⟩, rfl⟩
  show decide ((([] : List Ck).length : Int) ≤ 4) = true
  decide

theorem smooth_all {b : Bk} (h : bkOk b = true) {t : Tr} (ht : t ∈ truths b.smooth) : t.all = 0 := by
  have hh := bkOk_head h
  obtain ⟨h1, h2⟩ := truth_rough (b := b.smooth) (by rw [smooth_len]; exact hh.1.2) ht
  have hz : ∀ i, i ≤ 2 → t.rough i = 0 := fun i hi => by
    rcases Nat.lt_or_ge i b.sts.length with hl | hl
    · have hx : b.smooth.sts[i]? = some (b.sts[i].smooth) := by simp [Bk.smooth, hl]
      have := h1 i _ hx
      simp only [St.smooth] at this
      omega
    · exact (h2 i hi (by rw [smooth_len]; exact hl)).1
  have e0 : t.rough 0 = t.b0 := rfl
  have e1 : t.rough 1 = t.b1 := rfl
  have e2 : t.rough 2 = t.b2 := rfl
  have := hz 0 (by omega)
  have := hz 1 (by omega)
  have := hz 2 (by omega)
  unfold Tr.all
  omega

theorem smooth_law {b : Bk} (h : bkOk b = true) (hT : truths b.smooth ≠ []) : blameS b.smooth = (0, 0) ∧ owesS b.smooth = (0, 0, 0) ∧ paysS b.smooth = (0, 0) := by
  have hs := smooth_ok h
  have ha := ask_ok hs hT (is := true) rfl
  have ho : ∀ t ∈ truths b.smooth, owesT b.smooth t = 0 := fun t ht => by
    have h1 := smooth_all h ht
    have h2 := (lateT_bdT hs (b.smooth.sts.length - 1) ht).1
    unfold owesT
    rw [h1, show min (lateT b.smooth (b.smooth.sts.length - 1) t) 0 = 0 by omega, Int.mul_zero]
  have hb : blames b.smooth = 0 := by
    unfold blames
    rw [List.countP_eq_zero]
    intro t ht hc
    have h1 := smooth_all h ht
    unfold blamed at hc
    simp only [Bool.and_eq_true, decide_eq_true_iff, h1] at hc
    unfold lateT at hc
    omega
  have hl : (truths b.smooth).length ≠ 0 := fun e => hT (List.eq_nil_of_length_eq_zero e)
  refine ⟨?_, ?_, ?_⟩
  · unfold blameS
    rw [if_pos ha]
    unfold kindOf
    rw [hb, if_neg (by omega), if_neg (by omega)]
    rfl
  · have h1 := spanE_ok (f := owesT b.smooth) hs hT (is := true) rfl
    have e1 : toldLo (owesT b.smooth) (truths b.smooth) = 0 := by
      obtain ⟨t, ht, e⟩ := toldLo_mem (owesT b.smooth) hT
      rw [e, ho t ht]
    have e2 : toldHi (owesT b.smooth) (truths b.smooth) = 0 := by
      obtain ⟨t, ht, e⟩ := toldHi_mem (owesT b.smooth) hT
      rw [e, ho t ht]
    rw [e1, e2] at h1
    exact h1
  · unfold paysS
    rw [if_pos ha, hb, if_neg (by omega)]

/-- what the first stages have, added up. -/
def fsum (f : St → Int) : List St → Nat → Int
  | _, 0 => 0
  | [], _ + 1 => 0
  | x :: l, k + 1 => f x + fsum f l k
theorem fsum_succ (f : St → Int) : ∀ (l : List St) (k : Nat) (x : St), l[k]? = some x → fsum f l (k + 1) = fsum f l k + f x
  | [], k, x, h => by simp at h
  | y :: l, 0, x, h => by
    simp at h; subst h
    cases l <;> simp [fsum]
  | y :: l, k + 1, x, h => by
    simp only [List.getElem?_cons_succ] at h
    simp only [fsum]
    rw [fsum_succ f l k x h]
    omega

theorem way_down {cost : Int} : ∀ {l : List St} {j : Nat} {t t' : Tr} {fr R : Int} {y : Tr}, j + l.length ≤ 3 → Way cost [] l j t fr y →
    ∃ y', Way cost [] (l.map St.smooth) j t' (fr - R) y' ∧ ∀ i, i < l.length → ∃ S, y.comes (j + i) = y'.comes (j + i) + R + S ∧ fsum St.rl l (i + 1) ≤ S ∧ S ≤ fsum St.rh l (i + 1)
  | [], _, _, t', _, _, _, _, _ => ⟨t', rfl, fun i hi => absurd hi (Nat.not_lt_zero _)⟩
  | x :: l, j, t, t', fr, R, y, hj, h => by
    obtain ⟨d, r, s, hd, hr, hs, hR, hy⟩ := h
    simp only [List.length_cons] at hj
    obtain ⟨y', hw, hc⟩ := way_down (t' := t'.put j (fr - R + d + 0 + cost) 0) (R := R + r) (by omega) hy
    have he : fr + d + r + cost + s - (R + r) = fr - R + d + 0 + cost + s := by omega
    rw [he] at hw
    have hc0 := (way_frame (by omega) hy).2 j (by omega) (by omega)
    have hc1 := (way_frame (by simpa using (by omega : j + 1 + l.length ≤ 3)) hw).2 j (by omega) (by omega)
    have p0 := (put_rough_same t j (fr + d + r + cost) r (by omega)).2
    have p1 := (put_rough_same t' j (fr - R + d + 0 + cost) 0 (by omega)).2
    refine ⟨y', ⟨d, 0, s, hd, ⟨by simp [St.smooth], by simp [St.smooth]⟩, hs, rfl, hw⟩, fun i hi => ?_⟩
    cases i with
    | zero =>
      refine ⟨r, ?_, ?_, ?_⟩
      · rw [Nat.add_zero, hc0.2, hc1.2, p0, p1]; omega
      · simp only [fsum]; omega
      · simp only [fsum]; omega
    | succ i =>
      obtain ⟨S, e1, e2, e3⟩ := hc i (by simpa using hi)
      refine ⟨r + S, ?_, ?_, ?_⟩
      · rw [show j + (i + 1) = j + 1 + i by omega, e1]; omega
      · simp only [fsum]
        have : fsum St.rl l (i + 1) ≤ S := e2
        omega
      · simp only [fsum]
        omega

theorem way_up {cost : Int} (f : St → Int) : ∀ {l : List St} {j : Nat} {t t' : Tr} {fr R : Int} {y' : Tr}, j + l.length ≤ 3 → (∀ x ∈ l, x.rl ≤ f x ∧ f x ≤ x.rh) → Way cost [] (l.map St.smooth) j t' fr y' →
    ∃ y, Way cost [] l j t (fr + R) y ∧ ∀ i, i < l.length → y.comes (j + i) = y'.comes (j + i) + R + fsum f l (i + 1)
  | [], _, t, _, _, _, _, _, _, _ => ⟨t, rfl, fun i hi => absurd hi (Nat.not_lt_zero _)⟩
  | x :: l, j, t, t', fr, R, y', hj, hf, h => by
    obtain ⟨d, r, s, hd, hr, hs, hR, hy⟩ := h
    simp only [List.length_cons] at hj
    have hr0 : r = 0 := by simp only [St.smooth] at hr; omega
    subst hr0
    obtain ⟨y, hw, hc⟩ := way_up f (t := t.put j (fr + R + d + f x + cost) (f x)) (R := R + f x) (by omega) (fun z hz => hf z (List.mem_cons_of_mem _ hz)) hy
    have he : fr + d + 0 + cost + s + (R + f x) = fr + R + d + f x + cost + s := by omega
    rw [he] at hw
    have hc0 := (way_frame (by omega) hw).2 j (by omega) (by omega)
    have hc1 := (way_frame (by simpa using (by omega : j + 1 + l.length ≤ 3)) hy).2 j (by omega) (by omega)
    have p0 := (put_rough_same t j (fr + R + d + f x + cost) (f x) (by omega)).2
    have p1 := (put_rough_same t' j (fr + d + 0 + cost) 0 (by omega)).2
    refine ⟨y, ⟨d, f x, s, hd, hf x List.mem_cons_self, hs, rfl, hw⟩, fun i hi => ?_⟩
    cases i with
    | zero => rw [Nat.add_zero, hc0.2, hc1.2, p0, p1]; simp only [fsum]; omega
    | succ i =>
      have e1 := hc i (by simpa using hi)
      rw [show j + (i + 1) = j + 1 + i by omega, e1]
      simp only [fsum]
      omega

theorem way_any {cost : Int} : ∀ (l : List St) (j : Nat) (t : Tr) (fr : Int), (∀ x ∈ l, x.dl ≤ x.dh ∧ x.rl ≤ x.rh ∧ x.sl ≤ x.sh) → ∃ y, Way cost [] l j t fr y
  | [], _, t, _, _ => ⟨t, rfl⟩
  | x :: l, j, t, fr, h => by
    obtain ⟨y, hy⟩ := way_any (cost := cost) l (j + 1) (t.put j (fr + x.dl + x.rl + cost) x.rl) (fr + x.dl + x.rl + cost + x.sl) (fun z hz => h z (List.mem_cons_of_mem _ hz))
    have hx := h x List.mem_cons_self
    exact ⟨y, x.dl, x.rl, x.sl, ⟨Int.le_refl _, hx.1⟩, ⟨Int.le_refl _, hx.2.1⟩, ⟨Int.le_refl _, hx.2.2⟩, rfl, hy⟩

theorem bit_some {w : Int} (h : 1 ≤ w ∧ w ≤ 7) : ∃ q, q < 3 ∧ bitOf w q = true := by
  have : w = 1 ∨ w = 2 ∨ w = 3 ∨ w = 4 ∨ w = 5 ∨ w = 6 ∨ w = 7 := by omega
  rcases this with rfl | rfl | rfl | rfl | rfl | rfl | rfl
  · exact ⟨0, by decide, by decide⟩
  · exact ⟨1, by decide, by decide⟩
  · exact ⟨0, by decide, by decide⟩
  · exact ⟨2, by decide, by decide⟩
  · exact ⟨0, by decide, by decide⟩
  · exact ⟨1, by decide, by decide⟩
  · exact ⟨0, by decide, by decide⟩

theorem bare_ne {b : Bk} (h : bkOk b = true) : truths b.bare ≠ [] := by
  obtain ⟨w, hw, hb⟩ := bit_some (bkOk_head h).2.1
  obtain ⟨y, hy⟩ := way_any (cost := b.cost w) b.sts 0 (Tr.start w) 0 (fun x hx => by have := bkOk_sts h x hx; omega)
  exact List.ne_nil_of_mem (mem_truths.2 ⟨w, hw, hb, hy⟩)

theorem smooth_comes {b : Bk} {k : Nat} (h : bkOk b = true) (hk : k < b.sts.length) :
    ∃ lo hi : Int, (0 ≤ lo ∧ hi ≤ 1000 ∧ lo ≤ hi) ∧ comesS b.smooth.bare k = (lo, hi, 0) ∧ comesS b.bare k = (lo + fsum St.rl b.sts (k + 1), hi + fsum St.rh b.sts (k + 1), 0) := by
  have hh := bkOk_head h
  have hs := bare_ok (smooth_ok h)
  have hb := bare_ok h
  have n1 := bare_ne (smooth_ok h)
  have n2 := bare_ne h
  have hsts := bkOk_sts h
  have i1 : isStage b.smooth.bare (k : Int) = true := isStage_in (by show k < b.smooth.sts.length; rw [smooth_len]; exact hk)
  have i2 : isStage b.bare (k : Int) = true := isStage_in hk
  have down : ∀ t ∈ truths b.bare, ∃ t' ∈ truths b.smooth.bare, ∃ S, t.comes k = t'.comes k + S ∧ fsum St.rl b.sts (k + 1) ≤ S ∧ S ≤ fsum St.rh b.sts (k + 1) := fun t ht => by
    obtain ⟨w, hw, hbit, hy⟩ := mem_truths.1 ht
    obtain ⟨y', hy', hc⟩ := way_down (t' := Tr.start w) (R := 0) (by have := hh.1.2; show 0 + b.sts.length ≤ 3; omega) (show Way (b.cost w) [] b.sts 0 (Tr.start w) 0 t from hy)
    obtain ⟨S, e1, e2, e3⟩ := hc k hk
    rw [Nat.zero_add] at e1
    exact ⟨y', mem_truths.2 ⟨w, hw, hbit, hy'⟩, S, by omega, e2, e3⟩
  have up : ∀ (f : St → Int), (∀ x ∈ b.sts, x.rl ≤ f x ∧ f x ≤ x.rh) → ∀ t' ∈ truths b.smooth.bare, ∃ t ∈ truths b.bare, t.comes k = t'.comes k + fsum f b.sts (k + 1) := fun f hf t' ht => by
    obtain ⟨w, hw, hbit, hy⟩ := mem_truths.1 ht
    obtain ⟨y, hy', hc⟩ := way_up f (t := Tr.start w) (R := 0) (by have := hh.1.2; show 0 + b.sts.length ≤ 3; omega) hf (show Way (b.cost w) [] (b.sts.map St.smooth) 0 (Tr.start w) 0 t' from hy)
    have e1 := hc k hk
    rw [Nat.zero_add] at e1
    exact ⟨y, mem_truths.2 ⟨w, hw, hbit, hy'⟩, by omega⟩
  have clo : toldLo (fun t => t.comes k) (truths b.bare) = toldLo (fun t => t.comes k) (truths b.smooth.bare) + fsum St.rl b.sts (k + 1) := by
    refine toldLo_eq ?_ ?_
    · obtain ⟨t', ht', e⟩ := toldLo_mem (fun t => t.comes k) n1
      obtain ⟨t, ht, e2⟩ := up St.rl (fun x hx => by have := hsts x hx; omega) t' ht'
      exact ⟨t, ht, by rw [e]; exact e2⟩
    · intro t ht
      obtain ⟨t', ht', S, e1, e2, _⟩ := down t ht
      have hq : toldLo (fun t => t.comes k) (truths b.smooth.bare) ≤ t'.comes k := toldLo_le (fun t => t.comes k) ht'
      show _ ≤ t.comes k
      omega
  have chi : toldHi (fun t => t.comes k) (truths b.bare) = toldHi (fun t => t.comes k) (truths b.smooth.bare) + fsum St.rh b.sts (k + 1) := by
    refine toldHi_eq ?_ ?_
    · obtain ⟨t', ht', e⟩ := toldHi_mem (fun t => t.comes k) n1
      obtain ⟨t, ht, e2⟩ := up St.rh (fun x hx => by have := hsts x hx; omega) t' ht'
      exact ⟨t, ht, by rw [e]; exact e2⟩
    · intro t ht
      obtain ⟨t', ht', S, e1, _, e3⟩ := down t ht
      have hq : t'.comes k ≤ toldHi (fun t => t.comes k) (truths b.smooth.bare) := le_toldHi (fun t => t.comes k) ht'
      show t.comes k ≤ _
      omega
  refine ⟨_, _, ?_, spanE_ok hs n1 i1, ?_⟩
  · obtain ⟨t, ht, e⟩ := toldLo_mem (fun t => t.comes (k : Int).toNat) n1
    obtain ⟨t', ht', e'⟩ := toldHi_mem (fun t => t.comes (k : Int).toNat) n1
    have hle := toldLo_le_hi (fun t => t.comes (k : Int).toNat) n1
    obtain ⟨_, a0, a1, a2, _⟩ := truths_ok (sound_of hs) t ht
    obtain ⟨_, b0, b1, b2, _⟩ := truths_ok (sound_of hs) t' ht'
    have h1 : 0 ≤ t.comes (k : Int).toNat := by unfold Tr.comes; split <;> omega
    have h2 : t'.comes (k : Int).toNat ≤ 1000 := by unfold Tr.comes; split <;> omega
    rw [e, e'] at hle ⊢
    exact ⟨h1, h2, hle⟩
  · have := spanE_ok (f := fun t => t.comes (k : Int).toNat) hb n2 i2
    simp only [Int.toNat_natCast] at this ⊢
    rw [clo, chi] at this
    exact this

theorem fsum_bd {b : Bk} (h : bkOk b = true) : ∀ k, k ≤ b.sts.length → (0 ≤ fsum St.rl b.sts k ∧ fsum St.rl b.sts k ≤ 30 * k) ∧ (0 ≤ fsum St.rh b.sts k ∧ fsum St.rh b.sts k ≤ 30 * k)
  | 0, _ => by simp [fsum]
  | k + 1, hk => by
    obtain ⟨x, hx⟩ : ∃ x, b.sts[k]? = some x := ⟨_, List.getElem?_eq_getElem (by omega)⟩
    have ih := fsum_bd h k (by omega)
    have := bkOk_sts h x (List.mem_of_getElem? hx)
    rw [fsum_succ _ _ _ _ hx, fsum_succ _ _ _ _ hx]
    omega
end Go.Proofs.YtbhjfojbjpbdbaaDoor
