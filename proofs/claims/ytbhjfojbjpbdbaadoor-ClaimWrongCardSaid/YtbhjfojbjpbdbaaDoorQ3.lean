/-
  Plain laws: what a truth is made of; ClaimPaid's. Written by this session.
-/
import Derived.Test.YtbhjfojbjpbdbaaDoorQ2
namespace Go.Proofs.YtbhjfojbjpbdbaaDoor

/-- a truth that is reached so. -/
def Way (cost : Int) (cks : List Ck) : List St → Nat → Tr → Int → Tr → Prop
  | [], _, t, _, y => y = t
  | x :: l, j, t, fr, y => ∃ d r s, (x.dl ≤ d ∧ d ≤ x.dh) ∧ (x.rl ≤ r ∧ r ≤ x.rh) ∧ (x.sl ≤ s ∧ s ≤ x.sh) ∧ rightL cks j (fr + d + r + cost) = true ∧ Way cost cks l (j + 1) (t.put j (fr + d + r + cost) r) (fr + d + r + cost + s) y

theorem mem_goes (cost : Int) (cks : List Ck) : ∀ (l : List St) (j : Nat) (t : Tr) (fr : Int) (y : Tr), y ∈ goes cost cks l j t fr ↔ Way cost cks l j t fr y
  | [], _, t, _, y => by simp [goes, Way]
  | x :: l, j, t, fr, y => by
    simp only [goes, Way, List.mem_flatMap]
    constructor
    · rintro ⟨d, hd, r, hr, hy⟩
      split at hy
      · rename_i hR
        rw [List.mem_flatMap] at hy
        obtain ⟨s, hs, hy⟩ := hy
        exact ⟨d, r, s, upto_mem.1 hd, upto_mem.1 hr, upto_mem.1 hs, hR, (mem_goes cost cks l _ _ _ _).1 hy⟩
      · cases hy
    · rintro ⟨d, r, s, hd, hr, hs, hR, hy⟩
      refine ⟨d, upto_mem.2 hd, r, upto_mem.2 hr, ?_⟩
      rw [if_pos hR, List.mem_flatMap]
      exact ⟨s, upto_mem.2 hs, (mem_goes cost cks l _ _ _ _).2 hy⟩

theorem mem_truths {b : Bk} {y : Tr} : y ∈ truths b ↔ ∃ w, w < 3 ∧ bitOf b.wth w = true ∧ Way (b.cost w) b.cks b.sts 0 (Tr.start w) 0 y := by
  simp only [truths, List.mem_flatMap, List.mem_range]
  constructor
  · rintro ⟨w, hw, hy⟩
    split at hy
    · rename_i hb; exact ⟨w, hw, hb, (mem_goes _ _ _ _ _ _ _).1 hy⟩
    · cases hy
  · rintro ⟨w, hw, hb, hy⟩
    exact ⟨w, hw, by rw [if_pos hb]; exact (mem_goes _ _ _ _ _ _ _).2 hy⟩

theorem put_wth (t : Tr) (k : Nat) (m r : Int) : (t.put k m r).w = t.w := by unfold Tr.put; split <;> rfl
theorem put_rough_same (t : Tr) (k : Nat) (m r : Int) (hk : k ≤ 2) : (t.put k m r).rough k = r ∧ (t.put k m r).comes k = m := by
  unfold Tr.put Tr.rough Tr.comes
  match k, hk with
  | 0, _ => exact ⟨rfl, rfl⟩
  | 1, _ => exact ⟨rfl, rfl⟩
  | 2, _ => exact ⟨rfl, rfl⟩
theorem put_rough_other (t : Tr) (k i : Nat) (m r : Int) (hk : k ≤ 2) (hi : i ≤ 2) (h : i ≠ k) : (t.put k m r).rough i = t.rough i ∧ (t.put k m r).comes i = t.comes i := by
  have h1 : k = 0 ∨ k = 1 ∨ k = 2 := by omega
  have h2 : i = 0 ∨ i = 1 ∨ i = 2 := by omega
  rcases h1 with rfl | rfl | rfl <;> rcases h2 with rfl | rfl | rfl <;> first | exact absurd rfl h | exact ⟨rfl, rfl⟩

/-- what a way leaves as it was: the weather, and all stages but its own. -/
theorem way_frame {cost : Int} {cks : List Ck} : ∀ {l : List St} {j : Nat} {t : Tr} {fr : Int} {y : Tr}, j + l.length ≤ 3 → Way cost cks l j t fr y → y.w = t.w ∧ ∀ i, i ≤ 2 → i < j ∨ j + l.length ≤ i → y.rough i = t.rough i ∧ y.comes i = t.comes i
  | [], _, _, _, _, _, h => by cases h; exact ⟨rfl, fun _ _ _ => ⟨rfl, rfl⟩⟩
  | x :: l, j, t, fr, y, hj, h => by
    obtain ⟨d, r, s, _, _, _, _, hy⟩ := h
    simp only [List.length_cons] at hj
    obtain ⟨h1, h2⟩ := way_frame (by omega) hy
    refine ⟨h1.trans (put_wth _ _ _ _), fun i hi hij => ?_⟩
    simp only [List.length_cons] at hij
    obtain ⟨e1, e2⟩ := h2 i hi (by omega)
    obtain ⟨e3, e4⟩ := put_rough_other t j i (fr + d + r + cost) r (by omega) hi (by omega)
    exact ⟨e1.trans e3, e2.trans e4⟩

/-- what the road costs on a stage of a way lies in its span. -/
theorem way_rough {cost : Int} {cks : List Ck} : ∀ {l : List St} {j : Nat} {t : Tr} {fr : Int} {y : Tr}, j + l.length ≤ 3 → Way cost cks l j t fr y → ∀ i x, l[i]? = some x → x.rl ≤ y.rough (j + i) ∧ y.rough (j + i) ≤ x.rh
  | [], _, _, _, _, _, _, i, x, hx => by simp at hx
  | x :: l, j, t, fr, y, hj, h, i, z, hz => by
    obtain ⟨d, r, s, _, hr, _, _, hy⟩ := h
    simp only [List.length_cons] at hj
    cases i with
    | zero =>
      simp at hz; subst hz
      obtain ⟨e1, _⟩ := (way_frame (by omega) hy).2 j (by omega) (by omega)
      rw [Nat.add_zero, e1, (put_rough_same t j _ r (by omega)).1]
      exact hr
    | succ i =>
      simp only [List.getElem?_cons_succ] at hz
      have := way_rough (by omega) hy i z hz
      rwa [show j + 1 + i = j + (i + 1) by omega] at this

theorem truth_rough {b : Bk} (hs : b.sts.length ≤ 3) {t : Tr} (ht : t ∈ truths b) : (∀ i x, b.sts[i]? = some x → x.rl ≤ t.rough i ∧ t.rough i ≤ x.rh) ∧ ∀ i, i ≤ 2 → b.sts.length ≤ i → t.rough i = 0 ∧ t.comes i = 0 := by
  obtain ⟨w, _, _, hy⟩ := mem_truths.1 ht
  refine ⟨fun i x hx => ?_, fun i hi hl => ?_⟩
  · have := way_rough (by omega) hy i x hx
    rwa [Nat.zero_add] at this
  · obtain ⟨e1, e2⟩ := (way_frame (by omega) hy).2 i hi (by omega)
    rw [e1, e2]
    unfold Tr.start Tr.rough Tr.comes
    constructor
    · split <;> rfl
    · split <;> rfl

/-- what the road can cost on the first stages together. -/
def roughUp (b : Bk) : Nat → Int
  | 0 => 0
  | k + 1 => roughUp b k + toldHi (fun t => t.rough k) (truths b)

theorem roughUp_bd {b : Bk} (h : bkOk b = true) (hT : truths b ≠ []) : ∀ k, 0 ≤ roughUp b k ∧ roughUp b k ≤ 30 * k
  | 0 => ⟨Int.le_refl _, by simp [roughUp]⟩
  | k + 1 => by
    have ih := roughUp_bd h hT k
    obtain ⟨t, ht, e⟩ := toldHi_mem (fun t => t.rough k) hT
    obtain ⟨_, _, _, _, h1, h2, h3⟩ := truths_ok (sound_of h) t ht
    have : 0 ≤ t.rough k ∧ t.rough k ≤ 30 := by unfold Tr.rough; split <;> omega
    simp only [roughUp, e]
    omega

theorem all_le_up {b : Bk} (h : bkOk b = true) {t : Tr} (ht : t ∈ truths b) : t.all ≤ roughUp b b.sts.length ∧ 0 ≤ t.all := by
  have hh := bkOk_head h
  obtain ⟨_, _, _, _, h1, h2, h3⟩ := truths_ok (sound_of h) t ht
  have hz := (truth_rough hh.1.2 ht).2
  have k0 := le_toldHi (fun t => t.rough 0) ht
  have k1 := le_toldHi (fun t => t.rough 1) ht
  have k2 := le_toldHi (fun t => t.rough 2) ht
  have z1 := fun h => (hz 1 (by omega) h).1
  have z2 := fun h => (hz 2 (by omega) h).1
  have e0 : t.rough 0 = t.b0 := rfl
  have e1 : t.rough 1 = t.b1 := rfl
  have e2 : t.rough 2 = t.b2 := rfl
  refine ⟨?_, by unfold Tr.all; omega⟩
  unfold Tr.all
  have hl : b.sts.length = 1 ∨ b.sts.length = 2 ∨ b.sts.length = 3 := by omega
  rcases hl with hl | hl | hl <;> rw [hl] at z1 z2 ⊢ <;> simp only [roughUp] <;> omega

theorem roughS_ok {b : Bk} {k : Nat} {x : St} (h : bkOk b = true) (hT : truths b ≠ []) (hk : b.sts[k]? = some x) : roughS b k = (toldLo (fun t => t.rough k) (truths b), toldHi (fun t => t.rough k) (truths b), 0) ∧ x.rl ≤ toldLo (fun t => t.rough k) (truths b) ∧ toldHi (fun t => t.rough k) (truths b) ≤ x.rh := by
  have hlt := (List.getElem?_eq_some_iff.1 hk).1
  have hh := bkOk_head h
  refine ⟨spanE_ok h hT (isStage_in hlt), ?_, ?_⟩
  · obtain ⟨t, ht, e⟩ := toldLo_mem (fun t => t.rough k) hT
    rw [e]; exact ((truth_rough hh.1.2 ht).1 k x hk).1
  · obtain ⟨t, ht, e⟩ := toldHi_mem (fun t => t.rough k) hT
    rw [e]; exact ((truth_rough hh.1.2 ht).1 k x hk).2

theorem lateT_bdT {b : Bk} (h : bkOk b = true) (k : Nat) {t : Tr} (ht : t ∈ truths b) : 0 ≤ lateT b k t ∧ lateT b k t ≤ 1000 := by
  obtain ⟨_, h0, h1, h2, _⟩ := truths_ok (sound_of h) t ht
  have hd := due_bd h k
  have : 0 ≤ t.comes k ∧ t.comes k ≤ 1000 := by unfold Tr.comes; split <;> omega
  unfold lateT
  omega

theorem kind_cases {b : Bk} (hT : truths b ≠ []) :
    (kindOf b = 0 ∧ blames b = 0 ∧ blames b ≠ (truths b).length) ∨ (kindOf b = 1 ∧ 0 < blames b ∧ blames b ≠ (truths b).length) ∨ (kindOf b = 2 ∧ 0 < blames b ∧ blames b = (truths b).length) := by
  have hl : 0 < (truths b).length := List.length_pos_iff.2 hT
  unfold kindOf
  by_cases h1 : 0 < blames b
  · by_cases h2 : blames b = (truths b).length
    · right; right; rw [if_pos h1, if_pos h2]; exact ⟨rfl, h1, h2⟩
    · right; left; rw [if_pos h1, if_neg h2]; exact ⟨rfl, h1, h2⟩
  · left
    have h2 : blames b ≠ (truths b).length := by omega
    rw [if_neg h1, if_neg h2]; exact ⟨rfl, by omega, h2⟩

theorem blames_pos {b : Bk} (h : 0 < blames b) : ∃ t ∈ truths b, blamed b t = true := List.countP_pos_iff.1 h
theorem blames_all {b : Bk} (h : blames b = (truths b).length) : ∀ t ∈ truths b, blamed b t = true := List.countP_eq_length.1 h
theorem blamed_late {b : Bk} {t : Tr} (h : blamed b t = true) : 0 < lateT b (b.sts.length - 1) t := by
  unfold blamed at h
  simp only [Bool.and_eq_true, decide_eq_true_iff] at h
  exact h.1

/-- ClaimPaid's, at a book that can be true. -/
theorem paid_law {b : Bk} (h : bkOk b = true) (hT : truths b ≠ []) :
    ∃ ol oh ll lh kind pays : Int, owesS b = (ol, oh, 0) ∧ blameS b = (kind, 0) ∧ paysS b = (pays, 0) ∧ lateS b ((b.sts.length - 1 : Nat) : Int) = (ll, lh, 0) ∧
      0 ≤ ol ∧ oh ≤ b.rate * min lh (roughUp b b.sts.length) ∧ ol ≤ b.rate * ll ∧ (0 ≤ kind ∧ kind ≤ 2) ∧ (0 < kind → lh ≠ 0) ∧ (kind = 2 → ll ≠ 0) ∧ (kind = 2 → pays = ol) ∧ (kind ≠ 2 → pays = 0) ∧
      (0 ≤ ll ∧ ll ≤ 1000 ∧ 0 ≤ lh ∧ lh ≤ 1000) := by
  have hh := bkOk_head h
  have ha := ask_ok h hT (is := true) rfl
  obtain ⟨t0, ht0, e0⟩ := toldLo_mem (owesT b) hT
  obtain ⟨t1, ht1, e1⟩ := toldHi_mem (owesT b) hT
  obtain ⟨t2, ht2, e2⟩ := toldLo_mem (lateT b (b.sts.length - 1)) hT
  obtain ⟨t3, ht3, e3⟩ := toldHi_mem (lateT b (b.sts.length - 1)) hT
  have b2 := lateT_bdT h (b.sts.length - 1) ht2
  have b3 := lateT_bdT h (b.sts.length - 1) ht3
  refine ⟨toldLo (owesT b) (truths b), toldHi (owesT b) (truths b), toldLo (lateT b (b.sts.length - 1)) (truths b), toldHi (lateT b (b.sts.length - 1)) (truths b), kindOf b, if blames b = (truths b).length then toldLo (owesT b) (truths b) else 0, spanE_ok h hT rfl, by unfold blameS; rw [if_pos ha], by unfold paysS; rw [if_pos ha], spanE_ok h hT (isStage_in (by omega)), ?_, ?_, ?_, ?_, ?_, ?_, ?_, ?_, ?_⟩
  · rw [e0]
    have := lateT_bdT h (b.sts.length - 1) ht0
    have := (all_le_up h ht0).2
    exact Int.mul_nonneg hh.2.2.2.1 (by omega)
  · rw [e1]
    have := le_toldHi (lateT b (b.sts.length - 1)) ht1
    have := (all_le_up h ht1).1
    exact Int.mul_le_mul_of_nonneg_left (by omega) hh.2.2.2.1
  · refine Int.le_trans (toldLo_le (owesT b) ht2) ?_
    rw [e2]
    exact Int.mul_le_mul_of_nonneg_left (by omega) hh.2.2.2.1
  · rcases kind_cases hT with ⟨e, _⟩ | ⟨e, _⟩ | ⟨e, _⟩ <;> rw [e] <;> decide
  · intro hk
    have hb : 0 < blames b := by rcases kind_cases hT with ⟨e, _⟩ | ⟨e, h, _⟩ | ⟨e, h, _⟩ <;> first | exact h | (rw [e] at hk; omega)
    obtain ⟨t, ht, hb⟩ := blames_pos hb
    have := blamed_late hb
    have := le_toldHi (lateT b (b.sts.length - 1)) ht
    omega
  · intro hk
    have hb : blames b = (truths b).length := by rcases kind_cases hT with ⟨e, _⟩ | ⟨e, _⟩ | ⟨e, _, h⟩ <;> first | exact h | (rw [e] at hk; omega)
    have := blamed_late (blames_all hb t2 ht2)
    omega
  · intro hk
    have hb : blames b = (truths b).length := by rcases kind_cases hT with ⟨e, _⟩ | ⟨e, _⟩ | ⟨e, _, h⟩ <;> first | exact h | (rw [e] at hk; omega)
    rw [if_pos hb]
  · intro hk
    have hb : blames b ≠ (truths b).length := by rcases kind_cases hT with ⟨e, _, h⟩ | ⟨e, _, h⟩ | ⟨e, _⟩ <;> first | exact h | exact absurd e hk
    rw [if_neg hb]
  · omega

theorem paysS_bad {b : Bk} (h : bkOk b = false) : paysS b = (0, 60) := by
  unfold paysS
  rw [ask_bad h, if_neg (by decide)]
theorem paysS_false {b : Bk} (h : bkOk b = true) (hT : truths b = []) : paysS b = (0, 62) := by
  unfold paysS
  rw [ask_false h hT rfl, if_neg (by decide)]
theorem blameS_false {b : Bk} (h : bkOk b = true) (hT : truths b = []) : blameS b = (0, 62) := by
  unfold blameS
  rw [ask_false h hT rfl, if_neg (by decide)]
end Go.Proofs.YtbhjfojbjpbdbaaDoor
