/-
  Plain law of ClaimMore: one clock more widens nothing. Written by this session.
-/
import Derived.Test.YtbhjfojbjpbdbaaDoorK10
namespace Go.Proofs.YtbhjfojbjpbdbaaDoor

theorem picks_less : ∀ N < 4, ∀ a ∈ allPicks (N + 1), a.filter (fun q => decide (q < N)) ∈ allPicks N := by decide +kernel
theorem picks_mem_bits : ∀ n < 5, ∀ a ∈ allPicks n, ∃ s, s < 2 ^ n ∧ bitsL ((s : Nat) : Int) n = a := by decide +kernel

theorem leaveOut_snoc (a : List Nat) (c : Ck) : ∀ (l : List Ck) (k n : Nat), k + l.length = n → leaveOut a k (l ++ [c]) = leaveOut (a.filter fun q => decide (q < n)) k l ++ (if a.contains n then [] else [c])
  | [], k, n, h => by
    obtain rfl : k = n := by simpa using h
    simp only [List.nil_append, leaveOut]
  | x :: l, k, n, h => by
    simp only [List.length_cons] at h
    have hk : (a.filter fun q => decide (q < n)).contains k = a.contains k := by
      rw [Bool.eq_iff_iff]
      simp only [List.contains_iff_mem, List.mem_filter, decide_eq_true_iff]
      exact ⟨fun h => h.1, fun h2 => ⟨h2, by omega⟩⟩
    rw [List.cons_append, leaveOut, leaveOut, hk, leaveOut_snoc a c l (k + 1) n (by omega)]
    split <;> rfl

theorem way_mono {cost : Int} {ks ls : List Ck} (hs : ∀ s m, rightL ls s m = true → rightL ks s m = true) : ∀ {l : List St} {j : Nat} {t : Tr} {fr : Int} {y : Tr}, Way cost ls l j t fr y → Way cost ks l j t fr y
  | [], _, _, _, _, h => h
  | _ :: _, _, _, _, _, h => by
    obtain ⟨d, r, s, h1, h2, h3, h4, h5⟩ := h
    exact ⟨d, r, s, h1, h2, h3, hs _ _ h4, way_mono hs h5⟩

/-- fewer clocks, more truths. -/
theorem truths_mono {b : Bk} {ks : List Ck} (hs : ∀ s m, rightL b.cks s m = true → rightL ks s m = true) {t : Tr} (h : t ∈ truths b) : t ∈ truths { b with cks := ks } := by
  obtain ⟨w, h1, h2, h3⟩ := mem_truths.1 h
  refine mem_truths.2 ⟨w, h1, h2, ?_⟩
  have : Bk.cost { b with cks := ks } w = b.cost w := by unfold Bk.cost; split <;> rfl
  rw [this]
  exact way_mono hs h3

theorem with_sub {b : Bk} {c : Ck} {t : Tr} (h : t ∈ truths (b.with c)) : t ∈ truths b :=
  truths_mono (b := b.with c) (ks := b.cks) (fun s m h => by rw [show (b.with c).cks = b.cks ++ [c] from rfl, rightL_snoc] at h; simp at h; exact h.1) h

theorem with_nil {b : Bk} {c : Ck} (h : truths b = []) : truths (b.with c) = [] := by
  rcases hx : truths (b.with c) with _ | ⟨t, r⟩
  · rfl
  · have : t ∈ truths b := with_sub (c := c) (by rw [hx]; exact List.mem_cons_self)
    rw [h] at this
    cases this

theorem more_bad {b : Bk} {c : Ck} (h : bkOk b = true) (h4 : b.cks.length ≠ 4) (hc : ckOk b.sts.length c = false) : rightS (b.with c) = (false, 60) ∧ fitsS b c = (false, 61) := by
  have hx := with_ok (c := c) h h4
  rw [hc] at hx
  refine ⟨by unfold rightS; rw [if_neg (by rw [hx]; decide)], ?_⟩
  have ha : askE b (ckOk b.sts.length c) = 61 := by unfold askE; rw [if_pos h, hc]; rfl
  unfold fitsS
  rw [ha, if_neg (by decide)]

theorem more_fits {b : Bk} {c : Ck} (h : bkOk b = true) (h4 : b.cks.length ≠ 4) (hc : ckOk b.sts.length c = true) :
    rightS (b.with c) = (!(truths (b.with c)).isEmpty, 0) ∧ ((truths (b.with c) = [] ∧ fitsS b c = (false, 62)) ∨ fitsS b c = (!(truths (b.with c)).isEmpty, 0)) := by
  have hx := with_ok (c := c) h h4
  rw [hc] at hx
  refine ⟨by unfold rightS; rw [if_pos hx], ?_⟩
  by_cases hT : truths b = []
  · refine .inl ⟨with_nil hT, ?_⟩
    have ha : askE b (ckOk b.sts.length c) = 62 := ask_false h hT hc
    unfold fitsS
    rw [ha, if_neg (by decide)]
  · refine .inr ?_
    have ha : askE b (ckOk b.sts.length c) = 0 := ask_ok h hT hc
    unfold fitsS
    rw [ha, if_pos rfl]

theorem more_wrong {b : Bk} {c : Ck} (h : bkOk b = true) (h4 : b.cks.length ≠ 4) (hc : ckOk b.sts.length c = true) :
    ∃ v w, wrongS b = (v, 0) ∧ wrongS (b.with c) = (w, 0) ∧ v.length ≤ w.length ∧ w.length ≤ 4 ∧ v.length ≤ 4 := by
  have hx := with_ok (c := c) h h4
  rw [hc] at hx
  have hN : b.cks.length < 4 := by have := (bkOk_head h).2.2; omega
  have hlx : (b.with c).cks.length = b.cks.length + 1 := by simp [Bk.with]
  obtain ⟨v, ev, _, _, _, _, hmin⟩ := wrong_law h
  rcases hf : (allPicks (b.with c).cks.length).find? (canBe (b.with c)) with _ | w
  · exfalso
    obtain ⟨w, ew, _, _, _, hne, _⟩ := wrong_law hx
    have e : wrongL (b.with c) = [] := by
      unfold wrongL
      rw [show (fun l => !(truths ((b.with c).but l)).isEmpty) = canBe (b.with c) from rfl, hf]
      rfl
    have e2 : wrongS (b.with c) = (wrongL (b.with c), 0) := by unfold wrongS; rw [if_pos hx]
    rw [e2, e] at ew
    injection ew with ew _
    subst ew
    have hm : [] ∈ allPicks (b.with c).cks.length := by
      have := picks_head (b.with c).cks.length (by omega)
      rcases hp : allPicks (b.with c).cks.length with _ | ⟨x, r⟩
      · rw [hp] at this; cases this
      · rw [hp] at this; simp at this; subst this; exact List.mem_cons_self
    have := List.find?_eq_none.1 hf _ hm
    exact this (canBe_ne.2 hne)
  · have hw := List.find?_some hf
    have hm := List.mem_of_find?_eq_some hf
    have ew : wrongS (b.with c) = (w, 0) := by
      unfold wrongS wrongL
      rw [if_pos hx, show (fun l => !(truths ((b.with c).but l)).isEmpty) = canBe (b.with c) from rfl, hf]
      rfl
    have hwl : w.length ≤ 4 := by
      obtain ⟨s, _, rfl⟩ := picks_mem_bits _ (by omega) w hm
      exact Nat.le_trans (List.length_filter_le _ _) (by simp; omega)
    have hm' := picks_less b.cks.length hN w (by rw [hlx] at hm; exact hm)
    obtain ⟨s, hs, hse⟩ := picks_mem_bits _ (by omega) _ hm'
    have hcan : truths (b.but (bitsL ((s : Nat) : Int) b.cks.length)) ≠ [] := by
      intro hnil
      rw [hse] at hnil
      obtain ⟨t, r, ht⟩ := List.exists_cons_of_ne_nil (canBe_ne.1 hw)
      have hmem : t ∈ truths ((b.with c).but w) := by rw [ht]; exact List.mem_cons_self
      have hsub := truths_mono (b := (b.with c).but w) (ks := leaveOut (w.filter fun q => decide (q < b.cks.length)) 0 b.cks) (fun s m hr => by
        have e : ((b.with c).but w).cks = leaveOut (w.filter fun q => decide (q < b.cks.length)) 0 b.cks ++ (if w.contains b.cks.length then [] else [c]) := leaveOut_snoc w c b.cks 0 _ (Nat.zero_add _)
        rw [e] at hr
        unfold rightL at hr ⊢
        rw [List.all_append, Bool.and_eq_true] at hr
        exact hr.1) hmem
      have : t ∈ truths (b.but (w.filter fun q => decide (q < b.cks.length))) := hsub
      rw [hnil] at this
      cases this
    have hvl : v.length ≤ 4 := by
      have e2 : wrongS b = (wrongL b, 0) := by unfold wrongS; rw [if_pos h]
      rw [e2] at ev
      injection ev with ev _
      rw [← ev]
      unfold wrongL
      rcases hfb : (allPicks b.cks.length).find? (fun l => !(truths (b.but l)).isEmpty) with _ | z
      · simp
      · obtain ⟨s, _, rfl⟩ := picks_mem_bits _ (by omega) z (List.mem_of_find?_eq_some hfb)
        exact Nat.le_trans (List.length_filter_le _ _) (by simp; omega)
    refine ⟨v, w, ev, ew, ?_, hwl, hvl⟩
    apply Classical.byContradiction
    intro hlt
    refine hcan (hmin s hs ?_)
    rw [hse]
    have h1 : (w.filter fun q => decide (q < b.cks.length)).length ≤ w.length := List.length_filter_le _ _
    unfold fewerL
    rw [if_neg (by omega)]
    simp
    omega

theorem told_sub {f g : Tr → Int} {l m : List Tr} (hm : m ≠ []) (hs : ∀ t ∈ m, t ∈ l) (hfg : ∀ t ∈ m, g t = f t) : toldLo f l ≤ toldLo g m ∧ toldHi g m ≤ toldHi f l := by
  obtain ⟨t, ht, e⟩ := toldLo_mem g hm
  obtain ⟨u, hu, e'⟩ := toldHi_mem g hm
  rw [e, e', hfg t ht, hfg u hu]
  exact ⟨toldLo_le f (hs t ht), le_toldHi f (hs u hu)⟩

/-- what is told of a book and of that with one clock more, if it can be true. -/
theorem more_law {b : Bk} {c : Ck} {k : Nat} (h : bkOk b = true) (h4 : b.cks.length ≠ 4) (hc : ckOk b.sts.length c = true) (hT : truths (b.with c) ≠ []) (hk : k < b.sts.length) :
    (∃ a1 a2 a3 a4, comesS b k = (a1, a2, 0) ∧ comesS (b.with c) k = (a3, a4, 0) ∧ a1 ≤ a3 ∧ a4 ≤ a2) ∧
    (∃ a1 a2 a3 a4, lateS b k = (a1, a2, 0) ∧ lateS (b.with c) k = (a3, a4, 0) ∧ a1 ≤ a3 ∧ a4 ≤ a2) ∧
    (∃ a1 a2 a3 a4, roughS b k = (a1, a2, 0) ∧ roughS (b.with c) k = (a3, a4, 0) ∧ a1 ≤ a3 ∧ a4 ≤ a2) ∧
    (∃ a1 a2 a3 a4, owesS b = (a1, a2, 0) ∧ owesS (b.with c) = (a3, a4, 0) ∧ a1 ≤ a3 ∧ a4 ≤ a2) ∧
    (∃ q r, blameS b = (q, 0) ∧ blameS (b.with c) = (r, 0) ∧ (q = 1 ∨ r = q)) ∧
    (∃ q r : Nat, weatherS b = ((q : Int), 0) ∧ weatherS (b.with c) = ((r : Int), 0) ∧ q < 8 ∧ r < 8 ∧ ∀ u < 3, bitOf ((r : Nat) : Int) u = true → bitOf ((q : Nat) : Int) u = true) ∧
    (∃ q r, paysS b = (q, 0) ∧ paysS (b.with c) = (r, 0) ∧ q ≤ r) := by
  have hx := with_ok (c := c) h h4
  rw [hc] at hx
  have hTb : truths b ≠ [] := fun e => hT (with_nil e)
  have hkx : k < (b.with c).sts.length := hk
  have hsub : ∀ t ∈ truths (b.with c), t ∈ truths b := fun t ht => with_sub ht
  have ab := ask_ok h hTb (is := true) rfl
  have ax := ask_ok hx hT (is := true) rfl
  have sp := fun {F G : Tr → Int} (e : ∀ t, G t = F t) => told_sub (f := F) (g := G) hT hsub (fun t _ => e t)
  have hbl : ∀ t, blamed (b.with c) t = blamed b t := fun _ => rfl
  have hkc := kind_cases hTb
  have hkx2 := kind_cases hT
  have hnone : blames b = 0 → blames (b.with c) = 0 := by
    unfold blames
    rw [List.countP_eq_zero, List.countP_eq_zero]
    intro hz t ht
    rw [hbl]
    exact hz t (hsub t ht)
  have hallb : blames b = (truths b).length → blames (b.with c) = (truths (b.with c)).length := by
    unfold blames
    rw [List.countP_eq_length, List.countP_eq_length]
    intro hz t ht
    rw [hbl]
    exact hz t (hsub t ht)
  refine ⟨⟨_, _, _, _, spanE_ok h hTb (isStage_in hk), spanE_ok hx hT (isStage_in hkx), sp fun _ => rfl⟩, ⟨_, _, _, _, spanE_ok h hTb (isStage_in hk), spanE_ok hx hT (isStage_in hkx), sp fun _ => rfl⟩,
    ⟨_, _, _, _, spanE_ok h hTb (isStage_in hk), spanE_ok hx hT (isStage_in hkx), sp fun _ => rfl⟩, ⟨_, _, _, _, spanE_ok h hTb rfl, spanE_ok hx hT rfl, sp fun _ => rfl⟩, ?_, ?_, ?_⟩
  · refine ⟨kindOf b, kindOf (b.with c), by unfold blameS; rw [if_pos ab], by unfold blameS; rw [if_pos ax], ?_⟩
    rcases hkc with ⟨e, e1, e2⟩ | ⟨e, e1, e2⟩ | ⟨e, e1, e2⟩
    · have z := hnone e1
      rcases hkx2 with ⟨e', f1, f2⟩ | ⟨e', f1, f2⟩ | ⟨e', f1, f2⟩ <;> omega
    · omega
    · have z := hallb e2
      have hp := List.length_pos_iff.2 hT
      rcases hkx2 with ⟨e', f1, f2⟩ | ⟨e', f1, f2⟩ | ⟨e', f1, f2⟩ <;> omega
  · obtain ⟨q8, qb⟩ := weathers_spec (sound_of h)
    obtain ⟨r8, rb⟩ := weathers_spec (sound_of hx)
    refine ⟨weathers (truths b), weathers (truths (b.with c)), by unfold weatherS; rw [if_pos ab], by unfold weatherS; rw [if_pos ax], q8, r8, fun u hu hr => ?_⟩
    obtain ⟨t, ht, e⟩ := (rb u hu).1 hr
    exact (qb u hu).2 ⟨t, hsub t ht, e⟩
  · refine ⟨_, _, by unfold paysS; rw [if_pos ab], by unfold paysS; rw [if_pos ax], ?_⟩
    have hown := (sp (F := owesT b) (G := owesT (b.with c)) fun _ => rfl).1
    by_cases e2 : blames b = (truths b).length
    · rw [if_pos e2, if_pos (hallb e2)]
      exact hown
    · rw [if_neg e2]
      split
      · obtain ⟨t, ht, e⟩ := toldLo_mem (owesT (b.with c)) hT
        rw [e]
        have hto := truths_ok (sound_of hx) t ht
        have hr := (bds_of hx).rate
        have hl := lateT_bdT hx ((b.with c).sts.length - 1) ht
        have ha : 0 ≤ t.all := by obtain ⟨_, _, _, _, h1, h2, h3⟩ := hto; unfold Tr.all; omega
        unfold owesT
        exact Int.mul_nonneg hr.1 (by omega)
      · omega
end Go.Proofs.YtbhjfojbjpbdbaaDoor
