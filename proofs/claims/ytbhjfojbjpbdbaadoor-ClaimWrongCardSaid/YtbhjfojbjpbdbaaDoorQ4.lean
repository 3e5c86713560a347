/-
  Plain law of ClaimDue: each stage is due some minutes later. Written by this session.
-/
import Derived.Test.YtbhjfojbjpbdbaaDoorQ3
namespace Go.Proofs.YtbhjfojbjpbdbaaDoor

def St.later (y : Int) (x : St) : St := { x with due := x.due + y }
def Bk.later (b : Bk) (y : Int) : Bk := { b with sts := b.sts.map (St.later y) }

theorem goes_later (y : Int) (cost : Int) (cks : List Ck) : ∀ (l : List St) (j : Nat) (t : Tr) (fr : Int), goes cost cks (l.map (St.later y)) j t fr = goes cost cks l j t fr
  | [], _, _, _ => rfl
  | x :: l, j, t, fr => by
    have ih := fun j t fr => goes_later y cost cks l j t fr
    simp only [List.map_cons, goes, ih]
    rfl

theorem truths_later (b : Bk) (y : Int) : truths (b.later y) = truths b := by
  unfold truths
  have hc : ∀ w, (b.later y).cost w = b.cost w := fun w => rfl
  simp only [hc, show (b.later y).wth = b.wth from rfl, show (b.later y).cks = b.cks from rfl, show (b.later y).sts = b.sts.map (St.later y) from rfl, goes_later]

theorem due_later (b : Bk) (y : Int) {k : Nat} (h : k < b.sts.length) : (b.later y).due k = b.due k + y := by
  unfold Bk.due Bk.later
  simp [List.getD_eq_getElem?_getD, h, St.later]

theorem len_later (b : Bk) (y : Int) : (b.later y).sts.length = b.sts.length := by simp [Bk.later]

theorem lateT_later (b : Bk) (y : Int) (hy : 0 ≤ y) {k : Nat} (h : k < b.sts.length) (t : Tr) : lateT (b.later y) k t = max 0 (lateT b k t - y) := by
  unfold lateT
  rw [due_later b y h]
  omega

theorem due_law {b : Bk} {y : Int} {k : Nat} (h : bkOk b = true) (hx : bkOk (b.later y) = true) (hy : 0 ≤ y) (hT : truths b ≠ []) (hk : k < b.sts.length) :
    ∃ cl ch ul uh ol oh pl ph : Int, comesS b k = (cl, ch, 0) ∧ comesS (b.later y) k = (cl, ch, 0) ∧ lateS b k = (ul, uh, 0) ∧ lateS (b.later y) k = (max 0 (ul - y), max 0 (uh - y), 0) ∧
      owesS b = (ol, oh, 0) ∧ owesS (b.later y) = (pl, ph, 0) ∧ pl ≤ ol ∧ ph ≤ oh ∧ (0 ≤ ul ∧ ul ≤ 1000 ∧ 0 ≤ uh ∧ uh ≤ 1000) ∧
      ((firstS (b.later y)).2 = 4 ∧ ((firstS b).2 = 0 ∨ (firstS b).2 = 4) ∨ (firstS (b.later y)).2 = 0 ∧ (firstS b).2 = 0 ∧ (firstS b).1 ≤ (firstS (b.later y)).1) := by
  have hh := bkOk_head h
  have hT' : truths (b.later y) ≠ [] := by rw [truths_later]; exact hT
  have hi := isStage_in hk
  have hi' : isStage (b.later y) k = true := isStage_in (by rw [len_later]; exact hk)
  obtain ⟨t2, ht2, e2⟩ := toldLo_mem (lateT b k) hT
  obtain ⟨t3, ht3, e3⟩ := toldHi_mem (lateT b k) hT
  have hle : ∀ j, j < b.sts.length → ∀ t, lateT (b.later y) j t ≤ lateT b j t := fun j hj t => by
    rw [lateT_later b y hy hj]
    have : 0 ≤ lateT b j t := by unfold lateT; omega
    omega
  have how : ∀ t, owesT (b.later y) t ≤ owesT b t := fun t => by
    unfold owesT
    rw [len_later]
    have := hle (b.sts.length - 1) (by omega) t
    exact Int.mul_le_mul_of_nonneg_left (by omega) hh.2.2.2.1
  refine ⟨_, _, toldLo (lateT b k) (truths b), toldHi (lateT b k) (truths b), _, _, _, _, spanE_ok h hT hi, ?_, spanE_ok h hT hi, ?_, spanE_ok h hT rfl, spanE_ok hx hT' rfl, ?_, ?_, ?_, ?_⟩
  · have := spanE_ok (f := fun t => t.comes (k : Int).toNat) hx hT' hi'
    rw [truths_later] at this
    exact this
  · have := spanE_ok (f := lateT (b.later y) k) hx hT' hi'
    rw [truths_later, toldLo_comp (fun a => max 0 (a - y)) (fun a c h => by omega) (fun t _ => lateT_later b y hy hk t) hT, toldHi_comp (fun a => max 0 (a - y)) (fun a c h => by omega) (fun t _ => lateT_later b y hy hk t) hT] at this
    exact this
  · rw [truths_later]
    obtain ⟨t, ht, e⟩ := toldLo_mem (owesT b) hT
    rw [e]
    exact Int.le_trans (toldLo_le _ ht) (how t)
  · rw [truths_later]
    obtain ⟨t, ht, e⟩ := toldHi_mem (owesT (b.later y)) hT
    rw [e]
    exact Int.le_trans (how t) (le_toldHi _ ht)
  · have b2 := lateT_bdT h k ht2
    have b3 := lateT_bdT h k ht3
    omega
  · rcases firstS_ok hx hT' with ⟨e, hn⟩ | ⟨q, hq, e, hp, hn⟩
    · left
      rw [e]
      refine ⟨rfl, ?_⟩
      rcases firstS_ok h hT with ⟨e, _⟩ | ⟨q, _, e, _⟩
      · rw [e]; exact .inr rfl
      · rw [e]; exact .inl rfl
    · right
      rw [len_later] at hq
      rw [truths_later] at hp
      have hp' : 0 < toldLo (lateT b q) (truths b) := by
        obtain ⟨t, ht, e⟩ := toldLo_mem (lateT b q) hT
        rw [e]
        have h1 := toldLo_le (lateT (b.later y) q) ht
        have h2 := hle q hq t
        omega
      rcases firstS_ok h hT with ⟨e', hn'⟩ | ⟨p, hp1, e', hp2, hn'⟩
      · exact absurd hp' (hn' q hq)
      · rw [e, e']
        refine ⟨rfl, rfl, ?_⟩
        show (p : Int) ≤ q
        by_cases hpq : q < p
        · exact absurd hp' (hn' q hpq)
        · omega

theorem due_false {b : Bk} {y : Int} {k : Nat} (h : bkOk b = true) (hx : bkOk (b.later y) = true) (hT : truths b = []) (hk : k < b.sts.length) :
    comesS b k = (0, 0, 62) ∧ comesS (b.later y) k = (0, 0, 62) ∧ lateS b k = (0, 0, 62) ∧ lateS (b.later y) k = (0, 0, 62) := by
  have hT' : truths (b.later y) = [] := by rw [truths_later]; exact hT
  have hi := isStage_in hk
  have hi' : isStage (b.later y) k = true := isStage_in (by rw [len_later]; exact hk)
  exact ⟨spanE_false h hT hi, spanE_false hx hT' hi', spanE_false h hT hi, spanE_false hx hT' hi'⟩
end Go.Proofs.YtbhjfojbjpbdbaaDoor
