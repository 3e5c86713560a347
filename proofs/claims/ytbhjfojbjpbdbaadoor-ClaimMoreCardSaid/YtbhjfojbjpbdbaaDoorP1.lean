/-
  Plain laws on valid books: bounds, how many truths there are, and that their numbers are small. Written by this session.
-/
import Derived.Test.YtbhjfojbjpbdbaaDoorK1
namespace Go.Proofs.YtbhjfojbjpbdbaaDoor

theorem stsOk_mem : ∀ (l : List St) (d : Int), stsOk d l = true → ∀ x ∈ l, (d + 1 ≤ x.due ∧ x.due ≤ 300) ∧ spanOk x.dl x.dh 1 90 2 = true ∧ spanOk x.rl x.rh 0 30 2 = true ∧ spanOk x.sl x.sh 0 20 1 = true
  | [], _, _, x, hx => by cases hx
  | y :: l, d, h, x, hx => by
    simp only [stsOk, stOk, Bool.and_eq_true, within, decide_eq_true_iff] at h
    rcases List.mem_cons.1 hx with rfl | hx
    · exact ⟨⟨by omega, by omega⟩, h.1.1.1.2, h.1.1.2, h.1.2⟩
    · obtain ⟨h1, h2⟩ := stsOk_mem l y.due h.2 x hx
      exact ⟨⟨by omega, h1.2⟩, h2⟩

theorem spanOk_iff {a b lo hi wide : Int} (h : spanOk a b lo hi wide = true) : lo ≤ a ∧ a ≤ b ∧ b ≤ hi ∧ b - a ≤ wide := by
  simp only [spanOk, Bool.and_eq_true, decide_eq_true_iff] at h
  omega

theorem bkOk_head {b : Bk} (h : bkOk b = true) : (1 ≤ b.sts.length ∧ b.sts.length ≤ 3) ∧ (1 ≤ b.wth ∧ b.wth ≤ 7) ∧ b.cks.length ≤ 4 ∧ (0 ≤ b.rate ∧ b.rate ≤ 99) := by
  simp only [bkOk, headOk, within, Bool.and_eq_true, decide_eq_true_iff] at h
  omega
theorem bkOk_costs {b : Bk} (h : bkOk b = true) : ∀ k, 0 ≤ b.cost k ∧ b.cost k ≤ 30 := by
  simp only [bkOk, costsOk, within, Bool.and_eq_true, decide_eq_true_iff] at h
  intro k
  unfold Bk.cost
  split <;> omega
theorem bkOk_sts {b : Bk} (h : bkOk b = true) : ∀ x ∈ b.sts, (1 ≤ x.due ∧ x.due ≤ 300) ∧ (1 ≤ x.dl ∧ x.dl ≤ x.dh ∧ x.dh ≤ 90 ∧ x.dh - x.dl ≤ 2) ∧ (0 ≤ x.rl ∧ x.rl ≤ x.rh ∧ x.rh ≤ 30 ∧ x.rh - x.rl ≤ 2) ∧ (0 ≤ x.sl ∧ x.sl ≤ x.sh ∧ x.sh ≤ 20 ∧ x.sh - x.sl ≤ 1) := by
  simp only [bkOk, Bool.and_eq_true] at h
  intro x hx
  obtain ⟨h1, h2, h3, h4⟩ := stsOk_mem _ _ h.1.1.2 x hx
  exact ⟨by omega, spanOk_iff h2, spanOk_iff h3, spanOk_iff h4⟩
theorem bkOk_cks {b : Bk} (h : bkOk b = true) : CksOk b.cks := by
  have hh := bkOk_head h
  simp only [bkOk, Bool.and_eq_true] at h
  intro c hc
  have := List.all_eq_true.1 h.2 c hc
  simp only [ckOk, within, Bool.and_eq_true, decide_eq_true_iff] at this
  omega

theorem due_bd {b : Bk} (h : bkOk b = true) (j : Nat) : 0 ≤ b.due j ∧ b.due j ≤ 300 := by
  unfold Bk.due
  rw [List.getD_eq_getElem?_getD]
  rcases hx : (b.sts.map St.due)[j]? with _ | d
  · simp
  · rw [List.getElem?_map] at hx
    rcases hy : b.sts[j]? with _ | x
    · rw [hy] at hx; cases hx
    · rw [hy] at hx
      simp at hx
      have := (bkOk_sts h x (List.mem_of_getElem? hy)).1
      simp
      omega

theorem bds_of {b : Bk} (h : bkOk b = true) : Bds b := by
  have hh := bkOk_head h
  exact ⟨hh.1.1, hh.1.2, fun j => by have := due_bd h j; omega, hh.2.2.2⟩

theorem leaveOut_mem : ∀ (l : List Ck) (but : List Nat) (k : Nat) (c : Ck), c ∈ leaveOut but k l → c ∈ l
  | [], _, _, c, h => by simp [leaveOut] at h
  | x :: l, but, k, c, h => by
    simp only [leaveOut] at h
    split at h
    · exact List.mem_cons_of_mem _ (leaveOut_mem l but (k + 1) c h)
    · rcases List.mem_cons.1 h with rfl | h
      · exact List.mem_cons_self
      · exact List.mem_cons_of_mem _ (leaveOut_mem l but (k + 1) c h)
theorem leaveOut_len : ∀ (l : List Ck) (but : List Nat) (k : Nat), (leaveOut but k l).length ≤ l.length
  | [], _, _ => Nat.le_refl _
  | x :: l, but, k => by
    have := leaveOut_len l but (k + 1)
    simp only [leaveOut]
    split <;> simp <;> omega
theorem leaveOut_nil : ∀ (l : List Ck) (k : Nat), leaveOut [] k l = l
  | [], _ => rfl
  | x :: l, k => by simp [leaveOut, leaveOut_nil l (k + 1)]
theorem but_nil (b : Bk) : b.but [] = b := by simp [Bk.but, leaveOut_nil]

/-- the book is valid but for its clocks' number. -/
structure Sound (b : Bk) : Prop where
  sts : ∀ x ∈ b.sts, (1 ≤ x.due ∧ x.due ≤ 300) ∧ (1 ≤ x.dl ∧ x.dl ≤ x.dh ∧ x.dh ≤ 90 ∧ x.dh - x.dl ≤ 2) ∧ (0 ≤ x.rl ∧ x.rl ≤ x.rh ∧ x.rh ≤ 30 ∧ x.rh - x.rl ≤ 2) ∧ (0 ≤ x.sl ∧ x.sl ≤ x.sh ∧ x.sh ≤ 20 ∧ x.sh - x.sl ≤ 1)
  bd : Bds b
  co : ∀ k, 0 ≤ b.cost k ∧ b.cost k ≤ 30
  ck : CksOk b.cks
  nc : b.cks.length ≤ 1000
  wt : 1 ≤ b.wth ∧ b.wth ≤ 7

theorem sound_of {b : Bk} (h : bkOk b = true) : Sound b := ⟨bkOk_sts h, bds_of h, bkOk_costs h, bkOk_cks h, by have := bkOk_head h; omega, (bkOk_head h).2.1⟩
theorem Sound.but {b : Bk} (h : Sound b) (l : List Nat) : Sound (b.but l) :=
  ⟨h.sts, ⟨h.bd.l1, h.bd.l3, h.bd.due, h.bd.rate⟩, h.co, fun c hc => h.ck c (leaveOut_mem _ _ _ c hc), Nat.le_trans (leaveOut_len _ _ _) h.nc, h.wt⟩
theorem Sound.with {b : Bk} (h : Sound b) {c : Ck} (hc : (0 ≤ c.st ∧ c.st ≤ 2) ∧ (0 ≤ c.rd ∧ c.rd ≤ 600) ∧ (0 ≤ c.er ∧ c.er ≤ 5)) (hn : b.cks.length ≤ 900) : Sound (b.with c) :=
  ⟨h.sts, ⟨h.bd.l1, h.bd.l3, h.bd.due, h.bd.rate⟩, h.co, fun x hx => by
    rcases List.mem_append.1 hx with hx | hx
    · exact h.ck x hx
    · simp at hx; subst hx; exact hc, by simp [Bk.with]; omega, h.wt⟩
theorem Sound.big {b : Bk} (h : Sound b) : Big b :=
  ⟨h.bd, h.ck, h.nc, fun x hx => by have := h.sts x hx; omega, h.co⟩

theorem flatMap_len {α β : Type} (f : α → List β) (c : Nat) : ∀ (l : List α), (∀ x ∈ l, (f x).length ≤ c) → (l.flatMap f).length ≤ l.length * c
  | [], _ => by simp
  | x :: l, h => by
    have h1 := flatMap_len f c l (fun y hy => h y (List.mem_cons_of_mem _ hy))
    have h2 := h x List.mem_cons_self
    simp only [List.flatMap_cons, List.length_append, List.length_cons, Nat.add_mul]
    omega

theorem upto_len (lo hi : Int) : (upto lo hi).length = (hi - lo + 1).toNat := by simp [upto]
theorem upto_mem {lo hi n : Int} : n ∈ upto lo hi ↔ lo ≤ n ∧ n ≤ hi := by
  simp only [upto, List.mem_map, List.mem_range]
  constructor
  · rintro ⟨i, hi, rfl⟩; omega
  · rintro ⟨h1, h2⟩; exact ⟨(n - lo).toNat, by omega, by omega⟩

theorem goes_len (cost : Int) (cks : List Ck) : ∀ (l : List St) (j : Nat) (t : Tr) (fr : Int), (∀ x ∈ l, x.dh - x.dl ≤ 2 ∧ x.rh - x.rl ≤ 2 ∧ x.sh - x.sl ≤ 1) → (goes cost cks l j t fr).length ≤ 18 ^ l.length
  | [], _, _, _, _ => by simp [goes]
  | x :: l, j, t, fr, h => by
    have hx := h x List.mem_cons_self
    have ih := fun j t fr => goes_len cost cks l j t fr (fun y hy => h y (List.mem_cons_of_mem _ hy))
    simp only [goes, List.length_cons]
    have h3 : ∀ d r, (if rightL cks j (fr + d + r + cost) then (upto x.sl x.sh).flatMap fun s => goes cost cks l (j + 1) (t.put j (fr + d + r + cost) r) (fr + d + r + cost + s) else []).length ≤ 2 * 18 ^ l.length := by
      intro d r
      split
      · refine Nat.le_trans (flatMap_len _ (18 ^ l.length) _ (fun s _ => ih _ _ _)) (Nat.mul_le_mul_right _ ?_)
        rw [upto_len]; omega
      · simp
    have h2 : ∀ d, ((upto x.rl x.rh).flatMap fun r => if rightL cks j (fr + d + r + cost) then (upto x.sl x.sh).flatMap fun s => goes cost cks l (j + 1) (t.put j (fr + d + r + cost) r) (fr + d + r + cost + s) else []).length ≤ 3 * (2 * 18 ^ l.length) := by
      intro d
      refine Nat.le_trans (flatMap_len _ _ _ (fun r _ => h3 d r)) (Nat.mul_le_mul_right _ ?_)
      rw [upto_len]; omega
    refine Nat.le_trans (Nat.le_trans (flatMap_len _ _ _ (fun d _ => h2 d)) (Nat.mul_le_mul_right _ (show _ ≤ 3 by rw [upto_len]; omega))) ?_
    rw [Nat.pow_succ]
    omega

theorem truths_len {b : Bk} (h : Sound b) : (truths b).length ≤ 20000 := by
  have hp : 18 ^ b.sts.length ≤ 18 ^ 3 := Nat.pow_le_pow_right (by omega) h.bd.l3
  refine Nat.le_trans (flatMap_len _ (18 ^ 3) _ (fun w _ => ?_)) (by simp)
  split
  · exact Nat.le_trans (goes_len _ _ _ _ _ _ (fun x hx => by have := h.sts x hx; omega)) hp
  · simp

theorem goes_ok (cost : Int) (hc : 0 ≤ cost ∧ cost ≤ 30) (cks : List Ck) : ∀ (l : List St) (j : Nat) (t : Tr) (fr : Int), j + l.length ≤ 3 → TrOk t → (0 ≤ fr ∧ fr ≤ 170 * j) →
    (∀ x ∈ l, (1 ≤ x.dl ∧ x.dl ≤ x.dh ∧ x.dh ≤ 90) ∧ (0 ≤ x.rl ∧ x.rl ≤ x.rh ∧ x.rh ≤ 30) ∧ (0 ≤ x.sl ∧ x.sl ≤ x.sh ∧ x.sh ≤ 20)) → ∀ y ∈ goes cost cks l j t fr, TrOk y
  | [], _, t, _, _, ht, _, _, y, hy => by simp [goes] at hy; subst hy; exact ht
  | x :: l, j, t, fr, hj, ht, hf, h, y, hy => by
    have hx := h x List.mem_cons_self
    simp only [List.length_cons] at hj
    simp only [goes, List.mem_flatMap] at hy
    obtain ⟨d, hd, r, hr, hy⟩ := hy
    rw [upto_mem] at hd hr
    split at hy
    · rw [List.mem_flatMap] at hy
      obtain ⟨s, hs, hy⟩ := hy
      rw [upto_mem] at hs
      exact goes_ok cost hc cks l (j + 1) _ _ (by omega) (put_ok ht (by omega) (by omega)) (by omega) (fun z hz => h z (List.mem_cons_of_mem _ hz)) y hy
    · cases hy

theorem truths_ok {b : Bk} (h : Sound b) : ∀ t ∈ truths b, TrOk t := by
  intro t ht
  simp only [truths, List.mem_flatMap, List.mem_range] at ht
  obtain ⟨w, hw, ht⟩ := ht
  split at ht
  · exact goes_ok _ (h.co w) _ _ 0 _ 0 (by have := h.bd.l3; omega) (by simp [Tr.start, TrOk]; omega) (by omega) (fun x hx => by have := h.sts x hx; omega) t ht
  · cases ht
end Go.Proofs.YtbhjfojbjpbdbaaDoor
