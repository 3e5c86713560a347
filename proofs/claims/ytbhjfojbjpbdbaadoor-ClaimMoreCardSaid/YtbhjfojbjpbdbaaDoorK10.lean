/-
  Merged: Q7, Q8, Q9. Written by sessions of this seat.
-/
import Derived.Test.YtbhjfojbjpbdbaaDoorB9

-- Q7: Plain law of ClaimWrong: the clocks that must be wrong. Written by a session.
namespace Go.Proofs.YtbhjfojbjpbdbaaDoor

theorem picks_order : ∀ N < 5, (allPicks N).Pairwise (fun l m => fewerL l m = true ∧ fewerL m l = false) := by decide +kernel
theorem picks_each : ∀ N < 5, ∀ l ∈ allPicks N, fewerL l l = false ∧ l.Pairwise (· < ·) ∧ ∀ x ∈ l, x < N := by decide +kernel
theorem picks_bits : ∀ N < 5, ∀ s < 2 ^ N, bitsL ((s : Nat) : Int) N ∈ allPicks N := by decide +kernel
theorem picks_head : ∀ N < 5, (allPicks N).head? = some [] := by decide +kernel
theorem picks_all : ∀ N < 5, List.range N ∈ allPicks N := by decide +kernel

theorem leaveOut_all : ∀ (l : List Ck) (but : List Nat) (k : Nat), (∀ i, i < l.length → but.contains (k + i) = true) → leaveOut but k l = []
  | [], _, _, _ => rfl
  | c :: l, but, k, h => by
    have h0 := h 0 (by simp)
    rw [Nat.add_zero] at h0
    simp only [leaveOut, h0, if_true]
    exact leaveOut_all l but (k + 1) fun i hi => by
      have := h (i + 1) (by simpa using hi)
      rwa [show k + (i + 1) = k + 1 + i by omega] at this

theorem but_ok {b : Bk} (h : bkOk b = true) (l : List Nat) : bkOk (b.but l) = true := by
  simp only [bkOk, headOk, Bool.and_eq_true] at h ⊢
  obtain ⟨⟨⟨h1, h2⟩, h3⟩, h4⟩ := h
  refine ⟨⟨⟨⟨⟨h1.1.1, ?_⟩, h1.2⟩, h2⟩, h3⟩, ?_⟩
  · have := leaveOut_len b.cks l 0
    have h5 := h1.1.2
    simp only [decide_eq_true_iff] at h5 ⊢
    show ((leaveOut l 0 b.cks).length : Int) ≤ 4
    omega
  · rw [List.all_eq_true] at h4 ⊢
    exact fun c hc => h4 c (leaveOut_mem _ _ _ _ hc)

theorem canBe_ne {b : Bk} {l : List Nat} : canBe b l = true ↔ truths (b.but l) ≠ [] := by
  unfold canBe
  cases h : truths (b.but l) <;> simp

theorem wrong_law {b : Bk} (h : bkOk b = true) : ∃ w, wrongS b = (w, 0) ∧ w.Pairwise (· < ·) ∧ (∀ x ∈ w, x < b.cks.length) ∧ (w.length = 0 ↔ truths b ≠ []) ∧ truths (b.but w) ≠ [] ∧
    ∀ s : Nat, s < 2 ^ b.cks.length → fewerL (bitsL ((s : Nat) : Int) b.cks.length) w = true → truths (b.but (bitsL ((s : Nat) : Int) b.cks.length)) = [] := by
  have hN : b.cks.length < 5 := by have := bkOk_head h; omega
  have hall : canBe b (List.range b.cks.length) = true := by
    rw [canBe_ne]
    have e : b.but (List.range b.cks.length) = b.bare := by
      unfold Bk.but Bk.bare
      rw [leaveOut_all b.cks _ 0 (fun i hi => by simp; omega)]
    rw [e]
    exact bare_ne h
  rcases hf : (allPicks b.cks.length).find? (canBe b) with _ | w
  · have := List.find?_eq_none.1 hf _ (picks_all _ hN)
    exact absurd hall this
  · have hw := List.find?_some hf
    have hm := List.mem_of_find?_eq_some hf
    obtain ⟨hww, hinc, hlt⟩ := picks_each _ hN w hm
    refine ⟨w, ?_, hinc, hlt, ?_, canBe_ne.1 hw, ?_⟩
    · unfold wrongS
      rw [if_pos h]
      show (wrongL b, (0 : Int)) = _
      have : wrongL b = w := by
        unfold wrongL
        rw [show (fun l => !(truths (b.but l)).isEmpty) = canBe b from rfl, hf]
        rfl
      rw [this]
    · constructor
      · intro h0
        have : w = [] := List.eq_nil_of_length_eq_zero h0
        subst this
        have := canBe_ne.1 hw
        rwa [but_nil] at this
      · intro hT
        have hc : canBe b [] = true := by rw [canBe_ne, but_nil]; exact hT
        have hh := picks_head _ hN
        rcases hp : allPicks b.cks.length with _ | ⟨x, r⟩
        · rw [hp] at hh; cases hh
        · rw [hp] at hh hf
          simp at hh
          subst hh
          rw [List.find?_cons_of_pos hc] at hf
          injection hf with e
          rw [← e]; rfl
    · intro s hs hfw
      have hmem := picks_bits _ hN s hs
      rcases hcb : canBe b (bitsL ((s : Nat) : Int) b.cks.length) with _ | _
      · have : ¬ truths (b.but (bitsL ((s : Nat) : Int) b.cks.length)) ≠ [] := fun hne => by
          rw [canBe_ne.2 hne] at hcb; cases hcb
        exact Classical.byContradiction this
      · exfalso
        obtain ⟨_, l1, l2, hl, has⟩ := List.find?_eq_some_iff_append.1 hf
        have hpw := picks_order _ hN
        rw [hl] at hmem hpw
        rcases List.mem_append.1 hmem with hin | hin
        · have := has _ hin
          rw [hcb] at this
          simp at this
        · rcases List.mem_cons.1 hin with e | hin
          · rw [e, hww] at hfw; cases hfw
          · have := (List.pairwise_append.1 hpw).2.1
            have := (List.pairwise_cons.1 this).1 _ hin
            rw [this.2] at hfw; cases hfw
end Go.Proofs.YtbhjfojbjpbdbaaDoor

-- Q8: Plain law: what a clock more leaves of the truths of a book; the weathers. Written by a session.
namespace Go.Proofs.YtbhjfojbjpbdbaaDoor

theorem rightL_snoc (cks : List Ck) (c : Ck) (s m : Int) : rightL (cks ++ [c]) s m = (rightL cks s m && clockOk s m c) := by simp [rightL]

/-- does a clock suit a truth? -/
def suits (c : Ck) (k : Nat) (y : Tr) : Bool := within (c.rd - y.comes k) (-c.er) c.er

theorem way_with {cost : Int} {cks : List Ck} {c : Ck} {k : Nat} (hk : c.st = (k : Int)) : ∀ {l : List St} {j : Nat} {t : Tr} {fr : Int} {y : Tr}, j + l.length ≤ 3 →
    (Way cost (cks ++ [c]) l j t fr y ↔ Way cost cks l j t fr y ∧ (j ≤ k → k < j + l.length → suits c k y = true))
  | [], j, t, fr, y, hj => by
    simp only [Way, List.length_nil]
    exact ⟨fun h => ⟨h, fun h1 h2 => by omega⟩, fun h => h.1⟩
  | x :: l, j, t, fr, y, hj => by
    simp only [List.length_cons] at hj
    simp only [Way, List.length_cons]
    constructor
    · rintro ⟨d, r, s, hd, hr, hs, hR, hy⟩
      rw [rightL_snoc, Bool.and_eq_true] at hR
      obtain ⟨hy1, hy2⟩ := (way_with hk (by omega)).1 hy
      refine ⟨⟨d, r, s, hd, hr, hs, hR.1, hy1⟩, fun h1 h2 => ?_⟩
      by_cases e : j = k
      · subst e
        have hc0 := ((way_frame (by omega) hy1).2 j (by omega) (by omega)).2
        have p0 := (put_rough_same t j (fr + d + r + cost) r (by omega)).2
        have h3 := hR.2
        unfold clockOk at h3
        rw [hk] at h3
        unfold suits
        rw [hc0, p0]
        simpa using h3
      · exact hy2 (by omega) (by omega)
    · rintro ⟨⟨d, r, s, hd, hr, hs, hR, hy⟩, hsu⟩
      refine ⟨d, r, s, hd, hr, hs, ?_, (way_with hk (by omega)).2 ⟨hy, fun h1 h2 => hsu (by omega) (by omega)⟩⟩
      rw [rightL_snoc, Bool.and_eq_true]
      refine ⟨hR, ?_⟩
      unfold clockOk
      rw [hk]
      by_cases e : j = k
      · subst e
        have hc0 := ((way_frame (by omega) hy).2 j (by omega) (by omega)).2
        have p0 := (put_rough_same t j (fr + d + r + cost) r (by omega)).2
        have h3 := hsu (Nat.le_refl _) (by omega)
        unfold suits at h3
        rw [hc0, p0] at h3
        simpa using h3
      · have : ¬ ((k : Int) = (j : Int)) := by omega
        simp [this]

theorem mem_with {b : Bk} {c : Ck} {k : Nat} (hk : c.st = (k : Int)) (hl : b.sts.length ≤ 3) (hkl : k < b.sts.length) {y : Tr} : y ∈ truths (b.with c) ↔ y ∈ truths b ∧ suits c k y = true := by
  rw [mem_truths, mem_truths]
  have key : ∀ w, Way ((b.with c).cost w) (b.with c).cks (b.with c).sts 0 (Tr.start w) 0 y ↔ Way (b.cost w) b.cks b.sts 0 (Tr.start w) 0 y ∧ (0 ≤ k → k < 0 + b.sts.length → suits c k y = true) := fun w => way_with hk (by rw [Nat.zero_add]; exact hl)
  constructor
  · rintro ⟨w, hw, hb, hy⟩
    obtain ⟨h1, h2⟩ := (key w).1 hy
    exact ⟨⟨w, hw, hb, h1⟩, h2 (Nat.zero_le _) (by omega)⟩
  · rintro ⟨⟨w, hw, hb, hy⟩, hs⟩
    exact ⟨w, hw, hb, (key w).2 ⟨hy, fun _ _ => hs⟩⟩

theorem with_ok {b : Bk} {c : Ck} (h : bkOk b = true) (h4 : b.cks.length ≠ 4) : bkOk (b.with c) = ckOk b.sts.length c := by
  have hh := bkOk_head h
  have hlen : (b.with c).cks.length = b.cks.length + 1 := by simp [Bk.with]
  have hall : (b.with c).cks.all (ckOk b.sts.length) = (b.cks.all (ckOk b.sts.length) && ckOk b.sts.length c) := by simp [Bk.with]
  simp only [bkOk, headOk, Bool.and_eq_true, decide_eq_true_iff] at h
  obtain ⟨⟨⟨⟨⟨⟨h1, h2⟩, h3⟩, h5⟩, h6⟩, h7⟩, h8⟩ := h
  unfold bkOk headOk
  rw [hlen]
  show (within b.sts.length 1 3 && within b.wth 1 7 && decide (((b.cks.length + 1 : Nat) : Int) ≤ 4) && within b.rate 0 99 && stsOk 0 b.sts && costsOk b && (b.with c).cks.all (ckOk b.sts.length)) = ckOk b.sts.length c
  rw [hall, h1, h2, h5, h6, h7, h8, show decide (((b.cks.length + 1 : Nat) : Int) ≤ 4) = true by rw [decide_eq_true_iff]; omega]
  simp

theorem ckOk_stage {b : Bk} {c : Ck} (h : ckOk b.sts.length c = true) : ∃ k : Nat, c.st = (k : Int) ∧ k < b.sts.length := by
  simp only [ckOk, within, Bool.and_eq_true, decide_eq_true_iff] at h
  exact ⟨c.st.toNat, by omega, by omega⟩

/-- the weathers as a set. -/
theorem weathers_bit : ∀ (l : List Tr) (s : Nat), (∀ t ∈ l, 0 ≤ t.w ∧ t.w ≤ 2) → s < 8 → ∃ r, l.foldl (fun s t => s ||| (1 <<< t.w.toNat)) s = r ∧ r < 8 ∧ ∀ w < 3, (r.testBit w = true ↔ s.testBit w = true ∨ ∃ t ∈ l, t.w = (w : Int))
  | [], s, _, hs => ⟨s, rfl, hs, fun w _ => by simp⟩
  | t :: l, s, ht, hs => by
    have h0 := ht t List.mem_cons_self
    have key : ∀ s < 8, ∀ v < 3, (s ||| (1 <<< v)) < 8 ∧ ∀ w < 3, ((s ||| (1 <<< v)).testBit w = true ↔ s.testBit w = true ∨ v = w) := by decide +kernel
    obtain ⟨k1, k2⟩ := key s hs t.w.toNat (by omega)
    obtain ⟨r, e, hr, hw⟩ := weathers_bit l (s ||| (1 <<< t.w.toNat)) (fun x hx => ht x (List.mem_cons_of_mem _ hx)) k1
    refine ⟨r, e, hr, fun w h3 => ?_⟩
    rw [hw w h3, k2 w h3]
    constructor
    · rintro ((h | h) | ⟨x, hx, h⟩)
      · exact .inl h
      · exact .inr ⟨t, List.mem_cons_self, by omega⟩
      · exact .inr ⟨x, List.mem_cons_of_mem _ hx, h⟩
    · rintro (h | ⟨x, hx, h⟩)
      · exact .inl (.inl h)
      · rcases List.mem_cons.1 hx with rfl | hx
        · exact .inl (.inr (by omega))
        · exact .inr ⟨x, hx, h⟩

theorem bitOf_test : ∀ s < 8, ∀ w < 3, bitOf ((s : Nat) : Int) w = s.testBit w := by decide +kernel

theorem weathers_spec {b : Bk} (h : Sound b) : weathers (truths b) < 8 ∧ ∀ w < 3, (bitOf ((weathers (truths b) : Nat) : Int) w = true ↔ ∃ t ∈ truths b, t.w = (w : Int)) := by
  obtain ⟨r, e, hr, hw⟩ := weathers_bit (truths b) 0 (fun t ht => (truths_ok h t ht).1) (by decide)
  have e' : weathers (truths b) = r := e
  rw [e']
  refine ⟨hr, fun w h3 => ?_⟩
  rw [bitOf_test r hr w h3, hw w h3]
  simp

theorem truth_weather {b : Bk} (hl : b.sts.length ≤ 3) {t : Tr} (ht : t ∈ truths b) : ∃ w, w < 3 ∧ bitOf b.wth w = true ∧ t.w = (w : Int) ∧ Way (b.cost w) b.cks b.sts 0 (Tr.start w) 0 t := by
  obtain ⟨w, hw, hb, hy⟩ := mem_truths.1 ht
  exact ⟨w, hw, hb, (way_frame (by omega) hy).1, hy⟩
end Go.Proofs.YtbhjfojbjpbdbaaDoor

-- Q9: Plain law of ClaimEnds. Written by a session.
namespace Go.Proofs.YtbhjfojbjpbdbaaDoor

def Bk.only (b : Bk) (w : Nat) : Bk := { b with wth := 2 ^ w }

theorem only_ok {b : Bk} (h : bkOk b = true) {w : Nat} (hw : w < 3) : bkOk (b.only w) = true := by
  simp only [bkOk, headOk, Bool.and_eq_true] at h ⊢
  obtain ⟨⟨⟨h1, h2⟩, h3⟩, h4⟩ := h
  refine ⟨⟨⟨⟨⟨⟨h1.1.1.1, ?_⟩, h1.1.2⟩, h1.2⟩, h2⟩, h3⟩, h4⟩
  show within (2 ^ w) 1 7 = true
  have : w = 0 ∨ w = 1 ∨ w = 2 := by omega
  rcases this with rfl | rfl | rfl <;> decide

theorem only_bit : ∀ w < 3, ∀ v < 3, bitOf ((2 : Int) ^ w) v = decide (v = w) := by decide +kernel

theorem only_mem {b : Bk} (hl : b.sts.length ≤ 3) {w : Nat} (hw : w < 3) (hb : bitOf b.wth w = true) : truths (b.only w) ≠ [] ↔ ∃ t ∈ truths b, t.w = (w : Int) := by
  constructor
  · intro hne
    obtain ⟨t, ht⟩ := List.exists_mem_of_ne_nil _ hne
    obtain ⟨v, hv, hbv, hy⟩ := mem_truths.1 ht
    have hvw : v = w := by
      have h1 := only_bit w hw v hv
      rw [show bitOf ((2 : Int) ^ w) v = true from hbv] at h1
      exact of_decide_eq_true h1.symm
    subst hvw
    exact ⟨t, mem_truths.2 ⟨v, hv, hb, hy⟩, (way_frame (by rw [Nat.zero_add]; exact hl) hy).1⟩
  · rintro ⟨t, ht, e⟩
    obtain ⟨v, hv, _, hvt, hy⟩ := truth_weather hl ht
    have hvw : v = w := by omega
    subst hvw
    exact List.ne_nil_of_mem (mem_truths.2 ⟨v, hv, by show bitOf ((2 : Int) ^ v) v = true; rw [only_bit v hw v hw]; simp, hy⟩)

theorem right_iff {b : Bk} (h : bkOk b = true) : (rightS b).2 = 0 ∧ ((rightS b).1 = true ↔ truths b ≠ []) := by
  unfold rightS
  rw [if_pos h]
  refine ⟨rfl, ?_⟩
  cases truths b <;> simp

theorem rightS_eq {b : Bk} {is : Bool} (h : bkOk b = true) (he : is = true ↔ truths b ≠ []) : rightS b = (is, 0) := by
  obtain ⟨h1, h2⟩ := right_iff h
  refine Prod.ext ?_ h1
  cases hr : (rightS b).1 <;> cases is <;> simp_all

theorem fitsS_eq {b : Bk} {c : Ck} {is : Bool} (h : bkOk b = true) (hT : truths b ≠ []) (hc : ckOk b.sts.length c = true) (he : is = true ↔ truths (b.with c) ≠ []) : fitsS b c = (is, 0) := by
  unfold fitsS
  rw [ask_ok h hT hc, if_pos rfl]
  congr 1
  cases hr : truths (b.with c) <;> cases is <;> simp_all

theorem exact_clock {b : Bk} {k : Nat} {m : Int} (hl : b.sts.length ≤ 3) (hk : k < b.sts.length) : truths (b.with ⟨k, m, 0⟩) ≠ [] ↔ ∃ t ∈ truths b, t.comes k = m := by
  constructor
  · intro hne
    obtain ⟨t, ht⟩ := List.exists_mem_of_ne_nil _ hne
    obtain ⟨h1, h2⟩ := (mem_with rfl hl hk).1 ht
    simp only [suits, within, Bool.and_eq_true, decide_eq_true_iff] at h2
    exact ⟨t, h1, by omega⟩
  · rintro ⟨t, ht, e⟩
    refine List.ne_nil_of_mem ((mem_with rfl hl hk).2 ⟨ht, ?_⟩)
    simp only [suits, within, Bool.and_eq_true, decide_eq_true_iff]
    omega

theorem clock_ok {b : Bk} {k : Nat} {m : Int} (hk : k < b.sts.length) (h0 : 0 ≤ m) (h6 : m ≤ 600) : ckOk b.sts.length ⟨k, m, 0⟩ = true := by
  simp only [ckOk, within, Bool.and_eq_true, decide_eq_true_iff]
  omega

theorem ends_law {b : Bk} (h : bkOk b = true) (h4 : b.cks.length ≠ 4) (hT : truths b ≠ []) {k w : Nat} (hk : k < b.sts.length) (hw : w < 3) :
    ∃ (lo hi : Int) (set : Nat) (is : Bool), comesS b k = (lo, hi, 0) ∧ weatherS b = (((set : Nat) : Int), 0) ∧ 0 < set ∧ set < 8 ∧ (∀ v < 3, bitOf ((set : Nat) : Int) v = true → bitOf b.wth v = true) ∧ lo ≤ hi ∧ 0 ≤ lo ∧ hi ≤ 1000 ∧
      (∀ m, 0 ≤ m → m ≤ 600 → (m = lo ∨ m = hi) → fitsS b ⟨k, m, 0⟩ = (true, 0) ∧ rightS (b.with ⟨k, m, 0⟩) = (true, 0)) ∧
      (∀ m, 0 ≤ m → m ≤ 600 → (m < lo ∨ hi < m) → fitsS b ⟨k, m, 0⟩ = (false, 0) ∧ rightS (b.with ⟨k, m, 0⟩) = (false, 0)) ∧
      rightS (b.only w) = (is, 0) ∧ (bitOf b.wth w = true → is = bitOf ((set : Nat) : Int) w) := by
  have hh := bkOk_head h
  have hl := hh.1.2
  obtain ⟨h8, hbits⟩ := weathers_spec (sound_of h)
  obtain ⟨t0, ht0, e0⟩ := toldLo_mem (fun t => t.comes k) hT
  obtain ⟨t1, ht1, e1⟩ := toldHi_mem (fun t => t.comes k) hT
  have bd : ∀ t ∈ truths b, 0 ≤ t.comes k ∧ t.comes k ≤ 1000 := fun t ht => by
    obtain ⟨_, h0, h1, h2, _⟩ := truths_ok (sound_of h) t ht
    unfold Tr.comes; split <;> omega
  refine ⟨toldLo (fun t => t.comes k) (truths b), toldHi (fun t => t.comes k) (truths b), weathers (truths b), !(truths (b.only w)).isEmpty, spanE_ok h hT (isStage_in hk), ?_, ?_, h8, ?_, toldLo_le_hi _ hT, ?_, ?_, ?_, ?_, ?_, ?_⟩
  · unfold weatherS
    rw [if_pos (ask_ok h hT rfl)]
  · obtain ⟨v, hv, _, e, _⟩ := truth_weather hl ht0
    have := (hbits v hv).2 ⟨t0, ht0, e⟩
    rcases Nat.eq_zero_or_pos (weathers (truths b)) with hz | hz
    · rw [hz] at this
      have key : ∀ v < 3, bitOf ((0 : Nat) : Int) v = false := by decide +kernel
      rw [key v hv] at this
      cases this
    · exact hz
  · intro v hv hb
    obtain ⟨t, ht, e⟩ := (hbits v hv).1 hb
    obtain ⟨u, hu, hbu, eu, _⟩ := truth_weather hl ht
    have : u = v := by omega
    subst this
    exact hbu
  · rw [e0]; exact (bd t0 ht0).1
  · rw [e1]; exact (bd t1 ht1).2
  · intro m m0 m6 hm
    have hc := clock_ok (b := b) hk m0 m6
    have hne : truths (b.with ⟨k, m, 0⟩) ≠ [] := (exact_clock hl hk).2 (by
      rcases hm with rfl | rfl
      · exact ⟨t0, ht0, e0.symm⟩
      · exact ⟨t1, ht1, e1.symm⟩)
    exact ⟨fitsS_eq h hT hc (by simp [hne]), rightS_eq (by rw [with_ok h h4]; exact hc) (by simp [hne])⟩
  · intro m m0 m6 hm
    have hc := clock_ok (b := b) hk m0 m6
    have hne : ¬ truths (b.with ⟨k, m, 0⟩) ≠ [] := fun hne => by
      obtain ⟨t, ht, e⟩ := (exact_clock hl hk).1 hne
      have h1 := toldLo_le (fun t => t.comes k) ht
      have h2 := le_toldHi (fun t => t.comes k) ht
      simp only [e] at h1 h2
      omega
    exact ⟨fitsS_eq h hT hc (by simp [Classical.not_not.1 hne]), rightS_eq (by rw [with_ok h h4]; exact hc) (by simp [Classical.not_not.1 hne])⟩
  · unfold rightS
    rw [if_pos (only_ok h hw)]
  · intro hb
    have h1 := only_mem hl hw hb
    have h2 := hbits w hw
    cases hx : truths (b.only w) with
    | nil =>
      rw [hx] at h1
      have : ¬ bitOf ((weathers (truths b) : Nat) : Int) w = true := fun h3 => h1.2 (h2.1 h3) rfl
      simpa using this
    | cons x l =>
      rw [hx] at h1
      have := h2.2 (h1.1 (by simp))
      rw [this]; rfl

theorem ends_false {b : Bk} (h : bkOk b = true) (hT : truths b = []) {k : Nat} (hk : k < b.sts.length) : comesS b k = (0, 0, 62) ∧ weatherS b = (0, 62) ∧ fitsS b ⟨k, 0, 0⟩ = (false, 62) := by
  have hc := clock_ok (b := b) (m := 0) hk (by omega) (by omega)
  refine ⟨spanE_false h hT (isStage_in hk), ?_, ?_⟩
  · unfold weatherS
    rw [ask_false h hT rfl, if_neg (by decide)]
  · unfold fitsS
    rw [ask_false h hT hc, if_neg (by decide)]
end Go.Proofs.YtbhjfojbjpbdbaaDoor
