/-
  Plain law of ClaimSmooth: a road that costs nothing on any stage. Written by this session.
-/
import Derived.Test.YtbhjfojbjpbdbaaDoorQ3
namespace Go.Proofs.YtbhjfojbjpbdbaaDoor

def St.smooth (x : St) : St := { x with rl := 0, rh := 0 }
def Bk.smooth (b : Bk) : Bk := { b with sts := b.sts.map St.smooth }
def Bk.bare (b : Bk) : Bk := { b with cks := [] }

theorem smooth_len (b : Bk) : b.smooth.sts.length = b.sts.length := by simp [Bk.smooth]

theorem smooth_stsOk : ∀ (l : List St) (d : Int), stsOk d l = true → stsOk d (l.map St.smooth) = true
  | [], _, _ => rfl
  | x :: l, d, h => by
    simp only [stsOk, Bool.and_eq_true] at h
    simp only [List.map_cons, stsOk, Bool.and_eq_true]
    refine ⟨?_, smooth_stsOk l x.due h.2⟩
    have h1 := h.1
    simp only [stOk, Bool.and_eq_true, spanOk, within, decide_eq_true_iff] at h1 ⊢
    simp only [St.smooth]
    omega
theorem smooth_ok {b : Bk} (h : bkOk b = true) : bkOk b.smooth = true := by
  simp only [bkOk, headOk, Bool.and_eq_true] at h ⊢
  obtain ⟨⟨⟨h1, h2⟩, h3⟩, h4⟩ := h
  refine ⟨⟨⟨?_, smooth_stsOk _ _ h2⟩, h3⟩, ?_⟩
  · rw [smooth_len]; exact h1
  · rw [smooth_len]; exact h4
theorem bare_ok {b : Bk} (h : bkOk b = true) : bkOk b.bare = true := by
  simp only [bkOk, headOk, Bool.and_eq_true] at h ⊢
  obtain ⟨⟨⟨h1, h2⟩, h3⟩, h4⟩ := h
  refine ⟨⟨⟨⟨⟨h1.1.1, ?_⟩, h1.2⟩, h2⟩, h3⟩, rfl⟩
  show decide ((([] : List Ck).length : Int) ≤ 4) = true
  decide

theorem smooth_all {b : Bk} (h : bkOk b = true) {t : Tr} (ht : t ∈ truths b.smooth) : t.all = 0 := by
  have hh := bkOk_head h
  obtain ⟨h1, h2⟩ := truth_rough (b := b.smooth) (by rw [smooth_len]; exact hh.1.2) ht
  have hz : ∀ i, i ≤ 2 → t.rough i = 0 := fun i hi => by
    rcases Nat.lt_or_ge i b.sts.length with hl | hl
    · have hx : b.smooth.sts[i]? = some (b.sts[i].smooth) := by simp [Bk.smooth, hl]
      have := h1 i _ hx
      simp only [St.smooth] at this
      omega
    · exact (h2 i hi (by rw [smooth_len]; exact hl)).1
  have e0 : t.rough 0 = t.b0 := rfl
  have e1 : t.rough 1 = t.b1 := rfl
  have e2 : t.rough 2 = t.b2 := rfl
  have := hz 0 (by omega)
  have := hz 1 (by omega)
  have := hz 2 (by omega)
  unfold Tr.all
  omega

theorem smooth_law {b : Bk} (h : bkOk b = true) (hT : truths b.smooth ≠ []) : blameS b.smooth = (0, 0) ∧ owesS b.smooth = (0, 0, 0) ∧ paysS b.smooth = (0, 0) := by
  have hs := smooth_ok h
  have ha := ask_ok hs hT (is := true) rfl
  have ho : ∀ t ∈ truths b.smooth, owesT b.smooth t = 0 := fun t ht => by
    have h1 := smooth_all h ht
    have h2 := (lateT_bdT hs (b.smooth.sts.length - 1) ht).1
    unfold owesT
    rw [h1, show min (lateT b.smooth (b.smooth.sts.length - 1) t) 0 = 0 by omega, Int.mul_zero]
  have hb : blames b.smooth = 0 := by
    unfold blames
    rw [List.countP_eq_zero]
    intro t ht hc
    have h1 := smooth_all h ht
    unfold blamed at hc
    simp only [Bool.and_eq_true, decide_eq_true_iff, h1] at hc
    unfold lateT at hc
    omega
  have hl : (truths b.smooth).length ≠ 0 := fun e => hT (List.eq_nil_of_length_eq_zero e)
  refine ⟨?_, ?_, ?_⟩
  · unfold blameS
    rw [if_pos ha]
    unfold kindOf
    rw [hb, if_neg (by omega), if_neg (by omega)]
    rfl
  · have h1 := spanE_ok (f := owesT b.smooth) hs hT (is := true) rfl
    have e1 : toldLo (owesT b.smooth) (truths b.smooth) = 0 := by
      obtain ⟨t, ht, e⟩ := toldLo_mem (owesT b.smooth) hT
      rw [e, ho t ht]
    have e2 : toldHi (owesT b.smooth) (truths b.smooth) = 0 := by
      obtain ⟨t, ht, e⟩ := toldHi_mem (owesT b.smooth) hT
      rw [e, ho t ht]
    rw [e1, e2] at h1
    exact h1
  · unfold paysS
    rw [if_pos ha, hb, if_neg (by omega)]

/-- what the first stages have, added up. -/
def fsum (f : St → Int) : List St → Nat → Int
  | _, 0 => 0
  | [], _ + 1 => 0
  | x :: l, k + 1 => f x + fsum f l k
theorem fsum_succ (f : St → Int) : ∀ (l : List St) (k : Nat) (x : St), l[k]? = some x → fsum f l (k + 1) = fsum f l k + f x
  | [], k, x, h => by simp at h
  | y :: l, 0, x, h => by
    simp at h; subst h
    cases l <;> simp [fsum]
  | y :: l, k + 1, x, h => by
    simp only [List.getElem?_cons_succ] at h
    simp only [fsum]
    rw [fsum_succ f l k x h]
    omega

theorem way_down {cost : Int} : ∀ {l : List St} {j : Nat} {t t' : Tr} {fr R : Int} {y : Tr}, j + l.length ≤ 3 → Way cost [] l j t fr y →
    ∃ y', Way cost [] (l.map St.smooth) j t' (fr - R) y' ∧ ∀ i, i < l.length → ∃ S, y.comes (j + i) = y'.comes (j + i) + R + S ∧ fsum St.rl l (i + 1) ≤ S ∧ S ≤ fsum St.rh l (i + 1)
  | [], _, _, t', _, _, _, _, _ => ⟨t', rfl, fun i hi => absurd hi (Nat.not_lt_zero _)⟩
  | x :: l, j, t, t', fr, R, y, hj, h => by
    obtain ⟨d, r, s, hd, hr, hs, hR, hy⟩ := h
    simp only [List.length_cons] at hj
    obtain ⟨y', hw, hc⟩ := way_down (t' := t'.put j (fr - R + d + 0 + cost) 0) (R := R + r) (by omega) hy
    have he : fr + d + r + cost + s - (R + r) = fr - R + d + 0 + cost + s := by omega
    rw [he] at hw
    have hc0 := (way_frame (by omega) hy).2 j (by omega) (by omega)
    have hc1 := (way_frame (by simpa using (by omega : j + 1 + l.length ≤ 3)) hw).2 j (by omega) (by omega)
    have p0 := (put_rough_same t j (fr + d + r + cost) r (by omega)).2
    have p1 := (put_rough_same t' j (fr - R + d + 0 + cost) 0 (by omega)).2
    refine ⟨y', ⟨d, 0, s, hd, ⟨by simp [St.smooth], by simp [St.smooth]⟩, hs, rfl, hw⟩, fun i hi => ?_⟩
    cases i with
    | zero =>
      refine ⟨r, ?_, ?_, ?_⟩
      · rw [Nat.add_zero, hc0.2, hc1.2, p0, p1]; omega
      · simp only [fsum]; omega
      · simp only [fsum]; omega
    | succ i =>
      obtain ⟨S, e1, e2, e3⟩ := hc i (by simpa using hi)
      refine ⟨r + S, ?_, ?_, ?_⟩
      · rw [show j + (i + 1) = j + 1 + i by omega, e1]; omega
      · simp only [fsum]
        have : fsum St.rl l (i + 1) ≤ S := e2
        omega
      · simp only [fsum]
        omega

theorem way_up {cost : Int} (f : St → Int) : ∀ {l : List St} {j : Nat} {t t' : Tr} {fr R : Int} {y' : Tr}, j + l.length ≤ 3 → (∀ x ∈ l, x.rl ≤ f x ∧ f x ≤ x.rh) → Way cost [] (l.map St.smooth) j t' fr y' →
    ∃ y, Way cost [] l j t (fr + R) y ∧ ∀ i, i < l.length → y.comes (j + i) = y'.comes (j + i) + R + fsum f l (i + 1)
  | [], _, t, _, _, _, _, _, _, _ => ⟨t, rfl, fun i hi => absurd hi (Nat.not_lt_zero _)⟩
  | x :: l, j, t, t', fr, R, y', hj, hf, h => by
    obtain ⟨d, r, s, hd, hr, hs, hR, hy⟩ := h
    simp only [List.length_cons] at hj
    have hr0 : r = 0 := by simp only [St.smooth] at hr; omega
    subst hr0
    obtain ⟨y, hw, hc⟩ := way_up f (t := t.put j (fr + R + d + f x + cost) (f x)) (R := R + f x) (by omega) (fun z hz => hf z (List.mem_cons_of_mem _ hz)) hy
    have he : fr + d + 0 + cost + s + (R + f x) = fr + R + d + f x + cost + s := by omega
    rw [he] at hw
    have hc0 := (way_frame (by omega) hw).2 j (by omega) (by omega)
    have hc1 := (way_frame (by simpa using (by omega : j + 1 + l.length ≤ 3)) hy).2 j (by omega) (by omega)
    have p0 := (put_rough_same t j (fr + R + d + f x + cost) (f x) (by omega)).2
    have p1 := (put_rough_same t' j (fr + d + 0 + cost) 0 (by omega)).2
    refine ⟨y, ⟨d, f x, s, hd, hf x List.mem_cons_self, hs, rfl, hw⟩, fun i hi => ?_⟩
    cases i with
    | zero => rw [Nat.add_zero, hc0.2, hc1.2, p0, p1]; simp only [fsum]; omega
    | succ i =>
      have e1 := hc i (by simpa using hi)
      rw [show j + (i + 1) = j + 1 + i by omega, e1]
      simp only [fsum]
      omega

theorem way_any {cost : Int} : ∀ (l : List St) (j : Nat) (t : Tr) (fr : Int), (∀ x ∈ l, x.dl ≤ x.dh ∧ x.rl ≤ x.rh ∧ x.sl ≤ x.sh) → ∃ y, Way cost [] l j t fr y
  | [], _, t, _, _ => ⟨t, rfl⟩
  | x :: l, j, t, fr, h => by
    obtain ⟨y, hy⟩ := way_any (cost := cost) l (j + 1) (t.put j (fr + x.dl + x.rl + cost) x.rl) (fr + x.dl + x.rl + cost + x.sl) (fun z hz => h z (List.mem_cons_of_mem _ hz))
    have hx := h x List.mem_cons_self
    exact ⟨y, x.dl, x.rl, x.sl, ⟨Int.le_refl _, hx.1⟩, ⟨Int.le_refl _, hx.2.1⟩, ⟨Int.le_refl _, hx.2.2⟩, rfl, hy⟩

theorem bit_some {w : Int} (h : 1 ≤ w ∧ w ≤ 7) : ∃ q, q < 3 ∧ bitOf w q = true := by
  have : w = 1 ∨ w = 2 ∨ w = 3 ∨ w = 4 ∨ w = 5 ∨ w = 6 ∨ w = 7 := by omega
  rcases this with rfl | rfl | rfl | rfl | rfl | rfl | rfl
  · exact ⟨0, by decide, by decide⟩
  · exact ⟨1, by decide, by decide⟩
  · exact ⟨0, by decide, by decide⟩
  · exact ⟨2, by decide, by decide⟩
  · exact ⟨0, by decide, by decide⟩
  · exact ⟨1, by decide, by decide⟩
  · exact ⟨0, by decide, by decide⟩

theorem bare_ne {b : Bk} (h : bkOk b = true) : truths b.bare ≠ [] := by
  obtain ⟨w, hw, hb⟩ := bit_some (bkOk_head h).2.1
  obtain ⟨y, hy⟩ := way_any (cost := b.cost w) b.sts 0 (Tr.start w) 0 (fun x hx => by have := bkOk_sts h x hx; omega)
  exact List.ne_nil_of_mem (mem_truths.2 ⟨w, hw, hb, hy⟩)

theorem smooth_comes {b : Bk} {k : Nat} (h : bkOk b = true) (hk : k < b.sts.length) :
    ∃ lo hi : Int, (0 ≤ lo ∧ hi ≤ 1000 ∧ lo ≤ hi) ∧ comesS b.smooth.bare k = (lo, hi, 0) ∧ comesS b.bare k = (lo + fsum St.rl b.sts (k + 1), hi + fsum St.rh b.sts (k + 1), 0) := by
  have hh := bkOk_head h
  have hs := bare_ok (smooth_ok h)
  have hb := bare_ok h
  have n1 := bare_ne (smooth_ok h)
  have n2 := bare_ne h
  have hsts := bkOk_sts h
  have i1 : isStage b.smooth.bare (k : Int) = true := isStage_in (by show k < b.smooth.sts.length; rw [smooth_len]; exact hk)
  have i2 : isStage b.bare (k : Int) = true := isStage_in hk
  have down : ∀ t ∈ truths b.bare, ∃ t' ∈ truths b.smooth.bare, ∃ S, t.comes k = t'.comes k + S ∧ fsum St.rl b.sts (k + 1) ≤ S ∧ S ≤ fsum St.rh b.sts (k + 1) := fun t ht => by
    obtain ⟨w, hw, hbit, hy⟩ := mem_truths.1 ht
    obtain ⟨y', hy', hc⟩ := way_down (t' := Tr.start w) (R := 0) (by have := hh.1.2; show 0 + b.sts.length ≤ 3; omega) (show Way (b.cost w) [] b.sts 0 (Tr.start w) 0 t from hy)
    obtain ⟨S, e1, e2, e3⟩ := hc k hk
    rw [Nat.zero_add] at e1
    exact ⟨y', mem_truths.2 ⟨w, hw, hbit, hy'⟩, S, by omega, e2, e3⟩
  have up : ∀ (f : St → Int), (∀ x ∈ b.sts, x.rl ≤ f x ∧ f x ≤ x.rh) → ∀ t' ∈ truths b.smooth.bare, ∃ t ∈ truths b.bare, t.comes k = t'.comes k + fsum f b.sts (k + 1) := fun f hf t' ht => by
    obtain ⟨w, hw, hbit, hy⟩ := mem_truths.1 ht
    obtain ⟨y, hy', hc⟩ := way_up f (t := Tr.start w) (R := 0) (by have := hh.1.2; show 0 + b.sts.length ≤ 3; omega) hf (show Way (b.cost w) [] (b.sts.map St.smooth) 0 (Tr.start w) 0 t' from hy)
    have e1 := hc k hk
    rw [Nat.zero_add] at e1
    exact ⟨y, mem_truths.2 ⟨w, hw, hbit, hy'⟩, by omega⟩
  have clo : toldLo (fun t => t.comes k) (truths b.bare) = toldLo (fun t => t.comes k) (truths b.smooth.bare) + fsum St.rl b.sts (k + 1) := by
    refine toldLo_eq ?_ ?_
    · obtain ⟨t', ht', e⟩ := toldLo_mem (fun t => t.comes k) n1
      obtain ⟨t, ht, e2⟩ := up St.rl (fun x hx => by have := hsts x hx; omega) t' ht'
      exact ⟨t, ht, by rw [e]; exact e2⟩
    · intro t ht
      obtain ⟨t', ht', S, e1, e2, _⟩ := down t ht
      have hq : toldLo (fun t => t.comes k) (truths b.smooth.bare) ≤ t'.comes k := toldLo_le (fun t => t.comes k) ht'
      show _ ≤ t.comes k
      omega
  have chi : toldHi (fun t => t.comes k) (truths b.bare) = toldHi (fun t => t.comes k) (truths b.smooth.bare) + fsum St.rh b.sts (k + 1) := by
    refine toldHi_eq ?_ ?_
    · obtain ⟨t', ht', e⟩ := toldHi_mem (fun t => t.comes k) n1
      obtain ⟨t, ht, e2⟩ := up St.rh (fun x hx => by have := hsts x hx; omega) t' ht'
      exact ⟨t, ht, by rw [e]; exact e2⟩
    · intro t ht
      obtain ⟨t', ht', S, e1, _, e3⟩ := down t ht
      have hq : t'.comes k ≤ toldHi (fun t => t.comes k) (truths b.smooth.bare) := le_toldHi (fun t => t.comes k) ht'
      show t.comes k ≤ _
      omega
  refine ⟨_, _, ?_, spanE_ok hs n1 i1, ?_⟩
  · obtain ⟨t, ht, e⟩ := toldLo_mem (fun t => t.comes (k : Int).toNat) n1
    obtain ⟨t', ht', e'⟩ := toldHi_mem (fun t => t.comes (k : Int).toNat) n1
    have hle := toldLo_le_hi (fun t => t.comes (k : Int).toNat) n1
    obtain ⟨_, a0, a1, a2, _⟩ := truths_ok (sound_of hs) t ht
    obtain ⟨_, b0, b1, b2, _⟩ := truths_ok (sound_of hs) t' ht'
    have h1 : 0 ≤ t.comes (k : Int).toNat := by unfold Tr.comes; split <;> omega
    have h2 : t'.comes (k : Int).toNat ≤ 1000 := by unfold Tr.comes; split <;> omega
    rw [e, e'] at hle ⊢
    exact ⟨h1, h2, hle⟩
  · have := spanE_ok (f := fun t => t.comes (k : Int).toNat) hb n2 i2
    simp only [Int.toNat_natCast] at this ⊢
    rw [clo, chi] at this
    exact this

theorem fsum_bd {b : Bk} (h : bkOk b = true) : ∀ k, k ≤ b.sts.length → (0 ≤ fsum St.rl b.sts k ∧ fsum St.rl b.sts k ≤ 30 * k) ∧ (0 ≤ fsum St.rh b.sts k ∧ fsum St.rh b.sts k ≤ 30 * k)
  | 0, _ => by simp [fsum]
  | k + 1, hk => by
    obtain ⟨x, hx⟩ : ∃ x, b.sts[k]? = some x := ⟨_, List.getElem?_eq_getElem (by omega)⟩
    have ih := fsum_bd h k (by omega)
    have := bkOk_sts h x (List.mem_of_getElem? hx)
    rw [fsum_succ _ _ _ _ hx, fsum_succ _ _ _ _ hx]
    omega
end Go.Proofs.YtbhjfojbjpbdbaaDoor
