/-
  The contracts of the helpers that references and statements share: spans and small sets (package macadamref00). Written by this session.
-/
import Derived.Test.YtbhjfojbjpbdbaaDoorA16
namespace Go.Proofs.YtbhjfojbjpbdbaaDoor
open Go.RowKit

theorem amid_any (n lo hi : Int) (w : World) : Calls Tryd.prog 45 #[.int .i64 n, .int .i64 lo, .int .i64 hi] w fun e w' => e = .returned (.bool (within n lo hi)) ∧ w = w' := by
  go_enter Tryd.func45, Tryd.ntmps45
  go_wp2
  all_goals (go_ret; exact ⟨ret_bool (by unfold within; rw [Bool.eq_iff_iff]; simp; try omega), rfl⟩)

theorem holds_any (a b n : Int) (w : World) : Calls Tryd.prog 46 #[.agg #[.int .i64 a, .int .i64 b], .int .i64 n] w fun e w' => e = .returned (.bool (within n a b)) ∧ Below w.heap.size w w' := by
  go_enter Tryd.func46, Tryd.ntmps46
  go_wp2_with (go_at_call 45; refine (amid_any _ _ _ _).mono ?_; rintro e w1 ⟨rfl, rfl⟩)
  go_ret
  exact ⟨rfl, (Below.refl _ _).alloc (Nat.le_refl _) _⟩

theorem reach_any (a b : Int) (w : World) : Calls Tryd.prog 53 #[.int .i64 a, .int .i64 b] w fun e w' => e = .returned (.agg #[.int .i64 a, .int .i64 b]) ∧ Below w.heap.size w w' := by
  go_enter Tryd.func53, Tryd.ntmps53
  go_wp2
  refine bodyPost_ret (v := .agg #[.int .i64 a, .int .i64 b]) (by simp [results, Tryd.results53, go_sem]) rfl ⟨rfl, ?_⟩
  first
    | exact (Below.refl _ _).alloc (Nat.le_refl _) _
    | exact (((Below.refl _ _).alloc (Nat.le_refl _) _).setCell (by simp) _).setCell (by simp) _

theorem inner_any (a b c d : Int) (w : World) : Calls Tryd.prog 52 #[.agg #[.int .i64 a, .int .i64 b], .agg #[.int .i64 c, .int .i64 d]] w fun e w' => e = .returned (.bool (decide (a ≤ c) && decide (d ≤ b))) ∧ Below w.heap.size w w' := by
  go_enter Tryd.func52, Tryd.ntmps52
  go_wp2
  all_goals (go_ret; exact ⟨ret_bool (by rw [Bool.eq_iff_iff]; simp; try omega), ((Below.refl _ _).alloc (Nat.le_refl _) _).alloc (by simp) _⟩)

theorem just_any (a : Int) (w : World) : Calls Tryd.prog 50 #[.int .i64 a] w fun e w' => e = .returned (.agg #[.int .i64 a, .int .i64 a]) ∧ Below w.heap.size w w' := by
  obtain ⟨V, hV⟩ : ∃ V, w.alloc (.cells #[.int .i64 0, .int .i64 0] 32) = V := ⟨_, rfl⟩
  have hBV : Below w.heap.size w V := by rw [← hV]; exact (Below.refl _ _).alloc (Nat.le_refl _) _
  have hr : V.heap[w.heap.size]? = some (.cells #[.int .i64 0, .int .i64 0] 32) := by rw [← hV]; exact World.alloc_heap_new _ _
  have hlt : w.heap.size < V.heap.size := (Array.getElem?_eq_some_iff.1 hr).1
  have r0 : V.cell? ⟨w.heap.size, 0, none⟩ = some (.int .i64 0) := by unfold World.cell?; rw [hr]; rfl
  have r1 : V.cell? ⟨w.heap.size, 1, none⟩ = some (.int .i64 0) := by unfold World.cell?; rw [hr]; rfl
  have f0 : V.frozen? ⟨w.heap.size, 0, none⟩ = false := by unfold World.frozen?; rw [hr]; simp
  have f1 : V.frozen? ⟨w.heap.size, 1, none⟩ = false := by unfold World.frozen?; rw [hr]; simp
  have HR := Lib.hid hr
  clear hr
  go_enter Tryd.func50, Tryd.ntmps50
  go_upto_region 1 with fail
  try rw [hV]
  clear hV
  go_wp2_with (first | (go_at_call 53; refine (reach_any _ _ _).mono ?_; rintro e w1 ⟨rfl, hb1⟩; have hk1 := (bcell hb1).1; have hk2 := (bcell hb1).2; have HB1 := Lib.hid hb1; clear hb1) | fail)
  obtain ⟨k0, k1, hBZ⟩ := stored2 ((HB1.out.block _ hlt).trans HR.out) (.int .i64 a) (.int .i64 a) (hBV.trans (HB1.out.mono hBV.size)) (Nat.le_refl w.heap.size)
  generalize (w1.setCell ⟨w.heap.size, 0, none⟩ (.int .i64 a)).setCell ⟨w.heap.size, 1, none⟩ (.int .i64 a) = Z at k0 k1 hBZ ⊢
  exact bodyPost_ret (v := .agg #[.int .i64 a, .int .i64 a]) (by simp [results, Tryd.results50, go_sem, k0, k1]) rfl ⟨rfl, hBZ⟩

/-- what Wrap computes. -/
def wrapS (n m : Int) : Int := if m ≤ 0 then 0 else n % m
theorem wrap_any (n m : Int) (hm : m ≤ 9223372036854775807) (w : World) : Calls Tryd.prog 48 #[.int .i64 n, .int .i64 m] w fun e w' => e = .returned (.int .i64 (wrapS n m)) ∧ w = w' := by
  by_cases h : m ≤ 0
  · go_enter Tryd.func48, Tryd.ntmps48
    go_wp2
    go_ret
    exact ⟨ret_int (by simp [wrapS, h]), rfl⟩
  · have hne : ¬ m = 0 := by omega
    have hb := Int.tmod_lt_of_pos n (show 0 < m by omega)
    have hb2 := Int.lt_tmod_of_pos n (show 0 < m by omega)
    have he : n % m = if n.tmod m < 0 then n.tmod m + m else n.tmod m := by
      rw [Int.tmod_eq_emod]
      have h1 := Int.emod_nonneg n hne
      have h2 := Int.emod_lt_of_pos n (show 0 < m by omega)
      split
      · split <;> omega
      · split <;> omega
    have HE := Lib.hid he
    clear he
    go_enter Tryd.func48, Tryd.ntmps48
    go_wp2
    all_goals (go_ret; exact ⟨ret_int (by
      show _ = wrapS n m
      unfold wrapS
      rw [if_neg (by omega), HE.out]
      split <;> first | rfl | omega), rfl⟩)

theorem in_any (s : Int) (q : Nat) (hs : 0 ≤ s ∧ s ≤ 7) (hq : q < 3) (w : World) : Calls Tryd.prog 44 #[.int .i64 s, .int .i64 (q : Int)] w fun e w' => e = .returned (.bool (bitOf s q)) ∧ w = w' := by
  have hb : (bits BinOp.and IntKind.i64 (s / 2 ^ q) 1 == 1) = bitOf s q := by
    have h1 : s = 0 ∨ s = 1 ∨ s = 2 ∨ s = 3 ∨ s = 4 ∨ s = 5 ∨ s = 6 ∨ s = 7 := by omega
    have h2 : q = 0 ∨ q = 1 ∨ q = 2 := by omega
    rcases h1 with rfl | rfl | rfl | rfl | rfl | rfl | rfl | rfl <;> rcases h2 with rfl | rfl | rfl <;> decide
  go_enter Tryd.func44, Tryd.ntmps44
  go_wp2
  go_ret
  exact ⟨by first | exact congrArg (fun x => Ending.returned (Value.bool x)) hb | rfl, rfl⟩

/-- what Sane asks. -/
theorem sane_any (a b lo hi wide : Int) (hw : lo ≤ hi ∧ -1000000 ≤ lo ∧ hi ≤ 1000000) (w : World) :
    Calls Tryd.prog 69 #[.agg #[.int .i64 a, .int .i64 b], .int .i64 lo, .int .i64 hi, .int .i64 wide] w fun e w' => e = .returned (.bool (spanOk a b lo hi wide)) ∧ Below w.heap.size w w' := by
  by_cases h1 : lo ≤ a
  · by_cases h2 : a ≤ b
    · by_cases h3 : b ≤ hi
      · have hwr : IntKind.i64.wrap (b - a) = b - a := IntWalk.i64_in _ (by omega)
        go_enter Tryd.func69, Tryd.ntmps69
        go_wp2
        all_goals (go_ret; exact ⟨ret_bool (by unfold spanOk; rw [Bool.eq_iff_iff]; simp; try omega), (Below.refl _ _).alloc (Nat.le_refl _) _⟩)
      · go_enter Tryd.func69, Tryd.ntmps69
        go_wp2
        all_goals (go_ret; exact ⟨ret_bool (by unfold spanOk; rw [Bool.eq_iff_iff]; simp; try omega), (Below.refl _ _).alloc (Nat.le_refl _) _⟩)
    · go_enter Tryd.func69, Tryd.ntmps69
      go_wp2
      all_goals (go_ret; exact ⟨ret_bool (by unfold spanOk; rw [Bool.eq_iff_iff]; simp; try omega), (Below.refl _ _).alloc (Nat.le_refl _) _⟩)
  · go_enter Tryd.func69, Tryd.ntmps69
    go_wp2
    all_goals (go_ret; exact ⟨ret_bool (by unfold spanOk; rw [Bool.eq_iff_iff]; simp; try omega), (Below.refl _ _).alloc (Nat.le_refl _) _⟩)
end Go.Proofs.YtbhjfojbjpbdbaaDoor
