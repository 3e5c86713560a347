/-
  Merged: B1, B2, B3, B4, B5, B6. Written by sessions of this seat.
-/
import Derived.Test.YtbhjfojbjpbdbaaDoorK3

-- B1: The contracts of the helpers that references and statements share: spans and small sets (package macadamref00). Written by a session.
namespace Go.Proofs.YtbhjfojbjpbdbaaDoor
open Go.RowKit

theorem amid_any (n lo hi : Int) (w : World) : Calls Tryd.prog 45 #[.int .i64 n, .int .i64 lo, .int .i64 hi] w fun e w' => e = .returned (.bool (within n lo hi)) ∧ w = w' := by
  go_enter Tryd.func45, Tryd.ntmps45
  go_wp2
  all_goals (go_ret; exact ⟨ret_bool (by unfold within; rw [Bool.eq_iff_iff]; simp; try omega), rfl⟩)

theorem holds_any (a b n : Int) (w : World) : Calls Tryd.prog 46 #[.agg #[.int .i64 a, .int .i64 b], .int .i64 n] w fun e w' => e = .returned (.bool (within n a b)) ∧ Below w.heap.size w w' := by
  go_enter Tryd.func46, Tryd.ntmps46
  go_wp2_with (go_at_call 45; refine (amid_any _ _ _ _).mono ?_; rintro e w1 ⟨rfl, rfl⟩)
  go_ret
  exact ⟨rfl, (Below.refl _ _).alloc (Nat.le_refl _) _⟩

theorem reach_any (a b : Int) (w : World) : Calls Tryd.prog 53 #[.int .i64 a, .int .i64 b] w fun e w' => e = .returned (.agg #[.int .i64 a, .int .i64 b]) ∧ Below w.heap.size w w' := by
  go_enter Tryd.func53, Tryd.ntmps53
  go_wp2
  refine bodyPost_ret (v := .agg #[.int .i64 a, .int .i64 b]) (by simp [results, Tryd.results53, go_sem]) rfl ⟨rfl, ?_⟩
  first
    | exact (Below.refl _ _).alloc (Nat.le_refl _) _
    | exact (((Below.refl _ _).alloc (Nat.le_refl _) _).setCell (by simp) _).setCell (by simp) _

theorem inner_any (a b c d : Int) (w : World) : Calls Tryd.prog 52 #[.agg #[.int .i64 a, .int .i64 b], .agg #[.int .i64 c, .int .i64 d]] w fun e w' => e = .returned (.bool (decide (a ≤ c) && decide (d ≤ b))) ∧ Below w.heap.size w w' := by
  go_enter Tryd.func52, Tryd.ntmps52
  go_wp2
  all_goals (go_ret; exact ⟨ret_bool (by rw [Bool.eq_iff_iff]; simp; try omega), ((Below.refl _ _).alloc (Nat.le_refl _) _).alloc (by simp) _⟩)

theorem just_any (a : Int) (w : World) : Calls Tryd.prog 50 #[.int .i64 a] w fun e w' => e = .returned (.agg #[.int .i64 a, .int .i64 a]) ∧ Below w.heap.size w w' := by
  obtain ⟨V, hV⟩ : ∃ V, w.alloc (.cells #[.int .i64 0, .int .i64 0] 32) = V := ⟨_, rfl⟩
  have hBV : Below w.heap.size w V := by rw [← hV]; exact (Below.refl _ _).alloc (Nat.le_refl _) _
  have hr : V.heap[w.heap.size]? = some (.cells #[.int .i64 0, .int .i64 0] 32) := by rw [← hV]; exact World.alloc_heap_new _ _
  have hlt : w.heap.size < V.heap.size := (Array.getElem?_eq_some_iff.1 hr).1
  have r0 : V.cell? ⟨w.heap.size, 0, none⟩ = some (.int .i64 0) := by unfold World.cell?; rw [hr]; rfl
  have r1 : V.cell? ⟨w.heap.size, 1, none⟩ = some (.int .i64 0) := by unfold World.cell?; rw [hr]; rfl
  have f0 : V.frozen? ⟨w.heap.size, 0, none⟩ = false := by unfold World.frozen?; rw [hr]; simp
  have f1 : V.frozen? ⟨w.heap.size, 1, none⟩ = false := by unfold World.frozen?; rw [hr]; simp
  have HR := Lib.hid hr
  clear hr
  go_enter Tryd.func50, Tryd.ntmps50
  go_upto_region 1 with fail
  try rw [hV]
  clear hV
  go_wp2_with (first | (go_at_call 53; refine (reach_any _ _ _).mono ?_; rintro e w1 ⟨rfl, hb1⟩; have hk1 := (bcell hb1).1; have hk2 := (bcell hb1).2; have HB1 := Lib.hid hb1; clear hb1) | fail)
  obtain ⟨k0, k1, hBZ⟩ := stored2 ((HB1.out.block _ hlt).trans HR.out) (.int .i64 a) (.int .i64 a) (hBV.trans (HB1.out.mono hBV.size)) (Nat.le_refl w.heap.size)
  generalize (w1.setCell ⟨w.heap.size, 0, none⟩ (.int .i64 a)).setCell ⟨w.heap.size, 1, none⟩ (.int .i64 a) = Z at k0 k1 hBZ ⊢
  exact bodyPost_ret (v := .agg #[.int .i64 a, .int .i64 a]) (by simp [results, Tryd.results50, go_sem, k0, k1]) rfl ⟨rfl, hBZ⟩

/-- what Wrap computes. -/
def wrapS (n m : Int) : Int := if m ≤ 0 then 0 else n % m
theorem wrap_any (n m : Int) (hm : m ≤ 9223372036854775807) (w : World) : Calls Tryd.prog 48 #[.int .i64 n, .int .i64 m] w fun e w' => e = .returned (.int .i64 (wrapS n m)) ∧ w = w' := by
  by_cases h : m ≤ 0
  · go_enter Tryd.func48, Tryd.ntmps48
    go_wp2
    go_ret
    exact ⟨ret_int (by simp [wrapS, h]), rfl⟩
  · have hne : ¬ m = 0 := by omega
    have hb := Int.tmod_lt_of_pos n (show 0 < m by omega)
    have hb2 := Int.lt_tmod_of_pos n (show 0 < m by omega)
    have he : n % m = if n.tmod m < 0 then n.tmod m + m else n.tmod m := by
      rw [Int.tmod_eq_emod]
      have h1 := Int.emod_nonneg n hne
      have h2 := Int.emod_lt_of_pos n (show 0 < m by omega)
      split
      · split <;> omega
      · split <;> omega
    have HE := Lib.hid he
    clear he
    go_enter Tryd.func48, Tryd.ntmps48
    go_wp2
    all_goals (go_ret; exact ⟨ret_int (by
      show _ = wrapS n m
      unfold wrapS
      rw [if_neg (by omega), HE.out]
      split <;> first | rfl | omega), rfl⟩)

theorem in_any (s : Int) (q : Nat) (hs : 0 ≤ s ∧ s ≤ 7) (hq : q < 3) (w : World) : Calls Tryd.prog 44 #[.int .i64 s, .int .i64 (q : Int)] w fun e w' => e = .returned (.bool (bitOf s q)) ∧ w = w' := by
  have hb : (bits BinOp.and IntKind.i64 (s / 2 ^ q) 1 == 1) = bitOf s q := by
    have h1 : s = 0 ∨ s = 1 ∨ s = 2 ∨ s = 3 ∨ s = 4 ∨ s = 5 ∨ s = 6 ∨ s = 7 := by omega
    have h2 : q = 0 ∨ q = 1 ∨ q = 2 := by omega
    rcases h1 with rfl | rfl | rfl | rfl | rfl | rfl | rfl | rfl <;> rcases h2 with rfl | rfl | rfl <;> decide
  go_enter Tryd.func44, Tryd.ntmps44
  go_wp2
  go_ret
  exact ⟨by first | exact congrArg (fun x => Ending.returned (Value.bool x)) hb | rfl, rfl⟩

/-- what Sane asks. -/
theorem sane_any (a b lo hi wide : Int) (hw : lo ≤ hi ∧ -1000000 ≤ lo ∧ hi ≤ 1000000) (w : World) :
    Calls Tryd.prog 69 #[.agg #[.int .i64 a, .int .i64 b], .int .i64 lo, .int .i64 hi, .int .i64 wide] w fun e w' => e = .returned (.bool (spanOk a b lo hi wide)) ∧ Below w.heap.size w w' := by
  by_cases h1 : lo ≤ a
  · by_cases h2 : a ≤ b
    · by_cases h3 : b ≤ hi
      · have hwr : IntKind.i64.wrap (b - a) = b - a := IntWalk.i64_in _ (by omega)
        go_enter Tryd.func69, Tryd.ntmps69
        go_wp2
        all_goals (go_ret; exact ⟨ret_bool (by unfold spanOk; rw [Bool.eq_iff_iff]; simp; try omega), (Below.refl _ _).alloc (Nat.le_refl _) _⟩)
      · go_enter Tryd.func69, Tryd.ntmps69
        go_wp2
        all_goals (go_ret; exact ⟨ret_bool (by unfold spanOk; rw [Bool.eq_iff_iff]; simp; try omega), (Below.refl _ _).alloc (Nat.le_refl _) _⟩)
    · go_enter Tryd.func69, Tryd.ntmps69
      go_wp2
      all_goals (go_ret; exact ⟨ret_bool (by unfold spanOk; rw [Bool.eq_iff_iff]; simp; try omega), (Below.refl _ _).alloc (Nat.le_refl _) _⟩)
  · go_enter Tryd.func69, Tryd.ntmps69
    go_wp2
    all_goals (go_ret; exact ⟨ret_bool (by unfold spanOk; rw [Bool.eq_iff_iff]; simp; try omega), (Below.refl _ _).alloc (Nat.le_refl _) _⟩)
end Go.Proofs.YtbhjfojbjpbdbaaDoor

-- B2: The contract of Like (package macadamref00): have two lists the same elements? Written by a session.
namespace Go.Proofs.YtbhjfojbjpbdbaaDoor
open Go.RowKit

set_option maxHeartbeats 1000000 in
theorem like_any (W : World) (v u : Value) (l m : List Int) (n : Nat) (hv : SlOf W n 1 v (intCells l)) (hu : SlOf W n 1 u (intCells m)) (hn : n ≤ W.heap.size) :
    Calls Tryd.prog 40 #[v, u] W fun e W' => e = .returned (.bool (decide (l = m))) ∧ Below W.heap.size W W' := by
  obtain ⟨va, vc, rfl, v1, v2, v3, v4⟩ := hv
  obtain ⟨ua, uc, rfl, u1, u2, u3, u4⟩ := hu
  have hvl : (intCells l).length = l.length := by simp [intCells]
  have hul : (intCells m).length = m.length := by simp [intCells]
  rw [hvl] at v1 v4 ⊢
  rw [hul] at u1 u4 ⊢
  have hb : l.length ≤ 9223372036854775807 := by unfold maxLen at v2; omega
  have H4 := Lib.hid v4
  have H5 := Lib.hid u4
  clear v1 v2 v3 v4 u1 u2 u3 u4 hvl hul
  by_cases hlen : l.length = m.length
  · obtain ⟨k, hk⟩ : ∃ k, l.length = k := ⟨_, rfl⟩
    have HK := Lib.hid hk
    have HM := Lib.hid (show m.length = k by rw [← hlen]; exact hk)
    rw [← hlen, hk]
    rw [hk] at hb
    clear hlen hk
    go_enter Tryd.func40, Tryd.ntmps40
    go_wp2_with fail
    go_loopg [5, 6] k (fun n sm i wx => ∃ (q : Nat) (o : Bool), Below W.heap.size W wx ∧ q ≤ k ∧ n = k - q ∧ sm = .bool o ∧ i = .int .i64 (q : Int) ∧ (o && decide (l.drop q = m.drop q)) = decide (l = m))
    case atStart => exact ⟨0, true, Below.refl _ _, by omega, rfl, rfl, rfl, by simp⟩
    case round =>
      obtain ⟨q, o, hbx, hq, hgk, rfl, rfl, hT⟩ := hrel
      have HG := Lib.hid hgk
      have HT := Lib.hid hT
      clear hgk hT
      cases o with
      | false =>
        go_wp2_with fail
        go_ret
        exact ⟨by rw [← HT.out]; rfl, hbx⟩
      | true =>
        by_cases hlt : q < k
        · obtain ⟨x, hx⟩ : ∃ x, l[q]? = some x := ⟨_, List.getElem?_eq_getElem (by rw [HK.out]; exact hlt)⟩
          obtain ⟨y, hy⟩ : ∃ y, m[q]? = some y := ⟨_, List.getElem?_eq_getElem (by rw [HM.out]; exact hlt)⟩
          obtain ⟨g, p, hva, hg, hcs⟩ := sl_at (fun h0 => H4.out (by simpa [intCells] using h0)) (show (intCells l)[q]? = some [.int .i64 x] by simp [intCells, hx])
          obtain ⟨g2, p2, hua, hg2, hcs2⟩ := sl_at (fun h0 => H5.out (by simpa [intCells] using h0)) (show (intCells m)[q]? = some [.int .i64 y] by simp [intCells, hy])
          subst hva
          subst hua
          have r0 : wr.cell? ⟨g, p + q, none⟩ = some (.int .i64 x) := (hbx.cell (p := ⟨g, p + q, none⟩) (by show g < _; omega)).trans (by have := hcs 0 _ rfl; simpa using this)
          have r1 : wr.cell? ⟨g2, p2 + q, none⟩ = some (.int .i64 y) := (hbx.cell (p := ⟨g2, p2 + q, none⟩) (by show g2 < _; omega)).trans (by have := hcs2 0 _ rfl; simpa using this)
          have hd : (decide (l.drop q = m.drop q)) = ((x == y) && decide (l.drop (q + 1) = m.drop (q + 1))) := by
            have h1 : q < l.length := by rw [HK.out]; exact hlt
            have h2 : q < m.length := by rw [HM.out]; exact hlt
            rw [List.drop_eq_getElem_cons h1, List.drop_eq_getElem_cons h2]
            rw [List.getElem?_eq_getElem h1] at hx
            rw [List.getElem?_eq_getElem h2] at hy
            injection hx with hx
            injection hy with hy
            rw [hx, hy, Bool.eq_iff_iff]
            simp
          have HD := Lib.hid hd
          clear hcs hcs2 hx hy hd
          go_wp2_with fail
          go_region
          all_goals (
            go_wp2_with fail
            go_roundg (k - (q + 1))
            case measure => rw [HG.out]; omega
            case rel => exact ⟨q + 1, x == y, hbx.drew, by omega, rfl, rfl, by go_num, by rw [← HT.out, HD.out]; rfl⟩)
        · have hf : decide (l = m) = true := by rw [← HT.out, List.drop_eq_nil_of_le (by rw [HK.out]; omega), List.drop_eq_nil_of_le (by rw [HM.out]; omega)]; rfl
          have HF := Lib.hid hf
          clear hf
          go_wp2_with fail
          go_ret
          exact ⟨by rw [HF.out]; rfl, hbx⟩
  · have hne : decide (l = m) = false := by simp; intro e; exact hlen (by rw [e])
    have HNE := Lib.hid hne
    have hi : ((l.length : Int) == (m.length : Int)) = false := by simp; omega
    clear hne
    go_enter Tryd.func40, Tryd.ntmps40
    go_wp2_with fail
    go_loopg [5, 6] 0 (fun n sm i wx => W = wx ∧ sm = .bool false ∧ i = .int .i64 0)
    case atStart => exact ⟨rfl, rfl, rfl⟩
    case round =>
      obtain ⟨rfl, rfl, rfl⟩ := hrel
      go_wp2_with fail
      go_ret
      exact ⟨by rw [HNE.out]; rfl, Below.refl _ _⟩
end Go.Proofs.YtbhjfojbjpbdbaaDoor

-- B3: The contracts of the law's own helpers that build stages and clocks (package macadamlaw06). Written by a session.
namespace Go.Proofs.YtbhjfojbjpbdbaaDoor
open Go.RowKit

theorem clock_any (a b c : Int) (w : World) : Calls Tryd.prog 49 #[.int .i64 a, .int .i64 b, .int .i64 c] w fun e w' => e = .returned (.agg (Ck.cells ⟨a, b, c⟩).toArray) ∧ Below w.heap.size w w' := by
  go_enter Tryd.func49, Tryd.ntmps49
  go_wp2
  refine bodyPost_ret (v := .agg #[.int .i64 a, .int .i64 b, .int .i64 c]) (by simp [results, Tryd.results49, go_sem]) rfl ⟨rfl, ?_⟩
  exact (Below.refl _ _).alloc (Nat.le_refl _) _

theorem stage93_any (d a1 b1 a2 b2 a3 b3 : Int) (w : World) : Calls Tryd.prog 93 #[.int .i64 d, .agg #[.int .i64 a1, .int .i64 b1], .agg #[.int .i64 a2, .int .i64 b2], .agg #[.int .i64 a3, .int .i64 b3]] w fun e w' =>
    e = .returned (.agg (St.cells ⟨d, a1, b1, a2, b2, a3, b3⟩).toArray) ∧ Below w.heap.size w w' := by
  go_enter Tryd.func93, Tryd.ntmps93
  go_wp2
  refine bodyPost_ret (v := .agg #[.int .i64 d, .int .i64 a1, .int .i64 b1, .int .i64 a2, .int .i64 b2, .int .i64 a3, .int .i64 b3]) (by simp [results, Tryd.results93, go_sem]) rfl ⟨rfl, ?_⟩
  exact ((((Below.refl _ _).alloc (Nat.le_refl _) _).alloc (by simp) _).alloc (by simp; omega) _).alloc (by simp; omega) _

theorem stored7 {B K : Nat} {T : TypeId} {V W : World} {z0 z1 z2 z3 z4 z5 z6 : Value} (h : W.heap[B]? = some (.cells #[z0, z1, z2, z3, z4, z5, z6] T)) (v0 v1 v2 v3 v4 v5 v6 : Value) (hb : Below K V W) (hB : K ≤ B) :
    (((((((W.setCell ⟨B, 0, none⟩ v0).setCell ⟨B, 1, none⟩ v1).setCell ⟨B, 2, none⟩ v2).setCell ⟨B, 3, none⟩ v3).setCell ⟨B, 4, none⟩ v4).setCell ⟨B, 5, none⟩ v5).setCell ⟨B, 6, none⟩ v6).heap[B]? = some (.cells #[v0, v1, v2, v3, v4, v5, v6] T) ∧
    Below K V (((((((W.setCell ⟨B, 0, none⟩ v0).setCell ⟨B, 1, none⟩ v1).setCell ⟨B, 2, none⟩ v2).setCell ⟨B, 3, none⟩ v3).setCell ⟨B, 4, none⟩ v4).setCell ⟨B, 5, none⟩ v5).setCell ⟨B, 6, none⟩ v6) ∧
    (((((((W.setCell ⟨B, 0, none⟩ v0).setCell ⟨B, 1, none⟩ v1).setCell ⟨B, 2, none⟩ v2).setCell ⟨B, 3, none⟩ v3).setCell ⟨B, 4, none⟩ v4).setCell ⟨B, 5, none⟩ v5).setCell ⟨B, 6, none⟩ v6).heap.size = W.heap.size := by
  have h7 := blk_set (j := 6) (v := v6) (blk_set (j := 5) (v := v5) (blk_set (j := 4) (v := v4) (blk_set (j := 3) (v := v3) (blk_set (j := 2) (v := v2) (blk_set (j := 1) (v := v1) (blk_set (j := 0) (v := v0) h))))))
  simp only [List.setIfInBounds_toArray, List.set_cons_zero, List.set_cons_succ] at h7
  refine ⟨h7, ?_, by simp [World.setCell]⟩
  exact ((((((hb.setCell (p := ⟨B, 0, none⟩) hB v0).setCell (p := ⟨B, 1, none⟩) hB v1).setCell (p := ⟨B, 2, none⟩) hB v2).setCell (p := ⟨B, 3, none⟩) hB v3).setCell (p := ⟨B, 4, none⟩) hB v4).setCell (p := ⟨B, 5, none⟩) hB v5).setCell (p := ⟨B, 6, none⟩) hB v6

theorem slOf_new (w : World) (T : TypeId) (sz : Nat) (rows : List (List Value)) (hr : ∀ r ∈ rows, r.length = sz) (hm : rows.length ≤ maxLen) :
    SlOf (w.alloc (.cells rows.flatten.toArray T)) (w.heap.size + 1) sz (.slice (some ⟨w.heap.size, 0, none⟩) rows.length rows.length) rows := by
  refine ⟨_, _, rfl, Nat.le_refl _, hm, hr, fun _ => ⟨w.heap.size, 0, rfl, by omega, fun i j r c hi hj => ?_⟩⟩
  rw [cell_new, Nat.zero_add, List.getElem?_toArray]
  exact flat_at rows hr i j r c hi hj

set_option maxHeartbeats 1000000 in
theorem book_any (due : Int) (ka : Option Addr) (kl kc : Nat) (W : World) : Calls Tryd.prog 60 #[.int .i64 due, .slice ka kl kc] W fun e W' => ∃ g,
    e = .returned (.agg #[.slice (some ⟨g, 0, none⟩) 2 2, .int .i64 3, .int .i64 0, .int .i64 2, .int .i64 6, .slice ka kl kc, .int .i64 5]) ∧ Below W.heap.size W W' ∧ W.heap.size ≤ g ∧
      SlOf W' W'.heap.size 7 (.slice (some ⟨g, 0, none⟩) 2 2) (stCells [⟨30, 26, 28, 0, 2, 3, 4⟩, ⟨due, 25, 26, 2, 4, 0, 0⟩]) := by
  obtain ⟨V, hV⟩ : ∃ V, W.alloc (.cells #[.slice none 0 0, .int .i64 0, .int .i64 0, .int .i64 0, .int .i64 0, .slice none 0 0, .int .i64 0] 26) = V := ⟨_, rfl⟩
  have hBV : Below W.heap.size W V := by rw [← hV]; exact (Below.refl _ _).alloc (Nat.le_refl _) _
  have hr : V.heap[W.heap.size]? = some (.cells #[.slice none 0 0, .int .i64 0, .int .i64 0, .int .i64 0, .int .i64 0, .slice none 0 0, .int .i64 0] 26) := by rw [← hV]; exact World.alloc_heap_new _ _
  have hlt : W.heap.size < V.heap.size := (Array.getElem?_eq_some_iff.1 hr).1
  have r0 : V.cell? ⟨W.heap.size, 0, none⟩ = some (.slice none 0 0) := blk_cell hr
  have f0 := blk_frozen hr 0
  have r1 : V.cell? ⟨W.heap.size, 1, none⟩ = some (.int .i64 0) := blk_cell hr
  have f1 := blk_frozen hr 1
  have r2 : V.cell? ⟨W.heap.size, 2, none⟩ = some (.int .i64 0) := blk_cell hr
  have f2 := blk_frozen hr 2
  have r3 : V.cell? ⟨W.heap.size, 3, none⟩ = some (.int .i64 0) := blk_cell hr
  have f3 := blk_frozen hr 3
  have r4 : V.cell? ⟨W.heap.size, 4, none⟩ = some (.int .i64 0) := blk_cell hr
  have f4 := blk_frozen hr 4
  have r5 : V.cell? ⟨W.heap.size, 5, none⟩ = some (.slice none 0 0) := blk_cell hr
  have f5 := blk_frozen hr 5
  have r6 : V.cell? ⟨W.heap.size, 6, none⟩ = some (.int .i64 0) := blk_cell hr
  have f6 := blk_frozen hr 6
  have HR := Lib.hid hr
  clear hr
  have hBB : Below V.heap.size V V := Below.refl _ _
  go_enter Tryd.func60, Tryd.ntmps60
  go_upto_region 1 with fail
  try rw [hV]
  clear hV
  go_wp2_with (first
    | (go_at_call 53; refine (reach_any _ _ _).mono ?_; rintro e w' ⟨rfl, hb⟩; replace hBB := hBB.trans (hb.mono hBB.size); clear hb; have hk := (bcell hBB).1; have hf := (bcell hBB).2; have hz := Nat.lt_of_lt_of_le hlt hBB.size)
    | (go_at_call 50; refine (just_any _ _).mono ?_; rintro e w' ⟨rfl, hb⟩; replace hBB := hBB.trans (hb.mono hBB.size); clear hb; have hk := (bcell hBB).1; have hf := (bcell hBB).2; have hz := Nat.lt_of_lt_of_le hlt hBB.size)
    | (go_at_call 93; refine (stage93_any _ _ _ _ _ _ _ _).mono ?_; rintro e w' ⟨rfl, hb⟩; replace hBB := hBB.trans (hb.mono hBB.size); clear hb; have hk := (bcell hBB).1; have hf := (bcell hBB).2; have hz := Nat.lt_of_lt_of_le hlt hBB.size; simp only [St.cells])
    | fail)
  obtain ⟨k7, hBZ, hZz⟩ := stored7 ((hBB.block _ hlt).trans HR.out) (.slice (some ⟨w'.heap.size, 0, none⟩) 2 2) (.int .i64 3) (.int .i64 0) (.int .i64 2) (.int .i64 6) (.slice ka kl kc) (.int .i64 5) (hBV.trans (hBB.mono hBV.size)) (Nat.le_refl W.heap.size)
  generalize ((((((w'.setCell ⟨W.heap.size, 0, none⟩ (.slice (some ⟨w'.heap.size, 0, none⟩) 2 2)).setCell ⟨W.heap.size, 1, none⟩ (.int .i64 3)).setCell ⟨W.heap.size, 2, none⟩ (.int .i64 0)).setCell ⟨W.heap.size, 3, none⟩ (.int .i64 2)).setCell
    ⟨W.heap.size, 4, none⟩ (.int .i64 6)).setCell ⟨W.heap.size, 5, none⟩ (.slice ka kl kc)).setCell ⟨W.heap.size, 6, none⟩ (.int .i64 5) = Z at k7 hBZ hZz ⊢
  have hlz : W.heap.size < Z.heap.size := by rw [hZz]; exact hz
  have hsl := slOf_new Z 56 7 (stCells [⟨30, 26, 28, 0, 2, 3, 4⟩, ⟨due, 25, 26, 2, 4, 0, 0⟩]) (by intro r hr; simp [stCells, St.cells] at hr; rcases hr with rfl | rfl <;> rfl) (by simp [stCells, maxLen])
  have k7' := (heap_alloc_old Z (.cells (stCells [⟨30, 26, 28, 0, 2, 3, 4⟩, ⟨due, 25, 26, 2, 4, 0, 0⟩]).flatten.toArray 56) hlz).trans k7
  have hBY : Below W.heap.size W (Z.alloc (.cells (stCells [⟨30, 26, 28, 0, 2, 3, 4⟩, ⟨due, 25, 26, 2, 4, 0, 0⟩]).flatten.toArray 56)) := hBZ.alloc (Nat.le_of_lt hlz) _
  have hYz : (Z.alloc (.cells (stCells [⟨30, 26, 28, 0, 2, 3, 4⟩, ⟨due, 25, 26, 2, 4, 0, 0⟩]).flatten.toArray 56)).heap.size = w'.heap.size + 1 := by simp [hZz]
  rw [hZz] at hsl
  simp only [stCells, St.cells, List.map_cons, List.map_nil, List.flatten_cons, List.flatten_nil, List.cons_append, List.nil_append, List.append_nil, List.length_cons, List.length_nil, Nat.zero_add, Nat.reduceAdd] at hsl k7' hBY hYz ⊢
  generalize Z.alloc _ = Y at hsl k7' hBY hYz ⊢
  have c0 : Y.cell? ⟨W.heap.size, 0, none⟩ = some (.slice (some ⟨w'.heap.size, 0, none⟩) 2 2) := blk_cell k7'
  have c1 : Y.cell? ⟨W.heap.size, 1, none⟩ = some (.int .i64 3) := blk_cell k7'
  have c2 : Y.cell? ⟨W.heap.size, 2, none⟩ = some (.int .i64 0) := blk_cell k7'
  have c3 : Y.cell? ⟨W.heap.size, 3, none⟩ = some (.int .i64 2) := blk_cell k7'
  have c4 : Y.cell? ⟨W.heap.size, 4, none⟩ = some (.int .i64 6) := blk_cell k7'
  have c5 : Y.cell? ⟨W.heap.size, 5, none⟩ = some (.slice ka kl kc) := blk_cell k7'
  have c6 : Y.cell? ⟨W.heap.size, 6, none⟩ = some (.int .i64 5) := blk_cell k7'
  exact bodyPost_ret (v := .agg #[.slice (some ⟨w'.heap.size, 0, none⟩) 2 2, .int .i64 3, .int .i64 0, .int .i64 2, .int .i64 6, .slice ka kl kc, .int .i64 5]) (by simp [results, Tryd.results60, go_sem, c0, c1, c2, c3, c4, c5, c6]) rfl
    ⟨w'.heap.size, rfl, hBY, by omega, by rw [hYz]; exact hsl⟩
end Go.Proofs.YtbhjfojbjpbdbaaDoor

-- B4: The chapter's books (package macadamlaw06: own). Written by a session.
namespace Go.Proofs.YtbhjfojbjpbdbaaDoor
open Go.RowKit

/-- the chapter's book, due in a minute, with some clocks. -/
def bookB (due : Int) (cks : List Ck) : Bk := ⟨[⟨30, 26, 28, 0, 2, 3, 4⟩, ⟨due, 25, 26, 2, 4, 0, 0⟩], 3, 0, 2, 6, cks, 5⟩

set_option maxHeartbeats 1000000 in
theorem own_any (W : World) : Calls Tryd.prog 59 #[] W fun e W' => ∃ g, e = .returned (.agg ((bookB 62 []).cells (.slice (some ⟨g, 0, none⟩) 2 2) (.slice none 0 0)).toArray) ∧ Below W.heap.size W W' ∧ BookW W' W'.heap.size (some ⟨g, 0, none⟩) none 2 2 0 0 (bookB 62 []) := by
  obtain ⟨V, hV⟩ : ∃ V, W.alloc (.cells #[.slice none 0 0, .int .i64 0, .int .i64 0, .int .i64 0, .int .i64 0, .slice none 0 0, .int .i64 0] 26) = V := ⟨_, rfl⟩
  have hBV : Below W.heap.size W V := by rw [← hV]; exact (Below.refl _ _).alloc (Nat.le_refl _) _
  have hr : V.heap[W.heap.size]? = some (.cells #[.slice none 0 0, .int .i64 0, .int .i64 0, .int .i64 0, .int .i64 0, .slice none 0 0, .int .i64 0] 26) := by rw [← hV]; exact World.alloc_heap_new _ _
  have hlt : W.heap.size < V.heap.size := (Array.getElem?_eq_some_iff.1 hr).1
  have r0 : V.cell? ⟨W.heap.size, 0, none⟩ = some (.slice none 0 0) := blk_cell hr
  have f0 := blk_frozen hr 0
  have r1 : V.cell? ⟨W.heap.size, 1, none⟩ = some (.int .i64 0) := blk_cell hr
  have f1 := blk_frozen hr 1
  have r2 : V.cell? ⟨W.heap.size, 2, none⟩ = some (.int .i64 0) := blk_cell hr
  have f2 := blk_frozen hr 2
  have r3 : V.cell? ⟨W.heap.size, 3, none⟩ = some (.int .i64 0) := blk_cell hr
  have f3 := blk_frozen hr 3
  have r4 : V.cell? ⟨W.heap.size, 4, none⟩ = some (.int .i64 0) := blk_cell hr
  have f4 := blk_frozen hr 4
  have r5 : V.cell? ⟨W.heap.size, 5, none⟩ = some (.slice none 0 0) := blk_cell hr
  have f5 := blk_frozen hr 5
  have r6 : V.cell? ⟨W.heap.size, 6, none⟩ = some (.int .i64 0) := blk_cell hr
  have f6 := blk_frozen hr 6
  have HR := Lib.hid hr
  clear hr
  go_enter Tryd.func59, Tryd.ntmps59
  go_upto_region 1 with fail
  try rw [hV]
  clear hV
  go_wp2_with (first
    | (go_at_call 60; refine (book_any 62 none 0 0 V).mono ?_; rintro e w' ⟨g, rfl, hb, hgv, hs⟩; have hk := (bcell hb).1; have hf := (bcell hb).2; have HB := Lib.hid hb; have HS := Lib.hid hs; clear hb hs)
    | fail)
  obtain ⟨k7, hBZ, hZz⟩ := stored7 ((HB.out.block _ hlt).trans HR.out) (.slice (some ⟨g, 0, none⟩) 2 2) (.int .i64 3) (.int .i64 0) (.int .i64 2) (.int .i64 6) (.slice none 0 0) (.int .i64 5) (hBV.trans (HB.out.mono hBV.size)) (Nat.le_refl W.heap.size)
  have hkeep : ∀ k, k ≠ W.heap.size → ((((((((w'.setCell ⟨W.heap.size, 0, none⟩ (.slice (some ⟨g, 0, none⟩) 2 2)).setCell ⟨W.heap.size, 1, none⟩ (.int .i64 3)).setCell ⟨W.heap.size, 2, none⟩ (.int .i64 0)).setCell ⟨W.heap.size, 3, none⟩ (.int .i64 2)).setCell
    ⟨W.heap.size, 4, none⟩ (.int .i64 6)).setCell ⟨W.heap.size, 5, none⟩ (.slice none 0 0)).setCell ⟨W.heap.size, 6, none⟩ (.int .i64 5)).heap[k]? = w'.heap[k]?) := fun k hk =>
    (Below.heap_setCell _ _ _ _ hk).trans ((Below.heap_setCell _ _ _ _ hk).trans ((Below.heap_setCell _ _ _ _ hk).trans ((Below.heap_setCell _ _ _ _ hk).trans ((Below.heap_setCell _ _ _ _ hk).trans ((Below.heap_setCell _ _ _ _ hk).trans (Below.heap_setCell _ _ _ _ hk))))))
  generalize ((((((w'.setCell ⟨W.heap.size, 0, none⟩ (.slice (some ⟨g, 0, none⟩) 2 2)).setCell ⟨W.heap.size, 1, none⟩ (.int .i64 3)).setCell ⟨W.heap.size, 2, none⟩ (.int .i64 0)).setCell ⟨W.heap.size, 3, none⟩ (.int .i64 2)).setCell
    ⟨W.heap.size, 4, none⟩ (.int .i64 6)).setCell ⟨W.heap.size, 5, none⟩ (.slice none 0 0)).setCell ⟨W.heap.size, 6, none⟩ (.int .i64 5) = Y at k7 hBZ hZz hkeep ⊢
  have c0 : Y.cell? ⟨W.heap.size, 0, none⟩ = some (.slice (some ⟨g, 0, none⟩) 2 2) := blk_cell k7
  have c1 : Y.cell? ⟨W.heap.size, 1, none⟩ = some (.int .i64 3) := blk_cell k7
  have c2 : Y.cell? ⟨W.heap.size, 2, none⟩ = some (.int .i64 0) := blk_cell k7
  have c3 : Y.cell? ⟨W.heap.size, 3, none⟩ = some (.int .i64 2) := blk_cell k7
  have c4 : Y.cell? ⟨W.heap.size, 4, none⟩ = some (.int .i64 6) := blk_cell k7
  have c5 : Y.cell? ⟨W.heap.size, 5, none⟩ = some (.slice none 0 0) := blk_cell k7
  have c6 : Y.cell? ⟨W.heap.size, 6, none⟩ = some (.int .i64 5) := blk_cell k7
  have hsY : SlOf Y Y.heap.size 7 (.slice (some ⟨g, 0, none⟩) 2 2) (stCells (bookB 62 []).sts) := by
    obtain ⟨a, cap, e, h1, h2, h3, h4⟩ := HS.out
    refine ⟨a, cap, e, h1, h2, h3, fun hp => ?_⟩
    obtain ⟨b, o, e1, hb, hc⟩ := h4 hp
    rw [e1] at e
    injection e with e2 _ _
    injection e2 with e2
    have hbg : g = b := congrArg Addr.block e2
    refine ⟨b, o, e1, by rw [hZz]; exact hb, fun i j r c hi hj => ?_⟩
    exact (World.cell?_of_block (w := w') (a := ⟨b, _, none⟩) (hkeep b (by omega))).trans (hc i j r c hi hj)
  exact bodyPost_ret (v := .agg #[.slice (some ⟨g, 0, none⟩) 2 2, .int .i64 3, .int .i64 0, .int .i64 2, .int .i64 6, .slice none 0 0, .int .i64 5]) (by simp [results, Tryd.results59, go_sem, c0, c1, c2, c3, c4, c5, c6]) rfl
    ⟨g, rfl, hBZ, Nat.le_refl _, hsY, slOf_nil _ _ _, rfl, rfl⟩
end Go.Proofs.YtbhjfojbjpbdbaaDoor

-- B5: The chapter's books with clocks (package macadamlaw06: read, tight). Written by a session; printed by wip/tools/b5.py.
namespace Go.Proofs.YtbhjfojbjpbdbaaDoor
open Go.RowKit

set_option maxHeartbeats 1000000 in
theorem read_any (W : World) : Calls Tryd.prog 62 #[] W fun e W' => ∃ g h, e = .returned (.agg ((bookB 62 [⟨1, 66, 0⟩]).cells (.slice (some ⟨g, 0, none⟩) 2 2) (.slice (some ⟨h, 0, none⟩) 1 1)).toArray) ∧ Below W.heap.size W W' ∧ BookW W' W'.heap.size (some ⟨g, 0, none⟩) (some ⟨h, 0, none⟩) 2 2 1 1 (bookB 62 [⟨1, 66, 0⟩]) := by
  obtain ⟨V, hV⟩ : ∃ V, W.alloc (.cells #[.slice none 0 0, .int .i64 0, .int .i64 0, .int .i64 0, .int .i64 0, .slice none 0 0, .int .i64 0] 26) = V := ⟨_, rfl⟩
  have hBV : Below W.heap.size W V := by rw [← hV]; exact (Below.refl _ _).alloc (Nat.le_refl _) _
  have hr : V.heap[W.heap.size]? = some (.cells #[.slice none 0 0, .int .i64 0, .int .i64 0, .int .i64 0, .int .i64 0, .slice none 0 0, .int .i64 0] 26) := by rw [← hV]; exact World.alloc_heap_new _ _
  have hlt : W.heap.size < V.heap.size := (Array.getElem?_eq_some_iff.1 hr).1
  have r0 : V.cell? ⟨W.heap.size, 0, none⟩ = some (.slice none 0 0) := blk_cell hr
  have f0 := blk_frozen hr 0
  have r1 : V.cell? ⟨W.heap.size, 1, none⟩ = some (.int .i64 0) := blk_cell hr
  have f1 := blk_frozen hr 1
  have r2 : V.cell? ⟨W.heap.size, 2, none⟩ = some (.int .i64 0) := blk_cell hr
  have f2 := blk_frozen hr 2
  have r3 : V.cell? ⟨W.heap.size, 3, none⟩ = some (.int .i64 0) := blk_cell hr
  have f3 := blk_frozen hr 3
  have r4 : V.cell? ⟨W.heap.size, 4, none⟩ = some (.int .i64 0) := blk_cell hr
  have f4 := blk_frozen hr 4
  have r5 : V.cell? ⟨W.heap.size, 5, none⟩ = some (.slice none 0 0) := blk_cell hr
  have f5 := blk_frozen hr 5
  have r6 : V.cell? ⟨W.heap.size, 6, none⟩ = some (.int .i64 0) := blk_cell hr
  have f6 := blk_frozen hr 6
  have HR := Lib.hid hr
  clear hr
  go_enter Tryd.func62, Tryd.ntmps62
  go_upto_region 1 with fail
  try rw [hV]
  clear hV
  go_wp2_with (first
    | (go_at_call 49; refine (clock_any _ _ _ _).mono ?_; rintro e w1 ⟨rfl, hb1⟩; have HB1 := Lib.hid hb1; clear hb1; simp only [Ck.cells])
    | fail)
  have hV1 : Below V.heap.size V (w1.alloc (.cells #[.int .i64 1, .int .i64 66, .int .i64 0] 42)) := HB1.out.alloc HB1.out.size _
  have hk1 := slOf_new w1 42 3 (ckCells [⟨1, 66, 0⟩]) (by intro r hr; simp [ckCells, Ck.cells] at hr; subst hr; rfl) (by simp [ckCells, maxLen])
  have HK1 := Lib.hid (show SlOf (w1.alloc (.cells #[.int .i64 1, .int .i64 66, .int .i64 0] 42)) (w1.alloc (.cells #[.int .i64 1, .int .i64 66, .int .i64 0] 42)).heap.size 3 (.slice (some ⟨w1.heap.size, 0, none⟩) 1 1) (ckCells [⟨1, 66, 0⟩]) by rw [World.size_alloc]; exact hk1)
  clear hk1
  go_wp2_with (first
    | (go_at_call 60; refine (book_any 62 (some ⟨w1.heap.size, 0, none⟩) 1 1 _).mono ?_; rintro e w' ⟨g, rfl, hb', hgv, hs⟩; have HBB := Lib.hid hb'; have hb := hV1.trans (hb'.mono hV1.size); have hk := (bcell hb).1; have hf := (bcell hb).2; have HB := Lib.hid hb; have HS := Lib.hid hs; clear hb hs hb')
    | fail)
  obtain ⟨k7, hBZ, hZz⟩ := stored7 ((HB.out.block _ hlt).trans HR.out) (.slice (some ⟨g, 0, none⟩) 2 2) (.int .i64 3) (.int .i64 0) (.int .i64 2) (.int .i64 6) (.slice (some ⟨w1.heap.size, 0, none⟩) 1 1) (.int .i64 5) (hBV.trans (HB.out.mono hBV.size)) (Nat.le_refl W.heap.size)
  have hkeep : ∀ k, k ≠ W.heap.size → ((((((((w'.setCell ⟨W.heap.size, 0, none⟩ (.slice (some ⟨g, 0, none⟩) 2 2)).setCell ⟨W.heap.size, 1, none⟩ (.int .i64 3)).setCell ⟨W.heap.size, 2, none⟩ (.int .i64 0)).setCell ⟨W.heap.size, 3, none⟩ (.int .i64 2)).setCell
    ⟨W.heap.size, 4, none⟩ (.int .i64 6)).setCell ⟨W.heap.size, 5, none⟩ (.slice (some ⟨w1.heap.size, 0, none⟩) 1 1)).setCell ⟨W.heap.size, 6, none⟩ (.int .i64 5)).heap[k]? = w'.heap[k]?) := fun k hk =>
    (Below.heap_setCell _ _ _ _ hk).trans ((Below.heap_setCell _ _ _ _ hk).trans ((Below.heap_setCell _ _ _ _ hk).trans ((Below.heap_setCell _ _ _ _ hk).trans ((Below.heap_setCell _ _ _ _ hk).trans ((Below.heap_setCell _ _ _ _ hk).trans (Below.heap_setCell _ _ _ _ hk))))))
  generalize ((((((w'.setCell ⟨W.heap.size, 0, none⟩ (.slice (some ⟨g, 0, none⟩) 2 2)).setCell ⟨W.heap.size, 1, none⟩ (.int .i64 3)).setCell ⟨W.heap.size, 2, none⟩ (.int .i64 0)).setCell ⟨W.heap.size, 3, none⟩ (.int .i64 2)).setCell
    ⟨W.heap.size, 4, none⟩ (.int .i64 6)).setCell ⟨W.heap.size, 5, none⟩ (.slice (some ⟨w1.heap.size, 0, none⟩) 1 1)).setCell ⟨W.heap.size, 6, none⟩ (.int .i64 5) = Y at k7 hBZ hZz hkeep ⊢
  have c0 : Y.cell? ⟨W.heap.size, 0, none⟩ = some (.slice (some ⟨g, 0, none⟩) 2 2) := blk_cell k7
  have c1 : Y.cell? ⟨W.heap.size, 1, none⟩ = some (.int .i64 3) := blk_cell k7
  have c2 : Y.cell? ⟨W.heap.size, 2, none⟩ = some (.int .i64 0) := blk_cell k7
  have c3 : Y.cell? ⟨W.heap.size, 3, none⟩ = some (.int .i64 2) := blk_cell k7
  have c4 : Y.cell? ⟨W.heap.size, 4, none⟩ = some (.int .i64 6) := blk_cell k7
  have c5 : Y.cell? ⟨W.heap.size, 5, none⟩ = some (.slice (some ⟨w1.heap.size, 0, none⟩) 1 1) := blk_cell k7
  have c6 : Y.cell? ⟨W.heap.size, 6, none⟩ = some (.int .i64 5) := blk_cell k7
  have hsY : SlOf Y Y.heap.size 7 (.slice (some ⟨g, 0, none⟩) 2 2) (stCells (bookB 62 [⟨1, 66, 0⟩]).sts) := by
    obtain ⟨a, cap, e, h1, h2, h3, h4⟩ := HS.out
    refine ⟨a, cap, e, h1, h2, h3, fun hp => ?_⟩
    obtain ⟨b, o, e1, hb, hc⟩ := h4 hp
    rw [e1] at e
    injection e with e2 _ _
    injection e2 with e2
    have hbg : g = b := congrArg Addr.block e2
    refine ⟨b, o, e1, by rw [hZz]; exact hb, fun i j r c hi hj => ?_⟩
    exact (World.cell?_of_block (w := w') (a := ⟨b, _, none⟩) (hkeep b (by have := hV1.size; omega))).trans (hc i j r c hi hj)
  have hkY : SlOf Y Y.heap.size 3 (.slice (some ⟨w1.heap.size, 0, none⟩) 1 1) (ckCells [⟨1, 66, 0⟩]) := by
    obtain ⟨a, cap, e, h1, h2, h3, h4⟩ := HK1.out
    refine ⟨a, cap, e, h1, h2, h3, fun hp => ?_⟩
    obtain ⟨b, o, e1, hb, hc⟩ := h4 hp
    rw [e1] at e
    injection e with e2 _ _
    injection e2 with e2
    have hbg : w1.heap.size = b := congrArg Addr.block e2
    have hz1 := HB1.out.size
    refine ⟨b, o, e1, by rw [hZz]; have := HBB.out.size; omega, fun i j r c hi hj => ?_⟩
    exact (World.cell?_of_block (w := w') (a := ⟨b, _, none⟩) (hkeep b (by omega))).trans ((HBB.out.cell (p := ⟨b, _, none⟩) hb).trans (hc i j r c hi hj))
  exact bodyPost_ret (v := .agg #[.slice (some ⟨g, 0, none⟩) 2 2, .int .i64 3, .int .i64 0, .int .i64 2, .int .i64 6, .slice (some ⟨w1.heap.size, 0, none⟩) 1 1, .int .i64 5]) (by simp [results, Tryd.results62, go_sem, c0, c1, c2, c3, c4, c5, c6]) rfl
    ⟨g, w1.heap.size, rfl, hBZ, Nat.le_refl _, hsY, hkY, rfl, rfl⟩
set_option maxHeartbeats 1000000 in
theorem tight_any (W : World) : Calls Tryd.prog 63 #[] W fun e W' => ∃ g h, e = .returned (.agg ((bookB 61 [⟨1, 66, 0⟩]).cells (.slice (some ⟨g, 0, none⟩) 2 2) (.slice (some ⟨h, 0, none⟩) 1 1)).toArray) ∧ Below W.heap.size W W' ∧ BookW W' W'.heap.size (some ⟨g, 0, none⟩) (some ⟨h, 0, none⟩) 2 2 1 1 (bookB 61 [⟨1, 66, 0⟩]) := by
  obtain ⟨V, hV⟩ : ∃ V, W.alloc (.cells #[.slice none 0 0, .int .i64 0, .int .i64 0, .int .i64 0, .int .i64 0, .slice none 0 0, .int .i64 0] 26) = V := ⟨_, rfl⟩
  have hBV : Below W.heap.size W V := by rw [← hV]; exact (Below.refl _ _).alloc (Nat.le_refl _) _
  have hr : V.heap[W.heap.size]? = some (.cells #[.slice none 0 0, .int .i64 0, .int .i64 0, .int .i64 0, .int .i64 0, .slice none 0 0, .int .i64 0] 26) := by rw [← hV]; exact World.alloc_heap_new _ _
  have hlt : W.heap.size < V.heap.size := (Array.getElem?_eq_some_iff.1 hr).1
  have r0 : V.cell? ⟨W.heap.size, 0, none⟩ = some (.slice none 0 0) := blk_cell hr
  have f0 := blk_frozen hr 0
  have r1 : V.cell? ⟨W.heap.size, 1, none⟩ = some (.int .i64 0) := blk_cell hr
  have f1 := blk_frozen hr 1
  have r2 : V.cell? ⟨W.heap.size, 2, none⟩ = some (.int .i64 0) := blk_cell hr
  have f2 := blk_frozen hr 2
  have r3 : V.cell? ⟨W.heap.size, 3, none⟩ = some (.int .i64 0) := blk_cell hr
  have f3 := blk_frozen hr 3
  have r4 : V.cell? ⟨W.heap.size, 4, none⟩ = some (.int .i64 0) := blk_cell hr
  have f4 := blk_frozen hr 4
  have r5 : V.cell? ⟨W.heap.size, 5, none⟩ = some (.slice none 0 0) := blk_cell hr
  have f5 := blk_frozen hr 5
  have r6 : V.cell? ⟨W.heap.size, 6, none⟩ = some (.int .i64 0) := blk_cell hr
  have f6 := blk_frozen hr 6
  have HR := Lib.hid hr
  clear hr
  go_enter Tryd.func63, Tryd.ntmps63
  go_upto_region 1 with fail
  try rw [hV]
  clear hV
  go_wp2_with (first
    | (go_at_call 49; refine (clock_any _ _ _ _).mono ?_; rintro e w1 ⟨rfl, hb1⟩; have HB1 := Lib.hid hb1; clear hb1; simp only [Ck.cells])
    | fail)
  have hV1 : Below V.heap.size V (w1.alloc (.cells #[.int .i64 1, .int .i64 66, .int .i64 0] 42)) := HB1.out.alloc HB1.out.size _
  have hk1 := slOf_new w1 42 3 (ckCells [⟨1, 66, 0⟩]) (by intro r hr; simp [ckCells, Ck.cells] at hr; subst hr; rfl) (by simp [ckCells, maxLen])
  have HK1 := Lib.hid (show SlOf (w1.alloc (.cells #[.int .i64 1, .int .i64 66, .int .i64 0] 42)) (w1.alloc (.cells #[.int .i64 1, .int .i64 66, .int .i64 0] 42)).heap.size 3 (.slice (some ⟨w1.heap.size, 0, none⟩) 1 1) (ckCells [⟨1, 66, 0⟩]) by rw [World.size_alloc]; exact hk1)
  clear hk1
  go_wp2_with (first
    | (go_at_call 60; refine (book_any 61 (some ⟨w1.heap.size, 0, none⟩) 1 1 _).mono ?_; rintro e w' ⟨g, rfl, hb', hgv, hs⟩; have HBB := Lib.hid hb'; have hb := hV1.trans (hb'.mono hV1.size); have hk := (bcell hb).1; have hf := (bcell hb).2; have HB := Lib.hid hb; have HS := Lib.hid hs; clear hb hs hb')
    | fail)
  obtain ⟨k7, hBZ, hZz⟩ := stored7 ((HB.out.block _ hlt).trans HR.out) (.slice (some ⟨g, 0, none⟩) 2 2) (.int .i64 3) (.int .i64 0) (.int .i64 2) (.int .i64 6) (.slice (some ⟨w1.heap.size, 0, none⟩) 1 1) (.int .i64 5) (hBV.trans (HB.out.mono hBV.size)) (Nat.le_refl W.heap.size)
  have hkeep : ∀ k, k ≠ W.heap.size → ((((((((w'.setCell ⟨W.heap.size, 0, none⟩ (.slice (some ⟨g, 0, none⟩) 2 2)).setCell ⟨W.heap.size, 1, none⟩ (.int .i64 3)).setCell ⟨W.heap.size, 2, none⟩ (.int .i64 0)).setCell ⟨W.heap.size, 3, none⟩ (.int .i64 2)).setCell
    ⟨W.heap.size, 4, none⟩ (.int .i64 6)).setCell ⟨W.heap.size, 5, none⟩ (.slice (some ⟨w1.heap.size, 0, none⟩) 1 1)).setCell ⟨W.heap.size, 6, none⟩ (.int .i64 5)).heap[k]? = w'.heap[k]?) := fun k hk =>
    (Below.heap_setCell _ _ _ _ hk).trans ((Below.heap_setCell _ _ _ _ hk).trans ((Below.heap_setCell _ _ _ _ hk).trans ((Below.heap_setCell _ _ _ _ hk).trans ((Below.heap_setCell _ _ _ _ hk).trans ((Below.heap_setCell _ _ _ _ hk).trans (Below.heap_setCell _ _ _ _ hk))))))
  generalize ((((((w'.setCell ⟨W.heap.size, 0, none⟩ (.slice (some ⟨g, 0, none⟩) 2 2)).setCell ⟨W.heap.size, 1, none⟩ (.int .i64 3)).setCell ⟨W.heap.size, 2, none⟩ (.int .i64 0)).setCell ⟨W.heap.size, 3, none⟩ (.int .i64 2)).setCell
    ⟨W.heap.size, 4, none⟩ (.int .i64 6)).setCell ⟨W.heap.size, 5, none⟩ (.slice (some ⟨w1.heap.size, 0, none⟩) 1 1)).setCell ⟨W.heap.size, 6, none⟩ (.int .i64 5) = Y at k7 hBZ hZz hkeep ⊢
  have c0 : Y.cell? ⟨W.heap.size, 0, none⟩ = some (.slice (some ⟨g, 0, none⟩) 2 2) := blk_cell k7
  have c1 : Y.cell? ⟨W.heap.size, 1, none⟩ = some (.int .i64 3) := blk_cell k7
  have c2 : Y.cell? ⟨W.heap.size, 2, none⟩ = some (.int .i64 0) := blk_cell k7
  have c3 : Y.cell? ⟨W.heap.size, 3, none⟩ = some (.int .i64 2) := blk_cell k7
  have c4 : Y.cell? ⟨W.heap.size, 4, none⟩ = some (.int .i64 6) := blk_cell k7
  have c5 : Y.cell? ⟨W.heap.size, 5, none⟩ = some (.slice (some ⟨w1.heap.size, 0, none⟩) 1 1) := blk_cell k7
  have c6 : Y.cell? ⟨W.heap.size, 6, none⟩ = some (.int .i64 5) := blk_cell k7
  have hsY : SlOf Y Y.heap.size 7 (.slice (some ⟨g, 0, none⟩) 2 2) (stCells (bookB 61 [⟨1, 66, 0⟩]).sts) := by
    obtain ⟨a, cap, e, h1, h2, h3, h4⟩ := HS.out
    refine ⟨a, cap, e, h1, h2, h3, fun hp => ?_⟩
    obtain ⟨b, o, e1, hb, hc⟩ := h4 hp
    rw [e1] at e
    injection e with e2 _ _
    injection e2 with e2
    have hbg : g = b := congrArg Addr.block e2
    refine ⟨b, o, e1, by rw [hZz]; exact hb, fun i j r c hi hj => ?_⟩
    exact (World.cell?_of_block (w := w') (a := ⟨b, _, none⟩) (hkeep b (by have := hV1.size; omega))).trans (hc i j r c hi hj)
  have hkY : SlOf Y Y.heap.size 3 (.slice (some ⟨w1.heap.size, 0, none⟩) 1 1) (ckCells [⟨1, 66, 0⟩]) := by
    obtain ⟨a, cap, e, h1, h2, h3, h4⟩ := HK1.out
    refine ⟨a, cap, e, h1, h2, h3, fun hp => ?_⟩
    obtain ⟨b, o, e1, hb, hc⟩ := h4 hp
    rw [e1] at e
    injection e with e2 _ _
    injection e2 with e2
    have hbg : w1.heap.size = b := congrArg Addr.block e2
    have hz1 := HB1.out.size
    refine ⟨b, o, e1, by rw [hZz]; have := HBB.out.size; omega, fun i j r c hi hj => ?_⟩
    exact (World.cell?_of_block (w := w') (a := ⟨b, _, none⟩) (hkeep b (by omega))).trans ((HBB.out.cell (p := ⟨b, _, none⟩) hb).trans (hc i j r c hi hj))
  exact bodyPost_ret (v := .agg #[.slice (some ⟨g, 0, none⟩) 2 2, .int .i64 3, .int .i64 0, .int .i64 2, .int .i64 6, .slice (some ⟨w1.heap.size, 0, none⟩) 1 1, .int .i64 5]) (by simp [results, Tryd.results63, go_sem, c0, c1, c2, c3, c4, c5, c6]) rfl
    ⟨g, w1.heap.size, rfl, hBZ, Nat.le_refl _, hsY, hkY, rfl, rfl⟩
end Go.Proofs.YtbhjfojbjpbdbaaDoor

-- B6: The chapter's books with clocks (package macadamlaw06: torn). Written by a session; printed by wip/tools/b6.py.
namespace Go.Proofs.YtbhjfojbjpbdbaaDoor
open Go.RowKit

set_option maxHeartbeats 1000000 in
theorem torn_any (W : World) : Calls Tryd.prog 61 #[] W fun e W' => ∃ g h, e = .returned (.agg ((bookB 62 [⟨1, 66, 0⟩, ⟨0, 26, 0⟩]).cells (.slice (some ⟨g, 0, none⟩) 2 2) (.slice (some ⟨h, 0, none⟩) 2 2)).toArray) ∧ Below W.heap.size W W' ∧ BookW W' W'.heap.size (some ⟨g, 0, none⟩) (some ⟨h, 0, none⟩) 2 2 2 2 (bookB 62 [⟨1, 66, 0⟩, ⟨0, 26, 0⟩]) := by
  obtain ⟨V, hV⟩ : ∃ V, W.alloc (.cells #[.slice none 0 0, .int .i64 0, .int .i64 0, .int .i64 0, .int .i64 0, .slice none 0 0, .int .i64 0] 26) = V := ⟨_, rfl⟩
  have hBV : Below W.heap.size W V := by rw [← hV]; exact (Below.refl _ _).alloc (Nat.le_refl _) _
  have hr : V.heap[W.heap.size]? = some (.cells #[.slice none 0 0, .int .i64 0, .int .i64 0, .int .i64 0, .int .i64 0, .slice none 0 0, .int .i64 0] 26) := by rw [← hV]; exact World.alloc_heap_new _ _
  have hlt : W.heap.size < V.heap.size := (Array.getElem?_eq_some_iff.1 hr).1
  have r0 : V.cell? ⟨W.heap.size, 0, none⟩ = some (.slice none 0 0) := blk_cell hr
  have f0 := blk_frozen hr 0
  have r1 : V.cell? ⟨W.heap.size, 1, none⟩ = some (.int .i64 0) := blk_cell hr
  have f1 := blk_frozen hr 1
  have r2 : V.cell? ⟨W.heap.size, 2, none⟩ = some (.int .i64 0) := blk_cell hr
  have f2 := blk_frozen hr 2
  have r3 : V.cell? ⟨W.heap.size, 3, none⟩ = some (.int .i64 0) := blk_cell hr
  have f3 := blk_frozen hr 3
  have r4 : V.cell? ⟨W.heap.size, 4, none⟩ = some (.int .i64 0) := blk_cell hr
  have f4 := blk_frozen hr 4
  have r5 : V.cell? ⟨W.heap.size, 5, none⟩ = some (.slice none 0 0) := blk_cell hr
  have f5 := blk_frozen hr 5
  have r6 : V.cell? ⟨W.heap.size, 6, none⟩ = some (.int .i64 0) := blk_cell hr
  have f6 := blk_frozen hr 6
  have hVV : Below V.heap.size V V := Below.refl _ _
  have HR := Lib.hid hr
  clear hr
  go_enter Tryd.func61, Tryd.ntmps61
  go_upto_region 1 with fail
  try rw [hV]
  clear hV
  go_wp2_with (first
    | (go_at_call 49; refine (clock_any _ _ _ _).mono ?_; rintro e w1 ⟨rfl, hb1⟩; replace hVV := hVV.trans (hb1.mono hVV.size); clear hb1; simp only [Ck.cells])
    | fail)
  have HB1 := Lib.hid hVV
  have hV1 : Below V.heap.size V (w1.alloc (.cells #[.int .i64 1, .int .i64 66, .int .i64 0, .int .i64 0, .int .i64 26, .int .i64 0] 42)) := HB1.out.alloc HB1.out.size _
  have hk1 := slOf_new w1 42 3 (ckCells [⟨1, 66, 0⟩, ⟨0, 26, 0⟩]) (by intro r hr; simp [ckCells, Ck.cells] at hr; rcases hr with rfl | rfl <;> rfl) (by simp [ckCells, maxLen])
  have HK1 := Lib.hid (show SlOf (w1.alloc (.cells #[.int .i64 1, .int .i64 66, .int .i64 0, .int .i64 0, .int .i64 26, .int .i64 0] 42)) (w1.alloc (.cells #[.int .i64 1, .int .i64 66, .int .i64 0, .int .i64 0, .int .i64 26, .int .i64 0] 42)).heap.size 3 (.slice (some ⟨w1.heap.size, 0, none⟩) 2 2) (ckCells [⟨1, 66, 0⟩, ⟨0, 26, 0⟩]) by rw [World.size_alloc]; exact hk1)
  clear hk1
  go_wp2_with (first
    | (go_at_call 60; refine (book_any 62 (some ⟨w1.heap.size, 0, none⟩) 2 2 _).mono ?_; rintro e w' ⟨g, rfl, hb', hgv, hs⟩; have HBB := Lib.hid hb'; have hb := hV1.trans (hb'.mono hV1.size); have hk := (bcell hb).1; have hf := (bcell hb).2; have HB := Lib.hid hb; have HS := Lib.hid hs; clear hb hs hb')
    | fail)
  obtain ⟨k7, hBZ, hZz⟩ := stored7 ((HB.out.block _ hlt).trans HR.out) (.slice (some ⟨g, 0, none⟩) 2 2) (.int .i64 3) (.int .i64 0) (.int .i64 2) (.int .i64 6) (.slice (some ⟨w1.heap.size, 0, none⟩) 2 2) (.int .i64 5) (hBV.trans (HB.out.mono hBV.size)) (Nat.le_refl W.heap.size)
  have hkeep : ∀ k, k ≠ W.heap.size → ((((((((w'.setCell ⟨W.heap.size, 0, none⟩ (.slice (some ⟨g, 0, none⟩) 2 2)).setCell ⟨W.heap.size, 1, none⟩ (.int .i64 3)).setCell ⟨W.heap.size, 2, none⟩ (.int .i64 0)).setCell ⟨W.heap.size, 3, none⟩ (.int .i64 2)).setCell
    ⟨W.heap.size, 4, none⟩ (.int .i64 6)).setCell ⟨W.heap.size, 5, none⟩ (.slice (some ⟨w1.heap.size, 0, none⟩) 2 2)).setCell ⟨W.heap.size, 6, none⟩ (.int .i64 5)).heap[k]? = w'.heap[k]?) := fun k hk =>
    (Below.heap_setCell _ _ _ _ hk).trans ((Below.heap_setCell _ _ _ _ hk).trans ((Below.heap_setCell _ _ _ _ hk).trans ((Below.heap_setCell _ _ _ _ hk).trans ((Below.heap_setCell _ _ _ _ hk).trans ((Below.heap_setCell _ _ _ _ hk).trans (Below.heap_setCell _ _ _ _ hk))))))
  generalize ((((((w'.setCell ⟨W.heap.size, 0, none⟩ (.slice (some ⟨g, 0, none⟩) 2 2)).setCell ⟨W.heap.size, 1, none⟩ (.int .i64 3)).setCell ⟨W.heap.size, 2, none⟩ (.int .i64 0)).setCell ⟨W.heap.size, 3, none⟩ (.int .i64 2)).setCell
    ⟨W.heap.size, 4, none⟩ (.int .i64 6)).setCell ⟨W.heap.size, 5, none⟩ (.slice (some ⟨w1.heap.size, 0, none⟩) 2 2)).setCell ⟨W.heap.size, 6, none⟩ (.int .i64 5) = Y at k7 hBZ hZz hkeep ⊢
  have c0 : Y.cell? ⟨W.heap.size, 0, none⟩ = some (.slice (some ⟨g, 0, none⟩) 2 2) := blk_cell k7
  have c1 : Y.cell? ⟨W.heap.size, 1, none⟩ = some (.int .i64 3) := blk_cell k7
  have c2 : Y.cell? ⟨W.heap.size, 2, none⟩ = some (.int .i64 0) := blk_cell k7
  have c3 : Y.cell? ⟨W.heap.size, 3, none⟩ = some (.int .i64 2) := blk_cell k7
  have c4 : Y.cell? ⟨W.heap.size, 4, none⟩ = some (.int .i64 6) := blk_cell k7
  have c5 : Y.cell? ⟨W.heap.size, 5, none⟩ = some (.slice (some ⟨w1.heap.size, 0, none⟩) 2 2) := blk_cell k7
  have c6 : Y.cell? ⟨W.heap.size, 6, none⟩ = some (.int .i64 5) := blk_cell k7
  have hsY : SlOf Y Y.heap.size 7 (.slice (some ⟨g, 0, none⟩) 2 2) (stCells (bookB 62 [⟨1, 66, 0⟩, ⟨0, 26, 0⟩]).sts) := by
    obtain ⟨a, cap, e, h1, h2, h3, h4⟩ := HS.out
    refine ⟨a, cap, e, h1, h2, h3, fun hp => ?_⟩
    obtain ⟨b, o, e1, hb, hc⟩ := h4 hp
    rw [e1] at e
    injection e with e2 _ _
    injection e2 with e2
    have hbg : g = b := congrArg Addr.block e2
    refine ⟨b, o, e1, by rw [hZz]; exact hb, fun i j r c hi hj => ?_⟩
    exact (World.cell?_of_block (w := w') (a := ⟨b, _, none⟩) (hkeep b (by have := hV1.size; omega))).trans (hc i j r c hi hj)
  have hkY : SlOf Y Y.heap.size 3 (.slice (some ⟨w1.heap.size, 0, none⟩) 2 2) (ckCells [⟨1, 66, 0⟩, ⟨0, 26, 0⟩]) := by
    obtain ⟨a, cap, e, h1, h2, h3, h4⟩ := HK1.out
    refine ⟨a, cap, e, h1, h2, h3, fun hp => ?_⟩
    obtain ⟨b, o, e1, hb, hc⟩ := h4 hp
    rw [e1] at e
    injection e with e2 _ _
    injection e2 with e2
    have hbg : w1.heap.size = b := congrArg Addr.block e2
    have hz1 := HB1.out.size
    refine ⟨b, o, e1, by rw [hZz]; have := HBB.out.size; omega, fun i j r c hi hj => ?_⟩
    exact (World.cell?_of_block (w := w') (a := ⟨b, _, none⟩) (hkeep b (by omega))).trans ((HBB.out.cell (p := ⟨b, _, none⟩) hb).trans (hc i j r c hi hj))
  exact bodyPost_ret (v := .agg #[.slice (some ⟨g, 0, none⟩) 2 2, .int .i64 3, .int .i64 0, .int .i64 2, .int .i64 6, .slice (some ⟨w1.heap.size, 0, none⟩) 2 2, .int .i64 5]) (by simp [results, Tryd.results61, go_sem, c0, c1, c2, c3, c4, c5, c6]) rfl
    ⟨g, w1.heap.size, rfl, hBZ, Nat.le_refl _, hsY, hkY, rfl, rfl⟩
end Go.Proofs.YtbhjfojbjpbdbaaDoor
