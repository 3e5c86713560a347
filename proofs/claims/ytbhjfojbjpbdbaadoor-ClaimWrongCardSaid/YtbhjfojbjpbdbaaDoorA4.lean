/-
  Contracts of package claim: last, late, sum, owes, blame. Written by this session.
-/
import Derived.Test.YtbhjfojbjpbdbaaDoorA3
namespace Go.Proofs.YtbhjfojbjpbdbaaDoor
open Go.RowKit

set_option maxHeartbeats 400000 in
theorem last_any (W : World) (b : Bk) (s k m tv : Value) (n : Nat) (j : Nat) (hs : SlOf W n 7 s (stCells b.sts)) (hj : b.sts.length = j + 1) :
    Calls Tryd.prog 99 #[.agg (b.cells9 s k m tv).toArray] W fun e W' => e = .returned (.int .i64 (j : Int)) ∧ Below W.heap.size W W' := by
  obtain ⟨sa, scap, rfl, hs1, hs2, hs3, hs4⟩ := hs
  simp only [Bk.cells9, stCells, List.length_map] at *
  have hl : b.sts.length ≤ 9223372036854775807 := by unfold maxLen at hs2; omega
  have HJ := Lib.hid hj
  clear hs1 hs2 hs3 hs4 hj
  go_enter Tryd.func99, Tryd.ntmps99
  go_wp2
  go_ret
  exact ⟨ret_int (by have := HJ.out; omega), (Below.refl _ _).alloc (Nat.le_refl _) _⟩

theorem tr_cell_a {W : World} {B : Nat} (t : Tr) (h : W.heap[B]? = some (.cells t.cells.toArray 87)) {k : Nat} (hk : k < 3) : W.cell? ⟨B, 1 + k, none⟩ = some (.int .i64 (t.comes k)) := by
  rw [blk_cell h]
  have hkk : k = 0 ∨ k = 1 ∨ k = 2 := by omega
  rcases hkk with rfl | rfl | rfl <;> rfl

set_option maxRecDepth 100000 in
set_option maxHeartbeats 400000 in
theorem late_any (W : World) (b : Bk) (s k m tv : Value) (n : Nat) (t : Tr) (j : Nat) (hn : n ≤ W.heap.size) (hs : SlOf W n 7 s (stCells b.sts)) (hj : j < b.sts.length) (h3 : b.sts.length ≤ 3) (ht : TrOk t)
    (hd : 0 ≤ b.due j ∧ b.due j ≤ 1000) :
    Calls Tryd.prog 77 #[.agg (b.cells9 s k m tv).toArray, .agg t.cells.toArray, .int .i64 j] W fun e W' => e = .returned (.int .i64 (lateT b j t)) ∧ Below W.heap.size W W' := by
  obtain ⟨sa, scap, rfl, hs1, hs2, hs3, hs4⟩ := hs
  obtain ⟨x, hx⟩ : ∃ x, b.sts[j]? = some x := ⟨_, List.getElem?_eq_getElem hj⟩
  have hdue : b.due j = x.due := by simp [Bk.due, hx]
  rw [hdue] at hd
  obtain ⟨g, q, hsa, hg, hcs⟩ := sl_at hs4 (show (stCells b.sts)[j]? = some x.cells by simp [stCells, hx])
  subst hsa
  have hc : 0 ≤ t.comes j ∧ t.comes j ≤ 1000 := by
    have hkk : j = 0 ∨ j = 1 ∨ j = 2 := by omega
    obtain ⟨_, h0, h1, h2, _⟩ := ht
    rcases hkk with rfl | rfl | rfl <;> assumption
  have c0 : W.cell? ⟨g, q + j * 7, none⟩ = some (.int .i64 x.due) := hcs 0 _ rfl
  have hl : (j : Int) < (b.sts.length : Int) := by omega
  have hl3 : (j : Int) < 3 := by omega
  have HS : Hid (lateT b j t = max 0 (t.comes j - x.due)) := by show _ = _; unfold lateT; rw [hdue]
  clear hs1 hs2 hs3 hs4 hcs hdue hx
  simp only [Bk.cells9, stCells, List.length_map]
  go_enter Tryd.func77, Tryd.ntmps77
  go_upto_region 1 with fail
  obtain ⟨V, hV⟩ : ∃ V, (W.alloc (Obj.cells #[Value.slice (some ⟨g, q, none⟩) b.sts.length scap, Value.int IntKind.i64 b.wth, Value.int IntKind.i64 b.c0, Value.int IntKind.i64 b.c1, Value.int IntKind.i64 b.c2, k, Value.int IntKind.i64 b.rate, m, tv] 79)).alloc (Obj.cells t.cells.toArray 87) = V := ⟨_, rfl⟩
  have hBV : Below W.heap.size W V := by rw [← hV]; exact ((Below.refl _ _).alloc (Nat.le_refl _) _).alloc (by simp) _
  have hzV : V.heap.size = W.heap.size + 1 + 1 := by rw [← hV]; simp
  have v0 : V.cell? ⟨W.heap.size, 0, none⟩ = some (Value.slice (some ⟨g, q, none⟩) b.sts.length scap) := by rw [← hV, cell_old (by simp), cell_new]; rfl
  have v1 : V.cell? ⟨W.heap.size + 1, 1 + j, none⟩ = some (.int .i64 (t.comes j)) := tr_cell_a t (by rw [← hV]; exact (by simp : (W.alloc _).heap.size = W.heap.size + 1) ▸ World.alloc_heap_new _ _) (by omega)
  have v2 : V.cell? ⟨g, q + j * 7, none⟩ = some (.int .i64 x.due) := (hBV.cell (p := ⟨g, q + j * 7, none⟩) (by show g < _; omega)).trans c0
  have l0 : W.heap.size < V.heap.size := by omega
  have l1 : W.heap.size + 1 < V.heap.size := by omega
  have l2 : g < V.heap.size := by omega
  simp only [Tr.cells] at hV
  simp only [Tr.cells]
  rw [hV]
  clear hV c0 hzV
  have hw1 : IntKind.i64.wrap (t.comes j - x.due) = t.comes j - x.due := IntWalk.i64_in _ (by omega)
  refine wp_region_det (S := fun _ w' => (∀ b o, b < V.heap.size → w'.cell? ⟨b, o, none⟩ = V.cell? ⟨b, o, none⟩) ∧ Below V.heap.size V w') (by kernel_rfl) (by kernel_rfl) (hs0 V) ?_
  repeat
    apply det_cons
    · refine ⟨by rfl, fun L w hN hS => ?_⟩
      obtain ⟨hcc, hu⟩ := hS
      go_simp
      first
        | exact ⟨congrArg (Value.int .i64) (mx_eq _ _), fun _ _ _ => ⟨hcc, hu⟩⟩
        | exact ⟨rfl, fun _ _ _ => ⟨hcc, hu⟩⟩
    try simp only [Act.put, List.setIfInBounds_toArray, List.set_cons_zero, List.set_cons_succ]
  refine det_nil ?_
  rintro L w' hL ⟨hcc, hu⟩
  go_wp2
  all_goals (go_ret; exact ⟨ret_int (by rw [HS.out]; omega), hBV.trans (hu.mono (by omega))⟩)

def intCells (l : List Int) : List (List Value) := l.map fun x => [.int .i64 x]

set_option maxRecDepth 100000 in
set_option maxHeartbeats 400000 in
theorem sum_any (W : World) (v : Value) (xs : List Int) (n : Nat) (hs : SlOf W n 1 v (intCells xs)) (hb : ∀ x ∈ xs, -1000 ≤ x ∧ x ≤ 1000) (hl : xs.length ≤ 100) :
    Calls Tryd.prog 100 #[v] W fun e W' => e = .returned (.int .i64 xs.sum) ∧ W = W' := by
  obtain ⟨a, cap, rfl, h1, h2, h3, h4⟩ := hs
  simp only [intCells, List.length_map] at h1
  have H4 := Lib.hid h4
  have HB := Lib.hid hb
  clear h3 h4 hb h1 h2
  simp only [intCells, List.length_map]
  go_enter Tryd.func100, Tryd.ntmps100
  go_wp2_with fail
  go_loopg [3, 8] xs.length (fun n s i wx => W = wx ∧ ∃ (k : Nat) (acc : Int), k ≤ xs.length ∧ n = xs.length - k ∧ s = .int .i64 acc ∧ i = .int .i64 k ∧ acc + (xs.drop k).sum = xs.sum ∧ (-1000 * k ≤ acc ∧ acc ≤ 1000 * k))
  case atStart => exact ⟨rfl, 0, 0, by omega, rfl, rfl, rfl, by simp, by omega⟩
  case round =>
    obtain ⟨rfl, k, acc, hk, hgk, rfl, rfl, hs, hbd⟩ := hrel
    have HG := Lib.hid hgk
    have HS := Lib.hid hs
    clear hgk hs
    by_cases hlt : k < xs.length
    · obtain ⟨x, hx⟩ : ∃ x, xs[k]? = some x := ⟨_, List.getElem?_eq_getElem hlt⟩
      obtain ⟨g, q, e1, hg, hcs⟩ := sl_at H4.out (show (intCells xs)[k]? = some [.int .i64 x] by simp [intCells, hx])
      subst e1
      have hbx := HB.out x (List.mem_of_getElem? hx)
      have hdr : xs.drop k = x :: xs.drop (k + 1) := by
        rw [List.drop_eq_getElem_cons hlt]; rw [List.getElem?_eq_getElem hlt] at hx; cases hx; rfl
      have HD := Lib.hid hdr
      have r0 : W.cell? ⟨g, q + k * 1 + 0, none⟩ = some (.int .i64 x) := hcs 0 _ rfl
      simp only [Nat.mul_one, Nat.add_zero] at r0
      clear hx hdr hcs
      go_wp2_with fail
      go_roundg (xs.length - (k + 1))
      case measure => rw [HG.out]; omega
      case rel => exact ⟨rfl, k + 1, _, hlt, rfl, rfl, by go_num, by rw [← HS.out, HD.out]; simp [Int.add_assoc], by omega⟩
    · have hkl : k = xs.length := by omega
      have e1 : acc = xs.sum := by have := HS.out; rw [hkl, List.drop_length] at this; simpa using this
      subst e1
      clear hkl
      go_wp2_with fail
      go_ret
      exact ⟨rfl, rfl⟩

/-- a valid book's numbers, as the walks want them. -/
structure Bds (b : Bk) : Prop where
  l1 : 1 ≤ b.sts.length
  l3 : b.sts.length ≤ 3
  due : ∀ j, 0 ≤ b.due j ∧ b.due j ≤ 1000
  rate : 0 ≤ b.rate ∧ b.rate ≤ 99

theorem rough_slice {V : World} {B : Nat} (t : Tr) (h : V.heap[B]? = some (.cells t.cells.toArray 87)) : SlOf V V.heap.size 1 (.slice (some ⟨B, 4, none⟩) 3 3) (intCells [t.b0, t.b1, t.b2]) := by
  have hlt := (Array.getElem?_eq_some_iff.1 h).1
  refine ⟨_, 3, rfl, by simp [intCells], by simp [maxLen], by simp [intCells], fun _ => ⟨B, 4, rfl, hlt, fun i j r c hi hj => ?_⟩⟩
  rw [blk_cell h]
  have hi3 : i < 3 := by
    rcases Nat.lt_or_ge i 3 with h | h
    · exact h
    · rw [List.getElem?_eq_none (by simp [intCells]; omega)] at hi; cases hi
  have hii : i = 0 ∨ i = 1 ∨ i = 2 := by omega
  rcases hii with rfl | rfl | rfl <;> simp [intCells] at hi <;> subst hi <;> (rcases j with _ | j <;> simp at hj <;> subst hj <;> rfl)

theorem lateT_bd {b : Bk} {t : Tr} {j : Nat} (hj : j < 3) (ht : TrOk t) (hd : 0 ≤ b.due j ∧ b.due j ≤ 1000) : 0 ≤ lateT b j t ∧ lateT b j t ≤ 1000 := by
  have hc : 0 ≤ t.comes j ∧ t.comes j ≤ 1000 := by
    have hkk : j = 0 ∨ j = 1 ∨ j = 2 := by omega
    obtain ⟨_, h0, h1, h2, _⟩ := ht
    rcases hkk with rfl | rfl | rfl <;> assumption
  unfold lateT
  omega

theorem mul_bd {a x : Int} (h0 : 0 ≤ a) (h1 : a ≤ 99) (h2 : 0 ≤ x) (h3 : x ≤ 1000) : 0 ≤ a * x ∧ a * x ≤ 99000 :=
  ⟨Int.mul_nonneg h0 h2, by have := Int.mul_le_mul h1 h3 h2 (by omega); omega⟩

set_option maxRecDepth 100000 in
set_option maxHeartbeats 400000 in
theorem owes_any (W : World) (b : Bk) (s k m tv : Value) (n : Nat) (t : Tr) (hn : n ≤ W.heap.size) (hs : SlOf W n 7 s (stCells b.sts)) (hB : Bds b) (ht : TrOk t) :
    Calls Tryd.prog 84 #[.agg (b.cells9 s k m tv).toArray, .agg t.cells.toArray] W fun e W' => e = .returned (.int .i64 (owesT b t)) ∧ Below W.heap.size W W' := by
  obtain ⟨hl1, hl3, hdu, hr⟩ := hB
  have hlb := lateT_bd (b := b) (t := t) (j := b.sts.length - 1) (by omega) ht (hdu _)
  have hallb : 0 ≤ t.all ∧ t.all ≤ 1000 := by obtain ⟨_, _, _, _, h1, h2, h3⟩ := ht; unfold Tr.all; omega
  have hmb := mul_bd hr.1 hr.2 (x := min (lateT b (b.sts.length - 1) t) t.all) (by omega) (by omega)
  have hw : IntKind.i64.wrap (b.rate * min (lateT b (b.sts.length - 1) t) t.all) = owesT b t := IntWalk.i64_in _ (by omega)
  have hsum : ([t.b0, t.b1, t.b2] : List Int).sum = t.all := by simp [Tr.all]; omega
  simp only [Bk.cells9, Tr.cells]
  go_enter Tryd.func84, Tryd.ntmps84
  go_upto_region 1 with fail
  obtain ⟨V, hV⟩ : ∃ V, (W.alloc (Obj.cells (b.cells9 s k m tv).toArray 79)).alloc (Obj.cells t.cells.toArray 87) = V := ⟨_, rfl⟩
  have hBV : Below W.heap.size W V := by rw [← hV]; exact ((Below.refl _ _).alloc (Nat.le_refl _) _).alloc (by simp) _
  have hzV : V.heap.size = W.heap.size + 1 + 1 := by rw [← hV]; simp
  have hb0 : V.heap[W.heap.size]? = some (.cells (b.cells9 s k m tv).toArray 79) := by rw [← hV]; exact (Below.heap_alloc _ _ _ (by simp)).trans (World.alloc_heap_new _ _)
  have hb1 : V.heap[W.heap.size + 1]? = some (.cells t.cells.toArray 87) := by rw [← hV]; exact (by simp : (W.alloc _).heap.size = W.heap.size + 1) ▸ World.alloc_heap_new _ _
  have hsV : SlOf V W.heap.size 7 s (stCells b.sts) := (hs.below hn hBV).mono hn
  have hrs := rough_slice t hb1
  simp only [Bk.cells9, Tr.cells] at hV
  rw [hV]
  have v0 : V.cell? ⟨W.heap.size, 0, none⟩ = some s := blk_cell hb0
  have v1 : V.cell? ⟨W.heap.size, 1, none⟩ = some (.int .i64 b.wth) := blk_cell hb0
  have v2 : V.cell? ⟨W.heap.size, 2, none⟩ = some (.int .i64 b.c0) := blk_cell hb0
  have v3 : V.cell? ⟨W.heap.size, 3, none⟩ = some (.int .i64 b.c1) := blk_cell hb0
  have v4 : V.cell? ⟨W.heap.size, 4, none⟩ = some (.int .i64 b.c2) := blk_cell hb0
  have v5 : V.cell? ⟨W.heap.size, 5, none⟩ = some k := blk_cell hb0
  have v6 : V.cell? ⟨W.heap.size, 6, none⟩ = some (.int .i64 b.rate) := blk_cell hb0
  have v7 : V.cell? ⟨W.heap.size, 7, none⟩ = some m := blk_cell hb0
  have v8 : V.cell? ⟨W.heap.size, 8, none⟩ = some tv := blk_cell hb0
  have t0 : V.cell? ⟨W.heap.size + 1, 0, none⟩ = some (.int .i64 t.w) := blk_cell hb1
  have t1 : V.cell? ⟨W.heap.size + 1, 1, none⟩ = some (.int .i64 t.a0) := blk_cell hb1
  have t2 : V.cell? ⟨W.heap.size + 1, 2, none⟩ = some (.int .i64 t.a1) := blk_cell hb1
  have t3 : V.cell? ⟨W.heap.size + 1, 3, none⟩ = some (.int .i64 t.a2) := blk_cell hb1
  have t4 : V.cell? ⟨W.heap.size + 1, 4, none⟩ = some (.int .i64 t.b0) := blk_cell hb1
  have t5 : V.cell? ⟨W.heap.size + 1, 5, none⟩ = some (.int .i64 t.b1) := blk_cell hb1
  have t6 : V.cell? ⟨W.heap.size + 1, 6, none⟩ = some (.int .i64 t.b2) := blk_cell hb1
  have l0 : W.heap.size < V.heap.size := by omega
  have l1 : W.heap.size + 1 < V.heap.size := by omega
  have HSum := Lib.hid hsum
  have HSV := Lib.hid hsV
  have HRS := Lib.hid hrs
  clear hV hzV hsum hb0 hb1 hsV hrs hs
  refine wp_region_det (S := fun _ w' => (∀ b o, b < V.heap.size → w'.cell? ⟨b, o, none⟩ = V.cell? ⟨b, o, none⟩) ∧ Below V.heap.size V w') (by kernel_rfl) (by kernel_rfl) (hs0 V) ?_
  repeat
    apply det_cons
    · refine ⟨by rfl, fun L w hN hS => ?_⟩
      obtain ⟨hcc, hu⟩ := hS
      go_simp
      first
        | exact ⟨congrArg (Value.int .i64) (mn_eq _ _), fun _ _ _ => ⟨hcc, hu⟩⟩
        | exact ⟨rfl, fun _ _ _ => ⟨hcc, hu⟩⟩
        | (refine (last_any _ b s k m tv _ (b.sts.length - 1) (HSV.out.below (by omega) hu) (by omega)).mono ?_; rintro e w' ⟨rfl, hbb⟩; exact ⟨rfl, fun _ _ _ => hs1 hbb ⟨hcc, hu⟩⟩)
        | (refine (late_any _ b s k m tv W.heap.size t _ (by have := hu.size; omega) (HSV.out.below (by omega) hu) (by omega) hl3 ht (hdu _)).mono ?_; rintro e w' ⟨rfl, hbb⟩; exact ⟨rfl, fun _ _ _ => hs1 hbb ⟨hcc, hu⟩⟩)
        | (refine (sum_any _ _ [t.b0, t.b1, t.b2] _ (HRS.out.below (Nat.le_refl _) hu) (by obtain ⟨_, _, _, _, h1, h2, h3⟩ := ht; intro x hx; simp at hx; omega) (by simp)).mono ?_; rintro e w' ⟨rfl, rfl⟩; exact ⟨congrArg Ending.returned (congrArg (Value.int .i64) HSum.out), fun _ _ _ => ⟨hcc, hu⟩⟩)
    try simp only [Act.put, List.setIfInBounds_toArray, List.set_cons_zero, List.set_cons_succ]
  refine det_nil ?_
  rintro L w' hL ⟨hcc, hu⟩
  go_wp2
  all_goals (go_ret; exact ⟨rfl, hBV.trans (hu.mono (by omega))⟩)

set_option maxRecDepth 100000 in
set_option maxHeartbeats 400000 in
theorem blame_any (W : World) (b : Bk) (s k m tv : Value) (l : List Tr) (n : Nat) (hn : n ≤ W.heap.size) (hs : SlOf W n 7 s (stCells b.sts)) (hB : Bds b)
    (htv : SlOf W n 7 tv (trCells l)) (hok : ∀ t ∈ l, TrOk t) :
    Calls Tryd.prog 81 #[.agg (b.cells9 s k m tv).toArray] W fun e W' => e = .returned (.agg #[.int .i64 (l.countP (blamed b) : Nat), .int .i64 (l.length : Nat)]) ∧ Below W.heap.size W W' := by
  obtain ⟨ta, tcap, rfl, ht1, ht2, ht3, ht4⟩ := htv
  have H4 := Lib.hid ht4
  have HOK := Lib.hid hok
  have HS0 := Lib.hid hs
  obtain ⟨sa, scap, rfl, hs1, hs2, hs3, hs4⟩ := hs
  have H5 := Lib.hid hs4
  unfold maxLen at ht2
  have htl : (trCells l).length = l.length := by simp [trCells]
  rw [htl] at ht1
  have HTL := Lib.hid htl
  obtain ⟨hl1, hl3, hdu, hr⟩ := hB
  obtain ⟨j, hj⟩ : ∃ j, b.sts.length = j + 1 := ⟨b.sts.length - 1, by omega⟩
  have hj3 : j < 3 := by omega
  obtain ⟨x, hx⟩ : ∃ x, b.sts[j]? = some x := ⟨_, List.getElem?_eq_getElem (by omega)⟩
  have hdue : b.due j = x.due := by simp [Bk.due, hx]
  obtain ⟨g, q, hsa, hg, hcs⟩ := sl_at hs4 (show (stCells b.sts)[j]? = some x.cells by simp [stCells, hx])
  subst hsa
  have hxd := hdu j
  rw [hdue] at hxd
  have d0 : W.cell? ⟨g, q + j * 7, none⟩ = some (.int .i64 x.due) := hcs 0 _ rfl
  have HDU := Lib.hid hdu
  have HJ := Lib.hid hj
  have HDE := Lib.hid hdue
  have hsl : (stCells b.sts).length = j + 1 := by simp [stCells, hj]
  rw [hsl] at HS0
  clear ht4 ht3 hok hdu hs1 hs2 hs3 hs4 hcs hx hdue
  have hbl : ∀ t, blamed b t = (decide (0 < lateT b j t) && decide (t.comes j - t.all ≤ x.due)) := fun t => by
    unfold blamed; rw [hj, Nat.add_sub_cancel, HDE.out]
  have HBL := Lib.hid hbl
  clear hbl hj
  simp only [Bk.cells9, htl, hsl]
  clear htl hsl
  go_enter Tryd.func81, Tryd.ntmps81
  go_wp2_with fail
  obtain ⟨W1, hW1⟩ : ∃ W1, ((W.alloc (Obj.cells #[Value.slice (some ⟨g, q, none⟩) (j + 1) scap, Value.int IntKind.i64 b.wth, Value.int IntKind.i64 b.c0, Value.int IntKind.i64 b.c1, Value.int IntKind.i64 b.c2, k, Value.int IntKind.i64 b.rate, m, Value.slice ta l.length tcap] 79)).alloc (Obj.cells #[Value.int IntKind.i64 0, Value.int IntKind.i64 0] 99)).alloc (Obj.cells #[Value.int IntKind.i64 0, Value.int IntKind.i64 ↑l.length] 99) = W1 := ⟨_, rfl⟩
  rw [hW1]
  have hB1 : Below W.heap.size W W1 := by rw [← hW1]; exact (((Below.refl _ _).alloc (Nat.le_refl _) _).alloc (by simp) _).alloc (by simp; omega) _
  have hz1 : W1.heap.size = W.heap.size + 1 + 1 + 1 := by rw [← hW1]; simp
  have hx0 : W1.heap[W.heap.size]? = some (.cells #[Value.slice (some ⟨g, q, none⟩) (j + 1) scap, Value.int IntKind.i64 b.wth, Value.int IntKind.i64 b.c0, Value.int IntKind.i64 b.c1, Value.int IntKind.i64 b.c2, k, Value.int IntKind.i64 b.rate, m, Value.slice ta l.length tcap] 79) := by
    rw [← hW1, Below.heap_alloc _ _ _ (by simp; omega), Below.heap_alloc _ _ _ (by simp)]; exact World.alloc_heap_new _ _
  have hx1 : W1.heap[W.heap.size + 1]? = some (.cells #[Value.int IntKind.i64 0, Value.int IntKind.i64 0] 99) := by
    rw [← hW1, Below.heap_alloc _ _ _ (by simp)]; exact (by simp : (W.alloc _).heap.size = W.heap.size + 1) ▸ World.alloc_heap_new _ _
  have hx2 : W1.heap[W.heap.size + 1 + 1]? = some (.cells #[Value.int IntKind.i64 0, Value.int IntKind.i64 ↑l.length] 99) := by
    rw [← hW1]; exact (by simp : ((W.alloc _).alloc _).heap.size = W.heap.size + 1 + 1) ▸ World.alloc_heap_new _ _
  have HX0 := Lib.hid hx0
  have HX1 := Lib.hid hx1
  have HX2 := Lib.hid hx2
  have HZ1 := Lib.hid hz1
  clear hx0 hx1 hx2 hW1
  go_loopg [13] l.length (fun n i wx => ∃ (q : Nat) (so : Nat), q ≤ l.length ∧ n = l.length - q ∧ i = .int .i64 q ∧ so ≤ q ∧ so + (l.drop q).countP (blamed b) = l.countP (blamed b) ∧ Below (W.heap.size + 1 + 1) W1 wx ∧
    wx.heap[W.heap.size + 1 + 1]? = some (.cells #[.int .i64 so, .int .i64 l.length] 99))
  case atStart => exact ⟨0, 0, by omega, rfl, rfl, by omega, by simp, Below.refl _ _, HX2.out⟩
  case round =>
    obtain ⟨q1, so, hq1, hgk, rfl, hso, hcnt, hbr, hV2⟩ := hrel
    have HG := Lib.hid hgk
    have HC := Lib.hid hcnt
    have HV2 := Lib.hid hV2
    have hrz := hbr.size
    clear hgk hcnt
    have hz1 := HZ1.out
    have hz2 : W.heap.size + 1 + 1 < W1.heap.size := by omega
    by_cases hlt : q1 < l.length
    · obtain ⟨t, ht⟩ : ∃ t, l[q1]? = some t := ⟨_, List.getElem?_eq_getElem hlt⟩
      obtain ⟨g1, p1, e1, hg1, hcs⟩ := sl_at H4.out (show (trCells l)[q1]? = some t.cells by rw [trCells, List.getElem?_map, ht]; rfl)
      subst e1
      have okt := HOK.out t (List.mem_of_getElem? ht)
      have hdr : l.drop q1 = t :: l.drop (q1 + 1) := by
        rw [List.drop_eq_getElem_cons hlt]; rw [List.getElem?_eq_getElem hlt] at ht; cases ht; rfl
      have HD := Lib.hid hdr
      clear ht hdr
      have hWr : Below W.heap.size W wr := hB1.trans (hbr.mono (by omega))
      have hr : ∀ j c, t.cells[j]? = some c → wr.cell? ⟨g1, p1 + q1 * 7 + j, none⟩ = some c := fun j c hj =>
        (hWr.cell (p := ⟨g1, p1 + q1 * 7 + j, none⟩) (by show g1 < _; omega)).trans (hcs j c hj)
      have r0 : wr.cell? ⟨g1, p1 + q1 * 7, none⟩ = some (.int .i64 t.w) := hr 0 _ rfl
      have r1 : wr.cell? ⟨g1, p1 + q1 * 7 + 1, none⟩ = some (.int .i64 t.a0) := hr 1 _ rfl
      have r2 : wr.cell? ⟨g1, p1 + q1 * 7 + 2, none⟩ = some (.int .i64 t.a1) := hr 2 _ rfl
      have r3 : wr.cell? ⟨g1, p1 + q1 * 7 + 3, none⟩ = some (.int .i64 t.a2) := hr 3 _ rfl
      have r4 : wr.cell? ⟨g1, p1 + q1 * 7 + 4, none⟩ = some (.int .i64 t.b0) := hr 4 _ rfl
      have r5 : wr.cell? ⟨g1, p1 + q1 * 7 + 5, none⟩ = some (.int .i64 t.b1) := hr 5 _ rfl
      have r6 : wr.cell? ⟨g1, p1 + q1 * 7 + 6, none⟩ = some (.int .i64 t.b2) := hr 6 _ rfl
      clear hr hcs hV2
      go_upto_region 5 with fail
      obtain ⟨V, hV⟩ : ∃ V, wr.alloc (Obj.cells t.cells.toArray 87) = V := ⟨_, rfl⟩
      have hVW : Below W.heap.size W V := by rw [← hV]; exact hWr.alloc (by omega) _
      have hVz : V.heap.size = wr.heap.size + 1 := by rw [← hV]; simp
      have hV1 : Below (W.heap.size + 1 + 1) W1 V := by rw [← hV]; exact hbr.alloc (by omega) _
      have hV0 : V.heap[W.heap.size]? = _ := (hV1.block W.heap.size (by omega)).trans HX0.out
      have hVt : V.heap[wr.heap.size]? = some (.cells t.cells.toArray 87) := by rw [← hV]; exact World.alloc_heap_new _ _
      have hVv : V.heap[W.heap.size + 1 + 1]? = some (.cells #[.int .i64 so, .int .i64 l.length] 99) := by rw [← hV]; exact (Below.heap_alloc _ _ _ (by omega)).trans HV2.out
      simp only [Tr.cells] at hV
      rw [hV]
      have v0 : V.cell? ⟨W.heap.size, 0, none⟩ = some (.slice (some ⟨g, q, none⟩) (j + 1) scap) := blk_cell hV0
      have v1 : V.cell? ⟨W.heap.size, 1, none⟩ = some (.int .i64 b.wth) := blk_cell hV0
      have v2 : V.cell? ⟨W.heap.size, 2, none⟩ = some (.int .i64 b.c0) := blk_cell hV0
      have v3 : V.cell? ⟨W.heap.size, 3, none⟩ = some (.int .i64 b.c1) := blk_cell hV0
      have v4 : V.cell? ⟨W.heap.size, 4, none⟩ = some (.int .i64 b.c2) := blk_cell hV0
      have v5 : V.cell? ⟨W.heap.size, 5, none⟩ = some k := blk_cell hV0
      have v6 : V.cell? ⟨W.heap.size, 6, none⟩ = some (.int .i64 b.rate) := blk_cell hV0
      have v7 : V.cell? ⟨W.heap.size, 7, none⟩ = some m := blk_cell hV0
      have v8 : V.cell? ⟨W.heap.size, 8, none⟩ = some (.slice (some ⟨g1, p1, none⟩) l.length tcap) := blk_cell hV0
      have t0 : V.cell? ⟨wr.heap.size, 0, none⟩ = some (.int .i64 t.w) := blk_cell hVt
      have t1 : V.cell? ⟨wr.heap.size, 1, none⟩ = some (.int .i64 t.a0) := blk_cell hVt
      have t2 : V.cell? ⟨wr.heap.size, 2, none⟩ = some (.int .i64 t.a1) := blk_cell hVt
      have t3 : V.cell? ⟨wr.heap.size, 3, none⟩ = some (.int .i64 t.a2) := blk_cell hVt
      have t4 : V.cell? ⟨wr.heap.size, 4, none⟩ = some (.int .i64 t.b0) := blk_cell hVt
      have t5 : V.cell? ⟨wr.heap.size, 5, none⟩ = some (.int .i64 t.b1) := blk_cell hVt
      have t6 : V.cell? ⟨wr.heap.size, 6, none⟩ = some (.int .i64 t.b2) := blk_cell hVt
      have tj : V.cell? ⟨wr.heap.size, 1 + j, none⟩ = some (.int .i64 (t.comes j)) := tr_cell_a t hVt hj3
      have d1 : V.cell? ⟨g, q + j * 7, none⟩ = some (.int .i64 x.due) := (hVW.cell (p := ⟨g, q + j * 7, none⟩) (by show g < _; omega)).trans d0
      have l0 : W.heap.size < V.heap.size := by omega
      have l1 : wr.heap.size < V.heap.size := by omega
      have l2 : g < V.heap.size := by omega
      have i1 : (j : Int) < 3 := by omega
      have i2 : (j : Int) < (j : Int) + 1 := by omega
      have hsV : SlOf V W.heap.size 7 (.slice (some ⟨g, q, none⟩) (j + 1) scap) (stCells b.sts) := (HS0.out.below hn hVW).mono hn
      have hrs := rough_slice t hVt
      have hcb : 0 ≤ t.comes j ∧ t.comes j ≤ 1000 := by
        have hkk : j = 0 ∨ j = 1 ∨ j = 2 := by omega
        obtain ⟨_, h0, h1, h2, _⟩ := okt
        rcases hkk with rfl | rfl | rfl <;> assumption
      have hallb : 0 ≤ t.all ∧ t.all ≤ 1000 := by obtain ⟨_, _, _, _, h1, h2, h3⟩ := okt; unfold Tr.all; omega
      have hw1 : IntKind.i64.wrap (t.comes j - t.all) = t.comes j - t.all := IntWalk.i64_in _ (by omega)
      have hsum : ([t.b0, t.b1, t.b2] : List Int).sum = t.all := by simp [Tr.all]; omega
      have HSV := Lib.hid hsV
      have HRS := Lib.hid hrs
      have HSum := Lib.hid hsum
      have hzz3 := hV1.size
      have HVv := Lib.hid hVv
      have HV0 := Lib.hid hV0
      clear r0 r1 r2 r3 r4 r5 r6 hV hV0 hVt hVv hsV hrs hsum hVz hz1
      have hz3 : W.heap.size + 1 + 1 < V.heap.size := by have := hV1.size; omega
      by_cases hlate : 0 < lateT b j t
      · by_cases hle : t.comes j - t.all ≤ x.due
        · refine wp_region_det (S := fun _ w' => (∀ b o, b < V.heap.size → w'.cell? ⟨b, o, none⟩ = V.cell? ⟨b, o, none⟩) ∧ Below V.heap.size V w') (by kernel_rfl) (by kernel_rfl) (hs0 V) ?_
          repeat
            apply det_cons
            · refine ⟨by rfl, fun L w hN hS => ?_⟩
              obtain ⟨hcc, hu⟩ := hS
              go_simp
              first
                | exact ⟨rfl, fun _ _ _ => ⟨hcc, hu⟩⟩
                | (refine (last_any _ b _ k m _ _ j (HSV.out.below (by omega) hu) HJ.out).mono ?_; rintro e w' ⟨rfl, hbb⟩; exact ⟨rfl, fun _ _ _ => hs1 hbb ⟨hcc, hu⟩⟩)
                | (refine (late_any _ b _ k m _ W.heap.size t j (by have := hu.size; omega) (HSV.out.below (by omega) hu) (by have := HJ.out; omega) hl3 okt (HDU.out _)).mono ?_; rintro e w' ⟨rfl, hbb⟩; exact ⟨rfl, fun _ _ _ => hs1 hbb ⟨hcc, hu⟩⟩)
                | (refine (sum_any _ _ [t.b0, t.b1, t.b2] _ (HRS.out.below (Nat.le_refl _) hu) (by obtain ⟨_, _, _, _, h1, h2, h3⟩ := okt; intro x hx; simp at hx; omega) (by simp)).mono ?_; rintro e w' ⟨rfl, rfl⟩; exact ⟨congrArg Ending.returned (congrArg (Value.int .i64) HSum.out), fun _ _ _ => ⟨hcc, hu⟩⟩)
            try simp only [Act.put, List.setIfInBounds_toArray, List.set_cons_zero, List.set_cons_succ]
          refine det_nil ?_
          rintro L w' hL ⟨hcc, hu⟩
          have hv2 := (hu.block _ hz3).trans HVv.out
          have hsz := hu.size
          have c0 : w'.cell? ⟨W.heap.size + 1 + 1, 0, none⟩ = some (.int .i64 so) := blk_cell hv2
          have c1 : w'.cell? ⟨W.heap.size + 1 + 1, 1, none⟩ = some (.int .i64 l.length) := blk_cell hv2
          have cf := blk_frozen hv2
          have HV3 := Lib.hid hv2
          have hbb2 : Below (W.heap.size + 1 + 1) W1 w' := hV1.trans (hu.mono (by omega))
          clear hcc hL hv2
          go_wp2_with fail
          go_roundg (l.length - (q1 + 1))
          case measure => rw [HG.out]; omega
          case rel => exact ⟨q1 + 1, so + 1, hlt, rfl, by go_num, by omega, by rw [← HC.out, HD.out, List.countP_cons, HBL.out]; simp only [hlate, hle, decide_true, Bool.and_self, if_true]; omega, hbb2.setCell (by simp) _, by have := blk_set (j := 0) (v := .int .i64 ((so : Int) + 1)) HV3.out; exact this⟩
        · have hle' : x.due < t.comes j - t.all := by omega
          refine wp_region_det (S := fun _ w' => (∀ b o, b < V.heap.size → w'.cell? ⟨b, o, none⟩ = V.cell? ⟨b, o, none⟩) ∧ Below V.heap.size V w') (by kernel_rfl) (by kernel_rfl) (hs0 V) ?_
          repeat
            apply det_cons
            · refine ⟨by rfl, fun L w hN hS => ?_⟩
              obtain ⟨hcc, hu⟩ := hS
              go_simp
              first
                | exact ⟨rfl, fun _ _ _ => ⟨hcc, hu⟩⟩
                | (refine (last_any _ b _ k m _ _ j (HSV.out.below (by omega) hu) HJ.out).mono ?_; rintro e w' ⟨rfl, hbb⟩; exact ⟨rfl, fun _ _ _ => hs1 hbb ⟨hcc, hu⟩⟩)
                | (refine (late_any _ b _ k m _ W.heap.size t j (by have := hu.size; omega) (HSV.out.below (by omega) hu) (by have := HJ.out; omega) hl3 okt (HDU.out _)).mono ?_; rintro e w' ⟨rfl, hbb⟩; exact ⟨rfl, fun _ _ _ => hs1 hbb ⟨hcc, hu⟩⟩)
                | (refine (sum_any _ _ [t.b0, t.b1, t.b2] _ (HRS.out.below (Nat.le_refl _) hu) (by obtain ⟨_, _, _, _, h1, h2, h3⟩ := okt; intro x hx; simp at hx; omega) (by simp)).mono ?_; rintro e w' ⟨rfl, rfl⟩; exact ⟨congrArg Ending.returned (congrArg (Value.int .i64) HSum.out), fun _ _ _ => ⟨hcc, hu⟩⟩)
            try simp only [Act.put, List.setIfInBounds_toArray, List.set_cons_zero, List.set_cons_succ]
          refine det_nil ?_
          rintro L w' hL ⟨hcc, hu⟩
          have hv2 := (hu.block _ hz3).trans HVv.out
          have hsz := hu.size
          have c0 : w'.cell? ⟨W.heap.size + 1 + 1, 0, none⟩ = some (.int .i64 so) := blk_cell hv2
          have c1 : w'.cell? ⟨W.heap.size + 1 + 1, 1, none⟩ = some (.int .i64 l.length) := blk_cell hv2
          have cf := blk_frozen hv2
          have HV3 := Lib.hid hv2
          have hbb2 : Below (W.heap.size + 1 + 1) W1 w' := hV1.trans (hu.mono (by omega))
          clear hcc hL hv2
          go_wp2_with fail
          go_roundg (l.length - (q1 + 1))
          case measure => rw [HG.out]; omega
          case rel => exact ⟨q1 + 1, so, hlt, rfl, by go_num, by omega, by rw [← HC.out, HD.out, List.countP_cons, HBL.out]; simp [hlate, hle], hbb2, HV3.out⟩
      · have hlate' : lateT b j t ≤ 0 := by omega
        have hle : True := trivial
        refine wp_region_det (S := fun _ w' => (∀ b o, b < V.heap.size → w'.cell? ⟨b, o, none⟩ = V.cell? ⟨b, o, none⟩) ∧ Below V.heap.size V w') (by kernel_rfl) (by kernel_rfl) (hs0 V) ?_
        repeat
          first
            | (apply det_skip
               · exact ⟨by rfl, fun L w hN hS => fun _ _ _ => hS⟩)
            | (apply det_cons
               · refine ⟨by rfl, fun L w hN hS => ?_⟩
                 obtain ⟨hcc, hu⟩ := hS
                 go_simp
                 first
                   | exact ⟨rfl, fun _ _ _ => ⟨hcc, hu⟩⟩
                   | (refine (last_any _ b _ k m _ _ j (HSV.out.below (by omega) hu) HJ.out).mono ?_; rintro e w' ⟨rfl, hbb⟩; exact ⟨rfl, fun _ _ _ => hs1 hbb ⟨hcc, hu⟩⟩)
                   | (refine (late_any _ b _ k m _ W.heap.size t j (by have := hu.size; omega) (HSV.out.below (by omega) hu) (by have := HJ.out; omega) hl3 okt (HDU.out _)).mono ?_; rintro e w' ⟨rfl, hbb⟩; exact ⟨rfl, fun _ _ _ => hs1 hbb ⟨hcc, hu⟩⟩)
                   | (refine (sum_any _ _ [t.b0, t.b1, t.b2] _ (HRS.out.below (Nat.le_refl _) hu) (by obtain ⟨_, _, _, _, h1, h2, h3⟩ := okt; intro x hx; simp at hx; omega) (by simp)).mono ?_; rintro e w' ⟨rfl, rfl⟩; exact ⟨congrArg Ending.returned (congrArg (Value.int .i64) HSum.out), fun _ _ _ => ⟨hcc, hu⟩⟩))
          try simp only [Act.put, List.setIfInBounds_toArray, List.set_cons_zero, List.set_cons_succ]
        refine det_nil ?_
        rintro L w' hL ⟨hcc, hu⟩
        have hv2 := (hu.block _ hz3).trans HVv.out
        have hsz := hu.size
        have c0 : w'.cell? ⟨W.heap.size + 1 + 1, 0, none⟩ = some (.int .i64 so) := blk_cell hv2
        have c1 : w'.cell? ⟨W.heap.size + 1 + 1, 1, none⟩ = some (.int .i64 l.length) := blk_cell hv2
        have cf := blk_frozen hv2
        have HV3 := Lib.hid hv2
        have hbb2 : Below (W.heap.size + 1 + 1) W1 w' := hV1.trans (hu.mono (by omega))
        clear hcc hL hv2
        go_wp2_with fail
        go_roundg (l.length - (q1 + 1))
        case measure => rw [HG.out]; omega
        case rel => exact ⟨q1 + 1, so, hlt, rfl, by go_num, by omega, by rw [← HC.out, HD.out, List.countP_cons, HBL.out]; simp; omega, hbb2, HV3.out⟩
    · have hkl : q1 = l.length := by omega
      have e1 : so = l.countP (blamed b) := by have := HC.out; rw [hkl, List.drop_length] at this; simpa using this
      have hx1 := (hbr.block (W.heap.size + 1) (by omega)).trans HX1.out
      have c0 : wr.cell? ⟨W.heap.size + 1 + 1, 0, none⟩ = some (.int .i64 (l.countP (blamed b) : Nat)) := by rw [← e1]; exact blk_cell HV2.out
      have c1 : wr.cell? ⟨W.heap.size + 1 + 1, 1, none⟩ = some (.int .i64 l.length) := blk_cell HV2.out
      have r0 : wr.cell? ⟨W.heap.size + 1, 0, none⟩ = some (.int .i64 0) := blk_cell hx1
      have r1 : wr.cell? ⟨W.heap.size + 1, 1, none⟩ = some (.int .i64 0) := blk_cell hx1
      have rf := blk_frozen hx1
      clear hkl e1 hx1 hV2
      go_wp2_with fail
      exact bodyPost_ret (v := .agg #[.int .i64 (l.countP (blamed b) : Nat), .int .i64 l.length]) (by simp [results, Tryd.results81, go_sem, r0, r1]) rfl ⟨rfl, ((hB1.trans (hbr.mono (by omega))).setCell (by simp) _).setCell (by simp) _⟩
end Go.Proofs.YtbhjfojbjpbdbaaDoor
