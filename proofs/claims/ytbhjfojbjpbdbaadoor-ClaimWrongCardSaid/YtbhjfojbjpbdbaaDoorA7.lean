/-
  The contract of the closure that goes on stage by stage (package claim, whole). Written by this session.
-/
import Derived.Test.YtbhjfojbjpbdbaaDoorA6
import Derived.ChangeKeysEq
namespace Go.Proofs.YtbhjfojbjpbdbaaDoor
open Go.RowKit

structure AccLaw (l Bt : Nat) (Acc : List Tr → World → Prop) : Prop where
  keep : ∀ pre W W', Acc pre W → W.heap.size ≤ W'.heap.size → (∀ k, (k = l ∨ k = Bt ∨ accBlk Bt W = some k) → W'.heap[k]? = W.heap[k]?) → Acc pre W'
  lt : ∀ pre W k, Acc pre W → accBlk Bt W = some k → k < W.heap.size

/-- the round of the loop over the iterator: it takes one truth more. -/
def YieldsTo (l Bt N : Nat) (Acc : List Tr → World → Prop) : Prop := ∀ (pre : List Tr) (t : Tr) (W : World), Acc pre W → TrOk t → pre.length < N →
  YieldAt Fence.wide 0 Tryd.prog l #[.agg t.cells.toArray] W fun e W' => e = .returned (.bool true) ∧ Acc (pre ++ [t]) W' ∧
    Upd (fun k => k = l ∨ k = Bt ∨ accBlk Bt W = some k) W W' ∧ (∀ k, accBlk Bt W' = some k → accBlk Bt W = some k ∨ W.heap.size ≤ k)

theorem acc_below {l Bt : Nat} {Acc : List Tr → World → Prop} (hA : AccLaw l Bt Acc) {pre : List Tr} {W W' : World} (h : Acc pre W) (hl : l < W.heap.size) (hB : Bt < W.heap.size) (hb : Below W.heap.size W W') : Acc pre W' :=
  hA.keep pre W W' h hb.size (fun k hk => hb.block k (by rcases hk with rfl | rfl | hk; exact hl; exact hB; exact hA.lt _ _ _ h hk))
theorem Env.below {b : Bk} {s k tv : Value} {n M l Bt Bb By Br Bd : Nat} {W W' : World} (h : Env b s k tv n M l Bt Bb By Br Bd W) (hb : Below W.heap.size W W') : Env b s k tv n M l Bt Bb By Br Bd W' :=
  h.eff (Eff.of_below h.lB hb) (h.hM.of_block (hb.block M h.hM.lt)) (fun k hk => by rw [accBlk_same (hb.block Bt h.lB)] at hk; exact Nat.lt_of_lt_of_le (h.la k hk) hb.size)

set_option maxHeartbeats 400000 in
theorem waiting_any (W : World) : Calls Tryd.prog 105 #[] W fun e W' => e = .returned (.agg #[.int .i64 0, .int .i64 0, .int .i64 0]) ∧ Below W.heap.size W W' := by
  go_enter Tryd.func105, Tryd.ntmps105
  go_wp2
  refine bodyPost_ret (v := .agg #[.int .i64 0, .int .i64 0, .int .i64 0]) (by simp [results, Tryd.results105, go_sem]) rfl ⟨rfl, ((Below.refl _ _).alloc (Nat.le_refl _) _).alloc (by simp) _⟩

theorem info3 : ∃ i, Tryd.prog.info? 3 = some i := by
  have h : (Tryd.prog.info? 3).isSome = true := by kernel_rfl
  cases h1 : Tryd.prog.info? 3 with
  | none => rw [h1] at h; cases h
  | some i => exact ⟨i, rfl⟩

theorem eq85 (x y z : Int) (hx : ¬ x = 0) : ∀ w, (binOp .eql 85 (.agg #[.int .i64 x, .int .i64 y, .int .i64 z]) (.agg #[.int .i64 0, .int .i64 0, .int .i64 0])).run Tryd.prog w = .ok (.bool false) w := by
  intro w
  obtain ⟨i, hi⟩ := info3
  have h1 : (x == 0) = false := by simp [hx]
  have hq : (Op.equalIn (9999 + 1) 85 (.agg #[.int .i64 x, .int .i64 y, .int .i64 z]) (.agg #[.int .i64 0, .int .i64 0, .int .i64 0])).run Tryd.prog w = .ok false w := by
    rw [run_equalIn_array w 9999 _ _ Tryd.underlying85 hi]
    simp [List.range, List.range.loop, Op.eqItems, go_sem, h1]
  rw [run_eql_struct]
  show ((Op.equalIn (9999 + 1) 85 _ _).run _ _).andThen _ = _
  rw [hq]
  rfl

/-- a valid book, as the iterator wants it. -/
structure Big (b : Bk) : Prop where
  bd : Bds b
  ck : CksOk b.cks
  nc : b.cks.length ≤ 1000
  st : ∀ x ∈ b.sts, (1 ≤ x.dl ∧ x.dl ≤ x.dh ∧ x.dh ≤ 90) ∧ (0 ≤ x.rl ∧ x.rl ≤ x.rh ∧ x.rh ≤ 30) ∧ (0 ≤ x.sl ∧ x.sl ≤ x.sh ∧ x.sh ≤ 20)
  co : ∀ k, 0 ≤ b.cost k ∧ b.cost k ≤ 30

theorem upto_cons {lo hi : Int} (h : lo ≤ hi) : upto lo hi = lo :: upto (lo + 1) hi := by
  unfold upto
  have e : (hi - lo + 1).toNat = (hi - (lo + 1) + 1).toNat + 1 := by omega
  rw [e, List.range_succ_eq_map, List.map_cons, List.map_map]
  simp only [Int.natCast_zero, Int.add_zero, List.cons.injEq, true_and]
  refine List.map_congr_left fun x _ => ?_
  simp only [Function.comp, Nat.succ_eq_add_one]
  omega
theorem upto_nil {lo hi : Int} (h : hi < lo) : upto lo hi = [] := by
  unfold upto
  rw [show (hi - lo + 1).toNat = 0 by omega]
  rfl

section
variable {b : Bk} {s k tv : Value} {n M l Bt Bb By Br Bd N : Nat} {Acc : List Tr → World → Prop}

set_option maxRecDepth 100000 in
set_option maxHeartbeats 1000000 in
theorem drive_leaf (hA : AccLaw l Bt Acc) (hY : YieldsTo l Bt N Acc) (hb : Big b) (j : Nat) (t : Tr) (fr : Int) (pre : List Tr) (W : World) (hj : j = b.sts.length) (ht : TrOk t) (h0 : 1 ≤ t.a0)
    (hE : Env b s k tv n M l Bt Bb By Br Bd W) (hacc : Acc pre W) (hNN : pre.length < N) :
    Calls Tryd.prog 104 #[.agg t.cells.toArray, .int .i64 j, .int .i64 fr, .pointer (some ⟨Bb, 0, none⟩), .pointer (some ⟨By, 0, none⟩), .pointer (some ⟨Br, 0, none⟩), .pointer (some ⟨Bd, 0, none⟩)] W fun e W' =>
      e = .returned (.bool true) ∧ Acc (pre ++ [t]) W' ∧ Eff M l Bt W W' ∧ CacheOk W' M b.cks ∧ Env b s k tv n M l Bt Bb By Br Bd W' := by
  subst hj
  obtain ⟨sa, scap, rfl, hs1, hs2, hs3, hs4⟩ := hE.hs
  have hsl : (stCells b.sts).length = b.sts.length := by simp [stCells]
  have hl3 := hb.bd.l3
  have hBW : Bb < W.heap.size := (Array.getElem?_eq_some_iff.1 hE.hb).1
  have hyW : By < W.heap.size := (Array.getElem?_eq_some_iff.1 hE.hy).1
  obtain ⟨V, hV⟩ : ∃ V, W.alloc (Obj.cells t.cells.toArray 87) = V := ⟨_, rfl⟩
  have hBV : Below W.heap.size W V := by rw [← hV]; exact (Below.refl _ _).alloc (Nat.le_refl _) _
  have hVz : V.heap.size = W.heap.size + 1 := by rw [← hV]; simp
  have hVt : V.heap[W.heap.size]? = some (.cells t.cells.toArray 87) := by rw [← hV]; exact World.alloc_heap_new _ _
  have hEV := hE.below hBV
  have hAV := acc_below hA hacc hE.ll hE.lB hBV
  have v0 : V.cell? ⟨Bb, 0, none⟩ = some (.slice sa b.sts.length scap) := by rw [blk_cell hEV.hb, hsl]; rfl
  have y0 : V.cell? ⟨By, 0, none⟩ = some (.func (.yield l) #[] #[]) := blk_cell hEV.hy
  have t0 : V.cell? ⟨W.heap.size, 0, none⟩ = some (.int .i64 t.w) := blk_cell hVt
  have t1 : V.cell? ⟨W.heap.size, 1, none⟩ = some (.int .i64 t.a0) := blk_cell hVt
  have t2 : V.cell? ⟨W.heap.size, 2, none⟩ = some (.int .i64 t.a1) := blk_cell hVt
  have t3 : V.cell? ⟨W.heap.size, 3, none⟩ = some (.int .i64 t.a2) := blk_cell hVt
  have t4 : V.cell? ⟨W.heap.size, 4, none⟩ = some (.int .i64 t.b0) := blk_cell hVt
  have t5 : V.cell? ⟨W.heap.size, 5, none⟩ = some (.int .i64 t.b1) := blk_cell hVt
  have t6 : V.cell? ⟨W.heap.size, 6, none⟩ = some (.int .i64 t.b2) := blk_cell hVt
  have l0 : W.heap.size < V.heap.size := by omega
  have l1 : Bb < V.heap.size := by omega
  have l2 : By < V.heap.size := by omega
  have heq := eq85 t.a0 t.a1 t.a2 (by omega)
  have HE := Lib.hid hE
  have HEV := Lib.hid hEV
  have HAV := Lib.hid hAV
  have HYH := Lib.hid hY
  have HA := Lib.hid hA
  clear hE hEV hAV hY hA hs1 hs2 hs3 hs4 hVt hacc hVz
  simp only [Tr.cells] at hV
  simp only [Tr.cells]
  go_enter Tryd.func104, Tryd.ntmps104
  go_upto_region 2 with fail
  try rw [hV]
  clear hV
  refine wp_region_det (S := fun L w' => (L 7 = false ∧ (∀ b o, b < V.heap.size → w'.cell? ⟨b, o, none⟩ = V.cell? ⟨b, o, none⟩) ∧ Below V.heap.size V w') ∨ (L 7 = true ∧ Acc (pre ++ [t]) w' ∧ Eff M l Bt V w' ∧ CacheOk w' M b.cks)) (by kernel_rfl) (by kernel_rfl) (.inl ⟨rfl, hs0 V⟩) ?_
  apply det_cons
  · refine ⟨by rfl, fun L w hN hS => ?_⟩
    have h7 : L 7 = false := (hN.chain (hN.chain (hN.chain (hN.chain hN.free (k := 1) (by kernel_rfl)) (k := 3) (by kernel_rfl)) (k := 4) (by kernel_rfl)) (k := 7) (by kernel_rfl))
    obtain ⟨_, hcc, hu⟩ := hS.resolve_right (by rw [h7]; simp)
    clear hS
    have H7 := Lib.hid h7
    clear h7
    go_simp
    exact ⟨rfl, fun L' _ h2 => .inl ⟨by rw [h2 7 (by decide)]; exact H7.out, hcc, hu⟩⟩
  try simp only [Act.put, List.setIfInBounds_toArray, List.set_cons_zero, List.set_cons_succ]
  apply det_cons
  · refine ⟨by rfl, fun L w hN hS => ?_⟩
    have h7 : L 7 = false := (hN.chain (hN.chain (hN.chain hN.free (k := 3) (by kernel_rfl)) (k := 4) (by kernel_rfl)) (k := 7) (by kernel_rfl))
    obtain ⟨_, hcc, hu⟩ := hS.resolve_right (by rw [h7]; simp)
    clear hS
    have H7 := Lib.hid h7
    clear h7
    go_simp
    exact ⟨rfl, fun L' _ h2 => .inl ⟨by rw [h2 7 (by decide)]; exact H7.out, hcc, hu⟩⟩
  try simp only [Act.put, List.setIfInBounds_toArray, List.set_cons_zero, List.set_cons_succ]
  apply det_cons
  · refine ⟨by rfl, fun L w hN hS => ?_⟩
    have h7 : L 7 = false := (hN.chain (hN.chain (hN.chain hN.free (k := 3) (by kernel_rfl)) (k := 4) (by kernel_rfl)) (k := 7) (by kernel_rfl))
    obtain ⟨_, hcc, hu⟩ := hS.resolve_right (by rw [h7]; simp)
    clear hS
    have H7 := Lib.hid h7
    clear h7
    go_simp
    refine (waiting_any _).mono ?_
    rintro e w' ⟨rfl, hbb⟩
    exact ⟨rfl, fun L' _ h2 => .inl ⟨by rw [h2 7 (by decide)]; exact H7.out, hs1 hbb ⟨hcc, hu⟩⟩⟩
  try simp only [Act.put, List.setIfInBounds_toArray, List.set_cons_zero, List.set_cons_succ]
  apply det_cons
  · refine ⟨by rfl, fun L w hN hS => ?_⟩
    have h7 : L 7 = false := (hN.chain (hN.chain hN.free (k := 4) (by kernel_rfl)) (k := 7) (by kernel_rfl))
    obtain ⟨_, hcc, hu⟩ := hS.resolve_right (by rw [h7]; simp)
    clear hS
    have H7 := Lib.hid h7
    clear h7
    go_simp
    exact ⟨rfl, fun L' _ h2 => .inl ⟨by rw [h2 7 (by decide)]; exact H7.out, hcc, hu⟩⟩
  try simp only [Act.put, List.setIfInBounds_toArray, List.set_cons_zero, List.set_cons_succ]
  apply det_cons
  · refine ⟨by rfl, fun L w hN hS => ?_⟩
    have h7 : L 7 = false := (hN.chain hN.free (k := 7) (by kernel_rfl))
    obtain ⟨_, hcc, hu⟩ := hS.resolve_right (by rw [h7]; simp)
    clear hS
    have H7 := Lib.hid h7
    clear h7
    go_simp
    exact ⟨rfl, fun L' _ h2 => .inl ⟨by rw [h2 7 (by decide)]; exact H7.out, hcc, hu⟩⟩
  try simp only [Act.put, List.setIfInBounds_toArray, List.set_cons_zero, List.set_cons_succ]
  apply det_cons
  · refine ⟨by rfl, fun L w hN hS => ?_⟩
    have h7 : L 7 = false := (hN.chain hN.free (k := 7) (by kernel_rfl))
    obtain ⟨_, hcc, hu⟩ := hS.resolve_right (by rw [h7]; simp)
    clear hS
    have H7 := Lib.hid h7
    clear h7
    go_simp
    exact ⟨rfl, fun L' _ h2 => .inl ⟨by rw [h2 7 (by decide)]; exact H7.out, hcc, hu⟩⟩
  try simp only [Act.put, List.setIfInBounds_toArray, List.set_cons_zero, List.set_cons_succ]
  apply det_cons
  · refine ⟨by rfl, fun L w hN hS => ?_⟩
    have h7 : L 7 = false := (hN.chain hN.free (k := 7) (by kernel_rfl))
    obtain ⟨_, hcc, hu⟩ := hS.resolve_right (by rw [h7]; simp)
    clear hS
    have H7 := Lib.hid h7
    clear h7
    go_simp
    exact ⟨rfl, fun L' _ h2 => .inl ⟨by rw [h2 7 (by decide)]; exact H7.out, hcc, hu⟩⟩
  try simp only [Act.put, List.setIfInBounds_toArray, List.set_cons_zero, List.set_cons_succ]
  apply det_cons
  · refine ⟨by rfl, fun L w hN hS => ?_⟩
    obtain ⟨_, hcc, hu⟩ := hS.resolve_right (by rw [hN.free]; simp)
    clear hS
    have haw : Acc pre w := acc_below HA.out HAV.out HEV.out.ll HEV.out.lB hu
    obtain ⟨fn, tmps, assign, body, hy, hR⟩ := HYH.out pre t w haw ht hNN
    simp only [Tr.cells] at hy
    have HR := Lib.hid hR
    clear hR haw
    go_simp
    refine RoundIn.mono HR.out ?_
    rintro e w' ⟨rfl, h1, h2, h3⟩
    refine ⟨rfl, fun L' hL' _ => .inr ⟨hL', h1, (Eff.of_below HEV.out.lB hu).trans ⟨h2.mono (fun k _ hk => .inr hk), h3⟩, ?_⟩⟩
    have hEw := HEV.out.below hu
    exact hEw.hM.of_block (h2.block M hEw.hM.lt (by rintro (e | e | e); exact hEw.sM.nl e; exact hEw.sM.nb e; exact hEw.sM.na e))
  try simp only [Act.put, List.setIfInBounds_toArray, List.set_cons_zero, List.set_cons_succ]
  apply det_cons
  · refine ⟨by rfl, fun L w hN hS => ?_⟩
    have h7 : L 7 = true := hN.was (by kernel_rfl)
    obtain ⟨_, h1, h2, h3⟩ := hS.resolve_left (by rw [h7]; simp)
    clear hS
    have H7 := Lib.hid h7
    clear h7
    go_simp
    exact ⟨rfl, fun L' _ hL => .inr ⟨by rw [hL 7 (by decide)]; exact H7.out, h1, h2, h3⟩⟩
  try simp only [Act.put, List.setIfInBounds_toArray, List.set_cons_zero, List.set_cons_succ]
  apply det_cons
  · refine ⟨by rfl, fun L w hN hS => ?_⟩
    have h7 : L 7 = true := hN.was (by kernel_rfl)
    obtain ⟨_, h1, h2, h3⟩ := hS.resolve_left (by rw [h7]; simp)
    clear hS
    have H7 := Lib.hid h7
    clear h7
    go_simp
    exact ⟨rfl, fun L' _ hL => .inr ⟨by rw [hL 7 (by decide)]; exact H7.out, h1, h2, h3⟩⟩
  try simp only [Act.put, List.setIfInBounds_toArray, List.set_cons_zero, List.set_cons_succ]
  refine det_nil ?_
  rintro L w' hL hS
  obtain ⟨_, h1, h2, h3⟩ := hS.resolve_left (by rw [hL 7 (by decide)]; simp)
  clear hS hL
  go_wp2
  go_ret
  have he : Eff M l Bt W w' := (Eff.of_below HE.out.lB hBV).trans h2
  exact ⟨rfl, h1, he, h3, HE.out.eff he h3 (HA.out.lt _ _ · h1)⟩
end
end Go.Proofs.YtbhjfojbjpbdbaaDoor
