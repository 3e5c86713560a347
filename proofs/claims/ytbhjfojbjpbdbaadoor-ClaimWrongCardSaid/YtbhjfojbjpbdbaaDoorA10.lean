/-
  The contract of the iterator's function (package claim, whole). Written by this session.
-/
import Derived.Test.YtbhjfojbjpbdbaaDoorA9
namespace Go.Proofs.YtbhjfojbjpbdbaaDoor
open Go.RowKit

section
variable {b : Bk} {s k tv : Value} {n M l Bt Bb By Br Bd N : Nat} {Acc : List Tr → World → Prop}

/-- what the iterator finds in the heap before its own boxes are laid. -/
structure Env0 (b : Bk) (s k tv : Value) (n M l Bt Bb : Nat) (W : World) : Prop where
  hb : W.heap[Bb]? = some (.cells (b.cells9 s k (.map (some M)) tv).toArray 79)
  sb : Safe l Bt W Bb
  s0 : Safe l Bt W 0
  s1 : Safe l Bt W 1
  sM : Safe l Bt W M
  hs : SlOf W n 7 s (stCells b.sts)
  ss : SlSafe l Bt W s (stCells b.sts)
  hk : SlOf W n 3 k (ckCells b.cks)
  sk : SlSafe l Bt W k (ckCells b.cks)
  hM : CacheOk W M b.cks
  hG : Glob W
  hn : n ≤ W.heap.size
  lB : Bt < W.heap.size
  ll : l < W.heap.size
  la : ∀ k, accBlk Bt W = some k → k < W.heap.size

/-- the truths of the weathers from one on. -/
def truthsFrom (b : Bk) (w : Nat) : List Tr := ((List.range 3).drop w).flatMap fun w => if bitOf b.wth w then goes (b.cost w) b.cks b.sts 0 (Tr.start w) 0 else []

theorem Env0.env {W : World} (hE : Env0 b s k tv n M l Bt Bb W) : Env b s k tv n M l Bt Bb W.heap.size (W.heap.size + 1) (W.heap.size + 1 + 1)
    (((W.alloc (.cells #[.func (.yield l) #[] #[]] 122)).alloc (.cells #[.func (.func 103) #[.agg (b.cells9 s k (.map (some M)) tv).toArray] #[]] 123)).alloc
      (.cells #[.func (.func 104) #[] #[.pointer (some ⟨Bb, 0, none⟩), .pointer (some ⟨W.heap.size, 0, none⟩), .pointer (some ⟨W.heap.size + 1, 0, none⟩), .pointer (some ⟨W.heap.size + 1 + 1, 0, none⟩)]] 124)) := by
  obtain ⟨V1, h1⟩ : ∃ V1, W.alloc (.cells #[.func (.yield l) #[] #[]] 122) = V1 := ⟨_, rfl⟩
  obtain ⟨V2, h2⟩ : ∃ V2, V1.alloc (.cells #[.func (.func 103) #[.agg (b.cells9 s k (.map (some M)) tv).toArray] #[]] 123) = V2 := ⟨_, rfl⟩
  obtain ⟨V3, h3⟩ : ∃ V3, V2.alloc (.cells #[.func (.func 104) #[] #[.pointer (some ⟨Bb, 0, none⟩), .pointer (some ⟨W.heap.size, 0, none⟩), .pointer (some ⟨W.heap.size + 1, 0, none⟩), .pointer (some ⟨W.heap.size + 1 + 1, 0, none⟩)]] 124) = V3 := ⟨_, rfl⟩
  have z1 : V1.heap.size = W.heap.size + 1 := by rw [← h1]; simp
  have z2 : V2.heap.size = W.heap.size + 1 + 1 := by rw [← h2]; simp [z1]
  have b1 : Below W.heap.size W V1 := by rw [← h1]; exact (Below.refl _ _).alloc (Nat.le_refl _) _
  have b2 : Below V1.heap.size V1 V2 := by rw [← h2]; exact (Below.refl _ _).alloc (Nat.le_refl _) _
  have b3 : Below V2.heap.size V2 V3 := by rw [← h3]; exact (Below.refl _ _).alloc (Nat.le_refl _) _
  have y1 : V1.heap[W.heap.size]? = some (.cells #[.func (.yield l) #[] #[]] 122) := by rw [← h1]; exact World.alloc_heap_new _ _
  have y2 : V2.heap[W.heap.size + 1]? = some (.cells #[.func (.func 103) #[.agg (b.cells9 s k (.map (some M)) tv).toArray] #[]] 123) := by rw [← h2, ← z1]; exact World.alloc_heap_new _ _
  have y3 : V3.heap[W.heap.size + 1 + 1]? = some (.cells #[.func (.func 104) #[] #[.pointer (some ⟨Bb, 0, none⟩), .pointer (some ⟨W.heap.size, 0, none⟩), .pointer (some ⟨W.heap.size + 1, 0, none⟩), .pointer (some ⟨W.heap.size + 1 + 1, 0, none⟩)]] 124) := by
    rw [← h3, ← z2]; exact World.alloc_heap_new _ _
  rw [h1, h2, h3]
  clear h1 h2 h3
  have hB : Below W.heap.size W V3 := (b1.trans (b2.mono (by omega))).trans (b3.mono (by omega))
  have he : Eff M l Bt W V3 := Eff.of_below hE.lB hB
  have hz := hB.size
  have hnew : ∀ K, W.heap.size ≤ K → Safe l Bt V3 K := fun K hK =>
    ⟨by have := hE.ll; omega, by have := hE.lB; omega, fun e => by rw [accBlk_same (hB.block Bt hE.lB)] at e; have := hE.la K e; omega⟩
  have lt : ∀ {B : Nat} {o : Obj}, W.heap[B]? = some o → B < W.heap.size := fun h1 => (Array.getElem?_eq_some_iff.1 h1).1
  obtain ⟨es, c, hm, _⟩ := id hE.hM
  have gk : ∀ {B o v}, W.cell? ⟨B, o, none⟩ = some v → V3.cell? ⟨B, o, none⟩ = some v := fun h => (hB.cell (p := ⟨_, _, none⟩) (lt_of_cell h)).trans h
  exact ⟨(hB.block _ (lt hE.hb)).trans hE.hb, (b3.block _ (by omega)).trans ((b2.block _ (by omega)).trans y1), (b3.block _ (by omega)).trans y2, y3,
    hE.sb.eff (lt hE.hb) he, hnew _ (by omega), hnew _ (by omega), hnew _ (by omega), hE.s0.eff (lt_of_cell hE.hG.k0) he, hE.s1.eff (lt_of_cell hE.hG.n0) he, hE.sM.eff (lt hm) he,
    hE.hs.eff hm hE.ss he, hE.ss.eff hE.hs hE.hn he, hE.hk.eff hm hE.sk he, hE.sk.eff hE.hk hE.hn he, hE.hM.of_block (hB.block M (lt hm)),
    ⟨gk hE.hG.k0, gk hE.hG.k1, gk hE.hG.n0, gk hE.hG.n1⟩, by have := hE.hn; omega, by have := hE.lB; omega, by have := hE.ll; omega,
    fun k hk => by rw [accBlk_same (hB.block Bt hE.lB)] at hk; have := hE.la k hk; omega⟩

theorem truthsFrom_step (b : Bk) {q : Nat} (hq : q < 3) : truthsFrom b q = (if bitOf b.wth q then goes (b.cost q) b.cks b.sts 0 (Tr.start q) 0 else []) ++ truthsFrom b (q + 1) := by
  have hqq : q = 0 ∨ q = 1 ∨ q = 2 := by omega
  rcases hqq with rfl | rfl | rfl <;> simp [truthsFrom, List.range, List.range.loop]

theorem bit_eq {wth : Int} (hw : 1 ≤ wth ∧ wth ≤ 7) {q : Nat} (hq : q < 3) : (bits BinOp.and IntKind.i64 (wth / 2 ^ q) 1 == 1) = bitOf wth q := by
  have h1 : wth = 1 ∨ wth = 2 ∨ wth = 3 ∨ wth = 4 ∨ wth = 5 ∨ wth = 6 ∨ wth = 7 := by omega
  have h2 : q = 0 ∨ q = 1 ∨ q = 2 := by omega
  rcases h1 with rfl | rfl | rfl | rfl | rfl | rfl | rfl <;> rcases h2 with rfl | rfl | rfl <;> decide

set_option maxRecDepth 100000 in
set_option maxHeartbeats 2000000 in
theorem whole1_any (hA : AccLaw l Bt Acc) (hY : YieldsTo l Bt N Acc) (hb : Big b) (hl : 0 < b.sts.length) (hw : 1 ≤ b.wth ∧ b.wth ≤ 7) (pre : List Tr) (W : World) (hE : Env0 b s k tv n M l Bt Bb W) (hacc : Acc pre W)
    (hN : (pre ++ truths b).length ≤ N - 1) :
    Calls Tryd.prog 102 #[.func (.yield l) #[] #[], .pointer (some ⟨Bb, 0, none⟩)] W fun e W' => (∃ v, e = .returned v) ∧ Acc (pre ++ truths b) W' ∧ Eff M l Bt W W' ∧ CacheOk W' M b.cks := by
  obtain ⟨sts, wth, c0, c1, c2, cks, rate⟩ := b
  have q0 : W.cell? ⟨Bb, 0, none⟩ = some s := blk_cell hE.hb
  have q1 : W.cell? ⟨Bb, 1, none⟩ = some (.int .i64 wth) := blk_cell hE.hb
  have q2 : W.cell? ⟨Bb, 2, none⟩ = some (.int .i64 c0) := blk_cell hE.hb
  have q3 : W.cell? ⟨Bb, 3, none⟩ = some (.int .i64 c1) := blk_cell hE.hb
  have q4 : W.cell? ⟨Bb, 4, none⟩ = some (.int .i64 c2) := blk_cell hE.hb
  have q5 : W.cell? ⟨Bb, 5, none⟩ = some k := blk_cell hE.hb
  have q6 : W.cell? ⟨Bb, 6, none⟩ = some (.int .i64 rate) := blk_cell hE.hb
  have q7 : W.cell? ⟨Bb, 7, none⟩ = some (.map (some M)) := blk_cell hE.hb
  have q8 : W.cell? ⟨Bb, 8, none⟩ = some tv := blk_cell hE.hb
  have lb : Bb < W.heap.size := (Array.getElem?_eq_some_iff.1 hE.hb).1
  have HE := Lib.hid hE
  have HA := Lib.hid hA
  have HY := Lib.hid hY
  have HAcc := Lib.hid hacc
  have HN := Lib.hid hN
  clear hE hA hY hacc hN
  have hpt : pre ++ truths ⟨sts, wth, c0, c1, c2, cks, rate⟩ = pre ++ truthsFrom ⟨sts, wth, c0, c1, c2, cks, rate⟩ 0 := rfl
  obtain ⟨TA, hTA⟩ : ∃ TA, pre ++ truths ⟨sts, wth, c0, c1, c2, cks, rate⟩ = TA := ⟨_, rfl⟩
  rw [hTA]
  have HPT := Lib.hid (hTA.symm.trans hpt)
  have HTL := Lib.hid (hTA ▸ HN.out)
  clear hpt hTA HN
  go_enter Tryd.func102, Tryd.ntmps102
  go_upto_region 4 with fail
  have hEV := HE.out.env
  simp only [Bk.cells9] at hEV
  obtain ⟨V, hV⟩ : ∃ V, ((W.alloc (.cells #[.func (.yield l) #[] #[]] 122)).alloc (.cells #[.func (.func 103) #[.agg #[s, .int .i64 wth, .int .i64 c0, .int .i64 c1, .int .i64 c2, k, .int .i64 rate, .map (some M), tv]] #[]] 123)).alloc
      (.cells #[.func (.func 104) #[] #[.pointer (some ⟨Bb, 0, none⟩), .pointer (some ⟨W.heap.size, 0, none⟩), .pointer (some ⟨W.heap.size + 1, 0, none⟩), .pointer (some ⟨W.heap.size + 1 + 1, 0, none⟩)]] 124) = V := ⟨_, rfl⟩
  have hBV : Below W.heap.size W V := by rw [← hV]; exact (((Below.refl _ _).alloc (Nat.le_refl _) _).alloc (by simp) _).alloc (by simp; omega) _
  rw [hV] at hEV ⊢
  have hAV := acc_below HA.out HAcc.out HE.out.ll HE.out.lB hBV
  have HEV := Lib.hid hEV
  have HAV := Lib.hid hAV
  have HB := Lib.hid hb
  clear hEV hAV hV q0 q1 q2 q3 q4 q5 q6 q7 q8 hb
  go_wp2_with fail
  go_loopg [9] 3 (fun n i wx => ∃ (q : Nat) (cur : List Tr), q ≤ 3 ∧ n = 3 - q ∧ i = .int .i64 q ∧ Acc cur wx ∧ Eff M l Bt V wx ∧ CacheOk wx M cks ∧ cur ++ truthsFrom ⟨sts, wth, c0, c1, c2, cks, rate⟩ q = TA)
  case atStart => exact ⟨0, pre, by omega, rfl, rfl, HAV.out, Eff.refl V, HEV.out.hM, HPT.out.symm⟩
  case round =>
    obtain ⟨q, cur, hq, hgk, rfl, ha, he, hC, hT⟩ := hrel
    have HG := Lib.hid hgk
    have HT := Lib.hid hT
    have hEx := HEV.out.eff he hC (HA.out.lt _ _ · ha)
    have HEX := Lib.hid hEx
    have HA1 := Lib.hid ha
    have HF1 := Lib.hid he
    have HC1 := Lib.hid hC
    clear hgk hT
    by_cases hq3 : q < 3
    · have q1 : wr.cell? ⟨Bb, 1, none⟩ = some (.int .i64 wth) := blk_cell hEx.hb
      have d0 : wr.cell? ⟨W.heap.size + 1 + 1, 0, none⟩ = some (.func (.func 104) #[] #[.pointer (some ⟨Bb, 0, none⟩), .pointer (some ⟨W.heap.size, 0, none⟩), .pointer (some ⟨W.heap.size + 1, 0, none⟩), .pointer (some ⟨W.heap.size + 1 + 1, 0, none⟩)]) := blk_cell hEx.hd
      have hst := truthsFrom_step ⟨sts, wth, c0, c1, c2, cks, rate⟩ hq3
      clear hEx ha he hC
      have hbb := bit_eq hw hq3
      by_cases hbit : bitOf wth q = true
      · rw [hbit] at hbb
        simp only [hbit, if_true] at hst
        have HST := Lib.hid hst
        clear hst hbit
        go_wp2_with fail
        have hcall := drive_any HA.out HY.out HB.out hl hq3 sts ⟨0, rfl⟩ 0 (Tr.start q) 0 cur wr rfl (Nat.zero_le _) ⟨by simp [Tr.start]; omega, by simp [Tr.start], by simp [Tr.start], by simp [Tr.start], by simp [Tr.start], by simp [Tr.start], by simp [Tr.start]⟩ rfl (by omega) (by omega) HEX.out HA1.out (by
          have l1 := congrArg List.length HT.out
          rw [HST.out] at l1
          have l2 := HTL.out
          simp only [List.length_append] at l1 ⊢
          omega)
        simp only [Tr.cells, Tr.start, Int.natCast_zero] at hcall
        refine hcall.mono ?_
        clear hcall
        rintro e W7 ⟨rfl, ha7, he7, hC7⟩
        have HA7 := Lib.hid ha7
        have HF7 := Lib.hid he7
        have HC7 := Lib.hid hC7
        clear ha7 he7 hC7
        go_wp2_with fail
        go_roundg (3 - (q + 1))
        case measure => rw [HG.out]; omega
        case rel => exact ⟨q + 1, _, by omega, rfl, by go_num, HA7.out, HF1.out.trans HF7.out, HC7.out, by rw [← HT.out, HST.out, List.append_assoc]; rfl⟩
      · have hbf : bitOf wth q = false := by simpa using hbit
        rw [hbf] at hbb
        simp only [hbf] at hst
        have HST := Lib.hid hst
        clear hst hbit hbf
        go_wp2_with fail
        go_roundg (3 - (q + 1))
        case measure => rw [HG.out]; omega
        case rel => exact ⟨q + 1, cur, by omega, rfl, by go_num, HA1.out, HF1.out, HC1.out, by rw [← HT.out, HST.out]; simp⟩
    · have hT4 : cur = TA := by have := HT.out; rw [show q = 3 by omega, show truthsFrom ⟨sts, wth, c0, c1, c2, cks, rate⟩ 3 = [] from rfl, List.append_nil] at this; exact this
      have HT4 := Lib.hid hT4
      clear hT4 hEx ha he hC
      go_wp2
      refine bodyPost_end (v := .tuple #[]) (by simp [results, Tryd.results102, go_sem]) rfl ?_
      exact ⟨⟨_, rfl⟩, HT4.out ▸ HA1.out, (Eff.of_below HE.out.lB hBV).trans HF1.out, HC1.out⟩

/-- the iterator's function is made. -/
theorem whole_any (b : Bk) (s k m tv : Value) (W : World) : Calls Tryd.prog 95 #[.agg (b.cells9 s k m tv).toArray] W fun e W' =>
    e = .returned (.func (.func 102) #[] #[.pointer (some ⟨W.heap.size, 0, none⟩)]) ∧ W' = W.alloc (.cells (b.cells9 s k m tv).toArray 79) := by
  simp only [Bk.cells9]
  go_enter Tryd.func95, Tryd.ntmps95
  go_wp2
  go_ret
  exact ⟨rfl, rfl⟩
end
end Go.Proofs.YtbhjfojbjpbdbaaDoor
