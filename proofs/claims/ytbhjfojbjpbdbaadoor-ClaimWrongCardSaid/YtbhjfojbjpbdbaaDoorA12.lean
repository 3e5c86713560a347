/-
  The range over the iterator (package claim, opened): the loop's record, the book that gathers, and the law of the statement. Written by this session.
-/
import Derived.Test.YtbhjfojbjpbdbaaDoorA11
import Derived.RangeFuncIn
import Derived.RangeFuncRecord
import Derived.RangeFuncLeaves
import Derived.Maps.OwnIn
namespace Go.Proofs.YtbhjfojbjpbdbaaDoor
open Go.RowKit

/-- the book that gathers, and the loop's record. -/
structure At (b : Bk) (s kv : Value) (M Bt l n1 : Nat) (r : Loop) (cur : List Tr) (W : World) : Prop where
  L : W.heap[l]? = some (.loop r)
  bt : ∃ tv, W.heap[Bt]? = some (.cells (b.cells9 s kv (.map (some M)) tv).toArray 79) ∧ W.ownsRow n1 87 7 tv cur.length (cur.flatMap Tr.cells)
  sz : n1 ≤ W.heap.size

theorem accBlk_own {b : Bk} {s kv m tv : Value} {Bt n1 k : Nat} {W : World} {xs : List Value} (h : W.heap[Bt]? = some (.cells (b.cells9 s kv m tv).toArray 79)) (hr : W.ownsRow n1 87 7 tv k xs) : accBlk Bt W = tv.ownBlock := by
  have h8 : W.cell? ⟨Bt, 8, none⟩ = some tv := (blk_cell h).trans rfl
  unfold accBlk
  rw [h8]
  rcases hr.2 with ⟨rfl, _⟩ | ⟨g, cap, cur, rfl, _⟩ <;> rfl

theorem ownsRow_same {W W' : World} {base : Nat} {e : TypeId} {size : Nat} {v : Value} {k : Nat} {xs : List Value} (h : W.ownsRow base e size v k xs) (hs : ∀ g, v.ownBlock = some g → W'.heap[g]? = W.heap[g]?) : W'.ownsRow base e size v k xs := by
  refine ⟨h.1, ?_⟩
  rcases h.2 with hn | ⟨g, cap, cur, rfl, hb, hg, rest⟩
  · exact .inl hn
  · exact .inr ⟨g, cap, cur, rfl, hb, (hs g rfl).trans hg, rest⟩

theorem At.law {b : Bk} {s kv : Value} {M Bt l n1 : Nat} {r : Loop} : AccLaw l Bt (At b s kv M Bt l n1 r) := by
  refine ⟨fun pre W W' h hz hk => ?_, fun pre W k h hk => ?_⟩
  · obtain ⟨tv, hb, hr⟩ := h.bt
    have ha := accBlk_own hb hr
    exact ⟨(hk l (.inl rfl)).trans h.L, ⟨tv, (hk Bt (.inr (.inl rfl))).trans hb, ownsRow_same hr fun g hg => hk g (.inr (.inr (ha.trans hg)))⟩, Nat.le_trans h.sz hz⟩
  · obtain ⟨tv, hb, hr⟩ := h.bt
    rw [accBlk_own hb hr] at hk
    exact (hr.lt k hk).2

/-- what a round leaves. -/
def RoundPost (l Bt : Nat) (Acc : List Tr → World → Prop) (pre : List Tr) (t : Tr) (W : World) (e : Ending) (W' : World) : Prop :=
  e = .returned (.bool true) ∧ Acc (pre ++ [t]) W' ∧ Upd (fun k => k = l ∨ k = Bt ∨ accBlk Bt W = some k) W W' ∧ (∀ k, accBlk Bt W' = some k → accBlk Bt W = some k ∨ W.heap.size ≤ k)

/-- the loop's round, as it is walked. -/
def RoundOk (A B : Code) (l Bt : Nat) (T : Array Value) (N : Nat) (Acc : List Tr → World → Prop) : Prop :=
  ∀ (pre : List Tr) (t : Tr) (W : World), Acc pre W → pre.length < N →
    A.wpIn (Fence.wide.inRound l) 0 Tryd.prog (Exit.then (fun a₁ w₁ => ∃ w₂, (Instr.beginRound l).run Tryd.prog w₁ = .ok () w₂ ∧ B.wpIn (Fence.wide.inRound l) 0 Tryd.prog (roundPost Tryd.prog l (RoundPost l Bt Acc pre t W)) a₁ w₂) (fun _ _ _ => False))
      { tmps := T.setIfInBounds 39 (.agg t.cells.toArray), defers := [] } W

theorem RoundOk.yields {A B : Code} {b : Bk} {s kv : Value} {M Bt l n1 N : Nat} {r : Loop} (hA : r.assign = A) (hB : r.body = B) (hp : r.params = #[39])
    (h : RoundOk A B l Bt r.tmps N (At b s kv M Bt l n1 r)) : YieldsTo l Bt N (At b s kv M Bt l n1 r) := by
  intro pre t W hacc _ hlen
  refine ⟨r.fn, r.tmps.setIfInBounds 39 (.agg t.cells.toArray), r.assign, r.body, ?_, ?_⟩
  · have := run_yield (P := Tryd.prog) (args := #[.agg t.cells.toArray]) hacc.L (by rw [hp]; rfl)
    rw [this, hp]
    simp
  · have := h pre t W hacc hlen
    rw [hA, hB]
    exact roundIn_of_wpIn trivial this

/-- the end of a round, from what the append's law leaves. -/
theorem round_end {b : Bk} {s kv : Value} {M Bt l n1 : Nat} {r : Loop} {pre : List Tr} {t : Tr} {W w2 w3 : World} {tv v' : Value} {tb tmp : Obj} (hacc : At b s kv M Bt l n1 r pre W) (hready : r.state = .ready) (hpend : r.pending = none)
    (hlB : l ≠ Bt) (hln : l < n1) (hBn : Bt < n1) (hb : W.heap[Bt]? = some (.cells (b.cells9 s kv (.map (some M)) tv).toArray 79)) (hr : W.ownsRow n1 87 7 tv pre.length (pre.flatMap Tr.cells))
    (h2 : (W.alloc tb).putObj l (.loop { r with state := .busy }) = w2)
    (hown : w3.ownsRow n1 87 7 v' (pre.length + 1) (pre.flatMap Tr.cells ++ t.cells)) (hg : (w2.alloc tmp).grownBy w3 tv.ownBlock) (hat : v'.ownBlock = tv.ownBlock ∨ v'.ownBlock = some (w2.alloc tmp).heap.size) :
    ∃ v w5, (Instr.endRound l none).run Tryd.prog (w3.setCell ⟨Bt, 8, none⟩ v') = .ok v w5 ∧ RoundPost l Bt (At b s kv M Bt l n1 r) pre t W (.returned v) w5 := by
  have ha := accBlk_own hb hr
  have hlW : l < W.heap.size := (Array.getElem?_eq_some_iff.1 hacc.L).1
  have hBW : Bt < W.heap.size := (Array.getElem?_eq_some_iff.1 hb).1
  have hz2 : w2.heap.size = W.heap.size + 1 := by rw [← h2]; simp [World.putObj]
  have hz3 : W.heap.size + 2 ≤ w3.heap.size := by have := hg.size; simp at this; omega
  have hown_lt := hr.lt
  have k2 : ∀ k, k ≠ l → k < W.heap.size → w2.heap[k]? = W.heap[k]? := fun k h1 h3 => by
    rw [← h2]; exact (World.putObj_heap_other (fun e => h1 e)).trans (heap_alloc_old W tb h3)
  have l2 : w2.heap[l]? = some (.loop { r with state := .busy }) := by rw [← h2]; exact World.putObj_heap_same (by simp; omega)
  have k3 : ∀ k, k < w2.heap.size → tv.ownBlock ≠ some k → w3.heap[k]? = w2.heap[k]? := fun k h1 h4 => (hg.block k (by simp; omega) (fun e => h4 e.symm)).trans (heap_alloc_old w2 tmp h1)
  have nl : tv.ownBlock ≠ some l := fun e => by have := (hown_lt l e).1; omega
  have nB : tv.ownBlock ≠ some Bt := fun e => by have := (hown_lt Bt e).1; omega
  have l3 : w3.heap[l]? = some (.loop { r with state := .busy }) := (k3 l (by omega) nl).trans l2
  have b3 : w3.heap[Bt]? = some (.cells (b.cells9 s kv (.map (some M)) tv).toArray 79) := (k3 Bt (by omega) nB).trans ((k2 Bt hlB.symm hBW).trans hb)
  obtain ⟨w4, h4⟩ : ∃ w4, w3.setCell ⟨Bt, 8, none⟩ v' = w4 := ⟨_, rfl⟩
  have z4 : w4.heap.size = w3.heap.size := by rw [← h4]; simp [World.setCell]
  have l4 : w4.heap[l]? = some (.loop { r with state := .busy }) := by rw [← h4]; exact (Below.heap_setCell _ _ _ _ hlB).trans l3
  have b4 : w4.heap[Bt]? = some (.cells (b.cells9 s kv (.map (some M)) v').toArray 79) := by rw [← h4, blk_set b3]; simp [Bk.cells9]
  have k4 : ∀ k, k ≠ Bt → w4.heap[k]? = w3.heap[k]? := fun k hk => by rw [← h4]; exact Below.heap_setCell _ _ _ _ hk
  have hown4 : w4.ownsRow n1 87 7 v' (pre.length + 1) (pre.flatMap Tr.cells ++ t.cells) := ownsRow_same hown fun g hg' => k4 g (fun e => by have := (hown.lt g hg').1; omega)
  rw [h4]
  refine ⟨_, _, run_endRound none l4, rfl, ?_, ?_, ?_⟩
  · obtain ⟨w5, h5⟩ : ∃ w5, w4.putObj l (.loop { { r with state := .busy } with state := if (none : Option Code).isNone then .ready else .done, pending := none }) = w5 := ⟨_, rfl⟩
    rw [h5]
    refine ⟨?_, ⟨v', ?_, ?_⟩, ?_⟩
    · rw [← h5, World.putObj_heap_same (Array.getElem?_eq_some_iff.1 l4).1]
      simp [← hready, ← hpend]
    · rw [← h5]; exact (World.putObj_heap_other hlB.symm).trans b4
    · simp only [List.length_append, List.length_cons, List.length_nil, List.flatMap_append, List.flatMap_cons, List.flatMap_nil, List.append_nil]
      refine ownsRow_same hown4 fun g hg' => ?_
      rw [← h5]
      exact World.putObj_heap_other (fun e => by have := (hown4.lt g hg').1; omega)
    · rw [← h5]
      have := hacc.sz
      simp [World.putObj]
      omega
  · refine ⟨?_, ?_, ?_, ?_, fun k hk hs => ?_⟩
    · have := hg.os; rw [← h4]; show w3.os = _; rw [this, ← h2]; rfl
    · have := hg.tape; rw [← h4]; show w3.tape = _; rw [this, ← h2]; rfl
    · have := hg.output; rw [← h4]; show w3.output = _; rw [this, ← h2]; rfl
    · simp [World.putObj]; omega
    · have h1 : k ≠ l := fun e => hs (.inl e)
      have h3 : k ≠ Bt := fun e => hs (.inr (.inl e))
      have h6 : tv.ownBlock ≠ some k := fun e => hs (.inr (.inr (ha.trans e)))
      exact (World.putObj_heap_other (fun e => h1 e)).trans ((k4 k h3).trans ((k3 k (by omega) h6).trans (k2 k h1 hk)))
  · intro k hk
    rw [accBlk_same (World.putObj_heap_other hlB.symm), accBlk_own b4 hown4] at hk
    rcases hat with e | e
    · exact .inl (ha.trans (e ▸ hk))
    · right
      rw [hk] at e
      simp at e
      omega

theorem Env0.of {b : Bk} {s kv : Value} {n M Bt l Bb : Nat} {w : World} (hG : Glob w) (hs : SlOf w n 7 s (stCells b.sts)) (hk : SlOf w n 3 kv (ckCells b.cks)) (hM : CacheOk w M b.cks) (hn : n ≤ w.heap.size) (hB : Bt < w.heap.size) (hl : l < w.heap.size)
    (hb : w.heap[Bb]? = some (.cells (b.cells9 s kv (.map (some M)) (.slice none 0 0)).toArray 79)) (hacc : accBlk Bt w = none) (hBb : Bb ≠ Bt ∧ Bb ≠ l) (h0 : 1 < Bt ∧ 1 < l) (hMn : M ≠ Bt ∧ M ≠ l)
    (hS : ∀ g o len cap, s = .slice (some ⟨g, o, none⟩) len cap → 0 < b.sts.length → g ≠ Bt ∧ g ≠ l) (hK : ∀ g o len cap, kv = .slice (some ⟨g, o, none⟩) len cap → 0 < b.cks.length → g ≠ Bt ∧ g ≠ l) : Env0 b s kv (.slice none 0 0) n M l Bt Bb w := by
  have sf : ∀ k, k ≠ Bt ∧ k ≠ l → Safe l Bt w k := fun k hk => ⟨hk.2, hk.1, by rw [hacc]; simp⟩
  refine ⟨hb, sf _ hBb, sf _ (by omega), sf _ (by omega), sf _ hMn, hs, ?_, hk, ?_, hM, hG, hn, hB, hl, by rw [hacc]; simp⟩
  · obtain ⟨a, cap, rfl, _, _, _, h4⟩ := hs
    intro hne a' len' cap' e
    cases e
    obtain ⟨g, o, e1, _⟩ := h4 (List.length_pos_iff.2 hne)
    cases e1
    have := hS g o _ _ rfl (by have := List.length_pos_iff.2 hne; simpa [stCells] using this)
    exact sf _ this
  · obtain ⟨a, cap, rfl, _, _, _, h4⟩ := hk
    intro hne a' len' cap' e
    cases e
    obtain ⟨g, o, e1, _⟩ := h4 (List.length_pos_iff.2 hne)
    cases e1
    have := hK g o _ _ rfl (by have := List.length_pos_iff.2 hne; simpa [ckCells] using this)
    exact sf _ this

/-- the range over the iterator, all its rounds walked once. -/
theorem range_any {A B : Code} {Q : Exit → Act → World → Prop} {a : Act} {w V : World} {b : Bk} {s kv : Value} {n M Bt Bb N : Nat} (hb : Big b) (hl : 0 < b.sts.length) (hw : 1 ≤ b.wth ∧ b.wth ≤ 7) (hN : (truths b).length ≤ N - 1)
    (hg : a.eval (.tmp 38) = .func (.func 102) #[] #[.pointer (some ⟨Bb, 0, none⟩)])
    (hE : ∀ l, w.heap.size < l → l < w.heap.size + 2 → ∀ w', Below w.heap.size w w' → l < w'.heap.size → Env0 b s kv (.slice none 0 0) n M l Bt Bb w')
    (hbt : w.heap[Bt]? = some (.cells (b.cells9 s kv (.map (some M)) (.slice none 0 0)).toArray 79)) (hV : Below V.heap.size V w) (hM : V.heap.size ≤ M ∧ M < w.heap.size) (hB : V.heap.size ≤ Bt)
    (hR : ∀ r : Loop, r.state = .ready → r.pending = none → RoundOk A B (w.heap.size + 1) Bt a.tmps N (At b s kv M Bt (w.heap.size + 1) (w.heap.size + 2) r))
    (hQ : ∀ W tv, W.heap[w.heap.size]? = some (.deferred (some [])) → W.heap[Bt]? = some (.cells (b.cells9 s kv (.map (some M)) tv).toArray 79) → W.ownsRow (w.heap.size + 2) 87 7 tv (truths b).length ((truths b).flatMap Tr.cells) →
      Below V.heap.size V W → (∀ k, k < w.heap.size → k ≠ M → k ≠ Bt → W.heap[k]? = w.heap[k]?) → Q .normal { a with defers := [{ target := .collected w.heap.size, args := #[] }] ++ a.defers } W) :
    (Code.rangeFunc (.tmp 38) #[39] A B).wpIn Fence.wide 0 Tryd.prog Q a w := by
  have hBw : Bt < w.heap.size := (Array.getElem?_eq_some_iff.1 hbt).1
  refine wpIn_rangeFunc ?_
  intro fn _
  obtain ⟨r, hr⟩ : ∃ r : Loop, ({ state := .ready, pending := none, fn, tmps := a.tmps, params := #[39], assign := A, body := B, defers := w.heap.size } : Loop) = r := ⟨_, rfl⟩
  obtain ⟨w1, h1⟩ : ∃ w1, (w.alloc (.deferred (some []))).alloc (.loop r) = w1 := ⟨_, rfl⟩
  have hz1 : w1.heap.size = w.heap.size + 2 := by rw [← h1]; simp
  have hb1 : Below w.heap.size w w1 := by rw [← h1]; exact ((Below.refl _ _).alloc (Nat.le_refl _) _).alloc (by simp) _
  have hL1 : w1.heap[w.heap.size + 1]? = some (.loop r) := by rw [← h1]; have := World.alloc_heap_new (w.alloc (.deferred (some []))) (.loop r); rwa [World.size_alloc] at this
  have hD1 : w1.heap[w.heap.size]? = some (.deferred (some [])) := by rw [← h1]; exact (heap_alloc_old _ _ (by simp)).trans (World.alloc_heap_new _ _)
  have hB1 := (hb1.block Bt hBw).trans hbt
  have hE1 := hE (w.heap.size + 1) (by omega) (by omega) w1 hb1 (by omega)
  have hA1 : At b s kv M Bt (w.heap.size + 1) (w.heap.size + 2) r [] w1 := ⟨hL1, ⟨_, hB1, World.ownsRow_nil _ _ _ _⟩, by omega⟩
  have hacc1 : accBlk Bt w1 = none := (accBlk_own hB1 (World.ownsRow_nil w1 (w.heap.size + 2) 87 7)).trans rfl
  refine ⟨w.heap.size + 1, [{ target := .collected w.heap.size, args := #[] }], w1, { target := .fn (.func 102) #[.pointer (some ⟨Bb, 0, none⟩)], args := #[.func (.yield (w.heap.size + 1)) #[] #[]] }, w1, 102,
    #[.func (.yield (w.heap.size + 1)) #[] #[], .pointer (some ⟨Bb, 0, none⟩)], w1, ?_, ?_, fun _ _ => trivial, ?_, fun h => by simp [Fence.wide] at h, ?_⟩
  · have := run_enterLoop_outer (P := Tryd.prog) (w := w) fn a.tmps #[39] A B
    rw [hr, h1] at this
    exact this
  · simp [go_sem] at hg
    simp [resolve, go_sem, hg]
  · simp [invoke, go_sem]
  · refine callsIn_wide.2 ((whole1_any At.law (RoundOk.yields (by rw [← hr]) (by rw [← hr]) (by rw [← hr]) (by have := hR r (by rw [← hr]) (by rw [← hr]); rw [show r.tmps = a.tmps by rw [← hr]]; exact this)) hb hl hw [] w1 hE1 hA1 (by simpa using hN)).mono ?_)
    rintro e W ⟨⟨v, rfl⟩, hA, hF, _⟩
    obtain ⟨tv, hbW, hrow⟩ := hA.bt
    have hst : r.pending = none := by rw [← hr]
    have hend := run_endLoop (P := Tryd.prog) hA.L (by rw [← hr]; simp)
    rw [hst] at hend
    refine ⟨none, _, hend, ?_⟩
    have keep : ∀ k, k < w.heap.size → k ≠ M → k ≠ Bt → W.heap[k]? = w.heap[k]? := fun k hk hm hb => (hF.upd.block k (by omega) (by
      rintro (e | e | e | e)
      · exact hm e
      · omega
      · exact hb e
      · rw [hacc1] at e; cases e)).trans (hb1.block k hk)
    simp only [List.nil_append] at hrow
    refine hQ _ tv ?_ ?_ ?_ ?_ ?_
    · refine (World.putObj_heap_other (by omega)).trans ((hF.upd.block _ (by omega) ?_).trans hD1)
      rintro (e | e | e | e)
      · omega
      · omega
      · omega
      · rw [hacc1] at e; cases e
    · exact (World.putObj_heap_other (by omega)).trans hbW
    · exact ownsRow_same hrow fun g hg => World.putObj_heap_other (by have := (hrow.lt g hg).1; omega)
    · have hVs := hV.size
      exact ⟨(show W.os = _ from hF.upd.os).trans (hb1.os.trans hV.os), (show W.tape = _ from hF.upd.tape).trans (hb1.tape.trans hV.tape), (show W.output = _ from hF.upd.output).trans (hb1.output.trans hV.output),
        by have := hF.size; simp; omega, fun k hk => (World.putObj_heap_other (by omega)).trans ((keep k (by omega) (by omega) (by omega)).trans (hV.block k hk))⟩
    · exact fun k hk hm hb => (World.putObj_heap_other (by omega)).trans (keep k hk hm hb)

theorem flat_at {sz : Nat} : ∀ (rows : List (List Value)), (∀ r ∈ rows, r.length = sz) → ∀ (i j : Nat) (r : List Value) (c : Value), rows[i]? = some r → r[j]? = some c → rows.flatten[i * sz + j]? = some c
  | [], _, i, j, r, c, h, _ => by simp at h
  | x :: rows, hl, 0, j, r, c, h, hj => by
    simp at h
    subst h
    have hjl : j < x.length := (List.getElem?_eq_some_iff.1 hj).1
    simp only [List.flatten_cons, Nat.zero_mul, Nat.zero_add]
    rw [List.getElem?_append_left hjl]
    exact hj
  | x :: rows, hl, i + 1, j, r, c, h, hj => by
    have hx : x.length = sz := hl x (by simp)
    simp only [List.getElem?_cons_succ] at h
    simp only [List.flatten_cons]
    rw [List.getElem?_append_right (by rw [hx, Nat.add_mul]; omega), hx, show (i + 1) * sz + j - sz = i * sz + j by rw [Nat.add_mul]; omega]
    exact flat_at rows (fun r hr => hl r (by simp [hr])) i j r c h hj

theorem SlOf.own {w : World} {base : Nat} {e : TypeId} {sz : Nat} {v : Value} {rows : List (List Value)} (h : w.ownsRow base e sz v rows.length rows.flatten) (hr : ∀ r ∈ rows, r.length = sz) : SlOf w w.heap.size sz v rows := by
  rcases h.2 with ⟨rfl, h0⟩ | ⟨g, cap, cur, rfl, hb, hg, hc, hm, hs, ht⟩
  · exact ⟨none, 0, by rw [h0], by omega, by simp [maxLen], hr, fun hp => by omega⟩
  · refine ⟨_, cap, rfl, hc, hm, hr, fun _ => ⟨g, 0, rfl, (Array.getElem?_eq_some_iff.1 hg).1, fun i j r c hi hj => ?_⟩⟩
    have h1 := flat_at rows hr i j r c hi hj
    rw [blk_cell hg, Nat.zero_add]
    rw [← ht, List.getElem?_take] at h1
    split at h1
    · simpa using h1
    · cases h1

theorem cacheOk_new {W : World} {M : Nat} {cks : List Ck} (h : W.heap[M]? = some (.map #[nowEntry] 1)) : CacheOk W M cks := by
  refine ⟨_, _, h, fun e he => ?_⟩
  simp at he
  subst he
  exact ⟨-1, -1, false, rfl, rfl, fun hn => absurd ⟨rfl, rfl⟩ hn⟩

theorem ckCells_flat (l : List Ck) : l.flatMap Ck.cells = (ckCells l).flatten := by simp [ckCells, List.flatMap_def]
theorem trCells_flat (l : List Tr) : l.flatMap Tr.cells = (trCells l).flatten := by simp [trCells, List.flatMap_def]
theorem ckCells_len (l : List Ck) : ∀ r ∈ ckCells l, r.length = 3 := by intro r hr; simp [ckCells] at hr; obtain ⟨c, _, rfl⟩ := hr; rfl
theorem trCells_len (l : List Tr) : ∀ r ∈ trCells l, r.length = 7 := by intro r hr; simp [trCells] at hr; obtain ⟨c, _, rfl⟩ := hr; rfl

theorem ownsRow_slice {w : World} {base : Nat} {e : TypeId} {sz : Nat} {v : Value} {k : Nat} {xs : List Value} (h : w.ownsRow base e sz v k xs) : ∃ a m c, v = .slice a m c := by
  rcases h.2 with ⟨rfl, _⟩ | ⟨g, cap, cur, rfl, _⟩
  · exact ⟨_, _, _, rfl⟩
  · exact ⟨_, _, _, rfl⟩

theorem Fil.env {b : Bk} {s kv : Value} {M Bt Bb n0 n : Nat} {V X : World} (h : Fil b s M Bt n0 V b.cks kv X) (hG : Glob V) (hn : n ≤ V.heap.size) (hs : SlOf V n 7 s (stCells b.sts)) (h1 : 1 < V.heap.size)
    (hBb : n0 ≤ Bb) (hb : X.heap[Bb]? = some (.cells (b.cells9 s kv (.map (some M)) (.slice none 0 0)).toArray 79)) {l : Nat} (hl : X.heap.size < l) {w1 : World} (hb1 : Below X.heap.size X w1) (hlw : l < w1.heap.size) :
    Env0 b s kv (.slice none 0 0) X.heap.size M l Bt Bb w1 := by
  have hlb := h.lb
  have hlm := h.lm
  have hv0 := h.v0
  have hvb := h.vb
  have hsz := h.sz
  have hVw : Below V.heap.size V w1 := h.old.trans (hb1.mono (by omega))
  have hbX := (Array.getElem?_eq_some_iff.1 hb).1
  have hrow : w1.ownsRow n0 42 3 kv b.cks.length (b.cks.flatMap Ck.cells) := ownsRow_same h.row fun g hg => hb1.block g (h.row.lt g hg).2
  have hrow0 := h.row
  rw [ckCells_flat] at hrow0
  have hsk : SlOf X X.heap.size 3 kv (ckCells b.cks) := SlOf.own (by simpa [ckCells] using hrow0) (ckCells_len _)
  have hmb := (hb1.block M (by omega)).trans h.map
  have hbb := (hb1.block Bt (by omega)).trans h.bt
  have hMB : M ≠ Bt := by intro e; rw [e, hbb] at hmb; cases hmb
  have g : ∀ {B o v}, V.cell? ⟨B, o, none⟩ = some v → B < V.heap.size → w1.cell? ⟨B, o, none⟩ = some v := fun h hB => (hVw.cell (p := ⟨_, _, none⟩) hB).trans h
  refine Env0.of ⟨g hG.k0 (by omega), g hG.k1 (by omega), g hG.n0 h1, g hG.n1 h1⟩ ((hs.below hn hVw).mono (by omega)) (hsk.below (Nat.le_refl _) hb1) (cacheOk_new hmb) hb1.size (by have := hb1.size; omega) hlw ((hb1.block Bb hbX).trans hb)
    ((accBlk_own hbb (World.ownsRow_nil _ 0 _ _)).trans rfl) (by omega) (by omega) (by omega) ?_ ?_
  · rintro g0 o len cap rfl hp
    obtain ⟨a, cp, e, _, _, _, h4⟩ := hs
    cases e
    obtain ⟨g', o', e1, h5, _⟩ := h4 (by simpa [stCells] using hp)
    cases e1
    omega
  · rintro g0 o len cap rfl hp
    have := h.row.lt g0 rfl
    omega

structure Stored (B : Nat) (c : Array Value) (W W' : World) : Prop where
  cells : W'.heap[B]? = some (.cells c 79)
  same : ∀ k, k ≠ B → W'.heap[k]? = W.heap[k]?
  size : W'.heap.size = W.heap.size
  os : W'.os = W.os
  tape : W'.tape = W.tape
  output : W'.output = W.output
theorem Stored.start {B : Nat} {c : Array Value} {W : World} (h : W.heap[B]? = some (.cells c 79)) : Stored B c W W := ⟨h, fun _ _ => rfl, rfl, rfl, rfl, rfl⟩
theorem Stored.set {B : Nat} {c : Array Value} {W W' : World} (h : Stored B c W W') (j : Nat) (v : Value) : Stored B (c.setIfInBounds j v) W (W'.setCell ⟨B, j, none⟩ v) :=
  ⟨blk_set h.cells, fun k hk => (Below.heap_setCell _ _ _ _ hk).trans (h.same k hk), by simpa [World.setCell] using h.size, h.os, h.tape, h.output⟩

theorem stored9 {B : Nat} {W : World} {z0 z1 z2 z3 z4 z5 z6 z7 z8 : Value} (h : W.heap[B]? = some (.cells #[z0, z1, z2, z3, z4, z5, z6, z7, z8] 79)) (v0 v1 v2 v3 v4 v5 v6 v7 v8 : Value) :
    Stored B #[v0, v1, v2, v3, v4, v5, v6, v7, v8] W (((((((((W.setCell ⟨B, 0, none⟩ v0).setCell ⟨B, 1, none⟩ v1).setCell ⟨B, 2, none⟩ v2).setCell ⟨B, 3, none⟩ v3).setCell ⟨B, 4, none⟩ v4).setCell ⟨B, 5, none⟩ v5).setCell ⟨B, 6, none⟩ v6).setCell ⟨B, 7, none⟩ v7).setCell ⟨B, 8, none⟩ v8) := by
  have h := ((((((((((Stored.start h).set 0 v0).set 1 v1).set 2 v2).set 3 v3).set 4 v4).set 5 v5).set 6 v6).set 7 v7).set 8 v8)
  simp only [List.setIfInBounds_toArray, List.set_cons_zero, List.set_cons_succ] at h
  exact h

theorem Stored.below {B K : Nat} {c : Array Value} {V W W' : World} (h : Stored B c W W') (hb : Below K V W) (hB : K ≤ B) : Below K V W' :=
  ⟨h.os.trans hb.os, h.tape.trans hb.tape, h.output.trans hb.output, by rw [h.size]; exact hb.size, fun k hk => (h.same k (by omega)).trans (hb.block k hk)⟩
theorem Put.below {K M : Nat} {V Y X : World} (h : Put Y X M) (hb : Below K V Y) (hM : K ≤ M) : Below K V X :=
  ⟨h.os.trans hb.os, h.tape.trans hb.tape, h.output.trans hb.output, by rw [h.size]; exact hb.size, fun k hk => (h.old k (by omega)).trans (hb.block k hk)⟩
theorem Stored.slOf {B n sz : Nat} {c : Array Value} {W W' : World} {v : Value} {rows : List (List Value)} (h : Stored B c W W') (hs : SlOf W n sz v rows) (hB : ∀ b o len cap, v = .slice (some ⟨b, o, none⟩) len cap → b ≠ B) (hn : n ≤ W.heap.size) : SlOf W' W'.heap.size sz v rows := by
  obtain ⟨a, cap, rfl, h1, h2, h3, h4⟩ := hs
  refine ⟨a, cap, rfl, h1, h2, h3, fun hp => ?_⟩
  obtain ⟨b, o, e, hb, hc⟩ := h4 hp
  refine ⟨b, o, e, by rw [h.size]; omega, fun i j r c hi hj => ?_⟩
  exact (World.cell?_of_block (w := W) (a := ⟨b, _, none⟩) (h.same b (hB b o _ _ (by rw [e])))).trans (hc i j r c hi hj)
end Go.Proofs.YtbhjfojbjpbdbaaDoor
