/-
  The iterator of package claim and the body of its loop share the heap: what each may write. Written by this session.
-/
import Derived.Test.YtbhjfojbjpbdbaaDoorA5
namespace Go.Proofs.YtbhjfojbjpbdbaaDoor
open Go.RowKit

/-- the block in which the truths lie that were gathered in the book at Bt. -/
def accBlk (Bt : Nat) (W : World) : Option Nat :=
  match W.cell? ⟨Bt, 8, none⟩ with
  | some (.slice (some a) _ _) => some a.block
  | _ => none

theorem accBlk_same {Bt : Nat} {W W' : World} (h : W'.heap[Bt]? = W.heap[Bt]?) : accBlk Bt W' = accBlk Bt W := by
  unfold accBlk
  rw [World.cell?_of_block (w := W) (a := ⟨Bt, 8, none⟩) h]

/-- a block that the loop's body does not write. -/
structure Safe (l Bt : Nat) (W : World) (k : Nat) : Prop where
  nl : k ≠ l
  nb : k ≠ Bt
  na : accBlk Bt W ≠ some k

/-- what the iterator and the body may do together: the map M, the loop's record l, the book at Bt, the block of its truths; new blocks. -/
structure Eff (M l Bt : Nat) (W W' : World) : Prop where
  upd : Upd (fun k => k = M ∨ k = l ∨ k = Bt ∨ accBlk Bt W = some k) W W'
  acc : ∀ k, accBlk Bt W' = some k → accBlk Bt W = some k ∨ W.heap.size ≤ k

section
variable {M l Bt : Nat}

theorem Eff.refl (W : World) : Eff M l Bt W W := ⟨Upd.refl _ _, fun _ h => .inl h⟩
theorem Eff.trans {a b c : World} (h : Eff M l Bt a b) (k : Eff M l Bt b c) : Eff M l Bt a c := by
  refine ⟨⟨k.upd.os.trans h.upd.os, k.upd.tape.trans h.upd.tape, k.upd.output.trans h.upd.output, Nat.le_trans h.upd.size k.upd.size, fun i hi hs => ?_⟩, fun i hi => ?_⟩
  · refine (k.upd.block i (Nat.lt_of_lt_of_le hi h.upd.size) ?_).trans (h.upd.block i hi hs)
    rintro (e | e | e | e)
    · exact hs (.inl e)
    · exact hs (.inr (.inl e))
    · exact hs (.inr (.inr (.inl e)))
    · rcases h.acc i e with e | e
      · exact hs (.inr (.inr (.inr e)))
      · omega
  · rcases k.acc i hi with e | e
    · exact h.acc i e
    · exact .inr (Nat.le_trans h.upd.size e)
theorem Eff.size {a b : World} (h : Eff M l Bt a b) : a.heap.size ≤ b.heap.size := h.upd.size
theorem Eff.of_below {a b : World} (hB : Bt < a.heap.size) (h : Below a.heap.size a b) : Eff M l Bt a b :=
  ⟨Upd.of_below h, fun _ hk => by rw [accBlk_same (h.block Bt hB)] at hk; exact .inl hk⟩
theorem Eff.of_updM {a b : World} (hB : Bt < a.heap.size) (hM : M ≠ Bt) (h : Upd (· = M) a b) : Eff M l Bt a b :=
  ⟨h.mono (fun _ _ e => .inl e), fun _ hk => by rw [accBlk_same (h.block Bt hB (fun e => hM e.symm))] at hk; exact .inl hk⟩
theorem Eff.setCell {a w : World} (h : Eff M l Bt a w) {p : Addr} (hp : a.heap.size ≤ p.block) (hne : p.block ≠ Bt) (v : Value) : Eff M l Bt a (w.setCell p v) :=
  ⟨h.upd.setCell (.inr hp) v, fun k hk => by rw [accBlk_same (Below.heap_setCell w p v Bt (fun e => hne e.symm))] at hk; exact h.acc k hk⟩
theorem Eff.alloc {a w : World} (h : Eff M l Bt a w) (hB : Bt < w.heap.size) (o : Obj) : Eff M l Bt a (w.alloc o) :=
  h.trans (Eff.of_below hB ((Below.refl _ _).alloc (Nat.le_refl _) o))
theorem Safe.eff {W W' : World} {k : Nat} (h : Safe l Bt W k) (hk : k < W.heap.size) (he : Eff M l Bt W W') : Safe l Bt W' k :=
  ⟨h.nl, h.nb, fun e => by rcases he.acc k e with e | e; exact h.na e; omega⟩
theorem Safe.block {W W' : World} {k : Nat} (h : Safe l Bt W k) (hk : k < W.heap.size) (hM : k ≠ M) (he : Eff M l Bt W W') : W'.heap[k]? = W.heap[k]? :=
  he.upd.block k hk (by rintro (e | e | e | e); exact hM e; exact h.nl e; exact h.nb e; exact h.na e)
/-- a block laid now. -/
theorem Safe.new {W : World} {k : Nat} (hl : l < W.heap.size) (hB : Bt < W.heap.size) (hacc : ∀ k, accBlk Bt W = some k → k < W.heap.size) (hk : W.heap.size ≤ k) : Safe l Bt W k :=
  ⟨by omega, by omega, fun e => by have := hacc k e; omega⟩

/-- a slice whose cells lie in a block that the body does not write. -/
def SlSafe (l Bt : Nat) (W : World) (v : Value) (rows : List (List Value)) : Prop := rows ≠ [] → ∀ a len cap, v = .slice (some a) len cap → Safe l Bt W a.block

theorem SlOf.eff {w w' : World} {n sz : Nat} {v : Value} {rows : List (List Value)} {es : Array MapEntry} {c : Nat} (hM : w.heap[M]? = some (.map es c)) (h : SlOf w n sz v rows) (hs : SlSafe l Bt w v rows) (he : Eff M l Bt w w') : SlOf w' n sz v rows := by
  obtain ⟨a, cap, e, h1, h2, h3, h4⟩ := h
  refine ⟨a, cap, e, h1, h2, h3, fun hp => ?_⟩
  obtain ⟨b, o, e1, h5, h6⟩ := h4 hp
  refine ⟨b, o, e1, h5, fun i j r c hi hj => ?_⟩
  have hc := h6 i j r c hi hj
  have hsafe := hs (List.length_pos_iff.1 hp) ⟨b, o, none⟩ _ _ (by rw [e, e1])
  have hlt : b < w.heap.size := lt_of_cell hc
  have hne : b ≠ M := ne_of_map hM hc
  exact (World.cell?_of_block (w := w) (a := ⟨b, o + i * sz + j, none⟩) (hsafe.block hlt hne he)).trans hc
theorem SlSafe.eff {w w' : World} {n sz : Nat} {v : Value} {rows : List (List Value)} (h : SlOf w n sz v rows) (hn : n ≤ w.heap.size) (hs : SlSafe l Bt w v rows) (he : Eff M l Bt w w') : SlSafe l Bt w' v rows := by
  obtain ⟨a, cap, e, h1, h2, h3, h4⟩ := h
  intro hr a' len' cap' e'
  obtain ⟨b, o, e1, h5, h6⟩ := h4 (List.length_pos_iff.2 hr)
  have := hs hr a' len' cap' e'
  rw [e, e1] at e'
  cases e'
  exact this.eff (by show b < _; omega) he

/-- what the iterator finds in the heap: the book, yield, right and drive in boxes; the slices; the map; the package-level variables. -/
structure Env (b : Bk) (s k tv : Value) (n M l Bt Bb By Br Bd : Nat) (W : World) : Prop where
  hb : W.heap[Bb]? = some (.cells (b.cells9 s k (.map (some M)) tv).toArray 79)
  hy : W.heap[By]? = some (.cells #[.func (.yield l) #[] #[]] 122)
  hr : W.heap[Br]? = some (.cells #[.func (.func 103) #[.agg (b.cells9 s k (.map (some M)) tv).toArray] #[]] 123)
  hd : W.heap[Bd]? = some (.cells #[.func (.func 104) #[] #[.pointer (some ⟨Bb, 0, none⟩), .pointer (some ⟨By, 0, none⟩), .pointer (some ⟨Br, 0, none⟩), .pointer (some ⟨Bd, 0, none⟩)]] 124)
  sb : Safe l Bt W Bb
  sy : Safe l Bt W By
  sr : Safe l Bt W Br
  sd : Safe l Bt W Bd
  s0 : Safe l Bt W 0
  s1 : Safe l Bt W 1
  sM : Safe l Bt W M
  hs : SlOf W n 7 s (stCells b.sts)
  ss : SlSafe l Bt W s (stCells b.sts)
  hk : SlOf W n 3 k (ckCells b.cks)
  sk : SlSafe l Bt W k (ckCells b.cks)
  hM : CacheOk W M b.cks
  hG : Glob W
  hn : n ≤ W.heap.size
  lB : Bt < W.heap.size
  ll : l < W.heap.size
  la : ∀ k, accBlk Bt W = some k → k < W.heap.size

theorem Env.eff {b : Bk} {s k tv : Value} {n Bb By Br Bd : Nat} {W W' : World} (h : Env b s k tv n M l Bt Bb By Br Bd W) (he : Eff M l Bt W W') (hC : CacheOk W' M b.cks) (hla : ∀ k, accBlk Bt W' = some k → k < W'.heap.size) :
    Env b s k tv n M l Bt Bb By Br Bd W' := by
  obtain ⟨es, c, hm, _⟩ := h.hM
  have nb : ∀ {B : Nat} {o : Obj}, W.heap[B]? = some o → o.isCells = true → B ≠ M := fun h1 h2 e => by rw [e, hm] at h1; cases h1; cases h2
  have keep : ∀ {B : Nat} {o : Obj}, W.heap[B]? = some o → o.isCells = true → Safe l Bt W B → W'.heap[B]? = some o := fun h1 h2 hs => (hs.block (Array.getElem?_eq_some_iff.1 h1).1 (nb h1 h2) he).trans h1
  have lt : ∀ {B : Nat} {o : Obj}, W.heap[B]? = some o → B < W.heap.size := fun h1 => (Array.getElem?_eq_some_iff.1 h1).1
  have g0 : W'.heap[0]? = W.heap[0]? := h.s0.block (lt_of_cell h.hG.k0) (ne_of_map hm h.hG.k0) he
  have g1 : W'.heap[1]? = W.heap[1]? := h.s1.block (lt_of_cell h.hG.n0) (ne_of_map hm h.hG.n0) he
  exact ⟨keep h.hb rfl h.sb, keep h.hy rfl h.sy, keep h.hr rfl h.sr, keep h.hd rfl h.sd,
    h.sb.eff (lt h.hb) he, h.sy.eff (lt h.hy) he, h.sr.eff (lt h.hr) he, h.sd.eff (lt h.hd) he, h.s0.eff (lt_of_cell h.hG.k0) he, h.s1.eff (lt_of_cell h.hG.n0) he, h.sM.eff (lt hm) he,
    h.hs.eff hm h.ss he, h.ss.eff h.hs h.hn he, h.hk.eff hm h.sk he, h.sk.eff h.hk h.hn he, hC,
    ⟨(World.cell?_of_block (w := W) (a := ⟨0, 0, none⟩) g0).trans h.hG.k0, (World.cell?_of_block (w := W) (a := ⟨0, 1, none⟩) g0).trans h.hG.k1,
     (World.cell?_of_block (w := W) (a := ⟨1, 0, none⟩) g1).trans h.hG.n0, (World.cell?_of_block (w := W) (a := ⟨1, 1, none⟩) g1).trans h.hG.n1⟩,
    Nat.le_trans h.hn he.size, Nat.lt_of_lt_of_le h.lB he.size, Nat.lt_of_lt_of_le h.ll he.size, hla⟩
end
end Go.Proofs.YtbhjfojbjpbdbaaDoor
