/-
  What a step leaves alone ('Upd'), and the map of package claim (its keys are pairs of numbers, its elements bools). Written by this session.
-/
import Derived.Test.YtbhjfojbjpbdbaaDoorA1
namespace Go.Proofs.YtbhjfojbjpbdbaaDoor
open Go.RowKit

/-- W' is W but for the blocks of S, and new blocks. -/
structure Upd (S : Nat → Prop) (W W' : World) : Prop where
  os : W'.os = W.os
  tape : W'.tape = W.tape
  output : W'.output = W.output
  size : W.heap.size ≤ W'.heap.size
  block : ∀ k, k < W.heap.size → ¬ S k → W'.heap[k]? = W.heap[k]?

theorem Upd.refl (S : Nat → Prop) (W : World) : Upd S W W := ⟨rfl, rfl, rfl, Nat.le_refl _, fun _ _ _ => rfl⟩
theorem Upd.trans {S : Nat → Prop} {a b c : World} (h : Upd S a b) (k : Upd S b c) : Upd S a c :=
  ⟨k.os.trans h.os, k.tape.trans h.tape, k.output.trans h.output, Nat.le_trans h.size k.size, fun i hi hs => (k.block i (Nat.lt_of_lt_of_le hi h.size) hs).trans (h.block i hi hs)⟩
theorem Upd.mono {S T : Nat → Prop} {a b : World} (h : Upd S a b) (hs : ∀ k, k < a.heap.size → S k → T k) : Upd T a b :=
  ⟨h.os, h.tape, h.output, h.size, fun k hk hn => h.block k hk fun e => hn (hs k hk e)⟩
theorem Upd.of_below {S : Nat → Prop} {a b : World} (h : Below a.heap.size a b) : Upd S a b := ⟨h.os, h.tape, h.output, h.size, fun k hk _ => h.block k hk⟩
theorem Upd.of_below' {S : Nat → Prop} {B : Nat} {a b : World} (h : Below B a b) (hS : ∀ k, B ≤ k → k < a.heap.size → S k) : Upd S a b :=
  ⟨h.os, h.tape, h.output, h.size, fun k hk hn => h.block k (by rcases Nat.lt_or_ge k B with h1 | h1; exact h1; exact absurd (hS k h1 hk) hn)⟩
theorem Upd.below {S : Nat → Prop} {B : Nat} {a b : World} (h : Upd S a b) (hB : B ≤ a.heap.size) (hS : ∀ k, k < B → ¬ S k) : Below B a b :=
  ⟨h.os, h.tape, h.output, h.size, fun k hk => h.block k (by omega) (hS k hk)⟩
theorem Upd.alloc {S : Nat → Prop} {a w : World} (h : Upd S a w) (o : Obj) : Upd S a (w.alloc o) :=
  h.trans ⟨rfl, rfl, rfl, by simp, fun k hk _ => Below.heap_alloc _ _ _ hk⟩
theorem Upd.setCell {S : Nat → Prop} {a w : World} (h : Upd S a w) {p : Addr} (hp : S p.block ∨ a.heap.size ≤ p.block) (v : Value) : Upd S a (w.setCell p v) :=
  ⟨h.os, h.tape, h.output, Nat.le_trans h.size (by show w.heap.size ≤ (w.heap.modify _ _).size; rw [Array.size_modify]; exact Nat.le_refl _),
    fun k hk hs => (Below.heap_setCell _ _ _ _ (by rintro rfl; rcases hp with hp | hp; exact hs hp; omega)).trans (h.block k hk hs)⟩
theorem Upd.drew {S : Nat → Prop} {a w : World} (h : Upd S a w) : Upd S a w.drew := ⟨h.os, h.tape, h.output, h.size, h.block⟩
theorem Upd.putObj {S : Nat → Prop} {a w : World} (h : Upd S a w) {r : Nat} (hr : S r ∨ a.heap.size ≤ r) (o : Obj) : Upd S a (w.putObj r o) :=
  ⟨h.os, h.tape, h.output, by simpa using h.size, fun k hk hs => (World.putObj_heap_other (by rintro rfl; rcases hr with hr | hr; exact hs hr; omega)).trans (h.block k hk hs)⟩
theorem Upd.cell {S : Nat → Prop} {a w : World} (h : Upd S a w) {p : Addr} (hp : p.block < a.heap.size) (hs : ¬ S p.block) : w.cell? p = a.cell? p := World.cell?_of_block (w := a) (h.block p.block hp hs)
theorem Upd.frozen {S : Nat → Prop} {a w : World} (h : Upd S a w) {p : Addr} (hp : p.block < a.heap.size) (hs : ¬ S p.block) : w.frozen? p = a.frozen? p := World.frozen?_of_block (w := a) (h.block p.block hp hs)

theorem SlOf.upd {w w' : World} {n sz : Nat} {v : Value} {rows : List (List Value)} {S : Nat → Prop} (h : SlOf w n sz v rows) (hn : n ≤ w.heap.size) (hS : ∀ k, k < n → ¬ S k) (hb : Upd S w w') : SlOf w' n sz v rows :=
  h.below (Nat.le_refl _) (hb.below hn hS)

/-- the map of what is right: what it holds of a spot is so, but of nowhere. -/
def CacheOk (W : World) (M : Nat) (cks : List Ck) : Prop :=
  ∃ es clock, W.heap[M]? = some (.map es clock) ∧ ∀ e ∈ es.toList, ∃ (s m : Int) (v : Bool), e.key = .agg #[.int .i64 s, .int .i64 m] ∧ e.val = .bool v ∧ (¬ (s = -1 ∧ m = -1) → v = rightL cks s m)

theorem CacheOk.of_block {W W' : World} {M : Nat} {cks : List Ck} (h : CacheOk W M cks) (hb : W'.heap[M]? = W.heap[M]?) : CacheOk W' M cks := by
  obtain ⟨es, clock, h1, h2⟩ := h
  exact ⟨es, clock, hb.trans h1, h2⟩
theorem CacheOk.lt {W : World} {M : Nat} {cks : List Ck} (h : CacheOk W M cks) : M < W.heap.size := by
  obtain ⟨es, clock, h1, _⟩ := h
  exact (Array.getElem?_eq_some_iff.1 h1).1

theorem ck115 (e : Bool) (s m : Int) : ∀ w, (Instr.checkKey e 10000 115 (.agg #[.int .i64 s, .int .i64 m])).run Tryd.prog w = .ok () w := by
  intro w
  cases e <;> kernel_rfl

theorem eq115 (s m s' m' : Int) : ∀ w, (Op.equal 115 (.agg #[.int .i64 s, .int .i64 m]) (.agg #[.int .i64 s', .int .i64 m'])).run Tryd.prog w = .ok (s == s' && m == m') w := by
  intro w
  show (Op.equalIn 10000 115 _ _).run _ _ = _
  rw [run_equalIn_agg (d := 9999) (ht := by kernel_rfl) (hp := by kernel_rfl)]
  by_cases h1 : s = s'
  · subst h1
    by_cases h2 : m = m'
    · subst h2
      simp [go_sem, Op.eqFields]
    · simp [go_sem, Op.eqFields, h2]
  · simp [go_sem, Op.eqFields, h1]

def KeysOk (es : List MapEntry) : Prop := ∀ e ∈ es, ∃ (s m : Int), e.key = .agg #[.int .i64 s, .int .i64 m]

theorem find115 (s m : Int) (w : World) : ∀ (es : List MapEntry) (i : Nat), KeysOk es →
    ∃ r, (Instr.findAsking 115 (.agg #[.int .i64 s, .int .i64 m]) es i).run Tryd.prog w = .ok r w ∧
      ∀ j v, r = some (j, v) → i ≤ j ∧ ∃ e, es[j - i]? = some e ∧ e.key = .agg #[.int .i64 s, .int .i64 m] ∧ e.val = v := by
  intro es
  induction es with
  | nil => intro i _; exact ⟨none, rfl, fun j v h => by cases h⟩
  | cons e es ih =>
    intro i hk
    obtain ⟨s', m', he⟩ := hk e (by simp)
    have hq := eq115 s m s' m' w
    by_cases h : (s == s' && m == m') = true
    · refine ⟨some (i, e.val), by simp only [Instr.findAsking, Sem.run_bind, he, hq, Result.andThen_ok, h]; rfl, fun j v hj => ?_⟩
      cases hj
      simp at h
      obtain ⟨rfl, rfl⟩ := h
      exact ⟨Nat.le_refl _, e, by simp, he, rfl⟩
    · obtain ⟨r, hr, hj⟩ := ih (i + 1) (fun e he => hk e (by simp [he]))
      refine ⟨r, by simp only [Instr.findAsking, Sem.run_bind, he, hq, Result.andThen_ok, h]; exact hr, fun j v hjv => ?_⟩
      obtain ⟨h1, e', h2, h3⟩ := hj j v hjv
      refine ⟨by omega, e', ?_, h3⟩
      rw [show j - i = (j - (i + 1)) + 1 by omega]
      simpa using h2

theorem findKey115 (s m : Int) (w : World) (es : List MapEntry) (hk : KeysOk es) :
    ∃ r, (Instr.findKey 115 (.agg #[.int .i64 s, .int .i64 m]) es).run Tryd.prog w = .ok r w ∧
      ∀ j v, r = some (j, v) → ∃ e, es[j]? = some e ∧ e.key = .agg #[.int .i64 s, .int .i64 m] ∧ e.val = v := by
  obtain ⟨r, hr, hj⟩ := find115 s m w es 0 hk
  cases es with
  | nil => exact ⟨none, by kernel_rfl, fun j v h => by cases h⟩
  | cons e es =>
    refine ⟨r, ?_, fun j v h => ?_⟩
    · have hu : ∀ w, (underlying 115).run Tryd.prog w = .ok (.struct (Tryd.prog.fieldsOf 115)) w := fun _ => by kernel_rfl
      simp only [Instr.findKey, Sem.run_bind, hu, Result.andThen_ok, Instr.findNow, Instr.sameNow]
      exact hr
    · obtain ⟨_, e', h1, h2⟩ := hj j v h
      exact ⟨e', by simpa using h1, h2⟩

theorem CacheOk.keys {W : World} {M : Nat} {cks : List Ck} (h : CacheOk W M cks) : ∃ es clock, W.heap[M]? = some (.map es clock) ∧ KeysOk es.toList := by
  obtain ⟨es, clock, h1, h2⟩ := h
  exact ⟨es, clock, h1, fun e he => by obtain ⟨s, m, v, hk, _⟩ := h2 e he; exact ⟨s, m, hk⟩⟩

theorem look115 {W : World} {M : Nat} {cks : List Ck} (h : CacheOk W M cks) (s m : Int) :
    ∃ v ok : Bool, (Instr.lookup 76 (.map (some M)) (.agg #[.int .i64 s, .int .i64 m]) true).run Tryd.prog W = .ok (.tuple #[.bool v, .bool ok]) W ∧
      (ok = true → ¬ (s = -1 ∧ m = -1) → v = rightL cks s m) := by
  obtain ⟨es, clock, h1, h2⟩ := h
  have hk : KeysOk es.toList := fun e he => by obtain ⟨s, m, v, hk, _⟩ := h2 e he; exact ⟨s, m, hk⟩
  obtain ⟨r, hr, hj⟩ := findKey115 s m W es.toList hk
  have hu : ∀ w, (underlying 76).run Tryd.prog w = .ok (.map 115 4) w := fun _ => by kernel_rfl
  have hg : (getObj M).run Tryd.prog W = .ok (.map es clock) W := by simp [getObj, Sem.run, h1]
  have hz : ∀ w, (zeroValue 4).run Tryd.prog w = .ok (.bool false) w := fun _ => by kernel_rfl
  cases r with
  | none =>
    refine ⟨false, false, ?_, by simp⟩
    simp only [Instr.lookup, Sem.run_bind, hu, Result.andThen_ok, hg, ck115, hr, hz, Sem.run_pure]
    rfl
  | some p =>
    obtain ⟨j, v⟩ := p
    obtain ⟨e, he, hek, hev⟩ := hj j v rfl
    obtain ⟨s', m', v', hk', hv', hvr⟩ := h2 e (List.mem_of_getElem? he)
    rw [hek] at hk'
    cases hk'
    refine ⟨v', true, ?_, fun _ hn => hvr hn⟩
    rw [hev] at hv'
    subst hv'
    simp only [Instr.lookup, Sem.run_bind, hu, Result.andThen_ok, hg, ck115, hr, Sem.run_pure]
    rfl

theorem same115 (s m : Int) : Instr.sameBits 10000 (.agg #[.int .i64 s, .int .i64 m]) (.agg #[.int .i64 s, .int .i64 m]) = true := by
  simp [Instr.sameBits]

theorem put115 {W : World} {M : Nat} {cks : List Ck} (h : CacheOk W M cks) (s m : Int) (v : Bool) (hv : v = rightL cks s m) :
    ∃ o, (Instr.mapUpdate 76 (.map (some M)) (.agg #[.int .i64 s, .int .i64 m]) (.bool v)).run Tryd.prog W = .ok () (W.putObj M o) ∧ CacheOk (W.putObj M o) M cks := by
  have hlt := h.lt
  obtain ⟨es, clock, h1, h2⟩ := h
  have hk : KeysOk es.toList := fun e he => by obtain ⟨s, m, v, hk, _⟩ := h2 e he; exact ⟨s, m, hk⟩
  obtain ⟨r, hr, hj⟩ := findKey115 s m W es.toList hk
  have hu : ∀ w, (underlying 76).run Tryd.prog w = .ok (.map 115 4) w := fun _ => by kernel_rfl
  have hg : (getObj M).run Tryd.prog W = .ok (.map es clock) W := by simp [getObj, Sem.run, h1]
  have hs : ∀ o, (setObj M o).run Tryd.prog W = .ok () (W.putObj M o) := fun o => by simp [setObj, Sem.run, h1, World.putObj]
  cases r with
  | none =>
    refine ⟨.map (es.push { key := .agg #[.int .i64 s, .int .i64 m], val := .bool v, born := clock }) (clock + 1), ?_, ?_⟩
    · simp only [Instr.mapUpdate, Sem.run_bind, hu, Result.andThen_ok, hg, ck115, hr, hs]
    · refine ⟨_, _, World.putObj_heap_same hlt, fun e he => ?_⟩
      rw [Array.toList_push, List.mem_append, List.mem_singleton] at he
      rcases he with he | rfl
      · exact h2 e he
      · exact ⟨s, m, v, rfl, rfl, fun _ => hv⟩
  | some p =>
    obtain ⟨j, v0⟩ := p
    obtain ⟨e, he, hek, hev⟩ := hj j v0 rfl
    have hej : (es[j]?).map (·.key) = some (.agg #[.int .i64 s, .int .i64 m]) := by
      rw [← Array.getElem?_toList, he]; simp [hek]
    refine ⟨.map (es.modify j fun e => { e with key := .agg #[.int .i64 s, .int .i64 m], val := .bool v }) clock, ?_, ?_⟩
    · simp only [Instr.mapUpdate, Sem.run_bind, hu, Result.andThen_ok, hg, ck115, hr, hej, Option.getD_some, Instr.keyThatStays, same115, if_true, Sem.run_pure, hs]
    · refine ⟨_, _, World.putObj_heap_same hlt, fun e' he' => ?_⟩
      rw [List.mem_iff_getElem?] at he'
      obtain ⟨i, hi⟩ := he'
      rw [Array.getElem?_toList, Array.getElem?_modify] at hi
      split at hi
      · rename_i hji
        subst hji
        rw [← Array.getElem?_toList, he] at hi
        cases hi
        exact ⟨s, m, v, rfl, rfl, fun _ => hv⟩
      · rw [← Array.getElem?_toList] at hi
        exact h2 e' (List.mem_of_getElem? hi)
end Go.Proofs.YtbhjfojbjpbdbaaDoor
