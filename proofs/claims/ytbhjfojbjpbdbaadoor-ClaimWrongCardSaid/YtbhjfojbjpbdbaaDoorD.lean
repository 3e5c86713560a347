/-
  A region that draws its order, every operation of which comes to one value whatever the order ('Det'): one walk in the text's order, the world before each operation any that meets S. Written by this session.
-/
import Derived.WalkKit
import Derived.Deep.RegionHeld3
import Derived.OrdersIn
import Derived.RangeFuncSeq
namespace Go.Proofs.YtbhjfojbjpbdbaaDoor
open Go

/-- what an operation comes to: a value, and what holds of the world behind it. -/
def Res (P : Program) (v : Value) (S : World → Prop) : Result Next → Prop
  | .ok (.value u) w => u = v ∧ S w
  | .ok .skip w => v = undef ∧ S w
  | .ok (.enter f args) w => Calls P f args w fun e w' => e = .returned v ∧ S w'
  | .ok (.round l fn tmps assign body) w => RoundIn Fence.wide 0 P l fn tmps assign body w fun e w' => e = .returned v ∧ S w'
  | _ => False

/-- under the wide fence no depth is asked for. -/
theorem roundIn_wide {P : Program} {n m l : Nat} {f : FuncId} {tmps : Array Value} {assign body : Code} {w : World} {R : Ending → World → Prop} (h : RoundIn Fence.wide n P l f tmps assign body w R) : RoundIn Fence.wide m P l f tmps assign body w R :=
  ⟨h.1, fun c cs _ => h.2 c cs (room_wide _)⟩

/-- operation i comes up next, when those of L have come up. -/
structure Now (ops : Array Oper) (L : Nat → Bool) (i : Nat) : Prop where
  free : L i = false
  after : ∀ o, ops[i]? = some o → ∀ e ∈ o.after, Region.binds .any e = true → L e.on = true
  closed : ∀ j o, ops[j]? = some o → L j = true → ∀ e ∈ o.after, Region.binds .any e = true → L e.on = true

def Then (S : (Nat → Bool) → World → Prop) (L : Nat → Bool) (i : Nat) (w : World) : Prop := ∀ L' : Nat → Bool, L' i = true → (∀ j, j ≠ i → L' j = L j) → S L' w

def OpDet (P : Program) (ops : Array Oper) (S : (Nat → Bool) → World → Prop) (i : Nat) (o : Oper) (a : Act) (v : Value) : Prop :=
  (Region.wanted o (yielded ops a.tmps) = true ∧ ∀ L w, Now ops L i → S L w → Res P v (Then S L i) ((execOp a.eval o).run P w)) ∨
  (Region.wanted o (yielded ops a.tmps) = false ∧ v = undef ∧ ∀ L w, Now ops L i → S L w → Then S L i w)

def Det (P : Program) (ops : Array Oper) (S : (Nat → Bool) → World → Prop) : List Oper → Nat → Act → (Act → Prop) → Prop
  | [], _, a, K => K a
  | o :: l, i, a, K => ∃ v, OpDet P ops S i o a v ∧ Det P ops S l (i + 1) (a.put o.dst v) K

/-- does operation j wait for i? -/
def waits (ops : Array Oper) (j i : Nat) : Bool :=
  match ops[j]? with
  | some oj => oj.after.any fun e => Region.binds .any e && e.on == i
  | none => false

/-- each operation looks only at what those that it waits for have written; no two write one slot; all wait for earlier ones. -/
def detB (ops : Array Oper) : Bool :=
  Region.noSelect ops &&
  (List.range ops.size).all fun i =>
    (match ops[i]? with
     | some oi => oi.after.all fun e => !Region.binds .any e || decide (e.on < i)
     | none => true) &&
    (List.range ops.size).all fun j =>
      match ops[i]?, ops[j]? with
      | some oi, some oj =>
        match oj.dst with
        | some d => (i == j || oi.dst != some d) && (!(oi.looksAt ops).contains d || waits ops i j)
        | none => true
      | _, _ => true

section
variable {P : Program} {ops : Array Oper} {S : (Nat → Bool) → World → Prop}

theorem waits_iff {j i : Nat} : waits ops j i = true ↔ ∃ o, ops[j]? = some o ∧ ∃ e ∈ o.after, Region.binds .any e = true ∧ e.on = i := by
  unfold waits
  cases h : ops[j]? with
  | none => simp
  | some o =>
    simp only [Option.some.injEq, exists_eq_left']
    rw [Array.any_eq_true']
    simp

theorem Now.not_yet {L : Nat → Bool} {i j : Nat} (h : Now ops L i) (hw : waits ops j i = true) : L j = false := by
  cases hj : L j with
  | false => rfl
  | true =>
    obtain ⟨o, ho, e, he, hb, hon⟩ := waits_iff.1 hw
    have := h.closed j o ho hj e he hb
    rw [hon, h.free] at this
    cases this
theorem Now.chain {L : Nat → Bool} {i j k : Nat} (h : Now ops L i) (hj : L j = false) (hw : waits ops k j = true) : L k = false := by
  cases hk : L k with
  | false => rfl
  | true =>
    obtain ⟨o, ho, e, he, hb, hon⟩ := waits_iff.1 hw
    have := h.closed k o ho hk e he hb
    rw [hon, hj] at this
    cases this
theorem Now.up {L : Nat → Bool} {i j k : Nat} (h : Now ops L i) (hj : L j = true) (hw : waits ops j k = true) : L k = true := by
  obtain ⟨o, ho, e, he, hb, hon⟩ := waits_iff.1 hw
  have := h.closed j o ho hj e he hb
  rwa [hon] at this
theorem Now.was {L : Nat → Bool} {i j : Nat} (h : Now ops L i) (hw : waits ops i j = true) : L j = true := by
  obtain ⟨o, ho, e, he, hb, hon⟩ := waits_iff.1 hw
  have := h.after o ho e he hb
  rwa [hon] at this

structure DetB (ops : Array Oper) : Prop where
  sel : ∀ (j : Nat) (o : Oper) cs b, ops[j]? = some o → o.op ≠ .select cs b
  apart : ∀ (i j : Nat) (oi oj : Oper) (d : Tmp), ops[i]? = some oi → ops[j]? = some oj → oj.dst = some d → i ≠ j → oi.dst ≠ some d
  looks : ∀ (i j : Nat) (oi oj : Oper) (d : Tmp), ops[i]? = some oi → ops[j]? = some oj → oj.dst = some d → d ∈ oi.looksAt ops → waits ops i j = true
  back : ∀ i j, waits ops i j = true → j < i

theorem detB_spec (h : detB ops = true) : DetB ops := by
  unfold detB at h
  rw [Bool.and_eq_true, List.all_eq_true] at h
  obtain ⟨hs, h⟩ := h
  have row : ∀ (i : Nat) (oi : Oper), ops[i]? = some oi → (oi.after.all fun e => !Region.binds .any e || decide (e.on < i)) = true ∧ ∀ (j : Nat) (oj : Oper), ops[j]? = some oj →
      (match oj.dst with
        | some d => (i == j || oi.dst != some d) && (!(oi.looksAt ops).contains d || waits ops i j)
        | none => true) = true := by
    intro i oi hi
    have h1 := h i (List.mem_range.2 (Array.getElem?_eq_some_iff.1 hi).1)
    rw [Bool.and_eq_true, List.all_eq_true] at h1
    refine ⟨by simpa only [hi] using h1.1, fun j oj hj => ?_⟩
    have h2 := h1.2 j (List.mem_range.2 (Array.getElem?_eq_some_iff.1 hj).1)
    simpa only [hi, hj] using h2
  refine ⟨Region.noSelect_spec hs, fun i j oi oj d hi hj hd hne => ?_, fun i j oi oj d hi hj hd hl => ?_, fun i j hw => ?_⟩
  · have h1 := (row i oi hi).2 j oj hj
    simp only [hd, Bool.and_eq_true, Bool.or_eq_true, beq_iff_eq, bne_iff_ne] at h1
    exact h1.1.resolve_left hne
  · have h1 := (row i oi hi).2 j oj hj
    simp only [hd, Bool.and_eq_true, Bool.or_eq_true, Bool.not_eq_true'] at h1
    rcases h1.2 with h2 | h2
    · simp [hl] at h2
    · exact h2
  · obtain ⟨o, ho, e, he, hb, hon⟩ := waits_iff.1 hw
    have h1 := Array.all_eq_true_iff_forall_mem.1 (row i o ho).1 e he
    simp only [hb, Bool.not_true, Bool.false_or, decide_eq_true_eq] at h1
    omega

/-- the activation when those of L, below k, have come up. -/
def mixed (ops : Array Oper) (a : Act) (V : Nat → Value) (L : Nat → Bool) : Nat → Act
  | 0 => a
  | k + 1 => if L k then (mixed ops a V L k).put ((ops[k]?).bind (·.dst)) (V k) else mixed ops a V L k

variable {a : Act} {V : Nat → Value}

theorem put_size (x : Act) (d : Option Tmp) (v : Value) : (x.put d v).tmps.size = x.tmps.size := by cases d <;> simp [Act.put]
theorem put_defs (x : Act) (d : Option Tmp) (v : Value) : (x.put d v).defers = x.defers := by cases d <;> simp [Act.put]
theorem mixed_size (L : Nat → Bool) : ∀ k, (mixed ops a V L k).tmps.size = a.tmps.size
  | 0 => rfl
  | k + 1 => by unfold mixed; split <;> simp [put_size, mixed_size L k]

theorem put_get (x : Act) (d : Option Tmp) (v : Value) (t : Tmp) : (x.put d v).tmps[t]? = if d = some t then (if t < x.tmps.size then some v else none) else x.tmps[t]? := by
  cases d with
  | none => simp [Act.put]
  | some d =>
    simp only [Act.put, Option.some.injEq]
    rw [Array.getElem?_setIfInBounds]
    by_cases e : d = t
    · subst e; rfl
    · rw [if_neg e, if_neg e]

theorem mixed_agree (t : Tmp) (L M : Nat → Bool) : ∀ k, (∀ j o, j < k → ops[j]? = some o → o.dst = some t → L j = M j) → (mixed ops a V L k).tmps[t]? = (mixed ops a V M k).tmps[t]?
  | 0, _ => rfl
  | k + 1, h => by
    have ih := mixed_agree t L M k (fun j o hj => h j o (by omega))
    unfold mixed
    by_cases hd : (ops[k]?).bind (·.dst) = some t
    · have hlm : L k = M k := by
        cases ho : ops[k]? with
        | none => rw [ho] at hd; cases hd
        | some o => rw [ho] at hd; exact h k o (by omega) ho hd
      rw [hlm]
      split
      · rw [put_get, put_get, mixed_size, mixed_size, if_pos hd, if_pos hd]
      · exact ih
    · have e : ∀ (x : Act), (x.put ((ops[k]?).bind (·.dst)) (V k)).tmps[t]? = x.tmps[t]? := fun x => by rw [put_get, if_neg hd]
      split <;> split <;> simp only [e, ih]

theorem mixed_congr {L M : Nat → Bool} : ∀ k, (∀ j, j < k → L j = M j) → mixed ops a V L k = mixed ops a V M k
  | 0, _ => rfl
  | k + 1, h => by unfold mixed; rw [mixed_congr k (fun j hj => h j (by omega)), h k (by omega)]

theorem mixed_cut (i : Nat) : ∀ k, i ≤ k → mixed ops a V (fun j => decide (j < i)) k = mixed ops a V (fun _ => true) i := by
  intro k hk
  induction k with
  | zero => obtain rfl : i = 0 := by omega
            rfl
  | succ k ih =>
    by_cases e : i = k + 1
    · subst e
      exact mixed_congr _ (fun j hj => by simp [hj])
    · rw [mixed, if_neg (by simp; omega)]
      exact ih (by omega)

theorem mixed_put (hB : DetB ops) {L L' : Nat → Bool} {i : Nat} (hi : L i = false) (hi' : L' i = true) (ho : ∀ j, j ≠ i → L' j = L j) :
    ∀ k, i < k → k ≤ ops.size → mixed ops a V L' k = (mixed ops a V L k).put ((ops[i]?).bind (·.dst)) (V i) := by
  intro k
  induction k with
  | zero => intro h; omega
  | succ k ih =>
    intro hk hks
    by_cases e : i = k
    · subst e
      unfold mixed
      rw [hi, hi', if_pos rfl, if_neg (by simp), mixed_congr i (fun j hj => ho j (by omega))]
    · have h1 := ih (by omega) (by omega)
      unfold mixed
      rw [ho k (fun h => e h.symm), h1]
      split
      · refine Act.put_comm _ _ _ fun d hd hk' => ?_
        have hki : k < ops.size := by omega
        have hii : i < ops.size := by omega
        rw [Array.getElem?_eq_getElem hii] at hd
        rw [Array.getElem?_eq_getElem hki] at hk'
        exact hB.apart k i _ _ d (Array.getElem?_eq_getElem hki) (Array.getElem?_eq_getElem hii) hd (fun h => e h.symm) hk'
      · rfl

theorem eval_of (x y : Act) (o : Operand) (h : ∀ t, o = .tmp t → x.tmps[t]? = y.tmps[t]?) : x.eval o = y.eval o := by
  cases o with
  | tmp t => simp [Act.eval, Array.getD_eq_getD_getElem?, h t rfl]
  | _ => rfl

/-- what an operation comes to hangs on what it looks at alone. -/
theorem same_exec (hB : DetB ops) {L : Nat → Bool} {i : Nat} {o : Oper} (ho : ops[i]? = some o) (hN : Now ops L i) :
    execOp (mixed ops a V L ops.size).eval o = execOp (mixed ops a V (fun _ => true) i).eval o ∧
    Region.wanted o (yielded ops (mixed ops a V L ops.size).tmps) = Region.wanted o (yielded ops (mixed ops a V (fun _ => true) i).tmps) := by
  have hlt := (Array.getElem?_eq_some_iff.1 ho).1
  rw [← mixed_cut i ops.size (by omega)]
  have key : ∀ t, t ∈ o.looksAt ops → (mixed ops a V L ops.size).tmps[t]? = (mixed ops a V (fun j => decide (j < i)) ops.size).tmps[t]? := by
    intro t ht
    refine mixed_agree t _ _ _ fun j oj hj hoj hd => ?_
    have hw := hB.looks i j o oj t ho hoj hd ht
    rw [hN.was hw]
    simp [hB.back i j hw]
  constructor
  · refine execOp_congr o (fun cs b => hB.sel i o cs b ho) fun x hx => eval_of _ _ _ fun t ht => key t ?_
    subst ht
    exact List.mem_append_left _ (List.mem_filterMap.2 ⟨.tmp t, by simpa using hx, rfl⟩)
  · unfold Region.wanted
    cases hg : o.guard with
    | none => rfl
    | some gw =>
      obtain ⟨g, want⟩ := gw
      have hy : yielded ops (mixed ops a V L ops.size).tmps g = yielded ops (mixed ops a V (fun j => decide (j < i)) ops.size).tmps g := by
        unfold yielded
        cases ht : (ops[g]?).bind (·.dst) with
        | none => rfl
        | some t => simp only [Option.bind_some, key t (by simp [Oper.looksAt, hg, ht])]
      simp only [hy]

theorem det_vals {K : Act → Prop} : ∀ (l : List Oper) (i : Nat) (a : Act), Det P ops S l i a K →
    ∃ V : Nat → Value, ∃ A : Nat → Act, A 0 = a ∧ (∀ k o, l[k]? = some o → OpDet P ops S (i + k) o (A k) (V k) ∧ A (k + 1) = (A k).put o.dst (V k)) ∧ K (A l.length)
  | [], i, a, h => ⟨fun _ => undef, fun _ => a, rfl, fun k o hk => by simp at hk, h⟩
  | o :: l, i, a, h => by
    obtain ⟨v, h1, h2⟩ := h
    obtain ⟨V, A, hA, hk, hK⟩ := det_vals l (i + 1) _ h2
    refine ⟨fun k => match k with | 0 => v | k + 1 => V k, fun k => match k with | 0 => a | k + 1 => A k, rfl, fun k o' ho => ?_, hK⟩
    cases k with
    | zero =>
      simp at ho
      subst ho
      exact ⟨h1, hA⟩
    | succ k =>
      have := hk k o' (by simpa using ho)
      rw [show i + 1 + k = i + (k + 1) by omega] at this
      exact this

theorem mem_ready_now {listed : Array Bool} {i : Nat} (hc : ∀ j o, ops[j]? = some o → listed.getD j false = true → ∀ e ∈ o.after, Region.binds .any e = true → listed.getD e.on false = true)
    (hs : listed.size = ops.size) (h : i ∈ Region.ready .any ops listed) : Now ops (fun j => listed.getD j false) i ∧ i < ops.size := by
  obtain ⟨h0, o, ho, h1⟩ := mem_ready.1 h
  have hlt := (Array.getElem?_eq_some_iff.1 ho).1
  have hl : i < listed.size := by omega
  refine ⟨⟨?_, fun o' ho' => ?_, hc⟩, hlt⟩
  · simp [hl] at h0 ⊢; exact h0
  · rw [ho] at ho'; cases ho'; exact h1

theorem res_upon {Q : Exit → Act → World → Prop} {o : Oper} {a : Act} {v : Value} {T : World → Prop} {K : Act → World → Prop} {r : Result Next} (h : Res P v T r) (hK : ∀ w, T w → K (a.put o.dst v) w) : o.uponIn Fence.wide 0 P a K Q r := by
  cases r with
  | ok n w =>
    cases n with
    | value u => obtain ⟨rfl, ht⟩ := h; exact hK w ht
    | skip => obtain ⟨rfl, ht⟩ := h; exact hK w ht
    | enter f args =>
      refine ⟨fun hd => (by cases hd), callsIn_wide.2 (Calls.mono h fun e w' he => ?_)⟩
      obtain ⟨rfl, ht⟩ := he
      exact hK w' ht
    | round l fn tmps assign body =>
      refine ⟨fun hd => (by cases hd), roundIn_wide (RoundIn.mono h fun e w' he => ?_)⟩
      obtain ⟨rfl, ht⟩ := he
      exact hK w' ht
    | _ => exact h.elim
  | halt x w => exact h.elim

theorem wp_region_det {Q : Exit → Act → World → Prop} {id : Nat} {w : World} (hm : P.follows .mixedOrders = true) (hB : detB ops = true) (h0 : S (fun _ => false) w.drew)
    (h : Det P ops S ops.toList 0 a (fun a' => ∀ L w', (∀ i, i < ops.size → L i = true) → S L w' → Q .normal a' w')) : (Code.region id ops true).wp P Q a w := by
  have hD := detB_spec hB
  obtain ⟨V, A, hA0, hA, hK⟩ := det_vals _ _ _ h
  have hAm : ∀ k, k ≤ ops.size → A k = mixed ops a V (fun _ => true) k := by
    intro k
    induction k with
    | zero => intro _; exact hA0
    | succ k ih =>
      intro hk
      have hlt : k < ops.size := by omega
      have h1 := (hA k ops[k] (by rw [Array.getElem?_toList]; exact Array.getElem?_eq_getElem hlt)).2
      rw [h1, ih (by omega)]
      simp [mixed, Array.getElem?_eq_getElem hlt]
  refine (wpIn_wide (n := 0)).1 (wpIn_region_any hm ?_)
  have main : ∀ (f : Nat) (listed : Array Bool) (w' : World), listed.size = ops.size →
      (∀ j o, ops[j]? = some o → listed.getD j false = true → ∀ e ∈ o.after, Region.binds .any e = true → listed.getD e.on false = true) →
      ((List.range ops.size).countP fun j => !listed.getD j false) ≤ f → S (fun j => listed.getD j false) w' →
      wpAnyIn Fence.wide 0 P .any ops Q f listed (mixed ops a V (fun j => listed.getD j false) ops.size) w' := by
    have done : ∀ (listed : Array Bool) (w' : World), (∀ i, i < ops.size → listed.getD i false = true) → S (fun j => listed.getD j false) w' → Q .normal (mixed ops a V (fun j => listed.getD j false) ops.size) w' := by
      intro listed w' hall hS
      have h1 := hK (fun j => listed.getD j false) w' hall hS
      rw [Array.length_toList, hAm _ (Nat.le_refl _)] at h1
      rwa [mixed_congr (M := fun _ => true) _ (fun j hj => hall j hj)]
    have least : ∀ (listed : Array Bool), listed.size = ops.size → Region.ready .any ops listed = [] → ∀ i, i < ops.size → listed.getD i false = true := by
      intro listed hs hr i
      induction i using Nat.strongRecOn with
      | _ i ih =>
        intro hi
        cases hl : listed.getD i false with
        | true => rfl
        | false =>
          have hl' : listed.getD i true = false := by
            have : i < listed.size := by omega
            simp [this] at hl ⊢
            exact hl
          have hm : i ∈ Region.ready .any ops listed := mem_ready.2 ⟨hl', ops[i], Array.getElem?_eq_getElem hi, fun e he hb => by
            have hw : waits ops i e.on = true := waits_iff.2 ⟨ops[i], Array.getElem?_eq_getElem hi, e, he, hb, rfl⟩
            have hlt := hD.back i e.on hw
            exact ih e.on hlt (by omega)⟩
          rw [hr] at hm
          cases hm
    intro f
    induction f with
    | zero =>
      intro listed w' hs hc hcnt hS
      have hall : ∀ i, i < ops.size → listed.getD i false = true := fun i hi => by
        have h1 := List.countP_eq_zero.1 (Nat.le_zero.1 hcnt) i (List.mem_range.2 hi)
        simpa using h1
      refine ⟨?_, done listed w' hall hS⟩
      apply List.eq_nil_iff_forall_not_mem.2
      intro i hi
      obtain ⟨hN, hlt⟩ := mem_ready_now hc hs hi
      have h1 := hN.free
      have h2 : listed.getD i false = false := h1
      rw [hall i hlt] at h2
      cases h2
    | succ f ih =>
      intro listed w' hs hc hcnt hS
      refine ⟨fun hr => done listed w' (least listed hs hr) hS, fun i hi => ?_⟩
      obtain ⟨hN, hlt⟩ := mem_ready_now hc hs hi
      have ho : ops[i]? = some ops[i] := Array.getElem?_eq_getElem hlt
      obtain ⟨hx, hw⟩ := same_exec (a := a) (V := V) hD ho hN
      have hdet := (hA i ops[i] (by rw [Array.getElem?_toList]; exact ho)).1
      rw [Nat.zero_add, hAm i (by omega)] at hdet
      have hset : ∀ j, (listed.setIfInBounds i true).getD j false = if j = i then true else listed.getD j false := by
        intro j
        by_cases e : j = i
        · subst e
          have : j < listed.size := by omega
          simp [this]
        · rw [if_neg e, getD_set_ne false (fun h => e h.symm)]
      have next : ∀ w2, Then S (fun j => listed.getD j false) i w2 → wpAnyIn Fence.wide 0 P .any ops Q f (listed.setIfInBounds i true) ((mixed ops a V (fun j => listed.getD j false) ops.size).put ops[i].dst (V i)) w2 := by
        intro w2 hT
        have hmx := mixed_put (a := a) (V := V) hD (L := fun j => listed.getD j false) (L' := fun j => (listed.setIfInBounds i true).getD j false) (i := i) hN.free (by simp [hset])
          (fun j hj => by simp only [hset, if_neg hj]) ops.size hlt (Nat.le_refl _)
        rw [ho, Option.bind_some] at hmx
        rw [← hmx]
        refine ih _ w2 (by simp [hs]) (fun j o hj hl e he hb => ?_) ?_ (hT _ (by simp [hset]) (fun j hj => by simp only [hset, if_neg hj]))
        · rw [hset] at hl ⊢
          split
          · rfl
          · by_cases e1 : j = i
            · subst e1
              exact hN.after o hj e he hb
            · rw [if_neg e1] at hl
              exact hc j o hj hl e he hb
        · have hcount : ((List.range ops.size).countP fun j => !(listed.setIfInBounds i true).getD j false) + 1 ≤ ((List.range ops.size).countP fun j => !listed.getD j false) := by
            have e1 : ((List.range ops.size).countP fun j => !(listed.setIfInBounds i true).getD j false) = ((List.range ops.size).countP fun j => !listed.getD j false && !(j == i)) := by
              refine List.countP_congr fun j _ => ?_
              rw [hset]
              by_cases e : j = i
              · simp [e]
              · simp [e]
            rw [e1]
            have e2 : (List.range ops.size).countP (fun j => !listed.getD j false) = ((List.range ops.size).countP fun j => !listed.getD j false && !(j == i)) + ((List.range ops.size).countP fun j => !listed.getD j false && (j == i)) := by
              induction (List.range ops.size) with
              | nil => rfl
              | cons x l ihl =>
                simp only [List.countP_cons, ihl]
                cases listed.getD x false <;> cases (x == i) <;> simp <;> omega
            rw [e2]
            have e3 : 0 < (List.range ops.size).countP fun j => !listed.getD j false && (j == i) :=
              List.countP_pos_iff.2 ⟨i, List.mem_range.2 hlt, by have := hN.free; simp only [this]; simp⟩
            omega
          omega
      unfold wpOpIn
      simp only [ho]
      rw [hw]
      rcases hdet with ⟨hwant, hres⟩ | ⟨hwant, hv, hS'⟩
      · rw [if_pos hwant]
        unfold Oper.wpIn
        refine ⟨fun _ _ => trivial, ?_⟩
        rw [show Fence.wide.round = none from rfl, Oper.semAt_none, hx]
        exact res_upon (hres _ w' hN hS) next
      · rw [if_neg (by simp [hwant])]
        have := next w' (hS' _ w' hN hS)
        rw [hv] at this
        exact ⟨fun _ _ => trivial, this⟩
  have hstart : mixed ops a V (fun j => (Array.replicate ops.size false).getD j false) ops.size = a := by
    have e : ∀ k, mixed ops a V (fun _ => false) k = a := by
      intro k
      induction k with
      | zero => rfl
      | succ k ih => unfold mixed; simpa using ih
    rw [mixed_congr (M := fun _ => false) _ (fun j _ => ?_)]
    · exact e _
    · by_cases hj : j < ops.size
      · simp [hj]
      · simp [hj]
  have hS0 : (fun j => (Array.replicate ops.size false).getD j false) = (fun _ : Nat => false) := by
    funext j
    by_cases hj : j < ops.size
    · simp [hj]
    · simp [hj]
  have := main ops.size (Array.replicate ops.size false) { w with drawn := w.drawn + 1 } (by simp) (fun j o _ hl => by
      rw [congrFun hS0 j] at hl; cases hl) (Nat.le_trans List.countP_le_length (by simp)) (by rw [hS0]; exact h0)
  rwa [hstart] at this

theorem det_cons {o : Oper} {l : List Oper} {i : Nat} {a : Act} {K : Act → Prop} (v : Value)
    (h : Region.wanted o (yielded ops a.tmps) = true ∧ ∀ L w, Now ops L i → S L w → Res P v (Then S L i) ((execOp a.eval o).run P w))
    (h2 : Det P ops S l (i + 1) (a.put o.dst v) K) : Det P ops S (o :: l) i a K := ⟨v, .inl h, h2⟩
theorem det_skip {o : Oper} {l : List Oper} {i : Nat} {a : Act} {K : Act → Prop}
    (h : Region.wanted o (yielded ops a.tmps) = false ∧ ∀ L w, Now ops L i → S L w → Then S L i w)
    (h2 : Det P ops S l (i + 1) (a.put o.dst undef) K) : Det P ops S (o :: l) i a K := ⟨undef, .inr ⟨h.1, rfl, h.2⟩, h2⟩
theorem det_nil {i : Nat} {a : Act} {K : Act → Prop} (h : K a) : Det P ops S [] i a K := h
end
end Go.Proofs.YtbhjfojbjpbdbaaDoor
