/-
  Merged: A24, A25, A26, A27. Written by sessions of this seat.
-/
import Derived.Test.YtbhjfojbjpbdbaaDoorK4
import Derived.Test.YtbhjfojbjpbdbaaDoorP1
import Derived.ArgAppend
import Derived.Lib.SmallJoins
import Derived.Deep.RegionLaw
import Derived.Shelf.Abstract

-- A24: append of one element to a slice that came in and has no room: the new slice's rows. Written by a session.
namespace Go.Proofs.YtbhjfojbjpbdbaaDoor
open Go.RowKit

theorem flat_len {sz : Nat} : ∀ (rows : List (List Value)), (∀ r ∈ rows, r.length = sz) → rows.flatten.length = rows.length * sz
  | [], _ => by simp
  | x :: rows, h => by
    rw [List.flatten_cons, List.length_append, flat_len rows (fun r hr => h r (List.mem_cons_of_mem _ hr)), h x List.mem_cons_self, List.length_cons, Nat.add_mul]
    omega

theorem flat_at' {sz : Nat} (hsz : 0 < sz) : ∀ (rows : List (List Value)), (∀ r ∈ rows, r.length = sz) → ∀ (j : Nat) (u : Value), rows.flatten[j]? = some u → ∃ i k r, rows[i]? = some r ∧ r[k]? = some u ∧ j = i * sz + k
  | [], _, j, u, h => by simp at h
  | x :: rows, hl, j, u, h => by
    have hx := hl x List.mem_cons_self
    rw [List.flatten_cons] at h
    by_cases hj : j < x.length
    · rw [List.getElem?_append_left hj] at h
      exact ⟨0, j, x, rfl, h, by omega⟩
    · rw [List.getElem?_append_right (by omega)] at h
      obtain ⟨i, k, r, h1, h2, h3⟩ := flat_at' hsz rows (fun r hr => hl r (List.mem_cons_of_mem _ hr)) (j - x.length) u h
      exact ⟨i + 1, k, r, h1, h2, by rw [Nat.add_mul]; omega⟩

theorem grown_below {w w' : World} (h : w.grownBy w' none) : Below w.heap.size w w' :=
  ⟨h.os, h.tape, h.output, h.size, fun k hk => h.block k hk (by simp)⟩

theorem append_sl {P : Program} {w : World} (t ty e : TypeId) (i : TypeInfo) (z : Value) (size bytes : Nat) (ht : P.underlying t = some (.slice e)) (hi : P.info? e = some i) (hz : i.zero = some z)
    (hsize : i.size = size) (hby : i.bytes = bytes) (hzs : z.cells.size = size) (hsz : 0 < size) {n : Nat} {a : Option Addr} {len c : Nat} {rows : List (List Value)} (hl : len = rows.length)
    (hs : SlOf w n size (.slice a len c) rows) (r : List Value) (hr : r.length = size) (h1 : ∀ u ∈ r, u.oneCell' = true) (N : Nat) (hN : ∀ j u, r[j]? = some u → w.cell? ⟨N, j, none⟩ = some u)
    (b1 : len + 1 ≤ maxLen) (b2 : (len + 1) * bytes ≤ 140737488355328) :
    ∃ g cap w', (Builtin.append_ #[t, t] ty #[.slice a len len, .slice (some ⟨N, 0, none⟩) 1 1]).run P w = .ok (.slice (some ⟨g, 0, none⟩) (len + 1) cap) w' ∧
      SlOf w' w'.heap.size size (.slice (some ⟨g, 0, none⟩) (len + 1) cap) (rows ++ [r]) ∧ Below w.heap.size w w' ∧ w.heap.size ≤ g ∧ g < w'.heap.size := by
  obtain ⟨a', cap', e1, h2, h3, h4, h5⟩ := hs
  injection e1 with ea el ec
  subst ea
  subst hl
  have hnews : ∀ j u, r[j]? = some u → w.cell? ((⟨N, 0, none⟩ : Addr).add j) = some u := fun j u h => by
    rw [Go.WideShapes.add_plain, Nat.zero_add]; exact hN j u h
  have key : ∃ v' w', (Builtin.append_ #[t, t] ty #[.slice a rows.length rows.length, .slice (some ⟨N, 0, none⟩) 1 1]).run P w = .ok v' w' ∧ w'.ownsRow w.heap.size e size v' (rows.length + 1) (rows.flatten ++ r) ∧ w.grownBy w' none := by
    cases a with
    | some ad =>
      refine run_append_arg_grows (P := P) w t ty e i z size bytes ht hi hz hsize hby hzs hsz ad rows.length rows.length rows.flatten (flat_len rows h4) ?_ ⟨N, 0, none⟩ 1 1 r (by rw [hr, Nat.one_mul]) hnews (by omega) b1 b2
      intro j u hj
      obtain ⟨q, k, x, hq, hk, hjj⟩ := flat_at' hsz rows h4 j u hj
      have hp : 0 < rows.length := by have := (List.getElem?_eq_some_iff.1 hq).1; omega
      obtain ⟨b, o, e3, _, h6⟩ := h5 hp
      injection e3 with e4
      subst e4
      rw [Go.WideShapes.add_plain, hjj, ← Nat.add_assoc]
      exact h6 q k x u hq hk
    | none =>
      have h0 : rows.length = 0 := by
        rcases Nat.eq_zero_or_pos rows.length with h | h
        · exact h
        · obtain ⟨_, _, e3, _⟩ := h5 h; cases e3
      have hrows : rows = [] := List.eq_nil_of_length_eq_zero h0
      subst hrows
      obtain ⟨v', w', hrun, r1, r2, _⟩ := run_append_own (P := P) w w.heap.size t ty e i z size bytes ht hi hz hsize hby hzs hsz (.slice none 0 0) 0 [] (World.ownsRow_nil w _ e size) ⟨N, 0, none⟩ 1 1 r (by rw [hr, Nat.one_mul]) hnews h1 b1 b2 (Nat.le_refl _)
      exact ⟨v', w', hrun, r1, r2⟩
  obtain ⟨v', w', hrun, hown, hgr⟩ := key
  have hr' : ∀ x ∈ rows ++ [r], x.length = size := fun x hx => by
    rcases List.mem_append.1 hx with hx | hx
    · exact h4 x hx
    · simp at hx; subst hx; exact hr
  have hsl : SlOf w' w'.heap.size size v' (rows ++ [r]) := SlOf.own (by rw [List.length_append]; simpa using hown) hr'
  rcases hown.2 with ⟨_, h0⟩ | ⟨g, cap, cur, rfl, hb, hg, hc, hm, hs, htk⟩
  · omega
  · exact ⟨g, cap, w', hrun, hsl, grown_below hgr, hb, (Array.getElem?_eq_some_iff.1 hg).1⟩
end Go.Proofs.YtbhjfojbjpbdbaaDoor

-- A25: Plain law: the choices that Wrong goes through, one number after the other. Written by a session.
namespace Go.Proofs.YtbhjfojbjpbdbaaDoor

/-- the number from which on the next one is chosen. -/
def nextOf (l : List Nat) : Nat := match l.getLast? with
  | none => 0
  | some x => x + 1

def canBe (b : Bk) (l : List Nat) : Bool := !(truths (b.but l)).isEmpty

/-- so many more are chosen behind some, from a number on: the first choice without which the book can be true. -/
def leaveL (b : Bk) : Nat → List Nat → Option (List Nat)
  | 0, l => if canBe b l then some l else none
  | d + 1, l => ((List.range b.cks.length).filter (nextOf l ≤ ·)).findSome? fun n => leaveL b d (l ++ [n])

/-- .. from a number on. -/
def restL (b : Bk) (d : Nat) (l : List Nat) (q : Nat) : Option (List Nat) := ((List.range b.cks.length).filter (q ≤ ·)).findSome? fun n => leaveL b d (l ++ [n])

theorem leaveL_succ (b : Bk) (d : Nat) (l : List Nat) : leaveL b (d + 1) l = restL b d l (nextOf l) := rfl

theorem filter_range_cons {n q : Nat} (h : q < n) : (List.range n).filter (q ≤ ·) = q :: (List.range n).filter (q + 1 ≤ ·) := by
  induction n with
  | zero => omega
  | succ n ih =>
    rw [List.range_succ, List.filter_append, List.filter_append]
    rcases Nat.lt_or_ge q n with hq | hq
    · rw [ih hq]
      simp [show q ≤ n by omega, show q + 1 ≤ n by omega]
    · have hqn : q = n := by omega
      subst hqn
      have h1 : (List.range q).filter (q ≤ ·) = [] := by
        rw [List.filter_eq_nil_iff]
        intro x hx
        have := List.mem_range.1 hx
        simp; omega
      have h2 : (List.range q).filter (q + 1 ≤ ·) = [] := by
        rw [List.filter_eq_nil_iff]
        intro x hx
        have := List.mem_range.1 hx
        simp; omega
      rw [h1, h2]
      simp
theorem filter_range_nil {n q : Nat} (h : n ≤ q) : (List.range n).filter (q ≤ ·) = [] := by
  rw [List.filter_eq_nil_iff]
  intro x hx
  have := List.mem_range.1 hx
  simp; omega

theorem restL_step (b : Bk) (d : Nat) (l : List Nat) {q : Nat} (h : q < b.cks.length) : restL b d l q = match leaveL b d (l ++ [q]) with | some r => some r | none => restL b d l (q + 1) := by
  unfold restL
  rw [filter_range_cons h, List.findSome?_cons]
  cases leaveL b d (l ++ [q]) <;> rfl
theorem restL_end (b : Bk) (d : Nat) (l : List Nat) {q : Nat} (h : b.cks.length ≤ q) : restL b d l q = none := by
  unfold restL
  rw [filter_range_nil h]
  rfl

theorem nextOf_concat (l : List Nat) (n : Nat) : nextOf (l ++ [n]) = n + 1 := by simp [nextOf]

theorem find_flatMap {α β : Type} (p : β → Bool) (f : α → List β) : ∀ (l : List α), (l.flatMap f).find? p = l.findSome? fun x => (f x).find? p
  | [] => rfl
  | x :: l => by
    rw [List.flatMap_cons, List.find?_append, List.findSome?_cons, find_flatMap p f l]
    cases h : (f x).find? p <;> rfl

theorem leaveL_eq (b : Bk) : ∀ (d : Nat) (l : List Nat), leaveL b d l = (((picks d b.cks.length (nextOf l)).map (l ++ ·)).find? (canBe b))
  | 0, l => by
    simp only [leaveL, picks, List.map_cons, List.map_nil, List.append_nil]
    cases h : canBe b l <;> simp [List.find?, h]
  | d + 1, l => by
    simp only [leaveL, picks, List.map_flatMap, List.map_map]
    rw [find_flatMap]
    congr 1
    funext n
    rw [leaveL_eq b d (l ++ [n]), nextOf_concat]
    congr 2
    funext x
    simp

/-- how many must be left out: from so many on. -/
def wrongFrom (b : Bk) : Nat → Nat → Option (List Nat)
  | _, 0 => none
  | m, k + 1 => match leaveL b m [] with
    | some r => some r
    | none => wrongFrom b (m + 1) k

theorem wrongFrom_eq (b : Bk) : ∀ (k m : Nat), wrongFrom b m k = (List.range' m k).findSome? fun m => leaveL b m []
  | 0, m => rfl
  | k + 1, m => by
    rw [wrongFrom, List.range'_succ, List.findSome?_cons, wrongFrom_eq b k (m + 1)]
    cases leaveL b m [] <;> rfl

theorem wrongL_eq (b : Bk) : wrongL b = (wrongFrom b 0 (b.cks.length + 1)).getD [] := by
  rw [wrongFrom_eq]
  unfold wrongL allPicks
  rw [find_flatMap, List.range_eq_range']
  congr 2
  funext m
  rw [leaveL_eq]
  have h : ((picks m b.cks.length (nextOf [])).map fun x => [] ++ x) = picks m b.cks.length 0 := by
    show (picks m b.cks.length 0).map _ = _
    simp
  rw [h]
  rfl
end Go.Proofs.YtbhjfojbjpbdbaaDoor

-- A26: The contract of the closure by which Wrong chooses clocks (package claim). Written by a session; printed by wip/tools/a26.py.
namespace Go.Proofs.YtbhjfojbjpbdbaaDoor
open Go.RowKit

theorem step_append_sl {P : Program} {ops : Array Oper} {o : Oper} {a : Act} {w : World} {K : Act → World → Prop} {Q : Exit → Act → World → Prop} {E : Prop}
    (hg : o.guard = none) (s x : Operand) (t : TypeId) (hop : o.op = Op.call { callee := Callee.builtin Builtin.append, args := #[s, x], argTypes := #[t, t] })
    (e : TypeId) (i : TypeInfo) (z : Value) (size bytes : Nat) (ht : P.underlying t = some (.slice e)) (hi : P.info? e = some i) (hz : i.zero = some z)
    (hsize : i.size = size) (hby : i.bytes = bytes) (hzs : z.cells.size = size) (hsz : 0 < size) {n : Nat} {ad : Option Addr} {len c : Nat} {rows : List (List Value)} (hl : len = rows.length)
    (hs : SlOf w n size (.slice ad len c) rows) (r : List Value) (hr : r.length = size) (h1 : ∀ u ∈ r, u.oneCell' = true) (N : Nat) (hN : ∀ j u, r[j]? = some u → w.cell? ⟨N, j, none⟩ = some u)
    (b1 : len + 1 ≤ maxLen) (b2 : (len + 1) * bytes ≤ 140737488355328) (hsv : a.eval s = .slice ad len len) (hx : a.eval x = .slice (some ⟨N, 0, none⟩) 1 1)
    (hK : ∀ g cap w', SlOf w' w'.heap.size size (.slice (some ⟨g, 0, none⟩) (len + 1) cap) (rows ++ [r]) → Below w.heap.size w w' → w.heap.size ≤ g → K (a.put o.dst (.slice (some ⟨g, 0, none⟩) (len + 1) cap)) w') :
    if Region.wanted o (yielded ops a.tmps) = true then Oper.wp P o a w K Q else E := by
  have hw : Region.wanted o (yielded ops a.tmps) = true := by simp [Region.wanted, hg]
  rw [if_pos hw]
  obtain ⟨g, cap, w', hrun, h2, h3, h4, _⟩ := append_sl (P := P) (w := w) t o.type e i z size bytes ht hi hz hsize hby hzs hsz hl hs r hr h1 N hN b1 b2
  unfold Oper.wp
  simp [execOp, hop, resolve, invoke, builtin, hsv, hx, hrun, Result.andThen]
  exact hK g cap w' h2 h3 h4

theorem info3z : (Tryd.prog.info? 3).map (fun i => (i.zero, i.size, i.bytes)) = some (some (.int .i64 0), 1, 8) := by kernel_rfl

/-- what the closure finds around it. -/
structure LEnv (b : Bk) (n : Nat) (sa ka : Option Addr) (n1 sc n2 kc PX PL : Nat) (W : World) : Prop where
  hv : BookW W n sa ka n1 sc n2 kc b
  hG : Glob W
  hx : W.heap[PX]? = some (Obj.cells #[.slice sa n1 sc, .int .i64 b.wth, .int .i64 b.c0, .int .i64 b.c1, .int .i64 b.c2, .slice ka n2 kc, .int .i64 b.rate] 26)
  hl : W.heap[PL]? = some (.cells #[.func (.func 87) #[] #[.pointer (some ⟨PX, 0, none⟩), .pointer (some ⟨PL, 0, none⟩)]] 108)
theorem LEnv.below {b : Bk} {n : Nat} {sa ka : Option Addr} {n1 sc n2 kc PX PL : Nat} {W V : World} (h : LEnv b n sa ka n1 sc n2 kc PX PL W) (hb : Below W.heap.size W V) : LEnv b n sa ka n1 sc n2 kc PX PL V :=
  ⟨h.hv.below h.hv.hn hb, h.hG.below h.hG.lt hb, (hb.block _ (Array.getElem?_eq_some_iff.1 h.hx).1).trans h.hx, (hb.block _ (Array.getElem?_eq_some_iff.1 h.hl).1).trans h.hl⟩

theorem natCells_append (l : List Nat) (q : Nat) : natCells (l ++ [q]) = natCells l ++ [[.int .i64 (q : Int)]] := by simp [natCells]

theorem own_new {B0 g len cap : Nat} (h : B0 ≤ g) : ∀ g', (Value.slice (some ⟨g, 0, none⟩) len cap).ownBlock = some g' → B0 ≤ g' := by
  intro g' e
  simp [Value.ownBlock] at e
  omega

def LeaveAt (b : Bk) (n : Nat) (sa ka : Option Addr) (n1 sc n2 kc PX PL d : Nat) : Prop :=
  ∀ (l : List Nat) (W : World) (la : Option Addr) (k lc m : Nat) (many : Int) (B0 : Nat), LEnv b n sa ka n1 sc n2 kc PX PL W → k = l.length → SlOf W m 1 (.slice la k lc) (natCells l) → m ≤ W.heap.size → (∀ x ∈ l, x < n2) → k + d ≤ n2 → many = ((k + d : Nat) : Int) → B0 ≤ W.heap.size → (∀ g, (Value.slice la k lc).ownBlock = some g → B0 ≤ g) →
    Calls Tryd.prog 87 #[.slice la k lc, .int .i64 many, .pointer (some ⟨PX, 0, none⟩), .pointer (some ⟨PL, 0, none⟩)] W fun e W' => ∃ (ra : Option Addr) (rl rc : Nat), e = .returned (.tuple #[.slice ra rl rc, .bool (leaveL b d l).isSome]) ∧ Below W.heap.size W W' ∧
      ∀ r, leaveL b d l = some r → SlOf W' W'.heap.size 1 (.slice ra rl rc) (natCells r) ∧ ∀ g, (Value.slice ra rl rc).ownBlock = some g → B0 ≤ g

set_option maxRecDepth 100000 in
set_option maxHeartbeats 2000000 in
theorem leave_zero {b : Bk} {n : Nat} {sa ka : Option Addr} {n1 sc n2 kc PX PL : Nat} (hS : Sound b) (_h4 : n2 ≤ 4) : LeaveAt b n sa ka n1 sc n2 kc PX PL 0 := by
  intro l W la k lc m many B0 hE hk hs hm hx hle hmany hB0 hBg
  have HBG := Lib.hid hBg
  clear hB0 hBg
  subst hmany
  rw [Nat.add_zero] at hle ⊢
  have x0 : W.cell? ⟨PX, 0, none⟩ = some (.slice sa n1 sc) := blk_cell hE.hx
  have x1 : W.cell? ⟨PX, 1, none⟩ = some (.int .i64 b.wth) := blk_cell hE.hx
  have x2 : W.cell? ⟨PX, 2, none⟩ = some (.int .i64 b.c0) := blk_cell hE.hx
  have x3 : W.cell? ⟨PX, 3, none⟩ = some (.int .i64 b.c1) := blk_cell hE.hx
  have x4 : W.cell? ⟨PX, 4, none⟩ = some (.int .i64 b.c2) := blk_cell hE.hx
  have x5 : W.cell? ⟨PX, 5, none⟩ = some (.slice ka n2 kc) := blk_cell hE.hx
  have x6 : W.cell? ⟨PX, 6, none⟩ = some (.int .i64 b.rate) := blk_cell hE.hx
  have HE := Lib.hid hE
  have HS := Lib.hid hs
  have HM := Lib.hid hm
  have HK := Lib.hid hk
  have HSO := Lib.hid hS
  have hfield := field79
  clear hE hs hm hk hS hx hle
  go_enter Tryd.func87, Tryd.ntmps87
  go_wp2_with (first
    | (go_at_call 64; refine (opened_ok W b (.slice sa n1 sc) (.slice ka n2 kc) (.slice la k lc) l W.heap.size (Nat.le_refl _) (HE.out.hv.hs.mono HE.out.hv.hn) (HE.out.hv.hk.mono HE.out.hv.hn) HE.out.hG (HS.out.mono HM.out) HSO.out).mono ?_; rintro e w2 ⟨ka', kl', kc', M, tv, rfl, hb2, ht, hfr⟩; obtain ⟨ta, tc, rfl⟩ := ht.slice; have HB2 := Lib.hid hb2; have HT := Lib.hid ht; clear hb2 ht hfr; simp only [Bk.cells9])
    | fail)
  refine bodyPost_ret (results_tmp2 rfl _ _ _) rfl ⟨la, k, lc, ?_, HB2.out, ?_⟩
  · show Ending.returned (.tuple #[.slice la k lc, .bool (decide (0 < (trCells (truths (b.but l))).length))]) = _
    rw [dec_len]
    have : (leaveL b 0 l).isSome = !(truths (b.but l)).isEmpty := by
      show (if canBe b l then some l else none).isSome = _
      unfold canBe
      cases (truths (b.but l)).isEmpty <;> rfl
    rw [this]
  · intro r hr
    have : r = l := by
      simp only [leaveL] at hr
      split at hr
      · injection hr with h; exact h.symm
      · cases hr
    subst this
    exact ⟨(HS.out.below HM.out HB2.out).mono (Nat.le_trans HM.out HB2.out.size), HBG.out⟩

theorem new_one {w : World} (u : Value) (T : TypeId) : ∀ j v, [u][j]? = some v → (w.drew.alloc (.cells #[u] T)).cell? ⟨w.heap.size, j, none⟩ = some v := by
  intro j v h
  have e := blk_cell (j := j) (World.alloc_heap_new w.drew (.cells #[u] T))
  refine Eq.trans e ?_
  simpa using h
theorem bel3' {V w1 : World} {o : Obj} (h : Below (V.drew.alloc o).heap.size (V.drew.alloc o) w1) : Below V.heap.size V w1 := (((Below.refl V.heap.size V).drew.alloc (Nat.le_refl _) o)).trans (h.mono ((Below.refl V.heap.size V).drew.alloc (Nat.le_refl _) o).size)

set_option maxRecDepth 100000 in
set_option maxHeartbeats 40000000 in
theorem leave_succ {b : Bk} {n : Nat} {sa ka : Option Addr} {n1 sc n2 kc PX PL d : Nat} (h4 : n2 ≤ 4) (hI : LeaveAt b n sa ka n1 sc n2 kc PX PL d) : LeaveAt b n sa ka n1 sc n2 kc PX PL (d + 1) := by
  intro l W la k lc m many B0 hE hk hs hm hx hle hmany hB0 hBg
  have HB00 := Lib.hid hB0
  clear hB0 hBg
  have ne1 : ((k : Int) == many) = false := by rw [hmany]; simp; omega
  obtain ⟨i3, i3a, i3b, i3c, i3d⟩ := info_parts info3z
  have x5 : W.cell? ⟨PX, 5, none⟩ = some (.slice ka n2 kc) := blk_cell hE.hx
  have hkc : k ≤ lc := by obtain ⟨_, _, e, _, h1, _⟩ := hs; injection e with _ e2 e3; omega
  have HE := Lib.hid hE
  have HS := Lib.hid hs
  have HM := Lib.hid hm
  have HK := Lib.hid hk
  have HKL := Lib.hid (show k = (natCells l).length by rw [hk]; simp [natCells])
  have HI := Lib.hid hI
  have HMA := Lib.hid hmany
  have HSX := Lib.hid (show ∀ w, Below W.heap.size W w → SlOf w m 1 (.slice la k lc) (natCells l) from fun w h => hs.below hm h)
  have HXQ := Lib.hid (show ∀ q, q < n2 → ∀ x ∈ l ++ [q], x < n2 from fun q hq x h => by
    rcases List.mem_append.1 h with h | h
    · exact hx x h
    · simp at h; omega)
  have hk4 : k ≤ 3 := by omega
  clear hE hI hmany
  rcases List.eq_nil_or_concat l with hl | ⟨init, last, hl⟩
  · have hk0 : k = 0 := by rw [hk, hl]; rfl
    have HNX := Lib.hid (show nextOf l ≤ n2 by rw [hl]; exact Nat.zero_le _)
    have HFR := Lib.hid (show Value.int .i64 0 = Value.int .i64 ((nextOf l : Nat) : Int) by rw [hl]; rfl)
    clear hs hm hk hl hx
    subst hk0
    have ne0 : ((0 : Int) == many) = false := ne1
    clear ne1
    go_enter Tryd.func87, Tryd.ntmps87
    go_wp2_with fail
    try simp only [ne0]
    clear ne0
    go_loopg [10] (n2 - nextOf l) (fun n0 i wx => ∃ (q : Nat), q ≤ n2 ∧ n0 = n2 - q ∧ i = .int .i64 (q : Int) ∧ restL b d l q = leaveL b (d + 1) l ∧ Below W.heap.size W wx)
    case atStart => exact ⟨nextOf l, HNX.out, rfl, HFR.out, rfl, Below.refl _ _⟩
    case round =>
      obtain ⟨q, hq, hgk, rfl, hrest, hbx⟩ := hrel
      have HG2 := Lib.hid hgk
      have HRE := Lib.hid hrest
      have HER := Lib.hid (HE.out.below hbx)
      have HBX := Lib.hid hbx
      have z5 : wr.cell? ⟨PX, 5, none⟩ = some (.slice ka n2 kc) := blk_cell HER.out.hx
      have zl : wr.cell? ⟨PL, 0, none⟩ = some (.func (.func 87) #[] #[.pointer (some ⟨PX, 0, none⟩), .pointer (some ⟨PL, 0, none⟩)]) := blk_cell HER.out.hl
      have ltl : PL < wr.heap.size := (Array.getElem?_eq_some_iff.1 HER.out.hl).1
      clear hgk hrest hbx
      by_cases hlt : q < n2
      · obtain ⟨fd, hfd⟩ : ∃ fd, (leaveL b d (l ++ [q])).isSome = fd := ⟨_, rfl⟩
        have HFD := Lib.hid hfd
        clear hfd
        go_upto_region 10 with fail
        have HMX := Lib.hid (show many = ((0 + 1 + d : Nat) : Int) by rw [HMA.out]; congr 1; omega)
        have HSM := Lib.hid (show 0 + 1 ≤ maxLen by unfold maxLen; omega)
        have HSB := Lib.hid (show (0 + 1) * 8 ≤ 140737488355328 by omega)
        go_region_law (first
            | (go_simp
               refine (HI.out (l ++ [q]) w1 (some ⟨g, 0, none⟩) (0 + 1) cap w1.heap.size many B0 (HER.out.below HB1.out) (by rw [List.length_append, HK.out]; rfl) (by rw [natCells_append]; exact HS1.out) (Nat.le_refl _) ?hx2 (by omega) (HMX.out) (Nat.le_trans HB00.out (Nat.le_trans HBX.out.size HB1.out.size)) (own_new HG1.out)).mono ?_
               case hx2 => exact HXQ.out q hlt
               rintro e w2 ⟨ra, rl, rc, rfl, hb2, hr2⟩
               rw [HFD.out]
               have HRR := Lib.hid hr2
               have HBZ := Lib.hid (HBX.out.trans ((HB1.out.trans (hb2.mono HB1.out.size)).mono HBX.out.size))
               clear hb2 hr2
               go_simp)
            | (refine step_append_sl rfl (.tmp 46) (.tmp 48) 44 rfl 3 i3 (.int .i64 0) 1 8 Tryd.underlying44 i3a i3b i3c i3d rfl (by decide) HKL.out (HSX.out _ (HBX.out.drew.alloc HBX.out.size _)) [.int .i64 (q : Int)] rfl (by simp [Value.oneCell']) wr.heap.size (new_one _ _) HSM.out HSB.out (by simp [Act.eval]) (by simp [Act.eval]) ?_
               intro g cap w1 hs1 hb1 hg1
               have HG1 := Lib.hid (show B0 ≤ g from by have h1 := HBX.out.size; have h2 := HB00.out; simp at hg1; omega)
               clear hg1
               have hbv := bel3' hb1
               have zl1 : w1.cell? ⟨PL, 0, none⟩ = some (.func (.func 87) #[] #[.pointer (some ⟨PX, 0, none⟩), .pointer (some ⟨PL, 0, none⟩)]) := (hbv.cell (p := ⟨PL, 0, none⟩) ltl).trans zl
               have HS1 := Lib.hid hs1
               have HB1 := Lib.hid hbv
               clear hs1 hb1 hbv))
        all_goals
          rcases hcl : leaveL b d (l ++ [q]) with _ | r
          · have hf : fd = false := by rw [← HFD.out, hcl]; rfl
            have HCL := Lib.hid hcl
            clear hcl
            subst hf
            go_wp2_with fail
            go_roundg (n2 - (q + 1))
            case measure => rw [HG2.out]; omega
            case rel => exact ⟨q + 1, by omega, rfl, by go_num, by (have h := restL_step b d l (q := q) (by rw [← HE.out.hv.l2]; exact hlt)); rw [HCL.out] at h; rw [← HRE.out]; exact h.symm, HBZ.out⟩
          · have hf : fd = true := by rw [← HFD.out, hcl]; rfl
            have HCL := Lib.hid hcl
            clear hcl
            subst hf
            go_wp2_with fail
            refine bodyPost_ret (results_tmp2 rfl _ _ _) rfl ⟨ra, rl, rc, ?_, HBZ.out, ?_⟩
            · rw [← HRE.out, restL_step b d l (by rw [← HE.out.hv.l2]; exact hlt), HCL.out]; rfl
            · intro r' hr'
              rw [← HRE.out, restL_step b d l (by rw [← HE.out.hv.l2]; exact hlt), HCL.out] at hr'
              injection hr' with hr'
              subst hr'
              exact HRR.out _ HCL.out
      · go_wp2_with fail
        refine bodyPost_ret (results_tmp2 rfl _ _ _) rfl ⟨none, 0, 0, ?_, HBX.out, ?_⟩
        · rw [← HRE.out, restL_end b d l (by rw [← HE.out.hv.l2]; omega)]; rfl
        · intro r' hr'; rw [← HRE.out, restL_end b d l (by rw [← HE.out.hv.l2]; omega)] at hr'; cases hr'
  · have hl' : l = init ++ [last] := by rw [hl]; simp
    have hkk : k = init.length + 1 := by rw [hk, hl']; simp
    have hlast : last < n2 := hx last (by rw [hl']; simp)
    have hwk : IntKind.i64.wrap ((k : Int) - 1) = ((k - 1 : Nat) : Int) := by rw [IntWalk.i64_in _ (by omega)]; omega
    obtain ⟨bb, o, hla, hbb, hcc⟩ : ∃ bb o, la = some ⟨bb, o, none⟩ ∧ bb < m ∧ W.cell? ⟨bb, o + (k - 1), none⟩ = some (.int .i64 (last : Int)) := by
      obtain ⟨_, _, e, _, _, _, h5⟩ := hs
      injection e with e1 e2 e3
      obtain ⟨bb, o, h6, h7, h8⟩ := h5 (by omega)
      refine ⟨bb, o, e1.trans h6, h7, ?_⟩
      have := h8 (k - 1) 0 [.int .i64 (last : Int)] (.int .i64 (last : Int)) (by rw [hl', natCells_append, hkk, List.getElem?_append_right (by simp [natCells])]; simp [natCells]) rfl
      simpa using this
    have hk1 : ((k - 1 : Nat) : Int) < (k : Int) := by omega
    have HNX := Lib.hid (show nextOf l ≤ n2 by rw [hl', nextOf_concat]; omega)
    have HFR := Lib.hid (show Value.int .i64 ((last : Int) + 1) = Value.int .i64 ((nextOf l : Nat) : Int) by rw [hl', nextOf_concat]; simp)
    have hkpos : (0 : Int) < (k : Int) := by omega
    have hkp2 : ¬ ((k : Int) ≤ 0) := by omega
    have hl4 : last < 4 := by omega
    clear hs hm hk hl hl' hx hkk
    subst hla
    go_enter Tryd.func87, Tryd.ntmps87
    go_wp2_with fail
    try simp only [ne1]
    clear ne1
    go_loopg [10] (n2 - nextOf l) (fun n0 i wx => ∃ (q : Nat), q ≤ n2 ∧ n0 = n2 - q ∧ i = .int .i64 (q : Int) ∧ restL b d l q = leaveL b (d + 1) l ∧ Below W.heap.size W wx)
    case atStart => exact ⟨nextOf l, HNX.out, rfl, HFR.out, rfl, Below.refl _ _⟩
    case round =>
      obtain ⟨q, hq, hgk, rfl, hrest, hbx⟩ := hrel
      have HG2 := Lib.hid hgk
      have HRE := Lib.hid hrest
      have HER := Lib.hid (HE.out.below hbx)
      have HBX := Lib.hid hbx
      have z5 : wr.cell? ⟨PX, 5, none⟩ = some (.slice ka n2 kc) := blk_cell HER.out.hx
      have zl : wr.cell? ⟨PL, 0, none⟩ = some (.func (.func 87) #[] #[.pointer (some ⟨PX, 0, none⟩), .pointer (some ⟨PL, 0, none⟩)]) := blk_cell HER.out.hl
      have ltl : PL < wr.heap.size := (Array.getElem?_eq_some_iff.1 HER.out.hl).1
      clear hgk hrest hbx
      by_cases hlt : q < n2
      · obtain ⟨fd, hfd⟩ : ∃ fd, (leaveL b d (l ++ [q])).isSome = fd := ⟨_, rfl⟩
        have HFD := Lib.hid hfd
        clear hfd
        go_upto_region 10 with fail
        have HMX := Lib.hid (show many = ((k + 1 + d : Nat) : Int) by rw [HMA.out]; congr 1; omega)
        have HSM := Lib.hid (show k + 1 ≤ maxLen by unfold maxLen; omega)
        have HSB := Lib.hid (show (k + 1) * 8 ≤ 140737488355328 by omega)
        go_region_law (first
            | (go_simp
               refine (HI.out (l ++ [q]) w1 (some ⟨g, 0, none⟩) (k + 1) cap w1.heap.size many B0 (HER.out.below HB1.out) (by rw [List.length_append, HK.out]; rfl) (by rw [natCells_append]; exact HS1.out) (Nat.le_refl _) ?hx2 (by omega) (HMX.out) (Nat.le_trans HB00.out (Nat.le_trans HBX.out.size HB1.out.size)) (own_new HG1.out)).mono ?_
               case hx2 => exact HXQ.out q hlt
               rintro e w2 ⟨ra, rl, rc, rfl, hb2, hr2⟩
               rw [HFD.out]
               have HRR := Lib.hid hr2
               have HBZ := Lib.hid (HBX.out.trans ((HB1.out.trans (hb2.mono HB1.out.size)).mono HBX.out.size))
               clear hb2 hr2
               go_simp)
            | (refine step_append_sl rfl (.tmp 46) (.tmp 48) 44 rfl 3 i3 (.int .i64 0) 1 8 Tryd.underlying44 i3a i3b i3c i3d rfl (by decide) HKL.out (HSX.out _ (HBX.out.drew.alloc HBX.out.size _)) [.int .i64 (q : Int)] rfl (by simp [Value.oneCell']) wr.heap.size (new_one _ _) HSM.out HSB.out (by simp [Act.eval]) (by simp [Act.eval]) ?_
               intro g cap w1 hs1 hb1 hg1
               have HG1 := Lib.hid (show B0 ≤ g from by have h1 := HBX.out.size; have h2 := HB00.out; simp at hg1; omega)
               clear hg1
               have hbv := bel3' hb1
               have zl1 : w1.cell? ⟨PL, 0, none⟩ = some (.func (.func 87) #[] #[.pointer (some ⟨PX, 0, none⟩), .pointer (some ⟨PL, 0, none⟩)]) := (hbv.cell (p := ⟨PL, 0, none⟩) ltl).trans zl
               have HS1 := Lib.hid hs1
               have HB1 := Lib.hid hbv
               clear hs1 hb1 hbv))
        all_goals
          rcases hcl : leaveL b d (l ++ [q]) with _ | r
          · have hf : fd = false := by rw [← HFD.out, hcl]; rfl
            have HCL := Lib.hid hcl
            clear hcl
            subst hf
            go_wp2_with fail
            go_roundg (n2 - (q + 1))
            case measure => rw [HG2.out]; omega
            case rel => exact ⟨q + 1, by omega, rfl, by go_num, by (have h := restL_step b d l (q := q) (by rw [← HE.out.hv.l2]; exact hlt)); rw [HCL.out] at h; rw [← HRE.out]; exact h.symm, HBZ.out⟩
          · have hf : fd = true := by rw [← HFD.out, hcl]; rfl
            have HCL := Lib.hid hcl
            clear hcl
            subst hf
            go_wp2_with fail
            refine bodyPost_ret (results_tmp2 rfl _ _ _) rfl ⟨ra, rl, rc, ?_, HBZ.out, ?_⟩
            · rw [← HRE.out, restL_step b d l (by rw [← HE.out.hv.l2]; exact hlt), HCL.out]; rfl
            · intro r' hr'
              rw [← HRE.out, restL_step b d l (by rw [← HE.out.hv.l2]; exact hlt), HCL.out] at hr'
              injection hr' with hr'
              subst hr'
              exact HRR.out _ HCL.out
      · go_wp2_with fail
        refine bodyPost_ret (results_tmp2 rfl _ _ _) rfl ⟨none, 0, 0, ?_, HBX.out, ?_⟩
        · rw [← HRE.out, restL_end b d l (by rw [← HE.out.hv.l2]; omega)]; rfl
        · intro r' hr'; rw [← HRE.out, restL_end b d l (by rw [← HE.out.hv.l2]; omega)] at hr'; cases hr'

theorem leave_any {b : Bk} {n : Nat} {sa ka : Option Addr} {n1 sc n2 kc PX PL : Nat} (hS : Sound b) (h4 : n2 ≤ 4) : ∀ d, LeaveAt b n sa ka n1 sc n2 kc PX PL d
  | 0 => leave_zero hS h4
  | d + 1 => leave_succ h4 (leave_any hS h4 d)
end Go.Proofs.YtbhjfojbjpbdbaaDoor

-- A27: The contract of Wrong (package claim). Written by a session; printed by wip/tools/a27.py.
namespace Go.Proofs.YtbhjfojbjpbdbaaDoor
open Go.RowKit

theorem SlOf.cut {W : World} {m : Nat} {ra : Option Addr} {rl rc : Nat} {rows : List (List Value)} (h : SlOf W m 1 (.slice ra rl rc) rows) : SlOf W m 1 (.slice ra rl rl) rows ∧ rl ≤ rc ∧ rl ≤ maxLen := by
  obtain ⟨a, c, e, h1, h2, h3, h4⟩ := h
  injection e with e1 e2 e3
  subst e1; subst e2; subst e3
  exact ⟨⟨ra, rows.length, rfl, Nat.le_refl _, by omega, h3, h4⟩, h1, h2⟩

theorem own_cut {B0 : Nat} {ra : Option Addr} {rl rc : Nat} (h : ∀ g, (Value.slice ra rl rc).ownBlock = some g → B0 ≤ g) : ∀ g, (Value.slice ra rl rl).ownBlock = some g → B0 ≤ g := fun g e => h g (by
  cases ra with
  | none => simp [Value.ownBlock] at e
  | some a => simpa [Value.ownBlock] using e)

theorem wrongFrom_step (b : Bk) {q N : Nat} (h : q < N) : wrongFrom b q (N - q) = match leaveL b q [] with | some r => some r | none => wrongFrom b (q + 1) (N - (q + 1)) := by
  rw [show N - q = (N - (q + 1)) + 1 by omega, wrongFrom]
  all_goals (cases leaveL b q [] <;> rfl)

set_option maxRecDepth 100000 in
set_option maxHeartbeats 4000000 in
theorem wrong_own (W : World) (b : Bk) (n : Nat) (sa ka : Option Addr) (n1 sc n2 kc : Nat) (hv : BookW W n sa ka n1 sc n2 kc b) (hG : Glob W) :
    Calls Tryd.prog 38 #[.agg (b.cells (.slice sa n1 sc) (.slice ka n2 kc)).toArray] W fun e W' => ∃ (ra : Option Addr) (rl rc : Nat), e = .returned (.tuple #[.slice ra rl rc, .int .i64 (wrongS b).2]) ∧ Below W.heap.size W W' ∧
      SlOf W' W'.heap.size 1 (.slice ra rl rc) (natCells (wrongS b).1) ∧ ∀ g, (Value.slice ra rl rc).ownBlock = some g → W.heap.size ≤ g := by
  obtain ⟨V, hV⟩ : ∃ V, W.alloc (Obj.cells #[.slice sa n1 sc, .int .i64 b.wth, .int .i64 b.c0, .int .i64 b.c1, .int .i64 b.c2, .slice ka n2 kc, .int .i64 b.rate] 26) = V := ⟨_, rfl⟩
  have hBV : Below W.heap.size W V := by rw [← hV]; exact (Below.refl _ _).alloc (Nat.le_refl _) _
  have hb0 : V.heap[W.heap.size]? = some (Obj.cells #[.slice sa n1 sc, .int .i64 b.wth, .int .i64 b.c0, .int .i64 b.c1, .int .i64 b.c2, .slice ka n2 kc, .int .i64 b.rate] 26) := by rw [← hV]; exact World.alloc_heap_new _ _
  have hVz : W.heap.size < V.heap.size := (Array.getElem?_eq_some_iff.1 hb0).1
  have HGV := Lib.hid (hG.below hG.lt hBV)
  have HVB := Lib.hid (hv.below hv.hn hBV)
  have HN := Lib.hid hv.hn
  have c0 : V.cell? ⟨W.heap.size, 0, none⟩ = some (.slice sa n1 sc) := blk_cell hb0
  have c1 : V.cell? ⟨W.heap.size, 1, none⟩ = some (.int .i64 b.wth) := blk_cell hb0
  have c2 : V.cell? ⟨W.heap.size, 2, none⟩ = some (.int .i64 b.c0) := blk_cell hb0
  have c3 : V.cell? ⟨W.heap.size, 3, none⟩ = some (.int .i64 b.c1) := blk_cell hb0
  have c4 : V.cell? ⟨W.heap.size, 4, none⟩ = some (.int .i64 b.c2) := blk_cell hb0
  have c5 : V.cell? ⟨W.heap.size, 5, none⟩ = some (.slice ka n2 kc) := blk_cell hb0
  have c6 : V.cell? ⟨W.heap.size, 6, none⟩ = some (.int .i64 b.rate) := blk_cell hb0
  have HB0 := Lib.hid hb0
  clear hb0 hv hG
  simp only [Bk.cells]
  by_cases hok : bkOk b = true
  · have HCK := Lib.hid (show checkS b = 0 by simp [checkS, hok])
    have HSO := Lib.hid (sound_of hok)
    have HR := Lib.hid (show wrongS b = (wrongL b, 0) by simp [wrongS, hok])
    have h4 : n2 ≤ 4 := by have h := HVB.out.l2; have h2 := bkOk_head hok; omega
    have HL2 := Lib.hid HVB.out.l2
    clear hok
    go_enter Tryd.func38, Tryd.ntmps38
    go_upto_region 1 with fail
    try rw [hV]
    clear hV
    go_upto_region 6 with (first
      | (go_at_call 17; refine (check_any _ _ b HVB.out.v).mono ?_; rintro e w1 ⟨rfl, hb1⟩; rw [HCK.out]; have hk1 := (bcell hb1).1; have hz1 := Nat.lt_of_lt_of_le hVz hb1.size; have HB1 := Lib.hid hb1; clear hb1)
      | fail)
    obtain ⟨PL, hPL⟩ : ∃ PL, w1.heap.size = PL := ⟨_, rfl⟩
    obtain ⟨X, hX⟩ : ∃ X, w1.alloc (.cells #[.func (.func 87) #[] #[.pointer (some ⟨W.heap.size, 0, none⟩), .pointer (some ⟨w1.heap.size, 0, none⟩)]] 108) = X := ⟨_, rfl⟩
    have hl : X.heap[w1.heap.size]? = some (.cells #[.func (.func 87) #[] #[.pointer (some ⟨W.heap.size, 0, none⟩), .pointer (some ⟨w1.heap.size, 0, none⟩)]] 108) := by rw [← hX]; exact World.alloc_heap_new _ _
    have hBX : Below V.heap.size V X := by rw [← hX]; exact HB1.out.alloc HB1.out.size _
    try rw [hX]
    have hEX : LEnv b n sa ka n1 sc n2 kc W.heap.size w1.heap.size X := ⟨HVB.out.below HVB.out.hn hBX, HGV.out.below HGV.out.lt hBX, (hBX.block _ hVz).trans HB0.out, hl⟩
    rw [hPL] at hEX hl ⊢
    have HEX := Lib.hid hEX
    have HBW := Lib.hid (hBV.trans (hBX.mono hBV.size))
    have x5 : X.cell? ⟨W.heap.size, 5, none⟩ = some (.slice ka n2 kc) := blk_cell hEX.hx
    clear hX hl hBX hEX hk1 hz1 hPL c0 c1 c2 c3 c4 c5 c6 HB1
    go_wp2_with fail
    go_loopg [19] (n2 + 1) (fun n0 i wx => ∃ (q : Nat), q ≤ n2 + 1 ∧ n0 = n2 + 1 - q ∧ i = .int .i64 (q : Int) ∧ wrongFrom b q (n2 + 1 - q) = wrongFrom b 0 (n2 + 1) ∧ Below X.heap.size X wx)
    case atStart => exact ⟨0, by omega, rfl, rfl, rfl, Below.refl _ _⟩
    case round =>
      obtain ⟨q, hq, hgk, rfl, hrest, hbx⟩ := hrel
      have HG2 := Lib.hid hgk
      have HRE := Lib.hid hrest
      have HER := Lib.hid (HEX.out.below hbx)
      have HBX := Lib.hid hbx
      have zl : wr.cell? ⟨PL, 0, none⟩ = some (.func (.func 87) #[] #[.pointer (some ⟨W.heap.size, 0, none⟩), .pointer (some ⟨PL, 0, none⟩)]) := blk_cell HER.out.hl
      clear hgk hrest hbx
      by_cases hlt : q < n2 + 1
      · have hqi : (q : Int) < (n2 : Int) + 1 := by omega
        have HCALL := Lib.hid (leave_any HSO.out h4 q [] wr none 0 0 0 (q : Int) W.heap.size HER.out rfl ⟨none, 0, rfl, Nat.le_refl _, by simp [maxLen, natCells], by simp [natCells], fun h => absurd h (by simp [natCells])⟩ (Nat.zero_le _) (by simp) (by omega) (by simp) (Nat.le_trans HBW.out.size HBX.out.size) (fun g e => by simp [Value.ownBlock] at e))
        rcases hcl : leaveL b q [] with _ | r
        · have HCL := Lib.hid hcl
          clear hcl
          go_wp2_with fail
          refine HCALL.out.mono ?_
          rintro e w2 ⟨ra, rl, rc, rfl, hb2, _⟩
          rw [HCL.out]
          have HB2 := Lib.hid hb2
          clear hb2
          simp only [Option.isSome]
          go_wp2_with fail
          go_roundg (n2 + 1 - (q + 1))
          case measure => rw [HG2.out]; omega
          case rel => exact ⟨q + 1, by omega, rfl, by go_num, by (have h := wrongFrom_step b hlt); rw [HCL.out] at h; rw [← HRE.out]; exact h.symm, HBX.out.trans (HB2.out.mono HBX.out.size)⟩
        · have HCL := Lib.hid hcl
          clear hcl
          go_wp2_with fail
          refine HCALL.out.mono ?_
          rintro e w2 ⟨ra, rl, rc, rfl, hb2, hr⟩
          obtain ⟨hs1, hs2, hs3⟩ := (hr r HCL.out).1.cut
          have HNW := Lib.hid (hr r HCL.out).2
          unfold maxLen at hs3
          rw [HCL.out]
          have HB2 := Lib.hid hb2
          have HS1 := Lib.hid hs1
          clear hb2 hr hs1
          simp only [Option.isSome]
          go_wp2_with fail
          refine bodyPost_ret (results_tmp2 rfl _ _ _) rfl ⟨ra, rl, rl, ?_, HBW.out.trans ((HBX.out.trans (HB2.out.mono HBX.out.size)).mono HBW.out.size), ?_⟩
          · rw [HR.out]; rfl
          · have h := wrongFrom_step b hlt
            rw [HCL.out, HRE.out] at h
            have hw : (wrongS b).1 = r := by rw [HR.out]; show wrongL b = r; rw [wrongL_eq, ← HL2.out, h]; rfl
            rw [hw]
            exact ⟨HS1.out, own_cut HNW.out⟩
      · have hqi : ¬ (q : Int) < (n2 : Int) + 1 := by omega
        go_wp2_with fail
        refine bodyPost_ret (results_tmp2 rfl _ _ _) rfl ⟨none, 0, 0, ?_, HBW.out.trans (HBX.out.mono HBW.out.size), ?_⟩
        · rw [HR.out]; rfl
        · have h := HRE.out
          rw [show n2 + 1 - q = 0 by omega] at h
          have hw : (wrongS b).1 = [] := by rw [HR.out]; show wrongL b = []; rw [wrongL_eq, ← HL2.out, ← h]; cases q <;> rfl
          rw [hw]
          exact ⟨slOf_nil _ _ _, fun g e => by simp [Value.ownBlock] at e⟩
  · have HCK := Lib.hid (show checkS b = 60 by simp [checkS, hok])
    have HR := Lib.hid (show wrongS b = ([], 60) by simp [wrongS, hok])
    clear hok
    go_enter Tryd.func38, Tryd.ntmps38
    go_upto_region 1 with fail
    try rw [hV]
    clear hV
    go_wp2_with (first
      | (go_at_call 17; refine (check_any _ _ b HVB.out.v).mono ?_; rintro e w1 ⟨rfl, hb1⟩; rw [HCK.out]; have HB1 := Lib.hid hb1; clear hb1)
      | fail)
    refine bodyPost_ret (results_tmp2 rfl _ _ _) rfl ⟨none, 0, 0, ?_, hBV.trans (HB1.out.mono hBV.size), ?_⟩
    · rw [HR.out]; rfl
    · rw [HR.out]; exact ⟨slOf_nil _ _ _, fun g e => by simp [Value.ownBlock] at e⟩

theorem wrong_ex (W : World) (b : Bk) (n : Nat) (sa ka : Option Addr) (n1 sc n2 kc : Nat) (hv : BookW W n sa ka n1 sc n2 kc b) (hG : Glob W) :
    Calls Tryd.prog 38 #[.agg (b.cells (.slice sa n1 sc) (.slice ka n2 kc)).toArray] W fun e W' => ∃ (ra : Option Addr) (rl rc : Nat), e = .returned (.tuple #[.slice ra rl rc, .int .i64 (wrongS b).2]) ∧ Below W.heap.size W W' ∧
      SlOf W' W'.heap.size 1 (.slice ra rl rc) (natCells (wrongS b).1) :=
  (wrong_own W b n sa ka n1 sc n2 kc hv hG).mono fun _ _ ⟨ra, rl, rc, h1, h2, h3, _⟩ => ⟨ra, rl, rc, h1, h2, h3⟩
end Go.Proofs.YtbhjfojbjpbdbaaDoor
