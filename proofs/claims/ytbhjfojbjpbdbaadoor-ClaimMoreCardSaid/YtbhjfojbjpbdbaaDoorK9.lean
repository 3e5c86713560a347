/-
  Merged: B10, B11, B12. Written by sessions of this seat.
-/
import Derived.Test.YtbhjfojbjpbdbaaDoorB9
import Derived.Test.YtbhjfojbjpbdbaaDoorK0
import Derived.Deep.Upon
import Derived.Maps.AppendAt

-- B10: append of a slice that came in, of whatever rows, onto a row of the call's own; as one step of a region that draws. Written by a session.
namespace Go.Proofs.YtbhjfojbjpbdbaaDoor
open Go.RowKit

theorem append_rows {P : Program} {w : World} (base : Nat) (t ty e : TypeId) (i : TypeInfo) (z : Value) (size bytes : Nat) (ht : P.underlying t = some (.slice e)) (hi : P.info? e = some i) (hz : i.zero = some z)
    (hsize : i.size = size) (hby : i.bytes = bytes) (hzs : z.cells.size = size) (hsz : 0 < size) {v : Value} {n : Nat} {xs : List Value} (hown : w.ownsRow base e size v n xs) (hbase : base ≤ w.heap.size)
    {k : Nat} {ka : Option Addr} {n2 kc : Nat} {rows : List (List Value)} (hs : SlOf w k size (.slice ka n2 kc) rows) (h1 : ∀ u ∈ rows.flatten, u.oneCell' = true)
    (b1 : n + n2 ≤ maxLen) (b2 : (n + n2) * bytes ≤ 140737488355328) :
    ∃ v' w', (Builtin.append_ #[t, t] ty #[v, .slice ka n2 kc]).run P w = .ok v' w' ∧ w'.ownsRow base e size v' (n + n2) (xs ++ rows.flatten) ∧ w.grownBy w' v.ownBlock ∧ (v'.ownBlock = v.ownBlock ∨ v'.ownBlock = some w.heap.size) := by
  obtain ⟨a', cap', e1, h2, h3, h4, h5⟩ := hs
  injection e1 with ea el ec
  subst ea
  subst el
  cases ka with
  | some ad =>
    obtain ⟨v', w', hrun, r1, r2, _, r4⟩ := run_append_own_at (P := P) (w := w) base t ty e i z size bytes ht hi hz hsize hby hzs hsz v n xs hown ad rows.length kc rows.flatten (flat_len rows h4) (by
      intro j u hj
      obtain ⟨q, r, x, hq, hk, hjj⟩ := flat_at' hsz rows h4 j u hj
      obtain ⟨b, o, e3, _, h6⟩ := h5 (by have := (List.getElem?_eq_some_iff.1 hq).1; omega)
      injection e3 with e4
      subst e4
      rw [Go.WideShapes.add_plain, hjj, ← Nat.add_assoc]
      exact h6 q r x u hq hk) h1 b1 b2 hbase
    exact ⟨v', w', hrun, r1, r2, r4⟩
  | none =>
    have h0 : rows.length = 0 := by
      rcases Nat.eq_zero_or_pos rows.length with h | h
      · exact h
      · obtain ⟨_, _, e3, _⟩ := h5 h; cases e3
    have hrows : rows = [] := List.eq_nil_of_length_eq_zero h0
    subst hrows
    rw [List.flatten_nil, List.append_nil]
    have hsrc : Src P i.size t (.slice none 0 kc) 0 [] w := Src.ofNil (P := P) w (size := i.size) ht kc
    rcases hown.2 with ⟨rfl, _⟩ | ⟨g, cap, cur, rfl, _, _, hc, _⟩
    · exact ⟨_, w, run_append_nothing w t t ty e i ht hi none 0 0 (Nat.le_refl _) _ hsrc, hown, ⟨rfl, rfl, rfl, Nat.le_refl _, fun _ _ _ => rfl⟩, .inl rfl⟩
    · exact ⟨_, w, run_append_nothing w t t ty e i ht hi (some ⟨g, 0, none⟩) n cap hc _ hsrc, hown, ⟨rfl, rfl, rfl, Nat.le_refl _, fun _ _ _ => rfl⟩, .inl rfl⟩

theorem step_append_rows {P : Program} {ops : Array Oper} {o : Oper} {a : Act} {w : World} {K : Act → World → Prop} {Q : Exit → Act → World → Prop} {E : Prop}
    (hg : o.guard = none) (s x : Operand) (t : TypeId) (hop : o.op = Op.call { callee := Callee.builtin Builtin.append, args := #[s, x], argTypes := #[t, t] })
    (base : Nat) (e : TypeId) (i : TypeInfo) (z : Value) (size bytes : Nat) (ht : P.underlying t = some (.slice e)) (hi : P.info? e = some i) (hz : i.zero = some z)
    (hsize : i.size = size) (hby : i.bytes = bytes) (hzs : z.cells.size = size) (hsz : 0 < size) {v : Value} {n : Nat} {xs : List Value} (hown : w.ownsRow base e size v n xs) (hbase : base ≤ w.heap.size)
    {k : Nat} {ka : Option Addr} {n2 kc : Nat} {rows : List (List Value)} (hs : SlOf w k size (.slice ka n2 kc) rows) (h1 : ∀ u ∈ rows.flatten, u.oneCell' = true)
    (b1 : n + n2 ≤ maxLen) (b2 : (n + n2) * bytes ≤ 140737488355328) (hsv : a.eval s = v) (hx : a.eval x = .slice ka n2 kc)
    (hK : ∀ v' w', w'.ownsRow base e size v' (n + n2) (xs ++ rows.flatten) → w.grownBy w' v.ownBlock → K (a.put o.dst v') w') :
    if Region.wanted o (yielded ops a.tmps) = true then Oper.wp P o a w K Q else E := by
  have hw : Region.wanted o (yielded ops a.tmps) = true := by simp [Region.wanted, hg]
  rw [if_pos hw]
  obtain ⟨v', w', hrun, h2, h3, _⟩ := append_rows (P := P) (w := w) base t o.type e i z size bytes ht hi hz hsize hby hzs hsz hown hbase hs h1 b1 b2
  unfold Oper.wp
  simp [execOp, hop, resolve, invoke, builtin, hsv, hx, hrun, Result.andThen]
  exact hK v' w' h2 h3
end Go.Proofs.YtbhjfojbjpbdbaaDoor

-- B11: The contract of the law's with: a book with a clock more. Written by a session.
namespace Go.Proofs.YtbhjfojbjpbdbaaDoor
open Go.RowKit

/-- what is kept while the new row is built (operations 0 to 7 of the region), above the world X. -/
structure WithI (X : World) (PB P5 n2 : Nat) (k : Value) (cells : List Value) (c : List Value) (L : Nat → Bool) (V : Nat → Value) (w : World) : Prop where
  hb : Below X.heap.size X w
  f0 : L 0 = true → ∃ g, V 0 = .slice (some ⟨g, 0, none⟩) 0 0 ∧ g < w.heap.size ∧ (L 3 = false → w.ownsRow X.heap.size 42 3 (V 0) 0 [])
  f1 : L 1 = true → V 1 = .pointer (some ⟨PB, 5, none⟩)
  f2 : L 2 = true → V 2 = k
  f3 : L 3 = true → ∃ a cc, V 3 = .slice a n2 cc ∧ (L 6 = false → w.ownsRow X.heap.size 42 3 (V 3) n2 cells)
  f4 : L 4 = true → V 4 = .agg c.toArray
  f5 : L 5 = true → ∃ g, V 5 = .slice (some ⟨g, 0, none⟩) 1 1 ∧ X.heap.size ≤ g ∧ w.heap[g]? = some (.cells c.toArray 42) ∧ (L 0 = true → (V 0).ownBlock ≠ some g) ∧ (L 3 = true → (V 3).ownBlock ≠ some g)
  f6 : L 6 = true → ∃ g cc, V 6 = .slice (some ⟨g, 0, none⟩) (n2 + 1) cc ∧ w.ownsRow X.heap.size 42 3 (V 6) (n2 + 1) (cells ++ c)
  f7 : L 7 = true → V 7 = .pointer (some ⟨P5, 5, none⟩)

section
variable {X : World} {PB P5 n2 : Nat} {k : Value} {cells c : List Value} {L L' : Nat → Bool} {V V' : Nat → Value} {w w' : World} {v : Value}

theorem grown_alloc (w : World) (o : Obj) : w.grownBy (w.alloc o) none := ⟨rfl, rfl, rfl, by simp, fun k hk _ => heap_alloc_old _ _ hk⟩

theorem with_pure (h : WithI X PB P5 n2 k cells c L V w) (i : Nat) (hi : i ≠ 0 ∧ i ≠ 3 ∧ i ≠ 5 ∧ i ≠ 6) (h1 : L' i = true) (h2 : ∀ j, j ≠ i → L' j = L j) (h3 : V' i = v) (h4 : ∀ j, j ≠ i → V' j = V j)
    (e1 : i = 1 → v = .pointer (some ⟨PB, 5, none⟩)) (e2 : i = 2 → v = k) (e4 : i = 4 → v = .agg c.toArray) (e7 : i = 7 → v = .pointer (some ⟨P5, 5, none⟩)) : WithI X PB P5 n2 k cells c L' V' w := by
  obtain ⟨n0, n3, n5, n6⟩ := hi
  refine ⟨h.hb, ?_, ?_, ?_, ?_, ?_, ?_, ?_, ?_⟩
  · rw [h2 0 n0.symm, h2 3 n3.symm, h4 0 n0.symm]; exact h.f0
  · by_cases e : i = 1
    · subst e; rw [h3]; exact fun _ => e1 rfl
    · rw [h2 1 (Ne.symm e), h4 1 (Ne.symm e)]; exact h.f1
  · by_cases e : i = 2
    · subst e; rw [h3]; exact fun _ => e2 rfl
    · rw [h2 2 (Ne.symm e), h4 2 (Ne.symm e)]; exact h.f2
  · rw [h2 3 n3.symm, h2 6 n6.symm, h4 3 n3.symm]; exact h.f3
  · by_cases e : i = 4
    · subst e; rw [h3]; exact fun _ => e4 rfl
    · rw [h2 4 (Ne.symm e), h4 4 (Ne.symm e)]; exact h.f4
  · rw [h2 5 n5.symm, h2 0 n0.symm, h2 3 n3.symm, h4 5 n5.symm, h4 0 n0.symm, h4 3 n3.symm]; exact h.f5
  · rw [h2 6 n6.symm, h4 6 n6.symm]; exact h.f6
  · by_cases e : i = 7
    · subst e; rw [h3]; exact fun _ => e7 rfl
    · rw [h2 7 (Ne.symm e), h4 7 (Ne.symm e)]; exact h.f7

theorem below_alloc (h : Below X.heap.size X w) (o : Obj) : Below X.heap.size X (w.alloc o) := h.alloc h.size o

/-- the empty slice is made. -/
theorem with_0 (h : WithI X PB P5 n2 k cells c L V w) (l3 : L 3 = false) (l6 : L 6 = false) (h2 : ∀ j, j ≠ 0 → L' j = L j) (h3 : V' 0 = .slice (some ⟨w.heap.size, 0, none⟩) 0 0) (h4 : ∀ j, j ≠ 0 → V' j = V j) :
    WithI X PB P5 n2 k cells c L' V' (w.alloc (.cells #[] 42)) := by
  refine ⟨below_alloc h.hb _, fun _ => ⟨w.heap.size, h3, by simp, fun _ => ?_⟩, ?_, ?_, ?_, ?_, ?_, ?_, ?_⟩
  · rw [h3]
    exact (empty_row w 42 3).mono h.hb.size
  · rw [h2 1 (by decide), h4 1 (by decide)]; exact h.f1
  · rw [h2 2 (by decide), h4 2 (by decide)]; exact h.f2
  · rw [h2 3 (by decide), l3]; intro h0; cases h0
  · rw [h2 4 (by decide), h4 4 (by decide)]; exact h.f4
  · rw [h2 5 (by decide), h2 3 (by decide), h4 5 (by decide), l3]
    intro h5
    obtain ⟨g, e, hg, hc, _, _⟩ := h.f5 h5
    have hlt := (Array.getElem?_eq_some_iff.1 hc).1
    refine ⟨g, e, hg, (heap_alloc_old _ _ hlt).trans hc, fun _ => ?_, fun h0 => by cases h0⟩
    rw [h3]
    simp [Value.ownBlock]
    omega
  · rw [h2 6 (by decide), l6]; intro h0; cases h0
  · rw [h2 7 (by decide), h4 7 (by decide)]; exact h.f7

/-- the slice of the one clock is made. -/
theorem with_5 (h : WithI X PB P5 n2 k cells c L V w) (l6 : L 6 = false) (h2 : ∀ j, j ≠ 5 → L' j = L j) (h3 : V' 5 = .slice (some ⟨w.heap.size, 0, none⟩) 1 1) (h4 : ∀ j, j ≠ 5 → V' j = V j) :
    WithI X PB P5 n2 k cells c L' V' (w.alloc (.cells c.toArray 42)) := by
  refine ⟨below_alloc h.hb _, ?_, ?_, ?_, ?_, ?_, fun _ => ⟨w.heap.size, h3, h.hb.size, World.alloc_heap_new _ _, ?_, ?_⟩, ?_, ?_⟩
  · rw [h2 0 (by decide), h2 3 (by decide), h4 0 (by decide)]
    intro h0
    obtain ⟨g, e, hg, ho⟩ := h.f0 h0
    exact ⟨g, e, by simp; omega, fun h3 => (ho h3).alloc _⟩
  · rw [h2 1 (by decide), h4 1 (by decide)]; exact h.f1
  · rw [h2 2 (by decide), h4 2 (by decide)]; exact h.f2
  · rw [h2 3 (by decide), h2 6 (by decide), h4 3 (by decide)]
    intro h0
    obtain ⟨a, cc, e, ho⟩ := h.f3 h0
    exact ⟨a, cc, e, fun h6 => (ho h6).alloc _⟩
  · rw [h2 4 (by decide), h4 4 (by decide)]; exact h.f4
  · rw [h2 0 (by decide), h4 0 (by decide)]
    intro h0 e
    obtain ⟨g, e1, hg, _⟩ := h.f0 h0
    rw [e1] at e
    simp [Value.ownBlock] at e
    omega
  · rw [h2 3 (by decide), h4 3 (by decide)]
    intro h0 e
    obtain ⟨a, cc, e1, ho⟩ := h.f3 h0
    have := ((ho l6).lt _ e).2
    omega
  · rw [h2 6 (by decide), l6]; intro h0; cases h0
  · rw [h2 7 (by decide), h4 7 (by decide)]; exact h.f7

theorem with_grown (hb : Below X.heap.size X w) {n : Nat} {xs : List Value} (ho : w.ownsRow X.heap.size 42 3 v n xs) (hg : w.grownBy w' v.ownBlock) : Below X.heap.size X w' :=
  grown_base hb hg hb.size (own_ge ho)

/-- the book's clocks are appended. -/
theorem with_3 (h : WithI X PB P5 n2 k cells c L V w) (l6 : L 6 = false) {n : Nat} {xs : List Value} (ho : w.ownsRow X.heap.size 42 3 (V 0) n xs) (hgr : w.grownBy w' (V 0).ownBlock) (hown : w'.ownsRow X.heap.size 42 3 v n2 cells)
    (hbl : v.ownBlock = (V 0).ownBlock ∨ v.ownBlock = some w.heap.size) (l0 : L 0 = true)
    (h1 : L' 3 = true) (h2 : ∀ j, j ≠ 3 → L' j = L j) (h3 : V' 3 = v) (h4 : ∀ j, j ≠ 3 → V' j = V j) : WithI X PB P5 n2 k cells c L' V' w' := by
  refine ⟨with_grown h.hb ho hgr, ?_, ?_, ?_, fun _ => ?_, ?_, ?_, ?_, ?_⟩
  · rw [h2 0 (by decide), h1, h4 0 (by decide)]
    intro h0
    obtain ⟨g, e, hg, _⟩ := h.f0 h0
    exact ⟨g, e, Nat.lt_of_lt_of_le hg hgr.size, fun h0 => by cases h0⟩
  · rw [h2 1 (by decide), h4 1 (by decide)]; exact h.f1
  · rw [h2 2 (by decide), h4 2 (by decide)]; exact h.f2
  · rw [h3]
    have hv : ∃ a cc, v = .slice a n2 cc := by
      rcases hown.2 with ⟨rfl, rfl⟩ | ⟨g, cap, cur, rfl, _⟩
      · exact ⟨_, _, rfl⟩
      · exact ⟨_, _, rfl⟩
    obtain ⟨a, cc, e⟩ := hv
    exact ⟨a, cc, e, fun _ => hown⟩
  · rw [h2 4 (by decide), h4 4 (by decide)]; exact h.f4
  · rw [h2 5 (by decide), h2 0 (by decide), h4 5 (by decide), h4 0 (by decide)]
    intro h5
    obtain ⟨g, e, hg, hc, n0, _⟩ := h.f5 h5
    have hlt := (Array.getElem?_eq_some_iff.1 hc).1
    refine ⟨g, e, hg, (hgr.block g hlt (fun e1 => n0 l0 e1.symm)).trans hc, n0, fun _ => ?_⟩
    rw [h3]
    rcases hbl with hb | hb
    · rw [hb]; exact n0 l0
    · rw [hb]; simp; omega
  · rw [h2 6 (by decide), l6]; intro h0; cases h0
  · rw [h2 7 (by decide), h4 7 (by decide)]; exact h.f7

/-- the one clock is appended. -/
theorem with_6 (h : WithI X PB P5 n2 k cells c L V w) (l3 : L 3 = true) {n : Nat} {xs : List Value} (ho : w.ownsRow X.heap.size 42 3 (V 3) n xs) (hgr : w.grownBy w' (V 3).ownBlock) (hown : w'.ownsRow X.heap.size 42 3 v (n2 + 1) (cells ++ c))
    (h1 : L' 6 = true) (h2 : ∀ j, j ≠ 6 → L' j = L j) (h3 : V' 6 = v) (h4 : ∀ j, j ≠ 6 → V' j = V j) : WithI X PB P5 n2 k cells c L' V' w' := by
  refine ⟨with_grown h.hb ho hgr, ?_, ?_, ?_, ?_, ?_, ?_, fun _ => ?_, ?_⟩
  · rw [h2 0 (by decide), h2 3 (by decide), l3, h4 0 (by decide)]
    intro h0
    obtain ⟨g, e, hg, _⟩ := h.f0 h0
    exact ⟨g, e, Nat.lt_of_lt_of_le hg hgr.size, fun h0 => by cases h0⟩
  · rw [h2 1 (by decide), h4 1 (by decide)]; exact h.f1
  · rw [h2 2 (by decide), h4 2 (by decide)]; exact h.f2
  · rw [h2 3 (by decide), h4 3 (by decide), h1]
    intro h0
    obtain ⟨a, cc, e, _⟩ := h.f3 h0
    exact ⟨a, cc, e, fun h0 => by cases h0⟩
  · rw [h2 4 (by decide), h4 4 (by decide)]; exact h.f4
  · rw [h2 5 (by decide), h2 0 (by decide), h2 3 (by decide), h4 5 (by decide), h4 0 (by decide), h4 3 (by decide)]
    intro h5
    obtain ⟨g, e, hg, hc, n0, n3⟩ := h.f5 h5
    exact ⟨g, e, hg, (hgr.block g (Array.getElem?_eq_some_iff.1 hc).1 (fun e1 => n3 l3 e1.symm)).trans hc, n0, n3⟩
  · rw [h3]
    rcases hown.2 with ⟨_, h0⟩ | ⟨g, cap, cur, rfl, _⟩
    · omega
    · exact ⟨g, cap, rfl, hown⟩
  · rw [h2 7 (by decide), h4 7 (by decide)]; exact h.f7
end
end Go.Proofs.YtbhjfojbjpbdbaaDoor

-- B12: The contract of the law's with, walked: a book with a clock more. Written by a session; printed by wip/tools/b12.py.
namespace Go.Proofs.YtbhjfojbjpbdbaaDoor
open Go.RowKit

theorem below3 (W : World) (o1 o2 o3 : Obj) : Below W.heap.size W (((W.alloc o1).alloc o2).alloc o3) := (((Below.refl _ _).alloc (Nat.le_refl _) _).alloc (by simp) _).alloc (by simp; omega) _
theorem heap3_0 (W : World) (o1 o2 o3 : Obj) : (((W.alloc o1).alloc o2).alloc o3).heap[W.heap.size]? = some o1 :=
  (heap_alloc_old _ _ (by simp; omega)).trans ((heap_alloc_old _ _ (by simp)).trans (World.alloc_heap_new _ _))
theorem heap3_1 (W : World) (o1 o2 o3 : Obj) : (((W.alloc o1).alloc o2).alloc o3).heap[W.heap.size + 1]? = some o2 := by
  refine (heap_alloc_old _ _ (by simp)).trans ?_
  have := World.alloc_heap_new (W.alloc o1) o2
  rwa [World.size_alloc] at this
theorem heap3_2 (W : World) (o1 o2 o3 : Obj) : (((W.alloc o1).alloc o2).alloc o3).heap[W.heap.size + 1 + 1]? = some o3 := by
  have := World.alloc_heap_new ((W.alloc o1).alloc o2) o3
  rwa [World.size_alloc, World.size_alloc] at this

set_option maxRecDepth 100000 in
set_option maxHeartbeats 8000000 in
theorem with_own (W : World) (b : Bk) (n : Nat) (sa ka : Option Addr) (n1 sc n2 kc : Nat) (hv : BookW W n sa ka n1 sc n2 kc b) (h4 : n2 ≤ 4) (c : Ck) :
    Calls Tryd.prog 51 #[.agg (b.cells (.slice sa n1 sc) (.slice ka n2 kc)).toArray, .agg c.cells.toArray] W fun e W' => ∃ (g m cc : Nat), e = .returned (.agg ((b.with c).cells (.slice sa n1 sc) (.slice (some ⟨g, 0, none⟩) m cc)).toArray) ∧ Below W.heap.size W W' ∧ BookW W' W'.heap.size sa (some ⟨g, 0, none⟩) n1 sc m cc (b.with c) ∧ W.heap.size ≤ g := by
  obtain ⟨V, hV⟩ : ∃ V, ((W.alloc (Obj.cells #[.slice sa n1 sc, .int .i64 b.wth, .int .i64 b.c0, .int .i64 b.c1, .int .i64 b.c2, .slice ka n2 kc, .int .i64 b.rate] 26)).alloc (.cells #[.int .i64 c.st, .int .i64 c.rd, .int .i64 c.er] 42)).alloc (.cells #[.slice none 0 0, .int .i64 0, .int .i64 0, .int .i64 0, .int .i64 0, .slice none 0 0, .int .i64 0] 26) = V := ⟨_, rfl⟩
  have hBV : Below W.heap.size W V := by rw [← hV]; exact below3 _ _ _ _
  have hb0 : V.heap[W.heap.size]? = some (Obj.cells #[.slice sa n1 sc, .int .i64 b.wth, .int .i64 b.c0, .int .i64 b.c1, .int .i64 b.c2, .slice ka n2 kc, .int .i64 b.rate] 26) := by rw [← hV]; exact heap3_0 _ _ _ _
  have hc0 : V.heap[W.heap.size + 1]? = some (.cells #[.int .i64 c.st, .int .i64 c.rd, .int .i64 c.er] 42) := by rw [← hV]; exact heap3_1 _ _ _ _
  have hi0 : V.heap[W.heap.size + 1 + 1]? = some (.cells #[.slice none 0 0, .int .i64 0, .int .i64 0, .int .i64 0, .int .i64 0, .slice none 0 0, .int .i64 0] 26) := by rw [← hV]; exact heap3_2 _ _ _ _
  have hVz : W.heap.size < V.heap.size := (Array.getElem?_eq_some_iff.1 hb0).1
  have hVy : W.heap.size + 1 < V.heap.size := (Array.getElem?_eq_some_iff.1 hc0).1
  have hVx : W.heap.size + 1 + 1 < V.heap.size := (Array.getElem?_eq_some_iff.1 hi0).1
  have HVB := Lib.hid (hv.below hv.hn hBV)
  have HN := Lib.hid hv.hn
  have HI0 := Lib.hid hi0
  have HB0 := Lib.hid hb0
  have HC0 := Lib.hid hc0
  have BZ := Lib.hid (show ∀ w, Below V.heap.size V w → BookW w n sa ka n1 sc n2 kc b from fun w h => HVB.out.below HVB.out.hn h)
  have c0 : V.cell? ⟨W.heap.size, 0, none⟩ = some (.slice sa n1 sc) := blk_cell hb0
  have c1 : V.cell? ⟨W.heap.size, 1, none⟩ = some (.int .i64 b.wth) := blk_cell hb0
  have c2 : V.cell? ⟨W.heap.size, 2, none⟩ = some (.int .i64 b.c0) := blk_cell hb0
  have c3 : V.cell? ⟨W.heap.size, 3, none⟩ = some (.int .i64 b.c1) := blk_cell hb0
  have c4 : V.cell? ⟨W.heap.size, 4, none⟩ = some (.int .i64 b.c2) := blk_cell hb0
  have c5 : V.cell? ⟨W.heap.size, 5, none⟩ = some (.slice ka n2 kc) := blk_cell hb0
  have c6 : V.cell? ⟨W.heap.size, 6, none⟩ = some (.int .i64 b.rate) := blk_cell hb0
  obtain ⟨i42, i42a, i42b, i42c, i42d⟩ := info_parts info42
  have HL1 := Lib.hid hv.l1
  have HL2 := Lib.hid hv.l2
  clear hb0 hc0 hi0 hv
  simp only [Bk.cells, Ck.cells]
  go_enter Tryd.func51, Tryd.ntmps51
  go_upto_region 1 with fail
  try rw [hV]
  clear hV
  go_upto_region 2 with fail
  obtain ⟨X, hX⟩ : ∃ X, V.alloc (Obj.cells #[.slice sa n1 sc, .int .i64 b.wth, .int .i64 b.c0, .int .i64 b.c1, .int .i64 b.c2, .slice ka n2 kc, .int .i64 b.rate] 26) = X := ⟨_, rfl⟩
  have hqx : X.heap[V.heap.size]? = some (Obj.cells #[.slice sa n1 sc, .int .i64 b.wth, .int .i64 b.c0, .int .i64 b.c1, .int .i64 b.c2, .slice ka n2 kc, .int .i64 b.rate] 26) := by rw [← hX]; exact World.alloc_heap_new _ _
  have hbx : Below V.heap.size V X := by rw [← hX]; exact (Below.refl _ _).alloc (Nat.le_refl _) _
  have hsx : X.heap.size = V.heap.size + 1 := by rw [← hX]; simp
  rw [hX]
  obtain ⟨P5, hP5⟩ : ∃ P, V.heap.size = P := ⟨_, rfl⟩
  rw [hP5] at hqx hsx ⊢
  have lpx : P5 < X.heap.size := by omega
  have hVP : V.heap.size ≤ P5 := by rw [← hP5]; exact Nat.le_refl _
  have hWX : W.heap.size < X.heap.size := by omega
  have hWX1 : W.heap.size + 1 < X.heap.size := by omega
  have hnP : n < X.heap.size := by have := HN.out; omega
  have hWP : W.heap.size + 1 + 1 < P5 := by omega
  have x5 : X.cell? ⟨W.heap.size, 5, none⟩ = some (.slice ka n2 kc) := (hbx.cell (p := ⟨W.heap.size, 5, none⟩) hVz).trans c5
  have hcx := (hbx.block _ hVy).trans HC0.out
  have hix := (hbx.block _ hVx).trans HI0.out
  have hbk := BZ.out _ hbx
  have hsl : ∀ w, Below X.heap.size X w → SlOf w n 3 (.slice ka n2 kc) (ckCells b.cks) := fun w h => hbk.hk.below (by omega) h
  have hss : ∀ w, Below P5 X w → SlOf w n 7 (.slice sa n1 sc) (stCells b.sts) := fun w h => hbk.hs.below (by have := HN.out; omega) h
  have HSL := Lib.hid hsl
  have HSS := Lib.hid hss
  have HCX := Lib.hid hcx
  have HIX := Lib.hid hix
  have HQX := Lib.hid hqx
  have HBX := Lib.hid hbx
  have HX5 := Lib.hid x5
  have HLEN := Lib.hid (show b.cks.length = n2 from HL2.out.symm)
  have HONE := Lib.hid (show ∀ u ∈ (ckCells b.cks).flatten, u.oneCell' = true from fun u hu => by
    obtain ⟨row, hrow, hu2⟩ := List.mem_flatten.1 hu
    obtain ⟨x, _, rfl⟩ := List.mem_map.1 hrow
    simp [Ck.cells] at hu2
    rcases hu2 with rfl | rfl | rfl <;> rfl)
  clear hqx hX hbx hP5 hsx c0 c1 c2 c3 c4 c5 c6 hsl hss hcx hix hbk x5
  refine wp_region_inv (S := fun L V w => if L 8 = true then ∃ g cc w0, Below X.heap.size X w0 ∧ w0.ownsRow X.heap.size 42 3 (.slice (some ⟨g, 0, none⟩) (n2 + 1) cc) (n2 + 1) ((ckCells b.cks).flatten ++ c.cells) ∧ w = w0.setCell ⟨P5, 5, none⟩ (.slice (some ⟨g, 0, none⟩) (n2 + 1) cc)
      else WithI X W.heap.size P5 n2 (.slice ka n2 kc) (ckCells b.cks).flatten c.cells L V w) (by kernel_rfl) (by kernel_rfl) ?h0 ?_
  case h0 =>
    intro V
    rw [if_neg (by simp)]
    exact ⟨(Below.refl _ _).drew, by simp, by simp, by simp, by simp, by simp, by simp, by simp, by simp⟩
  apply detx_cons
  · refine ⟨fun _ => by rfl, fun L V w hN hS => ?_⟩
    have h8 : L 8 = false := (hN.chain (hN.chain (hN.chain hN.free (k := 3) (by kernel_rfl)) (k := 6) (by kernel_rfl)) (k := 8) (by kernel_rfl))
    rw [if_neg (by simp [h8])] at hS
    have H8 := Lib.hid h8
    have HS := Lib.hid hS
    have h3 : L 3 = false := (hN.chain hN.free (k := 3) (by kernel_rfl))
    have h6 : L 6 = false := (hN.chain (hN.chain hN.free (k := 3) (by kernel_rfl)) (k := 6) (by kernel_rfl))
    have H3 := Lib.hid h3
    have H6 := Lib.hid h6
    clear hS h8 h3 h6
    go_simp
    intro L' V' g1 g2 g3 g4
    rw [if_neg (by rw [g2 8 (by decide), H8.out]; simp)]; exact with_0 HS.out H3.out H6.out g2 g3 g4
  try simp only [Act.put, List.setIfInBounds_toArray, List.set_cons_zero, List.set_cons_succ]
  apply detx_cons
  · refine ⟨fun _ => by rfl, fun L V w hN hS => ?_⟩
    have h8 : L 8 = false := (hN.chain (hN.chain (hN.chain (hN.chain hN.free (k := 2) (by kernel_rfl)) (k := 3) (by kernel_rfl)) (k := 6) (by kernel_rfl)) (k := 8) (by kernel_rfl))
    rw [if_neg (by simp [h8])] at hS
    have H8 := Lib.hid h8
    have HS := Lib.hid hS
    clear hS h8
    go_simp
    intro L' V' g1 g2 g3 g4
    rw [if_neg (by rw [g2 8 (by decide), H8.out]; simp)]; exact with_pure HS.out 1 (by decide) g1 g2 g3 g4 (fun _ => rfl) (fun h => absurd h (by decide)) (fun h => absurd h (by decide)) (fun h => absurd h (by decide))
  try simp only [Act.put, List.setIfInBounds_toArray, List.set_cons_zero, List.set_cons_succ]
  apply detx_cons
  · refine ⟨fun _ => by rfl, fun L V w hN hS => ?_⟩
    have h8 : L 8 = false := (hN.chain (hN.chain (hN.chain hN.free (k := 3) (by kernel_rfl)) (k := 6) (by kernel_rfl)) (k := 8) (by kernel_rfl))
    rw [if_neg (by simp [h8])] at hS
    have H8 := Lib.hid h8
    have HS := Lib.hid hS
    have hf1 := hS.f1 (hN.was (j := 1) (by kernel_rfl))
    have hq : w.cell? ⟨W.heap.size, 5, none⟩ = some (.slice ka n2 kc) := (hS.hb.cell (p := ⟨W.heap.size, 5, none⟩) hWX).trans HX5.out
    clear hS h8
    go_simp
    intro L' V' g1 g2 g3 g4
    rw [if_neg (by rw [g2 8 (by decide), H8.out]; simp)]; exact with_pure HS.out 2 (by decide) g1 g2 g3 g4 (fun h => absurd h (by decide)) (fun _ => rfl) (fun h => absurd h (by decide)) (fun h => absurd h (by decide))
  try simp only [Act.put, List.setIfInBounds_toArray, List.set_cons_zero, List.set_cons_succ]
  apply detx_cons
  · refine ⟨fun _ => by rfl, fun L V w hN hS => ?_⟩
    have h8 : L 8 = false := (hN.chain (hN.chain hN.free (k := 6) (by kernel_rfl)) (k := 8) (by kernel_rfl))
    rw [if_neg (by simp [h8])] at hS
    have H8 := Lib.hid h8
    have HS := Lib.hid hS
    have l0 : L 0 = true := (hN.was (j := 0) (by kernel_rfl))
    have h3 : L 3 = false := hN.free
    have h6 : L 6 = false := (hN.chain hN.free (k := 6) (by kernel_rfl))
    obtain ⟨g0, hv0, _, ho⟩ := hS.f0 l0
    have hf2 := hS.f2 (hN.was (j := 2) (by kernel_rfl))
    replace ho := ho h3
    obtain ⟨v', w', hrun, hown, hgr, hbl⟩ := append_rows (P := Tryd.prog) (w := w) X.heap.size 24 24 42 i42 _ 3 24 Tryd.underlying24 i42a i42b i42c i42d rfl (by decide) ho hS.hb.size (HSL.out w hS.hb) HONE.out (by unfold maxLen; omega) (by omega)
    rw [Nat.zero_add, List.nil_append] at hown
    show ResX Tryd.prog _ _
    rw [← hf2] at hrun
    simp [execOp, resolve, invoke, builtin, Act.eval, hrun]
    intro L' V' g1 g2 g3 g4
    rw [if_neg (by rw [g2 8 (by decide), H8.out]; simp)]; exact with_3 HS.out h6 ho hgr hown hbl l0 g1 g2 g3 g4
  try simp only [Act.put, List.setIfInBounds_toArray, List.set_cons_zero, List.set_cons_succ]
  apply detx_cons
  · refine ⟨fun _ => by rfl, fun L V w hN hS => ?_⟩
    have h8 : L 8 = false := (hN.chain (hN.chain (hN.chain hN.free (k := 5) (by kernel_rfl)) (k := 6) (by kernel_rfl)) (k := 8) (by kernel_rfl))
    rw [if_neg (by simp [h8])] at hS
    have H8 := Lib.hid h8
    have HS := Lib.hid hS
    have hq := (hS.hb.block _ hWX1).trans HCX.out
    have q0 : w.cell? ⟨W.heap.size + 1, 0, none⟩ = some (.int .i64 c.st) := blk_cell hq
    have q1 : w.cell? ⟨W.heap.size + 1, 1, none⟩ = some (.int .i64 c.rd) := blk_cell hq
    have q2 : w.cell? ⟨W.heap.size + 1, 2, none⟩ = some (.int .i64 c.er) := blk_cell hq
    clear hS h8 hq
    go_simp
    intro L' V' g1 g2 g3 g4
    rw [if_neg (by rw [g2 8 (by decide), H8.out]; simp)]; exact with_pure HS.out 4 (by decide) g1 g2 g3 g4 (fun h => absurd h (by decide)) (fun h => absurd h (by decide)) (fun _ => rfl) (fun h => absurd h (by decide))
  try simp only [Act.put, List.setIfInBounds_toArray, List.set_cons_zero, List.set_cons_succ]
  apply detx_cons
  · refine ⟨fun _ => by rfl, fun L V w hN hS => ?_⟩
    have h8 : L 8 = false := (hN.chain (hN.chain hN.free (k := 6) (by kernel_rfl)) (k := 8) (by kernel_rfl))
    rw [if_neg (by simp [h8])] at hS
    have H8 := Lib.hid h8
    have HS := Lib.hid hS
    have hf4 := hS.f4 (hN.was (j := 4) (by kernel_rfl))
    have h6 : L 6 = false := (hN.chain hN.free (k := 6) (by kernel_rfl))
    have H6 := Lib.hid h6
    simp only [Ck.cells] at hf4
    clear hS h8 h6
    go_simp
    intro L' V' g1 g2 g3 g4
    rw [if_neg (by rw [g2 8 (by decide), H8.out]; simp)]; exact with_5 HS.out H6.out g2 g3 g4
  try simp only [Act.put, List.setIfInBounds_toArray, List.set_cons_zero, List.set_cons_succ]
  apply detx_cons
  · refine ⟨fun _ => by rfl, fun L V w hN hS => ?_⟩
    have h8 : L 8 = false := (hN.chain hN.free (k := 8) (by kernel_rfl))
    rw [if_neg (by simp [h8])] at hS
    have H8 := Lib.hid h8
    have HS := Lib.hid hS
    have l3 : L 3 = true := (hN.was (j := 3) (by kernel_rfl))
    have l5 : L 5 = true := (hN.was (j := 5) (by kernel_rfl))
    have h6 : L 6 = false := hN.free
    obtain ⟨a3, c3, hv3, ho⟩ := hS.f3 l3
    obtain ⟨g5, hv5, _, hc5, _, n3⟩ := hS.f5 l5
    replace ho := ho h6
    obtain ⟨v', w', hrun, hown, hgr, _⟩ := run_append_own (P := Tryd.prog) w X.heap.size 24 24 42 i42 _ 3 24 Tryd.underlying24 i42a i42b i42c i42d rfl (by decide) (V 3) n2 _ ho ⟨g5, 0, none⟩ 1 1 c.cells rfl
      (fun j u hj => by rw [Go.WideShapes.add_plain, Nat.zero_add, blk_cell hc5]; simpa using hj) (by simp [Ck.cells, Value.oneCell']) (by unfold maxLen; omega) (by omega) hS.hb.size
    show ResX Tryd.prog _ _
    rw [← hv5] at hrun
    simp [execOp, resolve, invoke, builtin, Act.eval, hrun]
    intro L' V' g1 g2 g3 g4
    rw [if_neg (by rw [g2 8 (by decide), H8.out]; simp)]; exact with_6 HS.out l3 ho hgr hown g1 g2 g3 g4
  try simp only [Act.put, List.setIfInBounds_toArray, List.set_cons_zero, List.set_cons_succ]
  apply detx_cons
  · refine ⟨fun _ => by rfl, fun L V w hN hS => ?_⟩
    have h8 : L 8 = false := (hN.chain hN.free (k := 8) (by kernel_rfl))
    rw [if_neg (by simp [h8])] at hS
    have H8 := Lib.hid h8
    have HS := Lib.hid hS
    clear hS h8
    go_simp
    intro L' V' g1 g2 g3 g4
    rw [if_neg (by rw [g2 8 (by decide), H8.out]; simp)]; exact with_pure HS.out 7 (by decide) g1 g2 g3 g4 (fun h => absurd h (by decide)) (fun h => absurd h (by decide)) (fun h => absurd h (by decide)) (fun _ => rfl)
  try simp only [Act.put, List.setIfInBounds_toArray, List.set_cons_zero, List.set_cons_succ]
  apply detx_cons
  · refine ⟨fun _ => by rfl, fun L V w hN hS => ?_⟩
    have h8 : L 8 = false := hN.free
    rw [if_neg (by simp [h8])] at hS
    have hf7 := hS.f7 (hN.was (j := 7) (by kernel_rfl))
    obtain ⟨g, cc, hf6, ho⟩ := hS.f6 (hN.was (j := 6) (by kernel_rfl))
    rw [hf6] at ho
    have hq := (hS.hb.block P5 lpx).trans HQX.out
    have q5 : w.cell? ⟨P5, 5, none⟩ = some (.slice ka n2 kc) := blk_cell hq
    have q5f : w.frozen? ⟨P5, 5, none⟩ = false := blk_frozen hq 5
    have HS := Lib.hid hS.hb
    have HO := Lib.hid ho
    clear hS h8 hq ho
    go_simp
    intro L' V' g1 g2 g3 g4
    rw [if_pos g1]
    exact ⟨g, cc, w, HS.out, HO.out, rfl⟩
  try simp only [Act.put]
  refine detx_nil ?_
  intro L V9 w9 hall hS
  rw [if_pos (hall 8 (by decide))] at hS
  obtain ⟨g, cc, w0, hb0, ho, rfl⟩ := hS
  have hq := (hb0.block P5 lpx).trans HQX.out
  have hq5 := blk_set (j := 5) (v := .slice (some ⟨g, 0, none⟩) (n2 + 1) cc) hq
  have ho5 := Go.RowKit.ownsRow_setCell_below ho (a := ⟨P5, 5, none⟩) lpx (.slice (some ⟨g, 0, none⟩) (n2 + 1) cc)
  have hb5 : Below P5 X (w0.setCell ⟨P5, 5, none⟩ (.slice (some ⟨g, 0, none⟩) (n2 + 1) cc)) := (hb0.mono (by omega)).setCell (show P5 ≤ P5 from Nat.le_refl _) _
  have hgx : X.heap.size ≤ g := own_ge ho g rfl
  obtain ⟨X5, hX5⟩ : ∃ X5, w0.setCell ⟨P5, 5, none⟩ (.slice (some ⟨g, 0, none⟩) (n2 + 1) cc) = X5 := ⟨_, rfl⟩
  rw [hX5] at hq5 ho5 hb5 ⊢
  have hi5 := (hb5.block _ hWP).trans HIX.out
  have p50 : X5.cell? ⟨P5, 0, none⟩ = some (.slice sa n1 sc) := blk_cell hq5
  have p51 : X5.cell? ⟨P5, 1, none⟩ = some (.int .i64 b.wth) := blk_cell hq5
  have p52 : X5.cell? ⟨P5, 2, none⟩ = some (.int .i64 b.c0) := blk_cell hq5
  have p53 : X5.cell? ⟨P5, 3, none⟩ = some (.int .i64 b.c1) := blk_cell hq5
  have p54 : X5.cell? ⟨P5, 4, none⟩ = some (.int .i64 b.c2) := blk_cell hq5
  have p55 : X5.cell? ⟨P5, 5, none⟩ = some (.slice (some ⟨g, 0, none⟩) (n2 + 1) cc) := blk_cell hq5
  have p56 : X5.cell? ⟨P5, 6, none⟩ = some (.int .i64 b.rate) := blk_cell hq5
  have z0 : X5.cell? ⟨W.heap.size + 1 + 1, 0, none⟩ = some (.slice none 0 0) := blk_cell hi5
  have z1 : X5.cell? ⟨W.heap.size + 1 + 1, 1, none⟩ = some (.int .i64 0) := blk_cell hi5
  have z2 : X5.cell? ⟨W.heap.size + 1 + 1, 2, none⟩ = some (.int .i64 0) := blk_cell hi5
  have z3 : X5.cell? ⟨W.heap.size + 1 + 1, 3, none⟩ = some (.int .i64 0) := blk_cell hi5
  have z4 : X5.cell? ⟨W.heap.size + 1 + 1, 4, none⟩ = some (.int .i64 0) := blk_cell hi5
  have z5 : X5.cell? ⟨W.heap.size + 1 + 1, 5, none⟩ = some (.slice none 0 0) := blk_cell hi5
  have z6 : X5.cell? ⟨W.heap.size + 1 + 1, 6, none⟩ = some (.int .i64 0) := blk_cell hi5
  have zf0 := blk_frozen hi5 0
  have zf1 := blk_frozen hi5 1
  have zf2 := blk_frozen hi5 2
  have zf3 := blk_frozen hi5 3
  have zf4 := blk_frozen hi5 4
  have zf5 := blk_frozen hi5 5
  have zf6 := blk_frozen hi5 6
  have hrw : (ckCells (b.with c).cks).flatten = (ckCells b.cks).flatten ++ c.cells := by simp [Bk.with, ckCells]
  have hlw : (ckCells (b.with c).cks).length = n2 + 1 := by simp [Bk.with, ckCells]; exact HLEN.out
  have hsl5 : SlOf X5 X5.heap.size 3 (.slice (some ⟨g, 0, none⟩) (n2 + 1) cc) (ckCells (b.with c).cks) :=
    SlOf.own (by rw [hlw, hrw]; exact ho5) (fun r hr => by obtain ⟨z, _, rfl⟩ := List.mem_map.1 hr; rfl)
  have HI := Lib.hid hi5
  have HSL5 := Lib.hid hsl5
  have HBW := Lib.hid (hBV.trans ((HBX.out.mono hBV.size).trans (hb5.mono (by omega))))
  have HSS5 := Lib.hid (HSS.out _ hb5)
  have hWX5 : W.heap.size ≤ X5.heap.size := HBW.out.size
  clear hq hq5 ho5 ho hX5 hb0 hall hi5 hrw hlw hsl5 hb5
  go_wp2_with fail
  obtain ⟨j1, j2, j3⟩ := stored7 HI.out (.slice sa n1 sc) (.int .i64 b.wth) (.int .i64 b.c0) (.int .i64 b.c1) (.int .i64 b.c2) (.slice (some ⟨g, 0, none⟩) (n2 + 1) cc) (.int .i64 b.rate) (Below.refl (W.heap.size + 1 + 1) X5) (Nat.le_refl (W.heap.size + 1 + 1))
  have jo := fun k hk => set7_other (W := X5) (B := W.heap.size + 1 + 1) (.slice sa n1 sc) (.int .i64 b.wth) (.int .i64 b.c0) (.int .i64 b.c1) (.int .i64 b.c2) (.slice (some ⟨g, 0, none⟩) (n2 + 1) cc) (.int .i64 b.rate) k hk
  generalize (((((((X5.setCell ⟨W.heap.size + 1 + 1, 0, none⟩ (.slice sa n1 sc)).setCell ⟨W.heap.size + 1 + 1, 1, none⟩ (.int .i64 b.wth)).setCell ⟨W.heap.size + 1 + 1, 2, none⟩ (.int .i64 b.c0)).setCell ⟨W.heap.size + 1 + 1, 3, none⟩ (.int .i64 b.c1)).setCell ⟨W.heap.size + 1 + 1, 4, none⟩ (.int .i64 b.c2)).setCell ⟨W.heap.size + 1 + 1, 5, none⟩ (.slice (some ⟨g, 0, none⟩) (n2 + 1) cc)).setCell ⟨W.heap.size + 1 + 1, 6, none⟩ (.int .i64 b.rate)) = Z at j1 j2 j3 jo ⊢
  have k0 : Z.cell? ⟨W.heap.size + 1 + 1, 0, none⟩ = some (.slice sa n1 sc) := blk_cell j1
  have k1 : Z.cell? ⟨W.heap.size + 1 + 1, 1, none⟩ = some (.int .i64 b.wth) := blk_cell j1
  have k2 : Z.cell? ⟨W.heap.size + 1 + 1, 2, none⟩ = some (.int .i64 b.c0) := blk_cell j1
  have k3 : Z.cell? ⟨W.heap.size + 1 + 1, 3, none⟩ = some (.int .i64 b.c1) := blk_cell j1
  have k4 : Z.cell? ⟨W.heap.size + 1 + 1, 4, none⟩ = some (.int .i64 b.c2) := blk_cell j1
  have k5 : Z.cell? ⟨W.heap.size + 1 + 1, 5, none⟩ = some (.slice (some ⟨g, 0, none⟩) (n2 + 1) cc) := blk_cell j1
  have k6 : Z.cell? ⟨W.heap.size + 1 + 1, 6, none⟩ = some (.int .i64 b.rate) := blk_cell j1
  have hn0 := HN.out
  have hbZ : Below W.heap.size W Z := HBW.out.trans (j2.mono (by omega))
  have hbkZ : BookW Z Z.heap.size sa (some ⟨g, 0, none⟩) n1 sc (n2 + 1) cc (b.with c) :=
    ⟨Nat.le_refl _, ((HSS5.out.below (B := W.heap.size + 1 + 1) (by omega) j2).mono (Nat.le_trans hn0 hbZ.size)), by rw [j3]; exact HSL5.out.other jo (fun g' o len cap e => by injection e with e1 _ _; injection e1 with e1; injection e1 with e1; omega), HL1.out, by simp [Bk.with]; exact HLEN.out.symm⟩
  exact bodyPost_ret (v := .agg #[.slice sa n1 sc, .int .i64 b.wth, .int .i64 b.c0, .int .i64 b.c1, .int .i64 b.c2, .slice (some ⟨g, 0, none⟩) (n2 + 1) cc, .int .i64 b.rate]) (by simp [results, Tryd.results51, go_sem, k0, k1, k2, k3, k4, k5, k6]) rfl ⟨g, n2 + 1, cc, rfl, hbZ, hbkZ, Nat.le_trans hBV.size (Nat.le_trans HBX.out.size hgx)⟩
theorem with_any (W : World) (b : Bk) (n : Nat) (sa ka : Option Addr) (n1 sc n2 kc : Nat) (hv : BookW W n sa ka n1 sc n2 kc b) (h4 : n2 ≤ 4) (c : Ck) :
    Calls Tryd.prog 51 #[.agg (b.cells (.slice sa n1 sc) (.slice ka n2 kc)).toArray, .agg c.cells.toArray] W fun e W' => ∃ (a : Option Addr) (m cc : Nat), e = .returned (.agg ((b.with c).cells (.slice sa n1 sc) (.slice a m cc)).toArray) ∧ Below W.heap.size W W' ∧ BookW W' W'.heap.size sa a n1 sc m cc (b.with c) := by
  refine (with_own W b n sa ka n1 sc n2 kc hv h4 c).mono ?_
  rintro e W' ⟨g, m, cc, he, hb, hk, _⟩
  exact ⟨some ⟨g, 0, none⟩, m, cc, he, hb, hk⟩
end Go.Proofs.YtbhjfojbjpbdbaaDoor
