/-
  append of one element to a slice that came in and has no room: the new slice's rows. Written by this session.
-/
import Derived.Test.YtbhjfojbjpbdbaaDoorA22
import Derived.ArgAppend
import Derived.Lib.SmallJoins
namespace Go.Proofs.YtbhjfojbjpbdbaaDoor
open Go.RowKit

theorem flat_len {sz : Nat} : ∀ (rows : List (List Value)), (∀ r ∈ rows, r.length = sz) → rows.flatten.length = rows.length * sz
  | [], _ => by simp
  | x :: rows, h => by
    rw [List.flatten_cons, List.length_append, flat_len rows (fun r hr => h r (List.mem_cons_of_mem _ hr)), h x List.mem_cons_self, List.length_cons, Nat.add_mul]
    omega

theorem flat_at' {sz : Nat} (hsz : 0 < sz) : ∀ (rows : List (List Value)), (∀ r ∈ rows, r.length = sz) → ∀ (j : Nat) (u : Value), rows.flatten[j]? = some u → ∃ i k r, rows[i]? = some r ∧ r[k]? = some u ∧ j = i * sz + k
  | [], _, j, u, h => by simp at h
  | x :: rows, hl, j, u, h => by
    have hx := hl x List.mem_cons_self
    rw [List.flatten_cons] at h
    by_cases hj : j < x.length
    · rw [List.getElem?_append_left hj] at h
      exact ⟨0, j, x, rfl, h, by omega⟩
    · rw [List.getElem?_append_right (by omega)] at h
      obtain ⟨i, k, r, h1, h2, h3⟩ := flat_at' hsz rows (fun r hr => hl r (List.mem_cons_of_mem _ hr)) (j - x.length) u h
      exact ⟨i + 1, k, r, h1, h2, by rw [Nat.add_mul]; omega⟩

theorem grown_below {w w' : World} (h : w.grownBy w' none) : Below w.heap.size w w' :=
  ⟨h.os, h.tape, h.output, h.size, fun k hk => h.block k hk (by simp)⟩

theorem append_sl {P : Program} {w : World} (t ty e : TypeId) (i : TypeInfo) (z : Value) (size bytes : Nat) (ht : P.underlying t = some (.slice e)) (hi : P.info? e = some i) (hz : i.zero = some z)
    (hsize : i.size = size) (hby : i.bytes = bytes) (hzs : z.cells.size = size) (hsz : 0 < size) {n : Nat} {a : Option Addr} {len c : Nat} {rows : List (List Value)} (hl : len = rows.length)
    (hs : SlOf w n size (.slice a len c) rows) (r : List Value) (hr : r.length = size) (h1 : ∀ u ∈ r, u.oneCell' = true) (N : Nat) (hN : ∀ j u, r[j]? = some u → w.cell? ⟨N, j, none⟩ = some u)
    (b1 : len + 1 ≤ maxLen) (b2 : (len + 1) * bytes ≤ 140737488355328) :
    ∃ g cap w', (Builtin.append_ #[t, t] ty #[.slice a len len, .slice (some ⟨N, 0, none⟩) 1 1]).run P w = .ok (.slice (some ⟨g, 0, none⟩) (len + 1) cap) w' ∧
      SlOf w' w'.heap.size size (.slice (some ⟨g, 0, none⟩) (len + 1) cap) (rows ++ [r]) ∧ Below w.heap.size w w' ∧ w.heap.size ≤ g ∧ g < w'.heap.size := by
  obtain ⟨a', cap', e1, h2, h3, h4, h5⟩ := hs
  injection e1 with ea el ec
  subst ea
  subst hl
  have hnews : ∀ j u, r[j]? = some u → w.cell? ((⟨N, 0, none⟩ : Addr).add j) = some u := fun j u h => by
    rw [Go.WideShapes.add_plain, Nat.zero_add]; exact hN j u h
  have key : ∃ v' w', (Builtin.append_ #[t, t] ty #[.slice a rows.length rows.length, .slice (some ⟨N, 0, none⟩) 1 1]).run P w = .ok v' w' ∧ w'.ownsRow w.heap.size e size v' (rows.length + 1) (rows.flatten ++ r) ∧ w.grownBy w' none := by
    cases a with
    | some ad =>
      refine run_append_arg_grows (P := P) w t ty e i z size bytes ht hi hz hsize hby hzs hsz ad rows.length rows.length rows.flatten (flat_len rows h4) ?_ ⟨N, 0, none⟩ 1 1 r (by rw [hr, Nat.one_mul]) hnews (by omega) b1 b2
      intro j u hj
      obtain ⟨q, k, x, hq, hk, hjj⟩ := flat_at' hsz rows h4 j u hj
      have hp : 0 < rows.length := by have := (List.getElem?_eq_some_iff.1 hq).1; omega
      obtain ⟨b, o, e3, _, h6⟩ := h5 hp
      injection e3 with e4
      subst e4
      rw [Go.WideShapes.add_plain, hjj, ← Nat.add_assoc]
      exact h6 q k x u hq hk
    | none =>
      have h0 : rows.length = 0 := by
        rcases Nat.eq_zero_or_pos rows.length with h | h
        · exact h
        · obtain ⟨_, _, e3, _⟩ := h5 h; cases e3
      have hrows : rows = [] := List.eq_nil_of_length_eq_zero h0
      subst hrows
      obtain ⟨v', w', hrun, r1, r2, _⟩ := run_append_own (P := P) w w.heap.size t ty e i z size bytes ht hi hz hsize hby hzs hsz (.slice none 0 0) 0 [] (World.ownsRow_nil w _ e size) ⟨N, 0, none⟩ 1 1 r (by rw [hr, Nat.one_mul]) hnews h1 b1 b2 (Nat.le_refl _)
      exact ⟨v', w', hrun, r1, r2⟩
  obtain ⟨v', w', hrun, hown, hgr⟩ := key
  have hr' : ∀ x ∈ rows ++ [r], x.length = size := fun x hx => by
    rcases List.mem_append.1 hx with hx | hx
    · exact h4 x hx
    · simp at hx; subst hx; exact hr
  have hsl : SlOf w' w'.heap.size size v' (rows ++ [r]) := SlOf.own (by rw [List.length_append]; simpa using hown) hr'
  rcases hown.2 with ⟨_, h0⟩ | ⟨g, cap, cur, rfl, hb, hg, hc, hm, hs, htk⟩
  · omega
  · exact ⟨g, cap, w', hrun, hsl, grown_below hgr, hb, (Array.getElem?_eq_some_iff.1 hg).1⟩
end Go.Proofs.YtbhjfojbjpbdbaaDoor
