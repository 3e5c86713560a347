/-
  Merged: R0, R1. Written by sessions of this seat.
-/
import Derived.Test.YtbhjfojbjpbdbaaDoorK3
import Derived.ProofKit
import Derived.LaidMore
import Derived.OpenShut
import Derived.Stop.Joined
import Derived.Carry
import Derived.Deep.Slices

-- R0: The rows' frame: what the listed variables give, books that come in, and how a law that answers true meets its statement. Written by a session.
namespace Go.Proofs.YtbhjfojbjpbdbaaDoor
open Go.ChangeShapes Go.WideShapes Go.ChangeAt Go.RowKit Go.Deep

theorem own : ownKnob Tryd.prog.godebug = none := by kernel_rfl
theorem gKinds : Tryd.prog.globalNamed "macadam/claim.kinds" = some 0 := by kernel_rfl
theorem gNowhere : Tryd.prog.globalNamed "macadam/claim.nowhere" = some 1 := by kernel_rfl
theorem tKinds : (Tryd.prog.globals[0]?).map (·.type) = some 102 := by kernel_rfl
theorem tNowhere : (Tryd.prog.globals[1]?).map (·.type) = some 115 := by kernel_rfl
theorem laidOut : laidOutB Tryd.prog = true := by kernel_rfl

def laidU : List (String × DataW Unit) := [("macadam/claim.nowhere", Rows.laid_macadam_claim_nowhere), ("macadam/claim.kinds", Rows.laid_macadam_claim_kinds)]

theorem cells3 : Tryd.prog.cellsOf 3 = 1 := by kernel_rfl
theorem cells101 : Tryd.prog.cellsOf 101 = 1 := by kernel_rfl
theorem cells102 : Tryd.prog.cellsOf 102 = 2 := by kernel_rfl
theorem cells115 : Tryd.prog.cellsOf 115 = 2 := by kernel_rfl
theorem cells32 : Tryd.prog.cellsOf 32 = 2 := by kernel_rfl
theorem cells42 : Tryd.prog.cellsOf 42 = 3 := by kernel_rfl
theorem cells56 : Tryd.prog.cellsOf 56 = 7 := by kernel_rfl
theorem cells23 : Tryd.prog.cellsOf 23 = 3 := by kernel_rfl
theorem cells22 : Tryd.prog.cellsOf 22 = 1 := by kernel_rfl
theorem cells24 : Tryd.prog.cellsOf 24 = 1 := by kernel_rfl
theorem cells26 : Tryd.prog.cellsOf 26 = 7 := by kernel_rfl

section
variable {H : Type} {enc : TypeId × Value → H} {w : World} {base : Nat} {spare : Nat → Bool} {held : Bool}

theorem two_of {l : List Value} (h : l.length = 2) : ∃ a b, l = [a, b] := by
  match l, h with
  | [a, b], _ => exact ⟨a, b, rfl⟩
theorem three_of {l : List Value} (h : l.length = 3) : ∃ a b c, l = [a, b, c] := by
  match l, h with
  | [a, b, c], _ => exact ⟨a, b, c, rfl⟩
theorem seven_of {l : List Value} (h : l.length = 7) : ∃ a b c d e f g, l = [a, b, c, d, e, f, g] := by
  match l, h with
  | [a, b, c, d, e, f, g], _ => exact ⟨a, b, c, d, e, f, g, rfl⟩

theorem open_i64 {fuel : Nat} {v : Value} {x : DataW H × List MemPlace} (h : DataW.trod enc Tryd.prog w base spare held fuel 3 [v] = some x) : ∃ n : Int, v = .int .i64 n := by
  obtain ⟨n, e, _, _⟩ := DataW.trod_int Tryd.underlying3 h
  injection e with e _
  exact ⟨n, e⟩

theorem open_span {fuel : Nat} {cs : List Value} {x : DataW H × List MemPlace} (h : DataW.trod enc Tryd.prog w base spare held fuel 32 cs = some x) : ∃ a b : Int, cs = [.int .i64 a, .int .i64 b] := by
  obtain ⟨y0, y1, n, _, hl, h0, h1⟩ := trod_struct2 Tryd.underlying32 h
  rw [cells32] at hl
  obtain ⟨a, b, rfl⟩ := two_of hl
  simp only [cells3, List.drop_zero, List.take_succ_cons, List.take_zero, List.drop_succ_cons] at h0 h1
  obtain ⟨p, rfl⟩ := open_i64 h0
  obtain ⟨q, rfl⟩ := open_i64 h1
  exact ⟨p, q, rfl⟩

theorem open_clock {fuel : Nat} {cs : List Value} {x : DataW H × List MemPlace} (h : DataW.trod enc Tryd.prog w base spare held fuel 42 cs = some x) : ∃ c : Ck, cs = c.cells := by
  obtain ⟨xs, n, _, _, hl, hx, hf⟩ := DataW.trod_struct Tryd.underlying42 h
  rw [cells42] at hl
  obtain ⟨a, b, c, rfl⟩ := three_of hl
  have h0 := hf 0 { name := "Stage", type := 3, offset := 0, embedded := false, tag := "", pkgPath := "", byteOffset := 0 } rfl
  have h1 := hf 1 { name := "Read", type := 3, offset := 1, embedded := false, tag := "", pkgPath := "", byteOffset := 8 } rfl
  have h2 := hf 2 { name := "Error", type := 3, offset := 2, embedded := false, tag := "", pkgPath := "", byteOffset := 16 } rfl
  dsimp only at h0 h1 h2
  simp only [cells3, List.drop_zero, List.take_succ_cons, List.take_zero, List.drop_succ_cons] at h0 h1 h2
  rw [List.getElem?_eq_getElem (by rw [hx]; decide)] at h0 h1 h2
  obtain ⟨p, rfl⟩ := open_i64 h0
  obtain ⟨q, rfl⟩ := open_i64 h1
  obtain ⟨r, rfl⟩ := open_i64 h2
  exact ⟨⟨p, q, r⟩, rfl⟩

theorem open_stage {fuel : Nat} {cs : List Value} {x : DataW H × List MemPlace} (h : DataW.trod enc Tryd.prog w base spare held fuel 56 cs = some x) : ∃ s : St, cs = s.cells := by
  obtain ⟨xs, n, _, _, hl, hx, hf⟩ := DataW.trod_struct Tryd.underlying56 h
  rw [cells56] at hl
  obtain ⟨a, b, c, d, e, f, g, rfl⟩ := seven_of hl
  have h0 := hf 0 { name := "Due", type := 3, offset := 0, embedded := false, tag := "", pkgPath := "", byteOffset := 0 } rfl
  have h1 := hf 1 { name := "Drive", type := 32, offset := 1, embedded := false, tag := "", pkgPath := "", byteOffset := 8 } rfl
  have h2 := hf 2 { name := "Rough", type := 32, offset := 3, embedded := false, tag := "", pkgPath := "", byteOffset := 24 } rfl
  have h3 := hf 3 { name := "Stop", type := 32, offset := 5, embedded := false, tag := "", pkgPath := "", byteOffset := 40 } rfl
  dsimp only at h0 h1 h2 h3
  simp only [cells3, cells32, List.drop_zero, List.take_succ_cons, List.take_zero, List.drop_succ_cons] at h0 h1 h2 h3
  rw [List.getElem?_eq_getElem (by rw [hx]; decide)] at h0 h1 h2 h3
  obtain ⟨p, rfl⟩ := open_i64 h0
  obtain ⟨q1, q2, e1⟩ := open_span h1
  obtain ⟨r1, r2, e2⟩ := open_span h2
  obtain ⟨s1, s2, e3⟩ := open_span h3
  simp only [List.cons.injEq, and_true] at e1 e2 e3
  obtain ⟨rfl, rfl⟩ := e1
  obtain ⟨rfl, rfl⟩ := e2
  obtain ⟨rfl, rfl⟩ := e3
  exact ⟨⟨p, q1, q2, r1, r2, s1, s2⟩, rfl⟩

instance : Inhabited St := ⟨⟨0, 0, 0, 0, 0, 0, 0⟩⟩
instance : Inhabited Ck := ⟨⟨0, 0, 0⟩⟩

/-- a slice of structs that came in. -/
theorem open_rows {α : Type} [Inhabited α] (cells : α → List Value) {t e sz : Nat} (ht : Tryd.prog.underlying t = some (.slice e)) (hc : Tryd.prog.cellsOf e = sz) (hsz : 0 < sz)
    (hone : ∀ {fuel : Nat} {cs : List Value} {x : DataW H × List MemPlace}, DataW.trod enc Tryd.prog w base spare held fuel e cs = some x → ∃ a, cs = cells a) (hlen : ∀ a, (cells a).length = sz)
    {fuel : Nat} {v : Value} {x : DataW H × List MemPlace} (h : DataW.trod enc Tryd.prog w base spare held fuel t [v] = some x) :
    ∃ (a : Option Addr) (cap : Nat) (l : List α), v = .slice a l.length cap ∧ SlOf w w.heap.size sz v (l.map cells) := by
  rcases open_slice ht h with ⟨e1, _⟩ | ⟨a, len, cap, m, n, D, Pl, e1, _, hl, hm, hmm, _, hx⟩
  · injection e1 with e1 _
    subst e1
    exact ⟨none, 0, [], rfl, none, 0, rfl, Nat.le_refl _, by simp [maxLen], by simp, fun h => absurd h (by simp)⟩
  · injection e1 with e1 _
    subst e1
    have hlm : len ≤ m := by rw [hmm]; split <;> omega
    have hex : ∀ i, i < len → ∃ y, ∃ cs, w.cells? base (a.add (i * sz)) sz = some cs ∧ cs = cells y := fun i hi => by
      obtain ⟨cs, h1, h2⟩ := hx i (by omega)
      rw [hc] at h1
      obtain ⟨y, hy⟩ := hone h2
      exact ⟨y, cs, h1, hy⟩
    obtain ⟨f, hf⟩ := choose_lt hex
    have hcell : ∀ i j, i < len → j < sz → w.cell? (a.add (i * sz + j)) = (cells (f i))[j]? := fun i j hi hj => by
      obtain ⟨cs, h1, h2⟩ := hf i hi
      obtain ⟨_, _, h3⟩ := World.cells?_some h1
      rw [← h2, ← h3 j hj, add_add]
    refine ⟨some a, cap, (List.range len).map f, by simp, some a, cap, by simp, by simpa using hl, by simpa using Nat.le_trans hl hm, fun r hr => ?_, fun hp => ?_⟩
    · obtain ⟨y, _, rfl⟩ := List.mem_map.1 hr
      exact hlen y
    · simp only [List.length_map, List.length_range] at hp
      obtain ⟨b, off, spot⟩ := a
      have h0 := hcell 0 0 hp hsz
      have hsome : ∃ u, (cells (f 0))[0]? = some u := ⟨_, List.getElem?_eq_getElem (by rw [hlen]; exact hsz)⟩
      obtain ⟨u, hu⟩ := hsome
      rw [hu] at h0
      have hspot : spot = none := by simpa [Addr.add] using World.cell?_spot h0
      subst hspot
      refine ⟨b, off, rfl, ?_, fun i j r c hi hj => ?_⟩
      · have := lt_of_cell h0
        simpa [Addr.add] using this
      · have hil : i < len := by
          have := (List.getElem?_eq_some_iff.1 hi).1
          simpa using this
        have hr : r = cells (f i) := by
          simp [List.getElem?_map, List.getElem?_range hil] at hi
          exact hi.symm
        subst hr
        have hjl : j < sz := by
          have := (List.getElem?_eq_some_iff.1 hj).1
          rwa [hlen] at this
        have h1 := hcell i j hil hjl
        rw [hj, Go.WideShapes.add_plain] at h1
        rw [Nat.add_assoc]
        exact h1

set_option maxRecDepth 100000 in
/-- a book that came in. -/
theorem open_book {v : Value} {d : DataW H} {p : List MemPlace} {r : Reach} {b0 : Nat} (hval : Value.okWide Tryd.prog w r b0 26 v) (h : DataW.Trod enc Tryd.prog w base spare held 26 v d p) :
    ∃ (b : Bk) (sa ka : Option Addr) (n1 sc n2 kc : Nat), v = .agg (b.cells (.slice sa n1 sc) (.slice ka n2 kc)).toArray ∧ BookW w w.heap.size sa ka n1 sc n2 kc b := by
  obtain ⟨cs, rfl, hsz⟩ := okWide_struct Tryd.underlying26 hval
  obtain ⟨fuel, hf⟩ := h
  have hf' : DataW.trod enc Tryd.prog w base spare held fuel 26 cs.toList = some (d, p) := hf
  obtain ⟨xs, n, _, _, hl, hx, hfs⟩ := DataW.trod_struct Tryd.underlying26 hf'
  rw [cells26] at hl
  obtain ⟨c0, c1, c2, c3, c4, c5, c6, hcs⟩ := seven_of hl
  rw [hcs] at hfs
  have h0 := hfs 0 { name := "Stages", type := 22, offset := 0, embedded := false, tag := "", pkgPath := "", byteOffset := 0 } rfl
  have h1 := hfs 1 { name := "Weathers", type := 3, offset := 1, embedded := false, tag := "", pkgPath := "", byteOffset := 24 } rfl
  have h2 := hfs 2 { name := "Costs", type := 23, offset := 2, embedded := false, tag := "", pkgPath := "", byteOffset := 32 } rfl
  have h3 := hfs 3 { name := "Clocks", type := 24, offset := 5, embedded := false, tag := "", pkgPath := "", byteOffset := 56 } rfl
  have h4 := hfs 4 { name := "Rate", type := 3, offset := 6, embedded := false, tag := "", pkgPath := "", byteOffset := 80 } rfl
  dsimp only at h0 h1 h2 h3 h4
  simp only [cells3, cells22, cells23, cells24, List.drop_zero, List.take_succ_cons, List.take_zero, List.drop_succ_cons] at h0 h1 h2 h3 h4
  rw [List.getElem?_eq_getElem (by rw [hx]; decide)] at h0 h1 h2 h3 h4
  obtain ⟨sa, sc, l, rfl, hs⟩ := open_rows St.cells Tryd.underlying22 cells56 (by decide) open_stage (fun _ => rfl) h0
  obtain ⟨wt, rfl⟩ := open_i64 h1
  obtain ⟨ys, m, _, _, _, hy, hys⟩ := DataW.trod_array Tryd.underlying23 h2
  have a0 := hys 0 (by decide)
  have a1 := hys 1 (by decide)
  have a2 := hys 2 (by decide)
  simp only [cells3, Nat.mul_one, List.drop_zero, List.take_succ_cons, List.take_zero, List.drop_succ_cons] at a0 a1 a2
  rw [List.getElem?_eq_getElem (by rw [hy]; decide)] at a0 a1 a2
  obtain ⟨k0, rfl⟩ := open_i64 a0
  obtain ⟨k1, rfl⟩ := open_i64 a1
  obtain ⟨k2, rfl⟩ := open_i64 a2
  obtain ⟨ka, kc, m, rfl, hk⟩ := open_rows Ck.cells Tryd.underlying24 cells42 (by decide) open_clock (fun _ => rfl) h3
  obtain ⟨rt, rfl⟩ := open_i64 h4
  refine ⟨⟨l, wt, k0, k1, k2, m, rt⟩, sa, ka, l.length, sc, m.length, kc, ?_, Nat.le_refl _, hs, hk, rfl, rfl⟩
  have : cs = (Bk.cells ⟨l, wt, k0, k1, k2, m, rt⟩ (.slice sa l.length sc) (.slice ka m.length kc)).toArray := by
    apply Array.ext'
    rw [hcs]
    rfl
  rw [this]
end


set_option maxRecDepth 100000 in
theorem of_laid {W : World} (h : laidMetH Tryd.prog laidU W) : Glob W := by
  have hk : W.cell? ⟨0, 0, none⟩ = some (.func (.func 125) #[] #[]) ∧ W.cell? ⟨0, 1, none⟩ = some (.func (.func 123) #[] #[]) := by
    obtain ⟨g, t, cs, fuel, p, hg, ht, hv, hd⟩ := h.funcs (show ("macadam/claim.kinds", DataW.iface "func table" _) ∈ laidU from List.mem_cons_of_mem _ List.mem_cons_self)
    obtain rfl := Option.some.inj (gKinds.symm.trans hg)
    obtain rfl := Option.some.inj (tKinds.symm.trans ht)
    have hd' : DataW.trod (funcToken Tryd.prog) Tryd.prog W 0 (fun _ => true) true fuel 102 cs.toList = some (.agg [.held [40, 109, 97, 99, 97, 100, 97, 109, 47, 99, 108, 97, 105, 109, 46, 118, 111, 116, 101, 115, 41, 46, 115, 111, 109, 101], .held [40, 109, 97, 99, 97, 100, 97, 109, 47, 99, 108, 97, 105, 109, 46, 118, 111, 116, 101, 115, 41, 46, 101, 97, 99, 104]], p) := hd
    obtain ⟨xs, m, _, hx, hl, hn, hel⟩ := DataW.trod_array Tryd.underlying102 hd'
    rw [cells102] at hl
    obtain ⟨c0, c1, hcs⟩ := two_of hl
    have e0 := hel 0 (by decide)
    have e1 := hel 1 (by decide)
    rw [hcs] at e0 e1
    simp only [cells101, Nat.zero_mul, Nat.one_mul, List.drop_zero, List.take_succ_cons, List.take_zero, List.drop_succ_cons] at e0 e1
    simp only [Prod.mk.injEq, DataW.agg.injEq] at hx
    match xs, hn, hx, e0, e1 with
    | [x0, x1], _, hx, e0, e1 =>
      simp only [List.map_cons, List.map_nil, List.cons.injEq, and_true] at hx
      obtain ⟨⟨hx0, hx1⟩, _⟩ := hx
      simp only [List.getElem?_cons_zero, List.getElem?_cons_succ] at e0 e1
      obtain ⟨x01, x02⟩ := x0
      obtain ⟨x11, x12⟩ := x1
      simp only at hx0 hx1
      subst hx0
      subst hx1
      obtain rfl := func_of_trod (f0 := 125) Tryd.underlying101 (by kernel_rfl) e0
      obtain rfl := func_of_trod (f0 := 123) Tryd.underlying101 (by kernel_rfl) e1
      have g0 := World.var?_cell hg hv 0
      have g1 := World.var?_cell hg hv 1
      rw [← Array.getElem?_toList, hcs] at g0 g1
      exact ⟨g0, g1⟩
  have hn : W.cell? ⟨1, 0, none⟩ = some (.int .i64 (-1)) ∧ W.cell? ⟨1, 1, none⟩ = some (.int .i64 (-1)) := by
    have h' := h
    unfold laidMetH at h'
    have h2 : laidMet Tryd.prog [("macadam/claim.nowhere", Rows.laid_macadam_claim_nowhere)] W := by
      have hf : laidU.filter (fun x => x.2.handleName?.isSome) = [("macadam/claim.kinds", Rows.laid_macadam_claim_kinds)] := by kernel_rfl
      have hp : laidU.filter (fun x => x.2.handleName?.isNone) = [("macadam/claim.nowhere", Rows.laid_macadam_claim_nowhere)] := by kernel_rfl
      rw [hf] at h'
      have h3 := h'.1
      rw [hp] at h3
      exact h3
    obtain ⟨ps, ⟨g0, t0, cs0, f0, p0, q0, hg0, ht0, hv0, hd0, _⟩, _⟩ := h2
    obtain rfl := Option.some.inj (gNowhere.symm.trans hg0)
    obtain rfl := Option.some.inj (tNowhere.symm.trans ht0)
    have hd' : DataW.trod _ Tryd.prog W 0 (fun _ => true) _ f0 115 cs0.toList = some (.agg [.lit (.int .i64 (-1)), .lit (.int .i64 (-1))], p0) := hd0
    obtain ⟨y0, y1, n, hx, hl, k0, k1⟩ := trod_struct2 Tryd.underlying115 hd'
    rw [cells115] at hl
    obtain ⟨c0, c1, hcs⟩ := two_of hl
    rw [hcs] at k0 k1
    simp only [cells3, List.drop_zero, List.take_succ_cons, List.take_zero, List.drop_succ_cons] at k0 k1
    simp only [Prod.mk.injEq, DataW.agg.injEq, List.cons.injEq, and_true] at hx
    obtain ⟨⟨hx0, hx1⟩, _⟩ := hx
    obtain ⟨a, ea, eb, _⟩ := DataW.trod_int Tryd.underlying3 k0
    obtain ⟨b, ec, ed, _⟩ := DataW.trod_int Tryd.underlying3 k1
    rw [eb] at hx0
    rw [ed] at hx1
    simp only [DataW.lit.injEq, Lit.int.injEq, true_and] at hx0 hx1
    injection ea with ea _
    injection ec with ec _
    have g0 := World.var?_cell hg0 hv0 0
    have g1 := World.var?_cell hg0 hv0 1
    rw [← Array.getElem?_toList, hcs] at g0 g1
    refine ⟨g0.trans ?_, g1.trans ?_⟩
    · rw [ea, ← hx0]; rfl
    · rw [ec, ← hx1]; rfl
  exact ⟨hk.1, hk.2, hn.1, hn.2⟩
end Go.Proofs.YtbhjfojbjpbdbaaDoor

-- R1: Two numbers that came in as an array. Written by a session.
namespace Go.Proofs.YtbhjfojbjpbdbaaDoor
open Go.ChangeShapes Go.WideShapes Go.ChangeAt Go.RowKit Go.Deep

theorem cells60 : Tryd.prog.cellsOf 60 = 2 := by kernel_rfl

set_option maxRecDepth 100000 in
theorem open_ints2 {H : Type} {enc : TypeId × Value → H} {w : World} {base : Nat} {spare : Nat → Bool} {held : Bool} {v : Value} {d : DataW H} {p : List MemPlace} {r : Reach} {b0 : Nat} (hval : Value.okWide Tryd.prog w r b0 60 v) (h : DataW.Trod enc Tryd.prog w base spare held 60 v d p) :
    ∃ m1 m2 : Int, v = .agg #[.int .i64 m1, .int .i64 m2] := by
  unfold Value.okWide at hval
  rw [Tryd.underlying60] at hval
  obtain ⟨cs, rfl, hsz, _⟩ := hval
  obtain ⟨fuel, hf⟩ := h
  have hf' : DataW.trod enc Tryd.prog w base spare held fuel 60 cs.toList = some (d, p) := hf
  obtain ⟨ys, m, _, _, hl, hy, hys⟩ := DataW.trod_array Tryd.underlying60 hf'
  rw [cells60] at hl
  obtain ⟨x0, x1, hcs⟩ := two_of hl
  rw [hcs] at hys
  have a0 := hys 0 (by decide)
  have a1 := hys 1 (by decide)
  simp only [cells3, Nat.mul_one, List.drop_zero, List.take_succ_cons, List.take_zero, List.drop_succ_cons] at a0 a1
  rw [List.getElem?_eq_getElem (by rw [hy]; decide)] at a0 a1
  obtain ⟨k0, rfl⟩ := open_i64 a0
  obtain ⟨k1, rfl⟩ := open_i64 a1
  refine ⟨k0, k1, ?_⟩
  have : cs = #[.int .i64 k0, .int .i64 k1] := by
    apply Array.ext'
    rw [hcs]
  rw [this]
end Go.Proofs.YtbhjfojbjpbdbaaDoor
