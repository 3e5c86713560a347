/-
  Two numbers that came in as an array. Written by this session.
-/
import Derived.Test.YtbhjfojbjpbdbaaDoorR0
namespace Go.Proofs.YtbhjfojbjpbdbaaDoor
open Go.ChangeShapes Go.WideShapes Go.ChangeAt Go.RowKit Go.Deep

theorem cells60 : Tryd.prog.cellsOf 60 = 2 := by kernel_rfl

set_option maxRecDepth 100000 in
theorem open_ints2 {H : Type} {enc : TypeId × Value → H} {w : World} {base : Nat} {spare : Nat → Bool} {held : Bool} {v : Value} {d : DataW H} {p : List MemPlace} {r : Reach} {b0 : Nat} (hval : Value.okWide Tryd.prog w r b0 60 v) (h : DataW.Trod enc Tryd.prog w base spare held 60 v d p) :
    ∃ m1 m2 : Int, v = .agg #[.int .i64 m1, .int .i64 m2] := by
  unfold Value.okWide at hval
  rw [Tryd.underlying60] at hval
  obtain ⟨cs, rfl, hsz, _⟩ := hval
  obtain ⟨fuel, hf⟩ := h
  have hf' : DataW.trod enc Tryd.prog w base spare held fuel 60 cs.toList = some (d, p) := hf
  obtain ⟨ys, m, _, _, hl, hy, hys⟩ := DataW.trod_array Tryd.underlying60 hf'
  rw [cells60] at hl
  obtain ⟨x0, x1, hcs⟩ := two_of hl
  rw [hcs] at hys
  have a0 := hys 0 (by decide)
  have a1 := hys 1 (by decide)
  simp only [cells3, Nat.mul_one, List.drop_zero, List.take_succ_cons, List.take_zero, List.drop_succ_cons] at a0 a1
  rw [List.getElem?_eq_getElem (by rw [hy]; decide)] at a0 a1
  obtain ⟨k0, rfl⟩ := open_i64 a0
  obtain ⟨k1, rfl⟩ := open_i64 a1
  refine ⟨k0, k1, ?_⟩
  have : cs = #[.int .i64 k0, .int .i64 k1] := by
    apply Array.ext'
    rw [hcs]
  rw [this]
end Go.Proofs.YtbhjfojbjpbdbaaDoor
