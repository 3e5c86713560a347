/-
  A clock that came in as a value. Written by this session.
-/
import Derived.Test.YtbhjfojbjpbdbaaDoorR
namespace Go.Proofs.YtbhjfojbjpbdbaaDoor
open Go.ChangeShapes Go.WideShapes Go.ChangeAt Go.RowKit Go.Deep

set_option maxRecDepth 100000 in
/-- a clock that came in. -/
theorem open_clockv {H : Type} {enc : TypeId × Value → H} {w : World} {base : Nat} {spare : Nat → Bool} {held : Bool} {v : Value} {d : DataW H} {p : List MemPlace} {r : Reach} {b0 : Nat} (hval : Value.okWide Tryd.prog w r b0 42 v) (h : DataW.Trod enc Tryd.prog w base spare held 42 v d p) :
    ∃ c : Ck, v = .agg #[.int .i64 c.st, .int .i64 c.rd, .int .i64 c.er] := by
  obtain ⟨cs, rfl, hsz⟩ := okWide_struct Tryd.underlying42 hval
  obtain ⟨fuel, hf⟩ := h
  have hf' : DataW.trod enc Tryd.prog w base spare held fuel 42 cs.toList = some (d, p) := hf
  obtain ⟨c, hc⟩ := open_clock hf'
  refine ⟨c, ?_⟩
  have : cs = #[.int .i64 c.st, .int .i64 c.rd, .int .i64 c.er] := by
    apply Array.ext'
    rw [hc]
    rfl
  rw [this]
end Go.Proofs.YtbhjfojbjpbdbaaDoor
