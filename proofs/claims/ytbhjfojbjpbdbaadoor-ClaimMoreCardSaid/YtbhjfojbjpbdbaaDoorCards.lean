/-
  DERIVED. GIVEN WITH THE SEED: THE CARDS: each row of YtbhjfojbjpbdbaaDoorRows.lean that lists a variable, with what it lists TIED to the program's text (the seventh form; the later family's looks); each row that meets fmt, with fmt's text TOLD by the authors' own Lean function (tested against real Go, not proved from fmt's source: count such statements apart). THE CARD IS WHAT COUNTS. Prove the row's statement (the work); the ties are given (YtbhjfojbjpbdbaaDoorTie.lean); close each card by the builder's one call (the guide's Derived/Test/ToyasCard.lean, 'card_holds'). Laid BY PROGRAM, IN A SANDBOX (cutbox-door.mjs). By AI agents, Wed Nov 11 2026. No macro, syntax, notation, axiom, sorry.
-/
import Derived.Test.YtbhjfojbjpbdbaaDoorRows
import GoSem.ClaimSeven
namespace Go.Proofs.YtbhjfojbjpbdbaaDoor
namespace Rows

/-- THE TIED CARD OF 'macadamlaw06.ClaimTimes'. -/
def claimTimesCard : Claim7 := { stood := { row := claimTimesRow, standIns := [], harness := (true, "3ca74e3428afef0f2eb0fe75d09010ee9b83995bb8b7bfde0b5e467de40546cf"), looks := false }, kinds := [], alts := [], laidByText := true, laidKinds := [.data, .funcs], laidTests := true, laidLooks := .later }
def ClaimTimesCardSaid : Prop := Claim7.holds Tryd.pinned (.plain (OpenSpec.ofChange claimTimesSpec)) claimTimesCard

/-- THE TIED CARD OF 'macadamlaw06.ClaimPays'. -/
def claimPaysCard : Claim7 := { stood := { row := claimPaysRow, standIns := [], harness := (true, "3ca74e3428afef0f2eb0fe75d09010ee9b83995bb8b7bfde0b5e467de40546cf"), looks := false }, kinds := [], alts := [], laidByText := true, laidKinds := [.data, .funcs], laidTests := true, laidLooks := .later }
def ClaimPaysCardSaid : Prop := Claim7.holds Tryd.pinned (.plain (OpenSpec.ofChange claimPaysSpec)) claimPaysCard

/-- THE TIED CARD OF 'macadamlaw06.ClaimWrongs'. -/
def claimWrongsCard : Claim7 := { stood := { row := claimWrongsRow, standIns := [], harness := (true, "3ca74e3428afef0f2eb0fe75d09010ee9b83995bb8b7bfde0b5e467de40546cf"), looks := false }, kinds := [], alts := [], laidByText := true, laidKinds := [.data, .funcs], laidTests := true, laidLooks := .later }
def ClaimWrongsCardSaid : Prop := Claim7.holds Tryd.pinned (.plain (OpenSpec.ofChange claimWrongsSpec)) claimWrongsCard

/-- THE TIED CARD OF 'macadamlaw06.ClaimTrue'. -/
def claimTrueCard : Claim7 := { stood := { row := claimTrueRow, standIns := [], harness := (true, "3ca74e3428afef0f2eb0fe75d09010ee9b83995bb8b7bfde0b5e467de40546cf"), looks := false }, kinds := [], alts := [], laidByText := true, laidKinds := [.data, .funcs], laidTests := true, laidLooks := .later }
def ClaimTrueCardSaid : Prop := Claim7.holds Tryd.pinned (.plain (OpenSpec.ofChange claimTrueSpec)) claimTrueCard

/-- THE TIED CARD OF 'macadamlaw06.ClaimEnds'. -/
def claimEndsCard : Claim7 := { stood := { row := claimEndsRow, standIns := [], harness := (true, "3ca74e3428afef0f2eb0fe75d09010ee9b83995bb8b7bfde0b5e467de40546cf"), looks := false }, kinds := [], alts := [], laidByText := true, laidKinds := [.data, .funcs], laidTests := true, laidLooks := .later }
def ClaimEndsCardSaid : Prop := Claim7.holds Tryd.pinned (.plain (OpenSpec.ofChange claimEndsSpec)) claimEndsCard

/-- THE TIED CARD OF 'macadamlaw06.ClaimMore'. -/
def claimMoreCard : Claim7 := { stood := { row := claimMoreRow, standIns := [], harness := (true, "3ca74e3428afef0f2eb0fe75d09010ee9b83995bb8b7bfde0b5e467de40546cf"), looks := false }, kinds := [], alts := [], laidByText := true, laidKinds := [.data, .funcs], laidTests := true, laidLooks := .later }
def ClaimMoreCardSaid : Prop := Claim7.holds Tryd.pinned (.plain (OpenSpec.ofChange claimMoreSpec)) claimMoreCard

/-- THE TIED CARD OF 'macadamlaw06.ClaimPaid'. -/
def claimPaidCard : Claim7 := { stood := { row := claimPaidRow, standIns := [], harness := (true, "3ca74e3428afef0f2eb0fe75d09010ee9b83995bb8b7bfde0b5e467de40546cf"), looks := false }, kinds := [], alts := [], laidByText := true, laidKinds := [.data, .funcs], laidTests := true, laidLooks := .later }
def ClaimPaidCardSaid : Prop := Claim7.holds Tryd.pinned (.plain (OpenSpec.ofChange claimPaidSpec)) claimPaidCard

/-- THE TIED CARD OF 'macadamlaw06.ClaimFirst'. -/
def claimFirstCard : Claim7 := { stood := { row := claimFirstRow, standIns := [], harness := (true, "3ca74e3428afef0f2eb0fe75d09010ee9b83995bb8b7bfde0b5e467de40546cf"), looks := false }, kinds := [], alts := [], laidByText := true, laidKinds := [.data, .funcs], laidTests := true, laidLooks := .later }
def ClaimFirstCardSaid : Prop := Claim7.holds Tryd.pinned (.plain (OpenSpec.ofChange claimFirstSpec)) claimFirstCard

/-- THE TIED CARD OF 'macadamlaw06.ClaimSmooth'. -/
def claimSmoothCard : Claim7 := { stood := { row := claimSmoothRow, standIns := [], harness := (true, "3ca74e3428afef0f2eb0fe75d09010ee9b83995bb8b7bfde0b5e467de40546cf"), looks := false }, kinds := [], alts := [], laidByText := true, laidKinds := [.data, .funcs], laidTests := true, laidLooks := .later }
def ClaimSmoothCardSaid : Prop := Claim7.holds Tryd.pinned (.plain (OpenSpec.ofChange claimSmoothSpec)) claimSmoothCard

/-- THE TIED CARD OF 'macadamlaw06.ClaimDue'. -/
def claimDueCard : Claim7 := { stood := { row := claimDueRow, standIns := [], harness := (true, "3ca74e3428afef0f2eb0fe75d09010ee9b83995bb8b7bfde0b5e467de40546cf"), looks := false }, kinds := [], alts := [], laidByText := true, laidKinds := [.data, .funcs], laidTests := true, laidLooks := .later }
def ClaimDueCardSaid : Prop := Claim7.holds Tryd.pinned (.plain (OpenSpec.ofChange claimDueSpec)) claimDueCard

/-- THE TIED CARD OF 'macadamlaw06.ClaimWrong'. -/
def claimWrongCard : Claim7 := { stood := { row := claimWrongRow, standIns := [], harness := (true, "3ca74e3428afef0f2eb0fe75d09010ee9b83995bb8b7bfde0b5e467de40546cf"), looks := false }, kinds := [], alts := [], laidByText := true, laidKinds := [.data, .funcs], laidTests := true, laidLooks := .later }
def ClaimWrongCardSaid : Prop := Claim7.holds Tryd.pinned (.plain (OpenSpec.ofChange claimWrongSpec)) claimWrongCard

/-- THE TIED CARD OF 'macadamlaw06.ClaimKnown'. -/
def claimKnownCard : Claim7 := { stood := { row := claimKnownRow, standIns := [], harness := (true, "3ca74e3428afef0f2eb0fe75d09010ee9b83995bb8b7bfde0b5e467de40546cf"), looks := false }, kinds := [], alts := [], laidByText := true, laidKinds := [.data, .funcs], laidTests := true, laidLooks := .later }
def ClaimKnownCardSaid : Prop := Claim7.holds Tryd.pinned (.plain (OpenSpec.ofChange claimKnownSpec)) claimKnownCard

/-- THE SECOND FORM's CARD OF 'macadamlaw06.ClaimTimes'. -/
def claimTimesUptoCard : Claim7 := { stood := { row := claimTimesUptoRow, standIns := [], harness := (true, "3ca74e3428afef0f2eb0fe75d09010ee9b83995bb8b7bfde0b5e467de40546cf"), looks := false }, kinds := [], alts := [], laidByText := true, laidKinds := [.data, .funcs], laidTests := true, laidLooks := .later }
def ClaimTimesUptoCardSaid : Prop := Claim7.holds Tryd.pinned (.plain (OpenSpec.upto claimTimesSpec)) claimTimesUptoCard

/-- THE SECOND FORM's CARD OF 'macadamlaw06.ClaimPays'. -/
def claimPaysUptoCard : Claim7 := { stood := { row := claimPaysUptoRow, standIns := [], harness := (true, "3ca74e3428afef0f2eb0fe75d09010ee9b83995bb8b7bfde0b5e467de40546cf"), looks := false }, kinds := [], alts := [], laidByText := true, laidKinds := [.data, .funcs], laidTests := true, laidLooks := .later }
def ClaimPaysUptoCardSaid : Prop := Claim7.holds Tryd.pinned (.plain (OpenSpec.upto claimPaysSpec)) claimPaysUptoCard

/-- THE SECOND FORM's CARD OF 'macadamlaw06.ClaimWrongs'. -/
def claimWrongsUptoCard : Claim7 := { stood := { row := claimWrongsUptoRow, standIns := [], harness := (true, "3ca74e3428afef0f2eb0fe75d09010ee9b83995bb8b7bfde0b5e467de40546cf"), looks := false }, kinds := [], alts := [], laidByText := true, laidKinds := [.data, .funcs], laidTests := true, laidLooks := .later }
def ClaimWrongsUptoCardSaid : Prop := Claim7.holds Tryd.pinned (.plain (OpenSpec.upto claimWrongsSpec)) claimWrongsUptoCard

/-- THE SECOND FORM's CARD OF 'macadamlaw06.ClaimTrue'. -/
def claimTrueUptoCard : Claim7 := { stood := { row := claimTrueUptoRow, standIns := [], harness := (true, "3ca74e3428afef0f2eb0fe75d09010ee9b83995bb8b7bfde0b5e467de40546cf"), looks := false }, kinds := [], alts := [], laidByText := true, laidKinds := [.data, .funcs], laidTests := true, laidLooks := .later }
def ClaimTrueUptoCardSaid : Prop := Claim7.holds Tryd.pinned (.plain (OpenSpec.upto claimTrueSpec)) claimTrueUptoCard

/-- THE SECOND FORM's CARD OF 'macadamlaw06.ClaimEnds'. -/
def claimEndsUptoCard : Claim7 := { stood := { row := claimEndsUptoRow, standIns := [], harness := (true, "3ca74e3428afef0f2eb0fe75d09010ee9b83995bb8b7bfde0b5e467de40546cf"), looks := false }, kinds := [], alts := [], laidByText := true, laidKinds := [.data, .funcs], laidTests := true, laidLooks := .later }
def ClaimEndsUptoCardSaid : Prop := Claim7.holds Tryd.pinned (.plain (OpenSpec.upto claimEndsSpec)) claimEndsUptoCard

/-- THE SECOND FORM's CARD OF 'macadamlaw06.ClaimMore'. -/
def claimMoreUptoCard : Claim7 := { stood := { row := claimMoreUptoRow, standIns := [], harness := (true, "3ca74e3428afef0f2eb0fe75d09010ee9b83995bb8b7bfde0b5e467de40546cf"), looks := false }, kinds := [], alts := [], laidByText := true, laidKinds := [.data, .funcs], laidTests := true, laidLooks := .later }
def ClaimMoreUptoCardSaid : Prop := Claim7.holds Tryd.pinned (.plain (OpenSpec.upto claimMoreSpec)) claimMoreUptoCard

/-- THE SECOND FORM's CARD OF 'macadamlaw06.ClaimPaid'. -/
def claimPaidUptoCard : Claim7 := { stood := { row := claimPaidUptoRow, standIns := [], harness := (true, "3ca74e3428afef0f2eb0fe75d09010ee9b83995bb8b7bfde0b5e467de40546cf"), looks := false }, kinds := [], alts := [], laidByText := true, laidKinds := [.data, .funcs], laidTests := true, laidLooks := .later }
def ClaimPaidUptoCardSaid : Prop := Claim7.holds Tryd.pinned (.plain (OpenSpec.upto claimPaidSpec)) claimPaidUptoCard

/-- THE SECOND FORM's CARD OF 'macadamlaw06.ClaimFirst'. -/
def claimFirstUptoCard : Claim7 := { stood := { row := claimFirstUptoRow, standIns := [], harness := (true, "3ca74e3428afef0f2eb0fe75d09010ee9b83995bb8b7bfde0b5e467de40546cf"), looks := false }, kinds := [], alts := [], laidByText := true, laidKinds := [.data, .funcs], laidTests := true, laidLooks := .later }
def ClaimFirstUptoCardSaid : Prop := Claim7.holds Tryd.pinned (.plain (OpenSpec.upto claimFirstSpec)) claimFirstUptoCard

/-- THE SECOND FORM's CARD OF 'macadamlaw06.ClaimSmooth'. -/
def claimSmoothUptoCard : Claim7 := { stood := { row := claimSmoothUptoRow, standIns := [], harness := (true, "3ca74e3428afef0f2eb0fe75d09010ee9b83995bb8b7bfde0b5e467de40546cf"), looks := false }, kinds := [], alts := [], laidByText := true, laidKinds := [.data, .funcs], laidTests := true, laidLooks := .later }
def ClaimSmoothUptoCardSaid : Prop := Claim7.holds Tryd.pinned (.plain (OpenSpec.upto claimSmoothSpec)) claimSmoothUptoCard

/-- THE SECOND FORM's CARD OF 'macadamlaw06.ClaimDue'. -/
def claimDueUptoCard : Claim7 := { stood := { row := claimDueUptoRow, standIns := [], harness := (true, "3ca74e3428afef0f2eb0fe75d09010ee9b83995bb8b7bfde0b5e467de40546cf"), looks := false }, kinds := [], alts := [], laidByText := true, laidKinds := [.data, .funcs], laidTests := true, laidLooks := .later }
def ClaimDueUptoCardSaid : Prop := Claim7.holds Tryd.pinned (.plain (OpenSpec.upto claimDueSpec)) claimDueUptoCard

/-- THE SECOND FORM's CARD OF 'macadamlaw06.ClaimWrong'. -/
def claimWrongUptoCard : Claim7 := { stood := { row := claimWrongUptoRow, standIns := [], harness := (true, "3ca74e3428afef0f2eb0fe75d09010ee9b83995bb8b7bfde0b5e467de40546cf"), looks := false }, kinds := [], alts := [], laidByText := true, laidKinds := [.data, .funcs], laidTests := true, laidLooks := .later }
def ClaimWrongUptoCardSaid : Prop := Claim7.holds Tryd.pinned (.plain (OpenSpec.upto claimWrongSpec)) claimWrongUptoCard

/-- THE SECOND FORM's CARD OF 'macadamlaw06.ClaimKnown'. -/
def claimKnownUptoCard : Claim7 := { stood := { row := claimKnownUptoRow, standIns := [], harness := (true, "3ca74e3428afef0f2eb0fe75d09010ee9b83995bb8b7bfde0b5e467de40546cf"), looks := false }, kinds := [], alts := [], laidByText := true, laidKinds := [.data, .funcs], laidTests := true, laidLooks := .later }
def ClaimKnownUptoCardSaid : Prop := Claim7.holds Tryd.pinned (.plain (OpenSpec.upto claimKnownSpec)) claimKnownUptoCard
end Rows
end Go.Proofs.YtbhjfojbjpbdbaaDoor
