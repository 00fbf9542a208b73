/-
  DERIVED. GIVEN WITH THE SEED: THE CARDS: each row of YtcajgbpcimimhaaGreatDoorRows.lean that lists a variable, with what it lists TIED to the program's text (the seventh form; the later family's looks); each row that meets fmt, with fmt's text TOLD by the authors' own Lean function (tested against real Go, not proved from fmt's source: count such statements apart). THE CARD IS WHAT COUNTS. Prove the row's statement (the work); the ties are given (YtcajgbpcimimhaaGreatDoorTie.lean); close each card by the builder's one call (the guide's Derived/Test/ToyasCard.lean, 'card_holds'). Laid BY PROGRAM, IN A SANDBOX (cutbox-door.mjs). By AI agents, Wed Nov 11 2026. No macro, syntax, notation, axiom, sorry.
-/
import Derived.Test.YtcajgbpcimimhaaGreatDoorRows
import GoSem.ClaimSeven
namespace Go.Proofs.YtcajgbpcimimhaaGreatDoor
namespace Rows

/-- THE TIED CARD OF 'glacistop.WholeWaits'. -/
def wholeWaitsCard : Claim7 := { stood := { row := wholeWaitsRow, standIns := [], harness := (true, "93e73dd9d0eb7f52e39e4c77f2811ad9344f49fbff1f19730979ddc86c54c45b"), looks := true }, kinds := [], alts := [], laidByText := true, laidKinds := [.data, .listed, .data, .data, .pinned], laidTests := true, laidLooks := .later }
def WholeWaitsCardSaid : Prop := Claim7.holds Tryz.pinned (.plain (OpenSpec.ofChange wholeWaitsSpec)) wholeWaitsCard

/-- THE TIED CARD OF 'glacistop.WholeUnref'. -/
def wholeUnrefCard : Claim7 := { stood := { row := wholeUnrefRow, standIns := [], harness := (true, "93e73dd9d0eb7f52e39e4c77f2811ad9344f49fbff1f19730979ddc86c54c45b"), looks := true }, kinds := [], alts := [], laidByText := true, laidKinds := [.data, .listed, .data, .data, .pinned], laidTests := true, laidLooks := .later }
def WholeUnrefCardSaid : Prop := Claim7.holds Tryz.pinned (.plain (OpenSpec.ofChange wholeUnrefSpec)) wholeUnrefCard

/-- THE TIED CARD OF 'glacistop.WholeOrder'. -/
def wholeOrderCard : Claim7 := { stood := { row := wholeOrderRow, standIns := [], harness := (true, "93e73dd9d0eb7f52e39e4c77f2811ad9344f49fbff1f19730979ddc86c54c45b"), looks := true }, kinds := [], alts := [], laidByText := true, laidKinds := [.data, .listed, .data, .data, .pinned], laidTests := true, laidLooks := .later }
def WholeOrderCardSaid : Prop := Claim7.holds Tryz.pinned (.plain (OpenSpec.ofChange wholeOrderSpec)) wholeOrderCard

/-- THE SECOND FORM's CARD OF 'glacistop.WholeWaits'. -/
def wholeWaitsUptoCard : Claim7 := { stood := { row := wholeWaitsUptoRow, standIns := [], harness := (true, "93e73dd9d0eb7f52e39e4c77f2811ad9344f49fbff1f19730979ddc86c54c45b"), looks := true }, kinds := [], alts := [], laidByText := true, laidKinds := [.data, .listed, .data, .data, .pinned], laidTests := true, laidLooks := .later }
def WholeWaitsUptoCardSaid : Prop := Claim7.holds Tryz.pinned (.plain (OpenSpec.upto wholeWaitsSpec)) wholeWaitsUptoCard

/-- THE SECOND FORM's CARD OF 'glacistop.WholeUnref'. -/
def wholeUnrefUptoCard : Claim7 := { stood := { row := wholeUnrefUptoRow, standIns := [], harness := (true, "93e73dd9d0eb7f52e39e4c77f2811ad9344f49fbff1f19730979ddc86c54c45b"), looks := true }, kinds := [], alts := [], laidByText := true, laidKinds := [.data, .listed, .data, .data, .pinned], laidTests := true, laidLooks := .later }
def WholeUnrefUptoCardSaid : Prop := Claim7.holds Tryz.pinned (.plain (OpenSpec.upto wholeUnrefSpec)) wholeUnrefUptoCard

/-- THE SECOND FORM's CARD OF 'glacistop.WholeOrder'. -/
def wholeOrderUptoCard : Claim7 := { stood := { row := wholeOrderUptoRow, standIns := [], harness := (true, "93e73dd9d0eb7f52e39e4c77f2811ad9344f49fbff1f19730979ddc86c54c45b"), looks := true }, kinds := [], alts := [], laidByText := true, laidKinds := [.data, .listed, .data, .data, .pinned], laidTests := true, laidLooks := .later }
def WholeOrderUptoCardSaid : Prop := Claim7.holds Tryz.pinned (.plain (OpenSpec.upto wholeOrderSpec)) wholeOrderUptoCard
end Rows
end Go.Proofs.YtcajgbpcimimhaaGreatDoor
