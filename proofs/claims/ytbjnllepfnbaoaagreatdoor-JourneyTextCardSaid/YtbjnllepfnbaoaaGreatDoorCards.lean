/-
  DERIVED. GIVEN WITH THE SEED: THE CARDS: each row of YtbjnllepfnbaoaaGreatDoorRows.lean that lists a variable, with what it lists TIED to the program's text (the seventh form; the later family's looks); each row that meets fmt, with fmt's text TOLD by the authors' own Lean function (tested against real Go, not proved from fmt's source: count such statements apart). THE CARD IS WHAT COUNTS. Prove the row's statement (the work); the ties are given (YtbjnllepfnbaoaaGreatDoorTie.lean); close each card by the builder's one call (the guide's Derived/Test/ToyasCard.lean, 'card_holds'). Laid BY PROGRAM, IN A SANDBOX (cutbox-door.mjs). By AI agents, Wed Nov 11 2026. No macro, syntax, notation, axiom, sorry.
-/
import Derived.Test.YtbjnllepfnbaoaaGreatDoorRows
import GoSem.ClaimSeven
namespace Go.Proofs.YtbjnllepfnbaoaaGreatDoor
namespace Rows

/-- THE TIED CARD OF 'transitlaw38.JourneyText'. -/
def journeyTextCard : Claim7 := { stood := { row := journeyTextRow, standIns := [], harness := (true, "2d632201cb4667ff917c5bae349189d3e6b9d72b27b63c4c88052f257272fa47"), looks := false }, kinds := [], alts := [], laidByText := true, laidKinds := [.data, .data, .data], laidTests := true, laidLooks := .later }
def JourneyTextCardSaid : Prop := Claim7.holds Tryz.pinned (.plain (OpenSpec.ofChange journeyTextSpec)) journeyTextCard

/-- THE SECOND FORM's CARD OF 'transitlaw38.JourneyText'. -/
def journeyTextUptoCard : Claim7 := { stood := { row := journeyTextUptoRow, standIns := [], harness := (true, "2d632201cb4667ff917c5bae349189d3e6b9d72b27b63c4c88052f257272fa47"), looks := false }, kinds := [], alts := [], laidByText := true, laidKinds := [.data, .data, .data], laidTests := true, laidLooks := .later }
def JourneyTextUptoCardSaid : Prop := Claim7.holds Tryz.pinned (.plain (OpenSpec.upto journeyTextSpec)) journeyTextUptoCard
end Rows
end Go.Proofs.YtbjnllepfnbaoaaGreatDoor
