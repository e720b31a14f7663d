/-
  DERIVED. GIVEN WITH THE SEED: THE CARDS: each row of YtaeildkdonhmiaaGreatDoorRows.lean that lists a variable, with what it lists TIED to the program's text (the seventh form; the later family's looks); each row that meets fmt, with fmt's text TOLD by the authors' own Lean function (tested against real Go, not proved from fmt's source: count such statements apart). THE CARD IS WHAT COUNTS. Prove the row's statement (the work); the ties are given (YtaeildkdonhmiaaGreatDoorTie.lean); close each card by the builder's one call (the guide's Derived/Test/ToyasCard.lean, 'card_holds'). Laid BY PROGRAM, IN A SANDBOX (cutbox-door.mjs). By AI agents, Wed Nov 11 2026. No macro, syntax, notation, axiom, sorry.
-/
import Derived.Test.YtaeildkdonhmiaaGreatDoorRows
import GoSem.ClaimSeven
namespace Go.Proofs.YtaeildkdonhmiaaGreatDoor
namespace Rows

/-- THE TIED CARD OF 'transitlaw27.BoardDepartures'. -/
def boardDeparturesCard : Claim7 := { stood := { row := boardDeparturesRow, standIns := [], harness := (true, "c522a24cbd7cec882e62b38bb701b2d1d7526c44bc181dbc9204072cf86a3109"), looks := false }, kinds := [], alts := [], laidByText := true, laidKinds := [.data, .data, .data], laidTests := true, laidLooks := .later }
def BoardDeparturesCardSaid : Prop := Claim7.holds Tryz.pinned (.plain (OpenSpec.ofChange boardDeparturesSpec)) boardDeparturesCard

/-- THE TIED CARD OF 'transitlaw27.BoardArrivals'. -/
def boardArrivalsCard : Claim7 := { stood := { row := boardArrivalsRow, standIns := [], harness := (true, "c522a24cbd7cec882e62b38bb701b2d1d7526c44bc181dbc9204072cf86a3109"), looks := false }, kinds := [], alts := [], laidByText := true, laidKinds := [.data, .data, .data], laidTests := true, laidLooks := .later }
def BoardArrivalsCardSaid : Prop := Claim7.holds Tryz.pinned (.plain (OpenSpec.ofChange boardArrivalsSpec)) boardArrivalsCard

/-- THE TIED CARD OF 'transitlaw27.BoardDirects'. -/
def boardDirectsCard : Claim7 := { stood := { row := boardDirectsRow, standIns := [], harness := (true, "c522a24cbd7cec882e62b38bb701b2d1d7526c44bc181dbc9204072cf86a3109"), looks := false }, kinds := [], alts := [], laidByText := true, laidKinds := [.data, .data, .data], laidTests := true, laidLooks := .later }
def BoardDirectsCardSaid : Prop := Claim7.holds Tryz.pinned (.plain (OpenSpec.ofChange boardDirectsSpec)) boardDirectsCard

/-- THE TIED CARD OF 'transitlaw27.BoardTexts'. -/
def boardTextsCard : Claim7 := { stood := { row := boardTextsRow, standIns := [], harness := (true, "c522a24cbd7cec882e62b38bb701b2d1d7526c44bc181dbc9204072cf86a3109"), looks := false }, kinds := [], alts := [], laidByText := true, laidKinds := [.data, .data, .data], laidTests := true, laidLooks := .later }
def BoardTextsCardSaid : Prop := Claim7.holds Tryz.pinned (.plain (OpenSpec.ofChange boardTextsSpec)) boardTextsCard

/-- THE TIED CARD OF 'transitlaw27.BoardComplete'. -/
def boardCompleteCard : Claim7 := { stood := { row := boardCompleteRow, standIns := [], harness := (true, "c522a24cbd7cec882e62b38bb701b2d1d7526c44bc181dbc9204072cf86a3109"), looks := false }, kinds := [], alts := [], laidByText := true, laidKinds := [.data, .data, .data], laidTests := true, laidLooks := .later }
def BoardCompleteCardSaid : Prop := Claim7.holds Tryz.pinned (.plain (OpenSpec.ofChange boardCompleteSpec)) boardCompleteCard

/-- THE TIED CARD OF 'transitlaw27.BoardRanges'. -/
def boardRangesCard : Claim7 := { stood := { row := boardRangesRow, standIns := [], harness := (true, "c522a24cbd7cec882e62b38bb701b2d1d7526c44bc181dbc9204072cf86a3109"), looks := false }, kinds := [], alts := [], laidByText := true, laidKinds := [.data, .data, .data], laidTests := true, laidLooks := .later }
def BoardRangesCardSaid : Prop := Claim7.holds Tryz.pinned (.plain (OpenSpec.ofChange boardRangesSpec)) boardRangesCard

/-- THE TIED CARD OF 'transitlaw27.BoardLeads'. -/
def boardLeadsCard : Claim7 := { stood := { row := boardLeadsRow, standIns := [], harness := (true, "c522a24cbd7cec882e62b38bb701b2d1d7526c44bc181dbc9204072cf86a3109"), looks := false }, kinds := [], alts := [], laidByText := true, laidKinds := [.data, .data, .data], laidTests := true, laidLooks := .later }
def BoardLeadsCardSaid : Prop := Claim7.holds Tryz.pinned (.plain (OpenSpec.ofChange boardLeadsSpec)) boardLeadsCard

/-- THE SECOND FORM's CARD OF 'transitlaw27.BoardDepartures'. -/
def boardDeparturesUptoCard : Claim7 := { stood := { row := boardDeparturesUptoRow, standIns := [], harness := (true, "c522a24cbd7cec882e62b38bb701b2d1d7526c44bc181dbc9204072cf86a3109"), looks := false }, kinds := [], alts := [], laidByText := true, laidKinds := [.data, .data, .data], laidTests := true, laidLooks := .later }
def BoardDeparturesUptoCardSaid : Prop := Claim7.holds Tryz.pinned (.plain (OpenSpec.upto boardDeparturesSpec)) boardDeparturesUptoCard

/-- THE SECOND FORM's CARD OF 'transitlaw27.BoardArrivals'. -/
def boardArrivalsUptoCard : Claim7 := { stood := { row := boardArrivalsUptoRow, standIns := [], harness := (true, "c522a24cbd7cec882e62b38bb701b2d1d7526c44bc181dbc9204072cf86a3109"), looks := false }, kinds := [], alts := [], laidByText := true, laidKinds := [.data, .data, .data], laidTests := true, laidLooks := .later }
def BoardArrivalsUptoCardSaid : Prop := Claim7.holds Tryz.pinned (.plain (OpenSpec.upto boardArrivalsSpec)) boardArrivalsUptoCard

/-- THE SECOND FORM's CARD OF 'transitlaw27.BoardDirects'. -/
def boardDirectsUptoCard : Claim7 := { stood := { row := boardDirectsUptoRow, standIns := [], harness := (true, "c522a24cbd7cec882e62b38bb701b2d1d7526c44bc181dbc9204072cf86a3109"), looks := false }, kinds := [], alts := [], laidByText := true, laidKinds := [.data, .data, .data], laidTests := true, laidLooks := .later }
def BoardDirectsUptoCardSaid : Prop := Claim7.holds Tryz.pinned (.plain (OpenSpec.upto boardDirectsSpec)) boardDirectsUptoCard

/-- THE SECOND FORM's CARD OF 'transitlaw27.BoardTexts'. -/
def boardTextsUptoCard : Claim7 := { stood := { row := boardTextsUptoRow, standIns := [], harness := (true, "c522a24cbd7cec882e62b38bb701b2d1d7526c44bc181dbc9204072cf86a3109"), looks := false }, kinds := [], alts := [], laidByText := true, laidKinds := [.data, .data, .data], laidTests := true, laidLooks := .later }
def BoardTextsUptoCardSaid : Prop := Claim7.holds Tryz.pinned (.plain (OpenSpec.upto boardTextsSpec)) boardTextsUptoCard

/-- THE SECOND FORM's CARD OF 'transitlaw27.BoardComplete'. -/
def boardCompleteUptoCard : Claim7 := { stood := { row := boardCompleteUptoRow, standIns := [], harness := (true, "c522a24cbd7cec882e62b38bb701b2d1d7526c44bc181dbc9204072cf86a3109"), looks := false }, kinds := [], alts := [], laidByText := true, laidKinds := [.data, .data, .data], laidTests := true, laidLooks := .later }
def BoardCompleteUptoCardSaid : Prop := Claim7.holds Tryz.pinned (.plain (OpenSpec.upto boardCompleteSpec)) boardCompleteUptoCard

/-- THE SECOND FORM's CARD OF 'transitlaw27.BoardRanges'. -/
def boardRangesUptoCard : Claim7 := { stood := { row := boardRangesUptoRow, standIns := [], harness := (true, "c522a24cbd7cec882e62b38bb701b2d1d7526c44bc181dbc9204072cf86a3109"), looks := false }, kinds := [], alts := [], laidByText := true, laidKinds := [.data, .data, .data], laidTests := true, laidLooks := .later }
def BoardRangesUptoCardSaid : Prop := Claim7.holds Tryz.pinned (.plain (OpenSpec.upto boardRangesSpec)) boardRangesUptoCard

/-- THE SECOND FORM's CARD OF 'transitlaw27.BoardLeads'. -/
def boardLeadsUptoCard : Claim7 := { stood := { row := boardLeadsUptoRow, standIns := [], harness := (true, "c522a24cbd7cec882e62b38bb701b2d1d7526c44bc181dbc9204072cf86a3109"), looks := false }, kinds := [], alts := [], laidByText := true, laidKinds := [.data, .data, .data], laidTests := true, laidLooks := .later }
def BoardLeadsUptoCardSaid : Prop := Claim7.holds Tryz.pinned (.plain (OpenSpec.upto boardLeadsSpec)) boardLeadsUptoCard
end Rows
end Go.Proofs.YtaeildkdonhmiaaGreatDoor
