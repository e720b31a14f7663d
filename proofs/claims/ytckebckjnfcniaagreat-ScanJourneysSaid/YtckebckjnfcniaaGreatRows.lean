/-
  No cell of these rows narrows 'for every input' (looked for: loops, veiled, ifaces, maps, wideKeys, modest, calm, conditions, laid).
  DERIVED. THE GIVEN ROWS OF THIS SEAT. 5 by the template 'for every input the law returns true; each argument reads behind the call as it read before'; 0 by the template 'total and deterministic' (their statements: YtckebckjnfcniaaGreatTotals.lean).
  GIVEN WITH THE SEED: the statements are not yours to turn. If you find one false, say at which input.
  Laid BY PROGRAM, IN A SANDBOX (cutbox-rows.mjs): the forced cells as the released guide's own fill.sh prints them over the translation 4f2bec171a6d3a5e… (all of the seat's roots in one cut). By AI agents, Wed Nov 11 2026. No macro, syntax, notation, axiom, sorry.
-/
import Derived.Test.YtckebckjnfcniaaGreatChecked
import GoSem.Claim
import GoSem.ClaimJoined
import GoSem.ClaimMapViews
import Derived.JoinedTies
import Derived.KernelRfl
namespace Go.Proofs.YtckebckjnfcniaaGreat
/- THE CELL 'sum', in the pinned program and in every row, IS THE sha256 OF THE DUMP (.gsa) THAT YtckebckjnfcniaaGreatProg.lean LOADS. Nothing in Lean hashes anything: it is a label: what it is worth is what the hold of that sum in a sandbox is worth. -/
noncomputable def Tryz.pinned : Pinned := { name := "ytckebckjnfcniaagreat", sum := "4f2bec171a6d3a5e544316f154f6de85c2d774e49d26b0570426479d561f9f67", checked := Tryz.checked }
namespace Rows
def none {H : Type} : Left H := { results := [], args := [] }

/-- 'transitlaw42.ScanArrivals': WHATEVER THE INPUT: true; the input reads as it did. -/
def scanArrivalsSpec : ChangeSpec := { name := "scanArrivals", fn := fun _ => fun
  | [d1, d2, d3] => { results := [.lit (.bool true)], args := [d1, d2, d3] }
  | _ => none }
def scanArrivalsRow : OpenClaim := { program := "ytckebckjnfcniaagreat", sum := "4f2bec171a6d3a5e544316f154f6de85c2d774e49d26b0570426479d561f9f67", func := "transit/transitlaw42.ScanArrivals", spec := "scanArrivals", unfollowed := true, recurses := true, plainKeys := false, apart := false }
def ScanArrivalsSaid : Prop := scanArrivalsRow.holds Tryz.pinned (OpenSpec.ofChange scanArrivalsSpec)

/-- ITS FALSE NEIGHBOUR: 'it returns false'. Refute it at one input. -/
def scanArrivalsWrong : ChangeSpec := { name := "scanArrivals", fn := fun _ => fun
  | [d1, d2, d3] => { results := [.lit (.bool false)], args := [d1, d2, d3] }
  | _ => none }
def ScanArrivalsWrongFalsely : Prop := scanArrivalsRow.holds Tryz.pinned (OpenSpec.ofChange scanArrivalsWrong)

/-- 'transitlaw42.ScanJourneys': WHATEVER THE INPUT: true; the input reads as it did. -/
def scanJourneysSpec : ChangeSpec := { name := "scanJourneys", fn := fun _ => fun
  | [d1, d2] => { results := [.lit (.bool true)], args := [d1, d2] }
  | _ => none }
def scanJourneysRow : OpenClaim := { program := "ytckebckjnfcniaagreat", sum := "4f2bec171a6d3a5e544316f154f6de85c2d774e49d26b0570426479d561f9f67", func := "transit/transitlaw42.ScanJourneys", spec := "scanJourneys", unfollowed := true, recurses := true, plainKeys := false, apart := false }
def ScanJourneysSaid : Prop := scanJourneysRow.holds Tryz.pinned (OpenSpec.ofChange scanJourneysSpec)

/-- ITS FALSE NEIGHBOUR: 'it returns false'. Refute it at one input. -/
def scanJourneysWrong : ChangeSpec := { name := "scanJourneys", fn := fun _ => fun
  | [d1, d2] => { results := [.lit (.bool false)], args := [d1, d2] }
  | _ => none }
def ScanJourneysWrongFalsely : Prop := scanJourneysRow.holds Tryz.pinned (OpenSpec.ofChange scanJourneysWrong)

/-- 'transitlaw42.ScanEarliest': WHATEVER THE INPUT: true; the input reads as it did. -/
def scanEarliestSpec : ChangeSpec := { name := "scanEarliest", fn := fun _ => fun
  | [d1, d2] => { results := [.lit (.bool true)], args := [d1, d2] }
  | _ => none }
def scanEarliestRow : OpenClaim := { program := "ytckebckjnfcniaagreat", sum := "4f2bec171a6d3a5e544316f154f6de85c2d774e49d26b0570426479d561f9f67", func := "transit/transitlaw42.ScanEarliest", spec := "scanEarliest", unfollowed := true, recurses := true, plainKeys := false, apart := false }
def ScanEarliestSaid : Prop := scanEarliestRow.holds Tryz.pinned (OpenSpec.ofChange scanEarliestSpec)

/-- ITS FALSE NEIGHBOUR: 'it returns false'. Refute it at one input. -/
def scanEarliestWrong : ChangeSpec := { name := "scanEarliest", fn := fun _ => fun
  | [d1, d2] => { results := [.lit (.bool false)], args := [d1, d2] }
  | _ => none }
def ScanEarliestWrongFalsely : Prop := scanEarliestRow.holds Tryz.pinned (OpenSpec.ofChange scanEarliestWrong)

/-- 'transitlaw42.ScanWalks': WHATEVER THE INPUT: true; the input reads as it did. -/
def scanWalksSpec : ChangeSpec := { name := "scanWalks", fn := fun _ => fun
  | [d1, d2, d3] => { results := [.lit (.bool true)], args := [d1, d2, d3] }
  | _ => none }
def scanWalksRow : OpenClaim := { program := "ytckebckjnfcniaagreat", sum := "4f2bec171a6d3a5e544316f154f6de85c2d774e49d26b0570426479d561f9f67", func := "transit/transitlaw42.ScanWalks", spec := "scanWalks", unfollowed := true, recurses := true, plainKeys := false, apart := false }
def ScanWalksSaid : Prop := scanWalksRow.holds Tryz.pinned (OpenSpec.ofChange scanWalksSpec)

/-- ITS FALSE NEIGHBOUR: 'it returns false'. Refute it at one input. -/
def scanWalksWrong : ChangeSpec := { name := "scanWalks", fn := fun _ => fun
  | [d1, d2, d3] => { results := [.lit (.bool false)], args := [d1, d2, d3] }
  | _ => none }
def ScanWalksWrongFalsely : Prop := scanWalksRow.holds Tryz.pinned (OpenSpec.ofChange scanWalksWrong)

/-- 'transitlaw42.ScanRides': WHATEVER THE INPUT: true; the input reads as it did. -/
def scanRidesSpec : ChangeSpec := { name := "scanRides", fn := fun _ => fun
  | [d1, d2, d3] => { results := [.lit (.bool true)], args := [d1, d2, d3] }
  | _ => none }
def scanRidesRow : OpenClaim := { program := "ytckebckjnfcniaagreat", sum := "4f2bec171a6d3a5e544316f154f6de85c2d774e49d26b0570426479d561f9f67", func := "transit/transitlaw42.ScanRides", spec := "scanRides", unfollowed := true, recurses := true, plainKeys := false, apart := false }
def ScanRidesSaid : Prop := scanRidesRow.holds Tryz.pinned (OpenSpec.ofChange scanRidesSpec)

/-- ITS FALSE NEIGHBOUR: 'it returns false'. Refute it at one input. -/
def scanRidesWrong : ChangeSpec := { name := "scanRides", fn := fun _ => fun
  | [d1, d2, d3] => { results := [.lit (.bool false)], args := [d1, d2, d3] }
  | _ => none }
def ScanRidesWrongFalsely : Prop := scanRidesRow.holds Tryz.pinned (OpenSpec.ofChange scanRidesWrong)

/- THE SECOND FORM. 'bulk': how many values and letters a reading holds, each counted each time it is reached (what is shared counts as often as it is met; a slice's spare places count too). A statement '..UptoSaid' is the law's where the arguments, and the package variables that the reading takes, are together of bulk at most 1048576: NARROWER than '..Said'. Prove '..Said' where nothing that the law and all that it calls make is longer than what came in: it says more and counts as full. Else prove '..UptoSaid'. A law counts once. -/
mutual
def uptoBulk {H : Type} : DataW H → Nat
  | .lit (.string bytes) => bytes.length + 1
  | .lit _ => 1
  | .nil => 1
  | .ptr d => uptoBulk d + 1
  | .slice elems spare => uptoBulkAll elems + uptoBulkAll spare + 1
  | .agg parts => uptoBulkAll parts + 1
  | .iface _ d => uptoBulk d + 1
  | .map entries => uptoBulkEntries entries + 1
  | .held _ => 1
def uptoBulkAll {H : Type} : List (DataW H) → Nat
  | [] => 0
  | d :: r => uptoBulk d + uptoBulkAll r
def uptoBulkEntries {H : Type} : List (Lit × DataW H) → Nat
  | [] => 0
  | x :: r => uptoBulkEntry x + uptoBulkEntries r
def uptoBulkEntry {H : Type} : Lit × DataW H → Nat
  | (.string bytes, d) => bytes.length + uptoBulk d + 1
  | (_, d) => uptoBulk d + 1
 end
def uptoSmall : (H : Type) → List (DataW H) → Bool := fun _ ds => decide (uptoBulkAll ds ≤ 1048576)
def OpenSpec.upto (s : _root_.Go.ChangeSpec) : _root_.Go.OpenSpec := { _root_.Go.OpenSpec.ofChange s with cond := some uptoSmall }

/-- 'transitlaw42.ScanArrivals', WHERE WHAT IT READS IS OF BULK AT MOST 1048576: true; the input reads as it did. -/
def scanArrivalsUptoRow : OpenClaim := { program := "ytckebckjnfcniaagreat", sum := "4f2bec171a6d3a5e544316f154f6de85c2d774e49d26b0570426479d561f9f67", func := "transit/transitlaw42.ScanArrivals", spec := "scanArrivals", unfollowed := true, recurses := true, plainKeys := false, apart := false, narrowed := true }
def ScanArrivalsUptoSaid : Prop := scanArrivalsUptoRow.holds Tryz.pinned (OpenSpec.upto scanArrivalsSpec)

/-- 'transitlaw42.ScanJourneys', WHERE WHAT IT READS IS OF BULK AT MOST 1048576: true; the input reads as it did. -/
def scanJourneysUptoRow : OpenClaim := { program := "ytckebckjnfcniaagreat", sum := "4f2bec171a6d3a5e544316f154f6de85c2d774e49d26b0570426479d561f9f67", func := "transit/transitlaw42.ScanJourneys", spec := "scanJourneys", unfollowed := true, recurses := true, plainKeys := false, apart := false, narrowed := true }
def ScanJourneysUptoSaid : Prop := scanJourneysUptoRow.holds Tryz.pinned (OpenSpec.upto scanJourneysSpec)

/-- 'transitlaw42.ScanEarliest', WHERE WHAT IT READS IS OF BULK AT MOST 1048576: true; the input reads as it did. -/
def scanEarliestUptoRow : OpenClaim := { program := "ytckebckjnfcniaagreat", sum := "4f2bec171a6d3a5e544316f154f6de85c2d774e49d26b0570426479d561f9f67", func := "transit/transitlaw42.ScanEarliest", spec := "scanEarliest", unfollowed := true, recurses := true, plainKeys := false, apart := false, narrowed := true }
def ScanEarliestUptoSaid : Prop := scanEarliestUptoRow.holds Tryz.pinned (OpenSpec.upto scanEarliestSpec)

/-- 'transitlaw42.ScanWalks', WHERE WHAT IT READS IS OF BULK AT MOST 1048576: true; the input reads as it did. -/
def scanWalksUptoRow : OpenClaim := { program := "ytckebckjnfcniaagreat", sum := "4f2bec171a6d3a5e544316f154f6de85c2d774e49d26b0570426479d561f9f67", func := "transit/transitlaw42.ScanWalks", spec := "scanWalks", unfollowed := true, recurses := true, plainKeys := false, apart := false, narrowed := true }
def ScanWalksUptoSaid : Prop := scanWalksUptoRow.holds Tryz.pinned (OpenSpec.upto scanWalksSpec)

/-- 'transitlaw42.ScanRides', WHERE WHAT IT READS IS OF BULK AT MOST 1048576: true; the input reads as it did. -/
def scanRidesUptoRow : OpenClaim := { program := "ytckebckjnfcniaagreat", sum := "4f2bec171a6d3a5e544316f154f6de85c2d774e49d26b0570426479d561f9f67", func := "transit/transitlaw42.ScanRides", spec := "scanRides", unfollowed := true, recurses := true, plainKeys := false, apart := false, narrowed := true }
def ScanRidesUptoSaid : Prop := scanRidesUptoRow.holds Tryz.pinned (OpenSpec.upto scanRidesSpec)

end Rows
end Go.Proofs.YtckebckjnfcniaaGreat
