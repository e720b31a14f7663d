/-
  No cell of these rows narrows 'for every input' (looked for: loops, veiled, ifaces, maps, wideKeys, modest, calm, conditions, laid).
  DERIVED. THE GIVEN ROWS OF THIS SEAT. 5 by the template 'for every input the law returns true; each argument reads behind the call as it read before'; 0 by the template 'total and deterministic' (their statements: YtbjnllepfnbaoaaTotals.lean).
  GIVEN WITH THE SEED: the statements are not yours to turn. If you find one false, say at which input.
  Laid BY PROGRAM, IN A SANDBOX (cutbox-rows.mjs): the forced cells as the released guide's own fill.sh prints them over the translation 46386defe4a94434… (all of the seat's roots in one cut). By AI agents, Wed Nov 11 2026. No macro, syntax, notation, axiom, sorry.
-/
import Derived.Test.YtbjnllepfnbaoaaChecked
import GoSem.Claim
import GoSem.ClaimJoined
import GoSem.ClaimMapViews
import Derived.JoinedTies
import Derived.KernelRfl
namespace Go.Proofs.Ytbjnllepfnbaoaa
/- THE CELL 'sum', in the pinned program and in every row, IS THE sha256 OF THE DUMP (.gsa) THAT YtbjnllepfnbaoaaProg.lean LOADS. Nothing in Lean hashes anything: it is a label: what it is worth is what the hold of that sum in a sandbox is worth. -/
noncomputable def Try.pinned : Pinned := { name := "ytbjnllepfnbaoaa", sum := "46386defe4a944346ed29364a80f77b6ec94af87ce443cc1d3bd5f1db7904af0", checked := Try.checked }
namespace Rows
def none {H : Type} : Left H := { results := [], args := [] }

/-- 'transitlaw38.JourneyRides': WHATEVER THE INPUT: true; the input reads as it did. -/
def journeyRidesSpec : ChangeSpec := { name := "journeyRides", fn := fun _ => fun
  | [d1, d2] => { results := [.lit (.bool true)], args := [d1, d2] }
  | _ => none }
def journeyRidesRow : OpenClaim := { program := "ytbjnllepfnbaoaa", sum := "46386defe4a944346ed29364a80f77b6ec94af87ce443cc1d3bd5f1db7904af0", func := "transit/transitlaw38.JourneyRides", spec := "journeyRides", unfollowed := true, recurses := true, plainKeys := false, apart := false }
def JourneyRidesSaid : Prop := journeyRidesRow.holds Try.pinned (OpenSpec.ofChange journeyRidesSpec)

/-- ITS FALSE NEIGHBOUR: 'it returns false'. Refute it at one input. -/
def journeyRidesWrong : ChangeSpec := { name := "journeyRides", fn := fun _ => fun
  | [d1, d2] => { results := [.lit (.bool false)], args := [d1, d2] }
  | _ => none }
def JourneyRidesWrongFalsely : Prop := journeyRidesRow.holds Try.pinned (OpenSpec.ofChange journeyRidesWrong)

/-- 'transitlaw38.JourneyStay': WHATEVER THE INPUT: true; the input reads as it did. -/
def journeyStaySpec : ChangeSpec := { name := "journeyStay", fn := fun _ => fun
  | [d1, d2] => { results := [.lit (.bool true)], args := [d1, d2] }
  | _ => none }
def journeyStayRow : OpenClaim := { program := "ytbjnllepfnbaoaa", sum := "46386defe4a944346ed29364a80f77b6ec94af87ce443cc1d3bd5f1db7904af0", func := "transit/transitlaw38.JourneyStay", spec := "journeyStay", unfollowed := true, recurses := true, plainKeys := false, apart := false }
def JourneyStaySaid : Prop := journeyStayRow.holds Try.pinned (OpenSpec.ofChange journeyStaySpec)

/-- ITS FALSE NEIGHBOUR: 'it returns false'. Refute it at one input. -/
def journeyStayWrong : ChangeSpec := { name := "journeyStay", fn := fun _ => fun
  | [d1, d2] => { results := [.lit (.bool false)], args := [d1, d2] }
  | _ => none }
def JourneyStayWrongFalsely : Prop := journeyStayRow.holds Try.pinned (OpenSpec.ofChange journeyStayWrong)

/-- 'transitlaw38.JourneyWalk': WHATEVER THE INPUT: true; the input reads as it did. -/
def journeyWalkSpec : ChangeSpec := { name := "journeyWalk", fn := fun _ => fun
  | [d] => { results := [.lit (.bool true)], args := [d] }
  | _ => none }
def journeyWalkRow : OpenClaim := { program := "ytbjnllepfnbaoaa", sum := "46386defe4a944346ed29364a80f77b6ec94af87ce443cc1d3bd5f1db7904af0", func := "transit/transitlaw38.JourneyWalk", spec := "journeyWalk", unfollowed := true, recurses := true, plainKeys := false, apart := false }
def JourneyWalkSaid : Prop := journeyWalkRow.holds Try.pinned (OpenSpec.ofChange journeyWalkSpec)

/-- ITS FALSE NEIGHBOUR: 'it returns false'. Refute it at one input. -/
def journeyWalkWrong : ChangeSpec := { name := "journeyWalk", fn := fun _ => fun
  | [d] => { results := [.lit (.bool false)], args := [d] }
  | _ => none }
def JourneyWalkWrongFalsely : Prop := journeyWalkRow.holds Try.pinned (OpenSpec.ofChange journeyWalkWrong)

/-- 'transitlaw38.JourneyEqual': WHATEVER THE INPUT: true; the input reads as it did. -/
def journeyEqualSpec : ChangeSpec := { name := "journeyEqual", fn := fun _ => fun
  | [d1, d2] => { results := [.lit (.bool true)], args := [d1, d2] }
  | _ => none }
def journeyEqualRow : OpenClaim := { program := "ytbjnllepfnbaoaa", sum := "46386defe4a944346ed29364a80f77b6ec94af87ce443cc1d3bd5f1db7904af0", func := "transit/transitlaw38.JourneyEqual", spec := "journeyEqual", unfollowed := true, recurses := true, plainKeys := false, apart := false }
def JourneyEqualSaid : Prop := journeyEqualRow.holds Try.pinned (OpenSpec.ofChange journeyEqualSpec)

/-- ITS FALSE NEIGHBOUR: 'it returns false'. Refute it at one input. -/
def journeyEqualWrong : ChangeSpec := { name := "journeyEqual", fn := fun _ => fun
  | [d1, d2] => { results := [.lit (.bool false)], args := [d1, d2] }
  | _ => none }
def JourneyEqualWrongFalsely : Prop := journeyEqualRow.holds Try.pinned (OpenSpec.ofChange journeyEqualWrong)

/-- 'transitlaw38.JourneyJoin': WHATEVER THE INPUT: true; the input reads as it did. -/
def journeyJoinSpec : ChangeSpec := { name := "journeyJoin", fn := fun _ => fun
  | [d1, d2, d3] => { results := [.lit (.bool true)], args := [d1, d2, d3] }
  | _ => none }
def journeyJoinRow : OpenClaim := { program := "ytbjnllepfnbaoaa", sum := "46386defe4a944346ed29364a80f77b6ec94af87ce443cc1d3bd5f1db7904af0", func := "transit/transitlaw38.JourneyJoin", spec := "journeyJoin", unfollowed := true, recurses := true, plainKeys := false, apart := false }
def JourneyJoinSaid : Prop := journeyJoinRow.holds Try.pinned (OpenSpec.ofChange journeyJoinSpec)

/-- ITS FALSE NEIGHBOUR: 'it returns false'. Refute it at one input. -/
def journeyJoinWrong : ChangeSpec := { name := "journeyJoin", fn := fun _ => fun
  | [d1, d2, d3] => { results := [.lit (.bool false)], args := [d1, d2, d3] }
  | _ => none }
def JourneyJoinWrongFalsely : Prop := journeyJoinRow.holds Try.pinned (OpenSpec.ofChange journeyJoinWrong)

/- THE SECOND FORM. 'bulk': how many values and letters a reading holds, each counted each time it is reached (what is shared counts as often as it is met; a slice's spare places count too). A statement '..UptoSaid' is the law's where the arguments, and the package variables that the reading takes, are together of bulk at most 1048576: NARROWER than '..Said'. Prove '..Said' where nothing that the law and all that it calls make is longer than what came in: it says more and counts as full. Else prove '..UptoSaid'. A law counts once. -/
mutual
def uptoBulk {H : Type} : DataW H → Nat
  | .lit (.string bytes) => bytes.length + 1
  | .lit _ => 1
  | .nil => 1
  | .ptr d => uptoBulk d + 1
  | .slice elems spare => uptoBulkAll elems + uptoBulkAll spare + 1
  | .agg parts => uptoBulkAll parts + 1
  | .iface _ d => uptoBulk d + 1
  | .map entries => uptoBulkEntries entries + 1
  | .held _ => 1
def uptoBulkAll {H : Type} : List (DataW H) → Nat
  | [] => 0
  | d :: r => uptoBulk d + uptoBulkAll r
def uptoBulkEntries {H : Type} : List (Lit × DataW H) → Nat
  | [] => 0
  | x :: r => uptoBulkEntry x + uptoBulkEntries r
def uptoBulkEntry {H : Type} : Lit × DataW H → Nat
  | (.string bytes, d) => bytes.length + uptoBulk d + 1
  | (_, d) => uptoBulk d + 1
 end
def uptoSmall : (H : Type) → List (DataW H) → Bool := fun _ ds => decide (uptoBulkAll ds ≤ 1048576)
def OpenSpec.upto (s : _root_.Go.ChangeSpec) : _root_.Go.OpenSpec := { _root_.Go.OpenSpec.ofChange s with cond := some uptoSmall }

/-- 'transitlaw38.JourneyRides', WHERE WHAT IT READS IS OF BULK AT MOST 1048576: true; the input reads as it did. -/
def journeyRidesUptoRow : OpenClaim := { program := "ytbjnllepfnbaoaa", sum := "46386defe4a944346ed29364a80f77b6ec94af87ce443cc1d3bd5f1db7904af0", func := "transit/transitlaw38.JourneyRides", spec := "journeyRides", unfollowed := true, recurses := true, plainKeys := false, apart := false, narrowed := true }
def JourneyRidesUptoSaid : Prop := journeyRidesUptoRow.holds Try.pinned (OpenSpec.upto journeyRidesSpec)

/-- 'transitlaw38.JourneyStay', WHERE WHAT IT READS IS OF BULK AT MOST 1048576: true; the input reads as it did. -/
def journeyStayUptoRow : OpenClaim := { program := "ytbjnllepfnbaoaa", sum := "46386defe4a944346ed29364a80f77b6ec94af87ce443cc1d3bd5f1db7904af0", func := "transit/transitlaw38.JourneyStay", spec := "journeyStay", unfollowed := true, recurses := true, plainKeys := false, apart := false, narrowed := true }
def JourneyStayUptoSaid : Prop := journeyStayUptoRow.holds Try.pinned (OpenSpec.upto journeyStaySpec)

/-- 'transitlaw38.JourneyWalk', WHERE WHAT IT READS IS OF BULK AT MOST 1048576: true; the input reads as it did. -/
def journeyWalkUptoRow : OpenClaim := { program := "ytbjnllepfnbaoaa", sum := "46386defe4a944346ed29364a80f77b6ec94af87ce443cc1d3bd5f1db7904af0", func := "transit/transitlaw38.JourneyWalk", spec := "journeyWalk", unfollowed := true, recurses := true, plainKeys := false, apart := false, narrowed := true }
def JourneyWalkUptoSaid : Prop := journeyWalkUptoRow.holds Try.pinned (OpenSpec.upto journeyWalkSpec)

/-- 'transitlaw38.JourneyEqual', WHERE WHAT IT READS IS OF BULK AT MOST 1048576: true; the input reads as it did. -/
def journeyEqualUptoRow : OpenClaim := { program := "ytbjnllepfnbaoaa", sum := "46386defe4a944346ed29364a80f77b6ec94af87ce443cc1d3bd5f1db7904af0", func := "transit/transitlaw38.JourneyEqual", spec := "journeyEqual", unfollowed := true, recurses := true, plainKeys := false, apart := false, narrowed := true }
def JourneyEqualUptoSaid : Prop := journeyEqualUptoRow.holds Try.pinned (OpenSpec.upto journeyEqualSpec)

/-- 'transitlaw38.JourneyJoin', WHERE WHAT IT READS IS OF BULK AT MOST 1048576: true; the input reads as it did. -/
def journeyJoinUptoRow : OpenClaim := { program := "ytbjnllepfnbaoaa", sum := "46386defe4a944346ed29364a80f77b6ec94af87ce443cc1d3bd5f1db7904af0", func := "transit/transitlaw38.JourneyJoin", spec := "journeyJoin", unfollowed := true, recurses := true, plainKeys := false, apart := false, narrowed := true }
def JourneyJoinUptoSaid : Prop := journeyJoinUptoRow.holds Try.pinned (OpenSpec.upto journeyJoinSpec)

end Rows
end Go.Proofs.Ytbjnllepfnbaoaa
