/-
  No cell of these rows narrows 'for every input' (looked for: loops, veiled, ifaces, maps, wideKeys, modest, calm, conditions, laid).
  DERIVED. THE GIVEN ROWS OF THIS SEAT. 8 by the template 'for every input the law returns true; each argument reads behind the call as it read before'; 0 by the template 'total and deterministic' (their statements: YtibiblkamaajeaaGreatTotals.lean).
  GIVEN WITH THE SEED: the statements are not yours to turn. If you find one false, say at which input.
  Laid BY PROGRAM, IN A SANDBOX (cutbox-rows.mjs): the forced cells as the released guide's own fill.sh prints them over the translation 10f10c4b12dd239b… (all of the seat's roots in one cut). By AI agents, Wed Nov 11 2026. No macro, syntax, notation, axiom, sorry.
-/
import Derived.Test.YtibiblkamaajeaaGreatChecked
import GoSem.Claim
import GoSem.ClaimJoined
import GoSem.ClaimMapViews
import Derived.JoinedTies
import Derived.KernelRfl
namespace Go.Proofs.YtibiblkamaajeaaGreat
/- THE CELL 'sum', in the pinned program and in every row, IS THE sha256 OF THE DUMP (.gsa) THAT YtibiblkamaajeaaGreatProg.lean LOADS. Nothing in Lean hashes anything: it is a label: what it is worth is what the hold of that sum in a sandbox is worth. -/
noncomputable def Tryz.pinned : Pinned := { name := "ytibiblkamaajeaagreat", sum := "10f10c4b12dd239bfdc83207bc190d0bfdd972de97a7e8ddb9ca4ac69e1447fe", checked := Tryz.checked }
namespace Rows
def none {H : Type} : Left H := { results := [], args := [] }

/-- 'transitlaw41.RoundsRefuses': WHATEVER THE INPUT: true; the input reads as it did. -/
def roundsRefusesSpec : ChangeSpec := { name := "roundsRefuses", fn := fun _ => fun
  | [d1, d2, d3] => { results := [.lit (.bool true)], args := [d1, d2, d3] }
  | _ => none }
def roundsRefusesRow : OpenClaim := { program := "ytibiblkamaajeaagreat", sum := "10f10c4b12dd239bfdc83207bc190d0bfdd972de97a7e8ddb9ca4ac69e1447fe", func := "transit/transitlaw41.RoundsRefuses", spec := "roundsRefuses", unfollowed := true, recurses := true, plainKeys := false, apart := false }
def RoundsRefusesSaid : Prop := roundsRefusesRow.holds Tryz.pinned (OpenSpec.ofChange roundsRefusesSpec)

/-- ITS FALSE NEIGHBOUR: 'it returns false'. Refute it at one input. -/
def roundsRefusesWrong : ChangeSpec := { name := "roundsRefuses", fn := fun _ => fun
  | [d1, d2, d3] => { results := [.lit (.bool false)], args := [d1, d2, d3] }
  | _ => none }
def RoundsRefusesWrongFalsely : Prop := roundsRefusesRow.holds Tryz.pinned (OpenSpec.ofChange roundsRefusesWrong)

/-- 'transitlaw41.RoundsArrivals': WHATEVER THE INPUT: true; the input reads as it did. -/
def roundsArrivalsSpec : ChangeSpec := { name := "roundsArrivals", fn := fun _ => fun
  | [d1, d2, d3] => { results := [.lit (.bool true)], args := [d1, d2, d3] }
  | _ => none }
def roundsArrivalsRow : OpenClaim := { program := "ytibiblkamaajeaagreat", sum := "10f10c4b12dd239bfdc83207bc190d0bfdd972de97a7e8ddb9ca4ac69e1447fe", func := "transit/transitlaw41.RoundsArrivals", spec := "roundsArrivals", unfollowed := true, recurses := true, plainKeys := false, apart := false }
def RoundsArrivalsSaid : Prop := roundsArrivalsRow.holds Tryz.pinned (OpenSpec.ofChange roundsArrivalsSpec)

/-- ITS FALSE NEIGHBOUR: 'it returns false'. Refute it at one input. -/
def roundsArrivalsWrong : ChangeSpec := { name := "roundsArrivals", fn := fun _ => fun
  | [d1, d2, d3] => { results := [.lit (.bool false)], args := [d1, d2, d3] }
  | _ => none }
def RoundsArrivalsWrongFalsely : Prop := roundsArrivalsRow.holds Tryz.pinned (OpenSpec.ofChange roundsArrivalsWrong)

/-- 'transitlaw41.RoundsEarliest': WHATEVER THE INPUT: true; the input reads as it did. -/
def roundsEarliestSpec : ChangeSpec := { name := "roundsEarliest", fn := fun _ => fun
  | [d1, d2] => { results := [.lit (.bool true)], args := [d1, d2] }
  | _ => none }
def roundsEarliestRow : OpenClaim := { program := "ytibiblkamaajeaagreat", sum := "10f10c4b12dd239bfdc83207bc190d0bfdd972de97a7e8ddb9ca4ac69e1447fe", func := "transit/transitlaw41.RoundsEarliest", spec := "roundsEarliest", unfollowed := true, recurses := true, plainKeys := false, apart := false }
def RoundsEarliestSaid : Prop := roundsEarliestRow.holds Tryz.pinned (OpenSpec.ofChange roundsEarliestSpec)

/-- ITS FALSE NEIGHBOUR: 'it returns false'. Refute it at one input. -/
def roundsEarliestWrong : ChangeSpec := { name := "roundsEarliest", fn := fun _ => fun
  | [d1, d2] => { results := [.lit (.bool false)], args := [d1, d2] }
  | _ => none }
def RoundsEarliestWrongFalsely : Prop := roundsEarliestRow.holds Tryz.pinned (OpenSpec.ofChange roundsEarliestWrong)

/-- 'transitlaw41.RoundsFewest': WHATEVER THE INPUT: true; the input reads as it did. -/
def roundsFewestSpec : ChangeSpec := { name := "roundsFewest", fn := fun _ => fun
  | [d1, d2, d3] => { results := [.lit (.bool true)], args := [d1, d2, d3] }
  | _ => none }
def roundsFewestRow : OpenClaim := { program := "ytibiblkamaajeaagreat", sum := "10f10c4b12dd239bfdc83207bc190d0bfdd972de97a7e8ddb9ca4ac69e1447fe", func := "transit/transitlaw41.RoundsFewest", spec := "roundsFewest", unfollowed := true, recurses := true, plainKeys := false, apart := false }
def RoundsFewestSaid : Prop := roundsFewestRow.holds Tryz.pinned (OpenSpec.ofChange roundsFewestSpec)

/-- ITS FALSE NEIGHBOUR: 'it returns false'. Refute it at one input. -/
def roundsFewestWrong : ChangeSpec := { name := "roundsFewest", fn := fun _ => fun
  | [d1, d2, d3] => { results := [.lit (.bool false)], args := [d1, d2, d3] }
  | _ => none }
def RoundsFewestWrongFalsely : Prop := roundsFewestRow.holds Tryz.pinned (OpenSpec.ofChange roundsFewestWrong)

/-- 'transitlaw41.RoundsImproves': WHATEVER THE INPUT: true; the input reads as it did. -/
def roundsImprovesSpec : ChangeSpec := { name := "roundsImproves", fn := fun _ => fun
  | [d1, d2] => { results := [.lit (.bool true)], args := [d1, d2] }
  | _ => none }
def roundsImprovesRow : OpenClaim := { program := "ytibiblkamaajeaagreat", sum := "10f10c4b12dd239bfdc83207bc190d0bfdd972de97a7e8ddb9ca4ac69e1447fe", func := "transit/transitlaw41.RoundsImproves", spec := "roundsImproves", unfollowed := true, recurses := true, plainKeys := false, apart := false }
def RoundsImprovesSaid : Prop := roundsImprovesRow.holds Tryz.pinned (OpenSpec.ofChange roundsImprovesSpec)

/-- ITS FALSE NEIGHBOUR: 'it returns false'. Refute it at one input. -/
def roundsImprovesWrong : ChangeSpec := { name := "roundsImproves", fn := fun _ => fun
  | [d1, d2] => { results := [.lit (.bool false)], args := [d1, d2] }
  | _ => none }
def RoundsImprovesWrongFalsely : Prop := roundsImprovesRow.holds Tryz.pinned (OpenSpec.ofChange roundsImprovesWrong)

/-- 'transitlaw41.RoundsAgrees': WHATEVER THE INPUT: true; the input reads as it did. -/
def roundsAgreesSpec : ChangeSpec := { name := "roundsAgrees", fn := fun _ => fun
  | [d1, d2] => { results := [.lit (.bool true)], args := [d1, d2] }
  | _ => none }
def roundsAgreesRow : OpenClaim := { program := "ytibiblkamaajeaagreat", sum := "10f10c4b12dd239bfdc83207bc190d0bfdd972de97a7e8ddb9ca4ac69e1447fe", func := "transit/transitlaw41.RoundsAgrees", spec := "roundsAgrees", unfollowed := true, recurses := true, plainKeys := false, apart := false }
def RoundsAgreesSaid : Prop := roundsAgreesRow.holds Tryz.pinned (OpenSpec.ofChange roundsAgreesSpec)

/-- ITS FALSE NEIGHBOUR: 'it returns false'. Refute it at one input. -/
def roundsAgreesWrong : ChangeSpec := { name := "roundsAgrees", fn := fun _ => fun
  | [d1, d2] => { results := [.lit (.bool false)], args := [d1, d2] }
  | _ => none }
def RoundsAgreesWrongFalsely : Prop := roundsAgreesRow.holds Tryz.pinned (OpenSpec.ofChange roundsAgreesWrong)

/-- 'transitlaw41.RoundsBounds': WHATEVER THE INPUT: true; the input reads as it did. -/
def roundsBoundsSpec : ChangeSpec := { name := "roundsBounds", fn := fun _ => fun
  | [d1, d2, d3] => { results := [.lit (.bool true)], args := [d1, d2, d3] }
  | _ => none }
def roundsBoundsRow : OpenClaim := { program := "ytibiblkamaajeaagreat", sum := "10f10c4b12dd239bfdc83207bc190d0bfdd972de97a7e8ddb9ca4ac69e1447fe", func := "transit/transitlaw41.RoundsBounds", spec := "roundsBounds", unfollowed := true, recurses := true, plainKeys := false, apart := false }
def RoundsBoundsSaid : Prop := roundsBoundsRow.holds Tryz.pinned (OpenSpec.ofChange roundsBoundsSpec)

/-- ITS FALSE NEIGHBOUR: 'it returns false'. Refute it at one input. -/
def roundsBoundsWrong : ChangeSpec := { name := "roundsBounds", fn := fun _ => fun
  | [d1, d2, d3] => { results := [.lit (.bool false)], args := [d1, d2, d3] }
  | _ => none }
def RoundsBoundsWrongFalsely : Prop := roundsBoundsRow.holds Tryz.pinned (OpenSpec.ofChange roundsBoundsWrong)

/-- 'transitlaw41.RoundsWaits': WHATEVER THE INPUT: true; the input reads as it did. -/
def roundsWaitsSpec : ChangeSpec := { name := "roundsWaits", fn := fun _ => fun
  | [d1, d2, d3] => { results := [.lit (.bool true)], args := [d1, d2, d3] }
  | _ => none }
def roundsWaitsRow : OpenClaim := { program := "ytibiblkamaajeaagreat", sum := "10f10c4b12dd239bfdc83207bc190d0bfdd972de97a7e8ddb9ca4ac69e1447fe", func := "transit/transitlaw41.RoundsWaits", spec := "roundsWaits", unfollowed := true, recurses := true, plainKeys := false, apart := false }
def RoundsWaitsSaid : Prop := roundsWaitsRow.holds Tryz.pinned (OpenSpec.ofChange roundsWaitsSpec)

/-- ITS FALSE NEIGHBOUR: 'it returns false'. Refute it at one input. -/
def roundsWaitsWrong : ChangeSpec := { name := "roundsWaits", fn := fun _ => fun
  | [d1, d2, d3] => { results := [.lit (.bool false)], args := [d1, d2, d3] }
  | _ => none }
def RoundsWaitsWrongFalsely : Prop := roundsWaitsRow.holds Tryz.pinned (OpenSpec.ofChange roundsWaitsWrong)

/- THE SECOND FORM. 'bulk': how many values and letters a reading holds, each counted each time it is reached (what is shared counts as often as it is met; a slice's spare places count too). A statement '..UptoSaid' is the law's where the arguments, and the package variables that the reading takes, are together of bulk at most 1048576: NARROWER than '..Said'. Prove '..Said' where nothing that the law and all that it calls make is longer than what came in: it says more and counts as full. Else prove '..UptoSaid'. A law counts once. -/
mutual
def uptoBulk {H : Type} : DataW H → Nat
  | .lit (.string bytes) => bytes.length + 1
  | .lit _ => 1
  | .nil => 1
  | .ptr d => uptoBulk d + 1
  | .slice elems spare => uptoBulkAll elems + uptoBulkAll spare + 1
  | .agg parts => uptoBulkAll parts + 1
  | .iface _ d => uptoBulk d + 1
  | .map entries => uptoBulkEntries entries + 1
  | .held _ => 1
def uptoBulkAll {H : Type} : List (DataW H) → Nat
  | [] => 0
  | d :: r => uptoBulk d + uptoBulkAll r
def uptoBulkEntries {H : Type} : List (Lit × DataW H) → Nat
  | [] => 0
  | x :: r => uptoBulkEntry x + uptoBulkEntries r
def uptoBulkEntry {H : Type} : Lit × DataW H → Nat
  | (.string bytes, d) => bytes.length + uptoBulk d + 1
  | (_, d) => uptoBulk d + 1
 end
def uptoSmall : (H : Type) → List (DataW H) → Bool := fun _ ds => decide (uptoBulkAll ds ≤ 1048576)
def OpenSpec.upto (s : _root_.Go.ChangeSpec) : _root_.Go.OpenSpec := { _root_.Go.OpenSpec.ofChange s with cond := some uptoSmall }

/-- 'transitlaw41.RoundsRefuses', WHERE WHAT IT READS IS OF BULK AT MOST 1048576: true; the input reads as it did. -/
def roundsRefusesUptoRow : OpenClaim := { program := "ytibiblkamaajeaagreat", sum := "10f10c4b12dd239bfdc83207bc190d0bfdd972de97a7e8ddb9ca4ac69e1447fe", func := "transit/transitlaw41.RoundsRefuses", spec := "roundsRefuses", unfollowed := true, recurses := true, plainKeys := false, apart := false, narrowed := true }
def RoundsRefusesUptoSaid : Prop := roundsRefusesUptoRow.holds Tryz.pinned (OpenSpec.upto roundsRefusesSpec)

/-- 'transitlaw41.RoundsArrivals', WHERE WHAT IT READS IS OF BULK AT MOST 1048576: true; the input reads as it did. -/
def roundsArrivalsUptoRow : OpenClaim := { program := "ytibiblkamaajeaagreat", sum := "10f10c4b12dd239bfdc83207bc190d0bfdd972de97a7e8ddb9ca4ac69e1447fe", func := "transit/transitlaw41.RoundsArrivals", spec := "roundsArrivals", unfollowed := true, recurses := true, plainKeys := false, apart := false, narrowed := true }
def RoundsArrivalsUptoSaid : Prop := roundsArrivalsUptoRow.holds Tryz.pinned (OpenSpec.upto roundsArrivalsSpec)

/-- 'transitlaw41.RoundsEarliest', WHERE WHAT IT READS IS OF BULK AT MOST 1048576: true; the input reads as it did. -/
def roundsEarliestUptoRow : OpenClaim := { program := "ytibiblkamaajeaagreat", sum := "10f10c4b12dd239bfdc83207bc190d0bfdd972de97a7e8ddb9ca4ac69e1447fe", func := "transit/transitlaw41.RoundsEarliest", spec := "roundsEarliest", unfollowed := true, recurses := true, plainKeys := false, apart := false, narrowed := true }
def RoundsEarliestUptoSaid : Prop := roundsEarliestUptoRow.holds Tryz.pinned (OpenSpec.upto roundsEarliestSpec)

/-- 'transitlaw41.RoundsFewest', WHERE WHAT IT READS IS OF BULK AT MOST 1048576: true; the input reads as it did. -/
def roundsFewestUptoRow : OpenClaim := { program := "ytibiblkamaajeaagreat", sum := "10f10c4b12dd239bfdc83207bc190d0bfdd972de97a7e8ddb9ca4ac69e1447fe", func := "transit/transitlaw41.RoundsFewest", spec := "roundsFewest", unfollowed := true, recurses := true, plainKeys := false, apart := false, narrowed := true }
def RoundsFewestUptoSaid : Prop := roundsFewestUptoRow.holds Tryz.pinned (OpenSpec.upto roundsFewestSpec)

/-- 'transitlaw41.RoundsImproves', WHERE WHAT IT READS IS OF BULK AT MOST 1048576: true; the input reads as it did. -/
def roundsImprovesUptoRow : OpenClaim := { program := "ytibiblkamaajeaagreat", sum := "10f10c4b12dd239bfdc83207bc190d0bfdd972de97a7e8ddb9ca4ac69e1447fe", func := "transit/transitlaw41.RoundsImproves", spec := "roundsImproves", unfollowed := true, recurses := true, plainKeys := false, apart := false, narrowed := true }
def RoundsImprovesUptoSaid : Prop := roundsImprovesUptoRow.holds Tryz.pinned (OpenSpec.upto roundsImprovesSpec)

/-- 'transitlaw41.RoundsAgrees', WHERE WHAT IT READS IS OF BULK AT MOST 1048576: true; the input reads as it did. -/
def roundsAgreesUptoRow : OpenClaim := { program := "ytibiblkamaajeaagreat", sum := "10f10c4b12dd239bfdc83207bc190d0bfdd972de97a7e8ddb9ca4ac69e1447fe", func := "transit/transitlaw41.RoundsAgrees", spec := "roundsAgrees", unfollowed := true, recurses := true, plainKeys := false, apart := false, narrowed := true }
def RoundsAgreesUptoSaid : Prop := roundsAgreesUptoRow.holds Tryz.pinned (OpenSpec.upto roundsAgreesSpec)

/-- 'transitlaw41.RoundsBounds', WHERE WHAT IT READS IS OF BULK AT MOST 1048576: true; the input reads as it did. -/
def roundsBoundsUptoRow : OpenClaim := { program := "ytibiblkamaajeaagreat", sum := "10f10c4b12dd239bfdc83207bc190d0bfdd972de97a7e8ddb9ca4ac69e1447fe", func := "transit/transitlaw41.RoundsBounds", spec := "roundsBounds", unfollowed := true, recurses := true, plainKeys := false, apart := false, narrowed := true }
def RoundsBoundsUptoSaid : Prop := roundsBoundsUptoRow.holds Tryz.pinned (OpenSpec.upto roundsBoundsSpec)

/-- 'transitlaw41.RoundsWaits', WHERE WHAT IT READS IS OF BULK AT MOST 1048576: true; the input reads as it did. -/
def roundsWaitsUptoRow : OpenClaim := { program := "ytibiblkamaajeaagreat", sum := "10f10c4b12dd239bfdc83207bc190d0bfdd972de97a7e8ddb9ca4ac69e1447fe", func := "transit/transitlaw41.RoundsWaits", spec := "roundsWaits", unfollowed := true, recurses := true, plainKeys := false, apart := false, narrowed := true }
def RoundsWaitsUptoSaid : Prop := roundsWaitsUptoRow.holds Tryz.pinned (OpenSpec.upto roundsWaitsSpec)

end Rows
end Go.Proofs.YtibiblkamaajeaaGreat
