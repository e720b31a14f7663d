/-
  No cell of these rows narrows 'for every input' (looked for: loops, veiled, ifaces, maps, wideKeys, modest, calm, conditions, laid).
  DERIVED. THE GIVEN ROWS OF THIS SEAT. 9 by the template 'for every input the law returns true; each argument reads behind the call as it read before'; 0 by the template 'total and deterministic' (their statements: YtdpenljjnfmgiaaGreatTotals.lean).
  GIVEN WITH THE SEED: the statements are not yours to turn. If you find one false, say at which input.
  Laid BY PROGRAM, IN A SANDBOX (cutbox-rows.mjs): the forced cells as the released guide's own fill.sh prints them over the translation 39d23b4350a618a8… (all of the seat's roots in one cut). By AI agents, Wed Nov 11 2026. No macro, syntax, notation, axiom, sorry.
-/
import Derived.Test.YtdpenljjnfmgiaaGreatChecked
import GoSem.Claim
import GoSem.ClaimJoined
import GoSem.ClaimMapViews
import Derived.JoinedTies
import Derived.KernelRfl
namespace Go.Proofs.YtdpenljjnfmgiaaGreat
/- THE CELL 'sum', in the pinned program and in every row, IS THE sha256 OF THE DUMP (.gsa) THAT YtdpenljjnfmgiaaGreatProg.lean LOADS. Nothing in Lean hashes anything: it is a label: what it is worth is what the hold of that sum in a sandbox is worth. -/
noncomputable def Tryz.pinned : Pinned := { name := "ytdpenljjnfmgiaagreat", sum := "39d23b4350a618a8308e78df851903b1a481761d3f3045cd4a22819edd8dce42", checked := Tryz.checked }
namespace Rows
def none {H : Type} : Left H := { results := [], args := [] }

/-- 'transitlaw45.ProfileRefuses': WHATEVER THE INPUT: true; the input reads as it did. -/
def profileRefusesSpec : ChangeSpec := { name := "profileRefuses", fn := fun _ => fun
  | [d1, d2, d3] => { results := [.lit (.bool true)], args := [d1, d2, d3] }
  | _ => none }
def profileRefusesRow : OpenClaim := { program := "ytdpenljjnfmgiaagreat", sum := "39d23b4350a618a8308e78df851903b1a481761d3f3045cd4a22819edd8dce42", func := "transit/transitlaw45.ProfileRefuses", spec := "profileRefuses", unfollowed := true, recurses := true, plainKeys := false, apart := false }
def ProfileRefusesSaid : Prop := profileRefusesRow.holds Tryz.pinned (OpenSpec.ofChange profileRefusesSpec)

/-- ITS FALSE NEIGHBOUR: 'it returns false'. Refute it at one input. -/
def profileRefusesWrong : ChangeSpec := { name := "profileRefuses", fn := fun _ => fun
  | [d1, d2, d3] => { results := [.lit (.bool false)], args := [d1, d2, d3] }
  | _ => none }
def ProfileRefusesWrongFalsely : Prop := profileRefusesRow.holds Tryz.pinned (OpenSpec.ofChange profileRefusesWrong)

/-- 'transitlaw45.ProfileWindow': WHATEVER THE INPUT: true; the input reads as it did. -/
def profileWindowSpec : ChangeSpec := { name := "profileWindow", fn := fun _ => fun
  | [d1, d2, d3] => { results := [.lit (.bool true)], args := [d1, d2, d3] }
  | _ => none }
def profileWindowRow : OpenClaim := { program := "ytdpenljjnfmgiaagreat", sum := "39d23b4350a618a8308e78df851903b1a481761d3f3045cd4a22819edd8dce42", func := "transit/transitlaw45.ProfileWindow", spec := "profileWindow", unfollowed := true, recurses := true, plainKeys := false, apart := false }
def ProfileWindowSaid : Prop := profileWindowRow.holds Tryz.pinned (OpenSpec.ofChange profileWindowSpec)

/-- ITS FALSE NEIGHBOUR: 'it returns false'. Refute it at one input. -/
def profileWindowWrong : ChangeSpec := { name := "profileWindow", fn := fun _ => fun
  | [d1, d2, d3] => { results := [.lit (.bool false)], args := [d1, d2, d3] }
  | _ => none }
def ProfileWindowWrongFalsely : Prop := profileWindowRow.holds Tryz.pinned (OpenSpec.ofChange profileWindowWrong)

/-- 'transitlaw45.ProfileJourneys': WHATEVER THE INPUT: true; the input reads as it did. -/
def profileJourneysSpec : ChangeSpec := { name := "profileJourneys", fn := fun _ => fun
  | [d1, d2, d3] => { results := [.lit (.bool true)], args := [d1, d2, d3] }
  | _ => none }
def profileJourneysRow : OpenClaim := { program := "ytdpenljjnfmgiaagreat", sum := "39d23b4350a618a8308e78df851903b1a481761d3f3045cd4a22819edd8dce42", func := "transit/transitlaw45.ProfileJourneys", spec := "profileJourneys", unfollowed := true, recurses := true, plainKeys := false, apart := false }
def ProfileJourneysSaid : Prop := profileJourneysRow.holds Tryz.pinned (OpenSpec.ofChange profileJourneysSpec)

/-- ITS FALSE NEIGHBOUR: 'it returns false'. Refute it at one input. -/
def profileJourneysWrong : ChangeSpec := { name := "profileJourneys", fn := fun _ => fun
  | [d1, d2, d3] => { results := [.lit (.bool false)], args := [d1, d2, d3] }
  | _ => none }
def ProfileJourneysWrongFalsely : Prop := profileJourneysRow.holds Tryz.pinned (OpenSpec.ofChange profileJourneysWrong)

/-- 'transitlaw45.ProfileAt': WHATEVER THE INPUT: true; the input reads as it did. -/
def profileAtSpec : ChangeSpec := { name := "profileAt", fn := fun _ => fun
  | [d1, d2] => { results := [.lit (.bool true)], args := [d1, d2] }
  | _ => none }
def profileAtRow : OpenClaim := { program := "ytdpenljjnfmgiaagreat", sum := "39d23b4350a618a8308e78df851903b1a481761d3f3045cd4a22819edd8dce42", func := "transit/transitlaw45.ProfileAt", spec := "profileAt", unfollowed := true, recurses := true, plainKeys := false, apart := false }
def ProfileAtSaid : Prop := profileAtRow.holds Tryz.pinned (OpenSpec.ofChange profileAtSpec)

/-- ITS FALSE NEIGHBOUR: 'it returns false'. Refute it at one input. -/
def profileAtWrong : ChangeSpec := { name := "profileAt", fn := fun _ => fun
  | [d1, d2] => { results := [.lit (.bool false)], args := [d1, d2] }
  | _ => none }
def ProfileAtWrongFalsely : Prop := profileAtRow.holds Tryz.pinned (OpenSpec.ofChange profileAtWrong)

/-- 'transitlaw45.ProfileSteps': WHATEVER THE INPUT: true; the input reads as it did. -/
def profileStepsSpec : ChangeSpec := { name := "profileSteps", fn := fun _ => fun
  | [d] => { results := [.lit (.bool true)], args := [d] }
  | _ => none }
def profileStepsRow : OpenClaim := { program := "ytdpenljjnfmgiaagreat", sum := "39d23b4350a618a8308e78df851903b1a481761d3f3045cd4a22819edd8dce42", func := "transit/transitlaw45.ProfileSteps", spec := "profileSteps", unfollowed := true, recurses := true, plainKeys := false, apart := false }
def ProfileStepsSaid : Prop := profileStepsRow.holds Tryz.pinned (OpenSpec.ofChange profileStepsSpec)

/-- ITS FALSE NEIGHBOUR: 'it returns false'. Refute it at one input. -/
def profileStepsWrong : ChangeSpec := { name := "profileSteps", fn := fun _ => fun
  | [d] => { results := [.lit (.bool false)], args := [d] }
  | _ => none }
def ProfileStepsWrongFalsely : Prop := profileStepsRow.holds Tryz.pinned (OpenSpec.ofChange profileStepsWrong)

/-- 'transitlaw45.ProfileTexts': WHATEVER THE INPUT: true; the input reads as it did. -/
def profileTextsSpec : ChangeSpec := { name := "profileTexts", fn := fun _ => fun
  | [d] => { results := [.lit (.bool true)], args := [d] }
  | _ => none }
def profileTextsRow : OpenClaim := { program := "ytdpenljjnfmgiaagreat", sum := "39d23b4350a618a8308e78df851903b1a481761d3f3045cd4a22819edd8dce42", func := "transit/transitlaw45.ProfileTexts", spec := "profileTexts", unfollowed := true, recurses := true, plainKeys := false, apart := false }
def ProfileTextsSaid : Prop := profileTextsRow.holds Tryz.pinned (OpenSpec.ofChange profileTextsSpec)

/-- ITS FALSE NEIGHBOUR: 'it returns false'. Refute it at one input. -/
def profileTextsWrong : ChangeSpec := { name := "profileTexts", fn := fun _ => fun
  | [d] => { results := [.lit (.bool false)], args := [d] }
  | _ => none }
def ProfileTextsWrongFalsely : Prop := profileTextsRow.holds Tryz.pinned (OpenSpec.ofChange profileTextsWrong)

/-- 'transitlaw45.ProfileCovers': WHATEVER THE INPUT: true; the input reads as it did. -/
def profileCoversSpec : ChangeSpec := { name := "profileCovers", fn := fun _ => fun
  | [d1, d2, d3] => { results := [.lit (.bool true)], args := [d1, d2, d3] }
  | _ => none }
def profileCoversRow : OpenClaim := { program := "ytdpenljjnfmgiaagreat", sum := "39d23b4350a618a8308e78df851903b1a481761d3f3045cd4a22819edd8dce42", func := "transit/transitlaw45.ProfileCovers", spec := "profileCovers", unfollowed := true, recurses := true, plainKeys := false, apart := false }
def ProfileCoversSaid : Prop := profileCoversRow.holds Tryz.pinned (OpenSpec.ofChange profileCoversSpec)

/-- ITS FALSE NEIGHBOUR: 'it returns false'. Refute it at one input. -/
def profileCoversWrong : ChangeSpec := { name := "profileCovers", fn := fun _ => fun
  | [d1, d2, d3] => { results := [.lit (.bool false)], args := [d1, d2, d3] }
  | _ => none }
def ProfileCoversWrongFalsely : Prop := profileCoversRow.holds Tryz.pinned (OpenSpec.ofChange profileCoversWrong)

/-- 'transitlaw45.ProfileGrows': WHATEVER THE INPUT: true; the input reads as it did. -/
def profileGrowsSpec : ChangeSpec := { name := "profileGrows", fn := fun _ => fun
  | [d1, d2, d3] => { results := [.lit (.bool true)], args := [d1, d2, d3] }
  | _ => none }
def profileGrowsRow : OpenClaim := { program := "ytdpenljjnfmgiaagreat", sum := "39d23b4350a618a8308e78df851903b1a481761d3f3045cd4a22819edd8dce42", func := "transit/transitlaw45.ProfileGrows", spec := "profileGrows", unfollowed := true, recurses := true, plainKeys := false, apart := false }
def ProfileGrowsSaid : Prop := profileGrowsRow.holds Tryz.pinned (OpenSpec.ofChange profileGrowsSpec)

/-- ITS FALSE NEIGHBOUR: 'it returns false'. Refute it at one input. -/
def profileGrowsWrong : ChangeSpec := { name := "profileGrows", fn := fun _ => fun
  | [d1, d2, d3] => { results := [.lit (.bool false)], args := [d1, d2, d3] }
  | _ => none }
def ProfileGrowsWrongFalsely : Prop := profileGrowsRow.holds Tryz.pinned (OpenSpec.ofChange profileGrowsWrong)

/-- 'transitlaw45.ProfileClimbs': WHATEVER THE INPUT: true; the input reads as it did. -/
def profileClimbsSpec : ChangeSpec := { name := "profileClimbs", fn := fun _ => fun
  | [d1, d2] => { results := [.lit (.bool true)], args := [d1, d2] }
  | _ => none }
def profileClimbsRow : OpenClaim := { program := "ytdpenljjnfmgiaagreat", sum := "39d23b4350a618a8308e78df851903b1a481761d3f3045cd4a22819edd8dce42", func := "transit/transitlaw45.ProfileClimbs", spec := "profileClimbs", unfollowed := true, recurses := true, plainKeys := false, apart := false }
def ProfileClimbsSaid : Prop := profileClimbsRow.holds Tryz.pinned (OpenSpec.ofChange profileClimbsSpec)

/-- ITS FALSE NEIGHBOUR: 'it returns false'. Refute it at one input. -/
def profileClimbsWrong : ChangeSpec := { name := "profileClimbs", fn := fun _ => fun
  | [d1, d2] => { results := [.lit (.bool false)], args := [d1, d2] }
  | _ => none }
def ProfileClimbsWrongFalsely : Prop := profileClimbsRow.holds Tryz.pinned (OpenSpec.ofChange profileClimbsWrong)

/- THE SECOND FORM. 'bulk': how many values and letters a reading holds, each counted each time it is reached (what is shared counts as often as it is met; a slice's spare places count too). A statement '..UptoSaid' is the law's where the arguments, and the package variables that the reading takes, are together of bulk at most 1048576: NARROWER than '..Said'. Prove '..Said' where nothing that the law and all that it calls make is longer than what came in: it says more and counts as full. Else prove '..UptoSaid'. A law counts once. -/
mutual
def uptoBulk {H : Type} : DataW H → Nat
  | .lit (.string bytes) => bytes.length + 1
  | .lit _ => 1
  | .nil => 1
  | .ptr d => uptoBulk d + 1
  | .slice elems spare => uptoBulkAll elems + uptoBulkAll spare + 1
  | .agg parts => uptoBulkAll parts + 1
  | .iface _ d => uptoBulk d + 1
  | .map entries => uptoBulkEntries entries + 1
  | .held _ => 1
def uptoBulkAll {H : Type} : List (DataW H) → Nat
  | [] => 0
  | d :: r => uptoBulk d + uptoBulkAll r
def uptoBulkEntries {H : Type} : List (Lit × DataW H) → Nat
  | [] => 0
  | x :: r => uptoBulkEntry x + uptoBulkEntries r
def uptoBulkEntry {H : Type} : Lit × DataW H → Nat
  | (.string bytes, d) => bytes.length + uptoBulk d + 1
  | (_, d) => uptoBulk d + 1
 end
def uptoSmall : (H : Type) → List (DataW H) → Bool := fun _ ds => decide (uptoBulkAll ds ≤ 1048576)
def OpenSpec.upto (s : _root_.Go.ChangeSpec) : _root_.Go.OpenSpec := { _root_.Go.OpenSpec.ofChange s with cond := some uptoSmall }

/-- 'transitlaw45.ProfileRefuses', WHERE WHAT IT READS IS OF BULK AT MOST 1048576: true; the input reads as it did. -/
def profileRefusesUptoRow : OpenClaim := { program := "ytdpenljjnfmgiaagreat", sum := "39d23b4350a618a8308e78df851903b1a481761d3f3045cd4a22819edd8dce42", func := "transit/transitlaw45.ProfileRefuses", spec := "profileRefuses", unfollowed := true, recurses := true, plainKeys := false, apart := false, narrowed := true }
def ProfileRefusesUptoSaid : Prop := profileRefusesUptoRow.holds Tryz.pinned (OpenSpec.upto profileRefusesSpec)

/-- 'transitlaw45.ProfileWindow', WHERE WHAT IT READS IS OF BULK AT MOST 1048576: true; the input reads as it did. -/
def profileWindowUptoRow : OpenClaim := { program := "ytdpenljjnfmgiaagreat", sum := "39d23b4350a618a8308e78df851903b1a481761d3f3045cd4a22819edd8dce42", func := "transit/transitlaw45.ProfileWindow", spec := "profileWindow", unfollowed := true, recurses := true, plainKeys := false, apart := false, narrowed := true }
def ProfileWindowUptoSaid : Prop := profileWindowUptoRow.holds Tryz.pinned (OpenSpec.upto profileWindowSpec)

/-- 'transitlaw45.ProfileJourneys', WHERE WHAT IT READS IS OF BULK AT MOST 1048576: true; the input reads as it did. -/
def profileJourneysUptoRow : OpenClaim := { program := "ytdpenljjnfmgiaagreat", sum := "39d23b4350a618a8308e78df851903b1a481761d3f3045cd4a22819edd8dce42", func := "transit/transitlaw45.ProfileJourneys", spec := "profileJourneys", unfollowed := true, recurses := true, plainKeys := false, apart := false, narrowed := true }
def ProfileJourneysUptoSaid : Prop := profileJourneysUptoRow.holds Tryz.pinned (OpenSpec.upto profileJourneysSpec)

/-- 'transitlaw45.ProfileAt', WHERE WHAT IT READS IS OF BULK AT MOST 1048576: true; the input reads as it did. -/
def profileAtUptoRow : OpenClaim := { program := "ytdpenljjnfmgiaagreat", sum := "39d23b4350a618a8308e78df851903b1a481761d3f3045cd4a22819edd8dce42", func := "transit/transitlaw45.ProfileAt", spec := "profileAt", unfollowed := true, recurses := true, plainKeys := false, apart := false, narrowed := true }
def ProfileAtUptoSaid : Prop := profileAtUptoRow.holds Tryz.pinned (OpenSpec.upto profileAtSpec)

/-- 'transitlaw45.ProfileSteps', WHERE WHAT IT READS IS OF BULK AT MOST 1048576: true; the input reads as it did. -/
def profileStepsUptoRow : OpenClaim := { program := "ytdpenljjnfmgiaagreat", sum := "39d23b4350a618a8308e78df851903b1a481761d3f3045cd4a22819edd8dce42", func := "transit/transitlaw45.ProfileSteps", spec := "profileSteps", unfollowed := true, recurses := true, plainKeys := false, apart := false, narrowed := true }
def ProfileStepsUptoSaid : Prop := profileStepsUptoRow.holds Tryz.pinned (OpenSpec.upto profileStepsSpec)

/-- 'transitlaw45.ProfileTexts', WHERE WHAT IT READS IS OF BULK AT MOST 1048576: true; the input reads as it did. -/
def profileTextsUptoRow : OpenClaim := { program := "ytdpenljjnfmgiaagreat", sum := "39d23b4350a618a8308e78df851903b1a481761d3f3045cd4a22819edd8dce42", func := "transit/transitlaw45.ProfileTexts", spec := "profileTexts", unfollowed := true, recurses := true, plainKeys := false, apart := false, narrowed := true }
def ProfileTextsUptoSaid : Prop := profileTextsUptoRow.holds Tryz.pinned (OpenSpec.upto profileTextsSpec)

/-- 'transitlaw45.ProfileCovers', WHERE WHAT IT READS IS OF BULK AT MOST 1048576: true; the input reads as it did. -/
def profileCoversUptoRow : OpenClaim := { program := "ytdpenljjnfmgiaagreat", sum := "39d23b4350a618a8308e78df851903b1a481761d3f3045cd4a22819edd8dce42", func := "transit/transitlaw45.ProfileCovers", spec := "profileCovers", unfollowed := true, recurses := true, plainKeys := false, apart := false, narrowed := true }
def ProfileCoversUptoSaid : Prop := profileCoversUptoRow.holds Tryz.pinned (OpenSpec.upto profileCoversSpec)

/-- 'transitlaw45.ProfileGrows', WHERE WHAT IT READS IS OF BULK AT MOST 1048576: true; the input reads as it did. -/
def profileGrowsUptoRow : OpenClaim := { program := "ytdpenljjnfmgiaagreat", sum := "39d23b4350a618a8308e78df851903b1a481761d3f3045cd4a22819edd8dce42", func := "transit/transitlaw45.ProfileGrows", spec := "profileGrows", unfollowed := true, recurses := true, plainKeys := false, apart := false, narrowed := true }
def ProfileGrowsUptoSaid : Prop := profileGrowsUptoRow.holds Tryz.pinned (OpenSpec.upto profileGrowsSpec)

/-- 'transitlaw45.ProfileClimbs', WHERE WHAT IT READS IS OF BULK AT MOST 1048576: true; the input reads as it did. -/
def profileClimbsUptoRow : OpenClaim := { program := "ytdpenljjnfmgiaagreat", sum := "39d23b4350a618a8308e78df851903b1a481761d3f3045cd4a22819edd8dce42", func := "transit/transitlaw45.ProfileClimbs", spec := "profileClimbs", unfollowed := true, recurses := true, plainKeys := false, apart := false, narrowed := true }
def ProfileClimbsUptoSaid : Prop := profileClimbsUptoRow.holds Tryz.pinned (OpenSpec.upto profileClimbsSpec)

end Rows
end Go.Proofs.YtdpenljjnfmgiaaGreat
