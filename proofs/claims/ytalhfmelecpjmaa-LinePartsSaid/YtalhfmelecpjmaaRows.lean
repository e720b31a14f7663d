/-
  No cell of these rows narrows 'for every input' (looked for: loops, veiled, ifaces, maps, wideKeys, modest, calm, conditions, laid).
  DERIVED. THE GIVEN ROWS OF THIS SEAT. 7 by the template 'for every input the law returns true; each argument reads behind the call as it read before'; 0 by the template 'total and deterministic' (their statements: YtalhfmelecpjmaaTotals.lean).
  GIVEN WITH THE SEED: the statements are not yours to turn. If you find one false, say at which input.
  Laid BY PROGRAM, IN A SANDBOX (cutbox-rows.mjs): the forced cells as the released guide's own fill.sh prints them over the translation 31c5926ad8c02839… (all of the seat's roots in one cut). By AI agents, Wed Nov 11 2026. No macro, syntax, notation, axiom, sorry.
-/
import Derived.Test.YtalhfmelecpjmaaChecked
import GoSem.Claim
import GoSem.ClaimJoined
import GoSem.ClaimMapViews
import Derived.JoinedTies
import Derived.KernelRfl
namespace Go.Proofs.Ytalhfmelecpjmaa
/- THE CELL 'sum', in the pinned program and in every row, IS THE sha256 OF THE DUMP (.gsa) THAT YtalhfmelecpjmaaProg.lean LOADS. Nothing in Lean hashes anything: it is a label: what it is worth is what the hold of that sum in a sandbox is worth. -/
noncomputable def Try.pinned : Pinned := { name := "ytalhfmelecpjmaa", sum := "31c5926ad8c0283993beaebd533b40dba4ac75abf6a081d5fe1fbca559bf40a9", checked := Try.checked }
namespace Rows
def none {H : Type} : Left H := { results := [], args := [] }

/-- 'transitlaw29.LineLists': WHATEVER THE INPUT: true; the input reads as it did. -/
def lineListsSpec : ChangeSpec := { name := "lineLists", fn := fun _ => fun
  | [d] => { results := [.lit (.bool true)], args := [d] }
  | _ => none }
def lineListsRow : OpenClaim := { program := "ytalhfmelecpjmaa", sum := "31c5926ad8c0283993beaebd533b40dba4ac75abf6a081d5fe1fbca559bf40a9", func := "transit/transitlaw29.LineLists", spec := "lineLists", unfollowed := true, recurses := true, plainKeys := false, apart := false }
def LineListsSaid : Prop := lineListsRow.holds Try.pinned (OpenSpec.ofChange lineListsSpec)

/-- ITS FALSE NEIGHBOUR: 'it returns false'. Refute it at one input. -/
def lineListsWrong : ChangeSpec := { name := "lineLists", fn := fun _ => fun
  | [d] => { results := [.lit (.bool false)], args := [d] }
  | _ => none }
def LineListsWrongFalsely : Prop := lineListsRow.holds Try.pinned (OpenSpec.ofChange lineListsWrong)

/-- 'transitlaw29.LineCatches': WHATEVER THE INPUT: true; the input reads as it did. -/
def lineCatchesSpec : ChangeSpec := { name := "lineCatches", fn := fun _ => fun
  | [d1, d2] => { results := [.lit (.bool true)], args := [d1, d2] }
  | _ => none }
def lineCatchesRow : OpenClaim := { program := "ytalhfmelecpjmaa", sum := "31c5926ad8c0283993beaebd533b40dba4ac75abf6a081d5fe1fbca559bf40a9", func := "transit/transitlaw29.LineCatches", spec := "lineCatches", unfollowed := true, recurses := true, plainKeys := false, apart := false }
def LineCatchesSaid : Prop := lineCatchesRow.holds Try.pinned (OpenSpec.ofChange lineCatchesSpec)

/-- ITS FALSE NEIGHBOUR: 'it returns false'. Refute it at one input. -/
def lineCatchesWrong : ChangeSpec := { name := "lineCatches", fn := fun _ => fun
  | [d1, d2] => { results := [.lit (.bool false)], args := [d1, d2] }
  | _ => none }
def LineCatchesWrongFalsely : Prop := lineCatchesRow.holds Try.pinned (OpenSpec.ofChange lineCatchesWrong)

/-- 'transitlaw29.LineLeaves': WHATEVER THE INPUT: true; the input reads as it did. -/
def lineLeavesSpec : ChangeSpec := { name := "lineLeaves", fn := fun _ => fun
  | [d1, d2] => { results := [.lit (.bool true)], args := [d1, d2] }
  | _ => none }
def lineLeavesRow : OpenClaim := { program := "ytalhfmelecpjmaa", sum := "31c5926ad8c0283993beaebd533b40dba4ac75abf6a081d5fe1fbca559bf40a9", func := "transit/transitlaw29.LineLeaves", spec := "lineLeaves", unfollowed := true, recurses := true, plainKeys := false, apart := false }
def LineLeavesSaid : Prop := lineLeavesRow.holds Try.pinned (OpenSpec.ofChange lineLeavesSpec)

/-- ITS FALSE NEIGHBOUR: 'it returns false'. Refute it at one input. -/
def lineLeavesWrong : ChangeSpec := { name := "lineLeaves", fn := fun _ => fun
  | [d1, d2] => { results := [.lit (.bool false)], args := [d1, d2] }
  | _ => none }
def LineLeavesWrongFalsely : Prop := lineLeavesRow.holds Try.pinned (OpenSpec.ofChange lineLeavesWrong)

/-- 'transitlaw29.LineChecks': WHATEVER THE INPUT: true; the input reads as it did. -/
def lineChecksSpec : ChangeSpec := { name := "lineChecks", fn := fun _ => fun
  | [d1, d2] => { results := [.lit (.bool true)], args := [d1, d2] }
  | _ => none }
def lineChecksRow : OpenClaim := { program := "ytalhfmelecpjmaa", sum := "31c5926ad8c0283993beaebd533b40dba4ac75abf6a081d5fe1fbca559bf40a9", func := "transit/transitlaw29.LineChecks", spec := "lineChecks", unfollowed := true, recurses := true, plainKeys := false, apart := false }
def LineChecksSaid : Prop := lineChecksRow.holds Try.pinned (OpenSpec.ofChange lineChecksSpec)

/-- ITS FALSE NEIGHBOUR: 'it returns false'. Refute it at one input. -/
def lineChecksWrong : ChangeSpec := { name := "lineChecks", fn := fun _ => fun
  | [d1, d2] => { results := [.lit (.bool false)], args := [d1, d2] }
  | _ => none }
def LineChecksWrongFalsely : Prop := lineChecksRow.holds Try.pinned (OpenSpec.ofChange lineChecksWrong)

/-- 'transitlaw29.LineParts': WHATEVER THE INPUT: true; the input reads as it did. -/
def linePartsSpec : ChangeSpec := { name := "lineParts", fn := fun _ => fun
  | [d] => { results := [.lit (.bool true)], args := [d] }
  | _ => none }
def linePartsRow : OpenClaim := { program := "ytalhfmelecpjmaa", sum := "31c5926ad8c0283993beaebd533b40dba4ac75abf6a081d5fe1fbca559bf40a9", func := "transit/transitlaw29.LineParts", spec := "lineParts", unfollowed := true, recurses := true, plainKeys := false, apart := false }
def LinePartsSaid : Prop := linePartsRow.holds Try.pinned (OpenSpec.ofChange linePartsSpec)

/-- ITS FALSE NEIGHBOUR: 'it returns false'. Refute it at one input. -/
def linePartsWrong : ChangeSpec := { name := "lineParts", fn := fun _ => fun
  | [d] => { results := [.lit (.bool false)], args := [d] }
  | _ => none }
def LinePartsWrongFalsely : Prop := linePartsRow.holds Try.pinned (OpenSpec.ofChange linePartsWrong)

/-- 'transitlaw29.LineFifo': WHATEVER THE INPUT: true; the input reads as it did. -/
def lineFifoSpec : ChangeSpec := { name := "lineFifo", fn := fun _ => fun
  | [d1, d2] => { results := [.lit (.bool true)], args := [d1, d2] }
  | _ => none }
def lineFifoRow : OpenClaim := { program := "ytalhfmelecpjmaa", sum := "31c5926ad8c0283993beaebd533b40dba4ac75abf6a081d5fe1fbca559bf40a9", func := "transit/transitlaw29.LineFifo", spec := "lineFifo", unfollowed := true, recurses := true, plainKeys := false, apart := false }
def LineFifoSaid : Prop := lineFifoRow.holds Try.pinned (OpenSpec.ofChange lineFifoSpec)

/-- ITS FALSE NEIGHBOUR: 'it returns false'. Refute it at one input. -/
def lineFifoWrong : ChangeSpec := { name := "lineFifo", fn := fun _ => fun
  | [d1, d2] => { results := [.lit (.bool false)], args := [d1, d2] }
  | _ => none }
def LineFifoWrongFalsely : Prop := lineFifoRow.holds Try.pinned (OpenSpec.ofChange lineFifoWrong)

/-- 'transitlaw29.LineLater': WHATEVER THE INPUT: true; the input reads as it did. -/
def lineLaterSpec : ChangeSpec := { name := "lineLater", fn := fun _ => fun
  | [d1, d2, d3] => { results := [.lit (.bool true)], args := [d1, d2, d3] }
  | _ => none }
def lineLaterRow : OpenClaim := { program := "ytalhfmelecpjmaa", sum := "31c5926ad8c0283993beaebd533b40dba4ac75abf6a081d5fe1fbca559bf40a9", func := "transit/transitlaw29.LineLater", spec := "lineLater", unfollowed := true, recurses := true, plainKeys := false, apart := false }
def LineLaterSaid : Prop := lineLaterRow.holds Try.pinned (OpenSpec.ofChange lineLaterSpec)

/-- ITS FALSE NEIGHBOUR: 'it returns false'. Refute it at one input. -/
def lineLaterWrong : ChangeSpec := { name := "lineLater", fn := fun _ => fun
  | [d1, d2, d3] => { results := [.lit (.bool false)], args := [d1, d2, d3] }
  | _ => none }
def LineLaterWrongFalsely : Prop := lineLaterRow.holds Try.pinned (OpenSpec.ofChange lineLaterWrong)

/- THE SECOND FORM. 'bulk': how many values and letters a reading holds, each counted each time it is reached (what is shared counts as often as it is met; a slice's spare places count too). A statement '..UptoSaid' is the law's where the arguments, and the package variables that the reading takes, are together of bulk at most 1048576: NARROWER than '..Said'. Prove '..Said' where nothing that the law and all that it calls make is longer than what came in: it says more and counts as full. Else prove '..UptoSaid'. A law counts once. -/
mutual
def uptoBulk {H : Type} : DataW H → Nat
  | .lit (.string bytes) => bytes.length + 1
  | .lit _ => 1
  | .nil => 1
  | .ptr d => uptoBulk d + 1
  | .slice elems spare => uptoBulkAll elems + uptoBulkAll spare + 1
  | .agg parts => uptoBulkAll parts + 1
  | .iface _ d => uptoBulk d + 1
  | .map entries => uptoBulkEntries entries + 1
  | .held _ => 1
def uptoBulkAll {H : Type} : List (DataW H) → Nat
  | [] => 0
  | d :: r => uptoBulk d + uptoBulkAll r
def uptoBulkEntries {H : Type} : List (Lit × DataW H) → Nat
  | [] => 0
  | x :: r => uptoBulkEntry x + uptoBulkEntries r
def uptoBulkEntry {H : Type} : Lit × DataW H → Nat
  | (.string bytes, d) => bytes.length + uptoBulk d + 1
  | (_, d) => uptoBulk d + 1
 end
def uptoSmall : (H : Type) → List (DataW H) → Bool := fun _ ds => decide (uptoBulkAll ds ≤ 1048576)
def OpenSpec.upto (s : _root_.Go.ChangeSpec) : _root_.Go.OpenSpec := { _root_.Go.OpenSpec.ofChange s with cond := some uptoSmall }

/-- 'transitlaw29.LineLists', WHERE WHAT IT READS IS OF BULK AT MOST 1048576: true; the input reads as it did. -/
def lineListsUptoRow : OpenClaim := { program := "ytalhfmelecpjmaa", sum := "31c5926ad8c0283993beaebd533b40dba4ac75abf6a081d5fe1fbca559bf40a9", func := "transit/transitlaw29.LineLists", spec := "lineLists", unfollowed := true, recurses := true, plainKeys := false, apart := false, narrowed := true }
def LineListsUptoSaid : Prop := lineListsUptoRow.holds Try.pinned (OpenSpec.upto lineListsSpec)

/-- 'transitlaw29.LineCatches', WHERE WHAT IT READS IS OF BULK AT MOST 1048576: true; the input reads as it did. -/
def lineCatchesUptoRow : OpenClaim := { program := "ytalhfmelecpjmaa", sum := "31c5926ad8c0283993beaebd533b40dba4ac75abf6a081d5fe1fbca559bf40a9", func := "transit/transitlaw29.LineCatches", spec := "lineCatches", unfollowed := true, recurses := true, plainKeys := false, apart := false, narrowed := true }
def LineCatchesUptoSaid : Prop := lineCatchesUptoRow.holds Try.pinned (OpenSpec.upto lineCatchesSpec)

/-- 'transitlaw29.LineLeaves', WHERE WHAT IT READS IS OF BULK AT MOST 1048576: true; the input reads as it did. -/
def lineLeavesUptoRow : OpenClaim := { program := "ytalhfmelecpjmaa", sum := "31c5926ad8c0283993beaebd533b40dba4ac75abf6a081d5fe1fbca559bf40a9", func := "transit/transitlaw29.LineLeaves", spec := "lineLeaves", unfollowed := true, recurses := true, plainKeys := false, apart := false, narrowed := true }
def LineLeavesUptoSaid : Prop := lineLeavesUptoRow.holds Try.pinned (OpenSpec.upto lineLeavesSpec)

/-- 'transitlaw29.LineChecks', WHERE WHAT IT READS IS OF BULK AT MOST 1048576: true; the input reads as it did. -/
def lineChecksUptoRow : OpenClaim := { program := "ytalhfmelecpjmaa", sum := "31c5926ad8c0283993beaebd533b40dba4ac75abf6a081d5fe1fbca559bf40a9", func := "transit/transitlaw29.LineChecks", spec := "lineChecks", unfollowed := true, recurses := true, plainKeys := false, apart := false, narrowed := true }
def LineChecksUptoSaid : Prop := lineChecksUptoRow.holds Try.pinned (OpenSpec.upto lineChecksSpec)

/-- 'transitlaw29.LineParts', WHERE WHAT IT READS IS OF BULK AT MOST 1048576: true; the input reads as it did. -/
def linePartsUptoRow : OpenClaim := { program := "ytalhfmelecpjmaa", sum := "31c5926ad8c0283993beaebd533b40dba4ac75abf6a081d5fe1fbca559bf40a9", func := "transit/transitlaw29.LineParts", spec := "lineParts", unfollowed := true, recurses := true, plainKeys := false, apart := false, narrowed := true }
def LinePartsUptoSaid : Prop := linePartsUptoRow.holds Try.pinned (OpenSpec.upto linePartsSpec)

/-- 'transitlaw29.LineFifo', WHERE WHAT IT READS IS OF BULK AT MOST 1048576: true; the input reads as it did. -/
def lineFifoUptoRow : OpenClaim := { program := "ytalhfmelecpjmaa", sum := "31c5926ad8c0283993beaebd533b40dba4ac75abf6a081d5fe1fbca559bf40a9", func := "transit/transitlaw29.LineFifo", spec := "lineFifo", unfollowed := true, recurses := true, plainKeys := false, apart := false, narrowed := true }
def LineFifoUptoSaid : Prop := lineFifoUptoRow.holds Try.pinned (OpenSpec.upto lineFifoSpec)

/-- 'transitlaw29.LineLater', WHERE WHAT IT READS IS OF BULK AT MOST 1048576: true; the input reads as it did. -/
def lineLaterUptoRow : OpenClaim := { program := "ytalhfmelecpjmaa", sum := "31c5926ad8c0283993beaebd533b40dba4ac75abf6a081d5fe1fbca559bf40a9", func := "transit/transitlaw29.LineLater", spec := "lineLater", unfollowed := true, recurses := true, plainKeys := false, apart := false, narrowed := true }
def LineLaterUptoSaid : Prop := lineLaterUptoRow.holds Try.pinned (OpenSpec.upto lineLaterSpec)

end Rows
end Go.Proofs.Ytalhfmelecpjmaa
