/-
  NARROWER THAN 'FOR EVERY INPUT', by the rows' own cells (each row's printed sentence says how): BoardDepartures: laid · BoardArrivals: laid · BoardDirects: laid · BoardTexts: laid · BoardComplete: laid · BoardRanges: laid · BoardLeads: laid.
  DERIVED. THE GIVEN ROWS OF THIS SEAT. 7 by the template 'for every input the law returns true; each argument reads behind the call as it read before'; 0 by the template 'total and deterministic' (their statements: YtaeildkdonhmiaaGreatDoorTotals.lean).
  GIVEN WITH THE SEED: the statements are not yours to turn. If you find one false, say at which input.
  Laid BY PROGRAM, IN A SANDBOX (cutbox-rows.mjs): the forced cells as the released guide's own fill.sh prints them over the translation d99a4353f1603b92… (all of the seat's roots in one cut). By AI agents, Wed Nov 11 2026. No macro, syntax, notation, axiom, sorry.
-/
import Derived.Test.YtaeildkdonhmiaaGreatDoorChecked
import GoSem.Claim
import GoSem.ClaimJoined
import GoSem.ClaimMapViews
import Derived.JoinedTies
import Derived.KernelRfl
namespace Go.Proofs.YtaeildkdonhmiaaGreatDoor
/- THE CELL 'sum', in the pinned program and in every row, IS THE sha256 OF THE DUMP (.gsa) THAT YtaeildkdonhmiaaGreatDoorProg.lean LOADS. Nothing in Lean hashes anything: it is a label: what it is worth is what the hold of that sum in a sandbox is worth. -/
noncomputable def Tryz.pinned : Pinned := { name := "ytaeildkdonhmiaagreatdoor", sum := "d99a4353f1603b92c4e2b95b619a8841f887e3bdcca4bcaea5717289cc427da4", checked := Tryz.checked }
namespace Rows
def none {H : Type} : Left H := { results := [], args := [] }

/- WHAT THE LISTED PACKAGE-LEVEL VARIABLES READ AS WHEN THE CALL BEGINS. Each datum BY PROGRAM (the guide's laid-datum.mjs) off the statement by which the dump's own 'gosem.cut.vars' lays the variable. In a bare row this is a premise. The card (YtaeildkdonhmiaaGreatDoorCards.lean) ties it to the program's text. -/
def laid_math_bits_deBruijn32tab {H : Type} : DataW H := .agg [.lit (.int .u8 0), .lit (.int .u8 1), .lit (.int .u8 28), .lit (.int .u8 2), .lit (.int .u8 29), .lit (.int .u8 14), .lit (.int .u8 24), .lit (.int .u8 3), .lit (.int .u8 30), .lit (.int .u8 22), .lit (.int .u8 20), .lit (.int .u8 15), .lit (.int .u8 25), .lit (.int .u8 17), .lit (.int .u8 4), .lit (.int .u8 8), .lit (.int .u8 31), .lit (.int .u8 27), .lit (.int .u8 13), .lit (.int .u8 23), .lit (.int .u8 21), .lit (.int .u8 19), .lit (.int .u8 16), .lit (.int .u8 7), .lit (.int .u8 26), .lit (.int .u8 12), .lit (.int .u8 18), .lit (.int .u8 6), .lit (.int .u8 11), .lit (.int .u8 5), .lit (.int .u8 10), .lit (.int .u8 9)]
def laid_math_bits_deBruijn64tab {H : Type} : DataW H := .agg [.lit (.int .u8 0), .lit (.int .u8 1), .lit (.int .u8 56), .lit (.int .u8 2), .lit (.int .u8 57), .lit (.int .u8 49), .lit (.int .u8 28), .lit (.int .u8 3), .lit (.int .u8 61), .lit (.int .u8 58), .lit (.int .u8 42), .lit (.int .u8 50), .lit (.int .u8 38), .lit (.int .u8 29), .lit (.int .u8 17), .lit (.int .u8 4), .lit (.int .u8 62), .lit (.int .u8 47), .lit (.int .u8 59), .lit (.int .u8 36), .lit (.int .u8 45), .lit (.int .u8 43), .lit (.int .u8 51), .lit (.int .u8 22), .lit (.int .u8 53), .lit (.int .u8 39), .lit (.int .u8 33), .lit (.int .u8 30), .lit (.int .u8 24), .lit (.int .u8 18), .lit (.int .u8 12), .lit (.int .u8 5), .lit (.int .u8 63), .lit (.int .u8 55), .lit (.int .u8 48), .lit (.int .u8 27), .lit (.int .u8 60), .lit (.int .u8 41), .lit (.int .u8 37), .lit (.int .u8 16), .lit (.int .u8 46), .lit (.int .u8 35), .lit (.int .u8 44), .lit (.int .u8 21), .lit (.int .u8 52), .lit (.int .u8 32), .lit (.int .u8 23), .lit (.int .u8 11), .lit (.int .u8 54), .lit (.int .u8 26), .lit (.int .u8 40), .lit (.int .u8 15), .lit (.int .u8 34), .lit (.int .u8 20), .lit (.int .u8 31), .lit (.int .u8 10), .lit (.int .u8 25), .lit (.int .u8 14), .lit (.int .u8 19), .lit (.int .u8 9), .lit (.int .u8 13), .lit (.int .u8 8), .lit (.int .u8 7), .lit (.int .u8 6)]
def laid_internal_strconv_uint64pow10 {H : Type} : DataW H := .agg [.lit (.int .u64 1), .lit (.int .u64 10), .lit (.int .u64 100), .lit (.int .u64 1000), .lit (.int .u64 10000), .lit (.int .u64 100000), .lit (.int .u64 1000000), .lit (.int .u64 10000000), .lit (.int .u64 100000000), .lit (.int .u64 1000000000), .lit (.int .u64 10000000000), .lit (.int .u64 100000000000), .lit (.int .u64 1000000000000), .lit (.int .u64 10000000000000), .lit (.int .u64 100000000000000), .lit (.int .u64 1000000000000000), .lit (.int .u64 10000000000000000), .lit (.int .u64 100000000000000000), .lit (.int .u64 1000000000000000000), .lit (.int .u64 10000000000000000000)]

/-- 'transitlaw27.BoardDepartures': WHATEVER THE INPUT: true; the input reads as it did. -/
def boardDeparturesSpec : ChangeSpec := { name := "boardDepartures", fn := fun _ => fun
  | [d1, d2, d3] => { results := [.lit (.bool true)], args := [d1, d2, d3] }
  | _ => none }
def boardDeparturesRow : OpenClaim := { program := "ytaeildkdonhmiaagreatdoor", sum := "d99a4353f1603b92c4e2b95b619a8841f887e3bdcca4bcaea5717289cc427da4", func := "transit/transitlaw27.BoardDepartures", spec := "boardDepartures", inPlace := ["internal/abi.NoEscape"], unfollowed := true, recurses := true, named := ["internal/strconv.uint64pow10", "math/bits.deBruijn32tab", "math/bits.deBruijn64tab"], plainKeys := false, apart := false, laid := [("math/bits.deBruijn32tab", laid_math_bits_deBruijn32tab), ("math/bits.deBruijn64tab", laid_math_bits_deBruijn64tab), ("internal/strconv.uint64pow10", laid_internal_strconv_uint64pow10)] }
def BoardDeparturesSaid : Prop := boardDeparturesRow.holds Tryz.pinned (OpenSpec.ofChange boardDeparturesSpec)

/-- ITS FALSE NEIGHBOUR: 'it returns false'. Refute it at one input. -/
def boardDeparturesWrong : ChangeSpec := { name := "boardDepartures", fn := fun _ => fun
  | [d1, d2, d3] => { results := [.lit (.bool false)], args := [d1, d2, d3] }
  | _ => none }
def BoardDeparturesWrongFalsely : Prop := boardDeparturesRow.holds Tryz.pinned (OpenSpec.ofChange boardDeparturesWrong)

/-- 'transitlaw27.BoardArrivals': WHATEVER THE INPUT: true; the input reads as it did. -/
def boardArrivalsSpec : ChangeSpec := { name := "boardArrivals", fn := fun _ => fun
  | [d1, d2, d3] => { results := [.lit (.bool true)], args := [d1, d2, d3] }
  | _ => none }
def boardArrivalsRow : OpenClaim := { program := "ytaeildkdonhmiaagreatdoor", sum := "d99a4353f1603b92c4e2b95b619a8841f887e3bdcca4bcaea5717289cc427da4", func := "transit/transitlaw27.BoardArrivals", spec := "boardArrivals", inPlace := ["internal/abi.NoEscape"], unfollowed := true, recurses := true, named := ["internal/strconv.uint64pow10", "math/bits.deBruijn32tab", "math/bits.deBruijn64tab"], plainKeys := false, apart := false, laid := [("math/bits.deBruijn32tab", laid_math_bits_deBruijn32tab), ("math/bits.deBruijn64tab", laid_math_bits_deBruijn64tab), ("internal/strconv.uint64pow10", laid_internal_strconv_uint64pow10)] }
def BoardArrivalsSaid : Prop := boardArrivalsRow.holds Tryz.pinned (OpenSpec.ofChange boardArrivalsSpec)

/-- ITS FALSE NEIGHBOUR: 'it returns false'. Refute it at one input. -/
def boardArrivalsWrong : ChangeSpec := { name := "boardArrivals", fn := fun _ => fun
  | [d1, d2, d3] => { results := [.lit (.bool false)], args := [d1, d2, d3] }
  | _ => none }
def BoardArrivalsWrongFalsely : Prop := boardArrivalsRow.holds Tryz.pinned (OpenSpec.ofChange boardArrivalsWrong)

/-- 'transitlaw27.BoardDirects': WHATEVER THE INPUT: true; the input reads as it did. -/
def boardDirectsSpec : ChangeSpec := { name := "boardDirects", fn := fun _ => fun
  | [d1, d2, d3] => { results := [.lit (.bool true)], args := [d1, d2, d3] }
  | _ => none }
def boardDirectsRow : OpenClaim := { program := "ytaeildkdonhmiaagreatdoor", sum := "d99a4353f1603b92c4e2b95b619a8841f887e3bdcca4bcaea5717289cc427da4", func := "transit/transitlaw27.BoardDirects", spec := "boardDirects", inPlace := ["internal/abi.NoEscape"], unfollowed := true, recurses := true, named := ["internal/strconv.uint64pow10", "math/bits.deBruijn32tab", "math/bits.deBruijn64tab"], plainKeys := false, apart := false, laid := [("math/bits.deBruijn32tab", laid_math_bits_deBruijn32tab), ("math/bits.deBruijn64tab", laid_math_bits_deBruijn64tab), ("internal/strconv.uint64pow10", laid_internal_strconv_uint64pow10)] }
def BoardDirectsSaid : Prop := boardDirectsRow.holds Tryz.pinned (OpenSpec.ofChange boardDirectsSpec)

/-- ITS FALSE NEIGHBOUR: 'it returns false'. Refute it at one input. -/
def boardDirectsWrong : ChangeSpec := { name := "boardDirects", fn := fun _ => fun
  | [d1, d2, d3] => { results := [.lit (.bool false)], args := [d1, d2, d3] }
  | _ => none }
def BoardDirectsWrongFalsely : Prop := boardDirectsRow.holds Tryz.pinned (OpenSpec.ofChange boardDirectsWrong)

/-- 'transitlaw27.BoardTexts': WHATEVER THE INPUT: true; the input reads as it did. -/
def boardTextsSpec : ChangeSpec := { name := "boardTexts", fn := fun _ => fun
  | [d1, d2] => { results := [.lit (.bool true)], args := [d1, d2] }
  | _ => none }
def boardTextsRow : OpenClaim := { program := "ytaeildkdonhmiaagreatdoor", sum := "d99a4353f1603b92c4e2b95b619a8841f887e3bdcca4bcaea5717289cc427da4", func := "transit/transitlaw27.BoardTexts", spec := "boardTexts", inPlace := ["internal/abi.NoEscape"], unfollowed := true, recurses := true, named := ["internal/strconv.uint64pow10", "math/bits.deBruijn32tab", "math/bits.deBruijn64tab"], plainKeys := false, apart := false, laid := [("math/bits.deBruijn32tab", laid_math_bits_deBruijn32tab), ("math/bits.deBruijn64tab", laid_math_bits_deBruijn64tab), ("internal/strconv.uint64pow10", laid_internal_strconv_uint64pow10)] }
def BoardTextsSaid : Prop := boardTextsRow.holds Tryz.pinned (OpenSpec.ofChange boardTextsSpec)

/-- ITS FALSE NEIGHBOUR: 'it returns false'. Refute it at one input. -/
def boardTextsWrong : ChangeSpec := { name := "boardTexts", fn := fun _ => fun
  | [d1, d2] => { results := [.lit (.bool false)], args := [d1, d2] }
  | _ => none }
def BoardTextsWrongFalsely : Prop := boardTextsRow.holds Tryz.pinned (OpenSpec.ofChange boardTextsWrong)

/-- 'transitlaw27.BoardComplete': WHATEVER THE INPUT: true; the input reads as it did. -/
def boardCompleteSpec : ChangeSpec := { name := "boardComplete", fn := fun _ => fun
  | [d1, d2, d3] => { results := [.lit (.bool true)], args := [d1, d2, d3] }
  | _ => none }
def boardCompleteRow : OpenClaim := { program := "ytaeildkdonhmiaagreatdoor", sum := "d99a4353f1603b92c4e2b95b619a8841f887e3bdcca4bcaea5717289cc427da4", func := "transit/transitlaw27.BoardComplete", spec := "boardComplete", inPlace := ["internal/abi.NoEscape"], unfollowed := true, recurses := true, named := ["internal/strconv.uint64pow10", "math/bits.deBruijn32tab", "math/bits.deBruijn64tab"], plainKeys := false, apart := false, laid := [("math/bits.deBruijn32tab", laid_math_bits_deBruijn32tab), ("math/bits.deBruijn64tab", laid_math_bits_deBruijn64tab), ("internal/strconv.uint64pow10", laid_internal_strconv_uint64pow10)] }
def BoardCompleteSaid : Prop := boardCompleteRow.holds Tryz.pinned (OpenSpec.ofChange boardCompleteSpec)

/-- ITS FALSE NEIGHBOUR: 'it returns false'. Refute it at one input. -/
def boardCompleteWrong : ChangeSpec := { name := "boardComplete", fn := fun _ => fun
  | [d1, d2, d3] => { results := [.lit (.bool false)], args := [d1, d2, d3] }
  | _ => none }
def BoardCompleteWrongFalsely : Prop := boardCompleteRow.holds Tryz.pinned (OpenSpec.ofChange boardCompleteWrong)

/-- 'transitlaw27.BoardRanges': WHATEVER THE INPUT: true; the input reads as it did. -/
def boardRangesSpec : ChangeSpec := { name := "boardRanges", fn := fun _ => fun
  | [d1, d2, d3] => { results := [.lit (.bool true)], args := [d1, d2, d3] }
  | _ => none }
def boardRangesRow : OpenClaim := { program := "ytaeildkdonhmiaagreatdoor", sum := "d99a4353f1603b92c4e2b95b619a8841f887e3bdcca4bcaea5717289cc427da4", func := "transit/transitlaw27.BoardRanges", spec := "boardRanges", inPlace := ["internal/abi.NoEscape"], unfollowed := true, recurses := true, named := ["internal/strconv.uint64pow10", "math/bits.deBruijn32tab", "math/bits.deBruijn64tab"], plainKeys := false, apart := false, laid := [("math/bits.deBruijn32tab", laid_math_bits_deBruijn32tab), ("math/bits.deBruijn64tab", laid_math_bits_deBruijn64tab), ("internal/strconv.uint64pow10", laid_internal_strconv_uint64pow10)] }
def BoardRangesSaid : Prop := boardRangesRow.holds Tryz.pinned (OpenSpec.ofChange boardRangesSpec)

/-- ITS FALSE NEIGHBOUR: 'it returns false'. Refute it at one input. -/
def boardRangesWrong : ChangeSpec := { name := "boardRanges", fn := fun _ => fun
  | [d1, d2, d3] => { results := [.lit (.bool false)], args := [d1, d2, d3] }
  | _ => none }
def BoardRangesWrongFalsely : Prop := boardRangesRow.holds Tryz.pinned (OpenSpec.ofChange boardRangesWrong)

/-- 'transitlaw27.BoardLeads': WHATEVER THE INPUT: true; the input reads as it did. -/
def boardLeadsSpec : ChangeSpec := { name := "boardLeads", fn := fun _ => fun
  | [d1, d2, d3] => { results := [.lit (.bool true)], args := [d1, d2, d3] }
  | _ => none }
def boardLeadsRow : OpenClaim := { program := "ytaeildkdonhmiaagreatdoor", sum := "d99a4353f1603b92c4e2b95b619a8841f887e3bdcca4bcaea5717289cc427da4", func := "transit/transitlaw27.BoardLeads", spec := "boardLeads", inPlace := ["internal/abi.NoEscape"], unfollowed := true, recurses := true, named := ["internal/strconv.uint64pow10", "math/bits.deBruijn32tab", "math/bits.deBruijn64tab"], plainKeys := false, apart := false, laid := [("math/bits.deBruijn32tab", laid_math_bits_deBruijn32tab), ("math/bits.deBruijn64tab", laid_math_bits_deBruijn64tab), ("internal/strconv.uint64pow10", laid_internal_strconv_uint64pow10)] }
def BoardLeadsSaid : Prop := boardLeadsRow.holds Tryz.pinned (OpenSpec.ofChange boardLeadsSpec)

/-- ITS FALSE NEIGHBOUR: 'it returns false'. Refute it at one input. -/
def boardLeadsWrong : ChangeSpec := { name := "boardLeads", fn := fun _ => fun
  | [d1, d2, d3] => { results := [.lit (.bool false)], args := [d1, d2, d3] }
  | _ => none }
def BoardLeadsWrongFalsely : Prop := boardLeadsRow.holds Tryz.pinned (OpenSpec.ofChange boardLeadsWrong)

/- THE SECOND FORM. 'bulk': how many values and letters a reading holds, each counted each time it is reached (what is shared counts as often as it is met; a slice's spare places count too). A statement '..UptoSaid' is the law's where the arguments, and the package variables that the reading takes, are together of bulk at most 1048576: NARROWER than '..Said'. Prove '..Said' where nothing that the law and all that it calls make is longer than what came in: it says more and counts as full. Else prove '..UptoSaid'. A law counts once. -/
mutual
def uptoBulk {H : Type} : DataW H → Nat
  | .lit (.string bytes) => bytes.length + 1
  | .lit _ => 1
  | .nil => 1
  | .ptr d => uptoBulk d + 1
  | .slice elems spare => uptoBulkAll elems + uptoBulkAll spare + 1
  | .agg parts => uptoBulkAll parts + 1
  | .iface _ d => uptoBulk d + 1
  | .map entries => uptoBulkEntries entries + 1
  | .held _ => 1
def uptoBulkAll {H : Type} : List (DataW H) → Nat
  | [] => 0
  | d :: r => uptoBulk d + uptoBulkAll r
def uptoBulkEntries {H : Type} : List (Lit × DataW H) → Nat
  | [] => 0
  | x :: r => uptoBulkEntry x + uptoBulkEntries r
def uptoBulkEntry {H : Type} : Lit × DataW H → Nat
  | (.string bytes, d) => bytes.length + uptoBulk d + 1
  | (_, d) => uptoBulk d + 1
 end
def uptoSmall : (H : Type) → List (DataW H) → Bool := fun _ ds => decide (uptoBulkAll ds ≤ 1048576)
def OpenSpec.upto (s : _root_.Go.ChangeSpec) : _root_.Go.OpenSpec := { _root_.Go.OpenSpec.ofChange s with cond := some uptoSmall }

/-- 'transitlaw27.BoardDepartures', WHERE WHAT IT READS IS OF BULK AT MOST 1048576: true; the input reads as it did. -/
def boardDeparturesUptoRow : OpenClaim := { program := "ytaeildkdonhmiaagreatdoor", sum := "d99a4353f1603b92c4e2b95b619a8841f887e3bdcca4bcaea5717289cc427da4", func := "transit/transitlaw27.BoardDepartures", spec := "boardDepartures", inPlace := ["internal/abi.NoEscape"], unfollowed := true, recurses := true, named := ["internal/strconv.uint64pow10", "math/bits.deBruijn32tab", "math/bits.deBruijn64tab"], plainKeys := false, apart := false, laid := [("math/bits.deBruijn32tab", laid_math_bits_deBruijn32tab), ("math/bits.deBruijn64tab", laid_math_bits_deBruijn64tab), ("internal/strconv.uint64pow10", laid_internal_strconv_uint64pow10)], narrowed := true }
def BoardDeparturesUptoSaid : Prop := boardDeparturesUptoRow.holds Tryz.pinned (OpenSpec.upto boardDeparturesSpec)

/-- 'transitlaw27.BoardArrivals', WHERE WHAT IT READS IS OF BULK AT MOST 1048576: true; the input reads as it did. -/
def boardArrivalsUptoRow : OpenClaim := { program := "ytaeildkdonhmiaagreatdoor", sum := "d99a4353f1603b92c4e2b95b619a8841f887e3bdcca4bcaea5717289cc427da4", func := "transit/transitlaw27.BoardArrivals", spec := "boardArrivals", inPlace := ["internal/abi.NoEscape"], unfollowed := true, recurses := true, named := ["internal/strconv.uint64pow10", "math/bits.deBruijn32tab", "math/bits.deBruijn64tab"], plainKeys := false, apart := false, laid := [("math/bits.deBruijn32tab", laid_math_bits_deBruijn32tab), ("math/bits.deBruijn64tab", laid_math_bits_deBruijn64tab), ("internal/strconv.uint64pow10", laid_internal_strconv_uint64pow10)], narrowed := true }
def BoardArrivalsUptoSaid : Prop := boardArrivalsUptoRow.holds Tryz.pinned (OpenSpec.upto boardArrivalsSpec)

/-- 'transitlaw27.BoardDirects', WHERE WHAT IT READS IS OF BULK AT MOST 1048576: true; the input reads as it did. -/
def boardDirectsUptoRow : OpenClaim := { program := "ytaeildkdonhmiaagreatdoor", sum := "d99a4353f1603b92c4e2b95b619a8841f887e3bdcca4bcaea5717289cc427da4", func := "transit/transitlaw27.BoardDirects", spec := "boardDirects", inPlace := ["internal/abi.NoEscape"], unfollowed := true, recurses := true, named := ["internal/strconv.uint64pow10", "math/bits.deBruijn32tab", "math/bits.deBruijn64tab"], plainKeys := false, apart := false, laid := [("math/bits.deBruijn32tab", laid_math_bits_deBruijn32tab), ("math/bits.deBruijn64tab", laid_math_bits_deBruijn64tab), ("internal/strconv.uint64pow10", laid_internal_strconv_uint64pow10)], narrowed := true }
def BoardDirectsUptoSaid : Prop := boardDirectsUptoRow.holds Tryz.pinned (OpenSpec.upto boardDirectsSpec)

/-- 'transitlaw27.BoardTexts', WHERE WHAT IT READS IS OF BULK AT MOST 1048576: true; the input reads as it did. -/
def boardTextsUptoRow : OpenClaim := { program := "ytaeildkdonhmiaagreatdoor", sum := "d99a4353f1603b92c4e2b95b619a8841f887e3bdcca4bcaea5717289cc427da4", func := "transit/transitlaw27.BoardTexts", spec := "boardTexts", inPlace := ["internal/abi.NoEscape"], unfollowed := true, recurses := true, named := ["internal/strconv.uint64pow10", "math/bits.deBruijn32tab", "math/bits.deBruijn64tab"], plainKeys := false, apart := false, laid := [("math/bits.deBruijn32tab", laid_math_bits_deBruijn32tab), ("math/bits.deBruijn64tab", laid_math_bits_deBruijn64tab), ("internal/strconv.uint64pow10", laid_internal_strconv_uint64pow10)], narrowed := true }
def BoardTextsUptoSaid : Prop := boardTextsUptoRow.holds Tryz.pinned (OpenSpec.upto boardTextsSpec)

/-- 'transitlaw27.BoardComplete', WHERE WHAT IT READS IS OF BULK AT MOST 1048576: true; the input reads as it did. -/
def boardCompleteUptoRow : OpenClaim := { program := "ytaeildkdonhmiaagreatdoor", sum := "d99a4353f1603b92c4e2b95b619a8841f887e3bdcca4bcaea5717289cc427da4", func := "transit/transitlaw27.BoardComplete", spec := "boardComplete", inPlace := ["internal/abi.NoEscape"], unfollowed := true, recurses := true, named := ["internal/strconv.uint64pow10", "math/bits.deBruijn32tab", "math/bits.deBruijn64tab"], plainKeys := false, apart := false, laid := [("math/bits.deBruijn32tab", laid_math_bits_deBruijn32tab), ("math/bits.deBruijn64tab", laid_math_bits_deBruijn64tab), ("internal/strconv.uint64pow10", laid_internal_strconv_uint64pow10)], narrowed := true }
def BoardCompleteUptoSaid : Prop := boardCompleteUptoRow.holds Tryz.pinned (OpenSpec.upto boardCompleteSpec)

/-- 'transitlaw27.BoardRanges', WHERE WHAT IT READS IS OF BULK AT MOST 1048576: true; the input reads as it did. -/
def boardRangesUptoRow : OpenClaim := { program := "ytaeildkdonhmiaagreatdoor", sum := "d99a4353f1603b92c4e2b95b619a8841f887e3bdcca4bcaea5717289cc427da4", func := "transit/transitlaw27.BoardRanges", spec := "boardRanges", inPlace := ["internal/abi.NoEscape"], unfollowed := true, recurses := true, named := ["internal/strconv.uint64pow10", "math/bits.deBruijn32tab", "math/bits.deBruijn64tab"], plainKeys := false, apart := false, laid := [("math/bits.deBruijn32tab", laid_math_bits_deBruijn32tab), ("math/bits.deBruijn64tab", laid_math_bits_deBruijn64tab), ("internal/strconv.uint64pow10", laid_internal_strconv_uint64pow10)], narrowed := true }
def BoardRangesUptoSaid : Prop := boardRangesUptoRow.holds Tryz.pinned (OpenSpec.upto boardRangesSpec)

/-- 'transitlaw27.BoardLeads', WHERE WHAT IT READS IS OF BULK AT MOST 1048576: true; the input reads as it did. -/
def boardLeadsUptoRow : OpenClaim := { program := "ytaeildkdonhmiaagreatdoor", sum := "d99a4353f1603b92c4e2b95b619a8841f887e3bdcca4bcaea5717289cc427da4", func := "transit/transitlaw27.BoardLeads", spec := "boardLeads", inPlace := ["internal/abi.NoEscape"], unfollowed := true, recurses := true, named := ["internal/strconv.uint64pow10", "math/bits.deBruijn32tab", "math/bits.deBruijn64tab"], plainKeys := false, apart := false, laid := [("math/bits.deBruijn32tab", laid_math_bits_deBruijn32tab), ("math/bits.deBruijn64tab", laid_math_bits_deBruijn64tab), ("internal/strconv.uint64pow10", laid_internal_strconv_uint64pow10)], narrowed := true }
def BoardLeadsUptoSaid : Prop := boardLeadsUptoRow.holds Tryz.pinned (OpenSpec.upto boardLeadsSpec)

end Rows
end Go.Proofs.YtaeildkdonhmiaaGreatDoor
