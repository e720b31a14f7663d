/-
  No cell of these rows narrows 'for every input' (looked for: loops, veiled, ifaces, maps, wideKeys, modest, calm, conditions, laid).
  DERIVED. THE GIVEN ROWS OF THIS SEAT. 5 by the template 'for every input the law returns true; each argument reads behind the call as it read before'; 0 by the template 'total and deterministic' (their statements: YtlnoioahgincaaaGreatTotals.lean).
  GIVEN WITH THE SEED: the statements are not yours to turn. If you find one false, say at which input.
  Laid BY PROGRAM, IN A SANDBOX (cutbox-rows.mjs): the forced cells as the released guide's own fill.sh prints them over the translation ca45e51ae9c603d6… (all of the seat's roots in one cut). By AI agents, Wed Nov 11 2026. No macro, syntax, notation, axiom, sorry.
-/
import Derived.Test.YtlnoioahgincaaaGreatChecked
import GoSem.Claim
import GoSem.ClaimJoined
import GoSem.ClaimMapViews
import Derived.JoinedTies
import Derived.KernelRfl
namespace Go.Proofs.YtlnoioahgincaaaGreat
/- THE CELL 'sum', in the pinned program and in every row, IS THE sha256 OF THE DUMP (.gsa) THAT YtlnoioahgincaaaGreatProg.lean LOADS. Nothing in Lean hashes anything: it is a label: what it is worth is what the hold of that sum in a sandbox is worth. -/
noncomputable def Tryz.pinned : Pinned := { name := "ytlnoioahgincaaagreat", sum := "ca45e51ae9c603d69e422c0435645d6114b5aa6c531f46bd6f759a994f2df933", checked := Tryz.checked }
namespace Rows
def none {H : Type} : Left H := { results := [], args := [] }

/-- 'transitlaw40.FilterAllows': WHATEVER THE INPUT: true; the input reads as it did. -/
def filterAllowsSpec : ChangeSpec := { name := "filterAllows", fn := fun _ => fun
  | [d1, d2] => { results := [.lit (.bool true)], args := [d1, d2] }
  | _ => none }
def filterAllowsRow : OpenClaim := { program := "ytlnoioahgincaaagreat", sum := "ca45e51ae9c603d69e422c0435645d6114b5aa6c531f46bd6f759a994f2df933", func := "transit/transitlaw40.FilterAllows", spec := "filterAllows", unfollowed := true, recurses := true, plainKeys := false, apart := false }
def FilterAllowsSaid : Prop := filterAllowsRow.holds Tryz.pinned (OpenSpec.ofChange filterAllowsSpec)

/-- ITS FALSE NEIGHBOUR: 'it returns false'. Refute it at one input. -/
def filterAllowsWrong : ChangeSpec := { name := "filterAllows", fn := fun _ => fun
  | [d1, d2] => { results := [.lit (.bool false)], args := [d1, d2] }
  | _ => none }
def FilterAllowsWrongFalsely : Prop := filterAllowsRow.holds Tryz.pinned (OpenSpec.ofChange filterAllowsWrong)

/-- 'transitlaw40.FilterLists': WHATEVER THE INPUT: true; the input reads as it did. -/
def filterListsSpec : ChangeSpec := { name := "filterLists", fn := fun _ => fun
  | [d1, d2] => { results := [.lit (.bool true)], args := [d1, d2] }
  | _ => none }
def filterListsRow : OpenClaim := { program := "ytlnoioahgincaaagreat", sum := "ca45e51ae9c603d69e422c0435645d6114b5aa6c531f46bd6f759a994f2df933", func := "transit/transitlaw40.FilterLists", spec := "filterLists", unfollowed := true, recurses := true, plainKeys := false, apart := false }
def FilterListsSaid : Prop := filterListsRow.holds Tryz.pinned (OpenSpec.ofChange filterListsSpec)

/-- ITS FALSE NEIGHBOUR: 'it returns false'. Refute it at one input. -/
def filterListsWrong : ChangeSpec := { name := "filterLists", fn := fun _ => fun
  | [d1, d2] => { results := [.lit (.bool false)], args := [d1, d2] }
  | _ => none }
def FilterListsWrongFalsely : Prop := filterListsRow.holds Tryz.pinned (OpenSpec.ofChange filterListsWrong)

/-- 'transitlaw40.FilterEquivalent': WHATEVER THE INPUT: true; the input reads as it did. -/
def filterEquivalentSpec : ChangeSpec := { name := "filterEquivalent", fn := fun _ => fun
  | [d1, d2, d3] => { results := [.lit (.bool true)], args := [d1, d2, d3] }
  | _ => none }
def filterEquivalentRow : OpenClaim := { program := "ytlnoioahgincaaagreat", sum := "ca45e51ae9c603d69e422c0435645d6114b5aa6c531f46bd6f759a994f2df933", func := "transit/transitlaw40.FilterEquivalent", spec := "filterEquivalent", unfollowed := true, recurses := true, plainKeys := false, apart := false }
def FilterEquivalentSaid : Prop := filterEquivalentRow.holds Tryz.pinned (OpenSpec.ofChange filterEquivalentSpec)

/-- ITS FALSE NEIGHBOUR: 'it returns false'. Refute it at one input. -/
def filterEquivalentWrong : ChangeSpec := { name := "filterEquivalent", fn := fun _ => fun
  | [d1, d2, d3] => { results := [.lit (.bool false)], args := [d1, d2, d3] }
  | _ => none }
def FilterEquivalentWrongFalsely : Prop := filterEquivalentRow.holds Tryz.pinned (OpenSpec.ofChange filterEquivalentWrong)

/-- 'transitlaw40.FilterRepeats': WHATEVER THE INPUT: true; the input reads as it did. -/
def filterRepeatsSpec : ChangeSpec := { name := "filterRepeats", fn := fun _ => fun
  | [d1, d2] => { results := [.lit (.bool true)], args := [d1, d2] }
  | _ => none }
def filterRepeatsRow : OpenClaim := { program := "ytlnoioahgincaaagreat", sum := "ca45e51ae9c603d69e422c0435645d6114b5aa6c531f46bd6f759a994f2df933", func := "transit/transitlaw40.FilterRepeats", spec := "filterRepeats", unfollowed := true, recurses := true, plainKeys := false, apart := false }
def FilterRepeatsSaid : Prop := filterRepeatsRow.holds Tryz.pinned (OpenSpec.ofChange filterRepeatsSpec)

/-- ITS FALSE NEIGHBOUR: 'it returns false'. Refute it at one input. -/
def filterRepeatsWrong : ChangeSpec := { name := "filterRepeats", fn := fun _ => fun
  | [d1, d2] => { results := [.lit (.bool false)], args := [d1, d2] }
  | _ => none }
def FilterRepeatsWrongFalsely : Prop := filterRepeatsRow.holds Tryz.pinned (OpenSpec.ofChange filterRepeatsWrong)

/-- 'transitlaw40.FilterRelaxes': WHATEVER THE INPUT: true; the input reads as it did. -/
def filterRelaxesSpec : ChangeSpec := { name := "filterRelaxes", fn := fun _ => fun
  | [d1, d2] => { results := [.lit (.bool true)], args := [d1, d2] }
  | _ => none }
def filterRelaxesRow : OpenClaim := { program := "ytlnoioahgincaaagreat", sum := "ca45e51ae9c603d69e422c0435645d6114b5aa6c531f46bd6f759a994f2df933", func := "transit/transitlaw40.FilterRelaxes", spec := "filterRelaxes", unfollowed := true, recurses := true, plainKeys := false, apart := false }
def FilterRelaxesSaid : Prop := filterRelaxesRow.holds Tryz.pinned (OpenSpec.ofChange filterRelaxesSpec)

/-- ITS FALSE NEIGHBOUR: 'it returns false'. Refute it at one input. -/
def filterRelaxesWrong : ChangeSpec := { name := "filterRelaxes", fn := fun _ => fun
  | [d1, d2] => { results := [.lit (.bool false)], args := [d1, d2] }
  | _ => none }
def FilterRelaxesWrongFalsely : Prop := filterRelaxesRow.holds Tryz.pinned (OpenSpec.ofChange filterRelaxesWrong)

/- THE SECOND FORM. 'bulk': how many values and letters a reading holds, each counted each time it is reached (what is shared counts as often as it is met; a slice's spare places count too). A statement '..UptoSaid' is the law's where the arguments, and the package variables that the reading takes, are together of bulk at most 1048576: NARROWER than '..Said'. Prove '..Said' where nothing that the law and all that it calls make is longer than what came in: it says more and counts as full. Else prove '..UptoSaid'. A law counts once. -/
mutual
def uptoBulk {H : Type} : DataW H → Nat
  | .lit (.string bytes) => bytes.length + 1
  | .lit _ => 1
  | .nil => 1
  | .ptr d => uptoBulk d + 1
  | .slice elems spare => uptoBulkAll elems + uptoBulkAll spare + 1
  | .agg parts => uptoBulkAll parts + 1
  | .iface _ d => uptoBulk d + 1
  | .map entries => uptoBulkEntries entries + 1
  | .held _ => 1
def uptoBulkAll {H : Type} : List (DataW H) → Nat
  | [] => 0
  | d :: r => uptoBulk d + uptoBulkAll r
def uptoBulkEntries {H : Type} : List (Lit × DataW H) → Nat
  | [] => 0
  | x :: r => uptoBulkEntry x + uptoBulkEntries r
def uptoBulkEntry {H : Type} : Lit × DataW H → Nat
  | (.string bytes, d) => bytes.length + uptoBulk d + 1
  | (_, d) => uptoBulk d + 1
 end
def uptoSmall : (H : Type) → List (DataW H) → Bool := fun _ ds => decide (uptoBulkAll ds ≤ 1048576)
def OpenSpec.upto (s : _root_.Go.ChangeSpec) : _root_.Go.OpenSpec := { _root_.Go.OpenSpec.ofChange s with cond := some uptoSmall }

/-- 'transitlaw40.FilterAllows', WHERE WHAT IT READS IS OF BULK AT MOST 1048576: true; the input reads as it did. -/
def filterAllowsUptoRow : OpenClaim := { program := "ytlnoioahgincaaagreat", sum := "ca45e51ae9c603d69e422c0435645d6114b5aa6c531f46bd6f759a994f2df933", func := "transit/transitlaw40.FilterAllows", spec := "filterAllows", unfollowed := true, recurses := true, plainKeys := false, apart := false, narrowed := true }
def FilterAllowsUptoSaid : Prop := filterAllowsUptoRow.holds Tryz.pinned (OpenSpec.upto filterAllowsSpec)

/-- 'transitlaw40.FilterLists', WHERE WHAT IT READS IS OF BULK AT MOST 1048576: true; the input reads as it did. -/
def filterListsUptoRow : OpenClaim := { program := "ytlnoioahgincaaagreat", sum := "ca45e51ae9c603d69e422c0435645d6114b5aa6c531f46bd6f759a994f2df933", func := "transit/transitlaw40.FilterLists", spec := "filterLists", unfollowed := true, recurses := true, plainKeys := false, apart := false, narrowed := true }
def FilterListsUptoSaid : Prop := filterListsUptoRow.holds Tryz.pinned (OpenSpec.upto filterListsSpec)

/-- 'transitlaw40.FilterEquivalent', WHERE WHAT IT READS IS OF BULK AT MOST 1048576: true; the input reads as it did. -/
def filterEquivalentUptoRow : OpenClaim := { program := "ytlnoioahgincaaagreat", sum := "ca45e51ae9c603d69e422c0435645d6114b5aa6c531f46bd6f759a994f2df933", func := "transit/transitlaw40.FilterEquivalent", spec := "filterEquivalent", unfollowed := true, recurses := true, plainKeys := false, apart := false, narrowed := true }
def FilterEquivalentUptoSaid : Prop := filterEquivalentUptoRow.holds Tryz.pinned (OpenSpec.upto filterEquivalentSpec)

/-- 'transitlaw40.FilterRepeats', WHERE WHAT IT READS IS OF BULK AT MOST 1048576: true; the input reads as it did. -/
def filterRepeatsUptoRow : OpenClaim := { program := "ytlnoioahgincaaagreat", sum := "ca45e51ae9c603d69e422c0435645d6114b5aa6c531f46bd6f759a994f2df933", func := "transit/transitlaw40.FilterRepeats", spec := "filterRepeats", unfollowed := true, recurses := true, plainKeys := false, apart := false, narrowed := true }
def FilterRepeatsUptoSaid : Prop := filterRepeatsUptoRow.holds Tryz.pinned (OpenSpec.upto filterRepeatsSpec)

/-- 'transitlaw40.FilterRelaxes', WHERE WHAT IT READS IS OF BULK AT MOST 1048576: true; the input reads as it did. -/
def filterRelaxesUptoRow : OpenClaim := { program := "ytlnoioahgincaaagreat", sum := "ca45e51ae9c603d69e422c0435645d6114b5aa6c531f46bd6f759a994f2df933", func := "transit/transitlaw40.FilterRelaxes", spec := "filterRelaxes", unfollowed := true, recurses := true, plainKeys := false, apart := false, narrowed := true }
def FilterRelaxesUptoSaid : Prop := filterRelaxesUptoRow.holds Tryz.pinned (OpenSpec.upto filterRelaxesSpec)

end Rows
end Go.Proofs.YtlnoioahgincaaaGreat
