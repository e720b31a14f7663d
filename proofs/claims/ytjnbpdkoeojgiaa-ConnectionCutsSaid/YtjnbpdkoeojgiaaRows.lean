/-
  No cell of these rows narrows 'for every input' (looked for: loops, veiled, ifaces, maps, wideKeys, modest, calm, conditions, laid).
  DERIVED. THE GIVEN ROWS OF THIS SEAT. 4 by the template 'for every input the law returns true; each argument reads behind the call as it read before'; 0 by the template 'total and deterministic' (their statements: YtjnbpdkoeojgiaaTotals.lean).
  GIVEN WITH THE SEED: the statements are not yours to turn. If you find one false, say at which input.
  Laid BY PROGRAM, IN A SANDBOX (cutbox-rows.mjs): the forced cells as the released guide's own fill.sh prints them over the translation 14990293e87bf41c… (all of the seat's roots in one cut). By AI agents, Wed Nov 11 2026. No macro, syntax, notation, axiom, sorry.
-/
import Derived.Test.YtjnbpdkoeojgiaaChecked
import GoSem.Claim
import GoSem.ClaimJoined
import GoSem.ClaimMapViews
import Derived.JoinedTies
import Derived.KernelRfl
namespace Go.Proofs.Ytjnbpdkoeojgiaa
/- THE CELL 'sum', in the pinned program and in every row, IS THE sha256 OF THE DUMP (.gsa) THAT YtjnbpdkoeojgiaaProg.lean LOADS. Nothing in Lean hashes anything: it is a label: what it is worth is what the hold of that sum in a sandbox is worth. -/
noncomputable def Try.pinned : Pinned := { name := "ytjnbpdkoeojgiaa", sum := "14990293e87bf41ce2534eeea94667839c9418c6316695b46f460029406afc93", checked := Try.checked }
namespace Rows
def none {H : Type} : Left H := { results := [], args := [] }

/-- 'transitlaw28.ConnectionCompares': WHATEVER THE INPUT: true; the input reads as it did. -/
def connectionComparesSpec : ChangeSpec := { name := "connectionCompares", fn := fun _ => fun
  | [d1, d2] => { results := [.lit (.bool true)], args := [d1, d2] }
  | _ => none }
def connectionComparesRow : OpenClaim := { program := "ytjnbpdkoeojgiaa", sum := "14990293e87bf41ce2534eeea94667839c9418c6316695b46f460029406afc93", func := "transit/transitlaw28.ConnectionCompares", spec := "connectionCompares", unfollowed := true, recurses := true, plainKeys := false, apart := false }
def ConnectionComparesSaid : Prop := connectionComparesRow.holds Try.pinned (OpenSpec.ofChange connectionComparesSpec)

/-- ITS FALSE NEIGHBOUR: 'it returns false'. Refute it at one input. -/
def connectionComparesWrong : ChangeSpec := { name := "connectionCompares", fn := fun _ => fun
  | [d1, d2] => { results := [.lit (.bool false)], args := [d1, d2] }
  | _ => none }
def ConnectionComparesWrongFalsely : Prop := connectionComparesRow.holds Try.pinned (OpenSpec.ofChange connectionComparesWrong)

/-- 'transitlaw28.ConnectionFinds': WHATEVER THE INPUT: true; the input reads as it did. -/
def connectionFindsSpec : ChangeSpec := { name := "connectionFinds", fn := fun _ => fun
  | [d1, d2] => { results := [.lit (.bool true)], args := [d1, d2] }
  | _ => none }
def connectionFindsRow : OpenClaim := { program := "ytjnbpdkoeojgiaa", sum := "14990293e87bf41ce2534eeea94667839c9418c6316695b46f460029406afc93", func := "transit/transitlaw28.ConnectionFinds", spec := "connectionFinds", unfollowed := true, recurses := true, plainKeys := false, apart := false }
def ConnectionFindsSaid : Prop := connectionFindsRow.holds Try.pinned (OpenSpec.ofChange connectionFindsSpec)

/-- ITS FALSE NEIGHBOUR: 'it returns false'. Refute it at one input. -/
def connectionFindsWrong : ChangeSpec := { name := "connectionFinds", fn := fun _ => fun
  | [d1, d2] => { results := [.lit (.bool false)], args := [d1, d2] }
  | _ => none }
def ConnectionFindsWrongFalsely : Prop := connectionFindsRow.holds Try.pinned (OpenSpec.ofChange connectionFindsWrong)

/-- 'transitlaw28.ConnectionOrder': WHATEVER THE INPUT: true; the input reads as it did. -/
def connectionOrderSpec : ChangeSpec := { name := "connectionOrder", fn := fun _ => fun
  | [d] => { results := [.lit (.bool true)], args := [d] }
  | _ => none }
def connectionOrderRow : OpenClaim := { program := "ytjnbpdkoeojgiaa", sum := "14990293e87bf41ce2534eeea94667839c9418c6316695b46f460029406afc93", func := "transit/transitlaw28.ConnectionOrder", spec := "connectionOrder", unfollowed := true, recurses := true, plainKeys := false, apart := false }
def ConnectionOrderSaid : Prop := connectionOrderRow.holds Try.pinned (OpenSpec.ofChange connectionOrderSpec)

/-- ITS FALSE NEIGHBOUR: 'it returns false'. Refute it at one input. -/
def connectionOrderWrong : ChangeSpec := { name := "connectionOrder", fn := fun _ => fun
  | [d] => { results := [.lit (.bool false)], args := [d] }
  | _ => none }
def ConnectionOrderWrongFalsely : Prop := connectionOrderRow.holds Try.pinned (OpenSpec.ofChange connectionOrderWrong)

/-- 'transitlaw28.ConnectionCuts': WHATEVER THE INPUT: true; the input reads as it did. -/
def connectionCutsSpec : ChangeSpec := { name := "connectionCuts", fn := fun _ => fun
  | [d1, d2, d3] => { results := [.lit (.bool true)], args := [d1, d2, d3] }
  | _ => none }
def connectionCutsRow : OpenClaim := { program := "ytjnbpdkoeojgiaa", sum := "14990293e87bf41ce2534eeea94667839c9418c6316695b46f460029406afc93", func := "transit/transitlaw28.ConnectionCuts", spec := "connectionCuts", unfollowed := true, recurses := true, plainKeys := false, apart := false }
def ConnectionCutsSaid : Prop := connectionCutsRow.holds Try.pinned (OpenSpec.ofChange connectionCutsSpec)

/-- ITS FALSE NEIGHBOUR: 'it returns false'. Refute it at one input. -/
def connectionCutsWrong : ChangeSpec := { name := "connectionCuts", fn := fun _ => fun
  | [d1, d2, d3] => { results := [.lit (.bool false)], args := [d1, d2, d3] }
  | _ => none }
def ConnectionCutsWrongFalsely : Prop := connectionCutsRow.holds Try.pinned (OpenSpec.ofChange connectionCutsWrong)

/- THE SECOND FORM. 'bulk': how many values and letters a reading holds, each counted each time it is reached (what is shared counts as often as it is met; a slice's spare places count too). A statement '..UptoSaid' is the law's where the arguments, and the package variables that the reading takes, are together of bulk at most 1048576: NARROWER than '..Said'. Prove '..Said' where nothing that the law and all that it calls make is longer than what came in: it says more and counts as full. Else prove '..UptoSaid'. A law counts once. -/
mutual
def uptoBulk {H : Type} : DataW H → Nat
  | .lit (.string bytes) => bytes.length + 1
  | .lit _ => 1
  | .nil => 1
  | .ptr d => uptoBulk d + 1
  | .slice elems spare => uptoBulkAll elems + uptoBulkAll spare + 1
  | .agg parts => uptoBulkAll parts + 1
  | .iface _ d => uptoBulk d + 1
  | .map entries => uptoBulkEntries entries + 1
  | .held _ => 1
def uptoBulkAll {H : Type} : List (DataW H) → Nat
  | [] => 0
  | d :: r => uptoBulk d + uptoBulkAll r
def uptoBulkEntries {H : Type} : List (Lit × DataW H) → Nat
  | [] => 0
  | x :: r => uptoBulkEntry x + uptoBulkEntries r
def uptoBulkEntry {H : Type} : Lit × DataW H → Nat
  | (.string bytes, d) => bytes.length + uptoBulk d + 1
  | (_, d) => uptoBulk d + 1
 end
def uptoSmall : (H : Type) → List (DataW H) → Bool := fun _ ds => decide (uptoBulkAll ds ≤ 1048576)
def OpenSpec.upto (s : _root_.Go.ChangeSpec) : _root_.Go.OpenSpec := { _root_.Go.OpenSpec.ofChange s with cond := some uptoSmall }

/-- 'transitlaw28.ConnectionCompares', WHERE WHAT IT READS IS OF BULK AT MOST 1048576: true; the input reads as it did. -/
def connectionComparesUptoRow : OpenClaim := { program := "ytjnbpdkoeojgiaa", sum := "14990293e87bf41ce2534eeea94667839c9418c6316695b46f460029406afc93", func := "transit/transitlaw28.ConnectionCompares", spec := "connectionCompares", unfollowed := true, recurses := true, plainKeys := false, apart := false, narrowed := true }
def ConnectionComparesUptoSaid : Prop := connectionComparesUptoRow.holds Try.pinned (OpenSpec.upto connectionComparesSpec)

/-- 'transitlaw28.ConnectionFinds', WHERE WHAT IT READS IS OF BULK AT MOST 1048576: true; the input reads as it did. -/
def connectionFindsUptoRow : OpenClaim := { program := "ytjnbpdkoeojgiaa", sum := "14990293e87bf41ce2534eeea94667839c9418c6316695b46f460029406afc93", func := "transit/transitlaw28.ConnectionFinds", spec := "connectionFinds", unfollowed := true, recurses := true, plainKeys := false, apart := false, narrowed := true }
def ConnectionFindsUptoSaid : Prop := connectionFindsUptoRow.holds Try.pinned (OpenSpec.upto connectionFindsSpec)

/-- 'transitlaw28.ConnectionOrder', WHERE WHAT IT READS IS OF BULK AT MOST 1048576: true; the input reads as it did. -/
def connectionOrderUptoRow : OpenClaim := { program := "ytjnbpdkoeojgiaa", sum := "14990293e87bf41ce2534eeea94667839c9418c6316695b46f460029406afc93", func := "transit/transitlaw28.ConnectionOrder", spec := "connectionOrder", unfollowed := true, recurses := true, plainKeys := false, apart := false, narrowed := true }
def ConnectionOrderUptoSaid : Prop := connectionOrderUptoRow.holds Try.pinned (OpenSpec.upto connectionOrderSpec)

/-- 'transitlaw28.ConnectionCuts', WHERE WHAT IT READS IS OF BULK AT MOST 1048576: true; the input reads as it did. -/
def connectionCutsUptoRow : OpenClaim := { program := "ytjnbpdkoeojgiaa", sum := "14990293e87bf41ce2534eeea94667839c9418c6316695b46f460029406afc93", func := "transit/transitlaw28.ConnectionCuts", spec := "connectionCuts", unfollowed := true, recurses := true, plainKeys := false, apart := false, narrowed := true }
def ConnectionCutsUptoSaid : Prop := connectionCutsUptoRow.holds Try.pinned (OpenSpec.upto connectionCutsSpec)

end Rows
end Go.Proofs.Ytjnbpdkoeojgiaa
