/-
  No cell of these rows narrows 'for every input' (looked for: loops, veiled, ifaces, maps, wideKeys, modest, calm, conditions, laid).
  DERIVED. THE GIVEN ROWS OF THIS SEAT. 3 by the template 'for every input the law returns true; each argument reads behind the call as it read before'; 0 by the template 'total and deterministic' (their statements: YtbjejlpejjnpnaaGreatTotals.lean).
  GIVEN WITH THE SEED: the statements are not yours to turn. If you find one false, say at which input.
  Laid BY PROGRAM, IN A SANDBOX (cutbox-rows.mjs): the forced cells as the released guide's own fill.sh prints them over the translation a4e8f5f404f6c440… (all of the seat's roots in one cut). By AI agents, Wed Nov 11 2026. No macro, syntax, notation, axiom, sorry.
-/
import Derived.Test.YtbjejlpejjnpnaaGreatChecked
import GoSem.Claim
import GoSem.ClaimJoined
import GoSem.ClaimMapViews
import Derived.JoinedTies
import Derived.KernelRfl
namespace Go.Proofs.YtbjejlpejjnpnaaGreat
/- THE CELL 'sum', in the pinned program and in every row, IS THE sha256 OF THE DUMP (.gsa) THAT YtbjejlpejjnpnaaGreatProg.lean LOADS. Nothing in Lean hashes anything: it is a label: what it is worth is what the hold of that sum in a sandbox is worth. -/
noncomputable def Tryz.pinned : Pinned := { name := "ytbjejlpejjnpnaagreat", sum := "a4e8f5f404f6c44090eb8923f59c2b61a0d887d0ff2c64dee9ffb9d826a22a22", checked := Tryz.checked }
namespace Rows
def none {H : Type} : Left H := { results := [], args := [] }

/-- 'transittop.TopFilter': WHATEVER THE INPUT: true; the input reads as it did. -/
def topFilterSpec : ChangeSpec := { name := "topFilter", fn := fun _ => fun
  | [d1, d2] => { results := [.lit (.bool true)], args := [d1, d2] }
  | _ => none }
def topFilterRow : OpenClaim := { program := "ytbjejlpejjnpnaagreat", sum := "a4e8f5f404f6c44090eb8923f59c2b61a0d887d0ff2c64dee9ffb9d826a22a22", func := "transit/transittop.TopFilter", spec := "topFilter", unfollowed := true, recurses := true, plainKeys := false, apart := false }
def TopFilterSaid : Prop := topFilterRow.holds Tryz.pinned (OpenSpec.ofChange topFilterSpec)

/-- ITS FALSE NEIGHBOUR: 'it returns false'. Refute it at one input. -/
def topFilterWrong : ChangeSpec := { name := "topFilter", fn := fun _ => fun
  | [d1, d2] => { results := [.lit (.bool false)], args := [d1, d2] }
  | _ => none }
def TopFilterWrongFalsely : Prop := topFilterRow.holds Tryz.pinned (OpenSpec.ofChange topFilterWrong)

/-- 'transittop.TopReject': WHATEVER THE INPUT: true; the input reads as it did. -/
def topRejectSpec : ChangeSpec := { name := "topReject", fn := fun _ => fun
  | [d1, d2, d3] => { results := [.lit (.bool true)], args := [d1, d2, d3] }
  | _ => none }
def topRejectRow : OpenClaim := { program := "ytbjejlpejjnpnaagreat", sum := "a4e8f5f404f6c44090eb8923f59c2b61a0d887d0ff2c64dee9ffb9d826a22a22", func := "transit/transittop.TopReject", spec := "topReject", unfollowed := true, recurses := true, plainKeys := false, apart := false }
def TopRejectSaid : Prop := topRejectRow.holds Tryz.pinned (OpenSpec.ofChange topRejectSpec)

/-- ITS FALSE NEIGHBOUR: 'it returns false'. Refute it at one input. -/
def topRejectWrong : ChangeSpec := { name := "topReject", fn := fun _ => fun
  | [d1, d2, d3] => { results := [.lit (.bool false)], args := [d1, d2, d3] }
  | _ => none }
def TopRejectWrongFalsely : Prop := topRejectRow.holds Tryz.pinned (OpenSpec.ofChange topRejectWrong)

/-- 'transittop.TopMirror': WHATEVER THE INPUT: true; the input reads as it did. -/
def topMirrorSpec : ChangeSpec := { name := "topMirror", fn := fun _ => fun
  | [d1, d2] => { results := [.lit (.bool true)], args := [d1, d2] }
  | _ => none }
def topMirrorRow : OpenClaim := { program := "ytbjejlpejjnpnaagreat", sum := "a4e8f5f404f6c44090eb8923f59c2b61a0d887d0ff2c64dee9ffb9d826a22a22", func := "transit/transittop.TopMirror", spec := "topMirror", unfollowed := true, recurses := true, plainKeys := false, apart := false }
def TopMirrorSaid : Prop := topMirrorRow.holds Tryz.pinned (OpenSpec.ofChange topMirrorSpec)

/-- ITS FALSE NEIGHBOUR: 'it returns false'. Refute it at one input. -/
def topMirrorWrong : ChangeSpec := { name := "topMirror", fn := fun _ => fun
  | [d1, d2] => { results := [.lit (.bool false)], args := [d1, d2] }
  | _ => none }
def TopMirrorWrongFalsely : Prop := topMirrorRow.holds Tryz.pinned (OpenSpec.ofChange topMirrorWrong)

/- THE SECOND FORM. 'bulk': how many values and letters a reading holds, each counted each time it is reached (what is shared counts as often as it is met; a slice's spare places count too). A statement '..UptoSaid' is the law's where the arguments, and the package variables that the reading takes, are together of bulk at most 1048576: NARROWER than '..Said'. Prove '..Said' where nothing that the law and all that it calls make is longer than what came in: it says more and counts as full. Else prove '..UptoSaid'. A law counts once. -/
mutual
def uptoBulk {H : Type} : DataW H → Nat
  | .lit (.string bytes) => bytes.length + 1
  | .lit _ => 1
  | .nil => 1
  | .ptr d => uptoBulk d + 1
  | .slice elems spare => uptoBulkAll elems + uptoBulkAll spare + 1
  | .agg parts => uptoBulkAll parts + 1
  | .iface _ d => uptoBulk d + 1
  | .map entries => uptoBulkEntries entries + 1
  | .held _ => 1
def uptoBulkAll {H : Type} : List (DataW H) → Nat
  | [] => 0
  | d :: r => uptoBulk d + uptoBulkAll r
def uptoBulkEntries {H : Type} : List (Lit × DataW H) → Nat
  | [] => 0
  | x :: r => uptoBulkEntry x + uptoBulkEntries r
def uptoBulkEntry {H : Type} : Lit × DataW H → Nat
  | (.string bytes, d) => bytes.length + uptoBulk d + 1
  | (_, d) => uptoBulk d + 1
 end
def uptoSmall : (H : Type) → List (DataW H) → Bool := fun _ ds => decide (uptoBulkAll ds ≤ 1048576)
def OpenSpec.upto (s : _root_.Go.ChangeSpec) : _root_.Go.OpenSpec := { _root_.Go.OpenSpec.ofChange s with cond := some uptoSmall }

/-- 'transittop.TopFilter', WHERE WHAT IT READS IS OF BULK AT MOST 1048576: true; the input reads as it did. -/
def topFilterUptoRow : OpenClaim := { program := "ytbjejlpejjnpnaagreat", sum := "a4e8f5f404f6c44090eb8923f59c2b61a0d887d0ff2c64dee9ffb9d826a22a22", func := "transit/transittop.TopFilter", spec := "topFilter", unfollowed := true, recurses := true, plainKeys := false, apart := false, narrowed := true }
def TopFilterUptoSaid : Prop := topFilterUptoRow.holds Tryz.pinned (OpenSpec.upto topFilterSpec)

/-- 'transittop.TopReject', WHERE WHAT IT READS IS OF BULK AT MOST 1048576: true; the input reads as it did. -/
def topRejectUptoRow : OpenClaim := { program := "ytbjejlpejjnpnaagreat", sum := "a4e8f5f404f6c44090eb8923f59c2b61a0d887d0ff2c64dee9ffb9d826a22a22", func := "transit/transittop.TopReject", spec := "topReject", unfollowed := true, recurses := true, plainKeys := false, apart := false, narrowed := true }
def TopRejectUptoSaid : Prop := topRejectUptoRow.holds Tryz.pinned (OpenSpec.upto topRejectSpec)

/-- 'transittop.TopMirror', WHERE WHAT IT READS IS OF BULK AT MOST 1048576: true; the input reads as it did. -/
def topMirrorUptoRow : OpenClaim := { program := "ytbjejlpejjnpnaagreat", sum := "a4e8f5f404f6c44090eb8923f59c2b61a0d887d0ff2c64dee9ffb9d826a22a22", func := "transit/transittop.TopMirror", spec := "topMirror", unfollowed := true, recurses := true, plainKeys := false, apart := false, narrowed := true }
def TopMirrorUptoSaid : Prop := topMirrorUptoRow.holds Tryz.pinned (OpenSpec.upto topMirrorSpec)

end Rows
end Go.Proofs.YtbjejlpejjnpnaaGreat
