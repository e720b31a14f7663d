/- The functions of the program as functions of Lean, and that the program computes them; printed by a program of mine. Conditions: none. -/
import Derived.Test.YtjnbpdkoeojgiaaFin28a
open Tr Go Go.Proofs
namespace Q
noncomputable def F_law28_ConnectionCuts : (El Y40) → (El Y3) → (El Y3) → Option (El Y4) := fun a0 a1 a2 =>
 Option.bind (Option.bind (F_ref28_Large a0) fun x0 => bif x0 then some true else Option.bind (F_ref26_Valid a0) fun x1 => some !x1) fun x2 =>
 bif x2 then Option.bind F_law28_exampleHolds fun x3 => some x3
 else
 Option.bind (F_connection_List a0) fun x4 =>
 Option.bind (F_connection_From x4.1 (Tr.imin a1 a2)) fun x5 =>
 Option.bind (F_connection_Until x4.1 (Tr.imax a1 a2)) fun x6 =>
 Option.bind
 (bif decide (x5 < (0 : Int)) then some true
 else
 bif decide (x6 < x5) then some true
 else
 bif decide ((↑(List.length x4.1) : Int) < x6) then some true
 else
 Option.bind (F_connection_From x4.1 (Tr.imax a1 a2)) fun x7 =>
 bif decide (x7 < x5) then some true
 else
 Option.bind (F_connection_Until x4.1 (Tr.imin a1 a2)) fun x8 =>
 bif decide (x6 < x8) then some true else Option.bind (F_connection_Until x4.1 (Tr.imin a1 a2)) fun x9 => some (decide (x9 < x5)))
 fun x10 =>
 bif x10 then some false
 else
 Option.bind
 (Tr.run
 (fun s11 =>
 bif decide (s11 < (↑(List.length x4.1) : Int)) then
 Option.bind
 (Option.bind (idx x4.1 s11) fun x12 =>
 bif decide (Tr.imin a1 a2 ≤ x12.2.2.2.2.1) then
 Option.bind (idx x4.1 s11) fun x13 =>
 bif decide (x5 ≤ s11) then some !decide (x13.2.2.2.2.1 ≤ Tr.imax a1 a2) == decide (s11 < x6)
 else some !decide (x13.2.2.2.2.1 ≤ Tr.imax a1 a2) == false
 else bif decide (x5 ≤ s11) then some !false == decide (s11 < x6) else some !false == false)
 fun x14 => bif x14 then some (.inr (.inr false)) else some (.inl (IntKind.wrap .i64 (s11 + (1 : Int))))
 else some (.inr (.inl ())))
 (0 : Int))
 fun x15 => Sum.elim (fun _ => Option.bind F_law28_exampleHolds fun x17 => some x17) (fun y18 => some y18) x15
abbrev F_law28_ConnectionCutsA : Pats := (.cons (.pd Y40) (.cons (.pd Y3) (.cons (.pd Y3) .nil)))
abbrev F_law28_ConnectionCutsR : Pats := (.cons (.pd Y4) .nil)
noncomputable def F_law28_ConnectionCutsS : Tr.Spec := { args := F_law28_ConnectionCutsA, res := F_law28_ConnectionCutsR, fns := [], α := El Y4, f := fun x => F_law28_ConnectionCuts x.1 x.2.1 x.2.2.1, unp := fun z => (((), (), (), ()), (z, ())) }
noncomputable def F_law28_ConnectionCutsM : List (Nat × List Tr.Spec) := [(9, [F_law28_exampleHoldsS]), (10, [F_connection_FromS]), (11, [F_connection_UntilS]), (15, [F_ref28_LargeS]), (16, [F_ref26_ValidS]), (17, [F_connection_ListS])]
def F_law28_ConnectionCutsH : Hint := (.seq .leaf (.seq (.seq (.reg [(20, Y4)]) .leaf) (.seq .leaf (.seq .leaf (.seq .leaf (.seq (.seq (.reg [(72, Y4)]) .leaf) (.seq (.seq .leaf (.lp ⟨[(13, (.pd Y3))], [], [7, 9, 10, 11, 12], []⟩ [((.exit 0), ⟨[], [], [], []⟩), (.ret, ⟨[(6, (.pd Y4))], [], [], []⟩)] (.seq .leaf (.seq (.seq (.reg [(103, Y4)]) .leaf) .leaf)))) .leaf)))))))
noncomputable def F_law28_ConnectionCutsV (a0 : El Y40) (a1 : El Y3) (a2 : El Y3) : Option (El Y4) := evalF (mkE tyTab mapTab pkTab [] [] F_law28_ConnectionCutsM 105) (codeOf Try.f6) Try.f6.results F_law28_ConnectionCutsH F_law28_ConnectionCutsA F_law28_ConnectionCutsR (fun y => y.2.1) (a0, a1, a2, ())
theorem F_law28_ConnectionCuts_eq (a0 : El Y40) (a1 : El Y3) (a2 : El Y3) : F_law28_ConnectionCutsV a0 a1 a2 = F_law28_ConnectionCuts a0 a1 a2 := by kernel_rfl
theorem F_law28_ConnectionCuts_ok : FnOK Try.prog 6 F_law28_ConnectionCutsS := fnOK_of (m := F_law28_ConnectionCutsM) (fn := Try.f6) (hint := F_law28_ConnectionCutsH) (pack := fun y => y.2.1) hmix tab_ok ⟨⟨F_law28_exampleHolds_ok, trivial⟩, ⟨F_connection_From_ok, trivial⟩, ⟨F_connection_Until_ok, trivial⟩, ⟨F_ref28_Large_ok, trivial⟩, ⟨F_ref26_Valid_ok, trivial⟩, ⟨F_connection_List_ok, trivial⟩, trivial⟩ fun x z h => (F_law28_ConnectionCuts_eq x.1 x.2.1 x.2.2.1).trans h
end Q
