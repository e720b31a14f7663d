/- The functions of the program as functions of Lean, and that the program computes them; printed by a program of mine. Conditions: none. -/
import Derived.Test.YtjnbpdkoeojgiaaGreatFin28za
open Tr Go Go.Proofs
namespace Q
noncomputable def F_ref28_List : (El Y31) → Option (El Y34 × El Y35) := fun a0 =>
 Option.bind (F_ref26_Valid a0) fun x0 =>
 bif !x0 then some ([], (21 : Int))
 else
 Option.bind
 (Tr.run
 (fun s1 =>
 bif decide (s1.2 < (↑(List.length a0.2.2.1) : Int)) then
 Option.bind (idx a0.2.2.1 s1.2) fun x2 =>
 Option.bind
 (Tr.run
 (fun s3 =>
 Option.bind
 (bif decide (IntKind.wrap .i64 (s3.2 + (1 : Int)) < (↑(List.length x2.2.2.2.2.2.2.2.1) : Int)) then
 some !x2.2.2.2.2.2.2.1
 else some false)
 fun x4 =>
 bif x4 then
 Option.bind (idx x2.2.2.2.2.2.2.2.1 s3.2) fun x5 =>
 Option.bind (idx x2.2.2.2.2.2.2.2.1 (IntKind.wrap .i64 (s3.2 + (1 : Int)))) fun x6 =>
 Option.bind (F_ref28_insert s3.1 (s1.2, s3.2, x5.1, x6.1, x5.2.2.1, x6.2.1, ())) fun x7 =>
 some (.inl (x7, IntKind.wrap .i64 (s3.2 + (1 : Int))))
 else some (.inr s3.1))
 (s1.1, (0 : Int)))
 fun x8 => some (.inl (x8, IntKind.wrap .i64 (s1.2 + (1 : Int))))
 else some (.inr s1.1))
 ([], (0 : Int)))
 fun x9 => some (x9, (0 : Int))
abbrev F_ref28_ListA : Pats := (.cons (.pd Y31) .nil)
abbrev F_ref28_ListR : Pats := (.cons (.pd Y34) (.cons (.pd Y35) .nil))
noncomputable def F_ref28_ListS : Tr.Spec := { args := F_ref28_ListA, res := F_ref28_ListR, fns := [], α := El Y34 × El Y35, f := fun x => F_ref28_List x.1, unp := fun z => (((), ()), (z.1, z.2, ())) }
noncomputable def F_ref28_ListM : List (Nat × List Tr.Spec) := [(15, [F_ref26_ValidS]), (16, [F_ref28_insertS])]
def F_ref28_ListH : Hint := (.seq .leaf (.seq .leaf (.seq .leaf (.seq (.seq .leaf (.lp ⟨[(4, (.own Y44 false)), (5, (.pd Y3))], [], [1], []⟩ [((.exit 0), ⟨[(4, (.own Y44 false))], [], [], []⟩)] (.seq .leaf (.seq (.seq .leaf (.seq .leaf (.lp ⟨[(4, (.own Y44 false)), (7, (.pd Y3))], [], [1, 5, 6], []⟩ [((.exit 2), ⟨[(4, (.own Y44 false))], [], [1, 5], []⟩)] (.seq (.seq (.reg [(35, Y4)]) .leaf) .leaf)))) .leaf)))) .leaf))))
noncomputable def F_ref28_ListV (a0 : El Y31) : Option (El Y34 × El Y35) := evalF (mkE tyTab mapTab pkTab [] [] F_ref28_ListM 63) (codeOf Tryz.f7) Tryz.f7.results F_ref28_ListH F_ref28_ListA F_ref28_ListR (fun y => (y.2.1, y.2.2.1)) (a0, ())
theorem F_ref28_List_eq (a0 : El Y31) : F_ref28_ListV a0 = F_ref28_List a0 := by kernel_rfl
theorem F_ref28_List_ok : FnOK Tryz.prog 7 F_ref28_ListS := fnOK_of (m := F_ref28_ListM) (fn := Tryz.f7) (hint := F_ref28_ListH) (pack := fun y => (y.2.1, y.2.2.1)) hmix tab_ok ⟨⟨F_ref26_Valid_ok, trivial⟩, ⟨F_ref28_insert_ok, trivial⟩, trivial⟩ fun x z h => (F_ref28_List_eq x.1).trans h
noncomputable def F_law28_ConnectionLists : (El Y31) → Option (El Y4) := fun a0 =>
 Option.bind (F_ref28_Large a0) fun x0 =>
 bif x0 then Option.bind F_law28_exampleHolds fun x1 => some x1
 else
 Option.bind (F_connection_List a0) fun x2 =>
 Option.bind (F_ref28_List a0) fun x3 =>
 Option.bind
 (Option.bind (F_ref28_Same x2.1 x3.1) fun x4 =>
 bif x4 then bif decide (x2.2 = x3.2) then Option.bind F_law28_exampleHolds fun x5 => some x5 else some false else some false)
 fun x6 => some x6
abbrev F_law28_ConnectionListsA : Pats := (.cons (.pd Y31) .nil)
abbrev F_law28_ConnectionListsR : Pats := (.cons (.pd Y4) .nil)
noncomputable def F_law28_ConnectionListsS : Tr.Spec := { args := F_law28_ConnectionListsA, res := F_law28_ConnectionListsR, fns := [], α := El Y4, f := fun x => F_law28_ConnectionLists x.1, unp := fun z => (((), ()), (z, ())) }
noncomputable def F_law28_ConnectionListsM : List (Nat × List Tr.Spec) := [(4, [F_ref28_LargeS]), (5, [F_law28_exampleHoldsS]), (6, [F_connection_ListS]), (7, [F_ref28_ListS]), (8, [F_ref28_SameS])]
def F_law28_ConnectionListsH : Hint := (.seq .leaf (.seq .leaf (.seq .leaf (.seq .leaf (.seq (.reg [(2, Y4)]) .leaf)))))
noncomputable def F_law28_ConnectionListsV (a0 : El Y31) : Option (El Y4) := evalF (mkE tyTab mapTab pkTab [] [] F_law28_ConnectionListsM 31) (codeOf Tryz.f3) Tryz.f3.results F_law28_ConnectionListsH F_law28_ConnectionListsA F_law28_ConnectionListsR (fun y => y.2.1) (a0, ())
theorem F_law28_ConnectionLists_eq (a0 : El Y31) : F_law28_ConnectionListsV a0 = F_law28_ConnectionLists a0 := by kernel_rfl
theorem F_law28_ConnectionLists_ok : FnOK Tryz.prog 3 F_law28_ConnectionListsS := fnOK_of (m := F_law28_ConnectionListsM) (fn := Tryz.f3) (hint := F_law28_ConnectionListsH) (pack := fun y => y.2.1) hmix tab_ok ⟨⟨F_ref28_Large_ok, trivial⟩, ⟨F_law28_exampleHolds_ok, trivial⟩, ⟨F_connection_List_ok, trivial⟩, ⟨F_ref28_List_ok, trivial⟩, ⟨F_ref28_Same_ok, trivial⟩, trivial⟩ fun x z h => (F_law28_ConnectionLists_eq x.1).trans h
end Q
