/- The functions of the program as functions of Lean, and that the program computes them; printed by a program of mine. Conditions: none. -/
import Derived.Test.YtjnbpdkoeojgiaaTsE
import Derived.KernelRfl
import Derived.Test.YtjnbpdkoeojgiaaTtB
import Derived.Test.YtjnbpdkoeojgiaaLay28
import Derived.Test.YtjnbpdkoeojgiaaProg
open Tr Go Go.Proofs
namespace Q
/-- int -/
abbrev Y3 : Ty := .int .i64
/-- bool -/
abbrev Y4 : Ty := .bool
/-- string -/
abbrev Y9 : Ty := .str
/-- api.Connection -/
abbrev Y23 : Ty := .prod Y3 (.prod Y3 (.prod Y3 (.prod Y3 (.prod Y3 (.prod Y3 .unit)))))
/-- []api.Connection -/
abbrev Y27 : Ty := .sl Y23
/-- api.Stop -/
abbrev Y63 : Ty := .prod Y9 (.prod Y3 (.prod Y4 (.prod Y3 .unit)))
/-- []api.Stop -/
abbrev Y31 : Ty := .sl Y63
/-- api.Route -/
abbrev Y65 : Ty := .prod Y9 (.prod Y3 (.prod Y4 .unit))
/-- []api.Route -/
abbrev Y32 : Ty := .sl Y65
/-- api.Call -/
abbrev Y50 : Ty := .prod Y3 (.prod Y3 (.prod Y3 (.prod Y4 (.prod Y4 .unit))))
/-- []api.Call -/
abbrev Y46 : Ty := .sl Y50
/-- api.Run -/
abbrev Y48 : Ty := .prod Y3 (.prod Y3 (.prod Y3 (.prod Y9 (.prod Y3 (.prod Y4 (.prod Y4 (.prod Y46 .unit)))))))
/-- []api.Run -/
abbrev Y33 : Ty := .sl Y48
/-- api.Link -/
abbrev Y84 : Ty := .prod Y3 (.prod Y3 (.prod Y3 (.prod Y3 (.prod Y4 .unit))))
/-- []api.Link -/
abbrev Y34 : Ty := .sl Y84
/-- api.Footpath -/
abbrev Y87 : Ty := .prod Y3 (.prod Y3 (.prod Y3 (.prod Y4 .unit)))
/-- []api.Footpath -/
abbrev Y35 : Ty := .sl Y87
/-- api.Product -/
abbrev Y90 : Ty := .prod Y9 (.prod Y3 (.prod Y3 (.prod Y3 (.prod Y3 (.prod Y3 .unit)))))
/-- []api.Product -/
abbrev Y36 : Ty := .sl Y90
/-- api.Fares -/
abbrev Y38 : Ty := .prod Y36 (.prod Y3 (.prod Y3 (.prod Y3 .unit)))
/-- api.Network -/
abbrev Y40 : Ty := .prod Y31 (.prod Y32 (.prod Y33 (.prod Y34 (.prod Y35 (.prod Y38 .unit)))))
/-- api.Errno -/
abbrev Y42 : Ty := .int .i64
/-- []int -/
abbrev Y45 : Ty := .sl Y3
/-- [2]int -/
abbrev Y52 : Ty := .arr 2 Y3
/-- [4][2]int -/
abbrev Y53 : Ty := .arr 4 Y52
/-- [4]int -/
abbrev Y54 : Ty := .arr 4 Y3
/-- network.result -/
abbrev Y73 : Ty := .prod Y3 (.prod Y3 (.prod Y42 .unit))
/-- map[string]bool -/
abbrev Y91 : Ty := .ref
/-- []network.result -/
abbrev Y92 : Ty := .sl Y73
/-- network.runKey -/
abbrev Y96 : Ty := .prod Y9 (.prod Y3 (.prod Y3 .unit))
/-- map[network.runKey]bool -/
abbrev Y93 : Ty := .ref
/-- map[int]int -/
abbrev Y97 : Ty := .ref
/-- map[int]bool -/
abbrev Y98 : Ty := .ref
/-- map[[4]int]bool -/
abbrev Y99 : Ty := .ref
/-- map[api.Footpath]bool -/
abbrev Y103 : Ty := .ref
/-- [][]int -/
abbrev Y116 : Ty := .sl Y45
/-- footpath.pair -/
abbrev Y128 : Ty := .prod Y3 (.prod Y3 (.prod Y4 .unit))
/-- map[footpath.pair]bool -/
abbrev Y126 : Ty := .ref
/-- map[footpath.pair]int -/
abbrev Y137 : Ty := .ref
/-- shortest.Edge -/
abbrev Y140 : Ty := .prod Y3 (.prod Y3 (.prod Y3 .unit))
/-- []shortest.Edge -/
abbrev Y138 : Ty := .sl Y140
/-- map[int][]shortest.Edge -/
abbrev Y145 : Ty := .ref
/-- shortest.label -/
abbrev Y156 : Ty := .prod Y3 (.prod Y3 (.prod Y3 .unit))
/-- []shortest.label -/
abbrev Y148 : Ty := .sl Y156
/-- func(shortest.label, shortest.label) bool -/
abbrev Y159 : Ty := .ref
/-- heap.node[transit/shortest.label] -/
abbrev Y169 : Ty := .prod Y156 (.prod Y3 .unit)
/-- []heap.node[transit/shortest.label] -/
abbrev Y165 : Ty := .sl Y169
/-- heap.Heap[transit/shortest.label] -/
abbrev Y167 : Ty := .prod Y159 (.prod Y165 (.prod Y3 .unit))
def tyTab : List (Nat × Ty) := [(3, Y3), (4, Y4), (9, Y9), (23, Y23), (27, Y27), (63, Y63), (31, Y31), (65, Y65), (32, Y32), (50, Y50), (46, Y46), (48, Y48), (33, Y33), (84, Y84), (34, Y34), (87, Y87), (35, Y35), (90, Y90), (36, Y36), (38, Y38), (40, Y40), (42, Y42), (45, Y45), (52, Y52), (53, Y53), (54, Y54), (73, Y73), (91, Y91), (92, Y92), (96, Y96), (93, Y93), (97, Y97), (98, Y98), (99, Y99), (103, Y103), (116, Y116), (128, Y128), (126, Y126), (137, Y137), (140, Y140), (138, Y138), (145, Y145), (156, Y156), (148, Y148), (159, Y159), (169, Y169), (165, Y165), (167, Y167)]
def mapTab : List (Nat × Ty × Ty) := [(91, Y9, Y4), (93, Y96, Y4), (97, Y3, Y3), (98, Y3, Y4), (99, Y54, Y4), (103, Y87, Y4), (126, Y128, Y4), (137, Y128, Y3), (145, Y3, Y138)]
def pkTab : List (Nat × Nat) := [(157, 1), (159, 2)]
theorem hmix : Try.prog.follows .mixedOrders = true := by kernel_rfl
theorem tab_ok : tabOk Try.prog tyTab mapTab pkTab = true := by kernel_rfl
noncomputable def F_connection_Compare : (El Y23) → (El Y23) → Option (El Y3) := fun a0 a1 =>
 Option.bind
 (Tr.run
 (fun s0 =>
 bif decide (s0 < (4 : Int)) then
 Option.bind (idx [[a0.2.2.2.2.1, a1.2.2.2.2.1], [a0.2.2.2.2.2.1, a1.2.2.2.2.2.1], [a0.1, a1.1], [a0.2.1, a1.2.1]] s0) fun x1 =>
 Option.bind x1[Int.toNat (0 : Int)]? fun x2 =>
 Option.bind x1[Int.toNat (1 : Int)]? fun x3 =>
 bif decide (x2 < x3) then some (.inr (.inr (-1 : Int)))
 else
 Option.bind x1[Int.toNat (0 : Int)]? fun x4 =>
 Option.bind x1[Int.toNat (1 : Int)]? fun x5 =>
 bif decide (x5 < x4) then some (.inr (.inr (1 : Int))) else some (.inl (IntKind.wrap .i64 (s0 + (1 : Int))))
 else some (.inr (.inl ())))
 (0 : Int))
 fun x6 => Sum.elim (fun _ => some (0 : Int)) (fun y8 => some y8) x6
abbrev F_connection_CompareA : Pats := (.cons (.pd Y23) (.cons (.pd Y23) .nil))
abbrev F_connection_CompareR : Pats := (.cons (.pd Y3) .nil)
noncomputable def F_connection_CompareS : Tr.Spec := { args := F_connection_CompareA, res := F_connection_CompareR, fns := [], α := El Y3, f := fun x => F_connection_Compare x.1 x.2.1, unp := fun z => (((), (), ()), (z, ())) }
noncomputable def F_connection_CompareM : List (Nat × List Tr.Spec) := []
def F_connection_CompareH : Hint := (.seq .leaf (.seq (.seq .leaf (.lp ⟨[(28, (.pd Y3))], [], [27], []⟩ [((.exit 0), ⟨[], [], [], []⟩), (.ret, ⟨[(4, (.pd Y3))], [], [], []⟩)] .leaf)) .leaf))
noncomputable def F_connection_CompareV (a0 : El Y23) (a1 : El Y23) : Option (El Y3) := evalF (mkE tyTab mapTab pkTab [] [] F_connection_CompareM 42) (codeOf Try.f7) Try.f7.results F_connection_CompareH F_connection_CompareA F_connection_CompareR (fun y => y.2.1) (a0, a1, ())
theorem F_connection_Compare_eq (a0 : El Y23) (a1 : El Y23) : F_connection_CompareV a0 a1 = F_connection_Compare a0 a1 := by kernel_rfl
theorem F_connection_Compare_ok : FnOK Try.prog 7 F_connection_CompareS := fnOK_of (m := F_connection_CompareM) (fn := Try.f7) (hint := F_connection_CompareH) (pack := fun y => y.2.1) hmix tab_ok trivial fun x z h => (F_connection_Compare_eq x.1 x.2.1).trans h
noncomputable def F_connection_From_1 : (El Y3) → (El Y27) → (El Y3) → Option (El Y4) := fun a0 a1 a2 => Option.bind (idx a1 a0) fun x0 => some (decide (a2 ≤ x0.2.2.2.2.1))
abbrev F_connection_From_1A : Pats := (.cons (.pd Y3) (.cons (.ro Y27) (.cons (.ro Y3) .nil)))
abbrev F_connection_From_1R : Pats := (.cons (.pd Y4) .nil)
noncomputable def F_connection_From_1S : Tr.Spec := { args := F_connection_From_1A, res := F_connection_From_1R, fns := [], α := El Y4, f := fun x => F_connection_From_1 x.1 x.2.1 x.2.2.1, unp := fun z => (((), (), (), ()), (z, ())) }
noncomputable def F_connection_From_1M : List (Nat × List Tr.Spec) := []
def F_connection_From_1H : Hint := .leaf
noncomputable def F_connection_From_1V (a0 : El Y3) (a1 : El Y27) (a2 : El Y3) : Option (El Y4) := evalF (mkE tyTab mapTab pkTab [] [] F_connection_From_1M 12) (codeOf Try.f21) Try.f21.results F_connection_From_1H F_connection_From_1A F_connection_From_1R (fun y => y.2.1) (a0, a1, a2, ())
theorem F_connection_From_1_eq (a0 : El Y3) (a1 : El Y27) (a2 : El Y3) : F_connection_From_1V a0 a1 a2 = F_connection_From_1 a0 a1 a2 := by kernel_rfl
theorem F_connection_From_1_ok : FnOK Try.prog 21 F_connection_From_1S := fnOK_of (m := F_connection_From_1M) (fn := Try.f21) (hint := F_connection_From_1H) (pack := fun y => y.2.1) hmix tab_ok trivial fun x z h => (F_connection_From_1_eq x.1 x.2.1 x.2.2.1).trans h
noncomputable def F_connection_first_X_connection_From_1 : (El Y3) → ((El Y27 × El Y3 × Unit)) → Option (El Y3) := fun a0 a1 =>
 Option.bind
 (Tr.run
 (fun s0 =>
 bif decide (s0.1 < s0.2) then
 Option.bind (F_connection_From_1 (IntKind.wrap .i64 (Int.tdiv (IntKind.wrap .i64 (s0.1 + s0.2)) (2 : Int))) a1.1 a1.2.1) fun x1 =>
 bif x1 then some (.inl (s0.1, IntKind.wrap .i64 (Int.tdiv (IntKind.wrap .i64 (s0.1 + s0.2)) (2 : Int))))
 else some (.inl (IntKind.wrap .i64 (IntKind.wrap .i64 (Int.tdiv (IntKind.wrap .i64 (s0.1 + s0.2)) (2 : Int)) + (1 : Int)), s0.2))
 else some (.inr s0.1))
 ((0 : Int), a0))
 fun x2 => some x2
abbrev F_connection_first_X_connection_From_1A : Pats := (.cons (.pd Y3) (.cons (.fn 21 (.cons (.ro Y27) (.cons (.ro Y3) .nil))) .nil))
abbrev F_connection_first_X_connection_From_1R : Pats := (.cons (.pd Y3) .nil)
noncomputable def F_connection_first_X_connection_From_1S : Tr.Spec := { args := F_connection_first_X_connection_From_1A, res := F_connection_first_X_connection_From_1R, fns := [21], α := El Y3, f := fun x => F_connection_first_X_connection_From_1 x.1 x.2.1, unp := fun z => (((), ((), (), ()), ()), (z, ())) }
noncomputable def F_connection_first_X_connection_From_1M : List (Nat × List Tr.Spec) := [(21, [F_connection_From_1S])]
def F_connection_first_X_connection_From_1H : Hint := (.seq .leaf (.seq .leaf (.seq (.lp ⟨[(5, (.pd Y3)), (6, (.pd Y3))], [], [1], []⟩ [((.exit 0), ⟨[(5, (.pd Y3))], [], [1], []⟩)] .leaf) .leaf)))
noncomputable def F_connection_first_X_connection_From_1V (a0 : El Y3) (a1 : (El Y27 × El Y3 × Unit)) : Option (El Y3) := evalF (mkE tyTab mapTab pkTab [] [] F_connection_first_X_connection_From_1M 23) (codeOf Try.f20) Try.f20.results F_connection_first_X_connection_From_1H F_connection_first_X_connection_From_1A F_connection_first_X_connection_From_1R (fun y => y.2.1) (a0, a1, ())
theorem F_connection_first_X_connection_From_1_eq (a0 : El Y3) (a1 : (El Y27 × El Y3 × Unit)) : F_connection_first_X_connection_From_1V a0 a1 = F_connection_first_X_connection_From_1 a0 a1 := by kernel_rfl
theorem F_connection_first_X_connection_From_1_ok : FnOK Try.prog 20 F_connection_first_X_connection_From_1S := fnOK_of (m := F_connection_first_X_connection_From_1M) (fn := Try.f20) (hint := F_connection_first_X_connection_From_1H) (pack := fun y => y.2.1) hmix tab_ok ⟨⟨F_connection_From_1_ok, trivial⟩, trivial⟩ fun x z h => (F_connection_first_X_connection_From_1_eq x.1 x.2.1).trans h
noncomputable def F_connection_From : (El Y27) → (El Y3) → Option (El Y3) := fun a0 a1 => Option.bind (F_connection_first_X_connection_From_1 (↑(List.length a0) : Int) (a0, a1, ())) fun x0 => some x0
abbrev F_connection_FromA : Pats := (.cons (.pd Y27) (.cons (.pd Y3) .nil))
abbrev F_connection_FromR : Pats := (.cons (.pd Y3) .nil)
noncomputable def F_connection_FromS : Tr.Spec := { args := F_connection_FromA, res := F_connection_FromR, fns := [], α := El Y3, f := fun x => F_connection_From x.1 x.2.1, unp := fun z => (((), (), ()), (z, ())) }
noncomputable def F_connection_FromM : List (Nat × List Tr.Spec) := [(20, [F_connection_first_X_connection_From_1S]), (21, [F_connection_From_1S])]
def F_connection_FromH : Hint := .leaf
noncomputable def F_connection_FromV (a0 : El Y27) (a1 : El Y3) : Option (El Y3) := evalF (mkE tyTab mapTab pkTab [] [] F_connection_FromM 9) (codeOf Try.f10) Try.f10.results F_connection_FromH F_connection_FromA F_connection_FromR (fun y => y.2.1) (a0, a1, ())
theorem F_connection_From_eq (a0 : El Y27) (a1 : El Y3) : F_connection_FromV a0 a1 = F_connection_From a0 a1 := by kernel_rfl
theorem F_connection_From_ok : FnOK Try.prog 10 F_connection_FromS := fnOK_of (m := F_connection_FromM) (fn := Try.f10) (hint := F_connection_FromH) (pack := fun y => y.2.1) hmix tab_ok ⟨⟨F_connection_first_X_connection_From_1_ok, trivial⟩, ⟨F_connection_From_1_ok, trivial⟩, trivial⟩ fun x z h => (F_connection_From_eq x.1 x.2.1).trans h
noncomputable def F_connection_Until_1 : (El Y3) → (El Y27) → (El Y3) → Option (El Y4) := fun a0 a1 a2 => Option.bind (idx a1 a0) fun x0 => some (decide (a2 < x0.2.2.2.2.1))
abbrev F_connection_Until_1A : Pats := (.cons (.pd Y3) (.cons (.ro Y27) (.cons (.ro Y3) .nil)))
abbrev F_connection_Until_1R : Pats := (.cons (.pd Y4) .nil)
noncomputable def F_connection_Until_1S : Tr.Spec := { args := F_connection_Until_1A, res := F_connection_Until_1R, fns := [], α := El Y4, f := fun x => F_connection_Until_1 x.1 x.2.1 x.2.2.1, unp := fun z => (((), (), (), ()), (z, ())) }
noncomputable def F_connection_Until_1M : List (Nat × List Tr.Spec) := []
def F_connection_Until_1H : Hint := .leaf
noncomputable def F_connection_Until_1V (a0 : El Y3) (a1 : El Y27) (a2 : El Y3) : Option (El Y4) := evalF (mkE tyTab mapTab pkTab [] [] F_connection_Until_1M 12) (codeOf Try.f22) Try.f22.results F_connection_Until_1H F_connection_Until_1A F_connection_Until_1R (fun y => y.2.1) (a0, a1, a2, ())
theorem F_connection_Until_1_eq (a0 : El Y3) (a1 : El Y27) (a2 : El Y3) : F_connection_Until_1V a0 a1 a2 = F_connection_Until_1 a0 a1 a2 := by kernel_rfl
theorem F_connection_Until_1_ok : FnOK Try.prog 22 F_connection_Until_1S := fnOK_of (m := F_connection_Until_1M) (fn := Try.f22) (hint := F_connection_Until_1H) (pack := fun y => y.2.1) hmix tab_ok trivial fun x z h => (F_connection_Until_1_eq x.1 x.2.1 x.2.2.1).trans h
noncomputable def F_connection_first_X_connection_Until_1 : (El Y3) → ((El Y27 × El Y3 × Unit)) → Option (El Y3) := fun a0 a1 =>
 Option.bind
 (Tr.run
 (fun s0 =>
 bif decide (s0.1 < s0.2) then
 Option.bind (F_connection_Until_1 (IntKind.wrap .i64 (Int.tdiv (IntKind.wrap .i64 (s0.1 + s0.2)) (2 : Int))) a1.1 a1.2.1) fun x1 =>
 bif x1 then some (.inl (s0.1, IntKind.wrap .i64 (Int.tdiv (IntKind.wrap .i64 (s0.1 + s0.2)) (2 : Int))))
 else some (.inl (IntKind.wrap .i64 (IntKind.wrap .i64 (Int.tdiv (IntKind.wrap .i64 (s0.1 + s0.2)) (2 : Int)) + (1 : Int)), s0.2))
 else some (.inr s0.1))
 ((0 : Int), a0))
 fun x2 => some x2
abbrev F_connection_first_X_connection_Until_1A : Pats := (.cons (.pd Y3) (.cons (.fn 22 (.cons (.ro Y27) (.cons (.ro Y3) .nil))) .nil))
abbrev F_connection_first_X_connection_Until_1R : Pats := (.cons (.pd Y3) .nil)
noncomputable def F_connection_first_X_connection_Until_1S : Tr.Spec := { args := F_connection_first_X_connection_Until_1A, res := F_connection_first_X_connection_Until_1R, fns := [22], α := El Y3, f := fun x => F_connection_first_X_connection_Until_1 x.1 x.2.1, unp := fun z => (((), ((), (), ()), ()), (z, ())) }
noncomputable def F_connection_first_X_connection_Until_1M : List (Nat × List Tr.Spec) := [(22, [F_connection_Until_1S])]
def F_connection_first_X_connection_Until_1H : Hint := (.seq .leaf (.seq .leaf (.seq (.lp ⟨[(5, (.pd Y3)), (6, (.pd Y3))], [], [1], []⟩ [((.exit 0), ⟨[(5, (.pd Y3))], [], [1], []⟩)] .leaf) .leaf)))
noncomputable def F_connection_first_X_connection_Until_1V (a0 : El Y3) (a1 : (El Y27 × El Y3 × Unit)) : Option (El Y3) := evalF (mkE tyTab mapTab pkTab [] [] F_connection_first_X_connection_Until_1M 23) (codeOf Try.f20) Try.f20.results F_connection_first_X_connection_Until_1H F_connection_first_X_connection_Until_1A F_connection_first_X_connection_Until_1R (fun y => y.2.1) (a0, a1, ())
theorem F_connection_first_X_connection_Until_1_eq (a0 : El Y3) (a1 : (El Y27 × El Y3 × Unit)) : F_connection_first_X_connection_Until_1V a0 a1 = F_connection_first_X_connection_Until_1 a0 a1 := by kernel_rfl
theorem F_connection_first_X_connection_Until_1_ok : FnOK Try.prog 20 F_connection_first_X_connection_Until_1S := fnOK_of (m := F_connection_first_X_connection_Until_1M) (fn := Try.f20) (hint := F_connection_first_X_connection_Until_1H) (pack := fun y => y.2.1) hmix tab_ok ⟨⟨F_connection_Until_1_ok, trivial⟩, trivial⟩ fun x z h => (F_connection_first_X_connection_Until_1_eq x.1 x.2.1).trans h
noncomputable def F_connection_Until : (El Y27) → (El Y3) → Option (El Y3) := fun a0 a1 => Option.bind (F_connection_first_X_connection_Until_1 (↑(List.length a0) : Int) (a0, a1, ())) fun x0 => some x0
abbrev F_connection_UntilA : Pats := (.cons (.pd Y27) (.cons (.pd Y3) .nil))
abbrev F_connection_UntilR : Pats := (.cons (.pd Y3) .nil)
noncomputable def F_connection_UntilS : Tr.Spec := { args := F_connection_UntilA, res := F_connection_UntilR, fns := [], α := El Y3, f := fun x => F_connection_Until x.1 x.2.1, unp := fun z => (((), (), ()), (z, ())) }
noncomputable def F_connection_UntilM : List (Nat × List Tr.Spec) := [(20, [F_connection_first_X_connection_From_1S, F_connection_first_X_connection_Until_1S]), (22, [F_connection_Until_1S])]
def F_connection_UntilH : Hint := .leaf
noncomputable def F_connection_UntilV (a0 : El Y27) (a1 : El Y3) : Option (El Y3) := evalF (mkE tyTab mapTab pkTab [] [] F_connection_UntilM 9) (codeOf Try.f11) Try.f11.results F_connection_UntilH F_connection_UntilA F_connection_UntilR (fun y => y.2.1) (a0, a1, ())
theorem F_connection_Until_eq (a0 : El Y27) (a1 : El Y3) : F_connection_UntilV a0 a1 = F_connection_Until a0 a1 := by kernel_rfl
theorem F_connection_Until_ok : FnOK Try.prog 11 F_connection_UntilS := fnOK_of (m := F_connection_UntilM) (fn := Try.f11) (hint := F_connection_UntilH) (pack := fun y => y.2.1) hmix tab_ok ⟨⟨F_connection_first_X_connection_From_1_ok, F_connection_first_X_connection_Until_1_ok, trivial⟩, ⟨F_connection_Until_1_ok, trivial⟩, trivial⟩ fun x z h => (F_connection_Until_eq x.1 x.2.1).trans h
noncomputable def F_ident_Valid : (El Y9) → Option (El Y4) := fun a0 =>
 Option.bind
 (Tr.run
 (fun s0 =>
 bif decide (s0 < (↑(List.length a0) : Int)) then
 Option.bind (idx a0 s0) fun x1 =>
 Option.bind (bif decide ((97 : Int) ≤ (↑(UInt8.toNat x1) : Int)) then some (decide ((↑(UInt8.toNat x1) : Int) ≤ (122 : Int))) else some false)
 fun x2 =>
 Option.bind
 (bif x2 then some x2
 else
 Option.bind (bif decide ((65 : Int) ≤ (↑(UInt8.toNat x1) : Int)) then some (decide ((↑(UInt8.toNat x1) : Int) ≤ (90 : Int))) else some false)
 fun x3 =>
 Option.bind
 (bif x3 then some x3
 else
 Option.bind
 (bif decide ((48 : Int) ≤ (↑(UInt8.toNat x1) : Int)) then some (decide ((↑(UInt8.toNat x1) : Int) ≤ (57 : Int))) else some false)
 fun x4 => some x4)
 fun x5 => some x5)
 fun x6 =>
 bif x6 then some (.inl (IntKind.wrap .i64 (s0 + (1 : Int))))
 else
 Option.bind
 (bif decide ((↑(UInt8.toNat x1) : Int) = (45 : Int)) then some (decide ((↑(UInt8.toNat x1) : Int) = (45 : Int)))
 else
 Option.bind
 (bif decide ((↑(UInt8.toNat x1) : Int) = (95 : Int)) then some (decide ((↑(UInt8.toNat x1) : Int) = (95 : Int)))
 else some (decide ((↑(UInt8.toNat x1) : Int) = (46 : Int))))
 fun x7 => some x7)
 fun x8 => bif x8 then some (.inl (IntKind.wrap .i64 (s0 + (1 : Int)))) else some (.inr (.inr false))
 else some (.inr (.inl ())))
 (0 : Int))
 fun x9 =>
 Sum.elim
 (fun _ =>
 Option.bind (bif decide ((0 : Int) < (↑(List.length a0) : Int)) then some (decide ((↑(List.length a0) : Int) ≤ (32 : Int))) else some false) fun x11 =>
 some x11)
 (fun y12 => some y12) x9
abbrev F_ident_ValidA : Pats := (.cons (.pd Y9) .nil)
abbrev F_ident_ValidR : Pats := (.cons (.pd Y4) .nil)
noncomputable def F_ident_ValidS : Tr.Spec := { args := F_ident_ValidA, res := F_ident_ValidR, fns := [], α := El Y4, f := fun x => F_ident_Valid x.1, unp := fun z => (((), ()), (z, ())) }
noncomputable def F_ident_ValidM : List (Nat × List Tr.Spec) := []
def F_ident_ValidH : Hint := (.seq .leaf (.seq (.seq .leaf (.lp ⟨[(3, (.pd Y3))], [], [0], []⟩ [((.exit 0), ⟨[], [], [0], []⟩), (.ret, ⟨[(2, (.pd Y4))], [], [], []⟩)] (.seq .leaf (.seq (.seq .leaf (.seq (.seq (.reg [(14, Y4)]) (.cnd (some (⟨[], [], [0, 3, 4], []⟩, [(.normal, ⟨[(14, (.pd Y4))], [], [0, 3, 4], []⟩)])) .leaf (.seq (.reg [(14, Y4)]) (.cnd (some (⟨[], [], [0, 3, 4], []⟩, [(.normal, ⟨[(14, (.pd Y4))], [], [0, 3, 4], []⟩)])) .leaf (.reg [(14, Y4)]))))) (.cnd none .leaf (.seq (.seq .leaf (.cnd (some (⟨[], [], [0, 3], []⟩, [(.normal, ⟨[(33, (.pd Y4))], [], [0, 3], []⟩)])) .leaf (.seq .leaf (.cnd (some (⟨[], [], [0, 3], []⟩, [(.normal, ⟨[(33, (.pd Y4))], [], [0, 3], []⟩)])) .leaf .leaf)))) .leaf)))) .leaf)))) (.seq (.reg [(2, Y4)]) .leaf)))
noncomputable def F_ident_ValidV (a0 : El Y9) : Option (El Y4) := evalF (mkE tyTab mapTab pkTab [] [] F_ident_ValidM 48) (codeOf Try.f47) Try.f47.results F_ident_ValidH F_ident_ValidA F_ident_ValidR (fun y => y.2.1) (a0, ())
theorem F_ident_Valid_eq (a0 : El Y9) : F_ident_ValidV a0 = F_ident_Valid a0 := by kernel_rfl
theorem F_ident_Valid_ok : FnOK Try.prog 47 F_ident_ValidS := fnOK_of (m := F_ident_ValidM) (fn := Try.f47) (hint := F_ident_ValidH) (pack := fun y => y.2.1) hmix tab_ok trivial fun x z h => (F_ident_Valid_eq x.1).trans h
noncomputable def F_stop_Check : (El Y31) → Option (El Y3 × El Y42) := fun a0 =>
 bif decide ((64 : Int) < (↑(List.length a0) : Int)) then some ((0 : Int), (5 : Int))
 else
 Option.bind
 (Tr.run
 (fun s0 =>
 bif decide (s0.2 < (↑(List.length a0) : Int)) then
 Option.bind (idx a0 s0.2) fun x1 =>
 Option.bind (F_ident_Valid x1.1) fun x2 =>
 bif !x2 then some (.inr (.inr (s0.2, (12 : Int))))
 else
 bif Option.getD (Tr.amGet (Tr.keyEq Y9) x1.1 s0.1) (false) then some (.inr (.inr (s0.2, (6 : Int))))
 else
 Option.bind
 (bif decide (x1.2.1 < (0 : Int)) then some true
 else
 bif decide ((16 : Int) ≤ x1.2.1) then some true
 else bif decide (x1.2.2.2.1 < (0 : Int)) then some true else some (decide ((3600 : Int) < x1.2.2.2.1)))
 fun x3 =>
 bif x3 then some (.inr (.inr (s0.2, (2 : Int))))
 else some (.inl (Tr.amSet (Tr.keyEq Y9) x1.1 true s0.1, IntKind.wrap .i64 (s0.2 + (1 : Int))))
 else some (.inr (.inl ())))
 ([], (0 : Int)))
 fun x4 => Sum.elim (fun _ => some ((0 : Int), (0 : Int))) (fun y6 => some (y6.1, y6.2)) x4
abbrev F_stop_CheckA : Pats := (.cons (.pd Y31) .nil)
abbrev F_stop_CheckR : Pats := (.cons (.pd Y3) (.cons (.pd Y42) .nil))
noncomputable def F_stop_CheckS : Tr.Spec := { args := F_stop_CheckA, res := F_stop_CheckR, fns := [], α := El Y3 × El Y42, f := fun x => F_stop_Check x.1, unp := fun z => (((), ()), (z.1, z.2, ())) }
noncomputable def F_stop_CheckM : List (Nat × List Tr.Spec) := [(47, [F_ident_ValidS])]
def F_stop_CheckH : Hint := (.seq .leaf (.seq .leaf (.seq .leaf (.seq (.seq .leaf (.lp ⟨[(4, (.map Y9 Y4)), (13, (.pd Y3))], [], [11, 12], []⟩ [((.exit 0), ⟨[], [], [], []⟩), (.ret, ⟨[(2, (.pd Y3)), (3, (.pd Y42))], [], [], []⟩)] (.seq .leaf (.seq .leaf (.seq (.seq .leaf (.seq (.seq .leaf (.cnd none .leaf (.seq .leaf (.cnd none .leaf (.seq (.reg [(30, Y4)]) .leaf))))) .leaf)) .leaf))))) .leaf))))
noncomputable def F_stop_CheckV (a0 : El Y31) : Option (El Y3 × El Y42) := evalF (mkE tyTab mapTab pkTab [] [] F_stop_CheckM 54) (codeOf Try.f32) Try.f32.results F_stop_CheckH F_stop_CheckA F_stop_CheckR (fun y => (y.2.1, y.2.2.1)) (a0, ())
theorem F_stop_Check_eq (a0 : El Y31) : F_stop_CheckV a0 = F_stop_Check a0 := by kernel_rfl
theorem F_stop_Check_ok : FnOK Try.prog 32 F_stop_CheckS := fnOK_of (m := F_stop_CheckM) (fn := Try.f32) (hint := F_stop_CheckH) (pack := fun y => (y.2.1, y.2.2.1)) hmix tab_ok ⟨⟨F_ident_Valid_ok, trivial⟩, trivial⟩ fun x z h => (F_stop_Check_eq x.1).trans h
noncomputable def F_route_known : (El Y3) → Option (El Y4) := fun a0 => Option.bind (bif decide ((0 : Int) ≤ a0) then some (decide (a0 < (8 : Int))) else some false) fun x0 => some x0
abbrev F_route_knownA : Pats := (.cons (.pd Y3) .nil)
abbrev F_route_knownR : Pats := (.cons (.pd Y4) .nil)
noncomputable def F_route_knownS : Tr.Spec := { args := F_route_knownA, res := F_route_knownR, fns := [], α := El Y4, f := fun x => F_route_known x.1, unp := fun z => (((), ()), (z, ())) }
noncomputable def F_route_knownM : List (Nat × List Tr.Spec) := []
def F_route_knownH : Hint := (.seq .leaf (.seq (.reg [(2, Y4)]) .leaf))
noncomputable def F_route_knownV (a0 : El Y3) : Option (El Y4) := evalF (mkE tyTab mapTab pkTab [] [] F_route_knownM 9) (codeOf Try.f48) Try.f48.results F_route_knownH F_route_knownA F_route_knownR (fun y => y.2.1) (a0, ())
theorem F_route_known_eq (a0 : El Y3) : F_route_knownV a0 = F_route_known a0 := by kernel_rfl
theorem F_route_known_ok : FnOK Try.prog 48 F_route_knownS := fnOK_of (m := F_route_knownM) (fn := Try.f48) (hint := F_route_knownH) (pack := fun y => y.2.1) hmix tab_ok trivial fun x z h => (F_route_known_eq x.1).trans h
noncomputable def F_route_Check : (El Y32) → Option (El Y3 × El Y42) := fun a0 =>
 bif decide ((64 : Int) < (↑(List.length a0) : Int)) then some ((0 : Int), (5 : Int))
 else
 Option.bind
 (Tr.run
 (fun s0 =>
 bif decide (s0.2 < (↑(List.length a0) : Int)) then
 Option.bind (idx a0 s0.2) fun x1 =>
 Option.bind (F_ident_Valid x1.1) fun x2 =>
 bif !x2 then some (.inr (.inr (s0.2, (12 : Int))))
 else
 bif Option.getD (Tr.amGet (Tr.keyEq Y9) x1.1 s0.1) (false) then some (.inr (.inr (s0.2, (6 : Int))))
 else
 Option.bind (F_route_known x1.2.1) fun x3 =>
 bif !x3 then some (.inr (.inr (s0.2, (2 : Int))))
 else some (.inl (Tr.amSet (Tr.keyEq Y9) x1.1 true s0.1, IntKind.wrap .i64 (s0.2 + (1 : Int))))
 else some (.inr (.inl ())))
 ([], (0 : Int)))
 fun x4 => Sum.elim (fun _ => some ((0 : Int), (0 : Int))) (fun y6 => some (y6.1, y6.2)) x4
abbrev F_route_CheckA : Pats := (.cons (.pd Y32) .nil)
abbrev F_route_CheckR : Pats := (.cons (.pd Y3) (.cons (.pd Y42) .nil))
noncomputable def F_route_CheckS : Tr.Spec := { args := F_route_CheckA, res := F_route_CheckR, fns := [], α := El Y3 × El Y42, f := fun x => F_route_Check x.1, unp := fun z => (((), ()), (z.1, z.2, ())) }
noncomputable def F_route_CheckM : List (Nat × List Tr.Spec) := [(47, [F_ident_ValidS]), (48, [F_route_knownS])]
def F_route_CheckH : Hint := (.seq .leaf (.seq .leaf (.seq .leaf (.seq (.seq .leaf (.lp ⟨[(4, (.map Y9 Y4)), (13, (.pd Y3))], [], [11, 12], []⟩ [((.exit 0), ⟨[], [], [], []⟩), (.ret, ⟨[(2, (.pd Y3)), (3, (.pd Y42))], [], [], []⟩)] .leaf)) .leaf))))
noncomputable def F_route_CheckV (a0 : El Y32) : Option (El Y3 × El Y42) := evalF (mkE tyTab mapTab pkTab [] [] F_route_CheckM 37) (codeOf Try.f33) Try.f33.results F_route_CheckH F_route_CheckA F_route_CheckR (fun y => (y.2.1, y.2.2.1)) (a0, ())
theorem F_route_Check_eq (a0 : El Y32) : F_route_CheckV a0 = F_route_Check a0 := by kernel_rfl
theorem F_route_Check_ok : FnOK Try.prog 33 F_route_CheckS := fnOK_of (m := F_route_CheckM) (fn := Try.f33) (hint := F_route_CheckH) (pack := fun y => (y.2.1, y.2.2.1)) hmix tab_ok ⟨⟨F_ident_Valid_ok, trivial⟩, ⟨F_route_known_ok, trivial⟩, trivial⟩ fun x z h => (F_route_Check_eq x.1).trans h
noncomputable def F_network_first : (El Y92) → Option (El Y73) := fun a0 =>
 Option.bind
 (Tr.run
 (fun s0 =>
 bif decide (s0.2 < (↑(List.length a0) : Int)) then
 Option.bind (idx a0 s0.2) fun x1 =>
 bif !decide (x1.2.2.1 = (0 : Int)) then some (.inr (.inr x1)) else some (.inl (s0.1, IntKind.wrap .i64 (s0.2 + (1 : Int))))
 else some (.inr (.inl s0.1)))
 (((0 : Int), (0 : Int), (0 : Int), ()), (0 : Int)))
 fun x2 => Sum.elim (fun _ => some ((0 : Int), (0 : Int), (0 : Int), ())) (fun y4 => some y4) x2
abbrev F_network_firstA : Pats := (.cons (.pd Y92) .nil)
abbrev F_network_firstR : Pats := (.cons (.pd Y73) .nil)
noncomputable def F_network_firstS : Tr.Spec := { args := F_network_firstA, res := F_network_firstR, fns := [], α := El Y73, f := fun x => F_network_first x.1, unp := fun z => (((), ()), (z, ())) }
noncomputable def F_network_firstM : List (Nat × List Tr.Spec) := []
def F_network_firstH : Hint := (.seq .leaf (.seq (.seq .leaf (.lp ⟨[(2, (.var Y73 (.pd Y73))), (7, (.pd Y3))], [], [5, 6], []⟩ [((.exit 0), ⟨[(2, (.var Y73 (.pd Y73)))], [], [], []⟩), (.ret, ⟨[(2, (.var Y73 (.pd Y73)))], [], [], []⟩)] .leaf)) .leaf))
noncomputable def F_network_firstV (a0 : El Y92) : Option (El Y73) := evalF (mkE tyTab mapTab pkTab [] [] F_network_firstM 17) (codeOf Try.f34) Try.f34.results F_network_firstH F_network_firstA F_network_firstR (fun y => y.2.1) (a0, ())
theorem F_network_first_eq (a0 : El Y92) : F_network_firstV a0 = F_network_first a0 := by kernel_rfl
theorem F_network_first_ok : FnOK Try.prog 34 F_network_firstS := fnOK_of (m := F_network_firstM) (fn := Try.f34) (hint := F_network_firstH) (pack := fun y => y.2.1) hmix tab_ok trivial fun x z h => (F_network_first_eq x.1).trans h
noncomputable def F_network_of : (El Y3) → (El Y3) → (El Y42) → Option (El Y73) := fun a0 a1 a2 => some (a0, a1, a2, ())
abbrev F_network_ofA : Pats := (.cons (.pd Y3) (.cons (.pd Y3) (.cons (.pd Y42) .nil)))
abbrev F_network_ofR : Pats := (.cons (.pd Y73) .nil)
noncomputable def F_network_ofS : Tr.Spec := { args := F_network_ofA, res := F_network_ofR, fns := [], α := El Y73, f := fun x => F_network_of x.1 x.2.1 x.2.2.1, unp := fun z => (((), (), (), ()), (z, ())) }
noncomputable def F_network_ofM : List (Nat × List Tr.Spec) := []
def F_network_ofH : Hint := .leaf
noncomputable def F_network_ofV (a0 : El Y3) (a1 : El Y3) (a2 : El Y42) : Option (El Y73) := evalF (mkE tyTab mapTab pkTab [] [] F_network_ofM 11) (codeOf Try.f35) Try.f35.results F_network_ofH F_network_ofA F_network_ofR (fun y => y.2.1) (a0, a1, a2, ())
theorem F_network_of_eq (a0 : El Y3) (a1 : El Y3) (a2 : El Y42) : F_network_ofV a0 a1 a2 = F_network_of a0 a1 a2 := by kernel_rfl
theorem F_network_of_ok : FnOK Try.prog 35 F_network_ofS := fnOK_of (m := F_network_ofM) (fn := Try.f35) (hint := F_network_ofH) (pack := fun y => y.2.1) hmix tab_ok trivial fun x z h => (F_network_of_eq x.1 x.2.1 x.2.2.1).trans h
noncomputable def F_call_one : (El Y46) → (El Y3) → (El Y3) → (El Y3) → (El Y3) → Option (El Y42) := fun a0 a1 a2 a3 a4 =>
 Option.bind (idx a0 a1) fun x0 =>
 Option.bind (bif decide (x0.1 < (0 : Int)) then some true else some (decide (a2 ≤ x0.1))) fun x1 =>
 bif x1 then some (9 : Int)
 else
 Option.bind
 (bif decide ((0 : Int) < a1) then Option.bind (idx a0 (IntKind.wrap .i64 (a1 - (1 : Int)))) fun x2 => some (decide (x2.1 = x0.1))
 else some false)
 fun x3 =>
 bif x3 then some (13 : Int)
 else
 Option.bind
 (bif decide (x0.2.1 < a3) then some true
 else
 bif decide (x0.2.2.1 < x0.2.1) then some true
 else
 bif decide (a4 < x0.2.2.1) then some true
 else
 bif decide ((0 : Int) < a1) then
 Option.bind (idx a0 (IntKind.wrap .i64 (a1 - (1 : Int)))) fun x4 => some (decide (x0.2.1 < x4.2.2.1))
 else some false)
 fun x5 => bif x5 then some (10 : Int) else some (0 : Int)
abbrev F_call_oneA : Pats := (.cons (.pd Y46) (.cons (.pd Y3) (.cons (.pd Y3) (.cons (.pd Y3) (.cons (.pd Y3) .nil)))))
abbrev F_call_oneR : Pats := (.cons (.pd Y42) .nil)
noncomputable def F_call_oneS : Tr.Spec := { args := F_call_oneA, res := F_call_oneR, fns := [], α := El Y42, f := fun x => F_call_one x.1 x.2.1 x.2.2.1 x.2.2.2.1 x.2.2.2.2.1, unp := fun z => (((), (), (), (), (), ()), (z, ())) }
noncomputable def F_call_oneM : List (Nat × List Tr.Spec) := []
def F_call_oneH : Hint := (.seq .leaf (.seq .leaf (.seq (.seq (.reg [(24, Y4)]) .leaf) (.seq (.seq (.reg [(37, Y4)]) .leaf) (.seq (.seq (.reg [(69, Y4)]) .leaf) .leaf)))))
noncomputable def F_call_oneV (a0 : El Y46) (a1 : El Y3) (a2 : El Y3) (a3 : El Y3) (a4 : El Y3) : Option (El Y42) := evalF (mkE tyTab mapTab pkTab [] [] F_call_oneM 70) (codeOf Try.f65) Try.f65.results F_call_oneH F_call_oneA F_call_oneR (fun y => y.2.1) (a0, a1, a2, a3, a4, ())
theorem F_call_one_eq (a0 : El Y46) (a1 : El Y3) (a2 : El Y3) (a3 : El Y3) (a4 : El Y3) : F_call_oneV a0 a1 a2 a3 a4 = F_call_one a0 a1 a2 a3 a4 := by kernel_rfl
theorem F_call_one_ok : FnOK Try.prog 65 F_call_oneS := fnOK_of (m := F_call_oneM) (fn := Try.f65) (hint := F_call_oneH) (pack := fun y => y.2.1) hmix tab_ok trivial fun x z h => (F_call_one_eq x.1 x.2.1 x.2.2.1 x.2.2.2.1 x.2.2.2.2.1).trans h
noncomputable def F_call_Check : (El Y46) → (El Y3) → (El Y3) → (El Y3) → Option (El Y3 × El Y42) := fun a0 a1 a2 a3 =>
 Option.bind (bif decide ((↑(List.length a0) : Int) < (2 : Int)) then some true else some (decide ((32 : Int) < (↑(List.length a0) : Int)))) fun x0 =>
 bif x0 then some ((0 : Int), (5 : Int))
 else
 Option.bind
 (Tr.run
 (fun s1 =>
 bif decide (s1 < (↑(List.length a0) : Int)) then
 Option.bind (F_call_one a0 s1 a1 a2 a3) fun x2 =>
 bif !decide (x2 = (0 : Int)) then some (.inr (.inr (s1, x2))) else some (.inl (IntKind.wrap .i64 (s1 + (1 : Int))))
 else some (.inr (.inl ())))
 (0 : Int))
 fun x3 => Sum.elim (fun _ => some ((0 : Int), (0 : Int))) (fun y5 => some (y5.1, y5.2)) x3
abbrev F_call_CheckA : Pats := (.cons (.pd Y46) (.cons (.pd Y3) (.cons (.pd Y3) (.cons (.pd Y3) .nil))))
abbrev F_call_CheckR : Pats := (.cons (.pd Y3) (.cons (.pd Y42) .nil))
noncomputable def F_call_CheckS : Tr.Spec := { args := F_call_CheckA, res := F_call_CheckR, fns := [], α := El Y3 × El Y42, f := fun x => F_call_Check x.1 x.2.1 x.2.2.1 x.2.2.2.1, unp := fun z => (((), (), (), (), ()), (z.1, z.2, ())) }
noncomputable def F_call_CheckM : List (Nat × List Tr.Spec) := [(65, [F_call_oneS])]
def F_call_CheckH : Hint := (.seq .leaf (.seq (.seq (.reg [(19, Y4)]) .leaf) (.seq (.seq .leaf (.lp ⟨[(22, (.pd Y3))], [], [0, 1, 2, 3, 21], []⟩ [((.exit 0), ⟨[], [], [], []⟩), (.ret, ⟨[(8, (.pd Y3)), (9, (.pd Y42))], [], [], []⟩)] .leaf)) .leaf)))
noncomputable def F_call_CheckV (a0 : El Y46) (a1 : El Y3) (a2 : El Y3) (a3 : El Y3) : Option (El Y3 × El Y42) := evalF (mkE tyTab mapTab pkTab [] [] F_call_CheckM 36) (codeOf Try.f49) Try.f49.results F_call_CheckH F_call_CheckA F_call_CheckR (fun y => (y.2.1, y.2.2.1)) (a0, a1, a2, a3, ())
theorem F_call_Check_eq (a0 : El Y46) (a1 : El Y3) (a2 : El Y3) (a3 : El Y3) : F_call_CheckV a0 a1 a2 a3 = F_call_Check a0 a1 a2 a3 := by kernel_rfl
theorem F_call_Check_ok : FnOK Try.prog 49 F_call_CheckS := fnOK_of (m := F_call_CheckM) (fn := Try.f49) (hint := F_call_CheckH) (pack := fun y => (y.2.1, y.2.2.1)) hmix tab_ok ⟨⟨F_call_one_ok, trivial⟩, trivial⟩ fun x z h => (F_call_Check_eq x.1 x.2.1 x.2.2.1 x.2.2.2.1).trans h
noncomputable def F_network_checkRuns : (El Y40) → Option (El Y73) := fun a0 =>
 bif decide ((1024 : Int) < (↑(List.length a0.2.2.1) : Int)) then Option.bind (F_network_of (2 : Int) (0 : Int) (5 : Int)) fun x0 => some x0
 else
 Option.bind
 (Tr.run
 (fun s1 =>
 bif decide (s1.2.2 < (↑(List.length a0.2.2.1) : Int)) then
 Option.bind (idx a0.2.2.1 s1.2.2) fun x2 =>
 Option.bind (F_ident_Valid x2.2.2.2.1) fun x3 =>
 bif !x3 then Option.bind (F_network_of (2 : Int) s1.2.2 (12 : Int)) fun x4 => some (.inr (.inr x4))
 else
 Option.bind (bif decide (x2.1 < (-1 : Int)) then some true else some (decide (x2.2.2.1 < (0 : Int)))) fun x5 =>
 bif x5 then Option.bind (F_network_of (2 : Int) s1.2.2 (2 : Int)) fun x6 => some (.inr (.inr x6))
 else
 Option.bind (bif decide (x2.2.1 < (0 : Int)) then some true else some (decide ((36524 : Int) < x2.2.1))) fun x7 =>
 bif x7 then Option.bind (F_network_of (2 : Int) s1.2.2 (11 : Int)) fun x8 => some (.inr (.inr x8))
 else
 Option.bind
 (bif decide (x2.2.2.2.2.1 < (0 : Int)) then some true
 else some (decide ((↑(List.length a0.2.1) : Int) ≤ x2.2.2.2.2.1)))
 fun x9 =>
 bif x9 then Option.bind (F_network_of (2 : Int) s1.2.2 (9 : Int)) fun x10 => some (.inr (.inr x10))
 else
 Option.bind (F_call_Check x2.2.2.2.2.2.2.2.1 (↑(List.length a0.1) : Int) (0 : Int) (3155932800 : Int)) fun x11 =>
 bif !decide (x11.2 = (0 : Int)) then Option.bind (F_network_of (2 : Int) s1.2.2 x11.2) fun x12 => some (.inr (.inr x12))
 else
 bif Option.getD (Tr.amGet (Tr.keyEq Y96) (x2.2.2.2.1, x2.2.1, x2.2.2.1, ()) s1.2.1) (false) then
 Option.bind (F_network_of (2 : Int) s1.2.2 (6 : Int)) fun x13 => some (.inr (.inr x13))
 else
 some
 (.inl
 (s1.1, Tr.amSet (Tr.keyEq Y96) (x2.2.2.2.1, x2.2.1, x2.2.2.1, ()) true s1.2.1,
 IntKind.wrap .i64 (s1.2.2 + (1 : Int))))
 else some (.inr (.inl s1.1)))
 (((0 : Int), (0 : Int), (0 : Int), ()), [], (0 : Int)))
 fun x14 => Sum.elim (fun _ => some ((0 : Int), (0 : Int), (0 : Int), ())) (fun y16 => some y16) x14
abbrev F_network_checkRunsA : Pats := (.cons (.pd Y40) .nil)
abbrev F_network_checkRunsR : Pats := (.cons (.pd Y73) .nil)
noncomputable def F_network_checkRunsS : Tr.Spec := { args := F_network_checkRunsA, res := F_network_checkRunsR, fns := [], α := El Y73, f := fun x => F_network_checkRuns x.1, unp := fun z => (((), ()), (z, ())) }
noncomputable def F_network_checkRunsM : List (Nat × List Tr.Spec) := [(35, [F_network_ofS]), (47, [F_ident_ValidS]), (49, [F_call_CheckS])]
def F_network_checkRunsH : Hint := (.seq .leaf (.seq .leaf (.seq .leaf (.seq (.seq .leaf (.lp ⟨[(2, (.var Y73 (.pd Y73))), (3, (.map Y96 Y4)), (18, (.pd Y3))], [], [1, 16, 17], []⟩ [((.exit 0), ⟨[(2, (.var Y73 (.pd Y73)))], [], [], []⟩), (.ret, ⟨[(2, (.var Y73 (.pd Y73)))], [], [], []⟩)] (.seq .leaf (.seq .leaf (.seq (.seq .leaf (.seq (.seq .leaf (.cnd none .leaf (.seq (.reg [(30, Y4)]) (.cnd none .leaf (.seq (.reg [(41, Y4)]) (.cnd none .leaf (.seq (.reg [(52, Y4)]) .leaf))))))) .leaf)) .leaf))))) .leaf))))
noncomputable def F_network_checkRunsV (a0 : El Y40) : Option (El Y73) := evalF (mkE tyTab mapTab pkTab [] [] F_network_checkRunsM 96) (codeOf Try.f36) Try.f36.results F_network_checkRunsH F_network_checkRunsA F_network_checkRunsR (fun y => y.2.1) (a0, ())
theorem F_network_checkRuns_eq (a0 : El Y40) : F_network_checkRunsV a0 = F_network_checkRuns a0 := by kernel_rfl
theorem F_network_checkRuns_ok : FnOK Try.prog 36 F_network_checkRunsS := fnOK_of (m := F_network_checkRunsM) (fn := Try.f36) (hint := F_network_checkRunsH) (pack := fun y => y.2.1) hmix tab_ok ⟨⟨F_network_of_ok, trivial⟩, ⟨F_ident_Valid_ok, trivial⟩, ⟨F_call_Check_ok, trivial⟩, trivial⟩ fun x z h => (F_network_checkRuns_eq x.1).trans h
noncomputable def F_network_within : (El Y3) → (El Y3) → Option (El Y4) := fun a0 a1 => Option.bind (bif decide ((0 : Int) ≤ a0) then some (decide (a0 < a1)) else some false) fun x0 => some x0
abbrev F_network_withinA : Pats := (.cons (.pd Y3) (.cons (.pd Y3) .nil))
abbrev F_network_withinR : Pats := (.cons (.pd Y4) .nil)
noncomputable def F_network_withinS : Tr.Spec := { args := F_network_withinA, res := F_network_withinR, fns := [], α := El Y4, f := fun x => F_network_within x.1 x.2.1, unp := fun z => (((), (), ()), (z, ())) }
noncomputable def F_network_withinM : List (Nat × List Tr.Spec) := []
def F_network_withinH : Hint := (.seq .leaf (.seq (.reg [(4, Y4)]) .leaf))
noncomputable def F_network_withinV (a0 : El Y3) (a1 : El Y3) : Option (El Y4) := evalF (mkE tyTab mapTab pkTab [] [] F_network_withinM 12) (codeOf Try.f50) Try.f50.results F_network_withinH F_network_withinA F_network_withinR (fun y => y.2.1) (a0, a1, ())
theorem F_network_within_eq (a0 : El Y3) (a1 : El Y3) : F_network_withinV a0 a1 = F_network_within a0 a1 := by kernel_rfl
theorem F_network_within_ok : FnOK Try.prog 50 F_network_withinS := fnOK_of (m := F_network_withinM) (fn := Try.f50) (hint := F_network_withinH) (pack := fun y => y.2.1) hmix tab_ok trivial fun x z h => (F_network_within_eq x.1 x.2.1).trans h
noncomputable def F_network_leads : (List (El Y3 × El Y3)) → (El Y3) → (El Y3) → Option (List (El Y3 × El Y3) × El Y4) := fun a0 a1 a2 =>
 Option.bind
 (Tr.run
 (fun s0 =>
 bif s0.2 then
 bif decide (s0.1 = a2) then some (.inr (.inr true))
 else some (.inl (Option.getD (Tr.amGet (Tr.keyEq Y3) s0.1 a0) ((0 : Int)), Option.isSome (Tr.amGet (Tr.keyEq Y3) s0.1 a0)))
 else some (.inr (.inl ())))
 (Option.getD (Tr.amGet (Tr.keyEq Y3) a1 a0) ((0 : Int)), Option.isSome (Tr.amGet (Tr.keyEq Y3) a1 a0)))
 fun x1 => Sum.elim (fun _ => some (a0, false)) (fun y3 => some (a0, y3)) x1
abbrev F_network_leadsA : Pats := (.cons (.map Y3 Y3) (.cons (.pd Y3) (.cons (.pd Y3) .nil)))
abbrev F_network_leadsR : Pats := (.cons (.pd Y4) .nil)
noncomputable def F_network_leadsS : Tr.Spec := { args := F_network_leadsA, res := F_network_leadsR, fns := [], α := List (El Y3 × El Y3) × El Y4, f := fun x => F_network_leads x.1 x.2.1 x.2.2.1, unp := fun z => ((z.1, (), (), ()), (z.2, ())) }
noncomputable def F_network_leadsM : List (Nat × List Tr.Spec) := []
def F_network_leadsH : Hint := (.seq .leaf (.seq (.seq .leaf (.lp ⟨[(7, (.pd Y3)), (8, (.pd Y4))], [], [0, 2], []⟩ [((.exit 0), ⟨[], [], [0], []⟩), (.ret, ⟨[(6, (.pd Y4))], [], [0], []⟩)] .leaf)) .leaf))
noncomputable def F_network_leadsV (a0 : List (El Y3 × El Y3)) (a1 : El Y3) (a2 : El Y3) : Option (List (El Y3 × El Y3) × El Y4) := evalF (mkE tyTab mapTab pkTab [] [] F_network_leadsM 25) (codeOf Try.f51) Try.f51.results F_network_leadsH F_network_leadsA F_network_leadsR (fun y => (y.1.1, y.2.1)) (a0, a1, a2, ())
theorem F_network_leads_eq (a0 : List (El Y3 × El Y3)) (a1 : El Y3) (a2 : El Y3) : F_network_leadsV a0 a1 a2 = F_network_leads a0 a1 a2 := by kernel_rfl
theorem F_network_leads_ok : FnOK Try.prog 51 F_network_leadsS := fnOK_of (m := F_network_leadsM) (fn := Try.f51) (hint := F_network_leadsH) (pack := fun y => (y.1.1, y.2.1)) hmix tab_ok trivial fun x z h => (F_network_leads_eq x.1 x.2.1 x.2.2.1).trans h
noncomputable def F_network_checkLinks : (El Y40) → Option (El Y73) := fun a0 =>
 bif decide ((1024 : Int) < (↑(List.length a0.2.2.2.1) : Int)) then Option.bind (F_network_of (3 : Int) (0 : Int) (5 : Int)) fun x0 => some x0
 else
 Option.bind
 (Tr.run
 (fun s1 =>
 bif decide (s1.2.2.2.2 < (↑(List.length a0.2.2.2.1) : Int)) then
 Option.bind (idx a0.2.2.2.1 s1.2.2.2.2) fun x2 =>
 Option.bind
 (Option.bind (F_network_within x2.1 (↑(List.length a0.2.2.1) : Int)) fun x3 =>
 bif !x3 then some true
 else
 Option.bind (F_network_within x2.2.2.1 (↑(List.length a0.2.2.1) : Int)) fun x4 =>
 bif !x4 then some true else some (decide (x2.1 = x2.2.2.1)))
 fun x5 =>
 bif x5 then Option.bind (F_network_of (3 : Int) s1.2.2.2.2 (9 : Int)) fun x6 => some (.inr (.inr x6))
 else
 Option.bind (idx a0.2.2.1 x2.1) fun x7 =>
 Option.bind (idx a0.2.2.1 x2.2.2.1) fun x8 =>
 Option.bind
 (Option.bind (F_network_within x2.2.1 (↑(List.length x7.2.2.2.2.2.2.2.1) : Int)) fun x9 =>
 bif !x9 then some true
 else Option.bind (F_network_within x2.2.2.2.1 (↑(List.length x8.2.2.2.2.2.2.2.1) : Int)) fun x10 => some !x10)
 fun x11 =>
 bif x11 then Option.bind (F_network_of (3 : Int) s1.2.2.2.2 (9 : Int)) fun x12 => some (.inr (.inr x12))
 else
 Option.bind (idx x7.2.2.2.2.2.2.2.1 x2.2.1) fun x13 =>
 Option.bind (idx x8.2.2.2.2.2.2.2.1 x2.2.2.2.1) fun x14 =>
 bif !decide (x13.1 = x14.1) then Option.bind (F_network_of (3 : Int) s1.2.2.2.2 (13 : Int)) fun x15 => some (.inr (.inr x15))
 else
 bif x2.2.2.2.2.1 then
 bif !decide (IntKind.wrap .i64 (x2.2.1 + (1 : Int)) = (↑(List.length x7.2.2.2.2.2.2.2.1) : Int)) then
 Option.bind (F_network_of (3 : Int) s1.2.2.2.2 (19 : Int)) fun x16 => some (.inr (.inr x16))
 else
 bif !decide (x2.2.2.2.1 = (0 : Int)) then
 Option.bind (F_network_of (3 : Int) s1.2.2.2.2 (19 : Int)) fun x17 => some (.inr (.inr x17))
 else
 bif Option.isSome (Tr.amGet (Tr.keyEq Y3) x2.1 s1.2.1) then
 Option.bind (F_network_of (3 : Int) s1.2.2.2.2 (19 : Int)) fun x18 => some (.inr (.inr x18))
 else
 bif Option.getD (Tr.amGet (Tr.keyEq Y3) x2.2.2.1 s1.2.2.1) (false) then
 Option.bind (F_network_of (3 : Int) s1.2.2.2.2 (19 : Int)) fun x19 => some (.inr (.inr x19))
 else
 Option.bind (F_network_leads s1.2.1 x2.2.2.1 x2.1) fun x20 =>
 bif x20.2 then Option.bind (F_network_of (3 : Int) s1.2.2.2.2 (19 : Int)) fun x21 => some (.inr (.inr x21))
 else
 bif Option.getD (Tr.amGet (Tr.keyEq Y54) [x2.1, x2.2.1, x2.2.2.1, x2.2.2.2.1] s1.2.2.2.1) (false) then
 Option.bind (F_network_of (3 : Int) s1.2.2.2.2 (6 : Int)) fun x22 => some (.inr (.inr x22))
 else
 bif x2.2.2.2.2.1 then
 some
 (.inl
 (s1.1, Tr.amSet (Tr.keyEq Y3) x2.1 x2.2.2.1 x20.1, Tr.amSet (Tr.keyEq Y3) x2.2.2.1 true s1.2.2.1,
 Tr.amSet (Tr.keyEq Y54) [x2.1, x2.2.1, x2.2.2.1, x2.2.2.2.1] true s1.2.2.2.1,
 IntKind.wrap .i64 (s1.2.2.2.2 + (1 : Int))))
 else
 some
 (.inl
 (s1.1, x20.1, s1.2.2.1, Tr.amSet (Tr.keyEq Y54) [x2.1, x2.2.1, x2.2.2.1, x2.2.2.2.1] true s1.2.2.2.1,
 IntKind.wrap .i64 (s1.2.2.2.2 + (1 : Int))))
 else
 bif Option.getD (Tr.amGet (Tr.keyEq Y54) [x2.1, x2.2.1, x2.2.2.1, x2.2.2.2.1] s1.2.2.2.1) (false) then
 Option.bind (F_network_of (3 : Int) s1.2.2.2.2 (6 : Int)) fun x23 => some (.inr (.inr x23))
 else
 bif x2.2.2.2.2.1 then
 some
 (.inl
 (s1.1, Tr.amSet (Tr.keyEq Y3) x2.1 x2.2.2.1 s1.2.1, Tr.amSet (Tr.keyEq Y3) x2.2.2.1 true s1.2.2.1,
 Tr.amSet (Tr.keyEq Y54) [x2.1, x2.2.1, x2.2.2.1, x2.2.2.2.1] true s1.2.2.2.1,
 IntKind.wrap .i64 (s1.2.2.2.2 + (1 : Int))))
 else
 some
 (.inl
 (s1.1, s1.2.1, s1.2.2.1, Tr.amSet (Tr.keyEq Y54) [x2.1, x2.2.1, x2.2.2.1, x2.2.2.2.1] true s1.2.2.2.1,
 IntKind.wrap .i64 (s1.2.2.2.2 + (1 : Int))))
 else some (.inr (.inl s1.1)))
 (((0 : Int), (0 : Int), (0 : Int), ()), [], [], [], (0 : Int)))
 fun x24 => Sum.elim (fun _ => some ((0 : Int), (0 : Int), (0 : Int), ())) (fun y26 => some y26) x24
abbrev F_network_checkLinksA : Pats := (.cons (.pd Y40) .nil)
abbrev F_network_checkLinksR : Pats := (.cons (.pd Y73) .nil)
noncomputable def F_network_checkLinksS : Tr.Spec := { args := F_network_checkLinksA, res := F_network_checkLinksR, fns := [], α := El Y73, f := fun x => F_network_checkLinks x.1, unp := fun z => (((), ()), (z, ())) }
noncomputable def F_network_checkLinksM : List (Nat × List Tr.Spec) := [(35, [F_network_ofS]), (50, [F_network_withinS]), (51, [F_network_leadsS])]
def F_network_checkLinksH : Hint := (.seq .leaf (.seq .leaf (.seq .leaf (.seq .leaf (.seq (.seq .leaf (.lp ⟨[(2, (.var Y73 (.pd Y73))), (3, (.map Y3 Y3)), (4, (.map Y3 Y4)), (5, (.map Y54 Y4)), (24, (.pd Y3))], [], [1, 22, 23], []⟩ [((.exit 0), ⟨[(2, (.var Y73 (.pd Y73)))], [], [], []⟩), (.ret, ⟨[(2, (.var Y73 (.pd Y73)))], [], [], []⟩)] (.seq .leaf (.seq .leaf (.seq (.seq .leaf (.seq (.seq (.reg [(51, Y4)]) .leaf) (.seq .leaf (.seq (.seq (.reg [(81, Y4)]) .leaf) .leaf)))) .leaf))))) .leaf)))))
noncomputable def F_network_checkLinksV (a0 : El Y40) : Option (El Y73) := evalF (mkE tyTab mapTab pkTab [] [] F_network_checkLinksM 171) (codeOf Try.f37) Try.f37.results F_network_checkLinksH F_network_checkLinksA F_network_checkLinksR (fun y => y.2.1) (a0, ())
theorem F_network_checkLinks_eq (a0 : El Y40) : F_network_checkLinksV a0 = F_network_checkLinks a0 := by kernel_rfl
theorem F_network_checkLinks_ok : FnOK Try.prog 37 F_network_checkLinksS := fnOK_of (m := F_network_checkLinksM) (fn := Try.f37) (hint := F_network_checkLinksH) (pack := fun y => y.2.1) hmix tab_ok ⟨⟨F_network_of_ok, trivial⟩, ⟨F_network_within_ok, trivial⟩, ⟨F_network_leads_ok, trivial⟩, trivial⟩ fun x z h => (F_network_checkLinks_eq x.1).trans h
noncomputable def F_product_within : (El Y3) → (El Y3) → (El Y3) → Option (El Y4) := fun a0 a1 a2 => Option.bind (bif decide (a1 ≤ a0) then some (decide (a0 ≤ a2)) else some false) fun x0 => some x0
abbrev F_product_withinA : Pats := (.cons (.pd Y3) (.cons (.pd Y3) (.cons (.pd Y3) .nil)))
abbrev F_product_withinR : Pats := (.cons (.pd Y4) .nil)
noncomputable def F_product_withinS : Tr.Spec := { args := F_product_withinA, res := F_product_withinR, fns := [], α := El Y4, f := fun x => F_product_within x.1 x.2.1 x.2.2.1, unp := fun z => (((), (), (), ()), (z, ())) }
noncomputable def F_product_withinM : List (Nat × List Tr.Spec) := []
def F_product_withinH : Hint := (.seq .leaf (.seq (.reg [(6, Y4)]) .leaf))
noncomputable def F_product_withinV (a0 : El Y3) (a1 : El Y3) (a2 : El Y3) : Option (El Y4) := evalF (mkE tyTab mapTab pkTab [] [] F_product_withinM 15) (codeOf Try.f52) Try.f52.results F_product_withinH F_product_withinA F_product_withinR (fun y => y.2.1) (a0, a1, a2, ())
theorem F_product_within_eq (a0 : El Y3) (a1 : El Y3) (a2 : El Y3) : F_product_withinV a0 a1 a2 = F_product_within a0 a1 a2 := by kernel_rfl
theorem F_product_within_ok : FnOK Try.prog 52 F_product_withinS := fnOK_of (m := F_product_withinM) (fn := Try.f52) (hint := F_product_withinH) (pack := fun y => y.2.1) hmix tab_ok trivial fun x z h => (F_product_within_eq x.1 x.2.1 x.2.2.1).trans h
noncomputable def F_product_Check : (El Y38) → Option (El Y3 × El Y42) := fun a0 =>
 Option.bind
 (Option.bind (F_product_within a0.2.1 (0 : Int) (1000000 : Int)) fun x0 =>
 bif !x0 then some true
 else
 Option.bind (F_product_within a0.2.2.1 (0 : Int) (86400 : Int)) fun x1 =>
 bif !x1 then some true else Option.bind (F_product_within a0.2.2.2.1 (0 : Int) (1000000 : Int)) fun x2 => some !x2)
 fun x3 =>
 bif x3 then some ((-1 : Int), (2 : Int))
 else
 bif decide ((16 : Int) < (↑(List.length a0.1) : Int)) then some ((0 : Int), (5 : Int))
 else
 Option.bind
 (Tr.run
 (fun s4 =>
 bif decide (s4.2 < (↑(List.length a0.1) : Int)) then
 Option.bind (idx a0.1 s4.2) fun x5 =>
 Option.bind (F_ident_Valid x5.1) fun x6 =>
 bif !x6 then some (.inr (.inr (s4.2, (12 : Int))))
 else
 bif Option.getD (Tr.amGet (Tr.keyEq Y9) x5.1 s4.1) (false) then some (.inr (.inr (s4.2, (6 : Int))))
 else
 Option.bind
 (Option.bind (F_product_within x5.2.1 (0 : Int) (1000000 : Int)) fun x7 =>
 bif !x7 then some true
 else
 Option.bind (F_product_within x5.2.2.1 (1 : Int) (8 : Int)) fun x8 =>
 bif !x8 then some true
 else
 Option.bind (F_product_within x5.2.2.2.1 (1 : Int) (16 : Int)) fun x9 =>
 bif !x9 then some true
 else
 Option.bind (F_product_within x5.2.2.2.2.1 (0 : Int) (86400 : Int)) fun x10 =>
 bif !x10 then some true else Option.bind (F_product_within x5.2.2.2.2.2.1 (1 : Int) (255 : Int)) fun x11 => some !x11)
 fun x12 =>
 bif x12 then some (.inr (.inr (s4.2, (2 : Int))))
 else some (.inl (Tr.amSet (Tr.keyEq Y9) x5.1 true s4.1, IntKind.wrap .i64 (s4.2 + (1 : Int))))
 else some (.inr (.inl ())))
 ([], (0 : Int)))
 fun x13 => Sum.elim (fun _ => some ((0 : Int), (0 : Int))) (fun y15 => some (y15.1, y15.2)) x13
abbrev F_product_CheckA : Pats := (.cons (.pd Y38) .nil)
abbrev F_product_CheckR : Pats := (.cons (.pd Y3) (.cons (.pd Y42) .nil))
noncomputable def F_product_CheckS : Tr.Spec := { args := F_product_CheckA, res := F_product_CheckR, fns := [], α := El Y3 × El Y42, f := fun x => F_product_Check x.1, unp := fun z => (((), ()), (z.1, z.2, ())) }
noncomputable def F_product_CheckM : List (Nat × List Tr.Spec) := [(47, [F_ident_ValidS]), (52, [F_product_withinS])]
def F_product_CheckH : Hint := (.seq .leaf (.seq (.seq (.reg [(22, Y4)]) .leaf) (.seq .leaf (.seq .leaf (.seq (.seq .leaf (.lp ⟨[(4, (.map Y9 Y4)), (31, (.pd Y3))], [], [29, 30], []⟩ [((.exit 0), ⟨[], [], [], []⟩), (.ret, ⟨[(2, (.pd Y3)), (3, (.pd Y42))], [], [], []⟩)] (.seq .leaf (.seq .leaf (.seq (.seq .leaf (.seq .leaf (.seq .leaf (.seq (.seq (.reg [(73, Y4)]) .leaf) .leaf)))) .leaf))))) .leaf)))))
noncomputable def F_product_CheckV (a0 : El Y38) : Option (El Y3 × El Y42) := evalF (mkE tyTab mapTab pkTab [] [] F_product_CheckM 79) (codeOf Try.f38) Try.f38.results F_product_CheckH F_product_CheckA F_product_CheckR (fun y => (y.2.1, y.2.2.1)) (a0, ())
theorem F_product_Check_eq (a0 : El Y38) : F_product_CheckV a0 = F_product_Check a0 := by kernel_rfl
theorem F_product_Check_ok : FnOK Try.prog 38 F_product_CheckS := fnOK_of (m := F_product_CheckM) (fn := Try.f38) (hint := F_product_CheckH) (pack := fun y => (y.2.1, y.2.2.1)) hmix tab_ok ⟨⟨F_ident_Valid_ok, trivial⟩, ⟨F_product_within_ok, trivial⟩, trivial⟩ fun x z h => (F_product_Check_eq x.1).trans h
noncomputable def F_footpath_sound : (El Y35) → (El Y3) → Option (El Y3 × El Y42) := fun a0 a1 =>
 Option.bind
 (Tr.run
 (fun s0 =>
 bif decide (s0.2 < (↑(List.length a0) : Int)) then
 Option.bind (idx a0 s0.2) fun x1 =>
 Option.bind
 (bif decide (x1.1 < (0 : Int)) then some (decide (x1.1 < (0 : Int)))
 else
 Option.bind
 (bif decide (a1 ≤ x1.1) then some (decide (a1 ≤ x1.1))
 else
 Option.bind
 (bif decide (x1.2.1 < (0 : Int)) then some (decide (x1.2.1 < (0 : Int)))
 else
 Option.bind (bif decide (a1 ≤ x1.2.1) then some (decide (a1 ≤ x1.2.1)) else some (decide (x1.1 = x1.2.1))) fun x2 =>
 some x2)
 fun x3 => some x3)
 fun x4 => some x4)
 fun x5 =>
 bif x5 then some (.inr (.inr (s0.2, (9 : Int))))
 else
 Option.bind
 (bif decide (x1.2.2.1 < (1 : Int)) then some (decide (x1.2.2.1 < (1 : Int)))
 else some (decide ((14400 : Int) < x1.2.2.1)))
 fun x6 =>
 bif x6 then some (.inr (.inr (s0.2, (2 : Int))))
 else
 bif Option.getD (Tr.amGet (Tr.keyEq Y128) (x1.1, x1.2.1, x1.2.2.2.1, ()) s0.1) (false) then some (.inr (.inr (s0.2, (6 : Int))))
 else some (.inl (Tr.amSet (Tr.keyEq Y128) (x1.1, x1.2.1, x1.2.2.2.1, ()) true s0.1, IntKind.wrap .i64 (s0.2 + (1 : Int))))
 else some (.inr (.inl ())))
 ([], (0 : Int)))
 fun x7 => Sum.elim (fun _ => some ((0 : Int), (0 : Int))) (fun y9 => some (y9.1, y9.2)) x7
abbrev F_footpath_soundA : Pats := (.cons (.pd Y35) (.cons (.pd Y3) .nil))
abbrev F_footpath_soundR : Pats := (.cons (.pd Y3) (.cons (.pd Y42) .nil))
noncomputable def F_footpath_soundS : Tr.Spec := { args := F_footpath_soundA, res := F_footpath_soundR, fns := [], α := El Y3 × El Y42, f := fun x => F_footpath_sound x.1 x.2.1, unp := fun z => (((), (), ()), (z.1, z.2, ())) }
noncomputable def F_footpath_soundM : List (Nat × List Tr.Spec) := []
def F_footpath_soundH : Hint := (.seq .leaf (.seq .leaf (.seq (.seq .leaf (.lp ⟨[(6, (.map Y128 Y4)), (13, (.pd Y3))], [], [1, 11, 12], []⟩ [((.exit 0), ⟨[], [], [], []⟩), (.ret, ⟨[(4, (.pd Y3)), (5, (.pd Y42))], [], [], []⟩)] (.seq .leaf (.seq .leaf (.seq (.seq .leaf (.seq .leaf (.seq (.seq (.seq .leaf (.cnd (some (⟨[], [], [1, 6, 7, 8, 9, 11, 12, 13], []⟩, [(.normal, ⟨[(25, (.pd Y4))], [], [1, 6, 7, 8, 9, 11, 12, 13], []⟩)])) .leaf (.seq .leaf (.cnd (some (⟨[], [], [1, 6, 7, 8, 9, 11, 12, 13], []⟩, [(.normal, ⟨[(25, (.pd Y4))], [], [1, 6, 7, 8, 9, 11, 12, 13], []⟩)])) .leaf (.seq .leaf (.cnd (some (⟨[], [], [1, 6, 7, 8, 9, 11, 12, 13], []⟩, [(.normal, ⟨[(25, (.pd Y4))], [], [1, 6, 7, 8, 9, 11, 12, 13], []⟩)])) .leaf (.seq .leaf (.cnd (some (⟨[], [], [1, 6, 7, 8, 9, 11, 12, 13], []⟩, [(.normal, ⟨[(25, (.pd Y4))], [], [1, 6, 7, 8, 9, 11, 12, 13], []⟩)])) .leaf .leaf)))))))) (.cnd none .leaf (.seq (.seq .leaf (.cnd (some (⟨[], [], [1, 6, 7, 9, 11, 12, 13], []⟩, [(.normal, ⟨[(46, (.pd Y4))], [], [1, 6, 7, 9, 11, 12, 13], []⟩)])) .leaf .leaf)) .leaf))) .leaf))) .leaf))))) .leaf)))
noncomputable def F_footpath_soundV (a0 : El Y35) (a1 : El Y3) : Option (El Y3 × El Y42) := evalF (mkE tyTab mapTab pkTab [] [] F_footpath_soundM 62) (codeOf Try.f66) Try.f66.results F_footpath_soundH F_footpath_soundA F_footpath_soundR (fun y => (y.2.1, y.2.2.1)) (a0, a1, ())
theorem F_footpath_sound_eq (a0 : El Y35) (a1 : El Y3) : F_footpath_soundV a0 a1 = F_footpath_sound a0 a1 := by kernel_rfl
theorem F_footpath_sound_ok : FnOK Try.prog 66 F_footpath_soundS := fnOK_of (m := F_footpath_soundM) (fn := Try.f66) (hint := F_footpath_soundH) (pack := fun y => (y.2.1, y.2.2.1)) hmix tab_ok trivial fun x z h => (F_footpath_sound_eq x.1 x.2.1).trans h
noncomputable def F_shortest_check_1 : (El Y3) → (El Y3) → Option (El Y4) := fun a0 a1 => Option.bind (bif decide (a0 < (0 : Int)) then some true else some (decide (a1 ≤ a0))) fun x0 => some x0
abbrev F_shortest_check_1A : Pats := (.cons (.pd Y3) (.cons (.ro Y3) .nil))
abbrev F_shortest_check_1R : Pats := (.cons (.pd Y4) .nil)
noncomputable def F_shortest_check_1S : Tr.Spec := { args := F_shortest_check_1A, res := F_shortest_check_1R, fns := [], α := El Y4, f := fun x => F_shortest_check_1 x.1 x.2.1, unp := fun z => (((), (), ()), (z, ())) }
noncomputable def F_shortest_check_1M : List (Nat × List Tr.Spec) := []
def F_shortest_check_1H : Hint := (.seq .leaf (.seq (.reg [(3, Y4)]) .leaf))
noncomputable def F_shortest_check_1V (a0 : El Y3) (a1 : El Y3) : Option (El Y4) := evalF (mkE tyTab mapTab pkTab [] [] F_shortest_check_1M 11) (codeOf Try.f95) Try.f95.results F_shortest_check_1H F_shortest_check_1A F_shortest_check_1R (fun y => y.2.1) (a0, a1, ())
theorem F_shortest_check_1_eq (a0 : El Y3) (a1 : El Y3) : F_shortest_check_1V a0 a1 = F_shortest_check_1 a0 a1 := by kernel_rfl
theorem F_shortest_check_1_ok : FnOK Try.prog 95 F_shortest_check_1S := fnOK_of (m := F_shortest_check_1M) (fn := Try.f95) (hint := F_shortest_check_1H) (pack := fun y => y.2.1) hmix tab_ok trivial fun x z h => (F_shortest_check_1_eq x.1 x.2.1).trans h
noncomputable def F_shortest_check : (El Y3) → (El Y138) → (El Y45) → Option (El Y42) := fun a0 a1 a2 =>
 Option.bind (bif decide (a0 < (0 : Int)) then some true else some (decide ((64 : Int) < a0))) fun x0 =>
 bif x0 then some (2 : Int)
 else
 bif decide ((4096 : Int) < (↑(List.length a1) : Int)) then some (5 : Int)
 else
 Option.bind
 (Tr.run
 (fun s1 =>
 bif decide (s1 < (↑(List.length a1) : Int)) then
 Option.bind (idx a1 s1) fun x2 =>
 Option.bind (F_shortest_check_1 x2.1 a0) fun x3 =>
 bif x3 then some (.inr (.inr (9 : Int)))
 else
 Option.bind (F_shortest_check_1 x2.2.1 a0) fun x4 =>
 bif x4 then some (.inr (.inr (9 : Int)))
 else
 Option.bind (bif decide (x2.2.2.1 < (0 : Int)) then some true else some (decide ((1073741824 : Int) < x2.2.2.1))) fun x5 =>
 bif x5 then some (.inr (.inr (2 : Int))) else some (.inl (IntKind.wrap .i64 (s1 + (1 : Int))))
 else some (.inr (.inl ())))
 (0 : Int))
 fun x6 =>
 Sum.elim
 (fun _ =>
 Option.bind
 (Tr.run
 (fun s8 =>
 bif decide (s8 < (↑(List.length a2) : Int)) then
 Option.bind (idx a2 s8) fun x9 =>
 Option.bind (F_shortest_check_1 x9 a0) fun x10 =>
 bif x10 then some (.inr (.inr (9 : Int))) else some (.inl (IntKind.wrap .i64 (s8 + (1 : Int))))
 else some (.inr (.inl ())))
 (0 : Int))
 fun x11 => Sum.elim (fun _ => some (0 : Int)) (fun y13 => some y13) x11)
 (fun y14 => some y14) x6
abbrev F_shortest_checkA : Pats := (.cons (.pd Y3) (.cons (.pd Y138) (.cons (.pd Y45) .nil)))
abbrev F_shortest_checkR : Pats := (.cons (.pd Y42) .nil)
noncomputable def F_shortest_checkS : Tr.Spec := { args := F_shortest_checkA, res := F_shortest_checkR, fns := [], α := El Y42, f := fun x => F_shortest_check x.1 x.2.1 x.2.2.1, unp := fun z => (((), (), (), ()), (z, ())) }
noncomputable def F_shortest_checkM : List (Nat × List Tr.Spec) := [(95, [F_shortest_check_1S])]
def F_shortest_checkH : Hint := (.seq .leaf (.seq (.seq (.reg [(17, Y4)]) .leaf) (.seq .leaf (.seq .leaf (.seq (.seq .leaf (.lp ⟨[(24, (.pd Y3))], [], [2, 7, 22, 23], []⟩ [((.exit 0), ⟨[], [], [2, 7], []⟩), (.ret, ⟨[(6, (.pd Y42))], [], [], []⟩)] (.seq .leaf (.seq .leaf (.seq (.seq .leaf (.seq .leaf (.seq (.reg [(45, Y4)]) .leaf))) .leaf))))) (.seq (.seq .leaf (.lp ⟨[(49, (.pd Y3))], [], [7, 47, 48], []⟩ [((.exit 2), ⟨[], [], [], []⟩), (.ret, ⟨[(6, (.pd Y42))], [], [], []⟩)] .leaf)) .leaf))))))
noncomputable def F_shortest_checkV (a0 : El Y3) (a1 : El Y138) (a2 : El Y45) : Option (El Y42) := evalF (mkE tyTab mapTab pkTab [] [] F_shortest_checkM 57) (codeOf Try.f83) Try.f83.results F_shortest_checkH F_shortest_checkA F_shortest_checkR (fun y => y.2.1) (a0, a1, a2, ())
theorem F_shortest_check_eq (a0 : El Y3) (a1 : El Y138) (a2 : El Y45) : F_shortest_checkV a0 a1 a2 = F_shortest_check a0 a1 a2 := by kernel_rfl
theorem F_shortest_check_ok : FnOK Try.prog 83 F_shortest_checkS := fnOK_of (m := F_shortest_checkM) (fn := Try.f83) (hint := F_shortest_checkH) (pack := fun y => y.2.1) hmix tab_ok ⟨⟨F_shortest_check_1_ok, trivial⟩, trivial⟩ fun x z h => (F_shortest_check_eq x.1 x.2.1 x.2.2.1).trans h
noncomputable def F_shortest_neighbors : (El Y138) → (El Y4) → Option (List (El Y3 × List (El Y140))) := fun a0 a1 =>
 Option.bind
 (Tr.run
 (fun s0 =>
 bif decide (s0.2 < (↑(List.length a0) : Int)) then
 Option.bind (idx a0 s0.2) fun x1 =>
 Option.bind (bif a1 then some (x1.2.1, x1.1, x1.2.2) else some x1) fun x2 =>
 Option.bind (guardB (decide (List.length (Option.getD (Tr.amGet (Tr.keyEq Y3) x2.1 s0.1) []) + List.length [x2] ≤ maxApp))) fun _ =>
 Option.bind (guardB (Tr.holeK Y3 (some x2.1) x2.1)) fun _ =>
 some (.inl (Tr.amSet (Tr.keyEq Y3) x2.1 (Option.getD (Tr.amGet (Tr.keyEq Y3) x2.1 s0.1) [] ++ [x2]) s0.1, IntKind.wrap .i64 (s0.2 + (1 : Int))))
 else some (.inr s0.1))
 ([], (0 : Int)))
 fun x5 => some x5
abbrev F_shortest_neighborsA : Pats := (.cons (.pd Y138) (.cons (.pd Y4) .nil))
abbrev F_shortest_neighborsR : Pats := (.cons (.mrows Y3 Y140) .nil)
noncomputable def F_shortest_neighborsS : Tr.Spec := { args := F_shortest_neighborsA, res := F_shortest_neighborsR, fns := [], α := List (El Y3 × List (El Y140)), f := fun x => F_shortest_neighbors x.1 x.2.1, unp := fun z => (((), (), ()), (z, ())) }
noncomputable def F_shortest_neighborsM : List (Nat × List Tr.Spec) := []
def F_shortest_neighborsH : Hint := (.seq .leaf (.seq .leaf (.seq (.seq .leaf (.lp ⟨[(5, (.mrows Y3 Y140)), (11, (.pd Y3))], [], [1, 9, 10], []⟩ [((.exit 0), ⟨[(5, (.mrows Y3 Y140))], [], [], []⟩)] (.seq .leaf (.seq .leaf (.seq (.seq .leaf (.seq (.seq .leaf (.cnd (some (⟨[], [], [1, 5, 9, 10, 11], []⟩, [(.normal, ⟨[(7, (.var Y140 (.pd Y140)))], [], [1, 5, 9, 10, 11], []⟩)])) .leaf .leaf)) .leaf)) .leaf))))) .leaf)))
noncomputable def F_shortest_neighborsV (a0 : El Y138) (a1 : El Y4) : Option (List (El Y3 × List (El Y140))) := evalF (mkE tyTab mapTab pkTab [145] [] F_shortest_neighborsM 34) (codeOf Try.f84) Try.f84.results F_shortest_neighborsH F_shortest_neighborsA F_shortest_neighborsR (fun y => y.2.1) (a0, a1, ())
theorem F_shortest_neighbors_eq (a0 : El Y138) (a1 : El Y4) : F_shortest_neighborsV a0 a1 = F_shortest_neighbors a0 a1 := by kernel_rfl
theorem F_shortest_neighbors_ok : FnOK Try.prog 84 F_shortest_neighborsS := fnOK_of (m := F_shortest_neighborsM) (fn := Try.f84) (hint := F_shortest_neighborsH) (pack := fun y => y.2.1) hmix tab_ok trivial fun x z h => (F_shortest_neighbors_eq x.1 x.2.1).trans h
noncomputable def F_shortest_lengths : (El Y148) → Option (El Y45) := fun a0 =>
 Option.bind
 (guardB
 (decide
 ((0 : Tr.El (Tr.Ty.int .i64)) ≤ (↑(List.length a0) : Int) ∧
 (↑(List.length a0) : Int) ≤ (↑(List.length a0) : Int) ∧ (↑(List.length a0) : Int) ≤ (↑maxApp : Tr.El (Tr.Ty.int .i64)))))
 fun _ =>
 Option.bind
 (Tr.run
 (fun s1 =>
 bif decide (s1.2 < (↑(List.length a0) : Int)) then
 Option.bind (idx a0 s1.2) fun x2 =>
 Option.bind (inb s1.2 (List.length s1.1)) fun x3 =>
 Option.bind s1.1[x3]? fun _ => some (.inl (List.set s1.1 x3 x2.2.1, IntKind.wrap .i64 (s1.2 + (1 : Int))))
 else some (.inr s1.1))
 (List.replicate (Int.toNat (↑(List.length a0) : Int)) ((0 : Int)), (0 : Int)))
 fun x5 => some x5
abbrev F_shortest_lengthsA : Pats := (.cons (.pd Y148) .nil)
abbrev F_shortest_lengthsR : Pats := (.cons (.pd Y45) .nil)
noncomputable def F_shortest_lengthsS : Tr.Spec := { args := F_shortest_lengthsA, res := F_shortest_lengthsR, fns := [], α := El Y45, f := fun x => F_shortest_lengths x.1, unp := fun z => (((), ()), (z, ())) }
noncomputable def F_shortest_lengthsM : List (Nat × List Tr.Spec) := []
def F_shortest_lengthsH : Hint := (.seq .leaf (.seq .leaf (.seq (.seq .leaf (.lp ⟨[(3, (.own Y3 false)), (11, (.pd Y3))], [], [9, 10], []⟩ [((.exit 0), ⟨[(3, (.own Y3 false))], [], [], []⟩)] .leaf)) .leaf)))
noncomputable def F_shortest_lengthsV (a0 : El Y148) : Option (El Y45) := evalF (mkE tyTab mapTab pkTab [] [] F_shortest_lengthsM 23) (codeOf Try.f85) Try.f85.results F_shortest_lengthsH F_shortest_lengthsA F_shortest_lengthsR (fun y => y.2.1) (a0, ())
theorem F_shortest_lengths_eq (a0 : El Y148) : F_shortest_lengthsV a0 = F_shortest_lengths a0 := by kernel_rfl
theorem F_shortest_lengths_ok : FnOK Try.prog 85 F_shortest_lengthsS := fnOK_of (m := F_shortest_lengthsM) (fn := Try.f85) (hint := F_shortest_lengthsH) (pack := fun y => y.2.1) hmix tab_ok trivial fun x z h => (F_shortest_lengths_eq x.1).trans h
noncomputable def F_shortest_less : (El Y156) → (El Y156) → Option (El Y4) := fun a0 a1 =>
 Option.bind
 (bif decide (a0.2.1 < a1.2.1) then some true
 else bif decide (a0.2.1 = a1.2.1) then some (decide (a0.2.2.1 < a1.2.2.1)) else some false)
 fun x0 => some x0
abbrev F_shortest_lessA : Pats := (.cons (.pd Y156) (.cons (.pd Y156) .nil))
abbrev F_shortest_lessR : Pats := (.cons (.pd Y4) .nil)
noncomputable def F_shortest_lessS : Tr.Spec := { args := F_shortest_lessA, res := F_shortest_lessR, fns := [], α := El Y4, f := fun x => F_shortest_less x.1 x.2.1, unp := fun z => (((), (), ()), (z, ())) }
noncomputable def F_shortest_lessM : List (Nat × List Tr.Spec) := []
def F_shortest_lessH : Hint := (.seq .leaf (.seq (.reg [(4, Y4)]) .leaf))
noncomputable def F_shortest_lessV (a0 : El Y156) (a1 : El Y156) : Option (El Y4) := evalF (mkE tyTab mapTab pkTab [] [] F_shortest_lessM 24) (codeOf Try.f97) Try.f97.results F_shortest_lessH F_shortest_lessA F_shortest_lessR (fun y => y.2.1) (a0, a1, ())
theorem F_shortest_less_eq (a0 : El Y156) (a1 : El Y156) : F_shortest_lessV a0 a1 = F_shortest_less a0 a1 := by kernel_rfl
theorem F_shortest_less_ok : FnOK Try.prog 97 F_shortest_lessS := fnOK_of (m := F_shortest_lessM) (fn := Try.f97) (hint := F_shortest_lessH) (pack := fun y => y.2.1) hmix tab_ok trivial fun x z h => (F_shortest_less_eq x.1 x.2.1).trans h
noncomputable def F_heap_Heap_shortest_label_before : ((Unit × List (El Y169) × El Y3 × Unit)) → (El Y3) → (El Y3) → Option ((Unit × List (El Y169) × El Y3 × Unit) × El Y4) := fun a0 a1 a2 =>
 Option.bind (inb a1 (List.length a0.2.1)) fun x0 =>
 Option.bind a0.2.1[x0]? fun x1 =>
 Option.bind (inb a2 (List.length a0.2.1)) fun x2 =>
 Option.bind a0.2.1[x2]? fun x3 =>
 Option.bind (F_shortest_less x1.1 x3.1) fun x4 =>
 bif x4 then some (((), a0.2.1, a0.2.2.1, ()), true)
 else
 Option.bind (F_shortest_less x3.1 x1.1) fun x5 =>
 bif x5 then some (((), a0.2.1, a0.2.2.1, ()), false) else some (((), a0.2.1, a0.2.2.1, ()), decide (x1.2.1 < x3.2.1))
abbrev F_heap_Heap_shortest_label_beforeA : Pats := (.cons (.var Y167 (.agg (.cons (.fn 97 .nil) (.cons (.own Y169 true) (.cons (.pd Y3) .nil))))) (.cons (.pd Y3) (.cons (.pd Y3) .nil)))
abbrev F_heap_Heap_shortest_label_beforeR : Pats := (.cons (.pd Y4) .nil)
noncomputable def F_heap_Heap_shortest_label_beforeS : Tr.Spec := { args := F_heap_Heap_shortest_label_beforeA, res := F_heap_Heap_shortest_label_beforeR, fns := [], α := (Unit × List (El Y169) × El Y3 × Unit) × El Y4, f := fun x => F_heap_Heap_shortest_label_before x.1 x.2.1 x.2.2.1, unp := fun z => ((z.1, (), (), ()), (z.2, ())) }
noncomputable def F_heap_Heap_shortest_label_beforeM : List (Nat × List Tr.Spec) := [(97, [F_shortest_lessS])]
def F_heap_Heap_shortest_label_beforeH : Hint := .leaf
noncomputable def F_heap_Heap_shortest_label_beforeV (a0 : (Unit × List (El Y169) × El Y3 × Unit)) (a1 : El Y3) (a2 : El Y3) : Option ((Unit × List (El Y169) × El Y3 × Unit) × El Y4) := evalF (mkE tyTab mapTab pkTab [] [] F_heap_Heap_shortest_label_beforeM 46) (codeOf Try.f103) Try.f103.results F_heap_Heap_shortest_label_beforeH F_heap_Heap_shortest_label_beforeA F_heap_Heap_shortest_label_beforeR (fun y => (y.1.1, y.2.1)) (a0, a1, a2, ())
theorem F_heap_Heap_shortest_label_before_eq (a0 : (Unit × List (El Y169) × El Y3 × Unit)) (a1 : El Y3) (a2 : El Y3) : F_heap_Heap_shortest_label_beforeV a0 a1 a2 = F_heap_Heap_shortest_label_before a0 a1 a2 := by kernel_rfl
theorem F_heap_Heap_shortest_label_before_ok : FnOK Try.prog 103 F_heap_Heap_shortest_label_beforeS := fnOK_of (m := F_heap_Heap_shortest_label_beforeM) (fn := Try.f103) (hint := F_heap_Heap_shortest_label_beforeH) (pack := fun y => (y.1.1, y.2.1)) hmix tab_ok ⟨⟨F_shortest_less_ok, trivial⟩, trivial⟩ fun x z h => (F_heap_Heap_shortest_label_before_eq x.1 x.2.1 x.2.2.1).trans h
noncomputable def F_heap_Heap_shortest_label_swap : ((Unit × List (El Y169) × El Y3 × Unit)) → (El Y3) → (El Y3) → Option ((Unit × List (El Y169) × El Y3 × Unit)) := fun a0 a1 a2 =>
 Option.bind (inb a2 (List.length a0.2.1)) fun x0 =>
 Option.bind a0.2.1[x0]? fun x1 =>
 Option.bind (inb a1 (List.length a0.2.1)) fun x2 =>
 Option.bind a0.2.1[x2]? fun x3 =>
 Option.bind (inb a1 (List.length a0.2.1)) fun x4 =>
 Option.bind a0.2.1[x4]? fun _ =>
 Option.bind (inb a2 (List.length (List.set a0.2.1 x4 x1))) fun x6 =>
 Option.bind (List.set a0.2.1 x4 x1)[x6]? fun _ => some ((), List.set (List.set a0.2.1 x4 x1) x6 x3, a0.2.2.1, ())
abbrev F_heap_Heap_shortest_label_swapA : Pats := (.cons (.var Y167 (.agg (.cons (.fn 97 .nil) (.cons (.own Y169 true) (.cons (.pd Y3) .nil))))) (.cons (.pd Y3) (.cons (.pd Y3) .nil)))
abbrev F_heap_Heap_shortest_label_swapR : Pats := .nil
noncomputable def F_heap_Heap_shortest_label_swapS : Tr.Spec := { args := F_heap_Heap_shortest_label_swapA, res := F_heap_Heap_shortest_label_swapR, fns := [], α := (Unit × List (El Y169) × El Y3 × Unit), f := fun x => F_heap_Heap_shortest_label_swap x.1 x.2.1 x.2.2.1, unp := fun z => ((z, (), (), ()), ()) }
noncomputable def F_heap_Heap_shortest_label_swapM : List (Nat × List Tr.Spec) := [(97, [F_shortest_lessS])]
def F_heap_Heap_shortest_label_swapH : Hint := .leaf
noncomputable def F_heap_Heap_shortest_label_swapV (a0 : (Unit × List (El Y169) × El Y3 × Unit)) (a1 : El Y3) (a2 : El Y3) : Option ((Unit × List (El Y169) × El Y3 × Unit)) := evalF (mkE tyTab mapTab pkTab [] [] F_heap_Heap_shortest_label_swapM 32) (codeOf Try.f104) Try.f104.results F_heap_Heap_shortest_label_swapH F_heap_Heap_shortest_label_swapA F_heap_Heap_shortest_label_swapR (fun y => y.1.1) (a0, a1, a2, ())
theorem F_heap_Heap_shortest_label_swap_eq (a0 : (Unit × List (El Y169) × El Y3 × Unit)) (a1 : El Y3) (a2 : El Y3) : F_heap_Heap_shortest_label_swapV a0 a1 a2 = F_heap_Heap_shortest_label_swap a0 a1 a2 := by kernel_rfl
theorem F_heap_Heap_shortest_label_swap_ok : FnOK Try.prog 104 F_heap_Heap_shortest_label_swapS := fnOK_of (m := F_heap_Heap_shortest_label_swapM) (fn := Try.f104) (hint := F_heap_Heap_shortest_label_swapH) (pack := fun y => y.1.1) hmix tab_ok ⟨⟨F_shortest_less_ok, trivial⟩, trivial⟩ fun x z h => (F_heap_Heap_shortest_label_swap_eq x.1 x.2.1 x.2.2.1).trans h
noncomputable def F_heap_Heap_shortest_label_Push : ((Unit × List (El Y169) × El Y3 × Unit)) → (El Y156) → Option ((Unit × List (El Y169) × El Y3 × Unit)) := fun a0 a1 =>
 Option.bind (guardB (decide (List.length a0.2.1 + List.length [(a1, a0.2.2.1, ())] ≤ maxApp))) fun _ =>
 Option.bind
 (Tr.run
 (fun s1 =>
 bif decide ((0 : Int) < s1.2) then
 Option.bind
 (F_heap_Heap_shortest_label_before ((), s1.1.2.1, s1.1.2.2.1, ()) s1.2
 (IntKind.wrap .i64 (Int.tdiv (IntKind.wrap .i64 (s1.2 - (1 : Int))) (2 : Int))))
 fun x2 =>
 bif x2.2 then
 Option.bind
 (F_heap_Heap_shortest_label_swap ((), x2.1.2.1, x2.1.2.2.1, ()) s1.2
 (IntKind.wrap .i64 (Int.tdiv (IntKind.wrap .i64 (s1.2 - (1 : Int))) (2 : Int))))
 fun x3 => some (.inl (((), x3.2.1, x3.2.2.1, ()), IntKind.wrap .i64 (Int.tdiv (IntKind.wrap .i64 (s1.2 - (1 : Int))) (2 : Int))))
 else some (.inr ((), x2.1.2.1, x2.1.2.2.1, ()))
 else some (.inr ((), s1.1.2.1, s1.1.2.2.1, ())))
 (((), a0.2.1 ++ [(a1, a0.2.2.1, ())], IntKind.wrap .i64 (a0.2.2.1 + (1 : Int)), ()),
 IntKind.wrap .i64 ((↑(List.length (a0.2.1 ++ [(a1, a0.2.2.1, ())])) : Int) - (1 : Int))))
 fun x4 => some ((), x4.2.1, x4.2.2.1, ())
abbrev F_heap_Heap_shortest_label_PushA : Pats := (.cons (.var Y167 (.agg (.cons (.fn 97 .nil) (.cons (.own Y169 true) (.cons (.pd Y3) .nil))))) (.cons (.pd Y156) .nil))
abbrev F_heap_Heap_shortest_label_PushR : Pats := .nil
noncomputable def F_heap_Heap_shortest_label_PushS : Tr.Spec := { args := F_heap_Heap_shortest_label_PushA, res := F_heap_Heap_shortest_label_PushR, fns := [], α := (Unit × List (El Y169) × El Y3 × Unit), f := fun x => F_heap_Heap_shortest_label_Push x.1 x.2.1, unp := fun z => ((z, (), ()), ()) }
noncomputable def F_heap_Heap_shortest_label_PushM : List (Nat × List Tr.Spec) := [(97, [F_shortest_lessS]), (103, [F_heap_Heap_shortest_label_beforeS]), (104, [F_heap_Heap_shortest_label_swapS])]
def F_heap_Heap_shortest_label_PushH : Hint := (.seq .leaf (.seq .leaf (.seq .leaf (.seq .leaf (.seq .leaf (.lp ⟨[(0, (.var Y167 (.agg (.cons (.fn 97 .nil) (.cons (.own Y169 false) (.cons (.pd Y3) .nil)))))), (4, (.pd Y3))], [], [], []⟩ [((.exit 0), ⟨[(0, (.var Y167 (.agg (.cons (.fn 97 .nil) (.cons (.own Y169 false) (.cons (.pd Y3) .nil))))))], [], [], []⟩)] .leaf))))))
noncomputable def F_heap_Heap_shortest_label_PushV (a0 : (Unit × List (El Y169) × El Y3 × Unit)) (a1 : El Y156) : Option ((Unit × List (El Y169) × El Y3 × Unit)) := evalF (mkE tyTab mapTab pkTab [] [] F_heap_Heap_shortest_label_PushM 54) (codeOf Try.f98) Try.f98.results F_heap_Heap_shortest_label_PushH F_heap_Heap_shortest_label_PushA F_heap_Heap_shortest_label_PushR (fun y => y.1.1) (a0, a1, ())
theorem F_heap_Heap_shortest_label_Push_eq (a0 : (Unit × List (El Y169) × El Y3 × Unit)) (a1 : El Y156) : F_heap_Heap_shortest_label_PushV a0 a1 = F_heap_Heap_shortest_label_Push a0 a1 := by kernel_rfl
theorem F_heap_Heap_shortest_label_Push_ok : FnOK Try.prog 98 F_heap_Heap_shortest_label_PushS := fnOK_of (m := F_heap_Heap_shortest_label_PushM) (fn := Try.f98) (hint := F_heap_Heap_shortest_label_PushH) (pack := fun y => y.1.1) hmix tab_ok ⟨⟨F_shortest_less_ok, trivial⟩, ⟨F_heap_Heap_shortest_label_before_ok, trivial⟩, ⟨F_heap_Heap_shortest_label_swap_ok, trivial⟩, trivial⟩ fun x z h => (F_heap_Heap_shortest_label_Push_eq x.1 x.2.1).trans h
noncomputable def F_heap_Heap_shortest_label_Len : ((Unit × List (El Y169) × El Y3 × Unit)) → Option ((Unit × List (El Y169) × El Y3 × Unit) × El Y3) := fun a0 => some (((), a0.2.1, a0.2.2.1, ()), (↑(List.length a0.2.1) : Int))
abbrev F_heap_Heap_shortest_label_LenA : Pats := (.cons (.var Y167 (.agg (.cons (.fn 97 .nil) (.cons (.own Y169 true) (.cons (.pd Y3) .nil))))) .nil)
abbrev F_heap_Heap_shortest_label_LenR : Pats := (.cons (.pd Y3) .nil)
noncomputable def F_heap_Heap_shortest_label_LenS : Tr.Spec := { args := F_heap_Heap_shortest_label_LenA, res := F_heap_Heap_shortest_label_LenR, fns := [], α := (Unit × List (El Y169) × El Y3 × Unit) × El Y3, f := fun x => F_heap_Heap_shortest_label_Len x.1, unp := fun z => ((z.1, ()), (z.2, ())) }
noncomputable def F_heap_Heap_shortest_label_LenM : List (Nat × List Tr.Spec) := [(97, [F_shortest_lessS])]
def F_heap_Heap_shortest_label_LenH : Hint := .leaf
noncomputable def F_heap_Heap_shortest_label_LenV (a0 : (Unit × List (El Y169) × El Y3 × Unit)) : Option ((Unit × List (El Y169) × El Y3 × Unit) × El Y3) := evalF (mkE tyTab mapTab pkTab [] [] F_heap_Heap_shortest_label_LenM 10) (codeOf Try.f108) Try.f108.results F_heap_Heap_shortest_label_LenH F_heap_Heap_shortest_label_LenA F_heap_Heap_shortest_label_LenR (fun y => (y.1.1, y.2.1)) (a0, ())
theorem F_heap_Heap_shortest_label_Len_eq (a0 : (Unit × List (El Y169) × El Y3 × Unit)) : F_heap_Heap_shortest_label_LenV a0 = F_heap_Heap_shortest_label_Len a0 := by kernel_rfl
theorem F_heap_Heap_shortest_label_Len_ok : FnOK Try.prog 108 F_heap_Heap_shortest_label_LenS := fnOK_of (m := F_heap_Heap_shortest_label_LenM) (fn := Try.f108) (hint := F_heap_Heap_shortest_label_LenH) (pack := fun y => (y.1.1, y.2.1)) hmix tab_ok ⟨⟨F_shortest_less_ok, trivial⟩, trivial⟩ fun x z h => (F_heap_Heap_shortest_label_Len_eq x.1).trans h
noncomputable def F_heap_Heap_shortest_label_Peek : ((Unit × List (El Y169) × El Y3 × Unit)) → Option ((Unit × List (El Y169) × El Y3 × Unit) × El Y156 × El Y4) := fun a0 =>
 Option.bind (F_heap_Heap_shortest_label_Len ((), a0.2.1, a0.2.2.1, ())) fun x0 =>
 bif decide (x0.2 = (0 : Int)) then some (((), x0.1.2.1, x0.1.2.2.1, ()), ((0 : Int), (0 : Int), (0 : Int), ()), false)
 else Option.bind (inb (0 : Int) (List.length x0.1.2.1)) fun x1 => Option.bind x0.1.2.1[x1]? fun x2 => some (((), x0.1.2.1, x0.1.2.2.1, ()), x2.1, true)
abbrev F_heap_Heap_shortest_label_PeekA : Pats := (.cons (.var Y167 (.agg (.cons (.fn 97 .nil) (.cons (.own Y169 true) (.cons (.pd Y3) .nil))))) .nil)
abbrev F_heap_Heap_shortest_label_PeekR : Pats := (.cons (.pd Y156) (.cons (.pd Y4) .nil))
noncomputable def F_heap_Heap_shortest_label_PeekS : Tr.Spec := { args := F_heap_Heap_shortest_label_PeekA, res := F_heap_Heap_shortest_label_PeekR, fns := [], α := (Unit × List (El Y169) × El Y3 × Unit) × El Y156 × El Y4, f := fun x => F_heap_Heap_shortest_label_Peek x.1, unp := fun z => ((z.1, ()), (z.2.1, z.2.2, ())) }
noncomputable def F_heap_Heap_shortest_label_PeekM : List (Nat × List Tr.Spec) := [(97, [F_shortest_lessS]), (108, [F_heap_Heap_shortest_label_LenS])]
def F_heap_Heap_shortest_label_PeekH : Hint := .leaf
noncomputable def F_heap_Heap_shortest_label_PeekV (a0 : (Unit × List (El Y169) × El Y3 × Unit)) : Option ((Unit × List (El Y169) × El Y3 × Unit) × El Y156 × El Y4) := evalF (mkE tyTab mapTab pkTab [] [] F_heap_Heap_shortest_label_PeekM 16) (codeOf Try.f105) Try.f105.results F_heap_Heap_shortest_label_PeekH F_heap_Heap_shortest_label_PeekA F_heap_Heap_shortest_label_PeekR (fun y => (y.1.1, y.2.1, y.2.2.1)) (a0, ())
theorem F_heap_Heap_shortest_label_Peek_eq (a0 : (Unit × List (El Y169) × El Y3 × Unit)) : F_heap_Heap_shortest_label_PeekV a0 = F_heap_Heap_shortest_label_Peek a0 := by kernel_rfl
theorem F_heap_Heap_shortest_label_Peek_ok : FnOK Try.prog 105 F_heap_Heap_shortest_label_PeekS := fnOK_of (m := F_heap_Heap_shortest_label_PeekM) (fn := Try.f105) (hint := F_heap_Heap_shortest_label_PeekH) (pack := fun y => (y.1.1, y.2.1, y.2.2.1)) hmix tab_ok ⟨⟨F_shortest_less_ok, trivial⟩, ⟨F_heap_Heap_shortest_label_Len_ok, trivial⟩, trivial⟩ fun x z h => (F_heap_Heap_shortest_label_Peek_eq x.1).trans h
noncomputable def F_heap_Heap_shortest_label_sink : ((Unit × List (El Y169) × El Y3 × Unit)) → Option ((Unit × List (El Y169) × El Y3 × Unit)) := fun a0 =>
 Option.bind
 (Tr.run
 (fun s0 =>
 bif decide ((↑(List.length s0.1.2.1) : Int) ≤ IntKind.wrap .i64 (IntKind.wrap .i64 ((2 : Int) * s0.2) + (1 : Int))) then
 some (.inr ((), s0.1.2.1, s0.1.2.2.1, ()))
 else
 bif
 decide
 (IntKind.wrap .i64 (IntKind.wrap .i64 (IntKind.wrap .i64 ((2 : Int) * s0.2) + (1 : Int)) + (1 : Int)) <
 (↑(List.length s0.1.2.1) : Int)) then
 Option.bind
 (F_heap_Heap_shortest_label_before ((), s0.1.2.1, s0.1.2.2.1, ())
 (IntKind.wrap .i64 (IntKind.wrap .i64 (IntKind.wrap .i64 ((2 : Int) * s0.2) + (1 : Int)) + (1 : Int)))
 (IntKind.wrap .i64 (IntKind.wrap .i64 ((2 : Int) * s0.2) + (1 : Int))))
 fun x1 =>
 Option.bind
 (bif x1.2 then
 some
 (((), x1.1.2.1, x1.1.2.2.1, ()),
 IntKind.wrap .i64 (IntKind.wrap .i64 (IntKind.wrap .i64 ((2 : Int) * s0.2) + (1 : Int)) + (1 : Int)))
 else some (((), x1.1.2.1, x1.1.2.2.1, ()), IntKind.wrap .i64 (IntKind.wrap .i64 ((2 : Int) * s0.2) + (1 : Int))))
 fun x2 =>
 Option.bind (F_heap_Heap_shortest_label_before ((), x2.1.2.1, x2.1.2.2.1, ()) x2.2 s0.2) fun x3 =>
 bif !x3.2 then some (.inr ((), x3.1.2.1, x3.1.2.2.1, ()))
 else
 Option.bind (F_heap_Heap_shortest_label_swap ((), x3.1.2.1, x3.1.2.2.1, ()) s0.2 x2.2) fun x4 =>
 some (.inl (((), x4.2.1, x4.2.2.1, ()), x2.2))
 else
 Option.bind
 (F_heap_Heap_shortest_label_before ((), s0.1.2.1, s0.1.2.2.1, ()) (IntKind.wrap .i64 (IntKind.wrap .i64 ((2 : Int) * s0.2) + (1 : Int))) s0.2)
 fun x5 =>
 bif !x5.2 then some (.inr ((), x5.1.2.1, x5.1.2.2.1, ()))
 else
 Option.bind
 (F_heap_Heap_shortest_label_swap ((), x5.1.2.1, x5.1.2.2.1, ()) s0.2
 (IntKind.wrap .i64 (IntKind.wrap .i64 ((2 : Int) * s0.2) + (1 : Int))))
 fun x6 => some (.inl (((), x6.2.1, x6.2.2.1, ()), IntKind.wrap .i64 (IntKind.wrap .i64 ((2 : Int) * s0.2) + (1 : Int)))))
 (((), a0.2.1, a0.2.2.1, ()), (0 : Int)))
 fun x7 => some ((), x7.2.1, x7.2.2.1, ())
abbrev F_heap_Heap_shortest_label_sinkA : Pats := (.cons (.var Y167 (.agg (.cons (.fn 97 .nil) (.cons (.own Y169 true) (.cons (.pd Y3) .nil))))) .nil)
abbrev F_heap_Heap_shortest_label_sinkR : Pats := .nil
noncomputable def F_heap_Heap_shortest_label_sinkS : Tr.Spec := { args := F_heap_Heap_shortest_label_sinkA, res := F_heap_Heap_shortest_label_sinkR, fns := [], α := (Unit × List (El Y169) × El Y3 × Unit), f := fun x => F_heap_Heap_shortest_label_sink x.1, unp := fun z => ((z, ()), ()) }
noncomputable def F_heap_Heap_shortest_label_sinkM : List (Nat × List Tr.Spec) := [(97, [F_shortest_lessS]), (103, [F_heap_Heap_shortest_label_beforeS]), (104, [F_heap_Heap_shortest_label_swapS])]
def F_heap_Heap_shortest_label_sinkH : Hint := (.seq .leaf (.lp ⟨[(0, (.var Y167 (.agg (.cons (.fn 97 .nil) (.cons (.own Y169 false) (.cons (.pd Y3) .nil)))))), (2, (.pd Y3))], [], [], []⟩ [(.ret, ⟨[(0, (.var Y167 (.agg (.cons (.fn 97 .nil) (.cons (.own Y169 false) (.cons (.pd Y3) .nil))))))], [], [], []⟩)] (.seq .leaf (.seq .leaf (.seq (.seq .leaf (.cnd (some (⟨[], [], [2], []⟩, [(.normal, ⟨[(0, (.var Y167 (.agg (.cons (.fn 97 .nil) (.cons (.own Y169 false) (.cons (.pd Y3) .nil)))))), (3, (.pd Y3))], [], [2], []⟩)])) .leaf .leaf)) .leaf)))))
noncomputable def F_heap_Heap_shortest_label_sinkV (a0 : (Unit × List (El Y169) × El Y3 × Unit)) : Option ((Unit × List (El Y169) × El Y3 × Unit)) := evalF (mkE tyTab mapTab pkTab [] [] F_heap_Heap_shortest_label_sinkM 41) (codeOf Try.f106) Try.f106.results F_heap_Heap_shortest_label_sinkH F_heap_Heap_shortest_label_sinkA F_heap_Heap_shortest_label_sinkR (fun y => y.1.1) (a0, ())
theorem F_heap_Heap_shortest_label_sink_eq (a0 : (Unit × List (El Y169) × El Y3 × Unit)) : F_heap_Heap_shortest_label_sinkV a0 = F_heap_Heap_shortest_label_sink a0 := by kernel_rfl
theorem F_heap_Heap_shortest_label_sink_ok : FnOK Try.prog 106 F_heap_Heap_shortest_label_sinkS := fnOK_of (m := F_heap_Heap_shortest_label_sinkM) (fn := Try.f106) (hint := F_heap_Heap_shortest_label_sinkH) (pack := fun y => y.1.1) hmix tab_ok ⟨⟨F_shortest_less_ok, trivial⟩, ⟨F_heap_Heap_shortest_label_before_ok, trivial⟩, ⟨F_heap_Heap_shortest_label_swap_ok, trivial⟩, trivial⟩ fun x z h => (F_heap_Heap_shortest_label_sink_eq x.1).trans h
noncomputable def F_heap_Heap_shortest_label_Pop : ((Unit × List (El Y169) × El Y3 × Unit)) → Option ((Unit × List (El Y169) × El Y3 × Unit) × El Y156 × El Y4) := fun a0 =>
 Option.bind (F_heap_Heap_shortest_label_Peek ((), a0.2.1, a0.2.2.1, ())) fun x0 =>
 bif !x0.2.2 then some (((), x0.1.2.1, x0.1.2.2.1, ()), x0.2.1, false)
 else
 Option.bind (F_heap_Heap_shortest_label_swap ((), x0.1.2.1, x0.1.2.2.1, ()) (0 : Int) (IntKind.wrap .i64 ((↑(List.length x0.1.2.1) : Int) - (1 : Int))))
 fun x1 =>
 Option.bind (sliceB (List.length x1.2.1) (List.length x1.2.1) none (some (IntKind.wrap .i64 ((↑(List.length x0.1.2.1) : Int) - (1 : Int)))))
 fun x2 =>
 Option.bind (F_heap_Heap_shortest_label_sink ((), List.take x2.2 x1.2.1, x1.2.2.1, ())) fun x3 => some (((), x3.2.1, x3.2.2.1, ()), x0.2.1, true)
abbrev F_heap_Heap_shortest_label_PopA : Pats := (.cons (.var Y167 (.agg (.cons (.fn 97 .nil) (.cons (.own Y169 true) (.cons (.pd Y3) .nil))))) .nil)
abbrev F_heap_Heap_shortest_label_PopR : Pats := (.cons (.pd Y156) (.cons (.pd Y4) .nil))
noncomputable def F_heap_Heap_shortest_label_PopS : Tr.Spec := { args := F_heap_Heap_shortest_label_PopA, res := F_heap_Heap_shortest_label_PopR, fns := [], α := (Unit × List (El Y169) × El Y3 × Unit) × El Y156 × El Y4, f := fun x => F_heap_Heap_shortest_label_Pop x.1, unp := fun z => ((z.1, ()), (z.2.1, z.2.2, ())) }
noncomputable def F_heap_Heap_shortest_label_PopM : List (Nat × List Tr.Spec) := [(97, [F_shortest_lessS]), (104, [F_heap_Heap_shortest_label_swapS]), (105, [F_heap_Heap_shortest_label_PeekS]), (106, [F_heap_Heap_shortest_label_sinkS])]
def F_heap_Heap_shortest_label_PopH : Hint := .leaf
noncomputable def F_heap_Heap_shortest_label_PopV (a0 : (Unit × List (El Y169) × El Y3 × Unit)) : Option ((Unit × List (El Y169) × El Y3 × Unit) × El Y156 × El Y4) := evalF (mkE tyTab mapTab pkTab [] [] F_heap_Heap_shortest_label_PopM 36) (codeOf Try.f99) Try.f99.results F_heap_Heap_shortest_label_PopH F_heap_Heap_shortest_label_PopA F_heap_Heap_shortest_label_PopR (fun y => (y.1.1, y.2.1, y.2.2.1)) (a0, ())
theorem F_heap_Heap_shortest_label_Pop_eq (a0 : (Unit × List (El Y169) × El Y3 × Unit)) : F_heap_Heap_shortest_label_PopV a0 = F_heap_Heap_shortest_label_Pop a0 := by kernel_rfl
theorem F_heap_Heap_shortest_label_Pop_ok : FnOK Try.prog 99 F_heap_Heap_shortest_label_PopS := fnOK_of (m := F_heap_Heap_shortest_label_PopM) (fn := Try.f99) (hint := F_heap_Heap_shortest_label_PopH) (pack := fun y => (y.1.1, y.2.1, y.2.2.1)) hmix tab_ok ⟨⟨F_shortest_less_ok, trivial⟩, ⟨F_heap_Heap_shortest_label_swap_ok, trivial⟩, ⟨F_heap_Heap_shortest_label_Peek_ok, trivial⟩, ⟨F_heap_Heap_shortest_label_sink_ok, trivial⟩, trivial⟩ fun x z h => (F_heap_Heap_shortest_label_Pop_eq x.1).trans h
noncomputable def F_heap_New_shortest_label_X_shortest_less : (Unit) → Option ((Unit × List (El Y169) × El Y3 × Unit)) := fun _ => some ((), [], (0 : Int), ())
abbrev F_heap_New_shortest_label_X_shortest_lessA : Pats := (.cons (.fn 97 .nil) .nil)
abbrev F_heap_New_shortest_label_X_shortest_lessR : Pats := (.cons (.var Y167 (.agg (.cons (.fn 97 .nil) (.cons (.own Y169 true) (.cons (.pd Y3) .nil))))) .nil)
noncomputable def F_heap_New_shortest_label_X_shortest_lessS : Tr.Spec := { args := F_heap_New_shortest_label_X_shortest_lessA, res := F_heap_New_shortest_label_X_shortest_lessR, fns := [97], α := (Unit × List (El Y169) × El Y3 × Unit), f := fun x => F_heap_New_shortest_label_X_shortest_less x.1, unp := fun z => (((), ()), (z, ())) }
noncomputable def F_heap_New_shortest_label_X_shortest_lessM : List (Nat × List Tr.Spec) := [(97, [F_shortest_lessS])]
def F_heap_New_shortest_label_X_shortest_lessH : Hint := .leaf
noncomputable def F_heap_New_shortest_label_X_shortest_lessV (a0 : Unit) : Option ((Unit × List (El Y169) × El Y3 × Unit)) := evalF (mkE tyTab mapTab pkTab [] [] F_heap_New_shortest_label_X_shortest_lessM 8) (codeOf Try.f96) Try.f96.results F_heap_New_shortest_label_X_shortest_lessH F_heap_New_shortest_label_X_shortest_lessA F_heap_New_shortest_label_X_shortest_lessR (fun y => y.2.1) (a0, ())
theorem F_heap_New_shortest_label_X_shortest_less_eq (a0 : Unit) : F_heap_New_shortest_label_X_shortest_lessV a0 = F_heap_New_shortest_label_X_shortest_less a0 := by kernel_rfl
theorem F_heap_New_shortest_label_X_shortest_less_ok : FnOK Try.prog 96 F_heap_New_shortest_label_X_shortest_lessS := fnOK_of (m := F_heap_New_shortest_label_X_shortest_lessM) (fn := Try.f96) (hint := F_heap_New_shortest_label_X_shortest_lessH) (pack := fun y => y.2.1) hmix tab_ok ⟨⟨F_shortest_less_ok, trivial⟩, trivial⟩ fun x z h => (F_heap_New_shortest_label_X_shortest_less_eq x.1).trans h
noncomputable def F_shortest_labels : (El Y3) → (List (El Y3 × List (El Y140))) → (El Y3) → Option (List (El Y3 × List (El Y140)) × El Y148) := fun a0 a1 a2 =>
 Option.bind (guardB (decide ((0 : Tr.El (Tr.Ty.int .i64)) ≤ a0 ∧ a0 ≤ a0 ∧ a0 ≤ (↑maxApp : Tr.El (Tr.Ty.int .i64))))) fun _ =>
 Option.bind
 (Tr.run
 (fun s1 =>
 bif decide (s1.2 < (↑(List.length (List.replicate (Int.toNat a0) (((0 : Int), (0 : Int), (0 : Int), ())))) : Int)) then
 Option.bind (inb s1.2 (List.length s1.1)) fun x2 =>
 Option.bind s1.1[x2]? fun _ => some (.inl (List.set s1.1 x2 (s1.2, (-1 : Int), (-1 : Int), ()), IntKind.wrap .i64 (s1.2 + (1 : Int))))
 else some (.inr s1.1))
 (List.replicate (Int.toNat a0) (((0 : Int), (0 : Int), (0 : Int), ())), (0 : Int)))
 fun x4 =>
 Option.bind (F_heap_New_shortest_label_X_shortest_less ()) fun x5 =>
 Option.bind (F_heap_Heap_shortest_label_Push ((), x5.2.1, x5.2.2.1, ()) (a2, (0 : Int), (0 : Int), ())) fun x6 =>
 Option.bind
 (Tr.run
 (fun s7 =>
 Option.bind (F_heap_Heap_shortest_label_Pop ((), s7.2.2.1, s7.2.2.2.1, ())) fun x8 =>
 bif !x8.2.2 then some (.inr s7.1)
 else
 Option.bind (inb x8.2.1.1 (List.length s7.1)) fun x9 =>
 Option.bind s7.1[x9]? fun x10 =>
 bif decide ((0 : Int) ≤ x10.2.2.1) then some (.inl (s7.1, (), x8.1.2.1, x8.1.2.2.1, ()))
 else
 Option.bind (inb x8.2.1.1 (List.length s7.1)) fun x11 =>
 Option.bind s7.1[x11]? fun _ =>
 Option.bind
 (Tr.run
 (fun s13 =>
 bif decide (s13.2 < (↑(List.length (Option.getD (Tr.amGet (Tr.keyEq Y3) x8.2.1.1 a1) [])) : Int)) then
 Option.bind (inb s13.2 (List.length (Option.getD (Tr.amGet (Tr.keyEq Y3) x8.2.1.1 a1) []))) fun x14 =>
 Option.bind (Option.getD (Tr.amGet (Tr.keyEq Y3) x8.2.1.1 a1) [])[x14]? fun x15 =>
 Option.bind (inb x15.2.1 (List.length (List.set s7.1 x11 x8.2.1))) fun x16 =>
 Option.bind (List.set s7.1 x11 x8.2.1)[x16]? fun x17 =>
 bif decide (x17.2.2.1 < (0 : Int)) then
 Option.bind
 (F_heap_Heap_shortest_label_Push ((), s13.1.2.1, s13.1.2.2.1, ())
 (x15.2.1, IntKind.wrap .i64 (x8.2.1.2.1 + x15.2.2.1),
 IntKind.wrap .i64 (x8.2.1.2.2.1 + (1 : Int)), ()))
 fun x18 => some (.inl (((), x18.2.1, x18.2.2.1, ()), IntKind.wrap .i64 (s13.2 + (1 : Int))))
 else some (.inl (((), s13.1.2.1, s13.1.2.2.1, ()), IntKind.wrap .i64 (s13.2 + (1 : Int))))
 else some (.inr ((), s13.1.2.1, s13.1.2.2.1, ())))
 (((), x8.1.2.1, x8.1.2.2.1, ()), (0 : Int)))
 fun x19 => some (.inl (List.set s7.1 x11 x8.2.1, (), x19.2.1, x19.2.2.1, ())))
 (x4, (), x6.2.1, x6.2.2.1, ()))
 fun x20 => some (a1, x20)
abbrev F_shortest_labelsA : Pats := (.cons (.pd Y3) (.cons (.mrows Y3 Y140) (.cons (.pd Y3) .nil)))
abbrev F_shortest_labelsR : Pats := (.cons (.pd Y148) .nil)
noncomputable def F_shortest_labelsS : Tr.Spec := { args := F_shortest_labelsA, res := F_shortest_labelsR, fns := [], α := List (El Y3 × List (El Y140)) × El Y148, f := fun x => F_shortest_labels x.1 x.2.1 x.2.2.1, unp := fun z => (((), z.1, (), ()), (z.2, ())) }
noncomputable def F_shortest_labelsM : List (Nat × List Tr.Spec) := [(96, [F_heap_New_shortest_label_X_shortest_lessS]), (97, [F_shortest_lessS]), (98, [F_heap_Heap_shortest_label_PushS]), (99, [F_heap_Heap_shortest_label_PopS])]
def F_shortest_labelsH : Hint := (.seq .leaf (.seq .leaf (.seq (.seq .leaf (.lp ⟨[(7, (.own Y156 false)), (18, (.pd Y3))], [], [1, 2, 17], []⟩ [((.exit 0), ⟨[(7, (.own Y156 false))], [], [1, 2], []⟩)] .leaf)) (.seq .leaf (.seq .leaf (.lp ⟨[(7, (.own Y156 false)), (9, (.var Y167 (.agg (.cons (.fn 97 .nil) (.cons (.own Y169 false) (.cons (.pd Y3) .nil))))))], [], [1], []⟩ [(.ret, ⟨[(6, (.own Y156 false))], [], [1], []⟩)] (.seq .leaf (.seq .leaf (.seq .leaf (.seq .leaf (.seq .leaf (.lp ⟨[(9, (.var Y167 (.agg (.cons (.fn 97 .nil) (.cons (.own Y169 false) (.cons (.pd Y3) .nil)))))), (57, (.pd Y3))], [], [1, 7, 10, 55, 56], []⟩ [((.exit 4), ⟨[(9, (.var Y167 (.agg (.cons (.fn 97 .nil) (.cons (.own Y169 false) (.cons (.pd Y3) .nil))))))], [], [1, 7], []⟩)] .leaf))))))))))))
noncomputable def F_shortest_labelsV (a0 : El Y3) (a1 : List (El Y3 × List (El Y140))) (a2 : El Y3) : Option (List (El Y3 × List (El Y140)) × El Y148) := evalF (mkE tyTab mapTab pkTab [] [] F_shortest_labelsM 82) (codeOf Try.f86) Try.f86.results F_shortest_labelsH F_shortest_labelsA F_shortest_labelsR (fun y => (y.1.2.1, y.2.1)) (a0, a1, a2, ())
theorem F_shortest_labels_eq (a0 : El Y3) (a1 : List (El Y3 × List (El Y140))) (a2 : El Y3) : F_shortest_labelsV a0 a1 a2 = F_shortest_labels a0 a1 a2 := by kernel_rfl
theorem F_shortest_labels_ok : FnOK Try.prog 86 F_shortest_labelsS := fnOK_of (m := F_shortest_labelsM) (fn := Try.f86) (hint := F_shortest_labelsH) (pack := fun y => (y.1.2.1, y.2.1)) hmix tab_ok ⟨⟨F_heap_New_shortest_label_X_shortest_less_ok, trivial⟩, ⟨F_shortest_less_ok, trivial⟩, ⟨F_heap_Heap_shortest_label_Push_ok, trivial⟩, ⟨F_heap_Heap_shortest_label_Pop_ok, trivial⟩, trivial⟩ fun x z h => (F_shortest_labels_eq x.1 x.2.1 x.2.2.1).trans h
noncomputable def F_shortest_All : (El Y3) → (El Y138) → Option (El Y116 × El Y42) := fun a0 a1 =>
 Option.bind (F_shortest_check a0 a1 []) fun x0 =>
 bif !decide (x0 = (0 : Int)) then some ([], x0)
 else
 Option.bind (F_shortest_neighbors a1 false) fun x1 =>
 Option.bind (guardB (decide ((0 : Tr.El (Tr.Ty.int .i64)) ≤ a0 ∧ a0 ≤ a0 ∧ a0 ≤ (↑maxApp : Tr.El (Tr.Ty.int .i64))))) fun _ =>
 Option.bind
 (Tr.run
 (fun s3 =>
 bif decide (s3.2.2 < (↑(List.length (List.replicate (Int.toNat a0) (([] : List (El Y3))))) : Int)) then
 Option.bind (F_shortest_labels a0 s3.1 s3.2.2) fun x4 =>
 Option.bind (F_shortest_lengths x4.2) fun x5 =>
 Option.bind (inb s3.2.2 (List.length s3.2.1)) fun x6 =>
 Option.bind s3.2.1[x6]? fun _ => some (.inl (x4.1, List.set s3.2.1 x6 x5, IntKind.wrap .i64 (s3.2.2 + (1 : Int))))
 else some (.inr s3.2.1))
 (x1, List.replicate (Int.toNat a0) (([] : List (El Y3))), (0 : Int)))
 fun x8 => some (x8, (0 : Int))
abbrev F_shortest_AllA : Pats := (.cons (.pd Y3) (.cons (.pd Y138) .nil))
abbrev F_shortest_AllR : Pats := (.cons (.pd Y116) (.cons (.pd Y42) .nil))
noncomputable def F_shortest_AllS : Tr.Spec := { args := F_shortest_AllA, res := F_shortest_AllR, fns := [], α := El Y116 × El Y42, f := fun x => F_shortest_All x.1 x.2.1, unp := fun z => (((), (), ()), (z.1, z.2, ())) }
noncomputable def F_shortest_AllM : List (Nat × List Tr.Spec) := [(83, [F_shortest_checkS]), (84, [F_shortest_neighborsS]), (85, [F_shortest_lengthsS]), (86, [F_shortest_labelsS])]
def F_shortest_AllH : Hint := (.seq .leaf (.seq .leaf (.seq .leaf (.seq .leaf (.seq .leaf (.seq (.seq .leaf (.lp ⟨[(7, (.mrows Y3 Y140)), (8, (.own Y45 false)), (22, (.pd Y3))], [], [0, 21], []⟩ [((.exit 0), ⟨[(8, (.own Y45 false))], [], [], []⟩)] .leaf)) .leaf))))))
noncomputable def F_shortest_AllV (a0 : El Y3) (a1 : El Y138) : Option (El Y116 × El Y42) := evalF (mkE tyTab mapTab pkTab [] [] F_shortest_AllM 35) (codeOf Try.f80) Try.f80.results F_shortest_AllH F_shortest_AllA F_shortest_AllR (fun y => (y.2.1, y.2.2.1)) (a0, a1, ())
theorem F_shortest_All_eq (a0 : El Y3) (a1 : El Y138) : F_shortest_AllV a0 a1 = F_shortest_All a0 a1 := by kernel_rfl
theorem F_shortest_All_ok : FnOK Try.prog 80 F_shortest_AllS := fnOK_of (m := F_shortest_AllM) (fn := Try.f80) (hint := F_shortest_AllH) (pack := fun y => (y.2.1, y.2.2.1)) hmix tab_ok ⟨⟨F_shortest_check_ok, trivial⟩, ⟨F_shortest_neighbors_ok, trivial⟩, ⟨F_shortest_lengths_ok, trivial⟩, ⟨F_shortest_labels_ok, trivial⟩, trivial⟩ fun x z h => (F_shortest_All_eq x.1 x.2.1).trans h
noncomputable def F_footpath_distances : (El Y35) → (El Y3) → (El Y4) → Option (El Y116) := fun a0 a1 a2 =>
 Option.bind
 (Tr.run
 (fun s0 =>
 bif decide (s0.2 < (↑(List.length a0) : Int)) then
 Option.bind (idx a0 s0.2) fun x1 =>
 Option.bind (bif a2 then some !x1.2.2.2.1 else some false) fun x2 =>
 bif x2 then some (.inl (s0.1, IntKind.wrap .i64 (s0.2 + (1 : Int))))
 else
 Option.bind
 (bif !Option.isSome (Tr.amGet (Tr.keyEq Y128) (x1.1, x1.2.1, false, ()) s0.1) then some true
 else some (decide (x1.2.2.1 < Option.getD (Tr.amGet (Tr.keyEq Y128) (x1.1, x1.2.1, false, ()) s0.1) ((0 : Int)))))
 fun x3 =>
 bif x3 then some (.inl (Tr.amSet (Tr.keyEq Y128) (x1.1, x1.2.1, false, ()) x1.2.2.1 s0.1, IntKind.wrap .i64 (s0.2 + (1 : Int))))
 else some (.inl (s0.1, IntKind.wrap .i64 (s0.2 + (1 : Int))))
 else some (.inr s0.1))
 ([], (0 : Int)))
 fun x4 =>
 Option.bind
 (guardB
 (decide ((0 : Tr.El (Tr.Ty.int .i64)) ≤ (0 : Int) ∧ (0 : Int) ≤ (↑(List.length x4) : Int) ∧ (↑(List.length x4) : Int) ≤ (↑maxApp : Tr.El (Tr.Ty.int .i64)))))
 fun _ =>
 Tr.drun (fun s6 => bif List.isEmpty s6.2 then (1 : Nat) else List.length s6.2)
 (fun s6 i7 =>
 bif List.isEmpty s6.2 then some (.inr s6.1)
 else
 Option.bind s6.2[i7]? fun x8 =>
 Option.bind (guardB (decide (List.length s6.1 + List.length [(x8.1.1, x8.1.2.1, x8.2, ())] ≤ maxApp))) fun _ =>
 some (.inl (s6.1 ++ [(x8.1.1, x8.1.2.1, x8.2, ())], List.eraseIdx s6.2 i7)))
 (fun o10 => Option.bind (F_shortest_All a1 o10) fun x11 => some x11.1) (List.replicate (Int.toNat (0 : Int)) (((0 : Int), (0 : Int), (0 : Int), ())), x4)
abbrev F_footpath_distancesA : Pats := (.cons (.pd Y35) (.cons (.pd Y3) (.cons (.pd Y4) .nil)))
abbrev F_footpath_distancesR : Pats := (.cons (.pd Y116) .nil)
noncomputable def F_footpath_distancesS : Tr.Spec := { args := F_footpath_distancesA, res := F_footpath_distancesR, fns := [], α := El Y116, f := fun x => F_footpath_distances x.1 x.2.1 x.2.2.1, unp := fun z => (((), (), (), ()), (z, ())) }
noncomputable def F_footpath_distancesM : List (Nat × List Tr.Spec) := [(80, [F_shortest_AllS])]
def F_footpath_distancesH : Hint := (.seq .leaf (.seq .leaf (.seq (.seq .leaf (.lp ⟨[(7, (.map Y128 Y3)), (21, (.pd Y3))], [], [1, 2, 19, 20], []⟩ [((.exit 0), ⟨[(7, (.map Y128 Y3))], [], [1], []⟩)] (.seq .leaf (.seq .leaf (.seq (.seq .leaf (.seq (.seq (.reg [(30, Y4)]) .leaf) (.seq .leaf (.seq .leaf (.seq (.reg [(49, Y4)]) .leaf))))) .leaf))))) (.seq .leaf (.seq (.seq .leaf (.lpd 59 ⟨[(13, (.own Y140 false)), (59, (.it Y128 Y3))], [], [1], []⟩ [((.exit 2), ⟨[(13, (.own Y140 false))], [], [1], []⟩)] .leaf)) .leaf)))))
noncomputable def F_footpath_distancesV (a0 : El Y35) (a1 : El Y3) (a2 : El Y4) : Option (El Y116) := evalF (mkE tyTab mapTab pkTab [] [] F_footpath_distancesM 81) (codeOf Try.f73) Try.f73.results F_footpath_distancesH F_footpath_distancesA F_footpath_distancesR (fun y => y.2.1) (a0, a1, a2, ())
theorem F_footpath_distances_eq (a0 : El Y35) (a1 : El Y3) (a2 : El Y4) : F_footpath_distancesV a0 a1 a2 = F_footpath_distances a0 a1 a2 := by kernel_rfl
theorem F_footpath_distances_ok : FnOK Try.prog 73 F_footpath_distancesS := fnOK_of (m := F_footpath_distancesM) (fn := Try.f73) (hint := F_footpath_distancesH) (pack := fun y => y.2.1) hmix tab_ok ⟨⟨F_shortest_All_ok, trivial⟩, trivial⟩ fun x z h => (F_footpath_distances_eq x.1 x.2.1 x.2.2.1).trans h
noncomputable def F_cmp_Or_int : (El Y45) → Option (El Y3) := fun a0 =>
 Option.bind
 (Tr.run
 (fun s0 =>
 bif decide (s0 < (↑(List.length a0) : Int)) then
 Option.bind (idx a0 s0) fun x1 =>
 bif !decide (x1 = (0 : Int)) then some (.inr (.inr x1)) else some (.inl (IntKind.wrap .i64 (s0 + (1 : Int))))
 else some (.inr (.inl ())))
 (0 : Int))
 fun x2 => Sum.elim (fun _ => some (0 : Int)) (fun y4 => some y4) x2
abbrev F_cmp_Or_intA : Pats := (.cons (.pd Y45) .nil)
abbrev F_cmp_Or_intR : Pats := (.cons (.pd Y3) .nil)
noncomputable def F_cmp_Or_intS : Tr.Spec := { args := F_cmp_Or_intA, res := F_cmp_Or_intR, fns := [], α := El Y3, f := fun x => F_cmp_Or_int x.1, unp := fun z => (((), ()), (z, ())) }
noncomputable def F_cmp_Or_intM : List (Nat × List Tr.Spec) := []
def F_cmp_Or_intH : Hint := (.seq .leaf (.seq .leaf (.seq (.seq .leaf (.lp ⟨[(8, (.pd Y3))], [], [3, 6, 7], []⟩ [((.exit 0), ⟨[], [], [3], []⟩), (.ret, ⟨[(2, (.pd Y3))], [], [], []⟩)] .leaf)) .leaf)))
noncomputable def F_cmp_Or_intV (a0 : El Y45) : Option (El Y3) := evalF (mkE tyTab mapTab pkTab [] [] F_cmp_Or_intM 18) (codeOf Try.f77) Try.f77.results F_cmp_Or_intH F_cmp_Or_intA F_cmp_Or_intR (fun y => y.2.1) (a0, ())
theorem F_cmp_Or_int_eq (a0 : El Y45) : F_cmp_Or_intV a0 = F_cmp_Or_int a0 := by kernel_rfl
theorem F_cmp_Or_int_ok : FnOK Try.prog 77 F_cmp_Or_intS := fnOK_of (m := F_cmp_Or_intM) (fn := Try.f77) (hint := F_cmp_Or_intH) (pack := fun y => y.2.1) hmix tab_ok trivial fun x z h => (F_cmp_Or_int_eq x.1).trans h
noncomputable def F_cmp_isNaN_int : (El Y3) → Option (El Y4) := fun a0 => some !decide (a0 = a0)
abbrev F_cmp_isNaN_intA : Pats := (.cons (.pd Y3) .nil)
abbrev F_cmp_isNaN_intR : Pats := (.cons (.pd Y4) .nil)
noncomputable def F_cmp_isNaN_intS : Tr.Spec := { args := F_cmp_isNaN_intA, res := F_cmp_isNaN_intR, fns := [], α := El Y4, f := fun x => F_cmp_isNaN_int x.1, unp := fun z => (((), ()), (z, ())) }
noncomputable def F_cmp_isNaN_intM : List (Nat × List Tr.Spec) := []
def F_cmp_isNaN_intH : Hint := .leaf
noncomputable def F_cmp_isNaN_intV (a0 : El Y3) : Option (El Y4) := evalF (mkE tyTab mapTab pkTab [] [] F_cmp_isNaN_intM 6) (codeOf Try.f82) Try.f82.results F_cmp_isNaN_intH F_cmp_isNaN_intA F_cmp_isNaN_intR (fun y => y.2.1) (a0, ())
theorem F_cmp_isNaN_int_eq (a0 : El Y3) : F_cmp_isNaN_intV a0 = F_cmp_isNaN_int a0 := by kernel_rfl
theorem F_cmp_isNaN_int_ok : FnOK Try.prog 82 F_cmp_isNaN_intS := fnOK_of (m := F_cmp_isNaN_intM) (fn := Try.f82) (hint := F_cmp_isNaN_intH) (pack := fun y => y.2.1) hmix tab_ok trivial fun x z h => (F_cmp_isNaN_int_eq x.1).trans h
noncomputable def F_cmp_Compare_int : (El Y3) → (El Y3) → Option (El Y3) := fun a0 a1 =>
 Option.bind (F_cmp_isNaN_int a0) fun x0 =>
 Option.bind (F_cmp_isNaN_int a1) fun x1 =>
 bif x0 then bif x1 then some (0 : Int) else some (-1 : Int)
 else bif x1 then some (1 : Int) else bif decide (a0 < a1) then some (-1 : Int) else bif decide (a1 < a0) then some (1 : Int) else some (0 : Int)
abbrev F_cmp_Compare_intA : Pats := (.cons (.pd Y3) (.cons (.pd Y3) .nil))
abbrev F_cmp_Compare_intR : Pats := (.cons (.pd Y3) .nil)
noncomputable def F_cmp_Compare_intS : Tr.Spec := { args := F_cmp_Compare_intA, res := F_cmp_Compare_intR, fns := [], α := El Y3, f := fun x => F_cmp_Compare_int x.1 x.2.1, unp := fun z => (((), (), ()), (z, ())) }
noncomputable def F_cmp_Compare_intM : List (Nat × List Tr.Spec) := [(82, [F_cmp_isNaN_intS])]
def F_cmp_Compare_intH : Hint := .leaf
noncomputable def F_cmp_Compare_intV (a0 : El Y3) (a1 : El Y3) : Option (El Y3) := evalF (mkE tyTab mapTab pkTab [] [] F_cmp_Compare_intM 20) (codeOf Try.f78) Try.f78.results F_cmp_Compare_intH F_cmp_Compare_intA F_cmp_Compare_intR (fun y => y.2.1) (a0, a1, ())
theorem F_cmp_Compare_int_eq (a0 : El Y3) (a1 : El Y3) : F_cmp_Compare_intV a0 a1 = F_cmp_Compare_int a0 a1 := by kernel_rfl
theorem F_cmp_Compare_int_ok : FnOK Try.prog 78 F_cmp_Compare_intS := fnOK_of (m := F_cmp_Compare_intM) (fn := Try.f78) (hint := F_cmp_Compare_intH) (pack := fun y => y.2.1) hmix tab_ok ⟨⟨F_cmp_isNaN_int_ok, trivial⟩, trivial⟩ fun x z h => (F_cmp_Compare_int_eq x.1 x.2.1).trans h
noncomputable def F_footpath_closure_2 : (El Y87) → (El Y87) → Option (El Y3) := fun a0 a1 =>
 Option.bind (F_cmp_Compare_int a0.1 a1.1) fun x0 =>
 Option.bind (F_cmp_Compare_int a0.2.1 a1.2.1) fun x1 =>
 Option.bind (F_cmp_Compare_int a0.2.2.1 a1.2.2.1) fun x2 => Option.bind (F_cmp_Or_int [x0, x1, x2]) fun x3 => some x3
abbrev F_footpath_closure_2A : Pats := (.cons (.pd Y87) (.cons (.pd Y87) .nil))
abbrev F_footpath_closure_2R : Pats := (.cons (.pd Y3) .nil)
noncomputable def F_footpath_closure_2S : Tr.Spec := { args := F_footpath_closure_2A, res := F_footpath_closure_2R, fns := [], α := El Y3, f := fun x => F_footpath_closure_2 x.1 x.2.1, unp := fun z => (((), (), ()), (z, ())) }
noncomputable def F_footpath_closure_2M : List (Nat × List Tr.Spec) := [(77, [F_cmp_Or_intS]), (78, [F_cmp_Compare_intS])]
def F_footpath_closure_2H : Hint := .leaf
noncomputable def F_footpath_closure_2V (a0 : El Y87) (a1 : El Y87) : Option (El Y3) := evalF (mkE tyTab mapTab pkTab [] [] F_footpath_closure_2M 22) (codeOf Try.f76) Try.f76.results F_footpath_closure_2H F_footpath_closure_2A F_footpath_closure_2R (fun y => y.2.1) (a0, a1, ())
theorem F_footpath_closure_2_eq (a0 : El Y87) (a1 : El Y87) : F_footpath_closure_2V a0 a1 = F_footpath_closure_2 a0 a1 := by kernel_rfl
theorem F_footpath_closure_2_ok : FnOK Try.prog 76 F_footpath_closure_2S := fnOK_of (m := F_footpath_closure_2M) (fn := Try.f76) (hint := F_footpath_closure_2H) (pack := fun y => y.2.1) hmix tab_ok ⟨⟨F_cmp_Or_int_ok, trivial⟩, ⟨F_cmp_Compare_int_ok, trivial⟩, trivial⟩ fun x z h => (F_footpath_closure_2_eq x.1 x.2.1).trans h
noncomputable def F_slices_SortFunc_api_Footpath_api_Footpath_X_footpath_closure_2 (a0 : List (El Y87)) (_ : Unit) : Option (List (El Y87)) := Tr.sortF F_footpath_closure_2 a0
abbrev F_slices_SortFunc_api_Footpath_api_Footpath_X_footpath_closure_2A : Pats := (.cons (.own Y87 true) (.cons (.fn 76 .nil) .nil))
abbrev F_slices_SortFunc_api_Footpath_api_Footpath_X_footpath_closure_2R : Pats := .nil
noncomputable def F_slices_SortFunc_api_Footpath_api_Footpath_X_footpath_closure_2S : Tr.Spec := { args := F_slices_SortFunc_api_Footpath_api_Footpath_X_footpath_closure_2A, res := F_slices_SortFunc_api_Footpath_api_Footpath_X_footpath_closure_2R, fns := [76], α := List (El Y87), f := fun x => F_slices_SortFunc_api_Footpath_api_Footpath_X_footpath_closure_2 x.1 x.2.1, unp := fun z => ((z, (), ()), ()) }
theorem F_slices_SortFunc_api_Footpath_api_Footpath_X_footpath_closure_2_ok : FnOK Try.prog 75 F_slices_SortFunc_api_Footpath_api_Footpath_X_footpath_closure_2S := Tr.sortFunc_ok (ρ := Try.sort75_ren) Try.sort75 rfl Try.isAgg87 Try.sizeOf87 F_footpath_closure_2_ok
noncomputable def F_footpath_closure_1 : (El Y3) → (El Y3) → (El Y3) → (El Y4) → (List (El Y87)) → Option (List (El Y87)) := fun a0 a1 a2 a3 a4 =>
 Option.bind (bif decide ((0 : Int) < a2) then some (decide (a2 ≤ (14400 : Int))) else some false) fun x0 =>
 bif x0 then Option.bind (guardB (decide (List.length a4 + List.length [(a0, a1, a2, a3, ())] ≤ maxApp))) fun _ => some (a4 ++ [(a0, a1, a2, a3, ())]) else some a4
abbrev F_footpath_closure_1A : Pats := (.cons (.pd Y3) (.cons (.pd Y3) (.cons (.pd Y3) (.cons (.pd Y4) (.cons (.var Y35 (.own Y87 false)) .nil)))))
abbrev F_footpath_closure_1R : Pats := .nil
noncomputable def F_footpath_closure_1S : Tr.Spec := { args := F_footpath_closure_1A, res := F_footpath_closure_1R, fns := [], α := List (El Y87), f := fun x => F_footpath_closure_1 x.1 x.2.1 x.2.2.1 x.2.2.2.1 x.2.2.2.2.1, unp := fun z => (((), (), (), (), z, ()), ()) }
noncomputable def F_footpath_closure_1M : List (Nat × List Tr.Spec) := []
def F_footpath_closure_1H : Hint := (.seq (.reg [(14, Y4)]) .leaf)
noncomputable def F_footpath_closure_1V (a0 : El Y3) (a1 : El Y3) (a2 : El Y3) (a3 : El Y4) (a4 : List (El Y87)) : Option (List (El Y87)) := evalF (mkE tyTab mapTab pkTab [] [] F_footpath_closure_1M 23) (codeOf Try.f74) Try.f74.results F_footpath_closure_1H F_footpath_closure_1A F_footpath_closure_1R (fun y => y.1.2.2.2.2.1) (a0, a1, a2, a3, a4, ())
theorem F_footpath_closure_1_eq (a0 : El Y3) (a1 : El Y3) (a2 : El Y3) (a3 : El Y4) (a4 : List (El Y87)) : F_footpath_closure_1V a0 a1 a2 a3 a4 = F_footpath_closure_1 a0 a1 a2 a3 a4 := by kernel_rfl
theorem F_footpath_closure_1_ok : FnOK Try.prog 74 F_footpath_closure_1S := fnOK_of (m := F_footpath_closure_1M) (fn := Try.f74) (hint := F_footpath_closure_1H) (pack := fun y => y.1.2.2.2.2.1) hmix tab_ok trivial fun x z h => (F_footpath_closure_1_eq x.1 x.2.1 x.2.2.1 x.2.2.2.1 x.2.2.2.2.1).trans h
noncomputable def F_footpath_closure : (El Y35) → (El Y3) → Option (El Y35) := fun a0 a1 =>
 Option.bind (F_footpath_distances a0 a1 false) fun x0 =>
 Option.bind (F_footpath_distances a0 a1 true) fun x1 =>
 Option.bind
 (Tr.run
 (fun s2 =>
 bif decide (s2.2 < (↑(List.length x0) : Int)) then
 Option.bind (idx x0 s2.2) fun x3 =>
 Option.bind
 (Tr.run
 (fun s4 =>
 bif decide (s4.2 < (↑(List.length x3) : Int)) then
 Option.bind (idx x3 s4.2) fun x5 =>
 bif decide (s2.2 = s4.2) then some (.inl (s4.1, IntKind.wrap .i64 (s4.2 + (1 : Int))))
 else
 Option.bind (idx x1 s2.2) fun x6 =>
 Option.bind (idx x6 s4.2) fun x7 =>
 Option.bind (F_footpath_closure_1 s2.2 s4.2 x5 (decide (x7 = x5)) s4.1) fun x8 =>
 bif !decide (x7 = x5) then
 Option.bind (F_footpath_closure_1 s2.2 s4.2 x7 true x8) fun x9 => some (.inl (x9, IntKind.wrap .i64 (s4.2 + (1 : Int))))
 else some (.inl (x8, IntKind.wrap .i64 (s4.2 + (1 : Int))))
 else some (.inr s4.1))
 (s2.1, (0 : Int)))
 fun x10 => some (.inl (x10, IntKind.wrap .i64 (s2.2 + (1 : Int))))
 else some (.inr s2.1))
 ([], (0 : Int)))
 fun x11 => Option.bind (F_slices_SortFunc_api_Footpath_api_Footpath_X_footpath_closure_2 x11 ()) fun x12 => some x12
abbrev F_footpath_closureA : Pats := (.cons (.pd Y35) (.cons (.pd Y3) .nil))
abbrev F_footpath_closureR : Pats := (.cons (.pd Y35) .nil)
noncomputable def F_footpath_closureS : Tr.Spec := { args := F_footpath_closureA, res := F_footpath_closureR, fns := [], α := El Y35, f := fun x => F_footpath_closure x.1 x.2.1, unp := fun z => (((), (), ()), (z, ())) }
noncomputable def F_footpath_closureM : List (Nat × List Tr.Spec) := [(73, [F_footpath_distancesS]), (74, [F_footpath_closure_1S]), (75, [F_slices_SortFunc_api_Footpath_api_Footpath_X_footpath_closure_2S]), (76, [F_footpath_closure_2S])]
def F_footpath_closureH : Hint := (.seq .leaf (.seq .leaf (.seq .leaf (.seq .leaf (.seq (.seq .leaf (.lp ⟨[(7, (.var Y35 (.own Y87 false))), (22, (.pd Y3))], [(8, 74, [7])], [5, 6, 21], []⟩ [((.exit 0), ⟨[(7, (.var Y35 (.own Y87 false)))], [], [], []⟩)] (.seq .leaf (.seq .leaf (.seq (.seq .leaf (.seq .leaf (.lp ⟨[(7, (.var Y35 (.own Y87 false))), (30, (.pd Y3))], [(8, 74, [7])], [5, 6, 9, 21, 22, 28, 29], []⟩ [((.exit 2), ⟨[(7, (.var Y35 (.own Y87 false)))], [(8, 74, [7])], [5, 6, 21, 22], []⟩)] .leaf))) .leaf))))) .leaf)))))
noncomputable def F_footpath_closureV (a0 : El Y35) (a1 : El Y3) : Option (El Y35) := evalF (mkE tyTab mapTab pkTab [] [] F_footpath_closureM 66) (codeOf Try.f67) Try.f67.results F_footpath_closureH F_footpath_closureA F_footpath_closureR (fun y => y.2.1) (a0, a1, ())
theorem F_footpath_closure_eq (a0 : El Y35) (a1 : El Y3) : F_footpath_closureV a0 a1 = F_footpath_closure a0 a1 := by kernel_rfl
theorem F_footpath_closure_ok : FnOK Try.prog 67 F_footpath_closureS := fnOK_of (m := F_footpath_closureM) (fn := Try.f67) (hint := F_footpath_closureH) (pack := fun y => y.2.1) hmix tab_ok ⟨⟨F_footpath_distances_ok, trivial⟩, ⟨F_footpath_closure_1_ok, trivial⟩, ⟨F_slices_SortFunc_api_Footpath_api_Footpath_X_footpath_closure_2_ok, trivial⟩, ⟨F_footpath_closure_2_ok, trivial⟩, trivial⟩ fun x z h => (F_footpath_closure_eq x.1 x.2.1).trans h
noncomputable def F_footpath_IsClosed : (El Y35) → (El Y3) → Option (El Y4) := fun a0 a1 =>
 bif decide ((64 : Int) < a1) then some false
 else
 Option.bind (F_footpath_sound a0 a1) fun x0 =>
 bif !decide (x0.2 = (0 : Int)) then some false
 else
 Option.bind (F_footpath_closure a0 (Tr.imax a1 (0 : Int))) fun x1 =>
 bif !decide ((↑(List.length x1) : Int) = (↑(List.length a0) : Int)) then some false
 else
 Option.bind
 (Tr.run
 (fun s2 =>
 bif decide (s2 < (↑(List.length x1) : Int)) then
 Option.bind (idx x1 s2) fun x3 =>
 Option.bind (idx a0 s2) fun x4 =>
 bif
 !(decide (x3.1 = x4.1) &&
 (decide (x3.2.1 = x4.2.1) && (decide (x3.2.2.1 = x4.2.2.1) && x3.2.2.2.1 == x4.2.2.2.1))) then
 some (.inr (.inr false))
 else some (.inl (IntKind.wrap .i64 (s2 + (1 : Int))))
 else some (.inr (.inl ())))
 (0 : Int))
 fun x5 => Sum.elim (fun _ => some true) (fun y7 => some y7) x5
abbrev F_footpath_IsClosedA : Pats := (.cons (.pd Y35) (.cons (.pd Y3) .nil))
abbrev F_footpath_IsClosedR : Pats := (.cons (.pd Y4) .nil)
noncomputable def F_footpath_IsClosedS : Tr.Spec := { args := F_footpath_IsClosedA, res := F_footpath_IsClosedR, fns := [], α := El Y4, f := fun x => F_footpath_IsClosed x.1 x.2.1, unp := fun z => (((), (), ()), (z, ())) }
noncomputable def F_footpath_IsClosedM : List (Nat × List Tr.Spec) := [(66, [F_footpath_soundS]), (67, [F_footpath_closureS])]
def F_footpath_IsClosedH : Hint := (.seq .leaf (.seq .leaf (.seq .leaf (.seq .leaf (.seq .leaf (.seq (.seq .leaf (.lp ⟨[(30, (.pd Y3))], [], [0, 7, 29], []⟩ [((.exit 0), ⟨[], [], [], []⟩), (.ret, ⟨[(4, (.pd Y4))], [], [], []⟩)] .leaf)) .leaf))))))
noncomputable def F_footpath_IsClosedV (a0 : El Y35) (a1 : El Y3) : Option (El Y4) := evalF (mkE tyTab mapTab pkTab [] [] F_footpath_IsClosedM 43) (codeOf Try.f53) Try.f53.results F_footpath_IsClosedH F_footpath_IsClosedA F_footpath_IsClosedR (fun y => y.2.1) (a0, a1, ())
theorem F_footpath_IsClosed_eq (a0 : El Y35) (a1 : El Y3) : F_footpath_IsClosedV a0 a1 = F_footpath_IsClosed a0 a1 := by kernel_rfl
theorem F_footpath_IsClosed_ok : FnOK Try.prog 53 F_footpath_IsClosedS := fnOK_of (m := F_footpath_IsClosedM) (fn := Try.f53) (hint := F_footpath_IsClosedH) (pack := fun y => y.2.1) hmix tab_ok ⟨⟨F_footpath_sound_ok, trivial⟩, ⟨F_footpath_closure_ok, trivial⟩, trivial⟩ fun x z h => (F_footpath_IsClosed_eq x.1 x.2.1).trans h
noncomputable def F_network_checkPaths : (El Y40) → Option (El Y73) := fun a0 =>
 Option.bind
 (Tr.run
 (fun s0 =>
 bif decide (s0.2.2 < (↑(List.length a0.2.2.2.2.1) : Int)) then
 Option.bind (idx a0.2.2.2.2.1 s0.2.2) fun x1 =>
 Option.bind
 (Option.bind (F_network_within x1.1 (↑(List.length a0.1) : Int)) fun x2 =>
 bif !x2 then some true
 else Option.bind (F_network_within x1.2.1 (↑(List.length a0.1) : Int)) fun x3 => bif !x3 then some true else some (decide (x1.1 = x1.2.1)))
 fun x4 =>
 bif x4 then Option.bind (F_network_of (4 : Int) s0.2.2 (9 : Int)) fun x5 => some (.inr (.inr x5))
 else
 Option.bind (bif decide (x1.2.2.1 < (1 : Int)) then some true else some (decide ((14400 : Int) < x1.2.2.1))) fun x6 =>
 bif x6 then Option.bind (F_network_of (4 : Int) s0.2.2 (2 : Int)) fun x7 => some (.inr (.inr x7))
 else
 bif Option.getD (Tr.amGet (Tr.keyEq Y87) (x1.1, x1.2.1, (0 : Int), x1.2.2.2.1, ()) s0.2.1) (false) then
 Option.bind (F_network_of (4 : Int) s0.2.2 (6 : Int)) fun x8 => some (.inr (.inr x8))
 else
 some
 (.inl
 (s0.1, Tr.amSet (Tr.keyEq Y87) (x1.1, x1.2.1, (0 : Int), x1.2.2.2.1, ()) true s0.2.1, IntKind.wrap .i64 (s0.2.2 + (1 : Int))))
 else some (.inr (.inl s0.1)))
 (((0 : Int), (0 : Int), (0 : Int), ()), [], (0 : Int)))
 fun x9 =>
 Sum.elim
 (fun _ =>
 Option.bind (F_footpath_IsClosed a0.2.2.2.2.1 (↑(List.length a0.1) : Int)) fun x11 =>
 bif !x11 then Option.bind (F_network_of (4 : Int) (0 : Int) (18 : Int)) fun x12 => some x12 else some ((0 : Int), (0 : Int), (0 : Int), ()))
 (fun y13 => some y13) x9
abbrev F_network_checkPathsA : Pats := (.cons (.pd Y40) .nil)
abbrev F_network_checkPathsR : Pats := (.cons (.pd Y73) .nil)
noncomputable def F_network_checkPathsS : Tr.Spec := { args := F_network_checkPathsA, res := F_network_checkPathsR, fns := [], α := El Y73, f := fun x => F_network_checkPaths x.1, unp := fun z => (((), ()), (z, ())) }
noncomputable def F_network_checkPathsM : List (Nat × List Tr.Spec) := [(35, [F_network_ofS]), (50, [F_network_withinS]), (53, [F_footpath_IsClosedS])]
def F_network_checkPathsH : Hint := (.seq .leaf (.seq .leaf (.seq (.seq .leaf (.lp ⟨[(2, (.var Y73 (.pd Y73))), (3, (.map Y87 Y4)), (11, (.pd Y3))], [], [1, 9, 10], []⟩ [((.exit 0), ⟨[(2, (.var Y73 (.pd Y73)))], [], [1], []⟩), (.ret, ⟨[(2, (.var Y73 (.pd Y73)))], [], [], []⟩)] (.seq .leaf (.seq .leaf (.seq (.seq .leaf (.seq .leaf (.seq (.seq (.reg [(23, Y4)]) (.cnd none .leaf (.seq (.reg [(49, Y4)]) .leaf))) .leaf))) .leaf))))) .leaf)))
noncomputable def F_network_checkPathsV (a0 : El Y40) : Option (El Y73) := evalF (mkE tyTab mapTab pkTab [] [] F_network_checkPathsM 78) (codeOf Try.f39) Try.f39.results F_network_checkPathsH F_network_checkPathsA F_network_checkPathsR (fun y => y.2.1) (a0, ())
theorem F_network_checkPaths_eq (a0 : El Y40) : F_network_checkPathsV a0 = F_network_checkPaths a0 := by kernel_rfl
theorem F_network_checkPaths_ok : FnOK Try.prog 39 F_network_checkPathsS := fnOK_of (m := F_network_checkPathsM) (fn := Try.f39) (hint := F_network_checkPathsH) (pack := fun y => y.2.1) hmix tab_ok ⟨⟨F_network_of_ok, trivial⟩, ⟨F_network_within_ok, trivial⟩, ⟨F_footpath_IsClosed_ok, trivial⟩, trivial⟩ fun x z h => (F_network_checkPaths_eq x.1).trans h
noncomputable def F_network_Check : (El Y40) → Option (El Y3 × El Y3 × El Y42) := fun a0 =>
 Option.bind (F_stop_Check a0.1) fun x0 =>
 Option.bind (F_route_Check a0.2.1) fun x1 =>
 Option.bind (F_network_of (0 : Int) x0.1 x0.2) fun x2 =>
 Option.bind (F_network_of (1 : Int) x1.1 x1.2) fun x3 =>
 Option.bind (F_network_first [x2, x3]) fun x4 =>
 Option.bind (bif decide (x4.2.2.1 = (0 : Int)) then Option.bind (F_network_checkRuns a0) fun x5 => some x5 else some x4) fun x6 =>
 Option.bind (bif decide (x6.2.2.1 = (0 : Int)) then Option.bind (F_network_checkLinks a0) fun x7 => some x7 else some x6) fun x8 =>
 Option.bind
 (bif decide (x8.2.2.1 = (0 : Int)) then
 Option.bind (F_product_Check a0.2.2.2.2.2.1) fun x9 =>
 Option.bind (F_network_checkPaths a0) fun x10 => Option.bind (F_network_of (5 : Int) x9.1 x9.2) fun x11 => Option.bind (F_network_first [x10, x11]) fun x12 => some x12
 else some x8)
 fun x13 => some (x13.1, x13.2.1, x13.2.2.1)
abbrev F_network_CheckA : Pats := (.cons (.pd Y40) .nil)
abbrev F_network_CheckR : Pats := (.cons (.pd Y3) (.cons (.pd Y3) (.cons (.pd Y42) .nil)))
noncomputable def F_network_CheckS : Tr.Spec := { args := F_network_CheckA, res := F_network_CheckR, fns := [], α := El Y3 × El Y3 × El Y42, f := fun x => F_network_Check x.1, unp := fun z => (((), ()), (z.1, z.2.1, z.2.2, ())) }
noncomputable def F_network_CheckM : List (Nat × List Tr.Spec) := [(32, [F_stop_CheckS]), (33, [F_route_CheckS]), (34, [F_network_firstS]), (35, [F_network_ofS]), (36, [F_network_checkRunsS]), (37, [F_network_checkLinksS]), (38, [F_product_CheckS]), (39, [F_network_checkPathsS])]
def F_network_CheckH : Hint := (.seq .leaf (.seq .leaf (.seq .leaf (.seq .leaf (.seq (.seq .leaf (.cnd (some (⟨[], [], [1], []⟩, [(.normal, ⟨[(9, (.var Y73 (.pd Y73)))], [], [1], []⟩)])) .leaf .leaf)) (.seq (.seq .leaf (.cnd (some (⟨[], [], [1], []⟩, [(.normal, ⟨[(9, (.var Y73 (.pd Y73)))], [], [1], []⟩)])) .leaf .leaf)) (.seq (.seq .leaf (.cnd (some (⟨[], [], [], []⟩, [(.normal, ⟨[(9, (.var Y73 (.pd Y73)))], [], [], []⟩)])) .leaf .leaf)) .leaf)))))))
noncomputable def F_network_CheckV (a0 : El Y40) : Option (El Y3 × El Y3 × El Y42) := evalF (mkE tyTab mapTab pkTab [] [] F_network_CheckM 64) (codeOf Try.f24) Try.f24.results F_network_CheckH F_network_CheckA F_network_CheckR (fun y => (y.2.1, y.2.2.1, y.2.2.2.1)) (a0, ())
theorem F_network_Check_eq (a0 : El Y40) : F_network_CheckV a0 = F_network_Check a0 := by kernel_rfl
theorem F_network_Check_ok : FnOK Try.prog 24 F_network_CheckS := fnOK_of (m := F_network_CheckM) (fn := Try.f24) (hint := F_network_CheckH) (pack := fun y => (y.2.1, y.2.2.1, y.2.2.2.1)) hmix tab_ok ⟨⟨F_stop_Check_ok, trivial⟩, ⟨F_route_Check_ok, trivial⟩, ⟨F_network_first_ok, trivial⟩, ⟨F_network_of_ok, trivial⟩, ⟨F_network_checkRuns_ok, trivial⟩, ⟨F_network_checkLinks_ok, trivial⟩, ⟨F_product_Check_ok, trivial⟩, ⟨F_network_checkPaths_ok, trivial⟩, trivial⟩ fun x z h => (F_network_Check_eq x.1).trans h
noncomputable def F_slices_SortFunc_api_Connection_api_Connection_X_connection_Compare (a0 : List (El Y23)) (_ : Unit) : Option (List (El Y23)) := Tr.sortF F_connection_Compare a0
abbrev F_slices_SortFunc_api_Connection_api_Connection_X_connection_CompareA : Pats := (.cons (.own Y23 true) (.cons (.fn 7 .nil) .nil))
abbrev F_slices_SortFunc_api_Connection_api_Connection_X_connection_CompareR : Pats := .nil
noncomputable def F_slices_SortFunc_api_Connection_api_Connection_X_connection_CompareS : Tr.Spec := { args := F_slices_SortFunc_api_Connection_api_Connection_X_connection_CompareA, res := F_slices_SortFunc_api_Connection_api_Connection_X_connection_CompareR, fns := [7], α := List (El Y23), f := fun x => F_slices_SortFunc_api_Connection_api_Connection_X_connection_Compare x.1 x.2.1, unp := fun z => ((z, (), ()), ()) }
theorem F_slices_SortFunc_api_Connection_api_Connection_X_connection_Compare_ok : FnOK Try.prog 25 F_slices_SortFunc_api_Connection_api_Connection_X_connection_CompareS := Tr.sortFunc_ok (ρ := Try.sort25_ren) Try.sort25 rfl Try.isAgg23 Try.sizeOf23 F_connection_Compare_ok
noncomputable def F_connection_List : (El Y40) → Option (El Y27 × El Y42) := fun a0 =>
 Option.bind (F_network_Check a0) fun x0 =>
 bif !decide (x0.2.2 = (0 : Int)) then some ([], (21 : Int))
 else
 Option.bind
 (Tr.run
 (fun s1 =>
 bif decide (s1.2 < (↑(List.length a0.2.2.1) : Int)) then
 Option.bind (idx a0.2.2.1 s1.2) fun x2 =>
 bif x2.2.2.2.2.2.2.1 then some (.inl (s1.1, IntKind.wrap .i64 (s1.2 + (1 : Int))))
 else
 Option.bind
 (Tr.run
 (fun s3 =>
 bif decide (s3.2 < IntKind.wrap .i64 ((↑(List.length x2.2.2.2.2.2.2.2.1) : Int) - (1 : Int))) then
 Option.bind (idx x2.2.2.2.2.2.2.2.1 s3.2) fun x4 =>
 Option.bind (idx x2.2.2.2.2.2.2.2.1 (IntKind.wrap .i64 (s3.2 + (1 : Int)))) fun x5 =>
 Option.bind (guardB (decide (List.length s3.1 + List.length [(s1.2, s3.2, x4.1, x5.1, x4.2.2.1, x5.2.1, ())] ≤ maxApp))) fun _ =>
 some (.inl (s3.1 ++ [(s1.2, s3.2, x4.1, x5.1, x4.2.2.1, x5.2.1, ())], IntKind.wrap .i64 (s3.2 + (1 : Int))))
 else some (.inr s3.1))
 (s1.1, (0 : Int)))
 fun x7 => some (.inl (x7, IntKind.wrap .i64 (s1.2 + (1 : Int))))
 else some (.inr s1.1))
 ([], (0 : Int)))
 fun x8 => Option.bind (F_slices_SortFunc_api_Connection_api_Connection_X_connection_Compare x8 ()) fun x9 => some (x9, (0 : Int))
abbrev F_connection_ListA : Pats := (.cons (.pd Y40) .nil)
abbrev F_connection_ListR : Pats := (.cons (.pd Y27) (.cons (.pd Y42) .nil))
noncomputable def F_connection_ListS : Tr.Spec := { args := F_connection_ListA, res := F_connection_ListR, fns := [], α := El Y27 × El Y42, f := fun x => F_connection_List x.1, unp := fun z => (((), ()), (z.1, z.2, ())) }
noncomputable def F_connection_ListM : List (Nat × List Tr.Spec) := [(7, [F_connection_CompareS]), (24, [F_network_CheckS]), (25, [F_slices_SortFunc_api_Connection_api_Connection_X_connection_CompareS])]
def F_connection_ListH : Hint := (.seq .leaf (.seq .leaf (.seq .leaf (.seq .leaf (.seq .leaf (.seq (.seq .leaf (.lp ⟨[(7, (.own Y23 false)), (24, (.pd Y3))], [], [22, 23], []⟩ [((.exit 0), ⟨[(7, (.own Y23 false))], [], [], []⟩)] (.seq .leaf (.seq .leaf (.seq (.seq .leaf (.seq .leaf (.seq .leaf (.lp ⟨[(7, (.own Y23 false)), (35, (.pd Y3))], [], [8, 9, 22, 23, 24, 34], []⟩ [((.exit 2), ⟨[(7, (.own Y23 false))], [], [22, 23, 24], []⟩)] .leaf)))) .leaf))))) .leaf))))))
noncomputable def F_connection_ListV (a0 : El Y40) : Option (El Y27 × El Y42) := evalF (mkE tyTab mapTab pkTab [] [] F_connection_ListM 68) (codeOf Try.f17) Try.f17.results F_connection_ListH F_connection_ListA F_connection_ListR (fun y => (y.2.1, y.2.2.1)) (a0, ())
theorem F_connection_List_eq (a0 : El Y40) : F_connection_ListV a0 = F_connection_List a0 := by kernel_rfl
theorem F_connection_List_ok : FnOK Try.prog 17 F_connection_ListS := fnOK_of (m := F_connection_ListM) (fn := Try.f17) (hint := F_connection_ListH) (pack := fun y => (y.2.1, y.2.2.1)) hmix tab_ok ⟨⟨F_connection_Compare_ok, trivial⟩, ⟨F_network_Check_ok, trivial⟩, ⟨F_slices_SortFunc_api_Connection_api_Connection_X_connection_Compare_ok, trivial⟩, trivial⟩ fun x z h => (F_connection_List_eq x.1).trans h
noncomputable def F_law28_example : Option (El Y40) := some
 ([([(97 : UInt8)], (0 : Int), false, (0 : Int), ()), ([(98 : UInt8)], (0 : Int), false, (0 : Int), ()), ([(99 : UInt8)], (0 : Int), false, (0 : Int), ())],
 [([(114 : UInt8)], (0 : Int), false, ())],
 [((0 : Int), (0 : Int), (0 : Int), [(120 : UInt8)], (0 : Int), false, false,
 [((0 : Int), (90 : Int), (100 : Int), false, false, ()), ((1 : Int), (160 : Int), (160 : Int), false, false, ()),
 ((2 : Int), (220 : Int), (220 : Int), false, false, ())],
 ()),
 ((0 : Int), (0 : Int), (0 : Int), [(121 : UInt8)], (0 : Int), false, false,
 [((1 : Int), (100 : Int), (100 : Int), false, false, ()), ((0 : Int), (150 : Int), (150 : Int), false, false, ())], ())],
 ([] : List (El Y84)), ([] : List (El Y87)), (([] : List (El Y90)), (0 : Int), (0 : Int), (0 : Int), ()), ())
abbrev F_law28_exampleA : Pats := .nil
abbrev F_law28_exampleR : Pats := (.cons (.pd Y40) .nil)
noncomputable def F_law28_exampleS : Tr.Spec := { args := F_law28_exampleA, res := F_law28_exampleR, fns := [], α := El Y40, f := fun _ => F_law28_example, unp := fun z => ((), (z, ())) }
noncomputable def F_law28_exampleM : List (Nat × List Tr.Spec) := []
def F_law28_exampleH : Hint := .leaf
noncomputable def F_law28_exampleV : Option (El Y40) := evalF (mkE tyTab mapTab pkTab [] [] F_law28_exampleM 18) (codeOf Try.f18) Try.f18.results F_law28_exampleH F_law28_exampleA F_law28_exampleR (fun y => y.2.1) (())
theorem F_law28_example_eq  : F_law28_exampleV  = F_law28_example  := by kernel_rfl
theorem F_law28_example_ok : FnOK Try.prog 18 F_law28_exampleS := fnOK_of (m := F_law28_exampleM) (fn := Try.f18) (hint := F_law28_exampleH) (pack := fun y => y.2.1) hmix tab_ok trivial fun _ z h => (F_law28_example_eq ).trans h
noncomputable def F_ref28_Same : (El Y27) → (El Y27) → Option (El Y4) := fun a0 a1 =>
 bif !decide ((↑(List.length a0) : Int) = (↑(List.length a1) : Int)) then some false
 else
 Option.bind
 (Tr.run
 (fun s0 =>
 bif decide (s0 < (↑(List.length a0) : Int)) then
 Option.bind (idx a0 s0) fun x1 =>
 Option.bind (idx a1 s0) fun x2 =>
 bif
 !(decide (x1.1 = x2.1) &&
 (decide (x1.2.1 = x2.2.1) &&
 (decide (x1.2.2.1 = x2.2.2.1) &&
 (decide (x1.2.2.2.1 = x2.2.2.2.1) &&
 (decide (x1.2.2.2.2.1 = x2.2.2.2.2.1) && decide (x1.2.2.2.2.2.1 = x2.2.2.2.2.2.1)))))) then
 some (.inr (.inr false))
 else some (.inl (IntKind.wrap .i64 (s0 + (1 : Int))))
 else some (.inr (.inl ())))
 (0 : Int))
 fun x3 => Sum.elim (fun _ => some true) (fun y5 => some y5) x3
abbrev F_ref28_SameA : Pats := (.cons (.pd Y27) (.cons (.pd Y27) .nil))
abbrev F_ref28_SameR : Pats := (.cons (.pd Y4) .nil)
noncomputable def F_ref28_SameS : Tr.Spec := { args := F_ref28_SameA, res := F_ref28_SameR, fns := [], α := El Y4, f := fun x => F_ref28_Same x.1 x.2.1, unp := fun z => (((), (), ()), (z, ())) }
noncomputable def F_ref28_SameM : List (Nat × List Tr.Spec) := []
def F_ref28_SameH : Hint := (.seq .leaf (.seq .leaf (.seq (.seq .leaf (.lp ⟨[(5, (.pd Y3))], [], [0, 1], []⟩ [((.exit 0), ⟨[], [], [], []⟩), (.ret, ⟨[(4, (.pd Y4))], [], [], []⟩)] .leaf)) .leaf)))
noncomputable def F_ref28_SameV (a0 : El Y27) (a1 : El Y27) : Option (El Y4) := evalF (mkE tyTab mapTab pkTab [] [] F_ref28_SameM 26) (codeOf Try.f19) Try.f19.results F_ref28_SameH F_ref28_SameA F_ref28_SameR (fun y => y.2.1) (a0, a1, ())
theorem F_ref28_Same_eq (a0 : El Y27) (a1 : El Y27) : F_ref28_SameV a0 a1 = F_ref28_Same a0 a1 := by kernel_rfl
theorem F_ref28_Same_ok : FnOK Try.prog 19 F_ref28_SameS := fnOK_of (m := F_ref28_SameM) (fn := Try.f19) (hint := F_ref28_SameH) (pack := fun y => y.2.1) hmix tab_ok trivial fun x z h => (F_ref28_Same_eq x.1 x.2.1).trans h
noncomputable def F_law28_exampleHolds : Option (El Y4) := Option.bind F_law28_example fun x0 =>
 Option.bind (F_connection_List x0) fun x1 =>
 Option.bind
 (F_connection_List
 (([] : List (El Y63)), ([] : List (El Y65)), [((0 : Int), (0 : Int), (0 : Int), ([] : List UInt8), (0 : Int), false, false, ([] : List (El Y50)), ())], ([] : List (El Y84)), ([] : List (El Y87)),
 (([] : List (El Y90)), (0 : Int), (0 : Int), (0 : Int), ()), ()))
 fun x2 =>
 Option.bind
 (bif decide (x1.2 = (0 : Int)) then
 Option.bind
 (F_ref28_Same x1.1
 [((1 : Int), (0 : Int), (1 : Int), (0 : Int), (100 : Int), (150 : Int), ()), ((0 : Int), (0 : Int), (0 : Int), (1 : Int), (100 : Int), (160 : Int), ()),
 ((0 : Int), (1 : Int), (1 : Int), (2 : Int), (160 : Int), (220 : Int), ())])
 fun x3 =>
 bif x3 then
 bif decide (x2.2 = (21 : Int)) then
 Option.bind (F_connection_From x1.1 (100 : Int)) fun x4 =>
 bif decide (x4 = (0 : Int)) then
 Option.bind (F_connection_Until x1.1 (100 : Int)) fun x5 =>
 bif decide (x5 = (2 : Int)) then
 Option.bind (F_connection_From x1.1 (101 : Int)) fun x6 =>
 bif decide (x6 = (2 : Int)) then
 Option.bind
 (F_connection_Compare ((1 : Int), (0 : Int), (1 : Int), (0 : Int), (100 : Int), (150 : Int), ())
 ((0 : Int), (0 : Int), (0 : Int), (1 : Int), (100 : Int), (160 : Int), ()))
 fun x7 => some (decide (x7 = (-1 : Int)))
 else some false
 else some false
 else some false
 else some false
 else some false
 else some false)
 fun x8 => some x8
abbrev F_law28_exampleHoldsA : Pats := .nil
abbrev F_law28_exampleHoldsR : Pats := (.cons (.pd Y4) .nil)
noncomputable def F_law28_exampleHoldsS : Tr.Spec := { args := F_law28_exampleHoldsA, res := F_law28_exampleHoldsR, fns := [], α := El Y4, f := fun _ => F_law28_exampleHolds, unp := fun z => ((), (z, ())) }
noncomputable def F_law28_exampleHoldsM : List (Nat × List Tr.Spec) := [(7, [F_connection_CompareS]), (10, [F_connection_FromS]), (11, [F_connection_UntilS]), (17, [F_connection_ListS]), (18, [F_law28_exampleS]), (19, [F_ref28_SameS])]
def F_law28_exampleHoldsH : Hint := (.seq .leaf (.seq .leaf (.seq .leaf (.seq .leaf (.seq (.reg [(0, Y4)]) .leaf)))))
noncomputable def F_law28_exampleHoldsV : Option (El Y4) := evalF (mkE tyTab mapTab pkTab [] [] F_law28_exampleHoldsM 58) (codeOf Try.f9) Try.f9.results F_law28_exampleHoldsH F_law28_exampleHoldsA F_law28_exampleHoldsR (fun y => y.2.1) (())
theorem F_law28_exampleHolds_eq  : F_law28_exampleHoldsV  = F_law28_exampleHolds  := by kernel_rfl
theorem F_law28_exampleHolds_ok : FnOK Try.prog 9 F_law28_exampleHoldsS := fnOK_of (m := F_law28_exampleHoldsM) (fn := Try.f9) (hint := F_law28_exampleHoldsH) (pack := fun y => y.2.1) hmix tab_ok ⟨⟨F_connection_Compare_ok, trivial⟩, ⟨F_connection_From_ok, trivial⟩, ⟨F_connection_Until_ok, trivial⟩, ⟨F_connection_List_ok, trivial⟩, ⟨F_law28_example_ok, trivial⟩, ⟨F_ref28_Same_ok, trivial⟩, trivial⟩ fun _ z h => (F_law28_exampleHolds_eq ).trans h
noncomputable def F_ref28_Large : (El Y40) → Option (El Y4) := fun a0 =>
 Option.bind
 (bif decide ((70 : Int) < (↑(List.length a0.1) : Int)) then some true
 else
 bif decide ((70 : Int) < (↑(List.length a0.2.1) : Int)) then some true
 else
 bif decide ((40 : Int) < (↑(List.length a0.2.2.1) : Int)) then some true
 else
 bif decide ((60 : Int) < (↑(List.length a0.2.2.2.1) : Int)) then some true
 else
 bif decide ((200 : Int) < (↑(List.length a0.2.2.2.2.1) : Int)) then some true
 else some (decide ((20 : Int) < (↑(List.length a0.2.2.2.2.2.1.1) : Int))))
 fun x0 =>
 bif x0 then some true
 else
 Option.bind
 (Tr.run
 (fun s1 =>
 bif decide (s1 < (↑(List.length a0.2.2.1) : Int)) then
 Option.bind (idx a0.2.2.1 s1) fun x2 =>
 bif decide ((40 : Int) < (↑(List.length x2.2.2.2.2.2.2.2.1) : Int)) then some (.inr (.inr true))
 else some (.inl (IntKind.wrap .i64 (s1 + (1 : Int))))
 else some (.inr (.inl ())))
 (0 : Int))
 fun x3 => Sum.elim (fun _ => some false) (fun y5 => some y5) x3
abbrev F_ref28_LargeA : Pats := (.cons (.pd Y40) .nil)
abbrev F_ref28_LargeR : Pats := (.cons (.pd Y4) .nil)
noncomputable def F_ref28_LargeS : Tr.Spec := { args := F_ref28_LargeA, res := F_ref28_LargeR, fns := [], α := El Y4, f := fun x => F_ref28_Large x.1, unp := fun z => (((), ()), (z, ())) }
noncomputable def F_ref28_LargeM : List (Nat × List Tr.Spec) := []
def F_ref28_LargeH : Hint := (.seq .leaf (.seq (.seq (.reg [(38, Y4)]) .leaf) (.seq (.seq .leaf (.lp ⟨[(3, (.pd Y3))], [], [1], []⟩ [((.exit 0), ⟨[], [], [], []⟩), (.ret, ⟨[(2, (.pd Y4))], [], [], []⟩)] .leaf)) .leaf)))
noncomputable def F_ref28_LargeV (a0 : El Y40) : Option (El Y4) := evalF (mkE tyTab mapTab pkTab [] [] F_ref28_LargeM 54) (codeOf Try.f15) Try.f15.results F_ref28_LargeH F_ref28_LargeA F_ref28_LargeR (fun y => y.2.1) (a0, ())
theorem F_ref28_Large_eq (a0 : El Y40) : F_ref28_LargeV a0 = F_ref28_Large a0 := by kernel_rfl
theorem F_ref28_Large_ok : FnOK Try.prog 15 F_ref28_LargeS := fnOK_of (m := F_ref28_LargeM) (fn := Try.f15) (hint := F_ref28_LargeH) (pack := fun y => y.2.1) hmix tab_ok trivial fun x z h => (F_ref28_Large_eq x.1).trans h
noncomputable def F_ref26_ValidID : (El Y9) → Option (El Y4) := fun a0 =>
 Option.bind (bif decide ((↑(List.length a0) : Int) < (1 : Int)) then some true else some (decide ((32 : Int) < (↑(List.length a0) : Int)))) fun x0 =>
 bif x0 then some false
 else
 Option.bind
 (Tr.run
 (fun s1 =>
 bif decide (s1 < (↑(List.length a0) : Int)) then
 Option.bind (idx a0 s1) fun x2 =>
 Option.bind
 (bif decide ((97 : Int) ≤ (↑(UInt8.toNat x2) : Int)) then
 bif decide ((↑(UInt8.toNat x2) : Int) ≤ (122 : Int)) then some true
 else
 bif decide ((65 : Int) ≤ (↑(UInt8.toNat x2) : Int)) then
 bif decide ((↑(UInt8.toNat x2) : Int) ≤ (90 : Int)) then some true
 else bif decide ((48 : Int) ≤ (↑(UInt8.toNat x2) : Int)) then some (decide ((↑(UInt8.toNat x2) : Int) ≤ (57 : Int))) else some false
 else bif decide ((48 : Int) ≤ (↑(UInt8.toNat x2) : Int)) then some (decide ((↑(UInt8.toNat x2) : Int) ≤ (57 : Int))) else some false
 else
 bif decide ((65 : Int) ≤ (↑(UInt8.toNat x2) : Int)) then
 bif decide ((↑(UInt8.toNat x2) : Int) ≤ (90 : Int)) then some true
 else bif decide ((48 : Int) ≤ (↑(UInt8.toNat x2) : Int)) then some (decide ((↑(UInt8.toNat x2) : Int) ≤ (57 : Int))) else some false
 else bif decide ((48 : Int) ≤ (↑(UInt8.toNat x2) : Int)) then some (decide ((↑(UInt8.toNat x2) : Int) ≤ (57 : Int))) else some false)
 fun x3 =>
 Option.bind
 (bif !x3 then
 bif !decide ((↑(UInt8.toNat x2) : Int) = (45 : Int)) then
 bif !decide ((↑(UInt8.toNat x2) : Int) = (95 : Int)) then some !decide ((↑(UInt8.toNat x2) : Int) = (46 : Int)) else some false
 else some false
 else some false)
 fun x4 => bif x4 then some (.inr (.inr false)) else some (.inl (IntKind.wrap .i64 (s1 + (1 : Int))))
 else some (.inr (.inl ())))
 (0 : Int))
 fun x5 => Sum.elim (fun _ => some true) (fun y7 => some y7) x5
abbrev F_ref26_ValidIDA : Pats := (.cons (.pd Y9) .nil)
abbrev F_ref26_ValidIDR : Pats := (.cons (.pd Y4) .nil)
noncomputable def F_ref26_ValidIDS : Tr.Spec := { args := F_ref26_ValidIDA, res := F_ref26_ValidIDR, fns := [], α := El Y4, f := fun x => F_ref26_ValidID x.1, unp := fun z => (((), ()), (z, ())) }
noncomputable def F_ref26_ValidIDM : List (Nat × List Tr.Spec) := []
def F_ref26_ValidIDH : Hint := (.seq .leaf (.seq (.seq (.reg [(13, Y4)]) .leaf) (.seq (.seq .leaf (.lp ⟨[(3, (.pd Y3))], [], [0], []⟩ [((.exit 0), ⟨[], [], [], []⟩), (.ret, ⟨[(2, (.pd Y4))], [], [], []⟩)] (.seq .leaf (.seq (.seq .leaf (.seq (.reg [(5, Y4)]) (.seq (.reg [(58, Y4)]) .leaf))) .leaf)))) .leaf)))
noncomputable def F_ref26_ValidIDV (a0 : El Y9) : Option (El Y4) := evalF (mkE tyTab mapTab pkTab [] [] F_ref26_ValidIDM 59) (codeOf Try.f42) Try.f42.results F_ref26_ValidIDH F_ref26_ValidIDA F_ref26_ValidIDR (fun y => y.2.1) (a0, ())
theorem F_ref26_ValidID_eq (a0 : El Y9) : F_ref26_ValidIDV a0 = F_ref26_ValidID a0 := by kernel_rfl
theorem F_ref26_ValidID_ok : FnOK Try.prog 42 F_ref26_ValidIDS := fnOK_of (m := F_ref26_ValidIDM) (fn := Try.f42) (hint := F_ref26_ValidIDH) (pack := fun y => y.2.1) hmix tab_ok trivial fun x z h => (F_ref26_ValidID_eq x.1).trans h
noncomputable def F_ref26_in : (El Y3) → (El Y3) → (El Y3) → Option (El Y4) := fun a0 a1 a2 => Option.bind (bif decide (a1 ≤ a0) then some (decide (a0 ≤ a2)) else some false) fun x0 => some x0
abbrev F_ref26_inA : Pats := (.cons (.pd Y3) (.cons (.pd Y3) (.cons (.pd Y3) .nil)))
abbrev F_ref26_inR : Pats := (.cons (.pd Y4) .nil)
noncomputable def F_ref26_inS : Tr.Spec := { args := F_ref26_inA, res := F_ref26_inR, fns := [], α := El Y4, f := fun x => F_ref26_in x.1 x.2.1 x.2.2.1, unp := fun z => (((), (), (), ()), (z, ())) }
noncomputable def F_ref26_inM : List (Nat × List Tr.Spec) := []
def F_ref26_inH : Hint := (.seq .leaf (.seq (.reg [(6, Y4)]) .leaf))
noncomputable def F_ref26_inV (a0 : El Y3) (a1 : El Y3) (a2 : El Y3) : Option (El Y4) := evalF (mkE tyTab mapTab pkTab [] [] F_ref26_inM 15) (codeOf Try.f43) Try.f43.results F_ref26_inH F_ref26_inA F_ref26_inR (fun y => y.2.1) (a0, a1, a2, ())
theorem F_ref26_in_eq (a0 : El Y3) (a1 : El Y3) (a2 : El Y3) : F_ref26_inV a0 a1 a2 = F_ref26_in a0 a1 a2 := by kernel_rfl
theorem F_ref26_in_ok : FnOK Try.prog 43 F_ref26_inS := fnOK_of (m := F_ref26_inM) (fn := Try.f43) (hint := F_ref26_inH) (pack := fun y => y.2.1) hmix tab_ok trivial fun x z h => (F_ref26_in_eq x.1 x.2.1 x.2.2.1).trans h
noncomputable def F_ref26_stops : (El Y31) → Option (El Y3 × El Y42) := fun a0 =>
 bif decide ((64 : Int) < (↑(List.length a0) : Int)) then some ((0 : Int), (5 : Int))
 else
 Option.bind
 (Tr.run
 (fun s0 =>
 bif decide (s0 < (↑(List.length a0) : Int)) then
 Option.bind (idx a0 s0) fun x1 =>
 Option.bind (F_ref26_ValidID x1.1) fun x2 =>
 bif !x2 then some (.inr (.inr (s0, (12 : Int))))
 else
 Option.bind
 (Tr.run
 (fun s3 =>
 bif decide (s3 < s0) then
 Option.bind (idx a0 s3) fun x4 =>
 Option.bind (idx a0 s0) fun x5 =>
 bif decide (x4.1 = x5.1) then some (.inr (.inr (s0, (6 : Int)))) else some (.inl (IntKind.wrap .i64 (s3 + (1 : Int))))
 else some (.inr (.inl ())))
 (0 : Int))
 fun x6 =>
 Sum.elim
 (fun _ =>
 Option.bind
 (Option.bind (idx a0 s0) fun x8 =>
 Option.bind (F_ref26_in x8.2.1 (0 : Int) (15 : Int)) fun x9 =>
 bif !x9 then some true
 else Option.bind (idx a0 s0) fun x10 => Option.bind (F_ref26_in x10.2.2.2.1 (0 : Int) (3600 : Int)) fun x11 => some !x11)
 fun x12 => bif x12 then some (.inr (.inr (s0, (2 : Int)))) else some (.inl (IntKind.wrap .i64 (s0 + (1 : Int)))))
 (fun y13 => some (.inr (.inr (y13.1, y13.2)))) x6
 else some (.inr (.inl ())))
 (0 : Int))
 fun x14 => Sum.elim (fun _ => some ((0 : Int), (0 : Int))) (fun y16 => some (y16.1, y16.2)) x14
abbrev F_ref26_stopsA : Pats := (.cons (.pd Y31) .nil)
abbrev F_ref26_stopsR : Pats := (.cons (.pd Y3) (.cons (.pd Y42) .nil))
noncomputable def F_ref26_stopsS : Tr.Spec := { args := F_ref26_stopsA, res := F_ref26_stopsR, fns := [], α := El Y3 × El Y42, f := fun x => F_ref26_stops x.1, unp := fun z => (((), ()), (z.1, z.2, ())) }
noncomputable def F_ref26_stopsM : List (Nat × List Tr.Spec) := [(42, [F_ref26_ValidIDS]), (43, [F_ref26_inS])]
def F_ref26_stopsH : Hint := (.seq .leaf (.seq .leaf (.seq (.seq .leaf (.lp ⟨[(4, (.pd Y3))], [], [0], []⟩ [((.exit 0), ⟨[], [], [], []⟩), (.ret, ⟨[(2, (.pd Y3)), (3, (.pd Y42))], [], [], []⟩)] (.seq .leaf (.seq (.seq .leaf (.seq (.seq .leaf (.lp ⟨[(5, (.pd Y3))], [], [0, 4], []⟩ [((.exit 2), ⟨[], [], [0, 4], []⟩), (.ret, ⟨[(2, (.pd Y3)), (3, (.pd Y42))], [], [], []⟩)] .leaf)) (.seq (.reg [(55, Y4)]) .leaf))) .leaf)))) .leaf)))
noncomputable def F_ref26_stopsV (a0 : El Y31) : Option (El Y3 × El Y42) := evalF (mkE tyTab mapTab pkTab [] [] F_ref26_stopsM 57) (codeOf Try.f26) Try.f26.results F_ref26_stopsH F_ref26_stopsA F_ref26_stopsR (fun y => (y.2.1, y.2.2.1)) (a0, ())
theorem F_ref26_stops_eq (a0 : El Y31) : F_ref26_stopsV a0 = F_ref26_stops a0 := by kernel_rfl
theorem F_ref26_stops_ok : FnOK Try.prog 26 F_ref26_stopsS := fnOK_of (m := F_ref26_stopsM) (fn := Try.f26) (hint := F_ref26_stopsH) (pack := fun y => (y.2.1, y.2.2.1)) hmix tab_ok ⟨⟨F_ref26_ValidID_ok, trivial⟩, ⟨F_ref26_in_ok, trivial⟩, trivial⟩ fun x z h => (F_ref26_stops_eq x.1).trans h
noncomputable def F_ref26_routes : (El Y32) → Option (El Y3 × El Y42) := fun a0 =>
 bif decide ((64 : Int) < (↑(List.length a0) : Int)) then some ((0 : Int), (5 : Int))
 else
 Option.bind
 (Tr.run
 (fun s0 =>
 bif decide (s0 < (↑(List.length a0) : Int)) then
 Option.bind (idx a0 s0) fun x1 =>
 Option.bind (F_ref26_ValidID x1.1) fun x2 =>
 bif !x2 then some (.inr (.inr (s0, (12 : Int))))
 else
 Option.bind
 (Tr.run
 (fun s3 =>
 bif decide (s3 < s0) then
 Option.bind (idx a0 s3) fun x4 =>
 Option.bind (idx a0 s0) fun x5 =>
 bif decide (x4.1 = x5.1) then some (.inr (.inr (s0, (6 : Int)))) else some (.inl (IntKind.wrap .i64 (s3 + (1 : Int))))
 else some (.inr (.inl ())))
 (0 : Int))
 fun x6 =>
 Sum.elim
 (fun _ =>
 Option.bind (idx a0 s0) fun x8 =>
 Option.bind (F_ref26_in x8.2.1 (0 : Int) (7 : Int)) fun x9 =>
 bif !x9 then some (.inr (.inr (s0, (2 : Int)))) else some (.inl (IntKind.wrap .i64 (s0 + (1 : Int)))))
 (fun y10 => some (.inr (.inr (y10.1, y10.2)))) x6
 else some (.inr (.inl ())))
 (0 : Int))
 fun x11 => Sum.elim (fun _ => some ((0 : Int), (0 : Int))) (fun y13 => some (y13.1, y13.2)) x11
abbrev F_ref26_routesA : Pats := (.cons (.pd Y32) .nil)
abbrev F_ref26_routesR : Pats := (.cons (.pd Y3) (.cons (.pd Y42) .nil))
noncomputable def F_ref26_routesS : Tr.Spec := { args := F_ref26_routesA, res := F_ref26_routesR, fns := [], α := El Y3 × El Y42, f := fun x => F_ref26_routes x.1, unp := fun z => (((), ()), (z.1, z.2, ())) }
noncomputable def F_ref26_routesM : List (Nat × List Tr.Spec) := [(42, [F_ref26_ValidIDS]), (43, [F_ref26_inS])]
def F_ref26_routesH : Hint := (.seq .leaf (.seq .leaf (.seq (.seq .leaf (.lp ⟨[(4, (.pd Y3))], [], [0], []⟩ [((.exit 0), ⟨[], [], [], []⟩), (.ret, ⟨[(2, (.pd Y3)), (3, (.pd Y42))], [], [], []⟩)] (.seq .leaf (.seq (.seq .leaf (.seq (.seq .leaf (.lp ⟨[(5, (.pd Y3))], [], [0, 4], []⟩ [((.exit 2), ⟨[], [], [0, 4], []⟩), (.ret, ⟨[(2, (.pd Y3)), (3, (.pd Y42))], [], [], []⟩)] .leaf)) .leaf)) .leaf)))) .leaf)))
noncomputable def F_ref26_routesV (a0 : El Y32) : Option (El Y3 × El Y42) := evalF (mkE tyTab mapTab pkTab [] [] F_ref26_routesM 48) (codeOf Try.f27) Try.f27.results F_ref26_routesH F_ref26_routesA F_ref26_routesR (fun y => (y.2.1, y.2.2.1)) (a0, ())
theorem F_ref26_routes_eq (a0 : El Y32) : F_ref26_routesV a0 = F_ref26_routes a0 := by kernel_rfl
theorem F_ref26_routes_ok : FnOK Try.prog 27 F_ref26_routesS := fnOK_of (m := F_ref26_routesM) (fn := Try.f27) (hint := F_ref26_routesH) (pack := fun y => (y.2.1, y.2.2.1)) hmix tab_ok ⟨⟨F_ref26_ValidID_ok, trivial⟩, ⟨F_ref26_in_ok, trivial⟩, trivial⟩ fun x z h => (F_ref26_routes_eq x.1).trans h
noncomputable def F_ref26_Calls : (El Y46) → (El Y3) → (El Y3) → (El Y3) → Option (El Y42) := fun a0 a1 a2 a3 =>
 Option.bind (bif decide ((↑(List.length a0) : Int) < (2 : Int)) then some true else some (decide ((32 : Int) < (↑(List.length a0) : Int)))) fun x0 =>
 bif x0 then some (5 : Int)
 else
 Option.bind
 (Tr.run
 (fun s1 =>
 bif decide (s1 < (↑(List.length a0) : Int)) then
 Option.bind (idx a0 s1) fun x2 =>
 Option.bind (bif decide (x2.1 < (0 : Int)) then some true else some (decide (a1 ≤ x2.1))) fun x3 =>
 bif x3 then some (.inr (.inr (9 : Int)))
 else
 Option.bind
 (bif decide ((0 : Int) < s1) then Option.bind (idx a0 (IntKind.wrap .i64 (s1 - (1 : Int)))) fun x4 => some (decide (x4.1 = x2.1))
 else some false)
 fun x5 =>
 bif x5 then some (.inr (.inr (13 : Int)))
 else
 Option.bind
 (bif decide (x2.2.1 < a2) then some true
 else
 bif decide (x2.2.2.1 < x2.2.1) then some true
 else
 bif decide (a3 < x2.2.2.1) then some true
 else
 bif decide ((0 : Int) < s1) then
 Option.bind (idx a0 (IntKind.wrap .i64 (s1 - (1 : Int)))) fun x6 => some (decide (x2.2.1 < x6.2.2.1))
 else some false)
 fun x7 => bif x7 then some (.inr (.inr (10 : Int))) else some (.inl (IntKind.wrap .i64 (s1 + (1 : Int))))
 else some (.inr (.inl ())))
 (0 : Int))
 fun x8 => Sum.elim (fun _ => some (0 : Int)) (fun y10 => some y10) x8
abbrev F_ref26_CallsA : Pats := (.cons (.pd Y46) (.cons (.pd Y3) (.cons (.pd Y3) (.cons (.pd Y3) .nil))))
abbrev F_ref26_CallsR : Pats := (.cons (.pd Y42) .nil)
noncomputable def F_ref26_CallsS : Tr.Spec := { args := F_ref26_CallsA, res := F_ref26_CallsR, fns := [], α := El Y42, f := fun x => F_ref26_Calls x.1 x.2.1 x.2.2.1 x.2.2.2.1, unp := fun z => (((), (), (), (), ()), (z, ())) }
noncomputable def F_ref26_CallsM : List (Nat × List Tr.Spec) := []
def F_ref26_CallsH : Hint := (.seq .leaf (.seq (.seq (.reg [(18, Y4)]) .leaf) (.seq (.seq .leaf (.lp ⟨[(9, (.pd Y3))], [], [0, 1, 2, 3], []⟩ [((.exit 0), ⟨[], [], [], []⟩), (.ret, ⟨[(8, (.pd Y42))], [], [], []⟩)] (.seq .leaf (.seq (.seq .leaf (.seq (.seq (.reg [(37, Y4)]) .leaf) (.seq (.seq (.reg [(50, Y4)]) .leaf) (.seq (.reg [(82, Y4)]) .leaf)))) .leaf)))) .leaf)))
noncomputable def F_ref26_CallsV (a0 : El Y46) (a1 : El Y3) (a2 : El Y3) (a3 : El Y3) : Option (El Y42) := evalF (mkE tyTab mapTab pkTab [] [] F_ref26_CallsM 83) (codeOf Try.f44) Try.f44.results F_ref26_CallsH F_ref26_CallsA F_ref26_CallsR (fun y => y.2.1) (a0, a1, a2, a3, ())
theorem F_ref26_Calls_eq (a0 : El Y46) (a1 : El Y3) (a2 : El Y3) (a3 : El Y3) : F_ref26_CallsV a0 a1 a2 a3 = F_ref26_Calls a0 a1 a2 a3 := by kernel_rfl
theorem F_ref26_Calls_ok : FnOK Try.prog 44 F_ref26_CallsS := fnOK_of (m := F_ref26_CallsM) (fn := Try.f44) (hint := F_ref26_CallsH) (pack := fun y => y.2.1) hmix tab_ok trivial fun x z h => (F_ref26_Calls_eq x.1 x.2.1 x.2.2.1 x.2.2.2.1).trans h
noncomputable def F_ref26_run : (El Y40) → (El Y3) → Option (El Y42) := fun a0 a1 =>
 Option.bind (idx a0.2.2.1 a1) fun x0 =>
 Option.bind (F_ref26_ValidID x0.2.2.2.1) fun x1 =>
 bif !x1 then some (12 : Int)
 else
 Option.bind (bif decide (x0.1 < (-1 : Int)) then some true else some (decide (x0.2.2.1 < (0 : Int)))) fun x2 =>
 bif x2 then some (2 : Int)
 else
 Option.bind (F_ref26_in x0.2.1 (0 : Int) (36524 : Int)) fun x3 =>
 bif !x3 then some (11 : Int)
 else
 Option.bind
 (bif decide (x0.2.2.2.2.1 < (0 : Int)) then some true
 else some (decide ((↑(List.length a0.2.1) : Int) ≤ x0.2.2.2.2.1)))
 fun x4 =>
 bif x4 then some (9 : Int)
 else
 Option.bind (F_ref26_Calls x0.2.2.2.2.2.2.2.1 (↑(List.length a0.1) : Int) (0 : Int) (3155932800 : Int)) fun x5 =>
 bif !decide (x5 = (0 : Int)) then some x5
 else
 Option.bind
 (Tr.run
 (fun s6 =>
 bif decide (s6 < a1) then
 Option.bind (idx a0.2.2.1 s6) fun x7 =>
 Option.bind
 (bif decide (x7.2.2.2.1 = x0.2.2.2.1) then
 bif decide (x7.2.1 = x0.2.1) then some (decide (x7.2.2.1 = x0.2.2.1)) else some false
 else some false)
 fun x8 => bif x8 then some (.inr (.inr (6 : Int))) else some (.inl (IntKind.wrap .i64 (s6 + (1 : Int))))
 else some (.inr (.inl ())))
 (0 : Int))
 fun x9 => Sum.elim (fun _ => some (0 : Int)) (fun y11 => some y11) x9
abbrev F_ref26_runA : Pats := (.cons (.pd Y40) (.cons (.pd Y3) .nil))
abbrev F_ref26_runR : Pats := (.cons (.pd Y42) .nil)
noncomputable def F_ref26_runS : Tr.Spec := { args := F_ref26_runA, res := F_ref26_runR, fns := [], α := El Y42, f := fun x => F_ref26_run x.1 x.2.1, unp := fun z => (((), (), ()), (z, ())) }
noncomputable def F_ref26_runM : List (Nat × List Tr.Spec) := [(42, [F_ref26_ValidIDS]), (43, [F_ref26_inS]), (44, [F_ref26_CallsS])]
def F_ref26_runH : Hint := (.seq .leaf (.seq .leaf (.seq .leaf (.seq (.seq (.reg [(25, Y4)]) .leaf) (.seq .leaf (.seq (.seq (.reg [(40, Y4)]) .leaf) (.seq .leaf (.seq .leaf (.seq (.seq .leaf (.lp ⟨[(7, (.pd Y3))], [], [1, 2, 5], []⟩ [((.exit 0), ⟨[], [], [], []⟩), (.ret, ⟨[(4, (.pd Y42))], [], [], []⟩)] (.seq .leaf (.seq (.seq .leaf (.seq (.reg [(78, Y4)]) .leaf)) .leaf)))) .leaf)))))))))
noncomputable def F_ref26_runV (a0 : El Y40) (a1 : El Y3) : Option (El Y42) := evalF (mkE tyTab mapTab pkTab [] [] F_ref26_runM 79) (codeOf Try.f28) Try.f28.results F_ref26_runH F_ref26_runA F_ref26_runR (fun y => y.2.1) (a0, a1, ())
theorem F_ref26_run_eq (a0 : El Y40) (a1 : El Y3) : F_ref26_runV a0 a1 = F_ref26_run a0 a1 := by kernel_rfl
theorem F_ref26_run_ok : FnOK Try.prog 28 F_ref26_runS := fnOK_of (m := F_ref26_runM) (fn := Try.f28) (hint := F_ref26_runH) (pack := fun y => y.2.1) hmix tab_ok ⟨⟨F_ref26_ValidID_ok, trivial⟩, ⟨F_ref26_in_ok, trivial⟩, ⟨F_ref26_Calls_ok, trivial⟩, trivial⟩ fun x z h => (F_ref26_run_eq x.1 x.2.1).trans h
noncomputable def F_ref26_leads : (El Y40) → (El Y3) → (El Y3) → (El Y3) → Option (El Y4) := fun a0 a1 a2 a3 =>
 Option.bind
 (Tr.run
 (fun s0 =>
 bif decide (s0.2 ≤ a1) then
 Option.bind
 (Tr.run
 (fun s1 =>
 bif decide (s1.2 < a1) then
 Option.bind
 (Option.bind (idx a0.2.2.2.1 s1.2) fun x2 =>
 bif x2.2.2.2.2.1 then Option.bind (idx a0.2.2.2.1 s1.2) fun x3 => some (decide (x3.1 = s0.1)) else some false)
 fun x4 =>
 bif x4 then Option.bind (idx a0.2.2.2.1 s1.2) fun x5 => some (.inl (x5.2.2.1, IntKind.wrap .i64 (s1.2 + (1 : Int))))
 else some (.inl (s1.1, IntKind.wrap .i64 (s1.2 + (1 : Int))))
 else some (.inr s1.1))
 ((-1 : Int), (0 : Int)))
 fun x6 => bif decide (x6 = a3) then some (.inr (.inr true)) else some (.inl (x6, IntKind.wrap .i64 (s0.2 + (1 : Int))))
 else some (.inr (.inl ())))
 (a2, (0 : Int)))
 fun x7 => Sum.elim (fun _ => some false) (fun y9 => some y9) x7
abbrev F_ref26_leadsA : Pats := (.cons (.pd Y40) (.cons (.pd Y3) (.cons (.pd Y3) (.cons (.pd Y3) .nil))))
abbrev F_ref26_leadsR : Pats := (.cons (.pd Y4) .nil)
noncomputable def F_ref26_leadsS : Tr.Spec := { args := F_ref26_leadsA, res := F_ref26_leadsR, fns := [], α := El Y4, f := fun x => F_ref26_leads x.1 x.2.1 x.2.2.1 x.2.2.2.1, unp := fun z => (((), (), (), (), ()), (z, ())) }
noncomputable def F_ref26_leadsM : List (Nat × List Tr.Spec) := []
def F_ref26_leadsH : Hint := (.seq .leaf (.seq (.seq .leaf (.lp ⟨[(2, (.pd Y3)), (9, (.pd Y3))], [], [1, 3, 4], []⟩ [((.exit 0), ⟨[], [], [], []⟩), (.ret, ⟨[(8, (.pd Y4))], [], [], []⟩)] (.seq .leaf (.seq (.seq .leaf (.seq (.seq .leaf (.lp ⟨[(10, (.pd Y3)), (11, (.pd Y3))], [], [1, 2, 3, 4, 9], []⟩ [((.exit 2), ⟨[(10, (.pd Y3))], [], [1, 3, 4, 9], []⟩)] (.seq .leaf (.seq (.seq (.reg [(37, Y4)]) .leaf) .leaf)))) .leaf)) .leaf)))) .leaf))
noncomputable def F_ref26_leadsV (a0 : El Y40) (a1 : El Y3) (a2 : El Y3) (a3 : El Y3) : Option (El Y4) := evalF (mkE tyTab mapTab pkTab [] [] F_ref26_leadsM 48) (codeOf Try.f45) Try.f45.results F_ref26_leadsH F_ref26_leadsA F_ref26_leadsR (fun y => y.2.1) (a0, a1, a2, a3, ())
theorem F_ref26_leads_eq (a0 : El Y40) (a1 : El Y3) (a2 : El Y3) (a3 : El Y3) : F_ref26_leadsV a0 a1 a2 a3 = F_ref26_leads a0 a1 a2 a3 := by kernel_rfl
theorem F_ref26_leads_ok : FnOK Try.prog 45 F_ref26_leadsS := fnOK_of (m := F_ref26_leadsM) (fn := Try.f45) (hint := F_ref26_leadsH) (pack := fun y => y.2.1) hmix tab_ok trivial fun x z h => (F_ref26_leads_eq x.1 x.2.1 x.2.2.1 x.2.2.2.1).trans h
noncomputable def F_ref26_link : (El Y40) → (El Y3) → Option (El Y42) := fun a0 a1 =>
 Option.bind (idx a0.2.2.2.1 a1) fun x0 =>
 Option.bind
 (Option.bind (F_ref26_in x0.1 (0 : Int) (IntKind.wrap .i64 ((↑(List.length a0.2.2.1) : Int) - (1 : Int)))) fun x1 =>
 bif !x1 then some true
 else
 Option.bind (F_ref26_in x0.2.2.1 (0 : Int) (IntKind.wrap .i64 ((↑(List.length a0.2.2.1) : Int) - (1 : Int)))) fun x2 =>
 bif !x2 then some true else some (decide (x0.1 = x0.2.2.1)))
 fun x3 =>
 bif x3 then some (9 : Int)
 else
 Option.bind (idx a0.2.2.1 x0.1) fun x4 =>
 Option.bind (idx a0.2.2.1 x0.2.2.1) fun x5 =>
 Option.bind
 (Option.bind (F_ref26_in x0.2.1 (0 : Int) (IntKind.wrap .i64 ((↑(List.length x4.2.2.2.2.2.2.2.1) : Int) - (1 : Int)))) fun x6 =>
 bif !x6 then some true
 else
 Option.bind (F_ref26_in x0.2.2.2.1 (0 : Int) (IntKind.wrap .i64 ((↑(List.length x5.2.2.2.2.2.2.2.1) : Int) - (1 : Int)))) fun x7 =>
 some !x7)
 fun x8 =>
 bif x8 then some (9 : Int)
 else
 Option.bind (idx x4.2.2.2.2.2.2.2.1 x0.2.1) fun x9 =>
 Option.bind (idx x5.2.2.2.2.2.2.2.1 x0.2.2.2.1) fun x10 =>
 bif !decide (x9.1 = x10.1) then some (13 : Int)
 else
 Option.bind
 (bif x0.2.2.2.2.1 then
 bif !decide (x0.2.1 = IntKind.wrap .i64 ((↑(List.length x4.2.2.2.2.2.2.2.1) : Int) - (1 : Int))) then some true
 else some !decide (x0.2.2.2.1 = (0 : Int))
 else some false)
 fun x11 =>
 bif x11 then some (19 : Int)
 else
 Option.bind
 (Tr.run
 (fun s12 =>
 bif decide (s12 < a1) then
 Option.bind (idx a0.2.2.2.1 s12) fun x13 =>
 Option.bind
 (bif x0.2.2.2.2.1 then
 bif x13.2.2.2.2.1 then
 bif decide (x13.1 = x0.1) then some true else some (decide (x13.2.2.1 = x0.2.2.1))
 else some false
 else some false)
 fun x14 => bif x14 then some (.inr (.inr (19 : Int))) else some (.inl (IntKind.wrap .i64 (s12 + (1 : Int))))
 else some (.inr (.inl ())))
 (0 : Int))
 fun x15 =>
 Sum.elim
 (fun _ =>
 Option.bind (bif x0.2.2.2.2.1 then Option.bind (F_ref26_leads a0 a1 x0.2.2.1 x0.1) fun x17 => some x17 else some false) fun x18 =>
 bif x18 then some (19 : Int)
 else
 Option.bind
 (Tr.run
 (fun s19 =>
 bif decide (s19 < a1) then
 Option.bind (idx a0.2.2.2.1 s19) fun x20 =>
 Option.bind
 (bif decide (x20.1 = x0.1) then
 bif decide (x20.2.1 = x0.2.1) then
 bif decide (x20.2.2.1 = x0.2.2.1) then some (decide (x20.2.2.2.1 = x0.2.2.2.1))
 else some false
 else some false
 else some false)
 fun x21 => bif x21 then some (.inr (.inr (6 : Int))) else some (.inl (IntKind.wrap .i64 (s19 + (1 : Int))))
 else some (.inr (.inl ())))
 (0 : Int))
 fun x22 => Sum.elim (fun _ => some (0 : Int)) (fun y24 => some y24) x22)
 (fun y25 => some y25) x15
abbrev F_ref26_linkA : Pats := (.cons (.pd Y40) (.cons (.pd Y3) .nil))
abbrev F_ref26_linkR : Pats := (.cons (.pd Y42) .nil)
noncomputable def F_ref26_linkS : Tr.Spec := { args := F_ref26_linkA, res := F_ref26_linkR, fns := [], α := El Y42, f := fun x => F_ref26_link x.1 x.2.1, unp := fun z => (((), (), ()), (z, ())) }
noncomputable def F_ref26_linkM : List (Nat × List Tr.Spec) := [(43, [F_ref26_inS]), (45, [F_ref26_leadsS])]
def F_ref26_linkH : Hint := (.seq .leaf (.seq .leaf (.seq (.seq (.reg [(41, Y4)]) .leaf) (.seq .leaf (.seq (.seq (.reg [(71, Y4)]) .leaf) (.seq .leaf (.seq (.seq (.reg [(99, Y4)]) .leaf) (.seq (.seq .leaf (.lp ⟨[(8, (.pd Y3))], [], [1, 2, 5], []⟩ [((.exit 0), ⟨[], [], [1, 2, 5], []⟩), (.ret, ⟨[(4, (.pd Y42))], [], [], []⟩)] (.seq .leaf (.seq (.seq .leaf (.seq (.reg [(129, Y4)]) .leaf)) .leaf)))) (.seq (.seq (.reg [(140, Y4)]) .leaf) (.seq (.seq .leaf (.lp ⟨[(10, (.pd Y3))], [], [1, 2, 5], []⟩ [((.exit 2), ⟨[], [], [], []⟩), (.ret, ⟨[(4, (.pd Y42))], [], [], []⟩)] (.seq .leaf (.seq (.seq .leaf (.seq (.reg [(176, Y4)]) .leaf)) .leaf)))) .leaf))))))))))
noncomputable def F_ref26_linkV (a0 : El Y40) (a1 : El Y3) : Option (El Y42) := evalF (mkE tyTab mapTab pkTab [] [] F_ref26_linkM 177) (codeOf Try.f29) Try.f29.results F_ref26_linkH F_ref26_linkA F_ref26_linkR (fun y => y.2.1) (a0, a1, ())
theorem F_ref26_link_eq (a0 : El Y40) (a1 : El Y3) : F_ref26_linkV a0 a1 = F_ref26_link a0 a1 := by kernel_rfl
theorem F_ref26_link_ok : FnOK Try.prog 29 F_ref26_linkS := fnOK_of (m := F_ref26_linkM) (fn := Try.f29) (hint := F_ref26_linkH) (pack := fun y => y.2.1) hmix tab_ok ⟨⟨F_ref26_in_ok, trivial⟩, ⟨F_ref26_leads_ok, trivial⟩, trivial⟩ fun x z h => (F_ref26_link_eq x.1 x.2.1).trans h
noncomputable def F_ref26_Shortest : (El Y35) → (El Y3) → (El Y4) → Option (El Y116) := fun a0 a1 a2 =>
 Option.bind
 (Tr.run
 (fun s0 =>
 bif decide (s0.2 < a1) then
 Option.bind
 (Tr.run
 (fun s1 =>
 bif decide (s1.2.2 < a1) then
 Option.bind (guardB (decide (List.length s1.2.1 + List.length [(1099511627776 : Int)] ≤ maxApp))) fun _ =>
 some (.inl (s1.1, s1.2.1 ++ [(1099511627776 : Int)], IntKind.wrap .i64 (s1.2.2 + (1 : Int))))
 else some (.inr (s1.1, s1.2.1)))
 (s0.1, [], (0 : Int)))
 fun x3 =>
 Option.bind (guardB (decide (List.length x3.1 + List.length [x3.2] ≤ maxApp))) fun _ =>
 some (.inl (x3.1 ++ [x3.2], IntKind.wrap .i64 (s0.2 + (1 : Int))))
 else some (.inr s0.1))
 ([], (0 : Int)))
 fun x5 =>
 Option.bind
 (Tr.run
 (fun s6 =>
 bif decide (s6.2 < (↑(List.length a0) : Int)) then
 Option.bind (idx a0 s6.2) fun x7 =>
 Option.bind (bif x7.2.2.2.1 then some true else some !a2) fun x8 =>
 bif x8 then
 Option.bind (inb x7.1 (List.length s6.1)) fun x9 =>
 Option.bind s6.1[x9]? fun _ =>
 Option.bind (inb x7.1 (List.length s6.1)) fun x11 =>
 Option.bind s6.1[x11]? fun _ =>
 Option.bind (idx s6.1 (↑x11 : Int)) fun x13 =>
 Option.bind (inb x7.2.1 (List.length x13)) fun x14 =>
 Option.bind (idx s6.1 (↑x11 : Int)) fun x15 =>
 Option.bind x15[x14]? fun x16 =>
 Option.bind (idx s6.1 (↑x9 : Int)) fun x17 =>
 Option.bind (inb x7.2.1 (List.length x17)) fun x18 =>
 Option.bind (idx s6.1 (↑x9 : Int)) fun x19 =>
 Option.bind x19[x18]? fun _ =>
 some
 (.inl (List.set s6.1 (Int.toNat (↑x9 : Int)) (List.set x19 x18 (Tr.imin x16 x7.2.2.1)), IntKind.wrap .i64 (s6.2 + (1 : Int))))
 else some (.inl (s6.1, IntKind.wrap .i64 (s6.2 + (1 : Int))))
 else some (.inr s6.1))
 (x5, (0 : Int)))
 fun x21 =>
 Option.bind
 (Tr.run
 (fun s22 =>
 bif decide (s22.2 < a1) then
 Option.bind
 (Tr.run
 (fun s23 =>
 bif decide (s23.2 < a1) then
 Option.bind
 (Tr.run
 (fun s24 =>
 bif decide (s24.2 < a1) then
 Option.bind (inb s23.2 (List.length s24.1)) fun x25 =>
 Option.bind s24.1[x25]? fun _ =>
 Option.bind (inb s23.2 (List.length s24.1)) fun x27 =>
 Option.bind s24.1[x27]? fun _ =>
 Option.bind (idx s24.1 (↑x27 : Int)) fun x29 =>
 Option.bind (inb s24.2 (List.length x29)) fun x30 =>
 Option.bind (idx s24.1 (↑x27 : Int)) fun x31 =>
 Option.bind x31[x30]? fun x32 =>
 Option.bind (inb s23.2 (List.length s24.1)) fun x33 =>
 Option.bind s24.1[x33]? fun _ =>
 Option.bind (idx s24.1 (↑x33 : Int)) fun x35 =>
 Option.bind (inb s22.2 (List.length x35)) fun x36 =>
 Option.bind (idx s24.1 (↑x33 : Int)) fun x37 =>
 Option.bind x37[x36]? fun x38 =>
 Option.bind (inb s22.2 (List.length s24.1)) fun x39 =>
 Option.bind s24.1[x39]? fun _ =>
 Option.bind (idx s24.1 (↑x39 : Int)) fun x41 =>
 Option.bind (inb s24.2 (List.length x41)) fun x42 =>
 Option.bind (idx s24.1 (↑x39 : Int)) fun x43 =>
 Option.bind x43[x42]? fun x44 =>
 Option.bind (idx s24.1 (↑x25 : Int)) fun x45 =>
 Option.bind (inb s24.2 (List.length x45)) fun x46 =>
 Option.bind (idx s24.1 (↑x25 : Int)) fun x47 =>
 Option.bind x47[x46]? fun _ =>
 some
 (.inl
 (List.set s24.1 (Int.toNat (↑x25 : Int))
 (List.set x47 x46 (Tr.imin x32 (IntKind.wrap .i64 (x38 + x44)))),
 IntKind.wrap .i64 (s24.2 + (1 : Int))))
 else some (.inr s24.1))
 (s23.1, (0 : Int)))
 fun x49 => some (.inl (x49, IntKind.wrap .i64 (s23.2 + (1 : Int))))
 else some (.inr s23.1))
 (s22.1, (0 : Int)))
 fun x50 => some (.inl (x50, IntKind.wrap .i64 (s22.2 + (1 : Int))))
 else some (.inr s22.1))
 (x21, (0 : Int)))
 fun x51 => some x51
abbrev F_ref26_ShortestA : Pats := (.cons (.pd Y35) (.cons (.pd Y3) (.cons (.pd Y4) .nil)))
abbrev F_ref26_ShortestR : Pats := (.cons (.pd Y116) .nil)
noncomputable def F_ref26_ShortestS : Tr.Spec := { args := F_ref26_ShortestA, res := F_ref26_ShortestR, fns := [], α := El Y116, f := fun x => F_ref26_Shortest x.1 x.2.1 x.2.2.1, unp := fun z => (((), (), (), ()), (z, ())) }
noncomputable def F_ref26_ShortestM : List (Nat × List Tr.Spec) := []
def F_ref26_ShortestH : Hint := (.seq .leaf (.seq .leaf (.seq (.seq .leaf (.lp ⟨[(7, (.rows Y3 false)), (8, (.pd Y3))], [], [0, 1, 2], []⟩ [((.exit 0), ⟨[(7, (.rows Y3 false))], [], [0, 1, 2], []⟩)] (.seq .leaf (.seq (.seq .leaf (.seq (.seq .leaf (.lp ⟨[(7, (.rows Y3 false)), (9, (.own Y3 false)), (10, (.pd Y3))], [], [0, 1, 2, 8], []⟩ [((.exit 2), ⟨[(7, (.rows Y3 false)), (9, (.own Y3 false))], [], [0, 1, 2, 8], []⟩)] .leaf)) .leaf)) .leaf)))) (.seq (.seq .leaf (.lp ⟨[(7, (.rows Y3 false)), (11, (.pd Y3))], [], [0, 1, 2], []⟩ [((.exit 4), ⟨[(7, (.rows Y3 false))], [], [1], []⟩)] (.seq .leaf (.seq (.seq .leaf (.seq (.reg [(50, Y4)]) .leaf)) .leaf)))) (.seq (.seq .leaf (.lp ⟨[(7, (.rows Y3 false)), (13, (.pd Y3))], [], [1], []⟩ [((.exit 6), ⟨[(7, (.rows Y3 false))], [], [], []⟩)] (.seq .leaf (.seq (.seq .leaf (.lp ⟨[(7, (.rows Y3 false)), (14, (.pd Y3))], [], [1, 13], []⟩ [((.exit 8), ⟨[(7, (.rows Y3 false))], [], [1, 13], []⟩)] (.seq .leaf (.seq (.seq .leaf (.lp ⟨[(7, (.rows Y3 false)), (15, (.pd Y3))], [], [1, 13, 14], []⟩ [((.exit 10), ⟨[(7, (.rows Y3 false))], [], [1, 13, 14], []⟩)] .leaf)) .leaf)))) .leaf)))) .leaf)))))
noncomputable def F_ref26_ShortestV (a0 : El Y35) (a1 : El Y3) (a2 : El Y4) : Option (El Y116) := evalF (mkE tyTab mapTab pkTab [116] [] F_ref26_ShortestM 116) (codeOf Try.f64) Try.f64.results F_ref26_ShortestH F_ref26_ShortestA F_ref26_ShortestR (fun y => y.2.1) (a0, a1, a2, ())
theorem F_ref26_Shortest_eq (a0 : El Y35) (a1 : El Y3) (a2 : El Y4) : F_ref26_ShortestV a0 a1 a2 = F_ref26_Shortest a0 a1 a2 := by kernel_rfl
theorem F_ref26_Shortest_ok : FnOK Try.prog 64 F_ref26_ShortestS := fnOK_of (m := F_ref26_ShortestM) (fn := Try.f64) (hint := F_ref26_ShortestH) (pack := fun y => y.2.1) hmix tab_ok trivial fun x z h => (F_ref26_Shortest_eq x.1 x.2.1 x.2.2.1).trans h
noncomputable def F_ref26_Closed : (El Y35) → (El Y3) → Option (El Y35) := fun a0 a1 =>
 Option.bind (F_ref26_Shortest a0 a1 false) fun x0 =>
 Option.bind (F_ref26_Shortest a0 a1 true) fun x1 =>
 Option.bind
 (Tr.run
 (fun s2 =>
 bif decide (s2.2 < a1) then
 Option.bind
 (Tr.run
 (fun s3 =>
 bif decide (s3.2 < a1) then
 Option.bind
 (bif decide (s2.2 = s3.2) then some true
 else Option.bind (idx x0 s2.2) fun x4 => Option.bind (idx x4 s3.2) fun x5 => some (decide ((14400 : Int) < x5)))
 fun x6 =>
 bif x6 then some (.inl (s3.1, IntKind.wrap .i64 (s3.2 + (1 : Int))))
 else
 Option.bind (idx x0 s2.2) fun x7 =>
 Option.bind (idx x7 s3.2) fun x8 =>
 Option.bind (idx x1 s2.2) fun x9 =>
 Option.bind (idx x9 s3.2) fun x10 =>
 Option.bind (idx x0 s2.2) fun x11 =>
 Option.bind (idx x11 s3.2) fun x12 =>
 Option.bind (guardB (decide (List.length s3.1 + List.length [(s2.2, s3.2, x8, decide (x10 = x12), ())] ≤ maxApp))) fun _ =>
 Option.bind
 (Option.bind (idx x1 s2.2) fun x14 =>
 Option.bind (idx x14 s3.2) fun x15 =>
 Option.bind (idx x0 s2.2) fun x16 =>
 Option.bind (idx x16 s3.2) fun x17 =>
 bif decide (x17 < x15) then
 Option.bind (idx x1 s2.2) fun x18 => Option.bind (idx x18 s3.2) fun x19 => some (decide (x19 ≤ (14400 : Int)))
 else some false)
 fun x20 =>
 bif x20 then
 Option.bind (idx x1 s2.2) fun x21 =>
 Option.bind (idx x21 s3.2) fun x22 =>
 Option.bind
 (guardB
 (decide
 (List.length (s3.1 ++ [(s2.2, s3.2, x8, decide (x10 = x12), ())]) + List.length [(s2.2, s3.2, x22, true, ())] ≤
 maxApp)))
 fun _ =>
 some
 (.inl
 (s3.1 ++ [(s2.2, s3.2, x8, decide (x10 = x12), ())] ++ [(s2.2, s3.2, x22, true, ())],
 IntKind.wrap .i64 (s3.2 + (1 : Int))))
 else some (.inl (s3.1 ++ [(s2.2, s3.2, x8, decide (x10 = x12), ())], IntKind.wrap .i64 (s3.2 + (1 : Int))))
 else some (.inr s3.1))
 (s2.1, (0 : Int)))
 fun x24 => some (.inl (x24, IntKind.wrap .i64 (s2.2 + (1 : Int))))
 else some (.inr s2.1))
 ([], (0 : Int)))
 fun x25 => some x25
abbrev F_ref26_ClosedA : Pats := (.cons (.pd Y35) (.cons (.pd Y3) .nil))
abbrev F_ref26_ClosedR : Pats := (.cons (.pd Y35) .nil)
noncomputable def F_ref26_ClosedS : Tr.Spec := { args := F_ref26_ClosedA, res := F_ref26_ClosedR, fns := [], α := El Y35, f := fun x => F_ref26_Closed x.1 x.2.1, unp := fun z => (((), (), ()), (z, ())) }
noncomputable def F_ref26_ClosedM : List (Nat × List Tr.Spec) := [(64, [F_ref26_ShortestS])]
def F_ref26_ClosedH : Hint := (.seq .leaf (.seq .leaf (.seq .leaf (.seq (.seq .leaf (.lp ⟨[(7, (.own Y87 false)), (8, (.pd Y3))], [], [1, 5, 6], []⟩ [((.exit 0), ⟨[(7, (.own Y87 false))], [], [], []⟩)] (.seq .leaf (.seq (.seq .leaf (.lp ⟨[(7, (.own Y87 false)), (9, (.pd Y3))], [], [1, 5, 6, 8], []⟩ [((.exit 2), ⟨[(7, (.own Y87 false))], [], [1, 5, 6, 8], []⟩)] (.seq .leaf (.seq (.seq (.seq (.reg [(39, Y4)]) .leaf) (.seq .leaf (.seq (.reg [(92, Y4)]) .leaf))) .leaf)))) .leaf)))) .leaf))))
noncomputable def F_ref26_ClosedV (a0 : El Y35) (a1 : El Y3) : Option (El Y35) := evalF (mkE tyTab mapTab pkTab [] [] F_ref26_ClosedM 107) (codeOf Try.f46) Try.f46.results F_ref26_ClosedH F_ref26_ClosedA F_ref26_ClosedR (fun y => y.2.1) (a0, a1, ())
theorem F_ref26_Closed_eq (a0 : El Y35) (a1 : El Y3) : F_ref26_ClosedV a0 a1 = F_ref26_Closed a0 a1 := by kernel_rfl
theorem F_ref26_Closed_ok : FnOK Try.prog 46 F_ref26_ClosedS := fnOK_of (m := F_ref26_ClosedM) (fn := Try.f46) (hint := F_ref26_ClosedH) (pack := fun y => y.2.1) hmix tab_ok ⟨⟨F_ref26_Shortest_ok, trivial⟩, trivial⟩ fun x z h => (F_ref26_Closed_eq x.1 x.2.1).trans h
noncomputable def F_ref26_paths : (El Y40) → Option (El Y3 × El Y42) := fun a0 =>
 Option.bind
 (Tr.run
 (fun s0 =>
 bif decide (s0 < (↑(List.length a0.2.2.2.2.1) : Int)) then
 Option.bind (idx a0.2.2.2.2.1 s0) fun x1 =>
 Option.bind
 (Option.bind (F_ref26_in x1.1 (0 : Int) (IntKind.wrap .i64 ((↑(List.length a0.1) : Int) - (1 : Int)))) fun x2 =>
 bif !x2 then some true
 else
 Option.bind (F_ref26_in x1.2.1 (0 : Int) (IntKind.wrap .i64 ((↑(List.length a0.1) : Int) - (1 : Int)))) fun x3 =>
 bif !x3 then some true else some (decide (x1.1 = x1.2.1)))
 fun x4 =>
 bif x4 then some (.inr (.inr (s0, (9 : Int))))
 else
 Option.bind (F_ref26_in x1.2.2.1 (1 : Int) (14400 : Int)) fun x5 =>
 bif !x5 then some (.inr (.inr (s0, (2 : Int))))
 else
 Option.bind
 (Tr.run
 (fun s6 =>
 bif decide (s6 < s0) then
 Option.bind (idx a0.2.2.2.2.1 s6) fun x7 =>
 Option.bind
 (bif decide (x7.1 = x1.1) then
 bif decide (x7.2.1 = x1.2.1) then some (x7.2.2.2.1 == x1.2.2.2.1) else some false
 else some false)
 fun x8 => bif x8 then some (.inr (.inr (s0, (6 : Int)))) else some (.inl (IntKind.wrap .i64 (s6 + (1 : Int))))
 else some (.inr (.inl ())))
 (0 : Int))
 fun x9 => Sum.elim (fun _ => some (.inl (IntKind.wrap .i64 (s0 + (1 : Int))))) (fun y11 => some (.inr (.inr (y11.1, y11.2)))) x9
 else some (.inr (.inl ())))
 (0 : Int))
 fun x12 =>
 Sum.elim
 (fun _ =>
 Option.bind (F_ref26_Closed a0.2.2.2.2.1 (↑(List.length a0.1) : Int)) fun x14 =>
 bif !decide ((↑(List.length x14) : Int) = (↑(List.length a0.2.2.2.2.1) : Int)) then some ((0 : Int), (18 : Int))
 else
 Option.bind
 (Tr.run
 (fun s15 =>
 bif decide (s15 < (↑(List.length x14) : Int)) then
 Option.bind (idx x14 s15) fun x16 =>
 Option.bind (idx a0.2.2.2.2.1 s15) fun x17 =>
 bif
 !(decide (x16.1 = x17.1) &&
 (decide (x16.2.1 = x17.2.1) && (decide (x16.2.2.1 = x17.2.2.1) && x16.2.2.2.1 == x17.2.2.2.1))) then
 some (.inr (.inr ((0 : Int), (18 : Int))))
 else some (.inl (IntKind.wrap .i64 (s15 + (1 : Int))))
 else some (.inr (.inl ())))
 (0 : Int))
 fun x18 => Sum.elim (fun _ => some ((0 : Int), (0 : Int))) (fun y20 => some (y20.1, y20.2)) x18)
 (fun y21 => some (y21.1, y21.2)) x12
abbrev F_ref26_pathsA : Pats := (.cons (.pd Y40) .nil)
abbrev F_ref26_pathsR : Pats := (.cons (.pd Y3) (.cons (.pd Y42) .nil))
noncomputable def F_ref26_pathsS : Tr.Spec := { args := F_ref26_pathsA, res := F_ref26_pathsR, fns := [], α := El Y3 × El Y42, f := fun x => F_ref26_paths x.1, unp := fun z => (((), ()), (z.1, z.2, ())) }
noncomputable def F_ref26_pathsM : List (Nat × List Tr.Spec) := [(43, [F_ref26_inS]), (46, [F_ref26_ClosedS])]
def F_ref26_pathsH : Hint := (.seq .leaf (.seq (.seq .leaf (.lp ⟨[(4, (.pd Y3))], [], [1], []⟩ [((.exit 0), ⟨[], [], [1], []⟩), (.ret, ⟨[(2, (.pd Y3)), (3, (.pd Y42))], [], [], []⟩)] (.seq .leaf (.seq (.seq .leaf (.seq (.seq (.reg [(46, Y4)]) .leaf) (.seq .leaf (.seq .leaf (.lp ⟨[(6, (.pd Y3))], [], [1, 4, 5], []⟩ [((.exit 2), ⟨[], [], [1, 4], []⟩), (.ret, ⟨[(2, (.pd Y3)), (3, (.pd Y42))], [], [], []⟩)] (.seq .leaf (.seq (.seq .leaf (.seq (.reg [(81, Y4)]) .leaf)) .leaf))))))) .leaf)))) (.seq .leaf (.seq .leaf (.seq (.seq .leaf (.lp ⟨[(9, (.pd Y3))], [], [1, 8], []⟩ [((.exit 4), ⟨[], [], [], []⟩), (.ret, ⟨[(2, (.pd Y3)), (3, (.pd Y42))], [], [], []⟩)] .leaf)) .leaf)))))
noncomputable def F_ref26_pathsV (a0 : El Y40) : Option (El Y3 × El Y42) := evalF (mkE tyTab mapTab pkTab [] [] F_ref26_pathsM 111) (codeOf Try.f30) Try.f30.results F_ref26_pathsH F_ref26_pathsA F_ref26_pathsR (fun y => (y.2.1, y.2.2.1)) (a0, ())
theorem F_ref26_paths_eq (a0 : El Y40) : F_ref26_pathsV a0 = F_ref26_paths a0 := by kernel_rfl
theorem F_ref26_paths_ok : FnOK Try.prog 30 F_ref26_pathsS := fnOK_of (m := F_ref26_pathsM) (fn := Try.f30) (hint := F_ref26_pathsH) (pack := fun y => (y.2.1, y.2.2.1)) hmix tab_ok ⟨⟨F_ref26_in_ok, trivial⟩, ⟨F_ref26_Closed_ok, trivial⟩, trivial⟩ fun x z h => (F_ref26_paths_eq x.1).trans h
noncomputable def F_ref26_Fares : (El Y38) → Option (El Y3 × El Y42) := fun a0 =>
 Option.bind
 (Option.bind (F_ref26_in a0.2.1 (0 : Int) (1000000 : Int)) fun x0 =>
 bif !x0 then some true
 else
 Option.bind (F_ref26_in a0.2.2.1 (0 : Int) (86400 : Int)) fun x1 =>
 bif !x1 then some true else Option.bind (F_ref26_in a0.2.2.2.1 (0 : Int) (1000000 : Int)) fun x2 => some !x2)
 fun x3 =>
 bif x3 then some ((-1 : Int), (2 : Int))
 else
 bif decide ((16 : Int) < (↑(List.length a0.1) : Int)) then some ((0 : Int), (5 : Int))
 else
 Option.bind
 (Tr.run
 (fun s4 =>
 bif decide (s4 < (↑(List.length a0.1) : Int)) then
 Option.bind (idx a0.1 s4) fun x5 =>
 Option.bind (F_ref26_ValidID x5.1) fun x6 =>
 bif !x6 then some (.inr (.inr (s4, (12 : Int))))
 else
 Option.bind
 (Tr.run
 (fun s7 =>
 bif decide (s7 < s4) then
 Option.bind (idx a0.1 s7) fun x8 =>
 bif decide (x8.1 = x5.1) then some (.inr (.inr (s4, (6 : Int)))) else some (.inl (IntKind.wrap .i64 (s7 + (1 : Int))))
 else some (.inr (.inl ())))
 (0 : Int))
 fun x9 =>
 Sum.elim
 (fun _ =>
 Option.bind
 (Option.bind (F_ref26_in x5.2.1 (0 : Int) (1000000 : Int)) fun x11 =>
 bif !x11 then some true
 else
 Option.bind (F_ref26_in x5.2.2.1 (1 : Int) (8 : Int)) fun x12 =>
 bif !x12 then some true
 else
 Option.bind (F_ref26_in x5.2.2.2.1 (1 : Int) (16 : Int)) fun x13 =>
 bif !x13 then some true
 else
 Option.bind (F_ref26_in x5.2.2.2.2.1 (0 : Int) (86400 : Int)) fun x14 =>
 bif !x14 then some true else Option.bind (F_ref26_in x5.2.2.2.2.2.1 (1 : Int) (255 : Int)) fun x15 => some !x15)
 fun x16 => bif x16 then some (.inr (.inr (s4, (2 : Int)))) else some (.inl (IntKind.wrap .i64 (s4 + (1 : Int)))))
 (fun y17 => some (.inr (.inr (y17.1, y17.2)))) x9
 else some (.inr (.inl ())))
 (0 : Int))
 fun x18 => Sum.elim (fun _ => some ((0 : Int), (0 : Int))) (fun y20 => some (y20.1, y20.2)) x18
abbrev F_ref26_FaresA : Pats := (.cons (.pd Y38) .nil)
abbrev F_ref26_FaresR : Pats := (.cons (.pd Y3) (.cons (.pd Y42) .nil))
noncomputable def F_ref26_FaresS : Tr.Spec := { args := F_ref26_FaresA, res := F_ref26_FaresR, fns := [], α := El Y3 × El Y42, f := fun x => F_ref26_Fares x.1, unp := fun z => (((), ()), (z.1, z.2, ())) }
noncomputable def F_ref26_FaresM : List (Nat × List Tr.Spec) := [(42, [F_ref26_ValidIDS]), (43, [F_ref26_inS])]
def F_ref26_FaresH : Hint := (.seq .leaf (.seq (.seq (.reg [(22, Y4)]) .leaf) (.seq .leaf (.seq (.seq .leaf (.lp ⟨[(4, (.pd Y3))], [], [1], []⟩ [((.exit 0), ⟨[], [], [], []⟩), (.ret, ⟨[(2, (.pd Y3)), (3, (.pd Y42))], [], [], []⟩)] (.seq .leaf (.seq (.seq .leaf (.seq .leaf (.seq (.seq .leaf (.lp ⟨[(6, (.pd Y3))], [], [1, 4, 5], []⟩ [((.exit 2), ⟨[], [], [1, 4, 5], []⟩), (.ret, ⟨[(2, (.pd Y3)), (3, (.pd Y42))], [], [], []⟩)] .leaf)) (.seq (.reg [(86, Y4)]) .leaf)))) .leaf)))) .leaf))))
noncomputable def F_ref26_FaresV (a0 : El Y38) : Option (El Y3 × El Y42) := evalF (mkE tyTab mapTab pkTab [] [] F_ref26_FaresM 88) (codeOf Try.f31) Try.f31.results F_ref26_FaresH F_ref26_FaresA F_ref26_FaresR (fun y => (y.2.1, y.2.2.1)) (a0, ())
theorem F_ref26_Fares_eq (a0 : El Y38) : F_ref26_FaresV a0 = F_ref26_Fares a0 := by kernel_rfl
theorem F_ref26_Fares_ok : FnOK Try.prog 31 F_ref26_FaresS := fnOK_of (m := F_ref26_FaresM) (fn := Try.f31) (hint := F_ref26_FaresH) (pack := fun y => (y.2.1, y.2.2.1)) hmix tab_ok ⟨⟨F_ref26_ValidID_ok, trivial⟩, ⟨F_ref26_in_ok, trivial⟩, trivial⟩ fun x z h => (F_ref26_Fares_eq x.1).trans h
noncomputable def F_ref26_Check : (El Y40) → Option (El Y3 × El Y3 × El Y42) := fun a0 =>
 Option.bind (F_ref26_stops a0.1) fun x0 =>
 bif !decide (x0.2 = (0 : Int)) then some ((0 : Int), x0.1, x0.2)
 else
 Option.bind (F_ref26_routes a0.2.1) fun x1 =>
 bif !decide (x1.2 = (0 : Int)) then some ((1 : Int), x1.1, x1.2)
 else
 bif decide ((1024 : Int) < (↑(List.length a0.2.2.1) : Int)) then some ((2 : Int), (0 : Int), (5 : Int))
 else
 Option.bind
 (Tr.run
 (fun s2 =>
 bif decide (s2 < (↑(List.length a0.2.2.1) : Int)) then
 Option.bind (F_ref26_run a0 s2) fun x3 =>
 bif !decide (x3 = (0 : Int)) then some (.inr (.inr ((2 : Int), s2, x3))) else some (.inl (IntKind.wrap .i64 (s2 + (1 : Int))))
 else some (.inr (.inl ())))
 (0 : Int))
 fun x4 =>
 Sum.elim
 (fun _ =>
 bif decide ((1024 : Int) < (↑(List.length a0.2.2.2.1) : Int)) then some ((3 : Int), (0 : Int), (5 : Int))
 else
 Option.bind
 (Tr.run
 (fun s6 =>
 bif decide (s6 < (↑(List.length a0.2.2.2.1) : Int)) then
 Option.bind (F_ref26_link a0 s6) fun x7 =>
 bif !decide (x7 = (0 : Int)) then some (.inr (.inr ((3 : Int), s6, x7)))
 else some (.inl (IntKind.wrap .i64 (s6 + (1 : Int))))
 else some (.inr (.inl ())))
 (0 : Int))
 fun x8 =>
 Sum.elim
 (fun _ =>
 Option.bind (F_ref26_paths a0) fun x10 =>
 bif !decide (x10.2 = (0 : Int)) then some ((4 : Int), x10.1, x10.2)
 else
 Option.bind (F_ref26_Fares a0.2.2.2.2.2.1) fun x11 =>
 bif !decide (x11.2 = (0 : Int)) then some ((5 : Int), x11.1, x11.2) else some ((0 : Int), (0 : Int), (0 : Int)))
 (fun y12 => some (y12.1, y12.2.1, y12.2.2)) x8)
 (fun y13 => some (y13.1, y13.2.1, y13.2.2)) x4
abbrev F_ref26_CheckA : Pats := (.cons (.pd Y40) .nil)
abbrev F_ref26_CheckR : Pats := (.cons (.pd Y3) (.cons (.pd Y3) (.cons (.pd Y42) .nil)))
noncomputable def F_ref26_CheckS : Tr.Spec := { args := F_ref26_CheckA, res := F_ref26_CheckR, fns := [], α := El Y3 × El Y3 × El Y42, f := fun x => F_ref26_Check x.1, unp := fun z => (((), ()), (z.1, z.2.1, z.2.2, ())) }
noncomputable def F_ref26_CheckM : List (Nat × List Tr.Spec) := [(26, [F_ref26_stopsS]), (27, [F_ref26_routesS]), (28, [F_ref26_runS]), (29, [F_ref26_linkS]), (30, [F_ref26_pathsS]), (31, [F_ref26_FaresS])]
def F_ref26_CheckH : Hint := (.seq .leaf (.seq .leaf (.seq .leaf (.seq .leaf (.seq .leaf (.seq .leaf (.seq (.seq .leaf (.lp ⟨[(7, (.pd Y3))], [], [1], []⟩ [((.exit 0), ⟨[], [], [1], []⟩), (.ret, ⟨[(2, (.pd Y3)), (3, (.pd Y3)), (4, (.pd Y42))], [], [], []⟩)] .leaf)) (.seq .leaf (.seq (.seq .leaf (.lp ⟨[(8, (.pd Y3))], [], [1], []⟩ [((.exit 2), ⟨[], [], [1], []⟩), (.ret, ⟨[(2, (.pd Y3)), (3, (.pd Y3)), (4, (.pd Y42))], [], [], []⟩)] .leaf)) .leaf)))))))))
noncomputable def F_ref26_CheckV (a0 : El Y40) : Option (El Y3 × El Y3 × El Y42) := evalF (mkE tyTab mapTab pkTab [] [] F_ref26_CheckM 84) (codeOf Try.f23) Try.f23.results F_ref26_CheckH F_ref26_CheckA F_ref26_CheckR (fun y => (y.2.1, y.2.2.1, y.2.2.2.1)) (a0, ())
theorem F_ref26_Check_eq (a0 : El Y40) : F_ref26_CheckV a0 = F_ref26_Check a0 := by kernel_rfl
theorem F_ref26_Check_ok : FnOK Try.prog 23 F_ref26_CheckS := fnOK_of (m := F_ref26_CheckM) (fn := Try.f23) (hint := F_ref26_CheckH) (pack := fun y => (y.2.1, y.2.2.1, y.2.2.2.1)) hmix tab_ok ⟨⟨F_ref26_stops_ok, trivial⟩, ⟨F_ref26_routes_ok, trivial⟩, ⟨F_ref26_run_ok, trivial⟩, ⟨F_ref26_link_ok, trivial⟩, ⟨F_ref26_paths_ok, trivial⟩, ⟨F_ref26_Fares_ok, trivial⟩, trivial⟩ fun x z h => (F_ref26_Check_eq x.1).trans h
noncomputable def F_ref26_Valid : (El Y40) → Option (El Y4) := fun a0 => Option.bind (F_ref26_Check a0) fun x0 => some (decide (x0.2.2 = (0 : Int)))
abbrev F_ref26_ValidA : Pats := (.cons (.pd Y40) .nil)
abbrev F_ref26_ValidR : Pats := (.cons (.pd Y4) .nil)
noncomputable def F_ref26_ValidS : Tr.Spec := { args := F_ref26_ValidA, res := F_ref26_ValidR, fns := [], α := El Y4, f := fun x => F_ref26_Valid x.1, unp := fun z => (((), ()), (z, ())) }
noncomputable def F_ref26_ValidM : List (Nat × List Tr.Spec) := [(23, [F_ref26_CheckS])]
def F_ref26_ValidH : Hint := .leaf
noncomputable def F_ref26_ValidV (a0 : El Y40) : Option (El Y4) := evalF (mkE tyTab mapTab pkTab [] [] F_ref26_ValidM 14) (codeOf Try.f16) Try.f16.results F_ref26_ValidH F_ref26_ValidA F_ref26_ValidR (fun y => y.2.1) (a0, ())
theorem F_ref26_Valid_eq (a0 : El Y40) : F_ref26_ValidV a0 = F_ref26_Valid a0 := by kernel_rfl
theorem F_ref26_Valid_ok : FnOK Try.prog 16 F_ref26_ValidS := fnOK_of (m := F_ref26_ValidM) (fn := Try.f16) (hint := F_ref26_ValidH) (pack := fun y => y.2.1) hmix tab_ok ⟨⟨F_ref26_Check_ok, trivial⟩, trivial⟩ fun x z h => (F_ref26_Valid_eq x.1).trans h
noncomputable def F_law28_ConnectionOrder : (El Y40) → Option (El Y4) := fun a0 =>
 Option.bind (Option.bind (F_ref28_Large a0) fun x0 => bif x0 then some true else Option.bind (F_ref26_Valid a0) fun x1 => some !x1) fun x2 =>
 bif x2 then Option.bind F_law28_exampleHolds fun x3 => some x3
 else
 Option.bind (F_connection_List a0) fun x4 =>
 bif !decide (x4.2 = (0 : Int)) then some false
 else
 Option.bind
 (guardB
 (decide
 ((0 : Tr.El (Tr.Ty.int .i64)) ≤ (↑(List.length a0.2.2.1) : Int) ∧
 (↑(List.length a0.2.2.1) : Int) ≤ (↑(List.length a0.2.2.1) : Int) ∧ (↑(List.length a0.2.2.1) : Int) ≤ (↑maxApp : Tr.El (Tr.Ty.int .i64)))))
 fun _ =>
 Option.bind
 (Tr.run
 (fun s6 =>
 bif decide (s6.2 < (↑(List.length x4.1) : Int)) then
 Option.bind (idx x4.1 s6.2) fun x7 =>
 Option.bind
 (bif decide ((0 : Int) < s6.2) then
 Option.bind (idx x4.1 (IntKind.wrap .i64 (s6.2 - (1 : Int)))) fun x8 =>
 Option.bind (F_connection_Compare x8 x7) fun x9 =>
 bif !decide (x9 = (-1 : Int)) then some true else some (decide (x7.2.2.2.2.2.1 < x7.2.2.2.2.1))
 else some (decide (x7.2.2.2.2.2.1 < x7.2.2.2.2.1)))
 fun x10 =>
 bif x10 then some (.inr (.inr false))
 else
 Option.bind
 (bif decide (x7.1 < (0 : Int)) then some true
 else
 bif decide ((↑(List.length a0.2.2.1) : Int) ≤ x7.1) then some true
 else
 Option.bind (idx a0.2.2.1 x7.1) fun x11 =>
 bif x11.2.2.2.2.2.2.1 then some true
 else
 Option.bind (inb x7.1 (List.length s6.1)) fun x12 =>
 Option.bind s6.1[x12]? fun x13 =>
 bif !decide (x7.2.1 = x13) then some true
 else
 Option.bind (idx a0.2.2.1 x7.1) fun x14 =>
 some (decide ((↑(List.length x14.2.2.2.2.2.2.2.1) : Int) ≤ IntKind.wrap .i64 (x7.2.1 + (1 : Int)))))
 fun x15 =>
 bif x15 then some (.inr (.inr false))
 else
 Option.bind (inb x7.1 (List.length s6.1)) fun x16 =>
 Option.bind s6.1[x16]? fun x17 =>
 Option.bind (inb x7.1 (List.length s6.1)) fun x18 =>
 Option.bind s6.1[x18]? fun _ =>
 Option.bind (idx a0.2.2.1 x7.1) fun x20 =>
 Option.bind (idx x20.2.2.2.2.2.2.2.1 x7.2.1) fun x21 =>
 Option.bind (idx a0.2.2.1 x7.1) fun x22 =>
 Option.bind (idx x22.2.2.2.2.2.2.2.1 (IntKind.wrap .i64 (x7.2.1 + (1 : Int)))) fun x23 =>
 Option.bind
 (bif !decide (x7.2.2.1 = x21.1) then some true
 else
 bif !decide (x7.2.2.2.1 = x23.1) then some true
 else
 bif !decide (x7.2.2.2.2.1 = x21.2.2.1) then some true
 else some !decide (x7.2.2.2.2.2.1 = x23.2.1))
 fun x24 =>
 bif x24 then some (.inr (.inr false))
 else some (.inl (List.set s6.1 x18 (IntKind.wrap .i64 (x17 + (1 : Int))), IntKind.wrap .i64 (s6.2 + (1 : Int))))
 else some (.inr (.inl s6.1)))
 (List.replicate (Int.toNat (↑(List.length a0.2.2.1) : Int)) ((0 : Int)), (0 : Int)))
 fun x25 =>
 Sum.elim
 (fun y26 =>
 Option.bind
 (Tr.run
 (fun s27 =>
 bif decide (s27 < (↑(List.length a0.2.2.1) : Int)) then
 Option.bind
 (Option.bind (idx a0.2.2.1 s27) fun x28 =>
 bif !x28.2.2.2.2.2.2.1 then
 Option.bind (inb s27 (List.length y26)) fun x29 =>
 Option.bind y26[x29]? fun x30 =>
 Option.bind (idx a0.2.2.1 s27) fun x31 =>
 some !decide (x30 = IntKind.wrap .i64 ((↑(List.length x31.2.2.2.2.2.2.2.1) : Int) - (1 : Int)))
 else some false)
 fun x32 => bif x32 then some (.inr (.inr false)) else some (.inl (IntKind.wrap .i64 (s27 + (1 : Int))))
 else some (.inr (.inl ())))
 (0 : Int))
 fun x33 => Sum.elim (fun _ => Option.bind F_law28_exampleHolds fun x35 => some x35) (fun y36 => some y36) x33)
 (fun y37 => some y37) x25
abbrev F_law28_ConnectionOrderA : Pats := (.cons (.pd Y40) .nil)
abbrev F_law28_ConnectionOrderR : Pats := (.cons (.pd Y4) .nil)
noncomputable def F_law28_ConnectionOrderS : Tr.Spec := { args := F_law28_ConnectionOrderA, res := F_law28_ConnectionOrderR, fns := [], α := El Y4, f := fun x => F_law28_ConnectionOrder x.1, unp := fun z => (((), ()), (z, ())) }
noncomputable def F_law28_ConnectionOrderM : List (Nat × List Tr.Spec) := [(7, [F_connection_CompareS]), (9, [F_law28_exampleHoldsS]), (15, [F_ref28_LargeS]), (16, [F_ref26_ValidS]), (17, [F_connection_ListS])]
def F_law28_ConnectionOrderH : Hint := (.seq .leaf (.seq (.seq (.reg [(17, Y4)]) .leaf) (.seq .leaf (.seq .leaf (.seq .leaf (.seq (.seq .leaf (.lp ⟨[(5, (.own Y3 false)), (6, (.pd Y3))], [], [1, 3], []⟩ [((.exit 0), ⟨[(5, (.own Y3 false))], [], [1], []⟩), (.ret, ⟨[(2, (.pd Y4))], [], [], []⟩)] (.seq .leaf (.seq (.seq .leaf (.seq (.seq (.reg [(58, Y4)]) .leaf) (.seq (.seq (.reg [(102, Y4)]) .leaf) (.seq .leaf (.seq .leaf (.seq (.reg [(158, Y4)]) .leaf)))))) .leaf)))) (.seq (.seq .leaf (.lp ⟨[(10, (.pd Y3))], [], [1, 5], []⟩ [((.exit 2), ⟨[], [], [], []⟩), (.ret, ⟨[(2, (.pd Y4))], [], [], []⟩)] (.seq .leaf (.seq (.seq (.reg [(187, Y4)]) .leaf) .leaf)))) .leaf)))))))
noncomputable def F_law28_ConnectionOrderV (a0 : El Y40) : Option (El Y4) := evalF (mkE tyTab mapTab pkTab [] [] F_law28_ConnectionOrderM 189) (codeOf Try.f5) Try.f5.results F_law28_ConnectionOrderH F_law28_ConnectionOrderA F_law28_ConnectionOrderR (fun y => y.2.1) (a0, ())
theorem F_law28_ConnectionOrder_eq (a0 : El Y40) : F_law28_ConnectionOrderV a0 = F_law28_ConnectionOrder a0 := by kernel_rfl
theorem F_law28_ConnectionOrder_ok : FnOK Try.prog 5 F_law28_ConnectionOrderS := fnOK_of (m := F_law28_ConnectionOrderM) (fn := Try.f5) (hint := F_law28_ConnectionOrderH) (pack := fun y => y.2.1) hmix tab_ok ⟨⟨F_connection_Compare_ok, trivial⟩, ⟨F_law28_exampleHolds_ok, trivial⟩, ⟨F_ref28_Large_ok, trivial⟩, ⟨F_ref26_Valid_ok, trivial⟩, ⟨F_connection_List_ok, trivial⟩, trivial⟩ fun x z h => (F_law28_ConnectionOrder_eq x.1).trans h
end Q
