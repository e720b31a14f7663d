/- The functions of the program as functions of Lean, and that the program computes them; printed by a program of mine. Conditions: none. -/
import Derived.Test.YtnnjgdobngfdoaaTsE
import Derived.KernelRfl
import Derived.Test.YtnnjgdobngfdoaaTtC
import Derived.Test.YtnnjgdobngfdoaaLay20
import Derived.Test.YtnnjgdobngfdoaaProg
open Tr Go Go.Proofs
namespace Q
/-- int -/
abbrev Y3 : Ty := .int .i64
/-- bool -/
abbrev Y4 : Ty := .bool
/-- api.Footpath -/
abbrev Y42 : Ty := .prod Y3 (.prod Y3 (.prod Y3 (.prod Y4 .unit)))
/-- []api.Footpath -/
abbrev Y22 : Ty := .sl Y42
/-- api.Errno -/
abbrev Y24 : Ty := .int .i64
/-- []int -/
abbrev Y39 : Ty := .sl Y3
/-- footpath.pair -/
abbrev Y50 : Ty := .prod Y3 (.prod Y3 (.prod Y4 .unit))
/-- map[footpath.pair]bool -/
abbrev Y48 : Ty := .ref
/-- [][]int -/
abbrev Y51 : Ty := .sl Y39
/-- map[footpath.pair]int -/
abbrev Y61 : Ty := .ref
/-- shortest.Edge -/
abbrev Y64 : Ty := .prod Y3 (.prod Y3 (.prod Y3 .unit))
/-- []shortest.Edge -/
abbrev Y62 : Ty := .sl Y64
/-- map[int][]shortest.Edge -/
abbrev Y82 : Ty := .ref
/-- shortest.label -/
abbrev Y99 : Ty := .prod Y3 (.prod Y3 (.prod Y3 .unit))
/-- []shortest.label -/
abbrev Y85 : Ty := .sl Y99
/-- func(shortest.label, shortest.label) bool -/
abbrev Y102 : Ty := .ref
/-- heap.node[transit/shortest.label] -/
abbrev Y114 : Ty := .prod Y99 (.prod Y3 .unit)
/-- []heap.node[transit/shortest.label] -/
abbrev Y110 : Ty := .sl Y114
/-- heap.Heap[transit/shortest.label] -/
abbrev Y112 : Ty := .prod Y102 (.prod Y110 (.prod Y3 .unit))
def tyTab : List (Nat × Ty) := [(3, Y3), (4, Y4), (42, Y42), (22, Y22), (24, Y24), (39, Y39), (50, Y50), (48, Y48), (51, Y51), (61, Y61), (64, Y64), (62, Y62), (82, Y82), (99, Y99), (85, Y85), (102, Y102), (114, Y114), (110, Y110), (112, Y112)]
def mapTab : List (Nat × Ty × Ty) := [(48, Y50, Y4), (61, Y50, Y3), (82, Y3, Y62)]
def pkTab : List (Nat × Nat) := [(100, 1), (102, 2)]
theorem hmix : Try.prog.follows .mixedOrders = true := by kernel_rfl
theorem tab_ok : tabOk Try.prog tyTab mapTab pkTab = true := by kernel_rfl
noncomputable def F_footpath_sound : (El Y22) → (El Y3) → Option (El Y3 × El Y24) := fun a0 a1 =>
 Option.bind
 (Tr.run
 (fun s0 =>
 bif decide (s0.2 < (↑(List.length a0) : Int)) then
 Option.bind (idx a0 s0.2) fun x1 =>
 Option.bind
 (bif decide (x1.1 < (0 : Int)) then some (decide (x1.1 < (0 : Int)))
 else
 Option.bind
 (bif decide (a1 ≤ x1.1) then some (decide (a1 ≤ x1.1))
 else
 Option.bind
 (bif decide (x1.2.1 < (0 : Int)) then some (decide (x1.2.1 < (0 : Int)))
 else
 Option.bind (bif decide (a1 ≤ x1.2.1) then some (decide (a1 ≤ x1.2.1)) else some (decide (x1.1 = x1.2.1))) fun x2 =>
 some x2)
 fun x3 => some x3)
 fun x4 => some x4)
 fun x5 =>
 bif x5 then some (.inr (.inr (s0.2, (9 : Int))))
 else
 Option.bind
 (bif decide (x1.2.2.1 < (1 : Int)) then some (decide (x1.2.2.1 < (1 : Int)))
 else some (decide ((14400 : Int) < x1.2.2.1)))
 fun x6 =>
 bif x6 then some (.inr (.inr (s0.2, (2 : Int))))
 else
 bif Option.getD (Tr.amGet (Tr.keyEq Y50) (x1.1, x1.2.1, x1.2.2.2.1, ()) s0.1) (false) then some (.inr (.inr (s0.2, (6 : Int))))
 else some (.inl (Tr.amSet (Tr.keyEq Y50) (x1.1, x1.2.1, x1.2.2.2.1, ()) true s0.1, IntKind.wrap .i64 (s0.2 + (1 : Int))))
 else some (.inr (.inl ())))
 ([], (0 : Int)))
 fun x7 => Sum.elim (fun _ => some ((0 : Int), (0 : Int))) (fun y9 => some (y9.1, y9.2)) x7
abbrev F_footpath_soundA : Pats := (.cons (.pd Y22) (.cons (.pd Y3) .nil))
abbrev F_footpath_soundR : Pats := (.cons (.pd Y3) (.cons (.pd Y24) .nil))
noncomputable def F_footpath_soundS : Tr.Spec := { args := F_footpath_soundA, res := F_footpath_soundR, fns := [], α := El Y3 × El Y24, f := fun x => F_footpath_sound x.1 x.2.1, unp := fun z => (((), (), ()), (z.1, z.2, ())) }
noncomputable def F_footpath_soundM : List (Nat × List Tr.Spec) := []
def F_footpath_soundH : Hint := (.seq .leaf (.seq .leaf (.seq (.seq .leaf (.lp ⟨[(6, (.map Y50 Y4)), (13, (.pd Y3))], [], [1, 11, 12], []⟩ [((.exit 0), ⟨[], [], [], []⟩), (.ret, ⟨[(4, (.pd Y3)), (5, (.pd Y24))], [], [], []⟩)] (.seq .leaf (.seq .leaf (.seq (.seq .leaf (.seq .leaf (.seq (.seq (.seq .leaf (.cnd (some (⟨[], [], [1, 6, 7, 8, 9, 11, 12, 13], []⟩, [(.normal, ⟨[(25, (.pd Y4))], [], [1, 6, 7, 8, 9, 11, 12, 13], []⟩)])) .leaf (.seq .leaf (.cnd (some (⟨[], [], [1, 6, 7, 8, 9, 11, 12, 13], []⟩, [(.normal, ⟨[(25, (.pd Y4))], [], [1, 6, 7, 8, 9, 11, 12, 13], []⟩)])) .leaf (.seq .leaf (.cnd (some (⟨[], [], [1, 6, 7, 8, 9, 11, 12, 13], []⟩, [(.normal, ⟨[(25, (.pd Y4))], [], [1, 6, 7, 8, 9, 11, 12, 13], []⟩)])) .leaf (.seq .leaf (.cnd (some (⟨[], [], [1, 6, 7, 8, 9, 11, 12, 13], []⟩, [(.normal, ⟨[(25, (.pd Y4))], [], [1, 6, 7, 8, 9, 11, 12, 13], []⟩)])) .leaf .leaf)))))))) (.cnd none .leaf (.seq (.seq .leaf (.cnd (some (⟨[], [], [1, 6, 7, 9, 11, 12, 13], []⟩, [(.normal, ⟨[(46, (.pd Y4))], [], [1, 6, 7, 9, 11, 12, 13], []⟩)])) .leaf .leaf)) .leaf))) .leaf))) .leaf))))) .leaf)))
noncomputable def F_footpath_soundV (a0 : El Y22) (a1 : El Y3) : Option (El Y3 × El Y24) := evalF (mkE tyTab mapTab pkTab [] [] F_footpath_soundM 62) (codeOf Try.f25) Try.f25.results F_footpath_soundH F_footpath_soundA F_footpath_soundR (fun y => (y.2.1, y.2.2.1)) (a0, a1, ())
theorem F_footpath_sound_eq (a0 : El Y22) (a1 : El Y3) : F_footpath_soundV a0 a1 = F_footpath_sound a0 a1 := by kernel_rfl
theorem F_footpath_sound_ok : FnOK Try.prog 25 F_footpath_soundS := fnOK_of (m := F_footpath_soundM) (fn := Try.f25) (hint := F_footpath_soundH) (pack := fun y => (y.2.1, y.2.2.1)) hmix tab_ok trivial fun x z h => (F_footpath_sound_eq x.1 x.2.1).trans h
noncomputable def F_footpath_Check : (El Y22) → (El Y3) → Option (El Y3 × El Y24) := fun a0 a1 => bif decide ((512 : Int) < (↑(List.length a0) : Int)) then some ((0 : Int), (5 : Int)) else Option.bind (F_footpath_sound a0 a1) fun x0 => some (x0.1, x0.2)
abbrev F_footpath_CheckA : Pats := (.cons (.pd Y22) (.cons (.pd Y3) .nil))
abbrev F_footpath_CheckR : Pats := (.cons (.pd Y3) (.cons (.pd Y24) .nil))
noncomputable def F_footpath_CheckS : Tr.Spec := { args := F_footpath_CheckA, res := F_footpath_CheckR, fns := [], α := El Y3 × El Y24, f := fun x => F_footpath_Check x.1 x.2.1, unp := fun z => (((), (), ()), (z.1, z.2, ())) }
noncomputable def F_footpath_CheckM : List (Nat × List Tr.Spec) := [(25, [F_footpath_soundS])]
def F_footpath_CheckH : Hint := .leaf
noncomputable def F_footpath_CheckV (a0 : El Y22) (a1 : El Y3) : Option (El Y3 × El Y24) := evalF (mkE tyTab mapTab pkTab [] [] F_footpath_CheckM 14) (codeOf Try.f12) Try.f12.results F_footpath_CheckH F_footpath_CheckA F_footpath_CheckR (fun y => (y.2.1, y.2.2.1)) (a0, a1, ())
theorem F_footpath_Check_eq (a0 : El Y22) (a1 : El Y3) : F_footpath_CheckV a0 a1 = F_footpath_Check a0 a1 := by kernel_rfl
theorem F_footpath_Check_ok : FnOK Try.prog 12 F_footpath_CheckS := fnOK_of (m := F_footpath_CheckM) (fn := Try.f12) (hint := F_footpath_CheckH) (pack := fun y => (y.2.1, y.2.2.1)) hmix tab_ok ⟨⟨F_footpath_sound_ok, trivial⟩, trivial⟩ fun x z h => (F_footpath_Check_eq x.1 x.2.1).trans h
noncomputable def F_shortest_check_1 : (El Y3) → (El Y3) → Option (El Y4) := fun a0 a1 => Option.bind (bif decide (a0 < (0 : Int)) then some true else some (decide (a1 ≤ a0))) fun x0 => some x0
abbrev F_shortest_check_1A : Pats := (.cons (.pd Y3) (.cons (.ro Y3) .nil))
abbrev F_shortest_check_1R : Pats := (.cons (.pd Y4) .nil)
noncomputable def F_shortest_check_1S : Tr.Spec := { args := F_shortest_check_1A, res := F_shortest_check_1R, fns := [], α := El Y4, f := fun x => F_shortest_check_1 x.1 x.2.1, unp := fun z => (((), (), ()), (z, ())) }
noncomputable def F_shortest_check_1M : List (Nat × List Tr.Spec) := []
def F_shortest_check_1H : Hint := (.seq .leaf (.seq (.reg [(3, Y4)]) .leaf))
noncomputable def F_shortest_check_1V (a0 : El Y3) (a1 : El Y3) : Option (El Y4) := evalF (mkE tyTab mapTab pkTab [] [] F_shortest_check_1M 11) (codeOf Try.f71) Try.f71.results F_shortest_check_1H F_shortest_check_1A F_shortest_check_1R (fun y => y.2.1) (a0, a1, ())
theorem F_shortest_check_1_eq (a0 : El Y3) (a1 : El Y3) : F_shortest_check_1V a0 a1 = F_shortest_check_1 a0 a1 := by kernel_rfl
theorem F_shortest_check_1_ok : FnOK Try.prog 71 F_shortest_check_1S := fnOK_of (m := F_shortest_check_1M) (fn := Try.f71) (hint := F_shortest_check_1H) (pack := fun y => y.2.1) hmix tab_ok trivial fun x z h => (F_shortest_check_1_eq x.1 x.2.1).trans h
noncomputable def F_shortest_check : (El Y3) → (El Y62) → (El Y39) → Option (El Y24) := fun a0 a1 a2 =>
 Option.bind (bif decide (a0 < (0 : Int)) then some true else some (decide ((64 : Int) < a0))) fun x0 =>
 bif x0 then some (2 : Int)
 else
 bif decide ((4096 : Int) < (↑(List.length a1) : Int)) then some (5 : Int)
 else
 Option.bind
 (Tr.run
 (fun s1 =>
 bif decide (s1 < (↑(List.length a1) : Int)) then
 Option.bind (idx a1 s1) fun x2 =>
 Option.bind (F_shortest_check_1 x2.1 a0) fun x3 =>
 bif x3 then some (.inr (.inr (9 : Int)))
 else
 Option.bind (F_shortest_check_1 x2.2.1 a0) fun x4 =>
 bif x4 then some (.inr (.inr (9 : Int)))
 else
 Option.bind (bif decide (x2.2.2.1 < (0 : Int)) then some true else some (decide ((1073741824 : Int) < x2.2.2.1))) fun x5 =>
 bif x5 then some (.inr (.inr (2 : Int))) else some (.inl (IntKind.wrap .i64 (s1 + (1 : Int))))
 else some (.inr (.inl ())))
 (0 : Int))
 fun x6 =>
 Sum.elim
 (fun _ =>
 Option.bind
 (Tr.run
 (fun s8 =>
 bif decide (s8 < (↑(List.length a2) : Int)) then
 Option.bind (idx a2 s8) fun x9 =>
 Option.bind (F_shortest_check_1 x9 a0) fun x10 =>
 bif x10 then some (.inr (.inr (9 : Int))) else some (.inl (IntKind.wrap .i64 (s8 + (1 : Int))))
 else some (.inr (.inl ())))
 (0 : Int))
 fun x11 => Sum.elim (fun _ => some (0 : Int)) (fun y13 => some y13) x11)
 (fun y14 => some y14) x6
abbrev F_shortest_checkA : Pats := (.cons (.pd Y3) (.cons (.pd Y62) (.cons (.pd Y39) .nil)))
abbrev F_shortest_checkR : Pats := (.cons (.pd Y24) .nil)
noncomputable def F_shortest_checkS : Tr.Spec := { args := F_shortest_checkA, res := F_shortest_checkR, fns := [], α := El Y24, f := fun x => F_shortest_check x.1 x.2.1 x.2.2.1, unp := fun z => (((), (), (), ()), (z, ())) }
noncomputable def F_shortest_checkM : List (Nat × List Tr.Spec) := [(71, [F_shortest_check_1S])]
def F_shortest_checkH : Hint := (.seq .leaf (.seq (.seq (.reg [(17, Y4)]) .leaf) (.seq .leaf (.seq .leaf (.seq (.seq .leaf (.lp ⟨[(24, (.pd Y3))], [], [2, 7, 22, 23], []⟩ [((.exit 0), ⟨[], [], [2, 7], []⟩), (.ret, ⟨[(6, (.pd Y24))], [], [], []⟩)] (.seq .leaf (.seq .leaf (.seq (.seq .leaf (.seq .leaf (.seq (.reg [(45, Y4)]) .leaf))) .leaf))))) (.seq (.seq .leaf (.lp ⟨[(49, (.pd Y3))], [], [7, 47, 48], []⟩ [((.exit 2), ⟨[], [], [], []⟩), (.ret, ⟨[(6, (.pd Y24))], [], [], []⟩)] .leaf)) .leaf))))))
noncomputable def F_shortest_checkV (a0 : El Y3) (a1 : El Y62) (a2 : El Y39) : Option (El Y24) := evalF (mkE tyTab mapTab pkTab [] [] F_shortest_checkM 57) (codeOf Try.f54) Try.f54.results F_shortest_checkH F_shortest_checkA F_shortest_checkR (fun y => y.2.1) (a0, a1, a2, ())
theorem F_shortest_check_eq (a0 : El Y3) (a1 : El Y62) (a2 : El Y39) : F_shortest_checkV a0 a1 a2 = F_shortest_check a0 a1 a2 := by kernel_rfl
theorem F_shortest_check_ok : FnOK Try.prog 54 F_shortest_checkS := fnOK_of (m := F_shortest_checkM) (fn := Try.f54) (hint := F_shortest_checkH) (pack := fun y => y.2.1) hmix tab_ok ⟨⟨F_shortest_check_1_ok, trivial⟩, trivial⟩ fun x z h => (F_shortest_check_eq x.1 x.2.1 x.2.2.1).trans h
noncomputable def F_shortest_neighbors : (El Y62) → (El Y4) → Option (List (El Y3 × List (El Y64))) := fun a0 a1 =>
 Option.bind
 (Tr.run
 (fun s0 =>
 bif decide (s0.2 < (↑(List.length a0) : Int)) then
 Option.bind (idx a0 s0.2) fun x1 =>
 Option.bind (bif a1 then some (x1.2.1, x1.1, x1.2.2) else some x1) fun x2 =>
 Option.bind (guardB (decide (List.length (Option.getD (Tr.amGet (Tr.keyEq Y3) x2.1 s0.1) []) + List.length [x2] ≤ maxApp))) fun _ =>
 Option.bind (guardB (Tr.holeK Y3 (some x2.1) x2.1)) fun _ =>
 some (.inl (Tr.amSet (Tr.keyEq Y3) x2.1 (Option.getD (Tr.amGet (Tr.keyEq Y3) x2.1 s0.1) [] ++ [x2]) s0.1, IntKind.wrap .i64 (s0.2 + (1 : Int))))
 else some (.inr s0.1))
 ([], (0 : Int)))
 fun x5 => some x5
abbrev F_shortest_neighborsA : Pats := (.cons (.pd Y62) (.cons (.pd Y4) .nil))
abbrev F_shortest_neighborsR : Pats := (.cons (.mrows Y3 Y64) .nil)
noncomputable def F_shortest_neighborsS : Tr.Spec := { args := F_shortest_neighborsA, res := F_shortest_neighborsR, fns := [], α := List (El Y3 × List (El Y64)), f := fun x => F_shortest_neighbors x.1 x.2.1, unp := fun z => (((), (), ()), (z, ())) }
noncomputable def F_shortest_neighborsM : List (Nat × List Tr.Spec) := []
def F_shortest_neighborsH : Hint := (.seq .leaf (.seq .leaf (.seq (.seq .leaf (.lp ⟨[(5, (.mrows Y3 Y64)), (11, (.pd Y3))], [], [1, 9, 10], []⟩ [((.exit 0), ⟨[(5, (.mrows Y3 Y64))], [], [], []⟩)] (.seq .leaf (.seq .leaf (.seq (.seq .leaf (.seq (.seq .leaf (.cnd (some (⟨[], [], [1, 5, 9, 10, 11], []⟩, [(.normal, ⟨[(7, (.var Y64 (.pd Y64)))], [], [1, 5, 9, 10, 11], []⟩)])) .leaf .leaf)) .leaf)) .leaf))))) .leaf)))
noncomputable def F_shortest_neighborsV (a0 : El Y62) (a1 : El Y4) : Option (List (El Y3 × List (El Y64))) := evalF (mkE tyTab mapTab pkTab [82] [] F_shortest_neighborsM 34) (codeOf Try.f55) Try.f55.results F_shortest_neighborsH F_shortest_neighborsA F_shortest_neighborsR (fun y => y.2.1) (a0, a1, ())
theorem F_shortest_neighbors_eq (a0 : El Y62) (a1 : El Y4) : F_shortest_neighborsV a0 a1 = F_shortest_neighbors a0 a1 := by kernel_rfl
theorem F_shortest_neighbors_ok : FnOK Try.prog 55 F_shortest_neighborsS := fnOK_of (m := F_shortest_neighborsM) (fn := Try.f55) (hint := F_shortest_neighborsH) (pack := fun y => y.2.1) hmix tab_ok trivial fun x z h => (F_shortest_neighbors_eq x.1 x.2.1).trans h
noncomputable def F_shortest_lengths : (El Y85) → Option (El Y39) := fun a0 =>
 Option.bind
 (guardB
 (decide
 ((0 : Tr.El (Tr.Ty.int .i64)) ≤ (↑(List.length a0) : Int) ∧
 (↑(List.length a0) : Int) ≤ (↑(List.length a0) : Int) ∧ (↑(List.length a0) : Int) ≤ (↑maxApp : Tr.El (Tr.Ty.int .i64)))))
 fun _ =>
 Option.bind
 (Tr.run
 (fun s1 =>
 bif decide (s1.2 < (↑(List.length a0) : Int)) then
 Option.bind (idx a0 s1.2) fun x2 =>
 Option.bind (inb s1.2 (List.length s1.1)) fun x3 =>
 Option.bind s1.1[x3]? fun _ => some (.inl (List.set s1.1 x3 x2.2.1, IntKind.wrap .i64 (s1.2 + (1 : Int))))
 else some (.inr s1.1))
 (List.replicate (Int.toNat (↑(List.length a0) : Int)) ((0 : Int)), (0 : Int)))
 fun x5 => some x5
abbrev F_shortest_lengthsA : Pats := (.cons (.pd Y85) .nil)
abbrev F_shortest_lengthsR : Pats := (.cons (.pd Y39) .nil)
noncomputable def F_shortest_lengthsS : Tr.Spec := { args := F_shortest_lengthsA, res := F_shortest_lengthsR, fns := [], α := El Y39, f := fun x => F_shortest_lengths x.1, unp := fun z => (((), ()), (z, ())) }
noncomputable def F_shortest_lengthsM : List (Nat × List Tr.Spec) := []
def F_shortest_lengthsH : Hint := (.seq .leaf (.seq .leaf (.seq (.seq .leaf (.lp ⟨[(3, (.own Y3 false)), (11, (.pd Y3))], [], [9, 10], []⟩ [((.exit 0), ⟨[(3, (.own Y3 false))], [], [], []⟩)] .leaf)) .leaf)))
noncomputable def F_shortest_lengthsV (a0 : El Y85) : Option (El Y39) := evalF (mkE tyTab mapTab pkTab [] [] F_shortest_lengthsM 23) (codeOf Try.f56) Try.f56.results F_shortest_lengthsH F_shortest_lengthsA F_shortest_lengthsR (fun y => y.2.1) (a0, ())
theorem F_shortest_lengths_eq (a0 : El Y85) : F_shortest_lengthsV a0 = F_shortest_lengths a0 := by kernel_rfl
theorem F_shortest_lengths_ok : FnOK Try.prog 56 F_shortest_lengthsS := fnOK_of (m := F_shortest_lengthsM) (fn := Try.f56) (hint := F_shortest_lengthsH) (pack := fun y => y.2.1) hmix tab_ok trivial fun x z h => (F_shortest_lengths_eq x.1).trans h
noncomputable def F_shortest_less : (El Y99) → (El Y99) → Option (El Y4) := fun a0 a1 =>
 Option.bind
 (bif decide (a0.2.1 < a1.2.1) then some true
 else bif decide (a0.2.1 = a1.2.1) then some (decide (a0.2.2.1 < a1.2.2.1)) else some false)
 fun x0 => some x0
abbrev F_shortest_lessA : Pats := (.cons (.pd Y99) (.cons (.pd Y99) .nil))
abbrev F_shortest_lessR : Pats := (.cons (.pd Y4) .nil)
noncomputable def F_shortest_lessS : Tr.Spec := { args := F_shortest_lessA, res := F_shortest_lessR, fns := [], α := El Y4, f := fun x => F_shortest_less x.1 x.2.1, unp := fun z => (((), (), ()), (z, ())) }
noncomputable def F_shortest_lessM : List (Nat × List Tr.Spec) := []
def F_shortest_lessH : Hint := (.seq .leaf (.seq (.reg [(4, Y4)]) .leaf))
noncomputable def F_shortest_lessV (a0 : El Y99) (a1 : El Y99) : Option (El Y4) := evalF (mkE tyTab mapTab pkTab [] [] F_shortest_lessM 24) (codeOf Try.f73) Try.f73.results F_shortest_lessH F_shortest_lessA F_shortest_lessR (fun y => y.2.1) (a0, a1, ())
theorem F_shortest_less_eq (a0 : El Y99) (a1 : El Y99) : F_shortest_lessV a0 a1 = F_shortest_less a0 a1 := by kernel_rfl
theorem F_shortest_less_ok : FnOK Try.prog 73 F_shortest_lessS := fnOK_of (m := F_shortest_lessM) (fn := Try.f73) (hint := F_shortest_lessH) (pack := fun y => y.2.1) hmix tab_ok trivial fun x z h => (F_shortest_less_eq x.1 x.2.1).trans h
noncomputable def F_heap_Heap_shortest_label_before : ((Unit × List (El Y114) × El Y3 × Unit)) → (El Y3) → (El Y3) → Option ((Unit × List (El Y114) × El Y3 × Unit) × El Y4) := fun a0 a1 a2 =>
 Option.bind (inb a1 (List.length a0.2.1)) fun x0 =>
 Option.bind a0.2.1[x0]? fun x1 =>
 Option.bind (inb a2 (List.length a0.2.1)) fun x2 =>
 Option.bind a0.2.1[x2]? fun x3 =>
 Option.bind (F_shortest_less x1.1 x3.1) fun x4 =>
 bif x4 then some (((), a0.2.1, a0.2.2.1, ()), true)
 else
 Option.bind (F_shortest_less x3.1 x1.1) fun x5 =>
 bif x5 then some (((), a0.2.1, a0.2.2.1, ()), false) else some (((), a0.2.1, a0.2.2.1, ()), decide (x1.2.1 < x3.2.1))
abbrev F_heap_Heap_shortest_label_beforeA : Pats := (.cons (.var Y112 (.agg (.cons (.fn 73 .nil) (.cons (.own Y114 true) (.cons (.pd Y3) .nil))))) (.cons (.pd Y3) (.cons (.pd Y3) .nil)))
abbrev F_heap_Heap_shortest_label_beforeR : Pats := (.cons (.pd Y4) .nil)
noncomputable def F_heap_Heap_shortest_label_beforeS : Tr.Spec := { args := F_heap_Heap_shortest_label_beforeA, res := F_heap_Heap_shortest_label_beforeR, fns := [], α := (Unit × List (El Y114) × El Y3 × Unit) × El Y4, f := fun x => F_heap_Heap_shortest_label_before x.1 x.2.1 x.2.2.1, unp := fun z => ((z.1, (), (), ()), (z.2, ())) }
noncomputable def F_heap_Heap_shortest_label_beforeM : List (Nat × List Tr.Spec) := [(73, [F_shortest_lessS])]
def F_heap_Heap_shortest_label_beforeH : Hint := .leaf
noncomputable def F_heap_Heap_shortest_label_beforeV (a0 : (Unit × List (El Y114) × El Y3 × Unit)) (a1 : El Y3) (a2 : El Y3) : Option ((Unit × List (El Y114) × El Y3 × Unit) × El Y4) := evalF (mkE tyTab mapTab pkTab [] [] F_heap_Heap_shortest_label_beforeM 46) (codeOf Try.f80) Try.f80.results F_heap_Heap_shortest_label_beforeH F_heap_Heap_shortest_label_beforeA F_heap_Heap_shortest_label_beforeR (fun y => (y.1.1, y.2.1)) (a0, a1, a2, ())
theorem F_heap_Heap_shortest_label_before_eq (a0 : (Unit × List (El Y114) × El Y3 × Unit)) (a1 : El Y3) (a2 : El Y3) : F_heap_Heap_shortest_label_beforeV a0 a1 a2 = F_heap_Heap_shortest_label_before a0 a1 a2 := by kernel_rfl
theorem F_heap_Heap_shortest_label_before_ok : FnOK Try.prog 80 F_heap_Heap_shortest_label_beforeS := fnOK_of (m := F_heap_Heap_shortest_label_beforeM) (fn := Try.f80) (hint := F_heap_Heap_shortest_label_beforeH) (pack := fun y => (y.1.1, y.2.1)) hmix tab_ok ⟨⟨F_shortest_less_ok, trivial⟩, trivial⟩ fun x z h => (F_heap_Heap_shortest_label_before_eq x.1 x.2.1 x.2.2.1).trans h
noncomputable def F_heap_Heap_shortest_label_swap : ((Unit × List (El Y114) × El Y3 × Unit)) → (El Y3) → (El Y3) → Option ((Unit × List (El Y114) × El Y3 × Unit)) := fun a0 a1 a2 =>
 Option.bind (inb a2 (List.length a0.2.1)) fun x0 =>
 Option.bind a0.2.1[x0]? fun x1 =>
 Option.bind (inb a1 (List.length a0.2.1)) fun x2 =>
 Option.bind a0.2.1[x2]? fun x3 =>
 Option.bind (inb a1 (List.length a0.2.1)) fun x4 =>
 Option.bind a0.2.1[x4]? fun _ =>
 Option.bind (inb a2 (List.length (List.set a0.2.1 x4 x1))) fun x6 =>
 Option.bind (List.set a0.2.1 x4 x1)[x6]? fun _ => some ((), List.set (List.set a0.2.1 x4 x1) x6 x3, a0.2.2.1, ())
abbrev F_heap_Heap_shortest_label_swapA : Pats := (.cons (.var Y112 (.agg (.cons (.fn 73 .nil) (.cons (.own Y114 true) (.cons (.pd Y3) .nil))))) (.cons (.pd Y3) (.cons (.pd Y3) .nil)))
abbrev F_heap_Heap_shortest_label_swapR : Pats := .nil
noncomputable def F_heap_Heap_shortest_label_swapS : Tr.Spec := { args := F_heap_Heap_shortest_label_swapA, res := F_heap_Heap_shortest_label_swapR, fns := [], α := (Unit × List (El Y114) × El Y3 × Unit), f := fun x => F_heap_Heap_shortest_label_swap x.1 x.2.1 x.2.2.1, unp := fun z => ((z, (), (), ()), ()) }
noncomputable def F_heap_Heap_shortest_label_swapM : List (Nat × List Tr.Spec) := [(73, [F_shortest_lessS])]
def F_heap_Heap_shortest_label_swapH : Hint := .leaf
noncomputable def F_heap_Heap_shortest_label_swapV (a0 : (Unit × List (El Y114) × El Y3 × Unit)) (a1 : El Y3) (a2 : El Y3) : Option ((Unit × List (El Y114) × El Y3 × Unit)) := evalF (mkE tyTab mapTab pkTab [] [] F_heap_Heap_shortest_label_swapM 32) (codeOf Try.f81) Try.f81.results F_heap_Heap_shortest_label_swapH F_heap_Heap_shortest_label_swapA F_heap_Heap_shortest_label_swapR (fun y => y.1.1) (a0, a1, a2, ())
theorem F_heap_Heap_shortest_label_swap_eq (a0 : (Unit × List (El Y114) × El Y3 × Unit)) (a1 : El Y3) (a2 : El Y3) : F_heap_Heap_shortest_label_swapV a0 a1 a2 = F_heap_Heap_shortest_label_swap a0 a1 a2 := by kernel_rfl
theorem F_heap_Heap_shortest_label_swap_ok : FnOK Try.prog 81 F_heap_Heap_shortest_label_swapS := fnOK_of (m := F_heap_Heap_shortest_label_swapM) (fn := Try.f81) (hint := F_heap_Heap_shortest_label_swapH) (pack := fun y => y.1.1) hmix tab_ok ⟨⟨F_shortest_less_ok, trivial⟩, trivial⟩ fun x z h => (F_heap_Heap_shortest_label_swap_eq x.1 x.2.1 x.2.2.1).trans h
noncomputable def F_heap_Heap_shortest_label_Push : ((Unit × List (El Y114) × El Y3 × Unit)) → (El Y99) → Option ((Unit × List (El Y114) × El Y3 × Unit)) := fun a0 a1 =>
 Option.bind (guardB (decide (List.length a0.2.1 + List.length [(a1, a0.2.2.1, ())] ≤ maxApp))) fun _ =>
 Option.bind
 (Tr.run
 (fun s1 =>
 bif decide ((0 : Int) < s1.2) then
 Option.bind
 (F_heap_Heap_shortest_label_before ((), s1.1.2.1, s1.1.2.2.1, ()) s1.2
 (IntKind.wrap .i64 (Int.tdiv (IntKind.wrap .i64 (s1.2 - (1 : Int))) (2 : Int))))
 fun x2 =>
 bif x2.2 then
 Option.bind
 (F_heap_Heap_shortest_label_swap ((), x2.1.2.1, x2.1.2.2.1, ()) s1.2
 (IntKind.wrap .i64 (Int.tdiv (IntKind.wrap .i64 (s1.2 - (1 : Int))) (2 : Int))))
 fun x3 => some (.inl (((), x3.2.1, x3.2.2.1, ()), IntKind.wrap .i64 (Int.tdiv (IntKind.wrap .i64 (s1.2 - (1 : Int))) (2 : Int))))
 else some (.inr ((), x2.1.2.1, x2.1.2.2.1, ()))
 else some (.inr ((), s1.1.2.1, s1.1.2.2.1, ())))
 (((), a0.2.1 ++ [(a1, a0.2.2.1, ())], IntKind.wrap .i64 (a0.2.2.1 + (1 : Int)), ()),
 IntKind.wrap .i64 ((↑(List.length (a0.2.1 ++ [(a1, a0.2.2.1, ())])) : Int) - (1 : Int))))
 fun x4 => some ((), x4.2.1, x4.2.2.1, ())
abbrev F_heap_Heap_shortest_label_PushA : Pats := (.cons (.var Y112 (.agg (.cons (.fn 73 .nil) (.cons (.own Y114 true) (.cons (.pd Y3) .nil))))) (.cons (.pd Y99) .nil))
abbrev F_heap_Heap_shortest_label_PushR : Pats := .nil
noncomputable def F_heap_Heap_shortest_label_PushS : Tr.Spec := { args := F_heap_Heap_shortest_label_PushA, res := F_heap_Heap_shortest_label_PushR, fns := [], α := (Unit × List (El Y114) × El Y3 × Unit), f := fun x => F_heap_Heap_shortest_label_Push x.1 x.2.1, unp := fun z => ((z, (), ()), ()) }
noncomputable def F_heap_Heap_shortest_label_PushM : List (Nat × List Tr.Spec) := [(73, [F_shortest_lessS]), (80, [F_heap_Heap_shortest_label_beforeS]), (81, [F_heap_Heap_shortest_label_swapS])]
def F_heap_Heap_shortest_label_PushH : Hint := (.seq .leaf (.seq .leaf (.seq .leaf (.seq .leaf (.seq .leaf (.lp ⟨[(0, (.var Y112 (.agg (.cons (.fn 73 .nil) (.cons (.own Y114 false) (.cons (.pd Y3) .nil)))))), (4, (.pd Y3))], [], [], []⟩ [((.exit 0), ⟨[(0, (.var Y112 (.agg (.cons (.fn 73 .nil) (.cons (.own Y114 false) (.cons (.pd Y3) .nil))))))], [], [], []⟩)] .leaf))))))
noncomputable def F_heap_Heap_shortest_label_PushV (a0 : (Unit × List (El Y114) × El Y3 × Unit)) (a1 : El Y99) : Option ((Unit × List (El Y114) × El Y3 × Unit)) := evalF (mkE tyTab mapTab pkTab [] [] F_heap_Heap_shortest_label_PushM 54) (codeOf Try.f74) Try.f74.results F_heap_Heap_shortest_label_PushH F_heap_Heap_shortest_label_PushA F_heap_Heap_shortest_label_PushR (fun y => y.1.1) (a0, a1, ())
theorem F_heap_Heap_shortest_label_Push_eq (a0 : (Unit × List (El Y114) × El Y3 × Unit)) (a1 : El Y99) : F_heap_Heap_shortest_label_PushV a0 a1 = F_heap_Heap_shortest_label_Push a0 a1 := by kernel_rfl
theorem F_heap_Heap_shortest_label_Push_ok : FnOK Try.prog 74 F_heap_Heap_shortest_label_PushS := fnOK_of (m := F_heap_Heap_shortest_label_PushM) (fn := Try.f74) (hint := F_heap_Heap_shortest_label_PushH) (pack := fun y => y.1.1) hmix tab_ok ⟨⟨F_shortest_less_ok, trivial⟩, ⟨F_heap_Heap_shortest_label_before_ok, trivial⟩, ⟨F_heap_Heap_shortest_label_swap_ok, trivial⟩, trivial⟩ fun x z h => (F_heap_Heap_shortest_label_Push_eq x.1 x.2.1).trans h
noncomputable def F_heap_Heap_shortest_label_Len : ((Unit × List (El Y114) × El Y3 × Unit)) → Option ((Unit × List (El Y114) × El Y3 × Unit) × El Y3) := fun a0 => some (((), a0.2.1, a0.2.2.1, ()), (↑(List.length a0.2.1) : Int))
abbrev F_heap_Heap_shortest_label_LenA : Pats := (.cons (.var Y112 (.agg (.cons (.fn 73 .nil) (.cons (.own Y114 true) (.cons (.pd Y3) .nil))))) .nil)
abbrev F_heap_Heap_shortest_label_LenR : Pats := (.cons (.pd Y3) .nil)
noncomputable def F_heap_Heap_shortest_label_LenS : Tr.Spec := { args := F_heap_Heap_shortest_label_LenA, res := F_heap_Heap_shortest_label_LenR, fns := [], α := (Unit × List (El Y114) × El Y3 × Unit) × El Y3, f := fun x => F_heap_Heap_shortest_label_Len x.1, unp := fun z => ((z.1, ()), (z.2, ())) }
noncomputable def F_heap_Heap_shortest_label_LenM : List (Nat × List Tr.Spec) := [(73, [F_shortest_lessS])]
def F_heap_Heap_shortest_label_LenH : Hint := .leaf
noncomputable def F_heap_Heap_shortest_label_LenV (a0 : (Unit × List (El Y114) × El Y3 × Unit)) : Option ((Unit × List (El Y114) × El Y3 × Unit) × El Y3) := evalF (mkE tyTab mapTab pkTab [] [] F_heap_Heap_shortest_label_LenM 10) (codeOf Try.f85) Try.f85.results F_heap_Heap_shortest_label_LenH F_heap_Heap_shortest_label_LenA F_heap_Heap_shortest_label_LenR (fun y => (y.1.1, y.2.1)) (a0, ())
theorem F_heap_Heap_shortest_label_Len_eq (a0 : (Unit × List (El Y114) × El Y3 × Unit)) : F_heap_Heap_shortest_label_LenV a0 = F_heap_Heap_shortest_label_Len a0 := by kernel_rfl
theorem F_heap_Heap_shortest_label_Len_ok : FnOK Try.prog 85 F_heap_Heap_shortest_label_LenS := fnOK_of (m := F_heap_Heap_shortest_label_LenM) (fn := Try.f85) (hint := F_heap_Heap_shortest_label_LenH) (pack := fun y => (y.1.1, y.2.1)) hmix tab_ok ⟨⟨F_shortest_less_ok, trivial⟩, trivial⟩ fun x z h => (F_heap_Heap_shortest_label_Len_eq x.1).trans h
noncomputable def F_heap_Heap_shortest_label_Peek : ((Unit × List (El Y114) × El Y3 × Unit)) → Option ((Unit × List (El Y114) × El Y3 × Unit) × El Y99 × El Y4) := fun a0 =>
 Option.bind (F_heap_Heap_shortest_label_Len ((), a0.2.1, a0.2.2.1, ())) fun x0 =>
 bif decide (x0.2 = (0 : Int)) then some (((), x0.1.2.1, x0.1.2.2.1, ()), ((0 : Int), (0 : Int), (0 : Int), ()), false)
 else Option.bind (inb (0 : Int) (List.length x0.1.2.1)) fun x1 => Option.bind x0.1.2.1[x1]? fun x2 => some (((), x0.1.2.1, x0.1.2.2.1, ()), x2.1, true)
abbrev F_heap_Heap_shortest_label_PeekA : Pats := (.cons (.var Y112 (.agg (.cons (.fn 73 .nil) (.cons (.own Y114 true) (.cons (.pd Y3) .nil))))) .nil)
abbrev F_heap_Heap_shortest_label_PeekR : Pats := (.cons (.pd Y99) (.cons (.pd Y4) .nil))
noncomputable def F_heap_Heap_shortest_label_PeekS : Tr.Spec := { args := F_heap_Heap_shortest_label_PeekA, res := F_heap_Heap_shortest_label_PeekR, fns := [], α := (Unit × List (El Y114) × El Y3 × Unit) × El Y99 × El Y4, f := fun x => F_heap_Heap_shortest_label_Peek x.1, unp := fun z => ((z.1, ()), (z.2.1, z.2.2, ())) }
noncomputable def F_heap_Heap_shortest_label_PeekM : List (Nat × List Tr.Spec) := [(73, [F_shortest_lessS]), (85, [F_heap_Heap_shortest_label_LenS])]
def F_heap_Heap_shortest_label_PeekH : Hint := .leaf
noncomputable def F_heap_Heap_shortest_label_PeekV (a0 : (Unit × List (El Y114) × El Y3 × Unit)) : Option ((Unit × List (El Y114) × El Y3 × Unit) × El Y99 × El Y4) := evalF (mkE tyTab mapTab pkTab [] [] F_heap_Heap_shortest_label_PeekM 16) (codeOf Try.f82) Try.f82.results F_heap_Heap_shortest_label_PeekH F_heap_Heap_shortest_label_PeekA F_heap_Heap_shortest_label_PeekR (fun y => (y.1.1, y.2.1, y.2.2.1)) (a0, ())
theorem F_heap_Heap_shortest_label_Peek_eq (a0 : (Unit × List (El Y114) × El Y3 × Unit)) : F_heap_Heap_shortest_label_PeekV a0 = F_heap_Heap_shortest_label_Peek a0 := by kernel_rfl
theorem F_heap_Heap_shortest_label_Peek_ok : FnOK Try.prog 82 F_heap_Heap_shortest_label_PeekS := fnOK_of (m := F_heap_Heap_shortest_label_PeekM) (fn := Try.f82) (hint := F_heap_Heap_shortest_label_PeekH) (pack := fun y => (y.1.1, y.2.1, y.2.2.1)) hmix tab_ok ⟨⟨F_shortest_less_ok, trivial⟩, ⟨F_heap_Heap_shortest_label_Len_ok, trivial⟩, trivial⟩ fun x z h => (F_heap_Heap_shortest_label_Peek_eq x.1).trans h
noncomputable def F_heap_Heap_shortest_label_sink : ((Unit × List (El Y114) × El Y3 × Unit)) → Option ((Unit × List (El Y114) × El Y3 × Unit)) := fun a0 =>
 Option.bind
 (Tr.run
 (fun s0 =>
 bif decide ((↑(List.length s0.1.2.1) : Int) ≤ IntKind.wrap .i64 (IntKind.wrap .i64 ((2 : Int) * s0.2) + (1 : Int))) then
 some (.inr ((), s0.1.2.1, s0.1.2.2.1, ()))
 else
 bif
 decide
 (IntKind.wrap .i64 (IntKind.wrap .i64 (IntKind.wrap .i64 ((2 : Int) * s0.2) + (1 : Int)) + (1 : Int)) <
 (↑(List.length s0.1.2.1) : Int)) then
 Option.bind
 (F_heap_Heap_shortest_label_before ((), s0.1.2.1, s0.1.2.2.1, ())
 (IntKind.wrap .i64 (IntKind.wrap .i64 (IntKind.wrap .i64 ((2 : Int) * s0.2) + (1 : Int)) + (1 : Int)))
 (IntKind.wrap .i64 (IntKind.wrap .i64 ((2 : Int) * s0.2) + (1 : Int))))
 fun x1 =>
 Option.bind
 (bif x1.2 then
 some
 (((), x1.1.2.1, x1.1.2.2.1, ()),
 IntKind.wrap .i64 (IntKind.wrap .i64 (IntKind.wrap .i64 ((2 : Int) * s0.2) + (1 : Int)) + (1 : Int)))
 else some (((), x1.1.2.1, x1.1.2.2.1, ()), IntKind.wrap .i64 (IntKind.wrap .i64 ((2 : Int) * s0.2) + (1 : Int))))
 fun x2 =>
 Option.bind (F_heap_Heap_shortest_label_before ((), x2.1.2.1, x2.1.2.2.1, ()) x2.2 s0.2) fun x3 =>
 bif !x3.2 then some (.inr ((), x3.1.2.1, x3.1.2.2.1, ()))
 else
 Option.bind (F_heap_Heap_shortest_label_swap ((), x3.1.2.1, x3.1.2.2.1, ()) s0.2 x2.2) fun x4 =>
 some (.inl (((), x4.2.1, x4.2.2.1, ()), x2.2))
 else
 Option.bind
 (F_heap_Heap_shortest_label_before ((), s0.1.2.1, s0.1.2.2.1, ()) (IntKind.wrap .i64 (IntKind.wrap .i64 ((2 : Int) * s0.2) + (1 : Int))) s0.2)
 fun x5 =>
 bif !x5.2 then some (.inr ((), x5.1.2.1, x5.1.2.2.1, ()))
 else
 Option.bind
 (F_heap_Heap_shortest_label_swap ((), x5.1.2.1, x5.1.2.2.1, ()) s0.2
 (IntKind.wrap .i64 (IntKind.wrap .i64 ((2 : Int) * s0.2) + (1 : Int))))
 fun x6 => some (.inl (((), x6.2.1, x6.2.2.1, ()), IntKind.wrap .i64 (IntKind.wrap .i64 ((2 : Int) * s0.2) + (1 : Int)))))
 (((), a0.2.1, a0.2.2.1, ()), (0 : Int)))
 fun x7 => some ((), x7.2.1, x7.2.2.1, ())
abbrev F_heap_Heap_shortest_label_sinkA : Pats := (.cons (.var Y112 (.agg (.cons (.fn 73 .nil) (.cons (.own Y114 true) (.cons (.pd Y3) .nil))))) .nil)
abbrev F_heap_Heap_shortest_label_sinkR : Pats := .nil
noncomputable def F_heap_Heap_shortest_label_sinkS : Tr.Spec := { args := F_heap_Heap_shortest_label_sinkA, res := F_heap_Heap_shortest_label_sinkR, fns := [], α := (Unit × List (El Y114) × El Y3 × Unit), f := fun x => F_heap_Heap_shortest_label_sink x.1, unp := fun z => ((z, ()), ()) }
noncomputable def F_heap_Heap_shortest_label_sinkM : List (Nat × List Tr.Spec) := [(73, [F_shortest_lessS]), (80, [F_heap_Heap_shortest_label_beforeS]), (81, [F_heap_Heap_shortest_label_swapS])]
def F_heap_Heap_shortest_label_sinkH : Hint := (.seq .leaf (.lp ⟨[(0, (.var Y112 (.agg (.cons (.fn 73 .nil) (.cons (.own Y114 false) (.cons (.pd Y3) .nil)))))), (2, (.pd Y3))], [], [], []⟩ [(.ret, ⟨[(0, (.var Y112 (.agg (.cons (.fn 73 .nil) (.cons (.own Y114 false) (.cons (.pd Y3) .nil))))))], [], [], []⟩)] (.seq .leaf (.seq .leaf (.seq (.seq .leaf (.cnd (some (⟨[], [], [2], []⟩, [(.normal, ⟨[(0, (.var Y112 (.agg (.cons (.fn 73 .nil) (.cons (.own Y114 false) (.cons (.pd Y3) .nil)))))), (3, (.pd Y3))], [], [2], []⟩)])) .leaf .leaf)) .leaf)))))
noncomputable def F_heap_Heap_shortest_label_sinkV (a0 : (Unit × List (El Y114) × El Y3 × Unit)) : Option ((Unit × List (El Y114) × El Y3 × Unit)) := evalF (mkE tyTab mapTab pkTab [] [] F_heap_Heap_shortest_label_sinkM 41) (codeOf Try.f83) Try.f83.results F_heap_Heap_shortest_label_sinkH F_heap_Heap_shortest_label_sinkA F_heap_Heap_shortest_label_sinkR (fun y => y.1.1) (a0, ())
theorem F_heap_Heap_shortest_label_sink_eq (a0 : (Unit × List (El Y114) × El Y3 × Unit)) : F_heap_Heap_shortest_label_sinkV a0 = F_heap_Heap_shortest_label_sink a0 := by kernel_rfl
theorem F_heap_Heap_shortest_label_sink_ok : FnOK Try.prog 83 F_heap_Heap_shortest_label_sinkS := fnOK_of (m := F_heap_Heap_shortest_label_sinkM) (fn := Try.f83) (hint := F_heap_Heap_shortest_label_sinkH) (pack := fun y => y.1.1) hmix tab_ok ⟨⟨F_shortest_less_ok, trivial⟩, ⟨F_heap_Heap_shortest_label_before_ok, trivial⟩, ⟨F_heap_Heap_shortest_label_swap_ok, trivial⟩, trivial⟩ fun x z h => (F_heap_Heap_shortest_label_sink_eq x.1).trans h
noncomputable def F_heap_Heap_shortest_label_Pop : ((Unit × List (El Y114) × El Y3 × Unit)) → Option ((Unit × List (El Y114) × El Y3 × Unit) × El Y99 × El Y4) := fun a0 =>
 Option.bind (F_heap_Heap_shortest_label_Peek ((), a0.2.1, a0.2.2.1, ())) fun x0 =>
 bif !x0.2.2 then some (((), x0.1.2.1, x0.1.2.2.1, ()), x0.2.1, false)
 else
 Option.bind (F_heap_Heap_shortest_label_swap ((), x0.1.2.1, x0.1.2.2.1, ()) (0 : Int) (IntKind.wrap .i64 ((↑(List.length x0.1.2.1) : Int) - (1 : Int))))
 fun x1 =>
 Option.bind (sliceB (List.length x1.2.1) (List.length x1.2.1) none (some (IntKind.wrap .i64 ((↑(List.length x0.1.2.1) : Int) - (1 : Int)))))
 fun x2 =>
 Option.bind (F_heap_Heap_shortest_label_sink ((), List.take x2.2 x1.2.1, x1.2.2.1, ())) fun x3 => some (((), x3.2.1, x3.2.2.1, ()), x0.2.1, true)
abbrev F_heap_Heap_shortest_label_PopA : Pats := (.cons (.var Y112 (.agg (.cons (.fn 73 .nil) (.cons (.own Y114 true) (.cons (.pd Y3) .nil))))) .nil)
abbrev F_heap_Heap_shortest_label_PopR : Pats := (.cons (.pd Y99) (.cons (.pd Y4) .nil))
noncomputable def F_heap_Heap_shortest_label_PopS : Tr.Spec := { args := F_heap_Heap_shortest_label_PopA, res := F_heap_Heap_shortest_label_PopR, fns := [], α := (Unit × List (El Y114) × El Y3 × Unit) × El Y99 × El Y4, f := fun x => F_heap_Heap_shortest_label_Pop x.1, unp := fun z => ((z.1, ()), (z.2.1, z.2.2, ())) }
noncomputable def F_heap_Heap_shortest_label_PopM : List (Nat × List Tr.Spec) := [(73, [F_shortest_lessS]), (81, [F_heap_Heap_shortest_label_swapS]), (82, [F_heap_Heap_shortest_label_PeekS]), (83, [F_heap_Heap_shortest_label_sinkS])]
def F_heap_Heap_shortest_label_PopH : Hint := .leaf
noncomputable def F_heap_Heap_shortest_label_PopV (a0 : (Unit × List (El Y114) × El Y3 × Unit)) : Option ((Unit × List (El Y114) × El Y3 × Unit) × El Y99 × El Y4) := evalF (mkE tyTab mapTab pkTab [] [] F_heap_Heap_shortest_label_PopM 36) (codeOf Try.f75) Try.f75.results F_heap_Heap_shortest_label_PopH F_heap_Heap_shortest_label_PopA F_heap_Heap_shortest_label_PopR (fun y => (y.1.1, y.2.1, y.2.2.1)) (a0, ())
theorem F_heap_Heap_shortest_label_Pop_eq (a0 : (Unit × List (El Y114) × El Y3 × Unit)) : F_heap_Heap_shortest_label_PopV a0 = F_heap_Heap_shortest_label_Pop a0 := by kernel_rfl
theorem F_heap_Heap_shortest_label_Pop_ok : FnOK Try.prog 75 F_heap_Heap_shortest_label_PopS := fnOK_of (m := F_heap_Heap_shortest_label_PopM) (fn := Try.f75) (hint := F_heap_Heap_shortest_label_PopH) (pack := fun y => (y.1.1, y.2.1, y.2.2.1)) hmix tab_ok ⟨⟨F_shortest_less_ok, trivial⟩, ⟨F_heap_Heap_shortest_label_swap_ok, trivial⟩, ⟨F_heap_Heap_shortest_label_Peek_ok, trivial⟩, ⟨F_heap_Heap_shortest_label_sink_ok, trivial⟩, trivial⟩ fun x z h => (F_heap_Heap_shortest_label_Pop_eq x.1).trans h
noncomputable def F_heap_New_shortest_label_X_shortest_less : (Unit) → Option ((Unit × List (El Y114) × El Y3 × Unit)) := fun _ => some ((), [], (0 : Int), ())
abbrev F_heap_New_shortest_label_X_shortest_lessA : Pats := (.cons (.fn 73 .nil) .nil)
abbrev F_heap_New_shortest_label_X_shortest_lessR : Pats := (.cons (.var Y112 (.agg (.cons (.fn 73 .nil) (.cons (.own Y114 true) (.cons (.pd Y3) .nil))))) .nil)
noncomputable def F_heap_New_shortest_label_X_shortest_lessS : Tr.Spec := { args := F_heap_New_shortest_label_X_shortest_lessA, res := F_heap_New_shortest_label_X_shortest_lessR, fns := [73], α := (Unit × List (El Y114) × El Y3 × Unit), f := fun x => F_heap_New_shortest_label_X_shortest_less x.1, unp := fun z => (((), ()), (z, ())) }
noncomputable def F_heap_New_shortest_label_X_shortest_lessM : List (Nat × List Tr.Spec) := [(73, [F_shortest_lessS])]
def F_heap_New_shortest_label_X_shortest_lessH : Hint := .leaf
noncomputable def F_heap_New_shortest_label_X_shortest_lessV (a0 : Unit) : Option ((Unit × List (El Y114) × El Y3 × Unit)) := evalF (mkE tyTab mapTab pkTab [] [] F_heap_New_shortest_label_X_shortest_lessM 8) (codeOf Try.f72) Try.f72.results F_heap_New_shortest_label_X_shortest_lessH F_heap_New_shortest_label_X_shortest_lessA F_heap_New_shortest_label_X_shortest_lessR (fun y => y.2.1) (a0, ())
theorem F_heap_New_shortest_label_X_shortest_less_eq (a0 : Unit) : F_heap_New_shortest_label_X_shortest_lessV a0 = F_heap_New_shortest_label_X_shortest_less a0 := by kernel_rfl
theorem F_heap_New_shortest_label_X_shortest_less_ok : FnOK Try.prog 72 F_heap_New_shortest_label_X_shortest_lessS := fnOK_of (m := F_heap_New_shortest_label_X_shortest_lessM) (fn := Try.f72) (hint := F_heap_New_shortest_label_X_shortest_lessH) (pack := fun y => y.2.1) hmix tab_ok ⟨⟨F_shortest_less_ok, trivial⟩, trivial⟩ fun x z h => (F_heap_New_shortest_label_X_shortest_less_eq x.1).trans h
noncomputable def F_shortest_labels : (El Y3) → (List (El Y3 × List (El Y64))) → (El Y3) → Option (List (El Y3 × List (El Y64)) × El Y85) := fun a0 a1 a2 =>
 Option.bind (guardB (decide ((0 : Tr.El (Tr.Ty.int .i64)) ≤ a0 ∧ a0 ≤ a0 ∧ a0 ≤ (↑maxApp : Tr.El (Tr.Ty.int .i64))))) fun _ =>
 Option.bind
 (Tr.run
 (fun s1 =>
 bif decide (s1.2 < (↑(List.length (List.replicate (Int.toNat a0) (((0 : Int), (0 : Int), (0 : Int), ())))) : Int)) then
 Option.bind (inb s1.2 (List.length s1.1)) fun x2 =>
 Option.bind s1.1[x2]? fun _ => some (.inl (List.set s1.1 x2 (s1.2, (-1 : Int), (-1 : Int), ()), IntKind.wrap .i64 (s1.2 + (1 : Int))))
 else some (.inr s1.1))
 (List.replicate (Int.toNat a0) (((0 : Int), (0 : Int), (0 : Int), ())), (0 : Int)))
 fun x4 =>
 Option.bind (F_heap_New_shortest_label_X_shortest_less ()) fun x5 =>
 Option.bind (F_heap_Heap_shortest_label_Push ((), x5.2.1, x5.2.2.1, ()) (a2, (0 : Int), (0 : Int), ())) fun x6 =>
 Option.bind
 (Tr.run
 (fun s7 =>
 Option.bind (F_heap_Heap_shortest_label_Pop ((), s7.2.2.1, s7.2.2.2.1, ())) fun x8 =>
 bif !x8.2.2 then some (.inr s7.1)
 else
 Option.bind (inb x8.2.1.1 (List.length s7.1)) fun x9 =>
 Option.bind s7.1[x9]? fun x10 =>
 bif decide ((0 : Int) ≤ x10.2.2.1) then some (.inl (s7.1, (), x8.1.2.1, x8.1.2.2.1, ()))
 else
 Option.bind (inb x8.2.1.1 (List.length s7.1)) fun x11 =>
 Option.bind s7.1[x11]? fun _ =>
 Option.bind
 (Tr.run
 (fun s13 =>
 bif decide (s13.2 < (↑(List.length (Option.getD (Tr.amGet (Tr.keyEq Y3) x8.2.1.1 a1) [])) : Int)) then
 Option.bind (inb s13.2 (List.length (Option.getD (Tr.amGet (Tr.keyEq Y3) x8.2.1.1 a1) []))) fun x14 =>
 Option.bind (Option.getD (Tr.amGet (Tr.keyEq Y3) x8.2.1.1 a1) [])[x14]? fun x15 =>
 Option.bind (inb x15.2.1 (List.length (List.set s7.1 x11 x8.2.1))) fun x16 =>
 Option.bind (List.set s7.1 x11 x8.2.1)[x16]? fun x17 =>
 bif decide (x17.2.2.1 < (0 : Int)) then
 Option.bind
 (F_heap_Heap_shortest_label_Push ((), s13.1.2.1, s13.1.2.2.1, ())
 (x15.2.1, IntKind.wrap .i64 (x8.2.1.2.1 + x15.2.2.1),
 IntKind.wrap .i64 (x8.2.1.2.2.1 + (1 : Int)), ()))
 fun x18 => some (.inl (((), x18.2.1, x18.2.2.1, ()), IntKind.wrap .i64 (s13.2 + (1 : Int))))
 else some (.inl (((), s13.1.2.1, s13.1.2.2.1, ()), IntKind.wrap .i64 (s13.2 + (1 : Int))))
 else some (.inr ((), s13.1.2.1, s13.1.2.2.1, ())))
 (((), x8.1.2.1, x8.1.2.2.1, ()), (0 : Int)))
 fun x19 => some (.inl (List.set s7.1 x11 x8.2.1, (), x19.2.1, x19.2.2.1, ())))
 (x4, (), x6.2.1, x6.2.2.1, ()))
 fun x20 => some (a1, x20)
abbrev F_shortest_labelsA : Pats := (.cons (.pd Y3) (.cons (.mrows Y3 Y64) (.cons (.pd Y3) .nil)))
abbrev F_shortest_labelsR : Pats := (.cons (.pd Y85) .nil)
noncomputable def F_shortest_labelsS : Tr.Spec := { args := F_shortest_labelsA, res := F_shortest_labelsR, fns := [], α := List (El Y3 × List (El Y64)) × El Y85, f := fun x => F_shortest_labels x.1 x.2.1 x.2.2.1, unp := fun z => (((), z.1, (), ()), (z.2, ())) }
noncomputable def F_shortest_labelsM : List (Nat × List Tr.Spec) := [(72, [F_heap_New_shortest_label_X_shortest_lessS]), (73, [F_shortest_lessS]), (74, [F_heap_Heap_shortest_label_PushS]), (75, [F_heap_Heap_shortest_label_PopS])]
def F_shortest_labelsH : Hint := (.seq .leaf (.seq .leaf (.seq (.seq .leaf (.lp ⟨[(7, (.own Y99 false)), (18, (.pd Y3))], [], [1, 2, 17], []⟩ [((.exit 0), ⟨[(7, (.own Y99 false))], [], [1, 2], []⟩)] .leaf)) (.seq .leaf (.seq .leaf (.lp ⟨[(7, (.own Y99 false)), (9, (.var Y112 (.agg (.cons (.fn 73 .nil) (.cons (.own Y114 false) (.cons (.pd Y3) .nil))))))], [], [1], []⟩ [(.ret, ⟨[(6, (.own Y99 false))], [], [1], []⟩)] (.seq .leaf (.seq .leaf (.seq .leaf (.seq .leaf (.seq .leaf (.lp ⟨[(9, (.var Y112 (.agg (.cons (.fn 73 .nil) (.cons (.own Y114 false) (.cons (.pd Y3) .nil)))))), (57, (.pd Y3))], [], [1, 7, 10, 55, 56], []⟩ [((.exit 4), ⟨[(9, (.var Y112 (.agg (.cons (.fn 73 .nil) (.cons (.own Y114 false) (.cons (.pd Y3) .nil))))))], [], [1, 7], []⟩)] .leaf))))))))))))
noncomputable def F_shortest_labelsV (a0 : El Y3) (a1 : List (El Y3 × List (El Y64))) (a2 : El Y3) : Option (List (El Y3 × List (El Y64)) × El Y85) := evalF (mkE tyTab mapTab pkTab [] [] F_shortest_labelsM 82) (codeOf Try.f57) Try.f57.results F_shortest_labelsH F_shortest_labelsA F_shortest_labelsR (fun y => (y.1.2.1, y.2.1)) (a0, a1, a2, ())
theorem F_shortest_labels_eq (a0 : El Y3) (a1 : List (El Y3 × List (El Y64))) (a2 : El Y3) : F_shortest_labelsV a0 a1 a2 = F_shortest_labels a0 a1 a2 := by kernel_rfl
theorem F_shortest_labels_ok : FnOK Try.prog 57 F_shortest_labelsS := fnOK_of (m := F_shortest_labelsM) (fn := Try.f57) (hint := F_shortest_labelsH) (pack := fun y => (y.1.2.1, y.2.1)) hmix tab_ok ⟨⟨F_heap_New_shortest_label_X_shortest_less_ok, trivial⟩, ⟨F_shortest_less_ok, trivial⟩, ⟨F_heap_Heap_shortest_label_Push_ok, trivial⟩, ⟨F_heap_Heap_shortest_label_Pop_ok, trivial⟩, trivial⟩ fun x z h => (F_shortest_labels_eq x.1 x.2.1 x.2.2.1).trans h
noncomputable def F_shortest_All : (El Y3) → (El Y62) → Option (El Y51 × El Y24) := fun a0 a1 =>
 Option.bind (F_shortest_check a0 a1 []) fun x0 =>
 bif !decide (x0 = (0 : Int)) then some ([], x0)
 else
 Option.bind (F_shortest_neighbors a1 false) fun x1 =>
 Option.bind (guardB (decide ((0 : Tr.El (Tr.Ty.int .i64)) ≤ a0 ∧ a0 ≤ a0 ∧ a0 ≤ (↑maxApp : Tr.El (Tr.Ty.int .i64))))) fun _ =>
 Option.bind
 (Tr.run
 (fun s3 =>
 bif decide (s3.2.2 < (↑(List.length (List.replicate (Int.toNat a0) (([] : List (El Y3))))) : Int)) then
 Option.bind (F_shortest_labels a0 s3.1 s3.2.2) fun x4 =>
 Option.bind (F_shortest_lengths x4.2) fun x5 =>
 Option.bind (inb s3.2.2 (List.length s3.2.1)) fun x6 =>
 Option.bind s3.2.1[x6]? fun _ => some (.inl (x4.1, List.set s3.2.1 x6 x5, IntKind.wrap .i64 (s3.2.2 + (1 : Int))))
 else some (.inr s3.2.1))
 (x1, List.replicate (Int.toNat a0) (([] : List (El Y3))), (0 : Int)))
 fun x8 => some (x8, (0 : Int))
abbrev F_shortest_AllA : Pats := (.cons (.pd Y3) (.cons (.pd Y62) .nil))
abbrev F_shortest_AllR : Pats := (.cons (.pd Y51) (.cons (.pd Y24) .nil))
noncomputable def F_shortest_AllS : Tr.Spec := { args := F_shortest_AllA, res := F_shortest_AllR, fns := [], α := El Y51 × El Y24, f := fun x => F_shortest_All x.1 x.2.1, unp := fun z => (((), (), ()), (z.1, z.2, ())) }
noncomputable def F_shortest_AllM : List (Nat × List Tr.Spec) := [(54, [F_shortest_checkS]), (55, [F_shortest_neighborsS]), (56, [F_shortest_lengthsS]), (57, [F_shortest_labelsS])]
def F_shortest_AllH : Hint := (.seq .leaf (.seq .leaf (.seq .leaf (.seq .leaf (.seq .leaf (.seq (.seq .leaf (.lp ⟨[(7, (.mrows Y3 Y64)), (8, (.own Y39 false)), (22, (.pd Y3))], [], [0, 21], []⟩ [((.exit 0), ⟨[(8, (.own Y39 false))], [], [], []⟩)] .leaf)) .leaf))))))
noncomputable def F_shortest_AllV (a0 : El Y3) (a1 : El Y62) : Option (El Y51 × El Y24) := evalF (mkE tyTab mapTab pkTab [] [] F_shortest_AllM 35) (codeOf Try.f40) Try.f40.results F_shortest_AllH F_shortest_AllA F_shortest_AllR (fun y => (y.2.1, y.2.2.1)) (a0, a1, ())
theorem F_shortest_All_eq (a0 : El Y3) (a1 : El Y62) : F_shortest_AllV a0 a1 = F_shortest_All a0 a1 := by kernel_rfl
theorem F_shortest_All_ok : FnOK Try.prog 40 F_shortest_AllS := fnOK_of (m := F_shortest_AllM) (fn := Try.f40) (hint := F_shortest_AllH) (pack := fun y => (y.2.1, y.2.2.1)) hmix tab_ok ⟨⟨F_shortest_check_ok, trivial⟩, ⟨F_shortest_neighbors_ok, trivial⟩, ⟨F_shortest_lengths_ok, trivial⟩, ⟨F_shortest_labels_ok, trivial⟩, trivial⟩ fun x z h => (F_shortest_All_eq x.1 x.2.1).trans h
noncomputable def F_footpath_distances : (El Y22) → (El Y3) → (El Y4) → Option (El Y51) := fun a0 a1 a2 =>
 Option.bind
 (Tr.run
 (fun s0 =>
 bif decide (s0.2 < (↑(List.length a0) : Int)) then
 Option.bind (idx a0 s0.2) fun x1 =>
 Option.bind (bif a2 then some !x1.2.2.2.1 else some false) fun x2 =>
 bif x2 then some (.inl (s0.1, IntKind.wrap .i64 (s0.2 + (1 : Int))))
 else
 Option.bind
 (bif !Option.isSome (Tr.amGet (Tr.keyEq Y50) (x1.1, x1.2.1, false, ()) s0.1) then some true
 else some (decide (x1.2.2.1 < Option.getD (Tr.amGet (Tr.keyEq Y50) (x1.1, x1.2.1, false, ()) s0.1) ((0 : Int)))))
 fun x3 =>
 bif x3 then some (.inl (Tr.amSet (Tr.keyEq Y50) (x1.1, x1.2.1, false, ()) x1.2.2.1 s0.1, IntKind.wrap .i64 (s0.2 + (1 : Int))))
 else some (.inl (s0.1, IntKind.wrap .i64 (s0.2 + (1 : Int))))
 else some (.inr s0.1))
 ([], (0 : Int)))
 fun x4 =>
 Option.bind
 (guardB
 (decide ((0 : Tr.El (Tr.Ty.int .i64)) ≤ (0 : Int) ∧ (0 : Int) ≤ (↑(List.length x4) : Int) ∧ (↑(List.length x4) : Int) ≤ (↑maxApp : Tr.El (Tr.Ty.int .i64)))))
 fun _ =>
 Tr.drun (fun s6 => bif List.isEmpty s6.2 then (1 : Nat) else List.length s6.2)
 (fun s6 i7 =>
 bif List.isEmpty s6.2 then some (.inr s6.1)
 else
 Option.bind s6.2[i7]? fun x8 =>
 Option.bind (guardB (decide (List.length s6.1 + List.length [(x8.1.1, x8.1.2.1, x8.2, ())] ≤ maxApp))) fun _ =>
 some (.inl (s6.1 ++ [(x8.1.1, x8.1.2.1, x8.2, ())], List.eraseIdx s6.2 i7)))
 (fun o10 => Option.bind (F_shortest_All a1 o10) fun x11 => some x11.1) (List.replicate (Int.toNat (0 : Int)) (((0 : Int), (0 : Int), (0 : Int), ())), x4)
abbrev F_footpath_distancesA : Pats := (.cons (.pd Y22) (.cons (.pd Y3) (.cons (.pd Y4) .nil)))
abbrev F_footpath_distancesR : Pats := (.cons (.pd Y51) .nil)
noncomputable def F_footpath_distancesS : Tr.Spec := { args := F_footpath_distancesA, res := F_footpath_distancesR, fns := [], α := El Y51, f := fun x => F_footpath_distances x.1 x.2.1 x.2.2.1, unp := fun z => (((), (), (), ()), (z, ())) }
noncomputable def F_footpath_distancesM : List (Nat × List Tr.Spec) := [(40, [F_shortest_AllS])]
def F_footpath_distancesH : Hint := (.seq .leaf (.seq .leaf (.seq (.seq .leaf (.lp ⟨[(7, (.map Y50 Y3)), (21, (.pd Y3))], [], [1, 2, 19, 20], []⟩ [((.exit 0), ⟨[(7, (.map Y50 Y3))], [], [1], []⟩)] (.seq .leaf (.seq .leaf (.seq (.seq .leaf (.seq (.seq (.reg [(30, Y4)]) .leaf) (.seq .leaf (.seq .leaf (.seq (.reg [(49, Y4)]) .leaf))))) .leaf))))) (.seq .leaf (.seq (.seq .leaf (.lpd 59 ⟨[(13, (.own Y64 false)), (59, (.it Y50 Y3))], [], [1], []⟩ [((.exit 2), ⟨[(13, (.own Y64 false))], [], [1], []⟩)] .leaf)) .leaf)))))
noncomputable def F_footpath_distancesV (a0 : El Y22) (a1 : El Y3) (a2 : El Y4) : Option (El Y51) := evalF (mkE tyTab mapTab pkTab [] [] F_footpath_distancesM 81) (codeOf Try.f31) Try.f31.results F_footpath_distancesH F_footpath_distancesA F_footpath_distancesR (fun y => y.2.1) (a0, a1, a2, ())
theorem F_footpath_distances_eq (a0 : El Y22) (a1 : El Y3) (a2 : El Y4) : F_footpath_distancesV a0 a1 a2 = F_footpath_distances a0 a1 a2 := by kernel_rfl
theorem F_footpath_distances_ok : FnOK Try.prog 31 F_footpath_distancesS := fnOK_of (m := F_footpath_distancesM) (fn := Try.f31) (hint := F_footpath_distancesH) (pack := fun y => y.2.1) hmix tab_ok ⟨⟨F_shortest_All_ok, trivial⟩, trivial⟩ fun x z h => (F_footpath_distances_eq x.1 x.2.1 x.2.2.1).trans h
noncomputable def F_cmp_Or_int : (El Y39) → Option (El Y3) := fun a0 =>
 Option.bind
 (Tr.run
 (fun s0 =>
 bif decide (s0 < (↑(List.length a0) : Int)) then
 Option.bind (idx a0 s0) fun x1 =>
 bif !decide (x1 = (0 : Int)) then some (.inr (.inr x1)) else some (.inl (IntKind.wrap .i64 (s0 + (1 : Int))))
 else some (.inr (.inl ())))
 (0 : Int))
 fun x2 => Sum.elim (fun _ => some (0 : Int)) (fun y4 => some y4) x2
abbrev F_cmp_Or_intA : Pats := (.cons (.pd Y39) .nil)
abbrev F_cmp_Or_intR : Pats := (.cons (.pd Y3) .nil)
noncomputable def F_cmp_Or_intS : Tr.Spec := { args := F_cmp_Or_intA, res := F_cmp_Or_intR, fns := [], α := El Y3, f := fun x => F_cmp_Or_int x.1, unp := fun z => (((), ()), (z, ())) }
noncomputable def F_cmp_Or_intM : List (Nat × List Tr.Spec) := []
def F_cmp_Or_intH : Hint := (.seq .leaf (.seq .leaf (.seq (.seq .leaf (.lp ⟨[(8, (.pd Y3))], [], [3, 6, 7], []⟩ [((.exit 0), ⟨[], [], [3], []⟩), (.ret, ⟨[(2, (.pd Y3))], [], [], []⟩)] .leaf)) .leaf)))
noncomputable def F_cmp_Or_intV (a0 : El Y39) : Option (El Y3) := evalF (mkE tyTab mapTab pkTab [] [] F_cmp_Or_intM 18) (codeOf Try.f35) Try.f35.results F_cmp_Or_intH F_cmp_Or_intA F_cmp_Or_intR (fun y => y.2.1) (a0, ())
theorem F_cmp_Or_int_eq (a0 : El Y39) : F_cmp_Or_intV a0 = F_cmp_Or_int a0 := by kernel_rfl
theorem F_cmp_Or_int_ok : FnOK Try.prog 35 F_cmp_Or_intS := fnOK_of (m := F_cmp_Or_intM) (fn := Try.f35) (hint := F_cmp_Or_intH) (pack := fun y => y.2.1) hmix tab_ok trivial fun x z h => (F_cmp_Or_int_eq x.1).trans h
noncomputable def F_cmp_isNaN_int : (El Y3) → Option (El Y4) := fun a0 => some !decide (a0 = a0)
abbrev F_cmp_isNaN_intA : Pats := (.cons (.pd Y3) .nil)
abbrev F_cmp_isNaN_intR : Pats := (.cons (.pd Y4) .nil)
noncomputable def F_cmp_isNaN_intS : Tr.Spec := { args := F_cmp_isNaN_intA, res := F_cmp_isNaN_intR, fns := [], α := El Y4, f := fun x => F_cmp_isNaN_int x.1, unp := fun z => (((), ()), (z, ())) }
noncomputable def F_cmp_isNaN_intM : List (Nat × List Tr.Spec) := []
def F_cmp_isNaN_intH : Hint := .leaf
noncomputable def F_cmp_isNaN_intV (a0 : El Y3) : Option (El Y4) := evalF (mkE tyTab mapTab pkTab [] [] F_cmp_isNaN_intM 6) (codeOf Try.f42) Try.f42.results F_cmp_isNaN_intH F_cmp_isNaN_intA F_cmp_isNaN_intR (fun y => y.2.1) (a0, ())
theorem F_cmp_isNaN_int_eq (a0 : El Y3) : F_cmp_isNaN_intV a0 = F_cmp_isNaN_int a0 := by kernel_rfl
theorem F_cmp_isNaN_int_ok : FnOK Try.prog 42 F_cmp_isNaN_intS := fnOK_of (m := F_cmp_isNaN_intM) (fn := Try.f42) (hint := F_cmp_isNaN_intH) (pack := fun y => y.2.1) hmix tab_ok trivial fun x z h => (F_cmp_isNaN_int_eq x.1).trans h
noncomputable def F_cmp_Compare_int : (El Y3) → (El Y3) → Option (El Y3) := fun a0 a1 =>
 Option.bind (F_cmp_isNaN_int a0) fun x0 =>
 Option.bind (F_cmp_isNaN_int a1) fun x1 =>
 bif x0 then bif x1 then some (0 : Int) else some (-1 : Int)
 else bif x1 then some (1 : Int) else bif decide (a0 < a1) then some (-1 : Int) else bif decide (a1 < a0) then some (1 : Int) else some (0 : Int)
abbrev F_cmp_Compare_intA : Pats := (.cons (.pd Y3) (.cons (.pd Y3) .nil))
abbrev F_cmp_Compare_intR : Pats := (.cons (.pd Y3) .nil)
noncomputable def F_cmp_Compare_intS : Tr.Spec := { args := F_cmp_Compare_intA, res := F_cmp_Compare_intR, fns := [], α := El Y3, f := fun x => F_cmp_Compare_int x.1 x.2.1, unp := fun z => (((), (), ()), (z, ())) }
noncomputable def F_cmp_Compare_intM : List (Nat × List Tr.Spec) := [(42, [F_cmp_isNaN_intS])]
def F_cmp_Compare_intH : Hint := .leaf
noncomputable def F_cmp_Compare_intV (a0 : El Y3) (a1 : El Y3) : Option (El Y3) := evalF (mkE tyTab mapTab pkTab [] [] F_cmp_Compare_intM 20) (codeOf Try.f36) Try.f36.results F_cmp_Compare_intH F_cmp_Compare_intA F_cmp_Compare_intR (fun y => y.2.1) (a0, a1, ())
theorem F_cmp_Compare_int_eq (a0 : El Y3) (a1 : El Y3) : F_cmp_Compare_intV a0 a1 = F_cmp_Compare_int a0 a1 := by kernel_rfl
theorem F_cmp_Compare_int_ok : FnOK Try.prog 36 F_cmp_Compare_intS := fnOK_of (m := F_cmp_Compare_intM) (fn := Try.f36) (hint := F_cmp_Compare_intH) (pack := fun y => y.2.1) hmix tab_ok ⟨⟨F_cmp_isNaN_int_ok, trivial⟩, trivial⟩ fun x z h => (F_cmp_Compare_int_eq x.1 x.2.1).trans h
noncomputable def F_footpath_closure_2 : (El Y42) → (El Y42) → Option (El Y3) := fun a0 a1 =>
 Option.bind (F_cmp_Compare_int a0.1 a1.1) fun x0 =>
 Option.bind (F_cmp_Compare_int a0.2.1 a1.2.1) fun x1 =>
 Option.bind (F_cmp_Compare_int a0.2.2.1 a1.2.2.1) fun x2 => Option.bind (F_cmp_Or_int [x0, x1, x2]) fun x3 => some x3
abbrev F_footpath_closure_2A : Pats := (.cons (.pd Y42) (.cons (.pd Y42) .nil))
abbrev F_footpath_closure_2R : Pats := (.cons (.pd Y3) .nil)
noncomputable def F_footpath_closure_2S : Tr.Spec := { args := F_footpath_closure_2A, res := F_footpath_closure_2R, fns := [], α := El Y3, f := fun x => F_footpath_closure_2 x.1 x.2.1, unp := fun z => (((), (), ()), (z, ())) }
noncomputable def F_footpath_closure_2M : List (Nat × List Tr.Spec) := [(35, [F_cmp_Or_intS]), (36, [F_cmp_Compare_intS])]
def F_footpath_closure_2H : Hint := .leaf
noncomputable def F_footpath_closure_2V (a0 : El Y42) (a1 : El Y42) : Option (El Y3) := evalF (mkE tyTab mapTab pkTab [] [] F_footpath_closure_2M 22) (codeOf Try.f34) Try.f34.results F_footpath_closure_2H F_footpath_closure_2A F_footpath_closure_2R (fun y => y.2.1) (a0, a1, ())
theorem F_footpath_closure_2_eq (a0 : El Y42) (a1 : El Y42) : F_footpath_closure_2V a0 a1 = F_footpath_closure_2 a0 a1 := by kernel_rfl
theorem F_footpath_closure_2_ok : FnOK Try.prog 34 F_footpath_closure_2S := fnOK_of (m := F_footpath_closure_2M) (fn := Try.f34) (hint := F_footpath_closure_2H) (pack := fun y => y.2.1) hmix tab_ok ⟨⟨F_cmp_Or_int_ok, trivial⟩, ⟨F_cmp_Compare_int_ok, trivial⟩, trivial⟩ fun x z h => (F_footpath_closure_2_eq x.1 x.2.1).trans h
noncomputable def F_slices_SortFunc_api_Footpath_api_Footpath_X_footpath_closure_2 (a0 : List (El Y42)) (_ : Unit) : Option (List (El Y42)) := Tr.sortF F_footpath_closure_2 a0
abbrev F_slices_SortFunc_api_Footpath_api_Footpath_X_footpath_closure_2A : Pats := (.cons (.own Y42 true) (.cons (.fn 34 .nil) .nil))
abbrev F_slices_SortFunc_api_Footpath_api_Footpath_X_footpath_closure_2R : Pats := .nil
noncomputable def F_slices_SortFunc_api_Footpath_api_Footpath_X_footpath_closure_2S : Tr.Spec := { args := F_slices_SortFunc_api_Footpath_api_Footpath_X_footpath_closure_2A, res := F_slices_SortFunc_api_Footpath_api_Footpath_X_footpath_closure_2R, fns := [34], α := List (El Y42), f := fun x => F_slices_SortFunc_api_Footpath_api_Footpath_X_footpath_closure_2 x.1 x.2.1, unp := fun z => ((z, (), ()), ()) }
theorem F_slices_SortFunc_api_Footpath_api_Footpath_X_footpath_closure_2_ok : FnOK Try.prog 33 F_slices_SortFunc_api_Footpath_api_Footpath_X_footpath_closure_2S := Tr.sortFunc_ok (ρ := Try.sort33_ren) Try.sort33 rfl Try.isAgg42 Try.sizeOf42 F_footpath_closure_2_ok
noncomputable def F_footpath_closure_1 : (El Y3) → (El Y3) → (El Y3) → (El Y4) → (List (El Y42)) → Option (List (El Y42)) := fun a0 a1 a2 a3 a4 =>
 Option.bind (bif decide ((0 : Int) < a2) then some (decide (a2 ≤ (14400 : Int))) else some false) fun x0 =>
 bif x0 then Option.bind (guardB (decide (List.length a4 + List.length [(a0, a1, a2, a3, ())] ≤ maxApp))) fun _ => some (a4 ++ [(a0, a1, a2, a3, ())]) else some a4
abbrev F_footpath_closure_1A : Pats := (.cons (.pd Y3) (.cons (.pd Y3) (.cons (.pd Y3) (.cons (.pd Y4) (.cons (.var Y22 (.own Y42 false)) .nil)))))
abbrev F_footpath_closure_1R : Pats := .nil
noncomputable def F_footpath_closure_1S : Tr.Spec := { args := F_footpath_closure_1A, res := F_footpath_closure_1R, fns := [], α := List (El Y42), f := fun x => F_footpath_closure_1 x.1 x.2.1 x.2.2.1 x.2.2.2.1 x.2.2.2.2.1, unp := fun z => (((), (), (), (), z, ()), ()) }
noncomputable def F_footpath_closure_1M : List (Nat × List Tr.Spec) := []
def F_footpath_closure_1H : Hint := (.seq (.reg [(14, Y4)]) .leaf)
noncomputable def F_footpath_closure_1V (a0 : El Y3) (a1 : El Y3) (a2 : El Y3) (a3 : El Y4) (a4 : List (El Y42)) : Option (List (El Y42)) := evalF (mkE tyTab mapTab pkTab [] [] F_footpath_closure_1M 23) (codeOf Try.f32) Try.f32.results F_footpath_closure_1H F_footpath_closure_1A F_footpath_closure_1R (fun y => y.1.2.2.2.2.1) (a0, a1, a2, a3, a4, ())
theorem F_footpath_closure_1_eq (a0 : El Y3) (a1 : El Y3) (a2 : El Y3) (a3 : El Y4) (a4 : List (El Y42)) : F_footpath_closure_1V a0 a1 a2 a3 a4 = F_footpath_closure_1 a0 a1 a2 a3 a4 := by kernel_rfl
theorem F_footpath_closure_1_ok : FnOK Try.prog 32 F_footpath_closure_1S := fnOK_of (m := F_footpath_closure_1M) (fn := Try.f32) (hint := F_footpath_closure_1H) (pack := fun y => y.1.2.2.2.2.1) hmix tab_ok trivial fun x z h => (F_footpath_closure_1_eq x.1 x.2.1 x.2.2.1 x.2.2.2.1 x.2.2.2.2.1).trans h
noncomputable def F_footpath_closure : (El Y22) → (El Y3) → Option (El Y22) := fun a0 a1 =>
 Option.bind (F_footpath_distances a0 a1 false) fun x0 =>
 Option.bind (F_footpath_distances a0 a1 true) fun x1 =>
 Option.bind
 (Tr.run
 (fun s2 =>
 bif decide (s2.2 < (↑(List.length x0) : Int)) then
 Option.bind (idx x0 s2.2) fun x3 =>
 Option.bind
 (Tr.run
 (fun s4 =>
 bif decide (s4.2 < (↑(List.length x3) : Int)) then
 Option.bind (idx x3 s4.2) fun x5 =>
 bif decide (s2.2 = s4.2) then some (.inl (s4.1, IntKind.wrap .i64 (s4.2 + (1 : Int))))
 else
 Option.bind (idx x1 s2.2) fun x6 =>
 Option.bind (idx x6 s4.2) fun x7 =>
 Option.bind (F_footpath_closure_1 s2.2 s4.2 x5 (decide (x7 = x5)) s4.1) fun x8 =>
 bif !decide (x7 = x5) then
 Option.bind (F_footpath_closure_1 s2.2 s4.2 x7 true x8) fun x9 => some (.inl (x9, IntKind.wrap .i64 (s4.2 + (1 : Int))))
 else some (.inl (x8, IntKind.wrap .i64 (s4.2 + (1 : Int))))
 else some (.inr s4.1))
 (s2.1, (0 : Int)))
 fun x10 => some (.inl (x10, IntKind.wrap .i64 (s2.2 + (1 : Int))))
 else some (.inr s2.1))
 ([], (0 : Int)))
 fun x11 => Option.bind (F_slices_SortFunc_api_Footpath_api_Footpath_X_footpath_closure_2 x11 ()) fun x12 => some x12
abbrev F_footpath_closureA : Pats := (.cons (.pd Y22) (.cons (.pd Y3) .nil))
abbrev F_footpath_closureR : Pats := (.cons (.pd Y22) .nil)
noncomputable def F_footpath_closureS : Tr.Spec := { args := F_footpath_closureA, res := F_footpath_closureR, fns := [], α := El Y22, f := fun x => F_footpath_closure x.1 x.2.1, unp := fun z => (((), (), ()), (z, ())) }
noncomputable def F_footpath_closureM : List (Nat × List Tr.Spec) := [(31, [F_footpath_distancesS]), (32, [F_footpath_closure_1S]), (33, [F_slices_SortFunc_api_Footpath_api_Footpath_X_footpath_closure_2S]), (34, [F_footpath_closure_2S])]
def F_footpath_closureH : Hint := (.seq .leaf (.seq .leaf (.seq .leaf (.seq .leaf (.seq (.seq .leaf (.lp ⟨[(7, (.var Y22 (.own Y42 false))), (22, (.pd Y3))], [(8, 32, [7])], [5, 6, 21], []⟩ [((.exit 0), ⟨[(7, (.var Y22 (.own Y42 false)))], [], [], []⟩)] (.seq .leaf (.seq .leaf (.seq (.seq .leaf (.seq .leaf (.lp ⟨[(7, (.var Y22 (.own Y42 false))), (30, (.pd Y3))], [(8, 32, [7])], [5, 6, 9, 21, 22, 28, 29], []⟩ [((.exit 2), ⟨[(7, (.var Y22 (.own Y42 false)))], [(8, 32, [7])], [5, 6, 21, 22], []⟩)] .leaf))) .leaf))))) .leaf)))))
noncomputable def F_footpath_closureV (a0 : El Y22) (a1 : El Y3) : Option (El Y22) := evalF (mkE tyTab mapTab pkTab [] [] F_footpath_closureM 66) (codeOf Try.f27) Try.f27.results F_footpath_closureH F_footpath_closureA F_footpath_closureR (fun y => y.2.1) (a0, a1, ())
theorem F_footpath_closure_eq (a0 : El Y22) (a1 : El Y3) : F_footpath_closureV a0 a1 = F_footpath_closure a0 a1 := by kernel_rfl
theorem F_footpath_closure_ok : FnOK Try.prog 27 F_footpath_closureS := fnOK_of (m := F_footpath_closureM) (fn := Try.f27) (hint := F_footpath_closureH) (pack := fun y => y.2.1) hmix tab_ok ⟨⟨F_footpath_distances_ok, trivial⟩, ⟨F_footpath_closure_1_ok, trivial⟩, ⟨F_slices_SortFunc_api_Footpath_api_Footpath_X_footpath_closure_2_ok, trivial⟩, ⟨F_footpath_closure_2_ok, trivial⟩, trivial⟩ fun x z h => (F_footpath_closure_eq x.1 x.2.1).trans h
noncomputable def F_footpath_Close : (El Y22) → (El Y3) → Option (El Y22 × El Y24) := fun a0 a1 =>
 bif decide ((64 : Int) < a1) then some ([], (5 : Int))
 else
 Option.bind (F_footpath_Check a0 a1) fun x0 =>
 bif !decide (x0.2 = (0 : Int)) then some ([], x0.2) else Option.bind (F_footpath_closure a0 (Tr.imax a1 (0 : Int))) fun x1 => some (x1, (0 : Int))
abbrev F_footpath_CloseA : Pats := (.cons (.pd Y22) (.cons (.pd Y3) .nil))
abbrev F_footpath_CloseR : Pats := (.cons (.pd Y22) (.cons (.pd Y24) .nil))
noncomputable def F_footpath_CloseS : Tr.Spec := { args := F_footpath_CloseA, res := F_footpath_CloseR, fns := [], α := El Y22 × El Y24, f := fun x => F_footpath_Close x.1 x.2.1, unp := fun z => (((), (), ()), (z.1, z.2, ())) }
noncomputable def F_footpath_CloseM : List (Nat × List Tr.Spec) := [(12, [F_footpath_CheckS]), (27, [F_footpath_closureS])]
def F_footpath_CloseH : Hint := .leaf
noncomputable def F_footpath_CloseV (a0 : El Y22) (a1 : El Y3) : Option (El Y22 × El Y24) := evalF (mkE tyTab mapTab pkTab [] [] F_footpath_CloseM 23) (codeOf Try.f14) Try.f14.results F_footpath_CloseH F_footpath_CloseA F_footpath_CloseR (fun y => (y.2.1, y.2.2.1)) (a0, a1, ())
theorem F_footpath_Close_eq (a0 : El Y22) (a1 : El Y3) : F_footpath_CloseV a0 a1 = F_footpath_Close a0 a1 := by kernel_rfl
theorem F_footpath_Close_ok : FnOK Try.prog 14 F_footpath_CloseS := fnOK_of (m := F_footpath_CloseM) (fn := Try.f14) (hint := F_footpath_CloseH) (pack := fun y => (y.2.1, y.2.2.1)) hmix tab_ok ⟨⟨F_footpath_Check_ok, trivial⟩, ⟨F_footpath_closure_ok, trivial⟩, trivial⟩ fun x z h => (F_footpath_Close_eq x.1 x.2.1).trans h
noncomputable def F_law20_same : (El Y22) → (El Y22) → Option (El Y4) := fun a0 a1 =>
 bif !decide ((↑(List.length a0) : Int) = (↑(List.length a1) : Int)) then some false
 else
 Option.bind
 (Tr.run
 (fun s0 =>
 bif decide (s0 < (↑(List.length a0) : Int)) then
 Option.bind (idx a0 s0) fun x1 =>
 Option.bind (idx a1 s0) fun x2 =>
 bif
 !(decide (x1.1 = x2.1) &&
 (decide (x1.2.1 = x2.2.1) && (decide (x1.2.2.1 = x2.2.2.1) && x1.2.2.2.1 == x2.2.2.2.1))) then
 some (.inr (.inr false))
 else some (.inl (IntKind.wrap .i64 (s0 + (1 : Int))))
 else some (.inr (.inl ())))
 (0 : Int))
 fun x3 => Sum.elim (fun _ => some true) (fun y5 => some y5) x3
abbrev F_law20_sameA : Pats := (.cons (.pd Y22) (.cons (.pd Y22) .nil))
abbrev F_law20_sameR : Pats := (.cons (.pd Y4) .nil)
noncomputable def F_law20_sameS : Tr.Spec := { args := F_law20_sameA, res := F_law20_sameR, fns := [], α := El Y4, f := fun x => F_law20_same x.1 x.2.1, unp := fun z => (((), (), ()), (z, ())) }
noncomputable def F_law20_sameM : List (Nat × List Tr.Spec) := []
def F_law20_sameH : Hint := (.seq .leaf (.seq .leaf (.seq (.seq .leaf (.lp ⟨[(5, (.pd Y3))], [], [0, 1], []⟩ [((.exit 0), ⟨[], [], [], []⟩), (.ret, ⟨[(4, (.pd Y4))], [], [], []⟩)] .leaf)) .leaf)))
noncomputable def F_law20_sameV (a0 : El Y22) (a1 : El Y22) : Option (El Y4) := evalF (mkE tyTab mapTab pkTab [] [] F_law20_sameM 26) (codeOf Try.f16) Try.f16.results F_law20_sameH F_law20_sameA F_law20_sameR (fun y => y.2.1) (a0, a1, ())
theorem F_law20_same_eq (a0 : El Y22) (a1 : El Y22) : F_law20_sameV a0 a1 = F_law20_same a0 a1 := by kernel_rfl
theorem F_law20_same_ok : FnOK Try.prog 16 F_law20_sameS := fnOK_of (m := F_law20_sameM) (fn := Try.f16) (hint := F_law20_sameH) (pack := fun y => y.2.1) hmix tab_ok trivial fun x z h => (F_law20_same_eq x.1 x.2.1).trans h
noncomputable def F_footpath_Time : (El Y22) → (El Y3) → (El Y3) → (El Y4) → Option (El Y3 × El Y4) := fun a0 a1 a2 a3 =>
 Option.bind
 (Tr.run
 (fun s0 =>
 bif decide (s0.2.2 < (↑(List.length a0) : Int)) then
 Option.bind (idx a0 s0.2.2) fun x1 =>
 Option.bind
 (bif !decide (x1.1 = a1) then some true
 else bif !decide (x1.2.1 = a2) then some true else bif a3 then some !x1.2.2.2.1 else some false)
 fun x2 =>
 bif x2 then some (.inl (s0.1, s0.2.1, IntKind.wrap .i64 (s0.2.2 + (1 : Int))))
 else
 Option.bind (bif !s0.2.1 then some true else some (decide (x1.2.2.1 < s0.1))) fun x3 =>
 bif x3 then some (.inl (x1.2.2.1, true, IntKind.wrap .i64 (s0.2.2 + (1 : Int))))
 else some (.inl (s0.1, s0.2.1, IntKind.wrap .i64 (s0.2.2 + (1 : Int))))
 else some (.inr (s0.1, s0.2.1)))
 ((0 : Int), false, (0 : Int)))
 fun x4 => some (x4.1, x4.2)
abbrev F_footpath_TimeA : Pats := (.cons (.pd Y22) (.cons (.pd Y3) (.cons (.pd Y3) (.cons (.pd Y4) .nil))))
abbrev F_footpath_TimeR : Pats := (.cons (.pd Y3) (.cons (.pd Y4) .nil))
noncomputable def F_footpath_TimeS : Tr.Spec := { args := F_footpath_TimeA, res := F_footpath_TimeR, fns := [], α := El Y3 × El Y4, f := fun x => F_footpath_Time x.1 x.2.1 x.2.2.1 x.2.2.2.1, unp := fun z => (((), (), (), (), ()), (z.1, z.2, ())) }
noncomputable def F_footpath_TimeM : List (Nat × List Tr.Spec) := []
def F_footpath_TimeH : Hint := (.seq .leaf (.seq .leaf (.seq (.seq .leaf (.lp ⟨[(10, (.pd Y3)), (11, (.pd Y4)), (16, (.pd Y3))], [], [1, 2, 3, 14, 15], []⟩ [((.exit 0), ⟨[(10, (.pd Y3)), (11, (.pd Y4))], [], [], []⟩)] (.seq .leaf (.seq .leaf (.seq (.seq .leaf (.seq (.seq (.reg [(37, Y4)]) .leaf) (.seq (.reg [(45, Y4)]) .leaf))) .leaf))))) .leaf)))
noncomputable def F_footpath_TimeV (a0 : El Y22) (a1 : El Y3) (a2 : El Y3) (a3 : El Y4) : Option (El Y3 × El Y4) := evalF (mkE tyTab mapTab pkTab [] [] F_footpath_TimeM 51) (codeOf Try.f17) Try.f17.results F_footpath_TimeH F_footpath_TimeA F_footpath_TimeR (fun y => (y.2.1, y.2.2.1)) (a0, a1, a2, a3, ())
theorem F_footpath_Time_eq (a0 : El Y22) (a1 : El Y3) (a2 : El Y3) (a3 : El Y4) : F_footpath_TimeV a0 a1 a2 a3 = F_footpath_Time a0 a1 a2 a3 := by kernel_rfl
theorem F_footpath_Time_ok : FnOK Try.prog 17 F_footpath_TimeS := fnOK_of (m := F_footpath_TimeM) (fn := Try.f17) (hint := F_footpath_TimeH) (pack := fun y => (y.2.1, y.2.2.1)) hmix tab_ok trivial fun x z h => (F_footpath_Time_eq x.1 x.2.1 x.2.2.1 x.2.2.2.1).trans h
noncomputable def F_law20_ints : (El Y39) → (El Y39) → Option (El Y4) := fun a0 a1 =>
 bif !decide ((↑(List.length a0) : Int) = (↑(List.length a1) : Int)) then some false
 else
 Option.bind
 (Tr.run
 (fun s0 =>
 bif decide (s0 < (↑(List.length a0) : Int)) then
 Option.bind (idx a0 s0) fun x1 =>
 Option.bind (idx a1 s0) fun x2 =>
 bif !decide (x1 = x2) then some (.inr (.inr false)) else some (.inl (IntKind.wrap .i64 (s0 + (1 : Int))))
 else some (.inr (.inl ())))
 (0 : Int))
 fun x3 => Sum.elim (fun _ => some true) (fun y5 => some y5) x3
abbrev F_law20_intsA : Pats := (.cons (.pd Y39) (.cons (.pd Y39) .nil))
abbrev F_law20_intsR : Pats := (.cons (.pd Y4) .nil)
noncomputable def F_law20_intsS : Tr.Spec := { args := F_law20_intsA, res := F_law20_intsR, fns := [], α := El Y4, f := fun x => F_law20_ints x.1 x.2.1, unp := fun z => (((), (), ()), (z, ())) }
noncomputable def F_law20_intsM : List (Nat × List Tr.Spec) := []
def F_law20_intsH : Hint := (.seq .leaf (.seq .leaf (.seq (.seq .leaf (.lp ⟨[(5, (.pd Y3))], [], [0, 1], []⟩ [((.exit 0), ⟨[], [], [], []⟩), (.ret, ⟨[(4, (.pd Y4))], [], [], []⟩)] .leaf)) .leaf)))
noncomputable def F_law20_intsV (a0 : El Y39) (a1 : El Y39) : Option (El Y4) := evalF (mkE tyTab mapTab pkTab [] [] F_law20_intsM 26) (codeOf Try.f19) Try.f19.results F_law20_intsH F_law20_intsA F_law20_intsR (fun y => y.2.1) (a0, a1, ())
theorem F_law20_ints_eq (a0 : El Y39) (a1 : El Y39) : F_law20_intsV a0 a1 = F_law20_ints a0 a1 := by kernel_rfl
theorem F_law20_ints_ok : FnOK Try.prog 19 F_law20_intsS := fnOK_of (m := F_law20_intsM) (fn := Try.f19) (hint := F_law20_intsH) (pack := fun y => y.2.1) hmix tab_ok trivial fun x z h => (F_law20_ints_eq x.1 x.2.1).trans h
def F_slices_Sort_int_int (a0 : List (El Y3)) : Option (List (El Y3)) := Tr.sortI a0
abbrev F_slices_Sort_int_intA : Pats := (.cons (.own Y3 true) .nil)
abbrev F_slices_Sort_int_intR : Pats := .nil
noncomputable def F_slices_Sort_int_intS : Tr.Spec := { args := F_slices_Sort_int_intA, res := F_slices_Sort_int_intR, fns := [], α := List (El Y3), f := fun x => F_slices_Sort_int_int x.1, unp := fun z => ((z, ()), ()) }
theorem F_slices_Sort_int_int_ok : FnOK Try.prog 29 F_slices_Sort_int_intS := Tr.sortInt_ok (ρ := Try.sort29_ren) Try.sort29 ⟨_, Try.func29, rfl, rfl⟩
def F_slices_Compact_int_int (a0 : List (El Y3)) : Option (List (El Y3)) := Tr.compactI a0
abbrev F_slices_Compact_int_intA : Pats := (.cons (.own Y3 false) .nil)
abbrev F_slices_Compact_int_intR : Pats := (.cons (.own Y3 false) .nil)
noncomputable def F_slices_Compact_int_intS : Tr.Spec := { args := F_slices_Compact_int_intA, res := F_slices_Compact_int_intR, fns := [], α := List (El Y3), f := fun x => F_slices_Compact_int_int x.1, unp := fun z => (((), ()), (z, ())) }
theorem F_slices_Compact_int_int_ok : FnOK Try.prog 30 F_slices_Compact_int_intS := Tr.compactInt_ok (ρ := Try.comp30_ren) Try.comp30 ⟨_, Try.func30, rfl, rfl⟩
noncomputable def F_footpath_Around : (El Y22) → (El Y3) → (El Y3) → (El Y4) → Option (El Y39) := fun a0 a1 a2 a3 =>
 Option.bind
 (Tr.run
 (fun s0 =>
 bif decide (s0.2 < (↑(List.length a0) : Int)) then
 Option.bind (idx a0 s0.2) fun x1 =>
 Option.bind
 (bif !decide (x1.1 = a1) then some true
 else bif decide (a2 < x1.2.2.1) then some true else bif a3 then some !x1.2.2.2.1 else some false)
 fun x2 =>
 bif x2 then some (.inl (s0.1, IntKind.wrap .i64 (s0.2 + (1 : Int))))
 else
 Option.bind (guardB (decide (List.length s0.1 + List.length [x1.2.1] ≤ maxApp))) fun _ =>
 some (.inl (s0.1 ++ [x1.2.1], IntKind.wrap .i64 (s0.2 + (1 : Int))))
 else some (.inr s0.1))
 ([], (0 : Int)))
 fun x4 => Option.bind (F_slices_Sort_int_int x4) fun x5 => Option.bind (F_slices_Compact_int_int x5) fun x6 => some x6
abbrev F_footpath_AroundA : Pats := (.cons (.pd Y22) (.cons (.pd Y3) (.cons (.pd Y3) (.cons (.pd Y4) .nil))))
abbrev F_footpath_AroundR : Pats := (.cons (.pd Y39) .nil)
noncomputable def F_footpath_AroundS : Tr.Spec := { args := F_footpath_AroundA, res := F_footpath_AroundR, fns := [], α := El Y39, f := fun x => F_footpath_Around x.1 x.2.1 x.2.2.1 x.2.2.2.1, unp := fun z => (((), (), (), (), ()), (z, ())) }
noncomputable def F_footpath_AroundM : List (Nat × List Tr.Spec) := [(29, [F_slices_Sort_int_intS]), (30, [F_slices_Compact_int_intS])]
def F_footpath_AroundH : Hint := (.seq .leaf (.seq .leaf (.seq (.seq .leaf (.lp ⟨[(9, (.own Y3 false)), (14, (.pd Y3))], [], [1, 2, 3, 12, 13], []⟩ [((.exit 0), ⟨[(9, (.own Y3 false))], [], [], []⟩)] (.seq .leaf (.seq .leaf (.seq (.seq .leaf (.seq (.seq (.reg [(35, Y4)]) .leaf) .leaf)) .leaf))))) .leaf)))
noncomputable def F_footpath_AroundV (a0 : El Y22) (a1 : El Y3) (a2 : El Y3) (a3 : El Y4) : Option (El Y39) := evalF (mkE tyTab mapTab pkTab [] [] F_footpath_AroundM 46) (codeOf Try.f20) Try.f20.results F_footpath_AroundH F_footpath_AroundA F_footpath_AroundR (fun y => y.2.1) (a0, a1, a2, a3, ())
theorem F_footpath_Around_eq (a0 : El Y22) (a1 : El Y3) (a2 : El Y3) (a3 : El Y4) : F_footpath_AroundV a0 a1 a2 a3 = F_footpath_Around a0 a1 a2 a3 := by kernel_rfl
theorem F_footpath_Around_ok : FnOK Try.prog 20 F_footpath_AroundS := fnOK_of (m := F_footpath_AroundM) (fn := Try.f20) (hint := F_footpath_AroundH) (pack := fun y => y.2.1) hmix tab_ok ⟨⟨F_slices_Sort_int_int_ok, trivial⟩, ⟨F_slices_Compact_int_int_ok, trivial⟩, trivial⟩ fun x z h => (F_footpath_Around_eq x.1 x.2.1 x.2.2.1 x.2.2.2.1).trans h
noncomputable def F_footpath_IsClosed : (El Y22) → (El Y3) → Option (El Y4) := fun a0 a1 =>
 bif decide ((64 : Int) < a1) then some false
 else
 Option.bind (F_footpath_sound a0 a1) fun x0 =>
 bif !decide (x0.2 = (0 : Int)) then some false
 else
 Option.bind (F_footpath_closure a0 (Tr.imax a1 (0 : Int))) fun x1 =>
 bif !decide ((↑(List.length x1) : Int) = (↑(List.length a0) : Int)) then some false
 else
 Option.bind
 (Tr.run
 (fun s2 =>
 bif decide (s2 < (↑(List.length x1) : Int)) then
 Option.bind (idx x1 s2) fun x3 =>
 Option.bind (idx a0 s2) fun x4 =>
 bif
 !(decide (x3.1 = x4.1) &&
 (decide (x3.2.1 = x4.2.1) && (decide (x3.2.2.1 = x4.2.2.1) && x3.2.2.2.1 == x4.2.2.2.1))) then
 some (.inr (.inr false))
 else some (.inl (IntKind.wrap .i64 (s2 + (1 : Int))))
 else some (.inr (.inl ())))
 (0 : Int))
 fun x5 => Sum.elim (fun _ => some true) (fun y7 => some y7) x5
abbrev F_footpath_IsClosedA : Pats := (.cons (.pd Y22) (.cons (.pd Y3) .nil))
abbrev F_footpath_IsClosedR : Pats := (.cons (.pd Y4) .nil)
noncomputable def F_footpath_IsClosedS : Tr.Spec := { args := F_footpath_IsClosedA, res := F_footpath_IsClosedR, fns := [], α := El Y4, f := fun x => F_footpath_IsClosed x.1 x.2.1, unp := fun z => (((), (), ()), (z, ())) }
noncomputable def F_footpath_IsClosedM : List (Nat × List Tr.Spec) := [(25, [F_footpath_soundS]), (27, [F_footpath_closureS])]
def F_footpath_IsClosedH : Hint := (.seq .leaf (.seq .leaf (.seq .leaf (.seq .leaf (.seq .leaf (.seq (.seq .leaf (.lp ⟨[(30, (.pd Y3))], [], [0, 7, 29], []⟩ [((.exit 0), ⟨[], [], [], []⟩), (.ret, ⟨[(4, (.pd Y4))], [], [], []⟩)] .leaf)) .leaf))))))
noncomputable def F_footpath_IsClosedV (a0 : El Y22) (a1 : El Y3) : Option (El Y4) := evalF (mkE tyTab mapTab pkTab [] [] F_footpath_IsClosedM 43) (codeOf Try.f22) Try.f22.results F_footpath_IsClosedH F_footpath_IsClosedA F_footpath_IsClosedR (fun y => y.2.1) (a0, a1, ())
theorem F_footpath_IsClosed_eq (a0 : El Y22) (a1 : El Y3) : F_footpath_IsClosedV a0 a1 = F_footpath_IsClosed a0 a1 := by kernel_rfl
theorem F_footpath_IsClosed_ok : FnOK Try.prog 22 F_footpath_IsClosedS := fnOK_of (m := F_footpath_IsClosedM) (fn := Try.f22) (hint := F_footpath_IsClosedH) (pack := fun y => y.2.1) hmix tab_ok ⟨⟨F_footpath_sound_ok, trivial⟩, ⟨F_footpath_closure_ok, trivial⟩, trivial⟩ fun x z h => (F_footpath_IsClosed_eq x.1 x.2.1).trans h
noncomputable def F_law20_example : Option (El Y22) := some [((0 : Int), (1 : Int), (60 : Int), true, ()), ((1 : Int), (2 : Int), (60 : Int), false, ()), ((0 : Int), (2 : Int), (200 : Int), true, ())]
abbrev F_law20_exampleA : Pats := .nil
abbrev F_law20_exampleR : Pats := (.cons (.pd Y22) .nil)
noncomputable def F_law20_exampleS : Tr.Spec := { args := F_law20_exampleA, res := F_law20_exampleR, fns := [], α := El Y22, f := fun _ => F_law20_example, unp := fun z => ((), (z, ())) }
noncomputable def F_law20_exampleM : List (Nat × List Tr.Spec) := []
def F_law20_exampleH : Hint := .leaf
noncomputable def F_law20_exampleV : Option (El Y22) := evalF (mkE tyTab mapTab pkTab [] [] F_law20_exampleM 5) (codeOf Try.f24) Try.f24.results F_law20_exampleH F_law20_exampleA F_law20_exampleR (fun y => y.2.1) (())
theorem F_law20_example_eq  : F_law20_exampleV  = F_law20_example  := by kernel_rfl
theorem F_law20_example_ok : FnOK Try.prog 24 F_law20_exampleS := fnOK_of (m := F_law20_exampleM) (fn := Try.f24) (hint := F_law20_exampleH) (pack := fun y => y.2.1) hmix tab_ok trivial fun _ z h => (F_law20_example_eq ).trans h
noncomputable def F_law20_exampleHolds : Option (El Y4) := Option.bind F_law20_example fun x0 =>
 Option.bind (F_footpath_Close x0 (3 : Int)) fun x1 =>
 Option.bind (bif !decide (x1.2 = (0 : Int)) then some true else some !decide ((↑(List.length x1.1) : Int) = (4 : Int))) fun x2 =>
 bif x2 then some false
 else
 Option.bind (F_footpath_Time x1.1 (0 : Int) (2 : Int) false) fun x3 =>
 Option.bind (F_footpath_Time x1.1 (0 : Int) (2 : Int) true) fun x4 =>
 Option.bind (F_footpath_Time x1.1 (2 : Int) (0 : Int) false) fun x5 =>
 Option.bind F_law20_example fun x6 =>
 Option.bind (F_footpath_Check x6 (2 : Int)) fun x7 =>
 Option.bind
 (F_law20_same x1.1
 [((0 : Int), (1 : Int), (60 : Int), true, ()), ((0 : Int), (2 : Int), (120 : Int), false, ()), ((0 : Int), (2 : Int), (200 : Int), true, ()),
 ((1 : Int), (2 : Int), (60 : Int), false, ())])
 fun x8 =>
 bif x8 then
 bif decide (x3.1 = (120 : Int)) then
 bif x3.2 then
 bif decide (x4.1 = (200 : Int)) then
 bif x4.2 then
 bif !x5.2 then
 Option.bind (F_footpath_Around x1.1 (0 : Int) (150 : Int) false) fun x9 =>
 Option.bind (F_law20_ints x9 [(1 : Int), (2 : Int)]) fun x10 =>
 bif x10 then
 Option.bind (F_footpath_Around x1.1 (0 : Int) (150 : Int) true) fun x11 =>
 Option.bind (F_law20_ints x11 [(1 : Int)]) fun x12 =>
 bif x12 then
 Option.bind (F_footpath_IsClosed x1.1 (3 : Int)) fun x13 =>
 bif x13 then
 Option.bind F_law20_example fun x14 =>
 Option.bind (F_footpath_IsClosed x14 (3 : Int)) fun x15 =>
 bif !x15 then bif decide (x7.1 = (1 : Int)) then some (decide (x7.2 = (9 : Int))) else some false
 else some false
 else some false
 else some false
 else some false
 else some false
 else some false
 else some false
 else some false
 else some false
 else some false
abbrev F_law20_exampleHoldsA : Pats := .nil
abbrev F_law20_exampleHoldsR : Pats := (.cons (.pd Y4) .nil)
noncomputable def F_law20_exampleHoldsS : Tr.Spec := { args := F_law20_exampleHoldsA, res := F_law20_exampleHoldsR, fns := [], α := El Y4, f := fun _ => F_law20_exampleHolds, unp := fun z => ((), (z, ())) }
noncomputable def F_law20_exampleHoldsM : List (Nat × List Tr.Spec) := [(12, [F_footpath_CheckS]), (14, [F_footpath_CloseS]), (16, [F_law20_sameS]), (17, [F_footpath_TimeS]), (19, [F_law20_intsS]), (20, [F_footpath_AroundS]), (22, [F_footpath_IsClosedS]), (24, [F_law20_exampleS])]
def F_law20_exampleHoldsH : Hint := (.seq .leaf (.seq .leaf (.seq (.seq (.reg [(23, Y4)]) .leaf) .leaf)))
noncomputable def F_law20_exampleHoldsV : Option (El Y4) := evalF (mkE tyTab mapTab pkTab [] [] F_law20_exampleHoldsM 99) (codeOf Try.f11) Try.f11.results F_law20_exampleHoldsH F_law20_exampleHoldsA F_law20_exampleHoldsR (fun y => y.2.1) (())
theorem F_law20_exampleHolds_eq  : F_law20_exampleHoldsV  = F_law20_exampleHolds  := by kernel_rfl
theorem F_law20_exampleHolds_ok : FnOK Try.prog 11 F_law20_exampleHoldsS := fnOK_of (m := F_law20_exampleHoldsM) (fn := Try.f11) (hint := F_law20_exampleHoldsH) (pack := fun y => y.2.1) hmix tab_ok ⟨⟨F_footpath_Check_ok, trivial⟩, ⟨F_footpath_Close_ok, trivial⟩, ⟨F_law20_same_ok, trivial⟩, ⟨F_footpath_Time_ok, trivial⟩, ⟨F_law20_ints_ok, trivial⟩, ⟨F_footpath_Around_ok, trivial⟩, ⟨F_footpath_IsClosed_ok, trivial⟩, ⟨F_law20_example_ok, trivial⟩, trivial⟩ fun _ z h => (F_law20_exampleHolds_eq ).trans h
noncomputable def F_ref20_valid : (El Y22) → (El Y3) → Option (El Y3 × El Y3) := fun a0 a1 =>
 Option.bind
 (Tr.run
 (fun s0 =>
 bif decide (s0 < (↑(List.length a0) : Int)) then
 Option.bind (idx a0 s0) fun x1 =>
 Option.bind
 (bif decide (x1.1 < (0 : Int)) then some true
 else
 bif decide (a1 ≤ x1.1) then some true
 else
 bif decide (x1.2.1 < (0 : Int)) then some true
 else bif decide (a1 ≤ x1.2.1) then some true else some (decide (x1.1 = x1.2.1)))
 fun x2 =>
 bif x2 then some (.inr (.inr (s0, (9 : Int))))
 else
 Option.bind (bif decide (x1.2.2.1 < (1 : Int)) then some true else some (decide ((14400 : Int) < x1.2.2.1))) fun x3 =>
 bif x3 then some (.inr (.inr (s0, (2 : Int))))
 else
 Option.bind
 (Tr.run
 (fun s4 =>
 bif decide (s4 < s0) then
 Option.bind
 (Option.bind (idx a0 s4) fun x5 =>
 bif decide (x5.1 = x1.1) then
 Option.bind (idx a0 s4) fun x6 =>
 bif decide (x6.2.1 = x1.2.1) then Option.bind (idx a0 s4) fun x7 => some (x7.2.2.2.1 == x1.2.2.2.1)
 else some false
 else some false)
 fun x8 => bif x8 then some (.inr (.inr (s0, (6 : Int)))) else some (.inl (IntKind.wrap .i64 (s4 + (1 : Int))))
 else some (.inr (.inl ())))
 (0 : Int))
 fun x9 => Sum.elim (fun _ => some (.inl (IntKind.wrap .i64 (s0 + (1 : Int))))) (fun y11 => some (.inr (.inr (y11.1, y11.2)))) x9
 else some (.inr (.inl ())))
 (0 : Int))
 fun x12 => Sum.elim (fun _ => some ((0 : Int), (0 : Int))) (fun y14 => some (y14.1, y14.2)) x12
abbrev F_ref20_validA : Pats := (.cons (.pd Y22) (.cons (.pd Y3) .nil))
abbrev F_ref20_validR : Pats := (.cons (.pd Y3) (.cons (.pd Y3) .nil))
noncomputable def F_ref20_validS : Tr.Spec := { args := F_ref20_validA, res := F_ref20_validR, fns := [], α := El Y3 × El Y3, f := fun x => F_ref20_valid x.1 x.2.1, unp := fun z => (((), (), ()), (z.1, z.2, ())) }
noncomputable def F_ref20_validM : List (Nat × List Tr.Spec) := []
def F_ref20_validH : Hint := (.seq .leaf (.seq (.seq .leaf (.lp ⟨[(6, (.pd Y3))], [], [0, 1], []⟩ [((.exit 0), ⟨[], [], [], []⟩), (.ret, ⟨[(4, (.pd Y3)), (5, (.pd Y3))], [], [], []⟩)] (.seq .leaf (.seq (.seq .leaf (.seq (.seq (.reg [(45, Y4)]) .leaf) (.seq (.seq (.reg [(54, Y4)]) .leaf) (.seq .leaf (.lp ⟨[(8, (.pd Y3))], [], [0, 1, 6, 7], []⟩ [((.exit 2), ⟨[], [], [0, 1, 6], []⟩), (.ret, ⟨[(4, (.pd Y3)), (5, (.pd Y3))], [], [], []⟩)] (.seq .leaf (.seq (.seq (.reg [(88, Y4)]) .leaf) .leaf))))))) .leaf)))) .leaf))
noncomputable def F_ref20_validV (a0 : El Y22) (a1 : El Y3) : Option (El Y3 × El Y3) := evalF (mkE tyTab mapTab pkTab [] [] F_ref20_validM 90) (codeOf Try.f26) Try.f26.results F_ref20_validH F_ref20_validA F_ref20_validR (fun y => (y.2.1, y.2.2.1)) (a0, a1, ())
theorem F_ref20_valid_eq (a0 : El Y22) (a1 : El Y3) : F_ref20_validV a0 a1 = F_ref20_valid a0 a1 := by kernel_rfl
theorem F_ref20_valid_ok : FnOK Try.prog 26 F_ref20_validS := fnOK_of (m := F_ref20_validM) (fn := Try.f26) (hint := F_ref20_validH) (pack := fun y => (y.2.1, y.2.2.1)) hmix tab_ok trivial fun x z h => (F_ref20_valid_eq x.1 x.2.1).trans h
noncomputable def F_ref20_Check : (El Y22) → (El Y3) → Option (El Y3 × El Y3) := fun a0 a1 => bif decide ((512 : Int) < (↑(List.length a0) : Int)) then some ((0 : Int), (5 : Int)) else Option.bind (F_ref20_valid a0 a1) fun x0 => some (x0.1, x0.2)
abbrev F_ref20_CheckA : Pats := (.cons (.pd Y22) (.cons (.pd Y3) .nil))
abbrev F_ref20_CheckR : Pats := (.cons (.pd Y3) (.cons (.pd Y3) .nil))
noncomputable def F_ref20_CheckS : Tr.Spec := { args := F_ref20_CheckA, res := F_ref20_CheckR, fns := [], α := El Y3 × El Y3, f := fun x => F_ref20_Check x.1 x.2.1, unp := fun z => (((), (), ()), (z.1, z.2, ())) }
noncomputable def F_ref20_CheckM : List (Nat × List Tr.Spec) := [(26, [F_ref20_validS])]
def F_ref20_CheckH : Hint := .leaf
noncomputable def F_ref20_CheckV (a0 : El Y22) (a1 : El Y3) : Option (El Y3 × El Y3) := evalF (mkE tyTab mapTab pkTab [] [] F_ref20_CheckM 14) (codeOf Try.f13) Try.f13.results F_ref20_CheckH F_ref20_CheckA F_ref20_CheckR (fun y => (y.2.1, y.2.2.1)) (a0, a1, ())
theorem F_ref20_Check_eq (a0 : El Y22) (a1 : El Y3) : F_ref20_CheckV a0 a1 = F_ref20_Check a0 a1 := by kernel_rfl
theorem F_ref20_Check_ok : FnOK Try.prog 13 F_ref20_CheckS := fnOK_of (m := F_ref20_CheckM) (fn := Try.f13) (hint := F_ref20_CheckH) (pack := fun y => (y.2.1, y.2.2.1)) hmix tab_ok ⟨⟨F_ref20_valid_ok, trivial⟩, trivial⟩ fun x z h => (F_ref20_Check_eq x.1 x.2.1).trans h
noncomputable def F_law20_FootpathChecks : (El Y22) → (El Y3) → Option (El Y4) := fun a0 a1 =>
 bif decide ((600 : Int) < (↑(List.length a0) : Int)) then Option.bind F_law20_exampleHolds fun x0 => some x0
 else
 Option.bind (F_footpath_Check a0 a1) fun x1 =>
 Option.bind (F_ref20_Check a0 a1) fun x2 =>
 Option.bind
 (bif decide (x1.1 = x2.1) then bif decide (x1.2 = x2.2) then Option.bind F_law20_exampleHolds fun x3 => some x3 else some false
 else some false)
 fun x4 => some x4
abbrev F_law20_FootpathChecksA : Pats := (.cons (.pd Y22) (.cons (.pd Y3) .nil))
abbrev F_law20_FootpathChecksR : Pats := (.cons (.pd Y4) .nil)
noncomputable def F_law20_FootpathChecksS : Tr.Spec := { args := F_law20_FootpathChecksA, res := F_law20_FootpathChecksR, fns := [], α := El Y4, f := fun x => F_law20_FootpathChecks x.1 x.2.1, unp := fun z => (((), (), ()), (z, ())) }
noncomputable def F_law20_FootpathChecksM : List (Nat × List Tr.Spec) := [(11, [F_law20_exampleHoldsS]), (12, [F_footpath_CheckS]), (13, [F_ref20_CheckS])]
def F_law20_FootpathChecksH : Hint := (.seq .leaf (.seq .leaf (.seq .leaf (.seq .leaf (.seq (.reg [(4, Y4)]) .leaf)))))
noncomputable def F_law20_FootpathChecksV (a0 : El Y22) (a1 : El Y3) : Option (El Y4) := evalF (mkE tyTab mapTab pkTab [] [] F_law20_FootpathChecksM 36) (codeOf Try.f3) Try.f3.results F_law20_FootpathChecksH F_law20_FootpathChecksA F_law20_FootpathChecksR (fun y => y.2.1) (a0, a1, ())
theorem F_law20_FootpathChecks_eq (a0 : El Y22) (a1 : El Y3) : F_law20_FootpathChecksV a0 a1 = F_law20_FootpathChecks a0 a1 := by kernel_rfl
theorem F_law20_FootpathChecks_ok : FnOK Try.prog 3 F_law20_FootpathChecksS := fnOK_of (m := F_law20_FootpathChecksM) (fn := Try.f3) (hint := F_law20_FootpathChecksH) (pack := fun y => y.2.1) hmix tab_ok ⟨⟨F_law20_exampleHolds_ok, trivial⟩, ⟨F_footpath_Check_ok, trivial⟩, ⟨F_ref20_Check_ok, trivial⟩, trivial⟩ fun x z h => (F_law20_FootpathChecks_eq x.1 x.2.1).trans h
noncomputable def F_ref20_times : (El Y22) → (El Y3) → (El Y4) → Option (El Y51) := fun a0 a1 a2 =>
 Option.bind
 (Tr.run
 (fun s0 =>
 bif decide (s0.2 < a1) then
 Option.bind
 (Tr.run
 (fun s1 =>
 bif decide (s1.2.2 < a1) then
 Option.bind (guardB (decide (List.length s1.2.1 + List.length [(1099511627776 : Int)] ≤ maxApp))) fun _ =>
 some (.inl (s1.1, s1.2.1 ++ [(1099511627776 : Int)], IntKind.wrap .i64 (s1.2.2 + (1 : Int))))
 else some (.inr (s1.1, s1.2.1)))
 (s0.1, [], (0 : Int)))
 fun x3 =>
 Option.bind (guardB (decide (List.length x3.1 + List.length [x3.2] ≤ maxApp))) fun _ =>
 some (.inl (x3.1 ++ [x3.2], IntKind.wrap .i64 (s0.2 + (1 : Int))))
 else some (.inr s0.1))
 ([], (0 : Int)))
 fun x5 =>
 Option.bind
 (Tr.run
 (fun s6 =>
 bif decide (s6.2 < (↑(List.length a0) : Int)) then
 Option.bind
 (Option.bind (idx a0 s6.2) fun x7 =>
 bif x7.2.2.2.1 then
 Option.bind (idx a0 s6.2) fun x8 =>
 Option.bind (idx a0 s6.2) fun x9 =>
 Option.bind (inb x9.1 (List.length s6.1)) fun x10 =>
 Option.bind s6.1[x10]? fun _ =>
 Option.bind (idx a0 s6.2) fun x12 =>
 Option.bind (idx s6.1 (↑x10 : Int)) fun x13 =>
 Option.bind (inb x12.2.1 (List.length x13)) fun x14 =>
 Option.bind (idx s6.1 (↑x10 : Int)) fun x15 => Option.bind x15[x14]? fun x16 => some (decide (x8.2.2.1 < x16))
 else
 bif !a2 then
 Option.bind (idx a0 s6.2) fun x17 =>
 Option.bind (idx a0 s6.2) fun x18 =>
 Option.bind (inb x18.1 (List.length s6.1)) fun x19 =>
 Option.bind s6.1[x19]? fun _ =>
 Option.bind (idx a0 s6.2) fun x21 =>
 Option.bind (idx s6.1 (↑x19 : Int)) fun x22 =>
 Option.bind (inb x21.2.1 (List.length x22)) fun x23 =>
 Option.bind (idx s6.1 (↑x19 : Int)) fun x24 => Option.bind x24[x23]? fun x25 => some (decide (x17.2.2.1 < x25))
 else some false)
 fun x26 =>
 bif x26 then
 Option.bind (idx a0 s6.2) fun x27 =>
 Option.bind (inb x27.1 (List.length s6.1)) fun x28 =>
 Option.bind s6.1[x28]? fun _ =>
 Option.bind (idx a0 s6.2) fun x30 =>
 Option.bind (idx a0 s6.2) fun x31 =>
 Option.bind (idx s6.1 (↑x28 : Int)) fun x32 =>
 Option.bind (inb x30.2.1 (List.length x32)) fun x33 =>
 Option.bind (idx s6.1 (↑x28 : Int)) fun x34 =>
 Option.bind x34[x33]? fun _ =>
 some (.inl (List.set s6.1 (Int.toNat (↑x28 : Int)) (List.set x34 x33 x31.2.2.1), IntKind.wrap .i64 (s6.2 + (1 : Int))))
 else some (.inl (s6.1, IntKind.wrap .i64 (s6.2 + (1 : Int))))
 else some (.inr s6.1))
 (x5, (0 : Int)))
 fun x36 =>
 Option.bind
 (Tr.run
 (fun s37 =>
 bif decide (s37.2 < a1) then
 Option.bind
 (Tr.run
 (fun s38 =>
 bif decide (s38.2 < a1) then
 Option.bind
 (Tr.run
 (fun s39 =>
 bif decide (s39.2 < a1) then
 Option.bind (inb s38.2 (List.length s39.1)) fun x40 =>
 Option.bind s39.1[x40]? fun _ =>
 Option.bind (idx s39.1 (↑x40 : Int)) fun x42 =>
 Option.bind (inb s37.2 (List.length x42)) fun x43 =>
 Option.bind (idx s39.1 (↑x40 : Int)) fun x44 =>
 Option.bind x44[x43]? fun x45 =>
 Option.bind (inb s37.2 (List.length s39.1)) fun x46 =>
 Option.bind s39.1[x46]? fun _ =>
 Option.bind (idx s39.1 (↑x46 : Int)) fun x48 =>
 Option.bind (inb s39.2 (List.length x48)) fun x49 =>
 Option.bind (idx s39.1 (↑x46 : Int)) fun x50 =>
 Option.bind x50[x49]? fun x51 =>
 Option.bind (inb s38.2 (List.length s39.1)) fun x52 =>
 Option.bind s39.1[x52]? fun _ =>
 Option.bind (idx s39.1 (↑x52 : Int)) fun x54 =>
 Option.bind (inb s39.2 (List.length x54)) fun x55 =>
 Option.bind (idx s39.1 (↑x52 : Int)) fun x56 =>
 Option.bind x56[x55]? fun x57 =>
 bif decide (IntKind.wrap .i64 (x45 + x51) < x57) then
 Option.bind (inb s38.2 (List.length s39.1)) fun x58 =>
 Option.bind s39.1[x58]? fun _ =>
 Option.bind (inb s38.2 (List.length s39.1)) fun x60 =>
 Option.bind s39.1[x60]? fun _ =>
 Option.bind (idx s39.1 (↑x60 : Int)) fun x62 =>
 Option.bind (inb s37.2 (List.length x62)) fun x63 =>
 Option.bind (idx s39.1 (↑x60 : Int)) fun x64 =>
 Option.bind x64[x63]? fun x65 =>
 Option.bind (inb s37.2 (List.length s39.1)) fun x66 =>
 Option.bind s39.1[x66]? fun _ =>
 Option.bind (idx s39.1 (↑x66 : Int)) fun x68 =>
 Option.bind (inb s39.2 (List.length x68)) fun x69 =>
 Option.bind (idx s39.1 (↑x66 : Int)) fun x70 =>
 Option.bind x70[x69]? fun x71 =>
 Option.bind (idx s39.1 (↑x58 : Int)) fun x72 =>
 Option.bind (inb s39.2 (List.length x72)) fun x73 =>
 Option.bind (idx s39.1 (↑x58 : Int)) fun x74 =>
 Option.bind x74[x73]? fun _ =>
 some
 (.inl
 (List.set s39.1 (Int.toNat (↑x58 : Int))
 (List.set x74 x73 (IntKind.wrap .i64 (x65 + x71))),
 IntKind.wrap .i64 (s39.2 + (1 : Int))))
 else some (.inl (s39.1, IntKind.wrap .i64 (s39.2 + (1 : Int))))
 else some (.inr s39.1))
 (s38.1, (0 : Int)))
 fun x76 => some (.inl (x76, IntKind.wrap .i64 (s38.2 + (1 : Int))))
 else some (.inr s38.1))
 (s37.1, (0 : Int)))
 fun x77 => some (.inl (x77, IntKind.wrap .i64 (s37.2 + (1 : Int))))
 else some (.inr s37.1))
 (x36, (0 : Int)))
 fun x78 => some x78
abbrev F_ref20_timesA : Pats := (.cons (.pd Y22) (.cons (.pd Y3) (.cons (.pd Y4) .nil)))
abbrev F_ref20_timesR : Pats := (.cons (.pd Y51) .nil)
noncomputable def F_ref20_timesS : Tr.Spec := { args := F_ref20_timesA, res := F_ref20_timesR, fns := [], α := El Y51, f := fun x => F_ref20_times x.1 x.2.1 x.2.2.1, unp := fun z => (((), (), (), ()), (z, ())) }
noncomputable def F_ref20_timesM : List (Nat × List Tr.Spec) := []
def F_ref20_timesH : Hint := (.seq .leaf (.seq .leaf (.seq (.seq .leaf (.lp ⟨[(7, (.rows Y3 false)), (8, (.pd Y3))], [], [0, 1, 2], []⟩ [((.exit 0), ⟨[(7, (.rows Y3 false))], [], [0, 1, 2], []⟩)] (.seq .leaf (.seq (.seq .leaf (.seq (.seq .leaf (.lp ⟨[(7, (.rows Y3 false)), (9, (.own Y3 false)), (10, (.pd Y3))], [], [0, 1, 2, 8], []⟩ [((.exit 2), ⟨[(7, (.rows Y3 false)), (9, (.own Y3 false))], [], [0, 1, 2, 8], []⟩)] .leaf)) .leaf)) .leaf)))) (.seq (.seq .leaf (.lp ⟨[(7, (.rows Y3 false)), (11, (.pd Y3))], [], [0, 1, 2], []⟩ [((.exit 4), ⟨[(7, (.rows Y3 false))], [], [1], []⟩)] (.seq .leaf (.seq (.seq (.reg [(69, Y4)]) .leaf) .leaf)))) (.seq (.seq .leaf (.lp ⟨[(7, (.rows Y3 false)), (12, (.pd Y3))], [], [1], []⟩ [((.exit 6), ⟨[(7, (.rows Y3 false))], [], [], []⟩)] (.seq .leaf (.seq (.seq .leaf (.lp ⟨[(7, (.rows Y3 false)), (13, (.pd Y3))], [], [1, 12], []⟩ [((.exit 8), ⟨[(7, (.rows Y3 false))], [], [1, 12], []⟩)] (.seq .leaf (.seq (.seq .leaf (.lp ⟨[(7, (.rows Y3 false)), (14, (.pd Y3))], [], [1, 12, 13], []⟩ [((.exit 10), ⟨[(7, (.rows Y3 false))], [], [1, 12, 13], []⟩)] .leaf)) .leaf)))) .leaf)))) .leaf)))))
noncomputable def F_ref20_timesV (a0 : El Y22) (a1 : El Y3) (a2 : El Y4) : Option (El Y51) := evalF (mkE tyTab mapTab pkTab [51] [] F_ref20_timesM 149) (codeOf Try.f37) Try.f37.results F_ref20_timesH F_ref20_timesA F_ref20_timesR (fun y => y.2.1) (a0, a1, a2, ())
theorem F_ref20_times_eq (a0 : El Y22) (a1 : El Y3) (a2 : El Y4) : F_ref20_timesV a0 a1 a2 = F_ref20_times a0 a1 a2 := by kernel_rfl
theorem F_ref20_times_ok : FnOK Try.prog 37 F_ref20_timesS := fnOK_of (m := F_ref20_timesM) (fn := Try.f37) (hint := F_ref20_timesH) (pack := fun y => y.2.1) hmix tab_ok trivial fun x z h => (F_ref20_times_eq x.1 x.2.1 x.2.2.1).trans h
noncomputable def F_ref20_closure : (El Y22) → (El Y3) → Option (El Y22) := fun a0 a1 =>
 Option.bind (F_ref20_times a0 a1 false) fun x0 =>
 Option.bind (F_ref20_times a0 a1 true) fun x1 =>
 Option.bind
 (Tr.run
 (fun s2 =>
 bif decide (s2.2 < a1) then
 Option.bind
 (Tr.run
 (fun s3 =>
 bif decide (s3.2 < a1) then
 Option.bind
 (bif decide (s2.2 = s3.2) then some true
 else Option.bind (idx x0 s2.2) fun x4 => Option.bind (idx x4 s3.2) fun x5 => some (decide ((14400 : Int) < x5)))
 fun x6 =>
 bif x6 then some (.inl (s3.1, IntKind.wrap .i64 (s3.2 + (1 : Int))))
 else
 Option.bind (idx x0 s2.2) fun x7 =>
 Option.bind (idx x7 s3.2) fun x8 =>
 Option.bind (idx x1 s2.2) fun x9 =>
 Option.bind (idx x9 s3.2) fun x10 =>
 Option.bind (idx x0 s2.2) fun x11 =>
 Option.bind (idx x11 s3.2) fun x12 =>
 Option.bind (guardB (decide (List.length s3.1 + List.length [(s2.2, s3.2, x8, decide (x10 = x12), ())] ≤ maxApp))) fun _ =>
 Option.bind
 (Option.bind (idx x1 s2.2) fun x14 =>
 Option.bind (idx x14 s3.2) fun x15 =>
 Option.bind (idx x0 s2.2) fun x16 =>
 Option.bind (idx x16 s3.2) fun x17 =>
 bif decide (x17 < x15) then
 Option.bind (idx x1 s2.2) fun x18 => Option.bind (idx x18 s3.2) fun x19 => some (decide (x19 ≤ (14400 : Int)))
 else some false)
 fun x20 =>
 bif x20 then
 Option.bind (idx x1 s2.2) fun x21 =>
 Option.bind (idx x21 s3.2) fun x22 =>
 Option.bind
 (guardB
 (decide
 (List.length (s3.1 ++ [(s2.2, s3.2, x8, decide (x10 = x12), ())]) + List.length [(s2.2, s3.2, x22, true, ())] ≤
 maxApp)))
 fun _ =>
 some
 (.inl
 (s3.1 ++ [(s2.2, s3.2, x8, decide (x10 = x12), ())] ++ [(s2.2, s3.2, x22, true, ())],
 IntKind.wrap .i64 (s3.2 + (1 : Int))))
 else some (.inl (s3.1 ++ [(s2.2, s3.2, x8, decide (x10 = x12), ())], IntKind.wrap .i64 (s3.2 + (1 : Int))))
 else some (.inr s3.1))
 (s2.1, (0 : Int)))
 fun x24 => some (.inl (x24, IntKind.wrap .i64 (s2.2 + (1 : Int))))
 else some (.inr s2.1))
 ([], (0 : Int)))
 fun x25 => some x25
abbrev F_ref20_closureA : Pats := (.cons (.pd Y22) (.cons (.pd Y3) .nil))
abbrev F_ref20_closureR : Pats := (.cons (.pd Y22) .nil)
noncomputable def F_ref20_closureS : Tr.Spec := { args := F_ref20_closureA, res := F_ref20_closureR, fns := [], α := El Y22, f := fun x => F_ref20_closure x.1 x.2.1, unp := fun z => (((), (), ()), (z, ())) }
noncomputable def F_ref20_closureM : List (Nat × List Tr.Spec) := [(37, [F_ref20_timesS])]
def F_ref20_closureH : Hint := (.seq .leaf (.seq .leaf (.seq .leaf (.seq (.seq .leaf (.lp ⟨[(7, (.own Y42 false)), (8, (.pd Y3))], [], [1, 5, 6], []⟩ [((.exit 0), ⟨[(7, (.own Y42 false))], [], [], []⟩)] (.seq .leaf (.seq (.seq .leaf (.lp ⟨[(7, (.own Y42 false)), (9, (.pd Y3))], [], [1, 5, 6, 8], []⟩ [((.exit 2), ⟨[(7, (.own Y42 false))], [], [1, 5, 6, 8], []⟩)] (.seq .leaf (.seq (.seq (.seq (.reg [(38, Y4)]) .leaf) (.seq .leaf (.seq (.reg [(91, Y4)]) .leaf))) .leaf)))) .leaf)))) .leaf))))
noncomputable def F_ref20_closureV (a0 : El Y22) (a1 : El Y3) : Option (El Y22) := evalF (mkE tyTab mapTab pkTab [] [] F_ref20_closureM 106) (codeOf Try.f28) Try.f28.results F_ref20_closureH F_ref20_closureA F_ref20_closureR (fun y => y.2.1) (a0, a1, ())
theorem F_ref20_closure_eq (a0 : El Y22) (a1 : El Y3) : F_ref20_closureV a0 a1 = F_ref20_closure a0 a1 := by kernel_rfl
theorem F_ref20_closure_ok : FnOK Try.prog 28 F_ref20_closureS := fnOK_of (m := F_ref20_closureM) (fn := Try.f28) (hint := F_ref20_closureH) (pack := fun y => y.2.1) hmix tab_ok ⟨⟨F_ref20_times_ok, trivial⟩, trivial⟩ fun x z h => (F_ref20_closure_eq x.1 x.2.1).trans h
noncomputable def F_ref20_Close : (El Y22) → (El Y3) → Option (El Y22 × El Y3) := fun a0 a1 =>
 bif decide ((64 : Int) < a1) then some ([], (5 : Int))
 else
 Option.bind (F_ref20_Check a0 a1) fun x0 => bif !decide (x0.2 = (0 : Int)) then some ([], x0.2) else Option.bind (F_ref20_closure a0 a1) fun x1 => some (x1, (0 : Int))
abbrev F_ref20_CloseA : Pats := (.cons (.pd Y22) (.cons (.pd Y3) .nil))
abbrev F_ref20_CloseR : Pats := (.cons (.pd Y22) (.cons (.pd Y3) .nil))
noncomputable def F_ref20_CloseS : Tr.Spec := { args := F_ref20_CloseA, res := F_ref20_CloseR, fns := [], α := El Y22 × El Y3, f := fun x => F_ref20_Close x.1 x.2.1, unp := fun z => (((), (), ()), (z.1, z.2, ())) }
noncomputable def F_ref20_CloseM : List (Nat × List Tr.Spec) := [(13, [F_ref20_CheckS]), (28, [F_ref20_closureS])]
def F_ref20_CloseH : Hint := .leaf
noncomputable def F_ref20_CloseV (a0 : El Y22) (a1 : El Y3) : Option (El Y22 × El Y3) := evalF (mkE tyTab mapTab pkTab [] [] F_ref20_CloseM 22) (codeOf Try.f15) Try.f15.results F_ref20_CloseH F_ref20_CloseA F_ref20_CloseR (fun y => (y.2.1, y.2.2.1)) (a0, a1, ())
theorem F_ref20_Close_eq (a0 : El Y22) (a1 : El Y3) : F_ref20_CloseV a0 a1 = F_ref20_Close a0 a1 := by kernel_rfl
theorem F_ref20_Close_ok : FnOK Try.prog 15 F_ref20_CloseS := fnOK_of (m := F_ref20_CloseM) (fn := Try.f15) (hint := F_ref20_CloseH) (pack := fun y => (y.2.1, y.2.2.1)) hmix tab_ok ⟨⟨F_ref20_Check_ok, trivial⟩, ⟨F_ref20_closure_ok, trivial⟩, trivial⟩ fun x z h => (F_ref20_Close_eq x.1 x.2.1).trans h
noncomputable def F_law20_FootpathCloses : (El Y22) → (El Y3) → Option (El Y4) := fun a0 a1 =>
 Option.bind
 (bif decide ((100 : Int) < (↑(List.length a0) : Int)) then some true
 else bif decide ((12 : Int) < a1) then some (decide (a1 ≤ (64 : Int))) else some false)
 fun x0 =>
 bif x0 then Option.bind F_law20_exampleHolds fun x1 => some x1
 else
 Option.bind (F_footpath_Close a0 a1) fun x2 =>
 Option.bind (F_ref20_Close a0 a1) fun x3 =>
 Option.bind
 (Option.bind (F_law20_same x2.1 x3.1) fun x4 =>
 bif x4 then bif decide (x2.2 = x3.2) then Option.bind F_law20_exampleHolds fun x5 => some x5 else some false else some false)
 fun x6 => some x6
abbrev F_law20_FootpathClosesA : Pats := (.cons (.pd Y22) (.cons (.pd Y3) .nil))
abbrev F_law20_FootpathClosesR : Pats := (.cons (.pd Y4) .nil)
noncomputable def F_law20_FootpathClosesS : Tr.Spec := { args := F_law20_FootpathClosesA, res := F_law20_FootpathClosesR, fns := [], α := El Y4, f := fun x => F_law20_FootpathCloses x.1 x.2.1, unp := fun z => (((), (), ()), (z, ())) }
noncomputable def F_law20_FootpathClosesM : List (Nat × List Tr.Spec) := [(11, [F_law20_exampleHoldsS]), (14, [F_footpath_CloseS]), (15, [F_ref20_CloseS]), (16, [F_law20_sameS])]
def F_law20_FootpathClosesH : Hint := (.seq .leaf (.seq (.seq (.reg [(19, Y4)]) .leaf) (.seq .leaf (.seq .leaf (.seq (.reg [(4, Y4)]) .leaf)))))
noncomputable def F_law20_FootpathClosesV (a0 : El Y22) (a1 : El Y3) : Option (El Y4) := evalF (mkE tyTab mapTab pkTab [] [] F_law20_FootpathClosesM 44) (codeOf Try.f4) Try.f4.results F_law20_FootpathClosesH F_law20_FootpathClosesA F_law20_FootpathClosesR (fun y => y.2.1) (a0, a1, ())
theorem F_law20_FootpathCloses_eq (a0 : El Y22) (a1 : El Y3) : F_law20_FootpathClosesV a0 a1 = F_law20_FootpathCloses a0 a1 := by kernel_rfl
theorem F_law20_FootpathCloses_ok : FnOK Try.prog 4 F_law20_FootpathClosesS := fnOK_of (m := F_law20_FootpathClosesM) (fn := Try.f4) (hint := F_law20_FootpathClosesH) (pack := fun y => y.2.1) hmix tab_ok ⟨⟨F_law20_exampleHolds_ok, trivial⟩, ⟨F_footpath_Close_ok, trivial⟩, ⟨F_ref20_Close_ok, trivial⟩, ⟨F_law20_same_ok, trivial⟩, trivial⟩ fun x z h => (F_law20_FootpathCloses_eq x.1 x.2.1).trans h
noncomputable def F_ref20_Time : (El Y22) → (El Y3) → (El Y3) → (El Y4) → Option (El Y3 × El Y4) := fun a0 a1 a2 a3 =>
 Option.bind
 (Tr.run
 (fun s0 =>
 bif decide (s0.2.2 < (↑(List.length a0) : Int)) then
 Option.bind (idx a0 s0.2.2) fun x1 =>
 Option.bind
 (bif decide (x1.1 = a1) then
 bif decide (x1.2.1 = a2) then
 bif x1.2.2.2.1 then bif !s0.2.1 then some true else some (decide (x1.2.2.1 < s0.1))
 else bif !a3 then bif !s0.2.1 then some true else some (decide (x1.2.2.1 < s0.1)) else some false
 else some false
 else some false)
 fun x2 =>
 bif x2 then some (.inl (x1.2.2.1, true, IntKind.wrap .i64 (s0.2.2 + (1 : Int))))
 else some (.inl (s0.1, s0.2.1, IntKind.wrap .i64 (s0.2.2 + (1 : Int))))
 else some (.inr (s0.1, s0.2.1)))
 ((0 : Int), false, (0 : Int)))
 fun x3 => some (x3.1, x3.2)
abbrev F_ref20_TimeA : Pats := (.cons (.pd Y22) (.cons (.pd Y3) (.cons (.pd Y3) (.cons (.pd Y4) .nil))))
abbrev F_ref20_TimeR : Pats := (.cons (.pd Y3) (.cons (.pd Y4) .nil))
noncomputable def F_ref20_TimeS : Tr.Spec := { args := F_ref20_TimeA, res := F_ref20_TimeR, fns := [], α := El Y3 × El Y4, f := fun x => F_ref20_Time x.1 x.2.1 x.2.2.1 x.2.2.2.1, unp := fun z => (((), (), (), (), ()), (z.1, z.2, ())) }
noncomputable def F_ref20_TimeM : List (Nat × List Tr.Spec) := []
def F_ref20_TimeH : Hint := (.seq .leaf (.seq .leaf (.seq (.seq .leaf (.lp ⟨[(10, (.pd Y3)), (11, (.pd Y4)), (12, (.pd Y3))], [], [0, 1, 2, 3], []⟩ [((.exit 0), ⟨[(10, (.pd Y3)), (11, (.pd Y4))], [], [], []⟩)] (.seq .leaf (.seq (.seq .leaf (.seq (.reg [(51, Y4)]) .leaf)) .leaf)))) .leaf)))
noncomputable def F_ref20_TimeV (a0 : El Y22) (a1 : El Y3) (a2 : El Y3) (a3 : El Y4) : Option (El Y3 × El Y4) := evalF (mkE tyTab mapTab pkTab [] [] F_ref20_TimeM 56) (codeOf Try.f18) Try.f18.results F_ref20_TimeH F_ref20_TimeA F_ref20_TimeR (fun y => (y.2.1, y.2.2.1)) (a0, a1, a2, a3, ())
theorem F_ref20_Time_eq (a0 : El Y22) (a1 : El Y3) (a2 : El Y3) (a3 : El Y4) : F_ref20_TimeV a0 a1 a2 a3 = F_ref20_Time a0 a1 a2 a3 := by kernel_rfl
theorem F_ref20_Time_ok : FnOK Try.prog 18 F_ref20_TimeS := fnOK_of (m := F_ref20_TimeM) (fn := Try.f18) (hint := F_ref20_TimeH) (pack := fun y => (y.2.1, y.2.2.1)) hmix tab_ok trivial fun x z h => (F_ref20_Time_eq x.1 x.2.1 x.2.2.1 x.2.2.2.1).trans h
noncomputable def F_law20_FootpathTimes : (El Y22) → (El Y3) → (El Y3) → Option (El Y4) := fun a0 a1 a2 =>
 bif decide ((100 : Int) < (↑(List.length a0) : Int)) then Option.bind F_law20_exampleHolds fun x0 => some x0
 else
 Option.bind (F_footpath_Time a0 a1 a2 false) fun x1 =>
 Option.bind (F_ref20_Time a0 a1 a2 false) fun x2 =>
 Option.bind (F_footpath_Time a0 a1 a2 true) fun x3 =>
 Option.bind (F_ref20_Time a0 a1 a2 true) fun x4 =>
 Option.bind
 (bif decide (x1.1 = x2.1) then
 bif x1.2 == x2.2 then
 bif decide (x3.1 = x4.1) then bif x3.2 == x4.2 then Option.bind F_law20_exampleHolds fun x5 => some x5 else some false
 else some false
 else some false
 else some false)
 fun x6 => some x6
abbrev F_law20_FootpathTimesA : Pats := (.cons (.pd Y22) (.cons (.pd Y3) (.cons (.pd Y3) .nil)))
abbrev F_law20_FootpathTimesR : Pats := (.cons (.pd Y4) .nil)
noncomputable def F_law20_FootpathTimesS : Tr.Spec := { args := F_law20_FootpathTimesA, res := F_law20_FootpathTimesR, fns := [], α := El Y4, f := fun x => F_law20_FootpathTimes x.1 x.2.1 x.2.2.1, unp := fun z => (((), (), (), ()), (z, ())) }
noncomputable def F_law20_FootpathTimesM : List (Nat × List Tr.Spec) := [(11, [F_law20_exampleHoldsS]), (17, [F_footpath_TimeS]), (18, [F_ref20_TimeS])]
def F_law20_FootpathTimesH : Hint := (.seq .leaf (.seq .leaf (.seq .leaf (.seq .leaf (.seq .leaf (.seq .leaf (.seq (.reg [(6, Y4)]) .leaf)))))))
noncomputable def F_law20_FootpathTimesV (a0 : El Y22) (a1 : El Y3) (a2 : El Y3) : Option (El Y4) := evalF (mkE tyTab mapTab pkTab [] [] F_law20_FootpathTimesM 68) (codeOf Try.f5) Try.f5.results F_law20_FootpathTimesH F_law20_FootpathTimesA F_law20_FootpathTimesR (fun y => y.2.1) (a0, a1, a2, ())
theorem F_law20_FootpathTimes_eq (a0 : El Y22) (a1 : El Y3) (a2 : El Y3) : F_law20_FootpathTimesV a0 a1 a2 = F_law20_FootpathTimes a0 a1 a2 := by kernel_rfl
theorem F_law20_FootpathTimes_ok : FnOK Try.prog 5 F_law20_FootpathTimesS := fnOK_of (m := F_law20_FootpathTimesM) (fn := Try.f5) (hint := F_law20_FootpathTimesH) (pack := fun y => y.2.1) hmix tab_ok ⟨⟨F_law20_exampleHolds_ok, trivial⟩, ⟨F_footpath_Time_ok, trivial⟩, ⟨F_ref20_Time_ok, trivial⟩, trivial⟩ fun x z h => (F_law20_FootpathTimes_eq x.1 x.2.1 x.2.2.1).trans h
noncomputable def F_ref20_Around : (El Y22) → (El Y3) → (El Y3) → (El Y4) → Option (El Y39) := fun a0 a1 a2 a3 =>
 Option.bind
 (Tr.run
 (fun s0 =>
 bif decide (s0.2 < (↑(List.length a0) : Int)) then
 Option.bind (idx a0 s0.2) fun x1 =>
 Option.bind
 (bif !decide (x1.1 = a1) then some true
 else bif !x1.2.2.2.1 then bif a3 then some true else some (decide (a2 < x1.2.2.1)) else some (decide (a2 < x1.2.2.1)))
 fun x2 =>
 bif x2 then some (.inl (s0.1, IntKind.wrap .i64 (s0.2 + (1 : Int))))
 else
 Option.bind
 (Tr.run
 (fun s3 =>
 Option.bind
 (bif decide (s3 < (↑(List.length s0.1) : Int)) then
 Option.bind (inb s3 (List.length s0.1)) fun x4 => Option.bind s0.1[x4]? fun x5 => some (decide (x5 < x1.2.1))
 else some false)
 fun x6 => bif x6 then some (.inl (IntKind.wrap .i64 (s3 + (1 : Int)))) else some (.inr s3))
 (0 : Int))
 fun x7 =>
 Option.bind
 (bif decide (x7 < (↑(List.length s0.1) : Int)) then
 Option.bind (inb x7 (List.length s0.1)) fun x8 => Option.bind s0.1[x8]? fun x9 => some (decide (x9 = x1.2.1))
 else some false)
 fun x10 =>
 bif x10 then some (.inl (s0.1, IntKind.wrap .i64 (s0.2 + (1 : Int))))
 else
 Option.bind (sliceB (List.length s0.1) (List.length s0.1) none (some x7)) fun x11 =>
 Option.bind (guardB (decide (List.length ([] : List Unit) + List.length (List.take x11.2 (List.drop (0 : Nat) s0.1)) ≤ maxApp))) fun _ =>
 Option.bind (guardB (decide (List.length ([] ++ List.take x11.2 (List.drop (0 : Nat) s0.1)) + List.length [x1.2.1] ≤ maxApp))) fun _ =>
 Option.bind (sliceB (List.length s0.1) (List.length s0.1) (some x7) none) fun x14 =>
 Option.bind
 (guardB
 (decide
 (List.length ([] ++ List.take x11.2 (List.drop (0 : Nat) s0.1) ++ [x1.2.1]) + List.length (List.take (x14.2 - x14.1) (List.drop x14.1 s0.1)) ≤
 maxApp)))
 fun _ =>
 some
 (.inl
 ([] ++ List.take x11.2 (List.drop (0 : Nat) s0.1) ++ [x1.2.1] ++ List.take (x14.2 - x14.1) (List.drop x14.1 s0.1),
 IntKind.wrap .i64 (s0.2 + (1 : Int))))
 else some (.inr s0.1))
 ([], (0 : Int)))
 fun x16 => some x16
abbrev F_ref20_AroundA : Pats := (.cons (.pd Y22) (.cons (.pd Y3) (.cons (.pd Y3) (.cons (.pd Y4) .nil))))
abbrev F_ref20_AroundR : Pats := (.cons (.pd Y39) .nil)
noncomputable def F_ref20_AroundS : Tr.Spec := { args := F_ref20_AroundA, res := F_ref20_AroundR, fns := [], α := El Y39, f := fun x => F_ref20_Around x.1 x.2.1 x.2.2.1 x.2.2.2.1, unp := fun z => (((), (), (), (), ()), (z, ())) }
noncomputable def F_ref20_AroundM : List (Nat × List Tr.Spec) := []
def F_ref20_AroundH : Hint := (.seq .leaf (.seq .leaf (.seq (.seq .leaf (.lp ⟨[(9, (.own Y3 false)), (10, (.pd Y3))], [], [0, 1, 2, 3], []⟩ [((.exit 0), ⟨[(9, (.own Y3 false))], [], [], []⟩)] (.seq .leaf (.seq (.seq .leaf (.seq (.seq (.reg [(41, Y4)]) .leaf) (.seq .leaf (.seq (.lp ⟨[(12, (.pd Y3))], [], [0, 1, 2, 3, 9, 10, 11], []⟩ [((.exit 2), ⟨[(12, (.pd Y3))], [], [0, 1, 2, 3, 9, 10, 11], []⟩)] (.seq (.seq (.reg [(54, Y4)]) .leaf) .leaf)) (.seq (.seq (.reg [(69, Y4)]) .leaf) .leaf))))) .leaf)))) .leaf)))
noncomputable def F_ref20_AroundV (a0 : El Y22) (a1 : El Y3) (a2 : El Y3) (a3 : El Y4) : Option (El Y39) := evalF (mkE tyTab mapTab pkTab [] [] F_ref20_AroundM 86) (codeOf Try.f21) Try.f21.results F_ref20_AroundH F_ref20_AroundA F_ref20_AroundR (fun y => y.2.1) (a0, a1, a2, a3, ())
theorem F_ref20_Around_eq (a0 : El Y22) (a1 : El Y3) (a2 : El Y3) (a3 : El Y4) : F_ref20_AroundV a0 a1 a2 a3 = F_ref20_Around a0 a1 a2 a3 := by kernel_rfl
theorem F_ref20_Around_ok : FnOK Try.prog 21 F_ref20_AroundS := fnOK_of (m := F_ref20_AroundM) (fn := Try.f21) (hint := F_ref20_AroundH) (pack := fun y => y.2.1) hmix tab_ok trivial fun x z h => (F_ref20_Around_eq x.1 x.2.1 x.2.2.1 x.2.2.2.1).trans h
noncomputable def F_law20_FootpathArounds : (El Y22) → (El Y3) → (El Y3) → Option (El Y4) := fun a0 a1 a2 =>
 bif decide ((100 : Int) < (↑(List.length a0) : Int)) then Option.bind F_law20_exampleHolds fun x0 => some x0
 else
 Option.bind
 (Option.bind (F_footpath_Around a0 a1 a2 false) fun x1 =>
 Option.bind (F_ref20_Around a0 a1 a2 false) fun x2 =>
 Option.bind (F_law20_ints x1 x2) fun x3 =>
 bif x3 then
 Option.bind (F_footpath_Around a0 a1 a2 true) fun x4 =>
 Option.bind (F_ref20_Around a0 a1 a2 true) fun x5 =>
 Option.bind (F_law20_ints x4 x5) fun x6 => bif x6 then Option.bind F_law20_exampleHolds fun x7 => some x7 else some false
 else some false)
 fun x8 => some x8
abbrev F_law20_FootpathAroundsA : Pats := (.cons (.pd Y22) (.cons (.pd Y3) (.cons (.pd Y3) .nil)))
abbrev F_law20_FootpathAroundsR : Pats := (.cons (.pd Y4) .nil)
noncomputable def F_law20_FootpathAroundsS : Tr.Spec := { args := F_law20_FootpathAroundsA, res := F_law20_FootpathAroundsR, fns := [], α := El Y4, f := fun x => F_law20_FootpathArounds x.1 x.2.1 x.2.2.1, unp := fun z => (((), (), (), ()), (z, ())) }
noncomputable def F_law20_FootpathAroundsM : List (Nat × List Tr.Spec) := [(11, [F_law20_exampleHoldsS]), (19, [F_law20_intsS]), (20, [F_footpath_AroundS]), (21, [F_ref20_AroundS])]
def F_law20_FootpathAroundsH : Hint := (.seq .leaf (.seq .leaf (.seq (.reg [(6, Y4)]) .leaf)))
noncomputable def F_law20_FootpathAroundsV (a0 : El Y22) (a1 : El Y3) (a2 : El Y3) : Option (El Y4) := evalF (mkE tyTab mapTab pkTab [] [] F_law20_FootpathAroundsM 34) (codeOf Try.f6) Try.f6.results F_law20_FootpathAroundsH F_law20_FootpathAroundsA F_law20_FootpathAroundsR (fun y => y.2.1) (a0, a1, a2, ())
theorem F_law20_FootpathArounds_eq (a0 : El Y22) (a1 : El Y3) (a2 : El Y3) : F_law20_FootpathAroundsV a0 a1 a2 = F_law20_FootpathArounds a0 a1 a2 := by kernel_rfl
theorem F_law20_FootpathArounds_ok : FnOK Try.prog 6 F_law20_FootpathAroundsS := fnOK_of (m := F_law20_FootpathAroundsM) (fn := Try.f6) (hint := F_law20_FootpathAroundsH) (pack := fun y => y.2.1) hmix tab_ok ⟨⟨F_law20_exampleHolds_ok, trivial⟩, ⟨F_law20_ints_ok, trivial⟩, ⟨F_footpath_Around_ok, trivial⟩, ⟨F_ref20_Around_ok, trivial⟩, trivial⟩ fun x z h => (F_law20_FootpathArounds_eq x.1 x.2.1 x.2.2.1).trans h
noncomputable def F_ref20_IsClosed : (El Y22) → (El Y3) → Option (El Y4) := fun a0 a1 =>
 bif decide ((64 : Int) < a1) then some false
 else
 Option.bind (F_ref20_valid a0 a1) fun x0 =>
 bif !decide (x0.2 = (0 : Int)) then some false
 else
 Option.bind (F_ref20_closure a0 a1) fun x1 =>
 bif !decide ((↑(List.length x1) : Int) = (↑(List.length a0) : Int)) then some false
 else
 Option.bind
 (Tr.run
 (fun s2 =>
 bif decide (s2 < (↑(List.length x1) : Int)) then
 Option.bind (idx x1 s2) fun x3 =>
 Option.bind (idx a0 s2) fun x4 =>
 bif
 !(decide (x3.1 = x4.1) &&
 (decide (x3.2.1 = x4.2.1) && (decide (x3.2.2.1 = x4.2.2.1) && x3.2.2.2.1 == x4.2.2.2.1))) then
 some (.inr (.inr false))
 else some (.inl (IntKind.wrap .i64 (s2 + (1 : Int))))
 else some (.inr (.inl ())))
 (0 : Int))
 fun x5 => Sum.elim (fun _ => some true) (fun y7 => some y7) x5
abbrev F_ref20_IsClosedA : Pats := (.cons (.pd Y22) (.cons (.pd Y3) .nil))
abbrev F_ref20_IsClosedR : Pats := (.cons (.pd Y4) .nil)
noncomputable def F_ref20_IsClosedS : Tr.Spec := { args := F_ref20_IsClosedA, res := F_ref20_IsClosedR, fns := [], α := El Y4, f := fun x => F_ref20_IsClosed x.1 x.2.1, unp := fun z => (((), (), ()), (z, ())) }
noncomputable def F_ref20_IsClosedM : List (Nat × List Tr.Spec) := [(26, [F_ref20_validS]), (28, [F_ref20_closureS])]
def F_ref20_IsClosedH : Hint := (.seq .leaf (.seq .leaf (.seq .leaf (.seq .leaf (.seq .leaf (.seq .leaf (.seq (.seq .leaf (.lp ⟨[(8, (.pd Y3))], [], [0, 7], []⟩ [((.exit 0), ⟨[], [], [], []⟩), (.ret, ⟨[(4, (.pd Y4))], [], [], []⟩)] .leaf)) .leaf)))))))
noncomputable def F_ref20_IsClosedV (a0 : El Y22) (a1 : El Y3) : Option (El Y4) := evalF (mkE tyTab mapTab pkTab [] [] F_ref20_IsClosedM 42) (codeOf Try.f23) Try.f23.results F_ref20_IsClosedH F_ref20_IsClosedA F_ref20_IsClosedR (fun y => y.2.1) (a0, a1, ())
theorem F_ref20_IsClosed_eq (a0 : El Y22) (a1 : El Y3) : F_ref20_IsClosedV a0 a1 = F_ref20_IsClosed a0 a1 := by kernel_rfl
theorem F_ref20_IsClosed_ok : FnOK Try.prog 23 F_ref20_IsClosedS := fnOK_of (m := F_ref20_IsClosedM) (fn := Try.f23) (hint := F_ref20_IsClosedH) (pack := fun y => y.2.1) hmix tab_ok ⟨⟨F_ref20_valid_ok, trivial⟩, ⟨F_ref20_closure_ok, trivial⟩, trivial⟩ fun x z h => (F_ref20_IsClosed_eq x.1 x.2.1).trans h
noncomputable def F_law20_FootpathIsClosed : (El Y22) → (El Y3) → Option (El Y4) := fun a0 a1 =>
 Option.bind
 (bif decide ((200 : Int) < (↑(List.length a0) : Int)) then some true
 else bif decide ((12 : Int) < a1) then some (decide (a1 ≤ (64 : Int))) else some false)
 fun x0 =>
 bif x0 then Option.bind F_law20_exampleHolds fun x1 => some x1
 else
 Option.bind
 (Option.bind (F_footpath_IsClosed a0 a1) fun x2 =>
 Option.bind (F_ref20_IsClosed a0 a1) fun x3 => bif x2 == x3 then Option.bind F_law20_exampleHolds fun x4 => some x4 else some false)
 fun x5 => some x5
abbrev F_law20_FootpathIsClosedA : Pats := (.cons (.pd Y22) (.cons (.pd Y3) .nil))
abbrev F_law20_FootpathIsClosedR : Pats := (.cons (.pd Y4) .nil)
noncomputable def F_law20_FootpathIsClosedS : Tr.Spec := { args := F_law20_FootpathIsClosedA, res := F_law20_FootpathIsClosedR, fns := [], α := El Y4, f := fun x => F_law20_FootpathIsClosed x.1 x.2.1, unp := fun z => (((), (), ()), (z, ())) }
noncomputable def F_law20_FootpathIsClosedM : List (Nat × List Tr.Spec) := [(11, [F_law20_exampleHoldsS]), (22, [F_footpath_IsClosedS]), (23, [F_ref20_IsClosedS])]
def F_law20_FootpathIsClosedH : Hint := (.seq .leaf (.seq (.seq (.reg [(15, Y4)]) .leaf) (.seq (.reg [(4, Y4)]) .leaf)))
noncomputable def F_law20_FootpathIsClosedV (a0 : El Y22) (a1 : El Y3) : Option (El Y4) := evalF (mkE tyTab mapTab pkTab [] [] F_law20_FootpathIsClosedM 27) (codeOf Try.f7) Try.f7.results F_law20_FootpathIsClosedH F_law20_FootpathIsClosedA F_law20_FootpathIsClosedR (fun y => y.2.1) (a0, a1, ())
theorem F_law20_FootpathIsClosed_eq (a0 : El Y22) (a1 : El Y3) : F_law20_FootpathIsClosedV a0 a1 = F_law20_FootpathIsClosed a0 a1 := by kernel_rfl
theorem F_law20_FootpathIsClosed_ok : FnOK Try.prog 7 F_law20_FootpathIsClosedS := fnOK_of (m := F_law20_FootpathIsClosedM) (fn := Try.f7) (hint := F_law20_FootpathIsClosedH) (pack := fun y => y.2.1) hmix tab_ok ⟨⟨F_law20_exampleHolds_ok, trivial⟩, ⟨F_footpath_IsClosed_ok, trivial⟩, ⟨F_ref20_IsClosed_ok, trivial⟩, trivial⟩ fun x z h => (F_law20_FootpathIsClosed_eq x.1 x.2.1).trans h
noncomputable def F_law20_FootpathClosure : (El Y22) → (El Y3) → Option (El Y4) := fun a0 a1 =>
 Option.bind (bif decide ((100 : Int) < (↑(List.length a0) : Int)) then some true else some (decide ((12 : Int) < a1))) fun x0 =>
 bif x0 then Option.bind F_law20_exampleHolds fun x1 => some x1
 else
 Option.bind (F_footpath_Close a0 a1) fun x2 =>
 bif !decide (x2.2 = (0 : Int)) then
 Option.bind (bif decide ((↑(List.length x2.1) : Int) = (0 : Int)) then Option.bind F_law20_exampleHolds fun x3 => some x3 else some false) fun x4 =>
 some x4
 else
 Option.bind
 (Tr.run
 (fun s5 =>
 bif decide (s5 < (↑(List.length a0) : Int)) then
 Option.bind (idx a0 s5) fun x6 =>
 Option.bind (idx a0 s5) fun x7 =>
 Option.bind (idx a0 s5) fun x8 =>
 Option.bind (F_footpath_Time x2.1 x6.1 x7.2.1 x8.2.2.2.1) fun x9 =>
 Option.bind
 (bif !x9.2 then some true
 else
 bif decide (x9.1 < (1 : Int)) then some true else Option.bind (idx a0 s5) fun x10 => some (decide (x10.2.2.1 < x9.1)))
 fun x11 => bif x11 then some (.inr (.inr false)) else some (.inl (IntKind.wrap .i64 (s5 + (1 : Int))))
 else some (.inr (.inl ())))
 (0 : Int))
 fun x12 =>
 Sum.elim
 (fun _ =>
 Option.bind (Option.bind (F_footpath_IsClosed x2.1 a1) fun x14 => bif x14 then Option.bind F_law20_exampleHolds fun x15 => some x15 else some false) fun x16 =>
 some x16)
 (fun y17 => some y17) x12
abbrev F_law20_FootpathClosureA : Pats := (.cons (.pd Y22) (.cons (.pd Y3) .nil))
abbrev F_law20_FootpathClosureR : Pats := (.cons (.pd Y4) .nil)
noncomputable def F_law20_FootpathClosureS : Tr.Spec := { args := F_law20_FootpathClosureA, res := F_law20_FootpathClosureR, fns := [], α := El Y4, f := fun x => F_law20_FootpathClosure x.1 x.2.1, unp := fun z => (((), (), ()), (z, ())) }
noncomputable def F_law20_FootpathClosureM : List (Nat × List Tr.Spec) := [(11, [F_law20_exampleHoldsS]), (14, [F_footpath_CloseS]), (17, [F_footpath_TimeS]), (22, [F_footpath_IsClosedS])]
def F_law20_FootpathClosureH : Hint := (.seq .leaf (.seq (.seq (.reg [(16, Y4)]) .leaf) (.seq .leaf (.seq (.seq .leaf (.cnd none (.seq (.reg [(4, Y4)]) .leaf) .leaf)) (.seq (.seq .leaf (.lp ⟨[(7, (.pd Y3))], [], [0, 1, 5], []⟩ [((.exit 0), ⟨[], [], [1, 5], []⟩), (.ret, ⟨[(4, (.pd Y4))], [], [], []⟩)] (.seq .leaf (.seq (.seq .leaf (.seq (.reg [(72, Y4)]) .leaf)) .leaf)))) (.seq (.reg [(4, Y4)]) .leaf))))))
noncomputable def F_law20_FootpathClosureV (a0 : El Y22) (a1 : El Y3) : Option (El Y4) := evalF (mkE tyTab mapTab pkTab [] [] F_law20_FootpathClosureM 79) (codeOf Try.f8) Try.f8.results F_law20_FootpathClosureH F_law20_FootpathClosureA F_law20_FootpathClosureR (fun y => y.2.1) (a0, a1, ())
theorem F_law20_FootpathClosure_eq (a0 : El Y22) (a1 : El Y3) : F_law20_FootpathClosureV a0 a1 = F_law20_FootpathClosure a0 a1 := by kernel_rfl
theorem F_law20_FootpathClosure_ok : FnOK Try.prog 8 F_law20_FootpathClosureS := fnOK_of (m := F_law20_FootpathClosureM) (fn := Try.f8) (hint := F_law20_FootpathClosureH) (pack := fun y => y.2.1) hmix tab_ok ⟨⟨F_law20_exampleHolds_ok, trivial⟩, ⟨F_footpath_Close_ok, trivial⟩, ⟨F_footpath_Time_ok, trivial⟩, ⟨F_footpath_IsClosed_ok, trivial⟩, trivial⟩ fun x z h => (F_law20_FootpathClosure_eq x.1 x.2.1).trans h
noncomputable def F_law20_FootpathTriangle : (El Y22) → (El Y3) → (El Y4) → Option (El Y4) := fun a0 a1 a2 =>
 Option.bind (bif decide ((100 : Int) < (↑(List.length a0) : Int)) then some true else some (decide ((12 : Int) < a1))) fun x0 =>
 bif x0 then Option.bind F_law20_exampleHolds fun x1 => some x1
 else
 Option.bind (F_footpath_Close a0 a1) fun x2 =>
 bif !decide (x2.2 = (0 : Int)) then Option.bind F_law20_exampleHolds fun x3 => some x3
 else
 Option.bind
 (Tr.run
 (fun s4 =>
 bif decide (s4 < (↑(List.length x2.1) : Int)) then
 Option.bind
 (Tr.run
 (fun s5 =>
 bif decide (s5 < (↑(List.length x2.1) : Int)) then
 Option.bind
 (Option.bind (idx x2.1 s4) fun x6 =>
 Option.bind (idx x2.1 s5) fun x7 =>
 bif !decide (x6.2.1 = x7.1) then some true
 else
 Option.bind (idx x2.1 s4) fun x8 =>
 Option.bind (idx x2.1 s5) fun x9 =>
 bif decide (x8.1 = x9.2.1) then some true
 else
 bif a2 then
 Option.bind (idx x2.1 s4) fun x10 =>
 bif !x10.2.2.2.1 then some true else Option.bind (idx x2.1 s5) fun x11 => some !x11.2.2.2.1
 else some false)
 fun x12 =>
 bif x12 then some (.inl (IntKind.wrap .i64 (s5 + (1 : Int))))
 else
 Option.bind
 (Option.bind (idx x2.1 s4) fun x13 =>
 bif decide (x13.2.2.1 < (1 : Int)) then some true
 else
 Option.bind (idx x2.1 s4) fun x14 =>
 bif decide ((14400 : Int) < x14.2.2.1) then some true
 else
 Option.bind (idx x2.1 s5) fun x15 =>
 bif decide (x15.2.2.1 < (1 : Int)) then some true
 else Option.bind (idx x2.1 s5) fun x16 => some (decide ((14400 : Int) < x16.2.2.1)))
 fun x17 =>
 bif x17 then some (.inr (.inr false))
 else
 Option.bind (idx x2.1 s4) fun x18 =>
 Option.bind (idx x2.1 s5) fun x19 =>
 Option.bind (F_footpath_Time x2.1 x18.1 x19.2.1 a2) fun x20 =>
 Option.bind
 (Option.bind (idx x2.1 s4) fun x21 =>
 Option.bind (idx x2.1 s5) fun x22 =>
 bif decide (IntKind.wrap .i64 (x21.2.2.1 + x22.2.2.1) ≤ (14400 : Int)) then
 bif !x20.2 then some true
 else
 Option.bind (idx x2.1 s4) fun x23 =>
 Option.bind (idx x2.1 s5) fun x24 =>
 some (decide (IntKind.wrap .i64 (x23.2.2.1 + x24.2.2.1) < x20.1))
 else some false)
 fun x25 => bif x25 then some (.inr (.inr false)) else some (.inl (IntKind.wrap .i64 (s5 + (1 : Int))))
 else some (.inr (.inl ())))
 (0 : Int))
 fun x26 => Sum.elim (fun _ => some (.inl (IntKind.wrap .i64 (s4 + (1 : Int))))) (fun y28 => some (.inr (.inr y28))) x26
 else some (.inr (.inl ())))
 (0 : Int))
 fun x29 => Sum.elim (fun _ => Option.bind F_law20_exampleHolds fun x31 => some x31) (fun y32 => some y32) x29
abbrev F_law20_FootpathTriangleA : Pats := (.cons (.pd Y22) (.cons (.pd Y3) (.cons (.pd Y4) .nil)))
abbrev F_law20_FootpathTriangleR : Pats := (.cons (.pd Y4) .nil)
noncomputable def F_law20_FootpathTriangleS : Tr.Spec := { args := F_law20_FootpathTriangleA, res := F_law20_FootpathTriangleR, fns := [], α := El Y4, f := fun x => F_law20_FootpathTriangle x.1 x.2.1 x.2.2.1, unp := fun z => (((), (), (), ()), (z, ())) }
noncomputable def F_law20_FootpathTriangleM : List (Nat × List Tr.Spec) := [(11, [F_law20_exampleHoldsS]), (14, [F_footpath_CloseS]), (17, [F_footpath_TimeS])]
def F_law20_FootpathTriangleH : Hint := (.seq .leaf (.seq (.seq (.reg [(19, Y4)]) .leaf) (.seq .leaf (.seq .leaf (.seq (.seq .leaf (.lp ⟨[(9, (.pd Y3))], [], [2, 7], []⟩ [((.exit 0), ⟨[], [], [], []⟩), (.ret, ⟨[(6, (.pd Y4))], [], [], []⟩)] (.seq .leaf (.seq (.seq .leaf (.lp ⟨[(10, (.pd Y3))], [], [2, 7, 9], []⟩ [((.exit 2), ⟨[], [], [2, 7, 9], []⟩), (.ret, ⟨[(6, (.pd Y4))], [], [], []⟩)] (.seq .leaf (.seq (.seq (.seq (.reg [(84, Y4)]) .leaf) (.seq (.seq (.reg [(114, Y4)]) .leaf) (.seq .leaf (.seq (.reg [(161, Y4)]) .leaf)))) .leaf)))) .leaf)))) .leaf)))))
noncomputable def F_law20_FootpathTriangleV (a0 : El Y22) (a1 : El Y3) (a2 : El Y4) : Option (El Y4) := evalF (mkE tyTab mapTab pkTab [] [] F_law20_FootpathTriangleM 163) (codeOf Try.f9) Try.f9.results F_law20_FootpathTriangleH F_law20_FootpathTriangleA F_law20_FootpathTriangleR (fun y => y.2.1) (a0, a1, a2, ())
theorem F_law20_FootpathTriangle_eq (a0 : El Y22) (a1 : El Y3) (a2 : El Y4) : F_law20_FootpathTriangleV a0 a1 a2 = F_law20_FootpathTriangle a0 a1 a2 := by kernel_rfl
theorem F_law20_FootpathTriangle_ok : FnOK Try.prog 9 F_law20_FootpathTriangleS := fnOK_of (m := F_law20_FootpathTriangleM) (fn := Try.f9) (hint := F_law20_FootpathTriangleH) (pack := fun y => y.2.1) hmix tab_ok ⟨⟨F_law20_exampleHolds_ok, trivial⟩, ⟨F_footpath_Close_ok, trivial⟩, ⟨F_footpath_Time_ok, trivial⟩, trivial⟩ fun x z h => (F_law20_FootpathTriangle_eq x.1 x.2.1 x.2.2.1).trans h
noncomputable def F_law20_FootpathFree : (El Y22) → (El Y3) → (El Y3) → Option (El Y4) := fun a0 a1 a2 =>
 bif decide ((100 : Int) < (↑(List.length a0) : Int)) then Option.bind F_law20_exampleHolds fun x0 => some x0
 else
 Option.bind (F_footpath_Time a0 a1 a2 false) fun x1 =>
 Option.bind (F_footpath_Time a0 a1 a2 true) fun x2 =>
 Option.bind (bif x2.2 then bif !x1.2 then some true else some (decide (x2.1 < x1.1)) else some false) fun x3 =>
 bif x3 then some false
 else
 Option.bind (F_footpath_Around a0 a1 (14400 : Int) false) fun x4 =>
 Option.bind (F_footpath_Around a0 a1 (14400 : Int) true) fun x5 =>
 Option.bind
 (Tr.run
 (fun s6 =>
 bif decide (s6.2 < (↑(List.length x4) : Int)) then
 Option.bind
 (bif decide (s6.1 < (↑(List.length x5) : Int)) then
 Option.bind (idx x5 s6.1) fun x7 => Option.bind (idx x4 s6.2) fun x8 => some (decide (x7 = x8))
 else some false)
 fun x9 =>
 bif x9 then some (.inl (IntKind.wrap .i64 (s6.1 + (1 : Int)), IntKind.wrap .i64 (s6.2 + (1 : Int))))
 else some (.inl (s6.1, IntKind.wrap .i64 (s6.2 + (1 : Int))))
 else some (.inr s6.1))
 ((0 : Int), (0 : Int)))
 fun x10 =>
 Option.bind (bif decide (x10 = (↑(List.length x5) : Int)) then Option.bind F_law20_exampleHolds fun x11 => some x11 else some false) fun x12 =>
 some x12
abbrev F_law20_FootpathFreeA : Pats := (.cons (.pd Y22) (.cons (.pd Y3) (.cons (.pd Y3) .nil)))
abbrev F_law20_FootpathFreeR : Pats := (.cons (.pd Y4) .nil)
noncomputable def F_law20_FootpathFreeS : Tr.Spec := { args := F_law20_FootpathFreeA, res := F_law20_FootpathFreeR, fns := [], α := El Y4, f := fun x => F_law20_FootpathFree x.1 x.2.1 x.2.2.1, unp := fun z => (((), (), (), ()), (z, ())) }
noncomputable def F_law20_FootpathFreeM : List (Nat × List Tr.Spec) := [(11, [F_law20_exampleHoldsS]), (17, [F_footpath_TimeS]), (20, [F_footpath_AroundS])]
def F_law20_FootpathFreeH : Hint := (.seq .leaf (.seq .leaf (.seq .leaf (.seq .leaf (.seq (.seq (.reg [(42, Y4)]) .leaf) (.seq .leaf (.seq .leaf (.seq (.seq .leaf (.lp ⟨[(13, (.pd Y3)), (14, (.pd Y3))], [], [11, 12], []⟩ [((.exit 0), ⟨[(13, (.pd Y3))], [], [12], []⟩)] (.seq .leaf (.seq (.seq (.reg [(69, Y4)]) .leaf) .leaf)))) (.seq (.reg [(6, Y4)]) .leaf)))))))))
noncomputable def F_law20_FootpathFreeV (a0 : El Y22) (a1 : El Y3) (a2 : El Y3) : Option (El Y4) := evalF (mkE tyTab mapTab pkTab [] [] F_law20_FootpathFreeM 79) (codeOf Try.f10) Try.f10.results F_law20_FootpathFreeH F_law20_FootpathFreeA F_law20_FootpathFreeR (fun y => y.2.1) (a0, a1, a2, ())
theorem F_law20_FootpathFree_eq (a0 : El Y22) (a1 : El Y3) (a2 : El Y3) : F_law20_FootpathFreeV a0 a1 a2 = F_law20_FootpathFree a0 a1 a2 := by kernel_rfl
theorem F_law20_FootpathFree_ok : FnOK Try.prog 10 F_law20_FootpathFreeS := fnOK_of (m := F_law20_FootpathFreeM) (fn := Try.f10) (hint := F_law20_FootpathFreeH) (pack := fun y => y.2.1) hmix tab_ok ⟨⟨F_law20_exampleHolds_ok, trivial⟩, ⟨F_footpath_Time_ok, trivial⟩, ⟨F_footpath_Around_ok, trivial⟩, trivial⟩ fun x z h => (F_law20_FootpathFree_eq x.1 x.2.1 x.2.2.1).trans h
end Q
