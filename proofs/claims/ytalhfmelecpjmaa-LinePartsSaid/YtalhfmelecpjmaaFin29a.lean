/- The functions of the program as functions of Lean, and that the program computes them; printed by a program of mine. Conditions: none. -/
import Derived.Test.YtalhfmelecpjmaaTsE
import Derived.KernelRfl
import Derived.Test.YtalhfmelecpjmaaProg
open Tr Go Go.Proofs
namespace Q
/-- int -/
abbrev Y3 : Ty := .int .i64
/-- bool -/
abbrev Y4 : Ty := .bool
/-- uint8 -/
abbrev Y5 : Ty := .int .u8
/-- string -/
abbrev Y9 : Ty := .str
/-- api.Stop -/
abbrev Y54 : Ty := .prod Y9 (.prod Y3 (.prod Y4 (.prod Y3 .unit)))
/-- []api.Stop -/
abbrev Y22 : Ty := .sl Y54
/-- api.Route -/
abbrev Y56 : Ty := .prod Y9 (.prod Y3 (.prod Y4 .unit))
/-- []api.Route -/
abbrev Y23 : Ty := .sl Y56
/-- api.Call -/
abbrev Y65 : Ty := .prod Y3 (.prod Y3 (.prod Y3 (.prod Y4 (.prod Y4 .unit))))
/-- []api.Call -/
abbrev Y47 : Ty := .sl Y65
/-- api.Run -/
abbrev Y49 : Ty := .prod Y3 (.prod Y3 (.prod Y3 (.prod Y9 (.prod Y3 (.prod Y4 (.prod Y4 (.prod Y47 .unit)))))))
/-- []api.Run -/
abbrev Y24 : Ty := .sl Y49
/-- api.Link -/
abbrev Y85 : Ty := .prod Y3 (.prod Y3 (.prod Y3 (.prod Y3 (.prod Y4 .unit))))
/-- []api.Link -/
abbrev Y25 : Ty := .sl Y85
/-- api.Footpath -/
abbrev Y88 : Ty := .prod Y3 (.prod Y3 (.prod Y3 (.prod Y4 .unit)))
/-- []api.Footpath -/
abbrev Y26 : Ty := .sl Y88
/-- api.Product -/
abbrev Y91 : Ty := .prod Y9 (.prod Y3 (.prod Y3 (.prod Y3 (.prod Y3 (.prod Y3 .unit)))))
/-- []api.Product -/
abbrev Y27 : Ty := .sl Y91
/-- api.Fares -/
abbrev Y29 : Ty := .prod Y27 (.prod Y3 (.prod Y3 (.prod Y3 .unit)))
/-- api.Network -/
abbrev Y31 : Ty := .prod Y22 (.prod Y23 (.prod Y24 (.prod Y25 (.prod Y26 (.prod Y29 .unit)))))
/-- []int -/
abbrev Y40 : Ty := .sl Y3
/-- [][]int -/
abbrev Y34 : Ty := .sl Y40
/-- api.Errno -/
abbrev Y35 : Ty := .int .i64
/-- transitlaw29.At -/
abbrev Y42 : Ty := .prod Y40 (.prod Y3 (.prod Y3 .unit))
/-- []bool -/
abbrev Y67 : Ty := .sl Y4
/-- network.result -/
abbrev Y77 : Ty := .prod Y3 (.prod Y3 (.prod Y35 .unit))
/-- map[string]bool -/
abbrev Y92 : Ty := .ref
/-- []network.result -/
abbrev Y93 : Ty := .sl Y77
/-- network.runKey -/
abbrev Y97 : Ty := .prod Y9 (.prod Y3 (.prod Y3 .unit))
/-- map[network.runKey]bool -/
abbrev Y94 : Ty := .ref
/-- map[int]int -/
abbrev Y98 : Ty := .ref
/-- map[int]bool -/
abbrev Y99 : Ty := .ref
/-- [4]int -/
abbrev Y102 : Ty := .arr 4 Y3
/-- map[[4]int]bool -/
abbrev Y100 : Ty := .ref
/-- map[api.Footpath]bool -/
abbrev Y104 : Ty := .ref
/-- footpath.pair -/
abbrev Y111 : Ty := .prod Y3 (.prod Y3 (.prod Y4 .unit))
/-- map[footpath.pair]bool -/
abbrev Y109 : Ty := .ref
/-- map[footpath.pair]int -/
abbrev Y117 : Ty := .ref
/-- shortest.Edge -/
abbrev Y120 : Ty := .prod Y3 (.prod Y3 (.prod Y3 .unit))
/-- []shortest.Edge -/
abbrev Y118 : Ty := .sl Y120
/-- uint -/
abbrev Y124 : Ty := .int .u64
/-- map[int][]shortest.Edge -/
abbrev Y126 : Ty := .ref
/-- shortest.label -/
abbrev Y143 : Ty := .prod Y3 (.prod Y3 (.prod Y3 .unit))
/-- []shortest.label -/
abbrev Y129 : Ty := .sl Y143
/-- slices.sortedHint -/
abbrev Y132 : Ty := .int .i64
/-- uint32 -/
abbrev Y139 : Ty := .int .u32
/-- uint64 -/
abbrev Y141 : Ty := .int .u64
/-- func(shortest.label, shortest.label) bool -/
abbrev Y146 : Ty := .ref
/-- heap.node[transit/shortest.label] -/
abbrev Y160 : Ty := .prod Y143 (.prod Y3 .unit)
/-- []heap.node[transit/shortest.label] -/
abbrev Y156 : Ty := .sl Y160
/-- heap.Heap[transit/shortest.label] -/
abbrev Y158 : Ty := .prod Y146 (.prod Y156 (.prod Y3 .unit))
def tyTab : List (Nat × Ty) := [(3, Y3), (4, Y4), (5, Y5), (9, Y9), (54, Y54), (22, Y22), (56, Y56), (23, Y23), (65, Y65), (47, Y47), (49, Y49), (24, Y24), (85, Y85), (25, Y25), (88, Y88), (26, Y26), (91, Y91), (27, Y27), (29, Y29), (31, Y31), (40, Y40), (34, Y34), (35, Y35), (42, Y42), (67, Y67), (77, Y77), (92, Y92), (93, Y93), (97, Y97), (94, Y94), (98, Y98), (99, Y99), (102, Y102), (100, Y100), (104, Y104), (111, Y111), (109, Y109), (117, Y117), (120, Y120), (118, Y118), (124, Y124), (126, Y126), (143, Y143), (129, Y129), (132, Y132), (139, Y139), (141, Y141), (146, Y146), (160, Y160), (156, Y156), (158, Y158)]
def mapTab : List (Nat × Ty × Ty) := [(92, Y9, Y4), (94, Y97, Y4), (98, Y3, Y3), (99, Y3, Y4), (100, Y102, Y4), (104, Y88, Y4), (109, Y111, Y4), (117, Y111, Y3), (126, Y3, Y118)]
def pkTab : List (Nat × Nat) := [(144, 1), (146, 2)]
theorem hmix : Try.prog.follows .mixedOrders = true := by kernel_rfl
theorem tab_ok : tabOk Try.prog tyTab mapTab pkTab = true := by kernel_rfl
noncomputable def F_law29_few : (El Y31) → Option (El Y4) := fun a0 =>
 Option.bind
 (bif decide ((70 : Int) < (↑(List.length a0.1) : Int)) then some true
 else
 bif decide ((70 : Int) < (↑(List.length a0.2.1) : Int)) then some true
 else
 bif decide ((40 : Int) < (↑(List.length a0.2.2.1) : Int)) then some true
 else
 bif decide ((80 : Int) < (↑(List.length a0.2.2.2.1) : Int)) then some true
 else
 bif decide ((80 : Int) < (↑(List.length a0.2.2.2.2.1) : Int)) then some true
 else some (decide ((20 : Int) < (↑(List.length a0.2.2.2.2.2.1.1) : Int))))
 fun x0 =>
 bif x0 then some false
 else
 Option.bind
 (Tr.run
 (fun s1 =>
 bif decide (s1 < (↑(List.length a0.2.2.1) : Int)) then
 Option.bind (idx a0.2.2.1 s1) fun x2 =>
 bif decide ((40 : Int) < (↑(List.length x2.2.2.2.2.2.2.2.1) : Int)) then some (.inr (.inr false))
 else some (.inl (IntKind.wrap .i64 (s1 + (1 : Int))))
 else some (.inr (.inl ())))
 (0 : Int))
 fun x3 => Sum.elim (fun _ => some true) (fun y5 => some y5) x3
abbrev F_law29_fewA : Pats := (.cons (.pd Y31) .nil)
abbrev F_law29_fewR : Pats := (.cons (.pd Y4) .nil)
noncomputable def F_law29_fewS : Tr.Spec := { args := F_law29_fewA, res := F_law29_fewR, fns := [], α := El Y4, f := fun x => F_law29_few x.1, unp := fun z => (((), ()), (z, ())) }
noncomputable def F_law29_fewM : List (Nat × List Tr.Spec) := []
def F_law29_fewH : Hint := (.seq .leaf (.seq (.seq (.reg [(39, Y4)]) .leaf) (.seq (.seq .leaf (.lp ⟨[(43, (.pd Y3))], [], [41, 42], []⟩ [((.exit 0), ⟨[], [], [], []⟩), (.ret, ⟨[(2, (.pd Y4))], [], [], []⟩)] .leaf)) .leaf)))
noncomputable def F_law29_fewV (a0 : El Y31) : Option (El Y4) := evalF (mkE tyTab mapTab pkTab [] [] F_law29_fewM 52) (codeOf Try.f10) Try.f10.results F_law29_fewH F_law29_fewA F_law29_fewR (fun y => y.2.1) (a0, ())
theorem F_law29_few_eq (a0 : El Y31) : F_law29_fewV a0 = F_law29_few a0 := by kernel_rfl
theorem F_law29_few_ok : FnOK Try.prog 10 F_law29_fewS := fnOK_of (m := F_law29_fewM) (fn := Try.f10) (hint := F_law29_fewH) (pack := fun y => y.2.1) hmix tab_ok trivial fun x z h => (F_law29_few_eq x.1).trans h
noncomputable def F_ident_Valid : (El Y9) → Option (El Y4) := fun a0 =>
 Option.bind
 (Tr.run
 (fun s0 =>
 bif decide (s0 < (↑(List.length a0) : Int)) then
 Option.bind (idx a0 s0) fun x1 =>
 Option.bind (bif decide ((97 : Int) ≤ (↑(UInt8.toNat x1) : Int)) then some (decide ((↑(UInt8.toNat x1) : Int) ≤ (122 : Int))) else some false)
 fun x2 =>
 Option.bind
 (bif x2 then some x2
 else
 Option.bind (bif decide ((65 : Int) ≤ (↑(UInt8.toNat x1) : Int)) then some (decide ((↑(UInt8.toNat x1) : Int) ≤ (90 : Int))) else some false)
 fun x3 =>
 Option.bind
 (bif x3 then some x3
 else
 Option.bind
 (bif decide ((48 : Int) ≤ (↑(UInt8.toNat x1) : Int)) then some (decide ((↑(UInt8.toNat x1) : Int) ≤ (57 : Int))) else some false)
 fun x4 => some x4)
 fun x5 => some x5)
 fun x6 =>
 bif x6 then some (.inl (IntKind.wrap .i64 (s0 + (1 : Int))))
 else
 Option.bind
 (bif decide ((↑(UInt8.toNat x1) : Int) = (45 : Int)) then some (decide ((↑(UInt8.toNat x1) : Int) = (45 : Int)))
 else
 Option.bind
 (bif decide ((↑(UInt8.toNat x1) : Int) = (95 : Int)) then some (decide ((↑(UInt8.toNat x1) : Int) = (95 : Int)))
 else some (decide ((↑(UInt8.toNat x1) : Int) = (46 : Int))))
 fun x7 => some x7)
 fun x8 => bif x8 then some (.inl (IntKind.wrap .i64 (s0 + (1 : Int)))) else some (.inr (.inr false))
 else some (.inr (.inl ())))
 (0 : Int))
 fun x9 =>
 Sum.elim
 (fun _ =>
 Option.bind (bif decide ((0 : Int) < (↑(List.length a0) : Int)) then some (decide ((↑(List.length a0) : Int) ≤ (32 : Int))) else some false) fun x11 =>
 some x11)
 (fun y12 => some y12) x9
abbrev F_ident_ValidA : Pats := (.cons (.pd Y9) .nil)
abbrev F_ident_ValidR : Pats := (.cons (.pd Y4) .nil)
noncomputable def F_ident_ValidS : Tr.Spec := { args := F_ident_ValidA, res := F_ident_ValidR, fns := [], α := El Y4, f := fun x => F_ident_Valid x.1, unp := fun z => (((), ()), (z, ())) }
noncomputable def F_ident_ValidM : List (Nat × List Tr.Spec) := []
def F_ident_ValidH : Hint := (.seq .leaf (.seq (.seq .leaf (.lp ⟨[(3, (.pd Y3))], [], [0], []⟩ [((.exit 0), ⟨[], [], [0], []⟩), (.ret, ⟨[(2, (.pd Y4))], [], [], []⟩)] (.seq .leaf (.seq (.seq .leaf (.seq (.seq (.reg [(14, Y4)]) (.cnd (some (⟨[], [], [0, 3, 4], []⟩, [(.normal, ⟨[(14, (.pd Y4))], [], [0, 3, 4], []⟩)])) .leaf (.seq (.reg [(14, Y4)]) (.cnd (some (⟨[], [], [0, 3, 4], []⟩, [(.normal, ⟨[(14, (.pd Y4))], [], [0, 3, 4], []⟩)])) .leaf (.reg [(14, Y4)]))))) (.cnd none .leaf (.seq (.seq .leaf (.cnd (some (⟨[], [], [0, 3], []⟩, [(.normal, ⟨[(33, (.pd Y4))], [], [0, 3], []⟩)])) .leaf (.seq .leaf (.cnd (some (⟨[], [], [0, 3], []⟩, [(.normal, ⟨[(33, (.pd Y4))], [], [0, 3], []⟩)])) .leaf .leaf)))) .leaf)))) .leaf)))) (.seq (.reg [(2, Y4)]) .leaf)))
noncomputable def F_ident_ValidV (a0 : El Y9) : Option (El Y4) := evalF (mkE tyTab mapTab pkTab [] [] F_ident_ValidM 48) (codeOf Try.f58) Try.f58.results F_ident_ValidH F_ident_ValidA F_ident_ValidR (fun y => y.2.1) (a0, ())
theorem F_ident_Valid_eq (a0 : El Y9) : F_ident_ValidV a0 = F_ident_Valid a0 := by kernel_rfl
theorem F_ident_Valid_ok : FnOK Try.prog 58 F_ident_ValidS := fnOK_of (m := F_ident_ValidM) (fn := Try.f58) (hint := F_ident_ValidH) (pack := fun y => y.2.1) hmix tab_ok trivial fun x z h => (F_ident_Valid_eq x.1).trans h
noncomputable def F_stop_Check : (El Y22) → Option (El Y3 × El Y35) := fun a0 =>
 bif decide ((64 : Int) < (↑(List.length a0) : Int)) then some ((0 : Int), (5 : Int))
 else
 Option.bind
 (Tr.run
 (fun s0 =>
 bif decide (s0.2 < (↑(List.length a0) : Int)) then
 Option.bind (idx a0 s0.2) fun x1 =>
 Option.bind (F_ident_Valid x1.1) fun x2 =>
 bif !x2 then some (.inr (.inr (s0.2, (12 : Int))))
 else
 bif Option.getD (Tr.amGet (Tr.keyEq Y9) x1.1 s0.1) (false) then some (.inr (.inr (s0.2, (6 : Int))))
 else
 Option.bind
 (bif decide (x1.2.1 < (0 : Int)) then some true
 else
 bif decide ((16 : Int) ≤ x1.2.1) then some true
 else bif decide (x1.2.2.2.1 < (0 : Int)) then some true else some (decide ((3600 : Int) < x1.2.2.2.1)))
 fun x3 =>
 bif x3 then some (.inr (.inr (s0.2, (2 : Int))))
 else some (.inl (Tr.amSet (Tr.keyEq Y9) x1.1 true s0.1, IntKind.wrap .i64 (s0.2 + (1 : Int))))
 else some (.inr (.inl ())))
 ([], (0 : Int)))
 fun x4 => Sum.elim (fun _ => some ((0 : Int), (0 : Int))) (fun y6 => some (y6.1, y6.2)) x4
abbrev F_stop_CheckA : Pats := (.cons (.pd Y22) .nil)
abbrev F_stop_CheckR : Pats := (.cons (.pd Y3) (.cons (.pd Y35) .nil))
noncomputable def F_stop_CheckS : Tr.Spec := { args := F_stop_CheckA, res := F_stop_CheckR, fns := [], α := El Y3 × El Y35, f := fun x => F_stop_Check x.1, unp := fun z => (((), ()), (z.1, z.2, ())) }
noncomputable def F_stop_CheckM : List (Nat × List Tr.Spec) := [(58, [F_ident_ValidS])]
def F_stop_CheckH : Hint := (.seq .leaf (.seq .leaf (.seq .leaf (.seq (.seq .leaf (.lp ⟨[(4, (.map Y9 Y4)), (13, (.pd Y3))], [], [11, 12], []⟩ [((.exit 0), ⟨[], [], [], []⟩), (.ret, ⟨[(2, (.pd Y3)), (3, (.pd Y35))], [], [], []⟩)] (.seq .leaf (.seq .leaf (.seq (.seq .leaf (.seq (.seq .leaf (.cnd none .leaf (.seq .leaf (.cnd none .leaf (.seq (.reg [(30, Y4)]) .leaf))))) .leaf)) .leaf))))) .leaf))))
noncomputable def F_stop_CheckV (a0 : El Y22) : Option (El Y3 × El Y35) := evalF (mkE tyTab mapTab pkTab [] [] F_stop_CheckM 54) (codeOf Try.f45) Try.f45.results F_stop_CheckH F_stop_CheckA F_stop_CheckR (fun y => (y.2.1, y.2.2.1)) (a0, ())
theorem F_stop_Check_eq (a0 : El Y22) : F_stop_CheckV a0 = F_stop_Check a0 := by kernel_rfl
theorem F_stop_Check_ok : FnOK Try.prog 45 F_stop_CheckS := fnOK_of (m := F_stop_CheckM) (fn := Try.f45) (hint := F_stop_CheckH) (pack := fun y => (y.2.1, y.2.2.1)) hmix tab_ok ⟨⟨F_ident_Valid_ok, trivial⟩, trivial⟩ fun x z h => (F_stop_Check_eq x.1).trans h
noncomputable def F_route_known : (El Y3) → Option (El Y4) := fun a0 => Option.bind (bif decide ((0 : Int) ≤ a0) then some (decide (a0 < (8 : Int))) else some false) fun x0 => some x0
abbrev F_route_knownA : Pats := (.cons (.pd Y3) .nil)
abbrev F_route_knownR : Pats := (.cons (.pd Y4) .nil)
noncomputable def F_route_knownS : Tr.Spec := { args := F_route_knownA, res := F_route_knownR, fns := [], α := El Y4, f := fun x => F_route_known x.1, unp := fun z => (((), ()), (z, ())) }
noncomputable def F_route_knownM : List (Nat × List Tr.Spec) := []
def F_route_knownH : Hint := (.seq .leaf (.seq (.reg [(2, Y4)]) .leaf))
noncomputable def F_route_knownV (a0 : El Y3) : Option (El Y4) := evalF (mkE tyTab mapTab pkTab [] [] F_route_knownM 9) (codeOf Try.f59) Try.f59.results F_route_knownH F_route_knownA F_route_knownR (fun y => y.2.1) (a0, ())
theorem F_route_known_eq (a0 : El Y3) : F_route_knownV a0 = F_route_known a0 := by kernel_rfl
theorem F_route_known_ok : FnOK Try.prog 59 F_route_knownS := fnOK_of (m := F_route_knownM) (fn := Try.f59) (hint := F_route_knownH) (pack := fun y => y.2.1) hmix tab_ok trivial fun x z h => (F_route_known_eq x.1).trans h
noncomputable def F_route_Check : (El Y23) → Option (El Y3 × El Y35) := fun a0 =>
 bif decide ((64 : Int) < (↑(List.length a0) : Int)) then some ((0 : Int), (5 : Int))
 else
 Option.bind
 (Tr.run
 (fun s0 =>
 bif decide (s0.2 < (↑(List.length a0) : Int)) then
 Option.bind (idx a0 s0.2) fun x1 =>
 Option.bind (F_ident_Valid x1.1) fun x2 =>
 bif !x2 then some (.inr (.inr (s0.2, (12 : Int))))
 else
 bif Option.getD (Tr.amGet (Tr.keyEq Y9) x1.1 s0.1) (false) then some (.inr (.inr (s0.2, (6 : Int))))
 else
 Option.bind (F_route_known x1.2.1) fun x3 =>
 bif !x3 then some (.inr (.inr (s0.2, (2 : Int))))
 else some (.inl (Tr.amSet (Tr.keyEq Y9) x1.1 true s0.1, IntKind.wrap .i64 (s0.2 + (1 : Int))))
 else some (.inr (.inl ())))
 ([], (0 : Int)))
 fun x4 => Sum.elim (fun _ => some ((0 : Int), (0 : Int))) (fun y6 => some (y6.1, y6.2)) x4
abbrev F_route_CheckA : Pats := (.cons (.pd Y23) .nil)
abbrev F_route_CheckR : Pats := (.cons (.pd Y3) (.cons (.pd Y35) .nil))
noncomputable def F_route_CheckS : Tr.Spec := { args := F_route_CheckA, res := F_route_CheckR, fns := [], α := El Y3 × El Y35, f := fun x => F_route_Check x.1, unp := fun z => (((), ()), (z.1, z.2, ())) }
noncomputable def F_route_CheckM : List (Nat × List Tr.Spec) := [(58, [F_ident_ValidS]), (59, [F_route_knownS])]
def F_route_CheckH : Hint := (.seq .leaf (.seq .leaf (.seq .leaf (.seq (.seq .leaf (.lp ⟨[(4, (.map Y9 Y4)), (13, (.pd Y3))], [], [11, 12], []⟩ [((.exit 0), ⟨[], [], [], []⟩), (.ret, ⟨[(2, (.pd Y3)), (3, (.pd Y35))], [], [], []⟩)] .leaf)) .leaf))))
noncomputable def F_route_CheckV (a0 : El Y23) : Option (El Y3 × El Y35) := evalF (mkE tyTab mapTab pkTab [] [] F_route_CheckM 37) (codeOf Try.f46) Try.f46.results F_route_CheckH F_route_CheckA F_route_CheckR (fun y => (y.2.1, y.2.2.1)) (a0, ())
theorem F_route_Check_eq (a0 : El Y23) : F_route_CheckV a0 = F_route_Check a0 := by kernel_rfl
theorem F_route_Check_ok : FnOK Try.prog 46 F_route_CheckS := fnOK_of (m := F_route_CheckM) (fn := Try.f46) (hint := F_route_CheckH) (pack := fun y => (y.2.1, y.2.2.1)) hmix tab_ok ⟨⟨F_ident_Valid_ok, trivial⟩, ⟨F_route_known_ok, trivial⟩, trivial⟩ fun x z h => (F_route_Check_eq x.1).trans h
noncomputable def F_network_first : (El Y93) → Option (El Y77) := fun a0 =>
 Option.bind
 (Tr.run
 (fun s0 =>
 bif decide (s0.2 < (↑(List.length a0) : Int)) then
 Option.bind (idx a0 s0.2) fun x1 =>
 bif !decide (x1.2.2.1 = (0 : Int)) then some (.inr (.inr x1)) else some (.inl (s0.1, IntKind.wrap .i64 (s0.2 + (1 : Int))))
 else some (.inr (.inl s0.1)))
 (((0 : Int), (0 : Int), (0 : Int), ()), (0 : Int)))
 fun x2 => Sum.elim (fun _ => some ((0 : Int), (0 : Int), (0 : Int), ())) (fun y4 => some y4) x2
abbrev F_network_firstA : Pats := (.cons (.pd Y93) .nil)
abbrev F_network_firstR : Pats := (.cons (.pd Y77) .nil)
noncomputable def F_network_firstS : Tr.Spec := { args := F_network_firstA, res := F_network_firstR, fns := [], α := El Y77, f := fun x => F_network_first x.1, unp := fun z => (((), ()), (z, ())) }
noncomputable def F_network_firstM : List (Nat × List Tr.Spec) := []
def F_network_firstH : Hint := (.seq .leaf (.seq (.seq .leaf (.lp ⟨[(2, (.var Y77 (.pd Y77))), (7, (.pd Y3))], [], [5, 6], []⟩ [((.exit 0), ⟨[(2, (.var Y77 (.pd Y77)))], [], [], []⟩), (.ret, ⟨[(2, (.var Y77 (.pd Y77)))], [], [], []⟩)] .leaf)) .leaf))
noncomputable def F_network_firstV (a0 : El Y93) : Option (El Y77) := evalF (mkE tyTab mapTab pkTab [] [] F_network_firstM 17) (codeOf Try.f47) Try.f47.results F_network_firstH F_network_firstA F_network_firstR (fun y => y.2.1) (a0, ())
theorem F_network_first_eq (a0 : El Y93) : F_network_firstV a0 = F_network_first a0 := by kernel_rfl
theorem F_network_first_ok : FnOK Try.prog 47 F_network_firstS := fnOK_of (m := F_network_firstM) (fn := Try.f47) (hint := F_network_firstH) (pack := fun y => y.2.1) hmix tab_ok trivial fun x z h => (F_network_first_eq x.1).trans h
noncomputable def F_network_of : (El Y3) → (El Y3) → (El Y35) → Option (El Y77) := fun a0 a1 a2 => some (a0, a1, a2, ())
abbrev F_network_ofA : Pats := (.cons (.pd Y3) (.cons (.pd Y3) (.cons (.pd Y35) .nil)))
abbrev F_network_ofR : Pats := (.cons (.pd Y77) .nil)
noncomputable def F_network_ofS : Tr.Spec := { args := F_network_ofA, res := F_network_ofR, fns := [], α := El Y77, f := fun x => F_network_of x.1 x.2.1 x.2.2.1, unp := fun z => (((), (), (), ()), (z, ())) }
noncomputable def F_network_ofM : List (Nat × List Tr.Spec) := []
def F_network_ofH : Hint := .leaf
noncomputable def F_network_ofV (a0 : El Y3) (a1 : El Y3) (a2 : El Y35) : Option (El Y77) := evalF (mkE tyTab mapTab pkTab [] [] F_network_ofM 11) (codeOf Try.f48) Try.f48.results F_network_ofH F_network_ofA F_network_ofR (fun y => y.2.1) (a0, a1, a2, ())
theorem F_network_of_eq (a0 : El Y3) (a1 : El Y3) (a2 : El Y35) : F_network_ofV a0 a1 a2 = F_network_of a0 a1 a2 := by kernel_rfl
theorem F_network_of_ok : FnOK Try.prog 48 F_network_ofS := fnOK_of (m := F_network_ofM) (fn := Try.f48) (hint := F_network_ofH) (pack := fun y => y.2.1) hmix tab_ok trivial fun x z h => (F_network_of_eq x.1 x.2.1 x.2.2.1).trans h
noncomputable def F_call_one : (El Y47) → (El Y3) → (El Y3) → (El Y3) → (El Y3) → Option (El Y35) := fun a0 a1 a2 a3 a4 =>
 Option.bind (idx a0 a1) fun x0 =>
 Option.bind (bif decide (x0.1 < (0 : Int)) then some true else some (decide (a2 ≤ x0.1))) fun x1 =>
 bif x1 then some (9 : Int)
 else
 Option.bind
 (bif decide ((0 : Int) < a1) then Option.bind (idx a0 (IntKind.wrap .i64 (a1 - (1 : Int)))) fun x2 => some (decide (x2.1 = x0.1))
 else some false)
 fun x3 =>
 bif x3 then some (13 : Int)
 else
 Option.bind
 (bif decide (x0.2.1 < a3) then some true
 else
 bif decide (x0.2.2.1 < x0.2.1) then some true
 else
 bif decide (a4 < x0.2.2.1) then some true
 else
 bif decide ((0 : Int) < a1) then
 Option.bind (idx a0 (IntKind.wrap .i64 (a1 - (1 : Int)))) fun x4 => some (decide (x0.2.1 < x4.2.2.1))
 else some false)
 fun x5 => bif x5 then some (10 : Int) else some (0 : Int)
abbrev F_call_oneA : Pats := (.cons (.pd Y47) (.cons (.pd Y3) (.cons (.pd Y3) (.cons (.pd Y3) (.cons (.pd Y3) .nil)))))
abbrev F_call_oneR : Pats := (.cons (.pd Y35) .nil)
noncomputable def F_call_oneS : Tr.Spec := { args := F_call_oneA, res := F_call_oneR, fns := [], α := El Y35, f := fun x => F_call_one x.1 x.2.1 x.2.2.1 x.2.2.2.1 x.2.2.2.2.1, unp := fun z => (((), (), (), (), (), ()), (z, ())) }
noncomputable def F_call_oneM : List (Nat × List Tr.Spec) := []
def F_call_oneH : Hint := (.seq .leaf (.seq .leaf (.seq (.seq (.reg [(24, Y4)]) .leaf) (.seq (.seq (.reg [(37, Y4)]) .leaf) (.seq (.seq (.reg [(69, Y4)]) .leaf) .leaf)))))
noncomputable def F_call_oneV (a0 : El Y47) (a1 : El Y3) (a2 : El Y3) (a3 : El Y3) (a4 : El Y3) : Option (El Y35) := evalF (mkE tyTab mapTab pkTab [] [] F_call_oneM 70) (codeOf Try.f66) Try.f66.results F_call_oneH F_call_oneA F_call_oneR (fun y => y.2.1) (a0, a1, a2, a3, a4, ())
theorem F_call_one_eq (a0 : El Y47) (a1 : El Y3) (a2 : El Y3) (a3 : El Y3) (a4 : El Y3) : F_call_oneV a0 a1 a2 a3 a4 = F_call_one a0 a1 a2 a3 a4 := by kernel_rfl
theorem F_call_one_ok : FnOK Try.prog 66 F_call_oneS := fnOK_of (m := F_call_oneM) (fn := Try.f66) (hint := F_call_oneH) (pack := fun y => y.2.1) hmix tab_ok trivial fun x z h => (F_call_one_eq x.1 x.2.1 x.2.2.1 x.2.2.2.1 x.2.2.2.2.1).trans h
noncomputable def F_call_Check : (El Y47) → (El Y3) → (El Y3) → (El Y3) → Option (El Y3 × El Y35) := fun a0 a1 a2 a3 =>
 Option.bind (bif decide ((↑(List.length a0) : Int) < (2 : Int)) then some true else some (decide ((32 : Int) < (↑(List.length a0) : Int)))) fun x0 =>
 bif x0 then some ((0 : Int), (5 : Int))
 else
 Option.bind
 (Tr.run
 (fun s1 =>
 bif decide (s1 < (↑(List.length a0) : Int)) then
 Option.bind (F_call_one a0 s1 a1 a2 a3) fun x2 =>
 bif !decide (x2 = (0 : Int)) then some (.inr (.inr (s1, x2))) else some (.inl (IntKind.wrap .i64 (s1 + (1 : Int))))
 else some (.inr (.inl ())))
 (0 : Int))
 fun x3 => Sum.elim (fun _ => some ((0 : Int), (0 : Int))) (fun y5 => some (y5.1, y5.2)) x3
abbrev F_call_CheckA : Pats := (.cons (.pd Y47) (.cons (.pd Y3) (.cons (.pd Y3) (.cons (.pd Y3) .nil))))
abbrev F_call_CheckR : Pats := (.cons (.pd Y3) (.cons (.pd Y35) .nil))
noncomputable def F_call_CheckS : Tr.Spec := { args := F_call_CheckA, res := F_call_CheckR, fns := [], α := El Y3 × El Y35, f := fun x => F_call_Check x.1 x.2.1 x.2.2.1 x.2.2.2.1, unp := fun z => (((), (), (), (), ()), (z.1, z.2, ())) }
noncomputable def F_call_CheckM : List (Nat × List Tr.Spec) := [(66, [F_call_oneS])]
def F_call_CheckH : Hint := (.seq .leaf (.seq (.seq (.reg [(19, Y4)]) .leaf) (.seq (.seq .leaf (.lp ⟨[(22, (.pd Y3))], [], [0, 1, 2, 3, 21], []⟩ [((.exit 0), ⟨[], [], [], []⟩), (.ret, ⟨[(8, (.pd Y3)), (9, (.pd Y35))], [], [], []⟩)] .leaf)) .leaf)))
noncomputable def F_call_CheckV (a0 : El Y47) (a1 : El Y3) (a2 : El Y3) (a3 : El Y3) : Option (El Y3 × El Y35) := evalF (mkE tyTab mapTab pkTab [] [] F_call_CheckM 36) (codeOf Try.f60) Try.f60.results F_call_CheckH F_call_CheckA F_call_CheckR (fun y => (y.2.1, y.2.2.1)) (a0, a1, a2, a3, ())
theorem F_call_Check_eq (a0 : El Y47) (a1 : El Y3) (a2 : El Y3) (a3 : El Y3) : F_call_CheckV a0 a1 a2 a3 = F_call_Check a0 a1 a2 a3 := by kernel_rfl
theorem F_call_Check_ok : FnOK Try.prog 60 F_call_CheckS := fnOK_of (m := F_call_CheckM) (fn := Try.f60) (hint := F_call_CheckH) (pack := fun y => (y.2.1, y.2.2.1)) hmix tab_ok ⟨⟨F_call_one_ok, trivial⟩, trivial⟩ fun x z h => (F_call_Check_eq x.1 x.2.1 x.2.2.1 x.2.2.2.1).trans h
noncomputable def F_network_checkRuns : (El Y31) → Option (El Y77) := fun a0 =>
 bif decide ((1024 : Int) < (↑(List.length a0.2.2.1) : Int)) then Option.bind (F_network_of (2 : Int) (0 : Int) (5 : Int)) fun x0 => some x0
 else
 Option.bind
 (Tr.run
 (fun s1 =>
 bif decide (s1.2.2 < (↑(List.length a0.2.2.1) : Int)) then
 Option.bind (idx a0.2.2.1 s1.2.2) fun x2 =>
 Option.bind (F_ident_Valid x2.2.2.2.1) fun x3 =>
 bif !x3 then Option.bind (F_network_of (2 : Int) s1.2.2 (12 : Int)) fun x4 => some (.inr (.inr x4))
 else
 Option.bind (bif decide (x2.1 < (-1 : Int)) then some true else some (decide (x2.2.2.1 < (0 : Int)))) fun x5 =>
 bif x5 then Option.bind (F_network_of (2 : Int) s1.2.2 (2 : Int)) fun x6 => some (.inr (.inr x6))
 else
 Option.bind (bif decide (x2.2.1 < (0 : Int)) then some true else some (decide ((36524 : Int) < x2.2.1))) fun x7 =>
 bif x7 then Option.bind (F_network_of (2 : Int) s1.2.2 (11 : Int)) fun x8 => some (.inr (.inr x8))
 else
 Option.bind
 (bif decide (x2.2.2.2.2.1 < (0 : Int)) then some true
 else some (decide ((↑(List.length a0.2.1) : Int) ≤ x2.2.2.2.2.1)))
 fun x9 =>
 bif x9 then Option.bind (F_network_of (2 : Int) s1.2.2 (9 : Int)) fun x10 => some (.inr (.inr x10))
 else
 Option.bind (F_call_Check x2.2.2.2.2.2.2.2.1 (↑(List.length a0.1) : Int) (0 : Int) (3155932800 : Int)) fun x11 =>
 bif !decide (x11.2 = (0 : Int)) then Option.bind (F_network_of (2 : Int) s1.2.2 x11.2) fun x12 => some (.inr (.inr x12))
 else
 bif Option.getD (Tr.amGet (Tr.keyEq Y97) (x2.2.2.2.1, x2.2.1, x2.2.2.1, ()) s1.2.1) (false) then
 Option.bind (F_network_of (2 : Int) s1.2.2 (6 : Int)) fun x13 => some (.inr (.inr x13))
 else
 some
 (.inl
 (s1.1, Tr.amSet (Tr.keyEq Y97) (x2.2.2.2.1, x2.2.1, x2.2.2.1, ()) true s1.2.1,
 IntKind.wrap .i64 (s1.2.2 + (1 : Int))))
 else some (.inr (.inl s1.1)))
 (((0 : Int), (0 : Int), (0 : Int), ()), [], (0 : Int)))
 fun x14 => Sum.elim (fun _ => some ((0 : Int), (0 : Int), (0 : Int), ())) (fun y16 => some y16) x14
abbrev F_network_checkRunsA : Pats := (.cons (.pd Y31) .nil)
abbrev F_network_checkRunsR : Pats := (.cons (.pd Y77) .nil)
noncomputable def F_network_checkRunsS : Tr.Spec := { args := F_network_checkRunsA, res := F_network_checkRunsR, fns := [], α := El Y77, f := fun x => F_network_checkRuns x.1, unp := fun z => (((), ()), (z, ())) }
noncomputable def F_network_checkRunsM : List (Nat × List Tr.Spec) := [(48, [F_network_ofS]), (58, [F_ident_ValidS]), (60, [F_call_CheckS])]
def F_network_checkRunsH : Hint := (.seq .leaf (.seq .leaf (.seq .leaf (.seq (.seq .leaf (.lp ⟨[(2, (.var Y77 (.pd Y77))), (3, (.map Y97 Y4)), (18, (.pd Y3))], [], [1, 16, 17], []⟩ [((.exit 0), ⟨[(2, (.var Y77 (.pd Y77)))], [], [], []⟩), (.ret, ⟨[(2, (.var Y77 (.pd Y77)))], [], [], []⟩)] (.seq .leaf (.seq .leaf (.seq (.seq .leaf (.seq (.seq .leaf (.cnd none .leaf (.seq (.reg [(30, Y4)]) (.cnd none .leaf (.seq (.reg [(41, Y4)]) (.cnd none .leaf (.seq (.reg [(52, Y4)]) .leaf))))))) .leaf)) .leaf))))) .leaf))))
noncomputable def F_network_checkRunsV (a0 : El Y31) : Option (El Y77) := evalF (mkE tyTab mapTab pkTab [] [] F_network_checkRunsM 96) (codeOf Try.f49) Try.f49.results F_network_checkRunsH F_network_checkRunsA F_network_checkRunsR (fun y => y.2.1) (a0, ())
theorem F_network_checkRuns_eq (a0 : El Y31) : F_network_checkRunsV a0 = F_network_checkRuns a0 := by kernel_rfl
theorem F_network_checkRuns_ok : FnOK Try.prog 49 F_network_checkRunsS := fnOK_of (m := F_network_checkRunsM) (fn := Try.f49) (hint := F_network_checkRunsH) (pack := fun y => y.2.1) hmix tab_ok ⟨⟨F_network_of_ok, trivial⟩, ⟨F_ident_Valid_ok, trivial⟩, ⟨F_call_Check_ok, trivial⟩, trivial⟩ fun x z h => (F_network_checkRuns_eq x.1).trans h
noncomputable def F_network_within : (El Y3) → (El Y3) → Option (El Y4) := fun a0 a1 => Option.bind (bif decide ((0 : Int) ≤ a0) then some (decide (a0 < a1)) else some false) fun x0 => some x0
abbrev F_network_withinA : Pats := (.cons (.pd Y3) (.cons (.pd Y3) .nil))
abbrev F_network_withinR : Pats := (.cons (.pd Y4) .nil)
noncomputable def F_network_withinS : Tr.Spec := { args := F_network_withinA, res := F_network_withinR, fns := [], α := El Y4, f := fun x => F_network_within x.1 x.2.1, unp := fun z => (((), (), ()), (z, ())) }
noncomputable def F_network_withinM : List (Nat × List Tr.Spec) := []
def F_network_withinH : Hint := (.seq .leaf (.seq (.reg [(4, Y4)]) .leaf))
noncomputable def F_network_withinV (a0 : El Y3) (a1 : El Y3) : Option (El Y4) := evalF (mkE tyTab mapTab pkTab [] [] F_network_withinM 12) (codeOf Try.f61) Try.f61.results F_network_withinH F_network_withinA F_network_withinR (fun y => y.2.1) (a0, a1, ())
theorem F_network_within_eq (a0 : El Y3) (a1 : El Y3) : F_network_withinV a0 a1 = F_network_within a0 a1 := by kernel_rfl
theorem F_network_within_ok : FnOK Try.prog 61 F_network_withinS := fnOK_of (m := F_network_withinM) (fn := Try.f61) (hint := F_network_withinH) (pack := fun y => y.2.1) hmix tab_ok trivial fun x z h => (F_network_within_eq x.1 x.2.1).trans h
noncomputable def F_network_leads : (List (El Y3 × El Y3)) → (El Y3) → (El Y3) → Option (List (El Y3 × El Y3) × El Y4) := fun a0 a1 a2 =>
 Option.bind
 (Tr.run
 (fun s0 =>
 bif s0.2 then
 bif decide (s0.1 = a2) then some (.inr (.inr true))
 else some (.inl (Option.getD (Tr.amGet (Tr.keyEq Y3) s0.1 a0) ((0 : Int)), Option.isSome (Tr.amGet (Tr.keyEq Y3) s0.1 a0)))
 else some (.inr (.inl ())))
 (Option.getD (Tr.amGet (Tr.keyEq Y3) a1 a0) ((0 : Int)), Option.isSome (Tr.amGet (Tr.keyEq Y3) a1 a0)))
 fun x1 => Sum.elim (fun _ => some (a0, false)) (fun y3 => some (a0, y3)) x1
abbrev F_network_leadsA : Pats := (.cons (.map Y3 Y3) (.cons (.pd Y3) (.cons (.pd Y3) .nil)))
abbrev F_network_leadsR : Pats := (.cons (.pd Y4) .nil)
noncomputable def F_network_leadsS : Tr.Spec := { args := F_network_leadsA, res := F_network_leadsR, fns := [], α := List (El Y3 × El Y3) × El Y4, f := fun x => F_network_leads x.1 x.2.1 x.2.2.1, unp := fun z => ((z.1, (), (), ()), (z.2, ())) }
noncomputable def F_network_leadsM : List (Nat × List Tr.Spec) := []
def F_network_leadsH : Hint := (.seq .leaf (.seq (.seq .leaf (.lp ⟨[(7, (.pd Y3)), (8, (.pd Y4))], [], [0, 2], []⟩ [((.exit 0), ⟨[], [], [0], []⟩), (.ret, ⟨[(6, (.pd Y4))], [], [0], []⟩)] .leaf)) .leaf))
noncomputable def F_network_leadsV (a0 : List (El Y3 × El Y3)) (a1 : El Y3) (a2 : El Y3) : Option (List (El Y3 × El Y3) × El Y4) := evalF (mkE tyTab mapTab pkTab [] [] F_network_leadsM 25) (codeOf Try.f62) Try.f62.results F_network_leadsH F_network_leadsA F_network_leadsR (fun y => (y.1.1, y.2.1)) (a0, a1, a2, ())
theorem F_network_leads_eq (a0 : List (El Y3 × El Y3)) (a1 : El Y3) (a2 : El Y3) : F_network_leadsV a0 a1 a2 = F_network_leads a0 a1 a2 := by kernel_rfl
theorem F_network_leads_ok : FnOK Try.prog 62 F_network_leadsS := fnOK_of (m := F_network_leadsM) (fn := Try.f62) (hint := F_network_leadsH) (pack := fun y => (y.1.1, y.2.1)) hmix tab_ok trivial fun x z h => (F_network_leads_eq x.1 x.2.1 x.2.2.1).trans h
noncomputable def F_network_checkLinks : (El Y31) → Option (El Y77) := fun a0 =>
 bif decide ((1024 : Int) < (↑(List.length a0.2.2.2.1) : Int)) then Option.bind (F_network_of (3 : Int) (0 : Int) (5 : Int)) fun x0 => some x0
 else
 Option.bind
 (Tr.run
 (fun s1 =>
 bif decide (s1.2.2.2.2 < (↑(List.length a0.2.2.2.1) : Int)) then
 Option.bind (idx a0.2.2.2.1 s1.2.2.2.2) fun x2 =>
 Option.bind
 (Option.bind (F_network_within x2.1 (↑(List.length a0.2.2.1) : Int)) fun x3 =>
 bif !x3 then some true
 else
 Option.bind (F_network_within x2.2.2.1 (↑(List.length a0.2.2.1) : Int)) fun x4 =>
 bif !x4 then some true else some (decide (x2.1 = x2.2.2.1)))
 fun x5 =>
 bif x5 then Option.bind (F_network_of (3 : Int) s1.2.2.2.2 (9 : Int)) fun x6 => some (.inr (.inr x6))
 else
 Option.bind (idx a0.2.2.1 x2.1) fun x7 =>
 Option.bind (idx a0.2.2.1 x2.2.2.1) fun x8 =>
 Option.bind
 (Option.bind (F_network_within x2.2.1 (↑(List.length x7.2.2.2.2.2.2.2.1) : Int)) fun x9 =>
 bif !x9 then some true
 else Option.bind (F_network_within x2.2.2.2.1 (↑(List.length x8.2.2.2.2.2.2.2.1) : Int)) fun x10 => some !x10)
 fun x11 =>
 bif x11 then Option.bind (F_network_of (3 : Int) s1.2.2.2.2 (9 : Int)) fun x12 => some (.inr (.inr x12))
 else
 Option.bind (idx x7.2.2.2.2.2.2.2.1 x2.2.1) fun x13 =>
 Option.bind (idx x8.2.2.2.2.2.2.2.1 x2.2.2.2.1) fun x14 =>
 bif !decide (x13.1 = x14.1) then Option.bind (F_network_of (3 : Int) s1.2.2.2.2 (13 : Int)) fun x15 => some (.inr (.inr x15))
 else
 bif x2.2.2.2.2.1 then
 bif !decide (IntKind.wrap .i64 (x2.2.1 + (1 : Int)) = (↑(List.length x7.2.2.2.2.2.2.2.1) : Int)) then
 Option.bind (F_network_of (3 : Int) s1.2.2.2.2 (19 : Int)) fun x16 => some (.inr (.inr x16))
 else
 bif !decide (x2.2.2.2.1 = (0 : Int)) then
 Option.bind (F_network_of (3 : Int) s1.2.2.2.2 (19 : Int)) fun x17 => some (.inr (.inr x17))
 else
 bif Option.isSome (Tr.amGet (Tr.keyEq Y3) x2.1 s1.2.1) then
 Option.bind (F_network_of (3 : Int) s1.2.2.2.2 (19 : Int)) fun x18 => some (.inr (.inr x18))
 else
 bif Option.getD (Tr.amGet (Tr.keyEq Y3) x2.2.2.1 s1.2.2.1) (false) then
 Option.bind (F_network_of (3 : Int) s1.2.2.2.2 (19 : Int)) fun x19 => some (.inr (.inr x19))
 else
 Option.bind (F_network_leads s1.2.1 x2.2.2.1 x2.1) fun x20 =>
 bif x20.2 then Option.bind (F_network_of (3 : Int) s1.2.2.2.2 (19 : Int)) fun x21 => some (.inr (.inr x21))
 else
 bif Option.getD (Tr.amGet (Tr.keyEq Y102) [x2.1, x2.2.1, x2.2.2.1, x2.2.2.2.1] s1.2.2.2.1) (false) then
 Option.bind (F_network_of (3 : Int) s1.2.2.2.2 (6 : Int)) fun x22 => some (.inr (.inr x22))
 else
 bif x2.2.2.2.2.1 then
 some
 (.inl
 (s1.1, Tr.amSet (Tr.keyEq Y3) x2.1 x2.2.2.1 x20.1, Tr.amSet (Tr.keyEq Y3) x2.2.2.1 true s1.2.2.1,
 Tr.amSet (Tr.keyEq Y102) [x2.1, x2.2.1, x2.2.2.1, x2.2.2.2.1] true s1.2.2.2.1,
 IntKind.wrap .i64 (s1.2.2.2.2 + (1 : Int))))
 else
 some
 (.inl
 (s1.1, x20.1, s1.2.2.1, Tr.amSet (Tr.keyEq Y102) [x2.1, x2.2.1, x2.2.2.1, x2.2.2.2.1] true s1.2.2.2.1,
 IntKind.wrap .i64 (s1.2.2.2.2 + (1 : Int))))
 else
 bif Option.getD (Tr.amGet (Tr.keyEq Y102) [x2.1, x2.2.1, x2.2.2.1, x2.2.2.2.1] s1.2.2.2.1) (false) then
 Option.bind (F_network_of (3 : Int) s1.2.2.2.2 (6 : Int)) fun x23 => some (.inr (.inr x23))
 else
 bif x2.2.2.2.2.1 then
 some
 (.inl
 (s1.1, Tr.amSet (Tr.keyEq Y3) x2.1 x2.2.2.1 s1.2.1, Tr.amSet (Tr.keyEq Y3) x2.2.2.1 true s1.2.2.1,
 Tr.amSet (Tr.keyEq Y102) [x2.1, x2.2.1, x2.2.2.1, x2.2.2.2.1] true s1.2.2.2.1,
 IntKind.wrap .i64 (s1.2.2.2.2 + (1 : Int))))
 else
 some
 (.inl
 (s1.1, s1.2.1, s1.2.2.1, Tr.amSet (Tr.keyEq Y102) [x2.1, x2.2.1, x2.2.2.1, x2.2.2.2.1] true s1.2.2.2.1,
 IntKind.wrap .i64 (s1.2.2.2.2 + (1 : Int))))
 else some (.inr (.inl s1.1)))
 (((0 : Int), (0 : Int), (0 : Int), ()), [], [], [], (0 : Int)))
 fun x24 => Sum.elim (fun _ => some ((0 : Int), (0 : Int), (0 : Int), ())) (fun y26 => some y26) x24
abbrev F_network_checkLinksA : Pats := (.cons (.pd Y31) .nil)
abbrev F_network_checkLinksR : Pats := (.cons (.pd Y77) .nil)
noncomputable def F_network_checkLinksS : Tr.Spec := { args := F_network_checkLinksA, res := F_network_checkLinksR, fns := [], α := El Y77, f := fun x => F_network_checkLinks x.1, unp := fun z => (((), ()), (z, ())) }
noncomputable def F_network_checkLinksM : List (Nat × List Tr.Spec) := [(48, [F_network_ofS]), (61, [F_network_withinS]), (62, [F_network_leadsS])]
def F_network_checkLinksH : Hint := (.seq .leaf (.seq .leaf (.seq .leaf (.seq .leaf (.seq (.seq .leaf (.lp ⟨[(2, (.var Y77 (.pd Y77))), (3, (.map Y3 Y3)), (4, (.map Y3 Y4)), (5, (.map Y102 Y4)), (24, (.pd Y3))], [], [1, 22, 23], []⟩ [((.exit 0), ⟨[(2, (.var Y77 (.pd Y77)))], [], [], []⟩), (.ret, ⟨[(2, (.var Y77 (.pd Y77)))], [], [], []⟩)] (.seq .leaf (.seq .leaf (.seq (.seq .leaf (.seq (.seq (.reg [(51, Y4)]) .leaf) (.seq .leaf (.seq (.seq (.reg [(81, Y4)]) .leaf) .leaf)))) .leaf))))) .leaf)))))
noncomputable def F_network_checkLinksV (a0 : El Y31) : Option (El Y77) := evalF (mkE tyTab mapTab pkTab [] [] F_network_checkLinksM 171) (codeOf Try.f50) Try.f50.results F_network_checkLinksH F_network_checkLinksA F_network_checkLinksR (fun y => y.2.1) (a0, ())
theorem F_network_checkLinks_eq (a0 : El Y31) : F_network_checkLinksV a0 = F_network_checkLinks a0 := by kernel_rfl
theorem F_network_checkLinks_ok : FnOK Try.prog 50 F_network_checkLinksS := fnOK_of (m := F_network_checkLinksM) (fn := Try.f50) (hint := F_network_checkLinksH) (pack := fun y => y.2.1) hmix tab_ok ⟨⟨F_network_of_ok, trivial⟩, ⟨F_network_within_ok, trivial⟩, ⟨F_network_leads_ok, trivial⟩, trivial⟩ fun x z h => (F_network_checkLinks_eq x.1).trans h
noncomputable def F_product_within : (El Y3) → (El Y3) → (El Y3) → Option (El Y4) := fun a0 a1 a2 => Option.bind (bif decide (a1 ≤ a0) then some (decide (a0 ≤ a2)) else some false) fun x0 => some x0
abbrev F_product_withinA : Pats := (.cons (.pd Y3) (.cons (.pd Y3) (.cons (.pd Y3) .nil)))
abbrev F_product_withinR : Pats := (.cons (.pd Y4) .nil)
noncomputable def F_product_withinS : Tr.Spec := { args := F_product_withinA, res := F_product_withinR, fns := [], α := El Y4, f := fun x => F_product_within x.1 x.2.1 x.2.2.1, unp := fun z => (((), (), (), ()), (z, ())) }
noncomputable def F_product_withinM : List (Nat × List Tr.Spec) := []
def F_product_withinH : Hint := (.seq .leaf (.seq (.reg [(6, Y4)]) .leaf))
noncomputable def F_product_withinV (a0 : El Y3) (a1 : El Y3) (a2 : El Y3) : Option (El Y4) := evalF (mkE tyTab mapTab pkTab [] [] F_product_withinM 15) (codeOf Try.f63) Try.f63.results F_product_withinH F_product_withinA F_product_withinR (fun y => y.2.1) (a0, a1, a2, ())
theorem F_product_within_eq (a0 : El Y3) (a1 : El Y3) (a2 : El Y3) : F_product_withinV a0 a1 a2 = F_product_within a0 a1 a2 := by kernel_rfl
theorem F_product_within_ok : FnOK Try.prog 63 F_product_withinS := fnOK_of (m := F_product_withinM) (fn := Try.f63) (hint := F_product_withinH) (pack := fun y => y.2.1) hmix tab_ok trivial fun x z h => (F_product_within_eq x.1 x.2.1 x.2.2.1).trans h
noncomputable def F_product_Check : (El Y29) → Option (El Y3 × El Y35) := fun a0 =>
 Option.bind
 (Option.bind (F_product_within a0.2.1 (0 : Int) (1000000 : Int)) fun x0 =>
 bif !x0 then some true
 else
 Option.bind (F_product_within a0.2.2.1 (0 : Int) (86400 : Int)) fun x1 =>
 bif !x1 then some true else Option.bind (F_product_within a0.2.2.2.1 (0 : Int) (1000000 : Int)) fun x2 => some !x2)
 fun x3 =>
 bif x3 then some ((-1 : Int), (2 : Int))
 else
 bif decide ((16 : Int) < (↑(List.length a0.1) : Int)) then some ((0 : Int), (5 : Int))
 else
 Option.bind
 (Tr.run
 (fun s4 =>
 bif decide (s4.2 < (↑(List.length a0.1) : Int)) then
 Option.bind (idx a0.1 s4.2) fun x5 =>
 Option.bind (F_ident_Valid x5.1) fun x6 =>
 bif !x6 then some (.inr (.inr (s4.2, (12 : Int))))
 else
 bif Option.getD (Tr.amGet (Tr.keyEq Y9) x5.1 s4.1) (false) then some (.inr (.inr (s4.2, (6 : Int))))
 else
 Option.bind
 (Option.bind (F_product_within x5.2.1 (0 : Int) (1000000 : Int)) fun x7 =>
 bif !x7 then some true
 else
 Option.bind (F_product_within x5.2.2.1 (1 : Int) (8 : Int)) fun x8 =>
 bif !x8 then some true
 else
 Option.bind (F_product_within x5.2.2.2.1 (1 : Int) (16 : Int)) fun x9 =>
 bif !x9 then some true
 else
 Option.bind (F_product_within x5.2.2.2.2.1 (0 : Int) (86400 : Int)) fun x10 =>
 bif !x10 then some true else Option.bind (F_product_within x5.2.2.2.2.2.1 (1 : Int) (255 : Int)) fun x11 => some !x11)
 fun x12 =>
 bif x12 then some (.inr (.inr (s4.2, (2 : Int))))
 else some (.inl (Tr.amSet (Tr.keyEq Y9) x5.1 true s4.1, IntKind.wrap .i64 (s4.2 + (1 : Int))))
 else some (.inr (.inl ())))
 ([], (0 : Int)))
 fun x13 => Sum.elim (fun _ => some ((0 : Int), (0 : Int))) (fun y15 => some (y15.1, y15.2)) x13
abbrev F_product_CheckA : Pats := (.cons (.pd Y29) .nil)
abbrev F_product_CheckR : Pats := (.cons (.pd Y3) (.cons (.pd Y35) .nil))
noncomputable def F_product_CheckS : Tr.Spec := { args := F_product_CheckA, res := F_product_CheckR, fns := [], α := El Y3 × El Y35, f := fun x => F_product_Check x.1, unp := fun z => (((), ()), (z.1, z.2, ())) }
noncomputable def F_product_CheckM : List (Nat × List Tr.Spec) := [(58, [F_ident_ValidS]), (63, [F_product_withinS])]
def F_product_CheckH : Hint := (.seq .leaf (.seq (.seq (.reg [(22, Y4)]) .leaf) (.seq .leaf (.seq .leaf (.seq (.seq .leaf (.lp ⟨[(4, (.map Y9 Y4)), (31, (.pd Y3))], [], [29, 30], []⟩ [((.exit 0), ⟨[], [], [], []⟩), (.ret, ⟨[(2, (.pd Y3)), (3, (.pd Y35))], [], [], []⟩)] (.seq .leaf (.seq .leaf (.seq (.seq .leaf (.seq .leaf (.seq .leaf (.seq (.seq (.reg [(73, Y4)]) .leaf) .leaf)))) .leaf))))) .leaf)))))
noncomputable def F_product_CheckV (a0 : El Y29) : Option (El Y3 × El Y35) := evalF (mkE tyTab mapTab pkTab [] [] F_product_CheckM 79) (codeOf Try.f51) Try.f51.results F_product_CheckH F_product_CheckA F_product_CheckR (fun y => (y.2.1, y.2.2.1)) (a0, ())
theorem F_product_Check_eq (a0 : El Y29) : F_product_CheckV a0 = F_product_Check a0 := by kernel_rfl
theorem F_product_Check_ok : FnOK Try.prog 51 F_product_CheckS := fnOK_of (m := F_product_CheckM) (fn := Try.f51) (hint := F_product_CheckH) (pack := fun y => (y.2.1, y.2.2.1)) hmix tab_ok ⟨⟨F_ident_Valid_ok, trivial⟩, ⟨F_product_within_ok, trivial⟩, trivial⟩ fun x z h => (F_product_Check_eq x.1).trans h
noncomputable def F_footpath_sound : (El Y26) → (El Y3) → Option (El Y3 × El Y35) := fun a0 a1 =>
 Option.bind
 (Tr.run
 (fun s0 =>
 bif decide (s0.2 < (↑(List.length a0) : Int)) then
 Option.bind (idx a0 s0.2) fun x1 =>
 Option.bind
 (bif decide (x1.1 < (0 : Int)) then some (decide (x1.1 < (0 : Int)))
 else
 Option.bind
 (bif decide (a1 ≤ x1.1) then some (decide (a1 ≤ x1.1))
 else
 Option.bind
 (bif decide (x1.2.1 < (0 : Int)) then some (decide (x1.2.1 < (0 : Int)))
 else
 Option.bind (bif decide (a1 ≤ x1.2.1) then some (decide (a1 ≤ x1.2.1)) else some (decide (x1.1 = x1.2.1))) fun x2 =>
 some x2)
 fun x3 => some x3)
 fun x4 => some x4)
 fun x5 =>
 bif x5 then some (.inr (.inr (s0.2, (9 : Int))))
 else
 Option.bind
 (bif decide (x1.2.2.1 < (1 : Int)) then some (decide (x1.2.2.1 < (1 : Int)))
 else some (decide ((14400 : Int) < x1.2.2.1)))
 fun x6 =>
 bif x6 then some (.inr (.inr (s0.2, (2 : Int))))
 else
 bif Option.getD (Tr.amGet (Tr.keyEq Y111) (x1.1, x1.2.1, x1.2.2.2.1, ()) s0.1) (false) then some (.inr (.inr (s0.2, (6 : Int))))
 else some (.inl (Tr.amSet (Tr.keyEq Y111) (x1.1, x1.2.1, x1.2.2.2.1, ()) true s0.1, IntKind.wrap .i64 (s0.2 + (1 : Int))))
 else some (.inr (.inl ())))
 ([], (0 : Int)))
 fun x7 => Sum.elim (fun _ => some ((0 : Int), (0 : Int))) (fun y9 => some (y9.1, y9.2)) x7
abbrev F_footpath_soundA : Pats := (.cons (.pd Y26) (.cons (.pd Y3) .nil))
abbrev F_footpath_soundR : Pats := (.cons (.pd Y3) (.cons (.pd Y35) .nil))
noncomputable def F_footpath_soundS : Tr.Spec := { args := F_footpath_soundA, res := F_footpath_soundR, fns := [], α := El Y3 × El Y35, f := fun x => F_footpath_sound x.1 x.2.1, unp := fun z => (((), (), ()), (z.1, z.2, ())) }
noncomputable def F_footpath_soundM : List (Nat × List Tr.Spec) := []
def F_footpath_soundH : Hint := (.seq .leaf (.seq .leaf (.seq (.seq .leaf (.lp ⟨[(6, (.map Y111 Y4)), (13, (.pd Y3))], [], [1, 11, 12], []⟩ [((.exit 0), ⟨[], [], [], []⟩), (.ret, ⟨[(4, (.pd Y3)), (5, (.pd Y35))], [], [], []⟩)] (.seq .leaf (.seq .leaf (.seq (.seq .leaf (.seq .leaf (.seq (.seq (.seq .leaf (.cnd (some (⟨[], [], [1, 6, 7, 8, 9, 11, 12, 13], []⟩, [(.normal, ⟨[(25, (.pd Y4))], [], [1, 6, 7, 8, 9, 11, 12, 13], []⟩)])) .leaf (.seq .leaf (.cnd (some (⟨[], [], [1, 6, 7, 8, 9, 11, 12, 13], []⟩, [(.normal, ⟨[(25, (.pd Y4))], [], [1, 6, 7, 8, 9, 11, 12, 13], []⟩)])) .leaf (.seq .leaf (.cnd (some (⟨[], [], [1, 6, 7, 8, 9, 11, 12, 13], []⟩, [(.normal, ⟨[(25, (.pd Y4))], [], [1, 6, 7, 8, 9, 11, 12, 13], []⟩)])) .leaf (.seq .leaf (.cnd (some (⟨[], [], [1, 6, 7, 8, 9, 11, 12, 13], []⟩, [(.normal, ⟨[(25, (.pd Y4))], [], [1, 6, 7, 8, 9, 11, 12, 13], []⟩)])) .leaf .leaf)))))))) (.cnd none .leaf (.seq (.seq .leaf (.cnd (some (⟨[], [], [1, 6, 7, 9, 11, 12, 13], []⟩, [(.normal, ⟨[(46, (.pd Y4))], [], [1, 6, 7, 9, 11, 12, 13], []⟩)])) .leaf .leaf)) .leaf))) .leaf))) .leaf))))) .leaf)))
noncomputable def F_footpath_soundV (a0 : El Y26) (a1 : El Y3) : Option (El Y3 × El Y35) := evalF (mkE tyTab mapTab pkTab [] [] F_footpath_soundM 62) (codeOf Try.f67) Try.f67.results F_footpath_soundH F_footpath_soundA F_footpath_soundR (fun y => (y.2.1, y.2.2.1)) (a0, a1, ())
theorem F_footpath_sound_eq (a0 : El Y26) (a1 : El Y3) : F_footpath_soundV a0 a1 = F_footpath_sound a0 a1 := by kernel_rfl
theorem F_footpath_sound_ok : FnOK Try.prog 67 F_footpath_soundS := fnOK_of (m := F_footpath_soundM) (fn := Try.f67) (hint := F_footpath_soundH) (pack := fun y => (y.2.1, y.2.2.1)) hmix tab_ok trivial fun x z h => (F_footpath_sound_eq x.1 x.2.1).trans h
noncomputable def F_shortest_check_1 : (El Y3) → (El Y3) → Option (El Y4) := fun a0 a1 => Option.bind (bif decide (a0 < (0 : Int)) then some true else some (decide (a1 ≤ a0))) fun x0 => some x0
abbrev F_shortest_check_1A : Pats := (.cons (.pd Y3) (.cons (.ro Y3) .nil))
abbrev F_shortest_check_1R : Pats := (.cons (.pd Y4) .nil)
noncomputable def F_shortest_check_1S : Tr.Spec := { args := F_shortest_check_1A, res := F_shortest_check_1R, fns := [], α := El Y4, f := fun x => F_shortest_check_1 x.1 x.2.1, unp := fun z => (((), (), ()), (z, ())) }
noncomputable def F_shortest_check_1M : List (Nat × List Tr.Spec) := []
def F_shortest_check_1H : Hint := (.seq .leaf (.seq (.reg [(3, Y4)]) .leaf))
noncomputable def F_shortest_check_1V (a0 : El Y3) (a1 : El Y3) : Option (El Y4) := evalF (mkE tyTab mapTab pkTab [] [] F_shortest_check_1M 11) (codeOf Try.f93) Try.f93.results F_shortest_check_1H F_shortest_check_1A F_shortest_check_1R (fun y => y.2.1) (a0, a1, ())
theorem F_shortest_check_1_eq (a0 : El Y3) (a1 : El Y3) : F_shortest_check_1V a0 a1 = F_shortest_check_1 a0 a1 := by kernel_rfl
theorem F_shortest_check_1_ok : FnOK Try.prog 93 F_shortest_check_1S := fnOK_of (m := F_shortest_check_1M) (fn := Try.f93) (hint := F_shortest_check_1H) (pack := fun y => y.2.1) hmix tab_ok trivial fun x z h => (F_shortest_check_1_eq x.1 x.2.1).trans h
noncomputable def F_shortest_check : (El Y3) → (El Y118) → (El Y40) → Option (El Y35) := fun a0 a1 a2 =>
 Option.bind (bif decide (a0 < (0 : Int)) then some true else some (decide ((64 : Int) < a0))) fun x0 =>
 bif x0 then some (2 : Int)
 else
 bif decide ((4096 : Int) < (↑(List.length a1) : Int)) then some (5 : Int)
 else
 Option.bind
 (Tr.run
 (fun s1 =>
 bif decide (s1 < (↑(List.length a1) : Int)) then
 Option.bind (idx a1 s1) fun x2 =>
 Option.bind (F_shortest_check_1 x2.1 a0) fun x3 =>
 bif x3 then some (.inr (.inr (9 : Int)))
 else
 Option.bind (F_shortest_check_1 x2.2.1 a0) fun x4 =>
 bif x4 then some (.inr (.inr (9 : Int)))
 else
 Option.bind (bif decide (x2.2.2.1 < (0 : Int)) then some true else some (decide ((1073741824 : Int) < x2.2.2.1))) fun x5 =>
 bif x5 then some (.inr (.inr (2 : Int))) else some (.inl (IntKind.wrap .i64 (s1 + (1 : Int))))
 else some (.inr (.inl ())))
 (0 : Int))
 fun x6 =>
 Sum.elim
 (fun _ =>
 Option.bind
 (Tr.run
 (fun s8 =>
 bif decide (s8 < (↑(List.length a2) : Int)) then
 Option.bind (idx a2 s8) fun x9 =>
 Option.bind (F_shortest_check_1 x9 a0) fun x10 =>
 bif x10 then some (.inr (.inr (9 : Int))) else some (.inl (IntKind.wrap .i64 (s8 + (1 : Int))))
 else some (.inr (.inl ())))
 (0 : Int))
 fun x11 => Sum.elim (fun _ => some (0 : Int)) (fun y13 => some y13) x11)
 (fun y14 => some y14) x6
abbrev F_shortest_checkA : Pats := (.cons (.pd Y3) (.cons (.pd Y118) (.cons (.pd Y40) .nil)))
abbrev F_shortest_checkR : Pats := (.cons (.pd Y35) .nil)
noncomputable def F_shortest_checkS : Tr.Spec := { args := F_shortest_checkA, res := F_shortest_checkR, fns := [], α := El Y35, f := fun x => F_shortest_check x.1 x.2.1 x.2.2.1, unp := fun z => (((), (), (), ()), (z, ())) }
noncomputable def F_shortest_checkM : List (Nat × List Tr.Spec) := [(93, [F_shortest_check_1S])]
def F_shortest_checkH : Hint := (.seq .leaf (.seq (.seq (.reg [(17, Y4)]) .leaf) (.seq .leaf (.seq .leaf (.seq (.seq .leaf (.lp ⟨[(24, (.pd Y3))], [], [2, 7, 22, 23], []⟩ [((.exit 0), ⟨[], [], [2, 7], []⟩), (.ret, ⟨[(6, (.pd Y35))], [], [], []⟩)] (.seq .leaf (.seq .leaf (.seq (.seq .leaf (.seq .leaf (.seq (.reg [(45, Y4)]) .leaf))) .leaf))))) (.seq (.seq .leaf (.lp ⟨[(49, (.pd Y3))], [], [7, 47, 48], []⟩ [((.exit 2), ⟨[], [], [], []⟩), (.ret, ⟨[(6, (.pd Y35))], [], [], []⟩)] .leaf)) .leaf))))))
noncomputable def F_shortest_checkV (a0 : El Y3) (a1 : El Y118) (a2 : El Y40) : Option (El Y35) := evalF (mkE tyTab mapTab pkTab [] [] F_shortest_checkM 57) (codeOf Try.f79) Try.f79.results F_shortest_checkH F_shortest_checkA F_shortest_checkR (fun y => y.2.1) (a0, a1, a2, ())
theorem F_shortest_check_eq (a0 : El Y3) (a1 : El Y118) (a2 : El Y40) : F_shortest_checkV a0 a1 a2 = F_shortest_check a0 a1 a2 := by kernel_rfl
theorem F_shortest_check_ok : FnOK Try.prog 79 F_shortest_checkS := fnOK_of (m := F_shortest_checkM) (fn := Try.f79) (hint := F_shortest_checkH) (pack := fun y => y.2.1) hmix tab_ok ⟨⟨F_shortest_check_1_ok, trivial⟩, trivial⟩ fun x z h => (F_shortest_check_eq x.1 x.2.1 x.2.2.1).trans h
noncomputable def F_shortest_neighbors : (El Y118) → (El Y4) → Option (List (El Y3 × List (El Y120))) := fun a0 a1 =>
 Option.bind
 (Tr.run
 (fun s0 =>
 bif decide (s0.2 < (↑(List.length a0) : Int)) then
 Option.bind (idx a0 s0.2) fun x1 =>
 Option.bind (bif a1 then some (x1.2.1, x1.1, x1.2.2) else some x1) fun x2 =>
 Option.bind (guardB (decide (List.length (Option.getD (Tr.amGet (Tr.keyEq Y3) x2.1 s0.1) []) + List.length [x2] ≤ maxApp))) fun _ =>
 Option.bind (guardB (Tr.holeK Y3 (some x2.1) x2.1)) fun _ =>
 some (.inl (Tr.amSet (Tr.keyEq Y3) x2.1 (Option.getD (Tr.amGet (Tr.keyEq Y3) x2.1 s0.1) [] ++ [x2]) s0.1, IntKind.wrap .i64 (s0.2 + (1 : Int))))
 else some (.inr s0.1))
 ([], (0 : Int)))
 fun x5 => some x5
abbrev F_shortest_neighborsA : Pats := (.cons (.pd Y118) (.cons (.pd Y4) .nil))
abbrev F_shortest_neighborsR : Pats := (.cons (.mrows Y3 Y120) .nil)
noncomputable def F_shortest_neighborsS : Tr.Spec := { args := F_shortest_neighborsA, res := F_shortest_neighborsR, fns := [], α := List (El Y3 × List (El Y120)), f := fun x => F_shortest_neighbors x.1 x.2.1, unp := fun z => (((), (), ()), (z, ())) }
noncomputable def F_shortest_neighborsM : List (Nat × List Tr.Spec) := []
def F_shortest_neighborsH : Hint := (.seq .leaf (.seq .leaf (.seq (.seq .leaf (.lp ⟨[(5, (.mrows Y3 Y120)), (11, (.pd Y3))], [], [1, 9, 10], []⟩ [((.exit 0), ⟨[(5, (.mrows Y3 Y120))], [], [], []⟩)] (.seq .leaf (.seq .leaf (.seq (.seq .leaf (.seq (.seq .leaf (.cnd (some (⟨[], [], [1, 5, 9, 10, 11], []⟩, [(.normal, ⟨[(7, (.var Y120 (.pd Y120)))], [], [1, 5, 9, 10, 11], []⟩)])) .leaf .leaf)) .leaf)) .leaf))))) .leaf)))
noncomputable def F_shortest_neighborsV (a0 : El Y118) (a1 : El Y4) : Option (List (El Y3 × List (El Y120))) := evalF (mkE tyTab mapTab pkTab [126] [] F_shortest_neighborsM 34) (codeOf Try.f80) Try.f80.results F_shortest_neighborsH F_shortest_neighborsA F_shortest_neighborsR (fun y => y.2.1) (a0, a1, ())
theorem F_shortest_neighbors_eq (a0 : El Y118) (a1 : El Y4) : F_shortest_neighborsV a0 a1 = F_shortest_neighbors a0 a1 := by kernel_rfl
theorem F_shortest_neighbors_ok : FnOK Try.prog 80 F_shortest_neighborsS := fnOK_of (m := F_shortest_neighborsM) (fn := Try.f80) (hint := F_shortest_neighborsH) (pack := fun y => y.2.1) hmix tab_ok trivial fun x z h => (F_shortest_neighbors_eq x.1 x.2.1).trans h
noncomputable def F_shortest_lengths : (El Y129) → Option (El Y40) := fun a0 =>
 Option.bind
 (guardB
 (decide
 ((0 : Tr.El (Tr.Ty.int .i64)) ≤ (↑(List.length a0) : Int) ∧
 (↑(List.length a0) : Int) ≤ (↑(List.length a0) : Int) ∧ (↑(List.length a0) : Int) ≤ (↑maxApp : Tr.El (Tr.Ty.int .i64)))))
 fun _ =>
 Option.bind
 (Tr.run
 (fun s1 =>
 bif decide (s1.2 < (↑(List.length a0) : Int)) then
 Option.bind (idx a0 s1.2) fun x2 =>
 Option.bind (inb s1.2 (List.length s1.1)) fun x3 =>
 Option.bind s1.1[x3]? fun _ => some (.inl (List.set s1.1 x3 x2.2.1, IntKind.wrap .i64 (s1.2 + (1 : Int))))
 else some (.inr s1.1))
 (List.replicate (Int.toNat (↑(List.length a0) : Int)) ((0 : Int)), (0 : Int)))
 fun x5 => some x5
abbrev F_shortest_lengthsA : Pats := (.cons (.pd Y129) .nil)
abbrev F_shortest_lengthsR : Pats := (.cons (.pd Y40) .nil)
noncomputable def F_shortest_lengthsS : Tr.Spec := { args := F_shortest_lengthsA, res := F_shortest_lengthsR, fns := [], α := El Y40, f := fun x => F_shortest_lengths x.1, unp := fun z => (((), ()), (z, ())) }
noncomputable def F_shortest_lengthsM : List (Nat × List Tr.Spec) := []
def F_shortest_lengthsH : Hint := (.seq .leaf (.seq .leaf (.seq (.seq .leaf (.lp ⟨[(3, (.own Y3 false)), (11, (.pd Y3))], [], [9, 10], []⟩ [((.exit 0), ⟨[(3, (.own Y3 false))], [], [], []⟩)] .leaf)) .leaf)))
noncomputable def F_shortest_lengthsV (a0 : El Y129) : Option (El Y40) := evalF (mkE tyTab mapTab pkTab [] [] F_shortest_lengthsM 23) (codeOf Try.f81) Try.f81.results F_shortest_lengthsH F_shortest_lengthsA F_shortest_lengthsR (fun y => y.2.1) (a0, ())
theorem F_shortest_lengths_eq (a0 : El Y129) : F_shortest_lengthsV a0 = F_shortest_lengths a0 := by kernel_rfl
theorem F_shortest_lengths_ok : FnOK Try.prog 81 F_shortest_lengthsS := fnOK_of (m := F_shortest_lengthsM) (fn := Try.f81) (hint := F_shortest_lengthsH) (pack := fun y => y.2.1) hmix tab_ok trivial fun x z h => (F_shortest_lengths_eq x.1).trans h
noncomputable def F_shortest_less : (El Y143) → (El Y143) → Option (El Y4) := fun a0 a1 =>
 Option.bind
 (bif decide (a0.2.1 < a1.2.1) then some true
 else bif decide (a0.2.1 = a1.2.1) then some (decide (a0.2.2.1 < a1.2.2.1)) else some false)
 fun x0 => some x0
abbrev F_shortest_lessA : Pats := (.cons (.pd Y143) (.cons (.pd Y143) .nil))
abbrev F_shortest_lessR : Pats := (.cons (.pd Y4) .nil)
noncomputable def F_shortest_lessS : Tr.Spec := { args := F_shortest_lessA, res := F_shortest_lessR, fns := [], α := El Y4, f := fun x => F_shortest_less x.1 x.2.1, unp := fun z => (((), (), ()), (z, ())) }
noncomputable def F_shortest_lessM : List (Nat × List Tr.Spec) := []
def F_shortest_lessH : Hint := (.seq .leaf (.seq (.reg [(4, Y4)]) .leaf))
noncomputable def F_shortest_lessV (a0 : El Y143) (a1 : El Y143) : Option (El Y4) := evalF (mkE tyTab mapTab pkTab [] [] F_shortest_lessM 24) (codeOf Try.f95) Try.f95.results F_shortest_lessH F_shortest_lessA F_shortest_lessR (fun y => y.2.1) (a0, a1, ())
theorem F_shortest_less_eq (a0 : El Y143) (a1 : El Y143) : F_shortest_lessV a0 a1 = F_shortest_less a0 a1 := by kernel_rfl
theorem F_shortest_less_ok : FnOK Try.prog 95 F_shortest_lessS := fnOK_of (m := F_shortest_lessM) (fn := Try.f95) (hint := F_shortest_lessH) (pack := fun y => y.2.1) hmix tab_ok trivial fun x z h => (F_shortest_less_eq x.1 x.2.1).trans h
noncomputable def F_heap_Heap_shortest_label_before : ((Unit × List (El Y160) × El Y3 × Unit)) → (El Y3) → (El Y3) → Option ((Unit × List (El Y160) × El Y3 × Unit) × El Y4) := fun a0 a1 a2 =>
 Option.bind (inb a1 (List.length a0.2.1)) fun x0 =>
 Option.bind a0.2.1[x0]? fun x1 =>
 Option.bind (inb a2 (List.length a0.2.1)) fun x2 =>
 Option.bind a0.2.1[x2]? fun x3 =>
 Option.bind (F_shortest_less x1.1 x3.1) fun x4 =>
 bif x4 then some (((), a0.2.1, a0.2.2.1, ()), true)
 else
 Option.bind (F_shortest_less x3.1 x1.1) fun x5 =>
 bif x5 then some (((), a0.2.1, a0.2.2.1, ()), false) else some (((), a0.2.1, a0.2.2.1, ()), decide (x1.2.1 < x3.2.1))
abbrev F_heap_Heap_shortest_label_beforeA : Pats := (.cons (.var Y158 (.agg (.cons (.fn 95 .nil) (.cons (.own Y160 true) (.cons (.pd Y3) .nil))))) (.cons (.pd Y3) (.cons (.pd Y3) .nil)))
abbrev F_heap_Heap_shortest_label_beforeR : Pats := (.cons (.pd Y4) .nil)
noncomputable def F_heap_Heap_shortest_label_beforeS : Tr.Spec := { args := F_heap_Heap_shortest_label_beforeA, res := F_heap_Heap_shortest_label_beforeR, fns := [], α := (Unit × List (El Y160) × El Y3 × Unit) × El Y4, f := fun x => F_heap_Heap_shortest_label_before x.1 x.2.1 x.2.2.1, unp := fun z => ((z.1, (), (), ()), (z.2, ())) }
noncomputable def F_heap_Heap_shortest_label_beforeM : List (Nat × List Tr.Spec) := [(95, [F_shortest_lessS])]
def F_heap_Heap_shortest_label_beforeH : Hint := .leaf
noncomputable def F_heap_Heap_shortest_label_beforeV (a0 : (Unit × List (El Y160) × El Y3 × Unit)) (a1 : El Y3) (a2 : El Y3) : Option ((Unit × List (El Y160) × El Y3 × Unit) × El Y4) := evalF (mkE tyTab mapTab pkTab [] [] F_heap_Heap_shortest_label_beforeM 46) (codeOf Try.f103) Try.f103.results F_heap_Heap_shortest_label_beforeH F_heap_Heap_shortest_label_beforeA F_heap_Heap_shortest_label_beforeR (fun y => (y.1.1, y.2.1)) (a0, a1, a2, ())
theorem F_heap_Heap_shortest_label_before_eq (a0 : (Unit × List (El Y160) × El Y3 × Unit)) (a1 : El Y3) (a2 : El Y3) : F_heap_Heap_shortest_label_beforeV a0 a1 a2 = F_heap_Heap_shortest_label_before a0 a1 a2 := by kernel_rfl
theorem F_heap_Heap_shortest_label_before_ok : FnOK Try.prog 103 F_heap_Heap_shortest_label_beforeS := fnOK_of (m := F_heap_Heap_shortest_label_beforeM) (fn := Try.f103) (hint := F_heap_Heap_shortest_label_beforeH) (pack := fun y => (y.1.1, y.2.1)) hmix tab_ok ⟨⟨F_shortest_less_ok, trivial⟩, trivial⟩ fun x z h => (F_heap_Heap_shortest_label_before_eq x.1 x.2.1 x.2.2.1).trans h
noncomputable def F_heap_Heap_shortest_label_swap : ((Unit × List (El Y160) × El Y3 × Unit)) → (El Y3) → (El Y3) → Option ((Unit × List (El Y160) × El Y3 × Unit)) := fun a0 a1 a2 =>
 Option.bind (inb a2 (List.length a0.2.1)) fun x0 =>
 Option.bind a0.2.1[x0]? fun x1 =>
 Option.bind (inb a1 (List.length a0.2.1)) fun x2 =>
 Option.bind a0.2.1[x2]? fun x3 =>
 Option.bind (inb a1 (List.length a0.2.1)) fun x4 =>
 Option.bind a0.2.1[x4]? fun _ =>
 Option.bind (inb a2 (List.length (List.set a0.2.1 x4 x1))) fun x6 =>
 Option.bind (List.set a0.2.1 x4 x1)[x6]? fun _ => some ((), List.set (List.set a0.2.1 x4 x1) x6 x3, a0.2.2.1, ())
abbrev F_heap_Heap_shortest_label_swapA : Pats := (.cons (.var Y158 (.agg (.cons (.fn 95 .nil) (.cons (.own Y160 true) (.cons (.pd Y3) .nil))))) (.cons (.pd Y3) (.cons (.pd Y3) .nil)))
abbrev F_heap_Heap_shortest_label_swapR : Pats := .nil
noncomputable def F_heap_Heap_shortest_label_swapS : Tr.Spec := { args := F_heap_Heap_shortest_label_swapA, res := F_heap_Heap_shortest_label_swapR, fns := [], α := (Unit × List (El Y160) × El Y3 × Unit), f := fun x => F_heap_Heap_shortest_label_swap x.1 x.2.1 x.2.2.1, unp := fun z => ((z, (), (), ()), ()) }
noncomputable def F_heap_Heap_shortest_label_swapM : List (Nat × List Tr.Spec) := [(95, [F_shortest_lessS])]
def F_heap_Heap_shortest_label_swapH : Hint := .leaf
noncomputable def F_heap_Heap_shortest_label_swapV (a0 : (Unit × List (El Y160) × El Y3 × Unit)) (a1 : El Y3) (a2 : El Y3) : Option ((Unit × List (El Y160) × El Y3 × Unit)) := evalF (mkE tyTab mapTab pkTab [] [] F_heap_Heap_shortest_label_swapM 32) (codeOf Try.f104) Try.f104.results F_heap_Heap_shortest_label_swapH F_heap_Heap_shortest_label_swapA F_heap_Heap_shortest_label_swapR (fun y => y.1.1) (a0, a1, a2, ())
theorem F_heap_Heap_shortest_label_swap_eq (a0 : (Unit × List (El Y160) × El Y3 × Unit)) (a1 : El Y3) (a2 : El Y3) : F_heap_Heap_shortest_label_swapV a0 a1 a2 = F_heap_Heap_shortest_label_swap a0 a1 a2 := by kernel_rfl
theorem F_heap_Heap_shortest_label_swap_ok : FnOK Try.prog 104 F_heap_Heap_shortest_label_swapS := fnOK_of (m := F_heap_Heap_shortest_label_swapM) (fn := Try.f104) (hint := F_heap_Heap_shortest_label_swapH) (pack := fun y => y.1.1) hmix tab_ok ⟨⟨F_shortest_less_ok, trivial⟩, trivial⟩ fun x z h => (F_heap_Heap_shortest_label_swap_eq x.1 x.2.1 x.2.2.1).trans h
noncomputable def F_heap_Heap_shortest_label_Push : ((Unit × List (El Y160) × El Y3 × Unit)) → (El Y143) → Option ((Unit × List (El Y160) × El Y3 × Unit)) := fun a0 a1 =>
 Option.bind (guardB (decide (List.length a0.2.1 + List.length [(a1, a0.2.2.1, ())] ≤ maxApp))) fun _ =>
 Option.bind
 (Tr.run
 (fun s1 =>
 bif decide ((0 : Int) < s1.2) then
 Option.bind
 (F_heap_Heap_shortest_label_before ((), s1.1.2.1, s1.1.2.2.1, ()) s1.2
 (IntKind.wrap .i64 (Int.tdiv (IntKind.wrap .i64 (s1.2 - (1 : Int))) (2 : Int))))
 fun x2 =>
 bif x2.2 then
 Option.bind
 (F_heap_Heap_shortest_label_swap ((), x2.1.2.1, x2.1.2.2.1, ()) s1.2
 (IntKind.wrap .i64 (Int.tdiv (IntKind.wrap .i64 (s1.2 - (1 : Int))) (2 : Int))))
 fun x3 => some (.inl (((), x3.2.1, x3.2.2.1, ()), IntKind.wrap .i64 (Int.tdiv (IntKind.wrap .i64 (s1.2 - (1 : Int))) (2 : Int))))
 else some (.inr ((), x2.1.2.1, x2.1.2.2.1, ()))
 else some (.inr ((), s1.1.2.1, s1.1.2.2.1, ())))
 (((), a0.2.1 ++ [(a1, a0.2.2.1, ())], IntKind.wrap .i64 (a0.2.2.1 + (1 : Int)), ()),
 IntKind.wrap .i64 ((↑(List.length (a0.2.1 ++ [(a1, a0.2.2.1, ())])) : Int) - (1 : Int))))
 fun x4 => some ((), x4.2.1, x4.2.2.1, ())
abbrev F_heap_Heap_shortest_label_PushA : Pats := (.cons (.var Y158 (.agg (.cons (.fn 95 .nil) (.cons (.own Y160 true) (.cons (.pd Y3) .nil))))) (.cons (.pd Y143) .nil))
abbrev F_heap_Heap_shortest_label_PushR : Pats := .nil
noncomputable def F_heap_Heap_shortest_label_PushS : Tr.Spec := { args := F_heap_Heap_shortest_label_PushA, res := F_heap_Heap_shortest_label_PushR, fns := [], α := (Unit × List (El Y160) × El Y3 × Unit), f := fun x => F_heap_Heap_shortest_label_Push x.1 x.2.1, unp := fun z => ((z, (), ()), ()) }
noncomputable def F_heap_Heap_shortest_label_PushM : List (Nat × List Tr.Spec) := [(95, [F_shortest_lessS]), (103, [F_heap_Heap_shortest_label_beforeS]), (104, [F_heap_Heap_shortest_label_swapS])]
def F_heap_Heap_shortest_label_PushH : Hint := (.seq .leaf (.seq .leaf (.seq .leaf (.seq .leaf (.seq .leaf (.lp ⟨[(0, (.var Y158 (.agg (.cons (.fn 95 .nil) (.cons (.own Y160 false) (.cons (.pd Y3) .nil)))))), (4, (.pd Y3))], [], [], []⟩ [((.exit 0), ⟨[(0, (.var Y158 (.agg (.cons (.fn 95 .nil) (.cons (.own Y160 false) (.cons (.pd Y3) .nil))))))], [], [], []⟩)] .leaf))))))
noncomputable def F_heap_Heap_shortest_label_PushV (a0 : (Unit × List (El Y160) × El Y3 × Unit)) (a1 : El Y143) : Option ((Unit × List (El Y160) × El Y3 × Unit)) := evalF (mkE tyTab mapTab pkTab [] [] F_heap_Heap_shortest_label_PushM 54) (codeOf Try.f96) Try.f96.results F_heap_Heap_shortest_label_PushH F_heap_Heap_shortest_label_PushA F_heap_Heap_shortest_label_PushR (fun y => y.1.1) (a0, a1, ())
theorem F_heap_Heap_shortest_label_Push_eq (a0 : (Unit × List (El Y160) × El Y3 × Unit)) (a1 : El Y143) : F_heap_Heap_shortest_label_PushV a0 a1 = F_heap_Heap_shortest_label_Push a0 a1 := by kernel_rfl
theorem F_heap_Heap_shortest_label_Push_ok : FnOK Try.prog 96 F_heap_Heap_shortest_label_PushS := fnOK_of (m := F_heap_Heap_shortest_label_PushM) (fn := Try.f96) (hint := F_heap_Heap_shortest_label_PushH) (pack := fun y => y.1.1) hmix tab_ok ⟨⟨F_shortest_less_ok, trivial⟩, ⟨F_heap_Heap_shortest_label_before_ok, trivial⟩, ⟨F_heap_Heap_shortest_label_swap_ok, trivial⟩, trivial⟩ fun x z h => (F_heap_Heap_shortest_label_Push_eq x.1 x.2.1).trans h
noncomputable def F_heap_Heap_shortest_label_Len : ((Unit × List (El Y160) × El Y3 × Unit)) → Option ((Unit × List (El Y160) × El Y3 × Unit) × El Y3) := fun a0 => some (((), a0.2.1, a0.2.2.1, ()), (↑(List.length a0.2.1) : Int))
abbrev F_heap_Heap_shortest_label_LenA : Pats := (.cons (.var Y158 (.agg (.cons (.fn 95 .nil) (.cons (.own Y160 true) (.cons (.pd Y3) .nil))))) .nil)
abbrev F_heap_Heap_shortest_label_LenR : Pats := (.cons (.pd Y3) .nil)
noncomputable def F_heap_Heap_shortest_label_LenS : Tr.Spec := { args := F_heap_Heap_shortest_label_LenA, res := F_heap_Heap_shortest_label_LenR, fns := [], α := (Unit × List (El Y160) × El Y3 × Unit) × El Y3, f := fun x => F_heap_Heap_shortest_label_Len x.1, unp := fun z => ((z.1, ()), (z.2, ())) }
noncomputable def F_heap_Heap_shortest_label_LenM : List (Nat × List Tr.Spec) := [(95, [F_shortest_lessS])]
def F_heap_Heap_shortest_label_LenH : Hint := .leaf
noncomputable def F_heap_Heap_shortest_label_LenV (a0 : (Unit × List (El Y160) × El Y3 × Unit)) : Option ((Unit × List (El Y160) × El Y3 × Unit) × El Y3) := evalF (mkE tyTab mapTab pkTab [] [] F_heap_Heap_shortest_label_LenM 10) (codeOf Try.f108) Try.f108.results F_heap_Heap_shortest_label_LenH F_heap_Heap_shortest_label_LenA F_heap_Heap_shortest_label_LenR (fun y => (y.1.1, y.2.1)) (a0, ())
theorem F_heap_Heap_shortest_label_Len_eq (a0 : (Unit × List (El Y160) × El Y3 × Unit)) : F_heap_Heap_shortest_label_LenV a0 = F_heap_Heap_shortest_label_Len a0 := by kernel_rfl
theorem F_heap_Heap_shortest_label_Len_ok : FnOK Try.prog 108 F_heap_Heap_shortest_label_LenS := fnOK_of (m := F_heap_Heap_shortest_label_LenM) (fn := Try.f108) (hint := F_heap_Heap_shortest_label_LenH) (pack := fun y => (y.1.1, y.2.1)) hmix tab_ok ⟨⟨F_shortest_less_ok, trivial⟩, trivial⟩ fun x z h => (F_heap_Heap_shortest_label_Len_eq x.1).trans h
noncomputable def F_heap_Heap_shortest_label_Peek : ((Unit × List (El Y160) × El Y3 × Unit)) → Option ((Unit × List (El Y160) × El Y3 × Unit) × El Y143 × El Y4) := fun a0 =>
 Option.bind (F_heap_Heap_shortest_label_Len ((), a0.2.1, a0.2.2.1, ())) fun x0 =>
 bif decide (x0.2 = (0 : Int)) then some (((), x0.1.2.1, x0.1.2.2.1, ()), ((0 : Int), (0 : Int), (0 : Int), ()), false)
 else Option.bind (inb (0 : Int) (List.length x0.1.2.1)) fun x1 => Option.bind x0.1.2.1[x1]? fun x2 => some (((), x0.1.2.1, x0.1.2.2.1, ()), x2.1, true)
abbrev F_heap_Heap_shortest_label_PeekA : Pats := (.cons (.var Y158 (.agg (.cons (.fn 95 .nil) (.cons (.own Y160 true) (.cons (.pd Y3) .nil))))) .nil)
abbrev F_heap_Heap_shortest_label_PeekR : Pats := (.cons (.pd Y143) (.cons (.pd Y4) .nil))
noncomputable def F_heap_Heap_shortest_label_PeekS : Tr.Spec := { args := F_heap_Heap_shortest_label_PeekA, res := F_heap_Heap_shortest_label_PeekR, fns := [], α := (Unit × List (El Y160) × El Y3 × Unit) × El Y143 × El Y4, f := fun x => F_heap_Heap_shortest_label_Peek x.1, unp := fun z => ((z.1, ()), (z.2.1, z.2.2, ())) }
noncomputable def F_heap_Heap_shortest_label_PeekM : List (Nat × List Tr.Spec) := [(95, [F_shortest_lessS]), (108, [F_heap_Heap_shortest_label_LenS])]
def F_heap_Heap_shortest_label_PeekH : Hint := .leaf
noncomputable def F_heap_Heap_shortest_label_PeekV (a0 : (Unit × List (El Y160) × El Y3 × Unit)) : Option ((Unit × List (El Y160) × El Y3 × Unit) × El Y143 × El Y4) := evalF (mkE tyTab mapTab pkTab [] [] F_heap_Heap_shortest_label_PeekM 16) (codeOf Try.f105) Try.f105.results F_heap_Heap_shortest_label_PeekH F_heap_Heap_shortest_label_PeekA F_heap_Heap_shortest_label_PeekR (fun y => (y.1.1, y.2.1, y.2.2.1)) (a0, ())
theorem F_heap_Heap_shortest_label_Peek_eq (a0 : (Unit × List (El Y160) × El Y3 × Unit)) : F_heap_Heap_shortest_label_PeekV a0 = F_heap_Heap_shortest_label_Peek a0 := by kernel_rfl
theorem F_heap_Heap_shortest_label_Peek_ok : FnOK Try.prog 105 F_heap_Heap_shortest_label_PeekS := fnOK_of (m := F_heap_Heap_shortest_label_PeekM) (fn := Try.f105) (hint := F_heap_Heap_shortest_label_PeekH) (pack := fun y => (y.1.1, y.2.1, y.2.2.1)) hmix tab_ok ⟨⟨F_shortest_less_ok, trivial⟩, ⟨F_heap_Heap_shortest_label_Len_ok, trivial⟩, trivial⟩ fun x z h => (F_heap_Heap_shortest_label_Peek_eq x.1).trans h
noncomputable def F_heap_Heap_shortest_label_sink : ((Unit × List (El Y160) × El Y3 × Unit)) → Option ((Unit × List (El Y160) × El Y3 × Unit)) := fun a0 =>
 Option.bind
 (Tr.run
 (fun s0 =>
 bif decide ((↑(List.length s0.1.2.1) : Int) ≤ IntKind.wrap .i64 (IntKind.wrap .i64 ((2 : Int) * s0.2) + (1 : Int))) then
 some (.inr ((), s0.1.2.1, s0.1.2.2.1, ()))
 else
 bif
 decide
 (IntKind.wrap .i64 (IntKind.wrap .i64 (IntKind.wrap .i64 ((2 : Int) * s0.2) + (1 : Int)) + (1 : Int)) <
 (↑(List.length s0.1.2.1) : Int)) then
 Option.bind
 (F_heap_Heap_shortest_label_before ((), s0.1.2.1, s0.1.2.2.1, ())
 (IntKind.wrap .i64 (IntKind.wrap .i64 (IntKind.wrap .i64 ((2 : Int) * s0.2) + (1 : Int)) + (1 : Int)))
 (IntKind.wrap .i64 (IntKind.wrap .i64 ((2 : Int) * s0.2) + (1 : Int))))
 fun x1 =>
 Option.bind
 (bif x1.2 then
 some
 (((), x1.1.2.1, x1.1.2.2.1, ()),
 IntKind.wrap .i64 (IntKind.wrap .i64 (IntKind.wrap .i64 ((2 : Int) * s0.2) + (1 : Int)) + (1 : Int)))
 else some (((), x1.1.2.1, x1.1.2.2.1, ()), IntKind.wrap .i64 (IntKind.wrap .i64 ((2 : Int) * s0.2) + (1 : Int))))
 fun x2 =>
 Option.bind (F_heap_Heap_shortest_label_before ((), x2.1.2.1, x2.1.2.2.1, ()) x2.2 s0.2) fun x3 =>
 bif !x3.2 then some (.inr ((), x3.1.2.1, x3.1.2.2.1, ()))
 else
 Option.bind (F_heap_Heap_shortest_label_swap ((), x3.1.2.1, x3.1.2.2.1, ()) s0.2 x2.2) fun x4 =>
 some (.inl (((), x4.2.1, x4.2.2.1, ()), x2.2))
 else
 Option.bind
 (F_heap_Heap_shortest_label_before ((), s0.1.2.1, s0.1.2.2.1, ()) (IntKind.wrap .i64 (IntKind.wrap .i64 ((2 : Int) * s0.2) + (1 : Int))) s0.2)
 fun x5 =>
 bif !x5.2 then some (.inr ((), x5.1.2.1, x5.1.2.2.1, ()))
 else
 Option.bind
 (F_heap_Heap_shortest_label_swap ((), x5.1.2.1, x5.1.2.2.1, ()) s0.2
 (IntKind.wrap .i64 (IntKind.wrap .i64 ((2 : Int) * s0.2) + (1 : Int))))
 fun x6 => some (.inl (((), x6.2.1, x6.2.2.1, ()), IntKind.wrap .i64 (IntKind.wrap .i64 ((2 : Int) * s0.2) + (1 : Int)))))
 (((), a0.2.1, a0.2.2.1, ()), (0 : Int)))
 fun x7 => some ((), x7.2.1, x7.2.2.1, ())
abbrev F_heap_Heap_shortest_label_sinkA : Pats := (.cons (.var Y158 (.agg (.cons (.fn 95 .nil) (.cons (.own Y160 true) (.cons (.pd Y3) .nil))))) .nil)
abbrev F_heap_Heap_shortest_label_sinkR : Pats := .nil
noncomputable def F_heap_Heap_shortest_label_sinkS : Tr.Spec := { args := F_heap_Heap_shortest_label_sinkA, res := F_heap_Heap_shortest_label_sinkR, fns := [], α := (Unit × List (El Y160) × El Y3 × Unit), f := fun x => F_heap_Heap_shortest_label_sink x.1, unp := fun z => ((z, ()), ()) }
noncomputable def F_heap_Heap_shortest_label_sinkM : List (Nat × List Tr.Spec) := [(95, [F_shortest_lessS]), (103, [F_heap_Heap_shortest_label_beforeS]), (104, [F_heap_Heap_shortest_label_swapS])]
def F_heap_Heap_shortest_label_sinkH : Hint := (.seq .leaf (.lp ⟨[(0, (.var Y158 (.agg (.cons (.fn 95 .nil) (.cons (.own Y160 false) (.cons (.pd Y3) .nil)))))), (2, (.pd Y3))], [], [], []⟩ [(.ret, ⟨[(0, (.var Y158 (.agg (.cons (.fn 95 .nil) (.cons (.own Y160 false) (.cons (.pd Y3) .nil))))))], [], [], []⟩)] (.seq .leaf (.seq .leaf (.seq (.seq .leaf (.cnd (some (⟨[], [], [2], []⟩, [(.normal, ⟨[(0, (.var Y158 (.agg (.cons (.fn 95 .nil) (.cons (.own Y160 false) (.cons (.pd Y3) .nil)))))), (3, (.pd Y3))], [], [2], []⟩)])) .leaf .leaf)) .leaf)))))
noncomputable def F_heap_Heap_shortest_label_sinkV (a0 : (Unit × List (El Y160) × El Y3 × Unit)) : Option ((Unit × List (El Y160) × El Y3 × Unit)) := evalF (mkE tyTab mapTab pkTab [] [] F_heap_Heap_shortest_label_sinkM 41) (codeOf Try.f106) Try.f106.results F_heap_Heap_shortest_label_sinkH F_heap_Heap_shortest_label_sinkA F_heap_Heap_shortest_label_sinkR (fun y => y.1.1) (a0, ())
theorem F_heap_Heap_shortest_label_sink_eq (a0 : (Unit × List (El Y160) × El Y3 × Unit)) : F_heap_Heap_shortest_label_sinkV a0 = F_heap_Heap_shortest_label_sink a0 := by kernel_rfl
theorem F_heap_Heap_shortest_label_sink_ok : FnOK Try.prog 106 F_heap_Heap_shortest_label_sinkS := fnOK_of (m := F_heap_Heap_shortest_label_sinkM) (fn := Try.f106) (hint := F_heap_Heap_shortest_label_sinkH) (pack := fun y => y.1.1) hmix tab_ok ⟨⟨F_shortest_less_ok, trivial⟩, ⟨F_heap_Heap_shortest_label_before_ok, trivial⟩, ⟨F_heap_Heap_shortest_label_swap_ok, trivial⟩, trivial⟩ fun x z h => (F_heap_Heap_shortest_label_sink_eq x.1).trans h
noncomputable def F_heap_Heap_shortest_label_Pop : ((Unit × List (El Y160) × El Y3 × Unit)) → Option ((Unit × List (El Y160) × El Y3 × Unit) × El Y143 × El Y4) := fun a0 =>
 Option.bind (F_heap_Heap_shortest_label_Peek ((), a0.2.1, a0.2.2.1, ())) fun x0 =>
 bif !x0.2.2 then some (((), x0.1.2.1, x0.1.2.2.1, ()), x0.2.1, false)
 else
 Option.bind (F_heap_Heap_shortest_label_swap ((), x0.1.2.1, x0.1.2.2.1, ()) (0 : Int) (IntKind.wrap .i64 ((↑(List.length x0.1.2.1) : Int) - (1 : Int))))
 fun x1 =>
 Option.bind (sliceB (List.length x1.2.1) (List.length x1.2.1) none (some (IntKind.wrap .i64 ((↑(List.length x0.1.2.1) : Int) - (1 : Int)))))
 fun x2 =>
 Option.bind (F_heap_Heap_shortest_label_sink ((), List.take x2.2 x1.2.1, x1.2.2.1, ())) fun x3 => some (((), x3.2.1, x3.2.2.1, ()), x0.2.1, true)
abbrev F_heap_Heap_shortest_label_PopA : Pats := (.cons (.var Y158 (.agg (.cons (.fn 95 .nil) (.cons (.own Y160 true) (.cons (.pd Y3) .nil))))) .nil)
abbrev F_heap_Heap_shortest_label_PopR : Pats := (.cons (.pd Y143) (.cons (.pd Y4) .nil))
noncomputable def F_heap_Heap_shortest_label_PopS : Tr.Spec := { args := F_heap_Heap_shortest_label_PopA, res := F_heap_Heap_shortest_label_PopR, fns := [], α := (Unit × List (El Y160) × El Y3 × Unit) × El Y143 × El Y4, f := fun x => F_heap_Heap_shortest_label_Pop x.1, unp := fun z => ((z.1, ()), (z.2.1, z.2.2, ())) }
noncomputable def F_heap_Heap_shortest_label_PopM : List (Nat × List Tr.Spec) := [(95, [F_shortest_lessS]), (104, [F_heap_Heap_shortest_label_swapS]), (105, [F_heap_Heap_shortest_label_PeekS]), (106, [F_heap_Heap_shortest_label_sinkS])]
def F_heap_Heap_shortest_label_PopH : Hint := .leaf
noncomputable def F_heap_Heap_shortest_label_PopV (a0 : (Unit × List (El Y160) × El Y3 × Unit)) : Option ((Unit × List (El Y160) × El Y3 × Unit) × El Y143 × El Y4) := evalF (mkE tyTab mapTab pkTab [] [] F_heap_Heap_shortest_label_PopM 36) (codeOf Try.f97) Try.f97.results F_heap_Heap_shortest_label_PopH F_heap_Heap_shortest_label_PopA F_heap_Heap_shortest_label_PopR (fun y => (y.1.1, y.2.1, y.2.2.1)) (a0, ())
theorem F_heap_Heap_shortest_label_Pop_eq (a0 : (Unit × List (El Y160) × El Y3 × Unit)) : F_heap_Heap_shortest_label_PopV a0 = F_heap_Heap_shortest_label_Pop a0 := by kernel_rfl
theorem F_heap_Heap_shortest_label_Pop_ok : FnOK Try.prog 97 F_heap_Heap_shortest_label_PopS := fnOK_of (m := F_heap_Heap_shortest_label_PopM) (fn := Try.f97) (hint := F_heap_Heap_shortest_label_PopH) (pack := fun y => (y.1.1, y.2.1, y.2.2.1)) hmix tab_ok ⟨⟨F_shortest_less_ok, trivial⟩, ⟨F_heap_Heap_shortest_label_swap_ok, trivial⟩, ⟨F_heap_Heap_shortest_label_Peek_ok, trivial⟩, ⟨F_heap_Heap_shortest_label_sink_ok, trivial⟩, trivial⟩ fun x z h => (F_heap_Heap_shortest_label_Pop_eq x.1).trans h
noncomputable def F_heap_New_shortest_label_X_shortest_less : (Unit) → Option ((Unit × List (El Y160) × El Y3 × Unit)) := fun _ => some ((), [], (0 : Int), ())
abbrev F_heap_New_shortest_label_X_shortest_lessA : Pats := (.cons (.fn 95 .nil) .nil)
abbrev F_heap_New_shortest_label_X_shortest_lessR : Pats := (.cons (.var Y158 (.agg (.cons (.fn 95 .nil) (.cons (.own Y160 true) (.cons (.pd Y3) .nil))))) .nil)
noncomputable def F_heap_New_shortest_label_X_shortest_lessS : Tr.Spec := { args := F_heap_New_shortest_label_X_shortest_lessA, res := F_heap_New_shortest_label_X_shortest_lessR, fns := [95], α := (Unit × List (El Y160) × El Y3 × Unit), f := fun x => F_heap_New_shortest_label_X_shortest_less x.1, unp := fun z => (((), ()), (z, ())) }
noncomputable def F_heap_New_shortest_label_X_shortest_lessM : List (Nat × List Tr.Spec) := [(95, [F_shortest_lessS])]
def F_heap_New_shortest_label_X_shortest_lessH : Hint := .leaf
noncomputable def F_heap_New_shortest_label_X_shortest_lessV (a0 : Unit) : Option ((Unit × List (El Y160) × El Y3 × Unit)) := evalF (mkE tyTab mapTab pkTab [] [] F_heap_New_shortest_label_X_shortest_lessM 8) (codeOf Try.f94) Try.f94.results F_heap_New_shortest_label_X_shortest_lessH F_heap_New_shortest_label_X_shortest_lessA F_heap_New_shortest_label_X_shortest_lessR (fun y => y.2.1) (a0, ())
theorem F_heap_New_shortest_label_X_shortest_less_eq (a0 : Unit) : F_heap_New_shortest_label_X_shortest_lessV a0 = F_heap_New_shortest_label_X_shortest_less a0 := by kernel_rfl
theorem F_heap_New_shortest_label_X_shortest_less_ok : FnOK Try.prog 94 F_heap_New_shortest_label_X_shortest_lessS := fnOK_of (m := F_heap_New_shortest_label_X_shortest_lessM) (fn := Try.f94) (hint := F_heap_New_shortest_label_X_shortest_lessH) (pack := fun y => y.2.1) hmix tab_ok ⟨⟨F_shortest_less_ok, trivial⟩, trivial⟩ fun x z h => (F_heap_New_shortest_label_X_shortest_less_eq x.1).trans h
noncomputable def F_shortest_labels : (El Y3) → (List (El Y3 × List (El Y120))) → (El Y3) → Option (List (El Y3 × List (El Y120)) × El Y129) := fun a0 a1 a2 =>
 Option.bind (guardB (decide ((0 : Tr.El (Tr.Ty.int .i64)) ≤ a0 ∧ a0 ≤ a0 ∧ a0 ≤ (↑maxApp : Tr.El (Tr.Ty.int .i64))))) fun _ =>
 Option.bind
 (Tr.run
 (fun s1 =>
 bif decide (s1.2 < (↑(List.length (List.replicate (Int.toNat a0) (((0 : Int), (0 : Int), (0 : Int), ())))) : Int)) then
 Option.bind (inb s1.2 (List.length s1.1)) fun x2 =>
 Option.bind s1.1[x2]? fun _ => some (.inl (List.set s1.1 x2 (s1.2, (-1 : Int), (-1 : Int), ()), IntKind.wrap .i64 (s1.2 + (1 : Int))))
 else some (.inr s1.1))
 (List.replicate (Int.toNat a0) (((0 : Int), (0 : Int), (0 : Int), ())), (0 : Int)))
 fun x4 =>
 Option.bind (F_heap_New_shortest_label_X_shortest_less ()) fun x5 =>
 Option.bind (F_heap_Heap_shortest_label_Push ((), x5.2.1, x5.2.2.1, ()) (a2, (0 : Int), (0 : Int), ())) fun x6 =>
 Option.bind
 (Tr.run
 (fun s7 =>
 Option.bind (F_heap_Heap_shortest_label_Pop ((), s7.2.2.1, s7.2.2.2.1, ())) fun x8 =>
 bif !x8.2.2 then some (.inr s7.1)
 else
 Option.bind (inb x8.2.1.1 (List.length s7.1)) fun x9 =>
 Option.bind s7.1[x9]? fun x10 =>
 bif decide ((0 : Int) ≤ x10.2.2.1) then some (.inl (s7.1, (), x8.1.2.1, x8.1.2.2.1, ()))
 else
 Option.bind (inb x8.2.1.1 (List.length s7.1)) fun x11 =>
 Option.bind s7.1[x11]? fun _ =>
 Option.bind
 (Tr.run
 (fun s13 =>
 bif decide (s13.2 < (↑(List.length (Option.getD (Tr.amGet (Tr.keyEq Y3) x8.2.1.1 a1) [])) : Int)) then
 Option.bind (inb s13.2 (List.length (Option.getD (Tr.amGet (Tr.keyEq Y3) x8.2.1.1 a1) []))) fun x14 =>
 Option.bind (Option.getD (Tr.amGet (Tr.keyEq Y3) x8.2.1.1 a1) [])[x14]? fun x15 =>
 Option.bind (inb x15.2.1 (List.length (List.set s7.1 x11 x8.2.1))) fun x16 =>
 Option.bind (List.set s7.1 x11 x8.2.1)[x16]? fun x17 =>
 bif decide (x17.2.2.1 < (0 : Int)) then
 Option.bind
 (F_heap_Heap_shortest_label_Push ((), s13.1.2.1, s13.1.2.2.1, ())
 (x15.2.1, IntKind.wrap .i64 (x8.2.1.2.1 + x15.2.2.1),
 IntKind.wrap .i64 (x8.2.1.2.2.1 + (1 : Int)), ()))
 fun x18 => some (.inl (((), x18.2.1, x18.2.2.1, ()), IntKind.wrap .i64 (s13.2 + (1 : Int))))
 else some (.inl (((), s13.1.2.1, s13.1.2.2.1, ()), IntKind.wrap .i64 (s13.2 + (1 : Int))))
 else some (.inr ((), s13.1.2.1, s13.1.2.2.1, ())))
 (((), x8.1.2.1, x8.1.2.2.1, ()), (0 : Int)))
 fun x19 => some (.inl (List.set s7.1 x11 x8.2.1, (), x19.2.1, x19.2.2.1, ())))
 (x4, (), x6.2.1, x6.2.2.1, ()))
 fun x20 => some (a1, x20)
abbrev F_shortest_labelsA : Pats := (.cons (.pd Y3) (.cons (.mrows Y3 Y120) (.cons (.pd Y3) .nil)))
abbrev F_shortest_labelsR : Pats := (.cons (.pd Y129) .nil)
noncomputable def F_shortest_labelsS : Tr.Spec := { args := F_shortest_labelsA, res := F_shortest_labelsR, fns := [], α := List (El Y3 × List (El Y120)) × El Y129, f := fun x => F_shortest_labels x.1 x.2.1 x.2.2.1, unp := fun z => (((), z.1, (), ()), (z.2, ())) }
noncomputable def F_shortest_labelsM : List (Nat × List Tr.Spec) := [(94, [F_heap_New_shortest_label_X_shortest_lessS]), (95, [F_shortest_lessS]), (96, [F_heap_Heap_shortest_label_PushS]), (97, [F_heap_Heap_shortest_label_PopS])]
def F_shortest_labelsH : Hint := (.seq .leaf (.seq .leaf (.seq (.seq .leaf (.lp ⟨[(7, (.own Y143 false)), (18, (.pd Y3))], [], [1, 2, 17], []⟩ [((.exit 0), ⟨[(7, (.own Y143 false))], [], [1, 2], []⟩)] .leaf)) (.seq .leaf (.seq .leaf (.lp ⟨[(7, (.own Y143 false)), (9, (.var Y158 (.agg (.cons (.fn 95 .nil) (.cons (.own Y160 false) (.cons (.pd Y3) .nil))))))], [], [1], []⟩ [(.ret, ⟨[(6, (.own Y143 false))], [], [1], []⟩)] (.seq .leaf (.seq .leaf (.seq .leaf (.seq .leaf (.seq .leaf (.lp ⟨[(9, (.var Y158 (.agg (.cons (.fn 95 .nil) (.cons (.own Y160 false) (.cons (.pd Y3) .nil)))))), (57, (.pd Y3))], [], [1, 7, 10, 55, 56], []⟩ [((.exit 4), ⟨[(9, (.var Y158 (.agg (.cons (.fn 95 .nil) (.cons (.own Y160 false) (.cons (.pd Y3) .nil))))))], [], [1, 7], []⟩)] .leaf))))))))))))
noncomputable def F_shortest_labelsV (a0 : El Y3) (a1 : List (El Y3 × List (El Y120))) (a2 : El Y3) : Option (List (El Y3 × List (El Y120)) × El Y129) := evalF (mkE tyTab mapTab pkTab [] [] F_shortest_labelsM 82) (codeOf Try.f82) Try.f82.results F_shortest_labelsH F_shortest_labelsA F_shortest_labelsR (fun y => (y.1.2.1, y.2.1)) (a0, a1, a2, ())
theorem F_shortest_labels_eq (a0 : El Y3) (a1 : List (El Y3 × List (El Y120))) (a2 : El Y3) : F_shortest_labelsV a0 a1 a2 = F_shortest_labels a0 a1 a2 := by kernel_rfl
theorem F_shortest_labels_ok : FnOK Try.prog 82 F_shortest_labelsS := fnOK_of (m := F_shortest_labelsM) (fn := Try.f82) (hint := F_shortest_labelsH) (pack := fun y => (y.1.2.1, y.2.1)) hmix tab_ok ⟨⟨F_heap_New_shortest_label_X_shortest_less_ok, trivial⟩, ⟨F_shortest_less_ok, trivial⟩, ⟨F_heap_Heap_shortest_label_Push_ok, trivial⟩, ⟨F_heap_Heap_shortest_label_Pop_ok, trivial⟩, trivial⟩ fun x z h => (F_shortest_labels_eq x.1 x.2.1 x.2.2.1).trans h
noncomputable def F_shortest_All : (El Y3) → (El Y118) → Option (El Y34 × El Y35) := fun a0 a1 =>
 Option.bind (F_shortest_check a0 a1 []) fun x0 =>
 bif !decide (x0 = (0 : Int)) then some ([], x0)
 else
 Option.bind (F_shortest_neighbors a1 false) fun x1 =>
 Option.bind (guardB (decide ((0 : Tr.El (Tr.Ty.int .i64)) ≤ a0 ∧ a0 ≤ a0 ∧ a0 ≤ (↑maxApp : Tr.El (Tr.Ty.int .i64))))) fun _ =>
 Option.bind
 (Tr.run
 (fun s3 =>
 bif decide (s3.2.2 < (↑(List.length (List.replicate (Int.toNat a0) (([] : List (El Y3))))) : Int)) then
 Option.bind (F_shortest_labels a0 s3.1 s3.2.2) fun x4 =>
 Option.bind (F_shortest_lengths x4.2) fun x5 =>
 Option.bind (inb s3.2.2 (List.length s3.2.1)) fun x6 =>
 Option.bind s3.2.1[x6]? fun _ => some (.inl (x4.1, List.set s3.2.1 x6 x5, IntKind.wrap .i64 (s3.2.2 + (1 : Int))))
 else some (.inr s3.2.1))
 (x1, List.replicate (Int.toNat a0) (([] : List (El Y3))), (0 : Int)))
 fun x8 => some (x8, (0 : Int))
abbrev F_shortest_AllA : Pats := (.cons (.pd Y3) (.cons (.pd Y118) .nil))
abbrev F_shortest_AllR : Pats := (.cons (.pd Y34) (.cons (.pd Y35) .nil))
noncomputable def F_shortest_AllS : Tr.Spec := { args := F_shortest_AllA, res := F_shortest_AllR, fns := [], α := El Y34 × El Y35, f := fun x => F_shortest_All x.1 x.2.1, unp := fun z => (((), (), ()), (z.1, z.2, ())) }
noncomputable def F_shortest_AllM : List (Nat × List Tr.Spec) := [(79, [F_shortest_checkS]), (80, [F_shortest_neighborsS]), (81, [F_shortest_lengthsS]), (82, [F_shortest_labelsS])]
def F_shortest_AllH : Hint := (.seq .leaf (.seq .leaf (.seq .leaf (.seq .leaf (.seq .leaf (.seq (.seq .leaf (.lp ⟨[(7, (.mrows Y3 Y120)), (8, (.own Y40 false)), (22, (.pd Y3))], [], [0, 21], []⟩ [((.exit 0), ⟨[(8, (.own Y40 false))], [], [], []⟩)] .leaf)) .leaf))))))
noncomputable def F_shortest_AllV (a0 : El Y3) (a1 : El Y118) : Option (El Y34 × El Y35) := evalF (mkE tyTab mapTab pkTab [] [] F_shortest_AllM 35) (codeOf Try.f75) Try.f75.results F_shortest_AllH F_shortest_AllA F_shortest_AllR (fun y => (y.2.1, y.2.2.1)) (a0, a1, ())
theorem F_shortest_All_eq (a0 : El Y3) (a1 : El Y118) : F_shortest_AllV a0 a1 = F_shortest_All a0 a1 := by kernel_rfl
theorem F_shortest_All_ok : FnOK Try.prog 75 F_shortest_AllS := fnOK_of (m := F_shortest_AllM) (fn := Try.f75) (hint := F_shortest_AllH) (pack := fun y => (y.2.1, y.2.2.1)) hmix tab_ok ⟨⟨F_shortest_check_ok, trivial⟩, ⟨F_shortest_neighbors_ok, trivial⟩, ⟨F_shortest_lengths_ok, trivial⟩, ⟨F_shortest_labels_ok, trivial⟩, trivial⟩ fun x z h => (F_shortest_All_eq x.1 x.2.1).trans h
noncomputable def F_footpath_distances : (El Y26) → (El Y3) → (El Y4) → Option (El Y34) := fun a0 a1 a2 =>
 Option.bind
 (Tr.run
 (fun s0 =>
 bif decide (s0.2 < (↑(List.length a0) : Int)) then
 Option.bind (idx a0 s0.2) fun x1 =>
 Option.bind (bif a2 then some !x1.2.2.2.1 else some false) fun x2 =>
 bif x2 then some (.inl (s0.1, IntKind.wrap .i64 (s0.2 + (1 : Int))))
 else
 Option.bind
 (bif !Option.isSome (Tr.amGet (Tr.keyEq Y111) (x1.1, x1.2.1, false, ()) s0.1) then some true
 else some (decide (x1.2.2.1 < Option.getD (Tr.amGet (Tr.keyEq Y111) (x1.1, x1.2.1, false, ()) s0.1) ((0 : Int)))))
 fun x3 =>
 bif x3 then some (.inl (Tr.amSet (Tr.keyEq Y111) (x1.1, x1.2.1, false, ()) x1.2.2.1 s0.1, IntKind.wrap .i64 (s0.2 + (1 : Int))))
 else some (.inl (s0.1, IntKind.wrap .i64 (s0.2 + (1 : Int))))
 else some (.inr s0.1))
 ([], (0 : Int)))
 fun x4 =>
 Option.bind
 (guardB
 (decide ((0 : Tr.El (Tr.Ty.int .i64)) ≤ (0 : Int) ∧ (0 : Int) ≤ (↑(List.length x4) : Int) ∧ (↑(List.length x4) : Int) ≤ (↑maxApp : Tr.El (Tr.Ty.int .i64)))))
 fun _ =>
 Tr.drun (fun s6 => bif List.isEmpty s6.2 then (1 : Nat) else List.length s6.2)
 (fun s6 i7 =>
 bif List.isEmpty s6.2 then some (.inr s6.1)
 else
 Option.bind s6.2[i7]? fun x8 =>
 Option.bind (guardB (decide (List.length s6.1 + List.length [(x8.1.1, x8.1.2.1, x8.2, ())] ≤ maxApp))) fun _ =>
 some (.inl (s6.1 ++ [(x8.1.1, x8.1.2.1, x8.2, ())], List.eraseIdx s6.2 i7)))
 (fun o10 => Option.bind (F_shortest_All a1 o10) fun x11 => some x11.1) (List.replicate (Int.toNat (0 : Int)) (((0 : Int), (0 : Int), (0 : Int), ())), x4)
abbrev F_footpath_distancesA : Pats := (.cons (.pd Y26) (.cons (.pd Y3) (.cons (.pd Y4) .nil)))
abbrev F_footpath_distancesR : Pats := (.cons (.pd Y34) .nil)
noncomputable def F_footpath_distancesS : Tr.Spec := { args := F_footpath_distancesA, res := F_footpath_distancesR, fns := [], α := El Y34, f := fun x => F_footpath_distances x.1 x.2.1 x.2.2.1, unp := fun z => (((), (), (), ()), (z, ())) }
noncomputable def F_footpath_distancesM : List (Nat × List Tr.Spec) := [(75, [F_shortest_AllS])]
def F_footpath_distancesH : Hint := (.seq .leaf (.seq .leaf (.seq (.seq .leaf (.lp ⟨[(7, (.map Y111 Y3)), (21, (.pd Y3))], [], [1, 2, 19, 20], []⟩ [((.exit 0), ⟨[(7, (.map Y111 Y3))], [], [1], []⟩)] (.seq .leaf (.seq .leaf (.seq (.seq .leaf (.seq (.seq (.reg [(30, Y4)]) .leaf) (.seq .leaf (.seq .leaf (.seq (.reg [(49, Y4)]) .leaf))))) .leaf))))) (.seq .leaf (.seq (.seq .leaf (.lpd 59 ⟨[(13, (.own Y120 false)), (59, (.it Y111 Y3))], [], [1], []⟩ [((.exit 2), ⟨[(13, (.own Y120 false))], [], [1], []⟩)] .leaf)) .leaf)))))
noncomputable def F_footpath_distancesV (a0 : El Y26) (a1 : El Y3) (a2 : El Y4) : Option (El Y34) := evalF (mkE tyTab mapTab pkTab [] [] F_footpath_distancesM 81) (codeOf Try.f69) Try.f69.results F_footpath_distancesH F_footpath_distancesA F_footpath_distancesR (fun y => y.2.1) (a0, a1, a2, ())
theorem F_footpath_distances_eq (a0 : El Y26) (a1 : El Y3) (a2 : El Y4) : F_footpath_distancesV a0 a1 a2 = F_footpath_distances a0 a1 a2 := by kernel_rfl
theorem F_footpath_distances_ok : FnOK Try.prog 69 F_footpath_distancesS := fnOK_of (m := F_footpath_distancesM) (fn := Try.f69) (hint := F_footpath_distancesH) (pack := fun y => y.2.1) hmix tab_ok ⟨⟨F_shortest_All_ok, trivial⟩, trivial⟩ fun x z h => (F_footpath_distances_eq x.1 x.2.1 x.2.2.1).trans h
noncomputable def F_cmp_Or_int : (El Y40) → Option (El Y3) := fun a0 =>
 Option.bind
 (Tr.run
 (fun s0 =>
 bif decide (s0 < (↑(List.length a0) : Int)) then
 Option.bind (idx a0 s0) fun x1 =>
 bif !decide (x1 = (0 : Int)) then some (.inr (.inr x1)) else some (.inl (IntKind.wrap .i64 (s0 + (1 : Int))))
 else some (.inr (.inl ())))
 (0 : Int))
 fun x2 => Sum.elim (fun _ => some (0 : Int)) (fun y4 => some y4) x2
abbrev F_cmp_Or_intA : Pats := (.cons (.pd Y40) .nil)
abbrev F_cmp_Or_intR : Pats := (.cons (.pd Y3) .nil)
noncomputable def F_cmp_Or_intS : Tr.Spec := { args := F_cmp_Or_intA, res := F_cmp_Or_intR, fns := [], α := El Y3, f := fun x => F_cmp_Or_int x.1, unp := fun z => (((), ()), (z, ())) }
noncomputable def F_cmp_Or_intM : List (Nat × List Tr.Spec) := []
def F_cmp_Or_intH : Hint := (.seq .leaf (.seq .leaf (.seq (.seq .leaf (.lp ⟨[(8, (.pd Y3))], [], [3, 6, 7], []⟩ [((.exit 0), ⟨[], [], [3], []⟩), (.ret, ⟨[(2, (.pd Y3))], [], [], []⟩)] .leaf)) .leaf)))
noncomputable def F_cmp_Or_intV (a0 : El Y40) : Option (El Y3) := evalF (mkE tyTab mapTab pkTab [] [] F_cmp_Or_intM 18) (codeOf Try.f73) Try.f73.results F_cmp_Or_intH F_cmp_Or_intA F_cmp_Or_intR (fun y => y.2.1) (a0, ())
theorem F_cmp_Or_int_eq (a0 : El Y40) : F_cmp_Or_intV a0 = F_cmp_Or_int a0 := by kernel_rfl
theorem F_cmp_Or_int_ok : FnOK Try.prog 73 F_cmp_Or_intS := fnOK_of (m := F_cmp_Or_intM) (fn := Try.f73) (hint := F_cmp_Or_intH) (pack := fun y => y.2.1) hmix tab_ok trivial fun x z h => (F_cmp_Or_int_eq x.1).trans h
noncomputable def F_cmp_isNaN_int : (El Y3) → Option (El Y4) := fun a0 => some !decide (a0 = a0)
abbrev F_cmp_isNaN_intA : Pats := (.cons (.pd Y3) .nil)
abbrev F_cmp_isNaN_intR : Pats := (.cons (.pd Y4) .nil)
noncomputable def F_cmp_isNaN_intS : Tr.Spec := { args := F_cmp_isNaN_intA, res := F_cmp_isNaN_intR, fns := [], α := El Y4, f := fun x => F_cmp_isNaN_int x.1, unp := fun z => (((), ()), (z, ())) }
noncomputable def F_cmp_isNaN_intM : List (Nat × List Tr.Spec) := []
def F_cmp_isNaN_intH : Hint := .leaf
noncomputable def F_cmp_isNaN_intV (a0 : El Y3) : Option (El Y4) := evalF (mkE tyTab mapTab pkTab [] [] F_cmp_isNaN_intM 6) (codeOf Try.f78) Try.f78.results F_cmp_isNaN_intH F_cmp_isNaN_intA F_cmp_isNaN_intR (fun y => y.2.1) (a0, ())
theorem F_cmp_isNaN_int_eq (a0 : El Y3) : F_cmp_isNaN_intV a0 = F_cmp_isNaN_int a0 := by kernel_rfl
theorem F_cmp_isNaN_int_ok : FnOK Try.prog 78 F_cmp_isNaN_intS := fnOK_of (m := F_cmp_isNaN_intM) (fn := Try.f78) (hint := F_cmp_isNaN_intH) (pack := fun y => y.2.1) hmix tab_ok trivial fun x z h => (F_cmp_isNaN_int_eq x.1).trans h
noncomputable def F_cmp_Compare_int : (El Y3) → (El Y3) → Option (El Y3) := fun a0 a1 =>
 Option.bind (F_cmp_isNaN_int a0) fun x0 =>
 Option.bind (F_cmp_isNaN_int a1) fun x1 =>
 bif x0 then bif x1 then some (0 : Int) else some (-1 : Int)
 else bif x1 then some (1 : Int) else bif decide (a0 < a1) then some (-1 : Int) else bif decide (a1 < a0) then some (1 : Int) else some (0 : Int)
abbrev F_cmp_Compare_intA : Pats := (.cons (.pd Y3) (.cons (.pd Y3) .nil))
abbrev F_cmp_Compare_intR : Pats := (.cons (.pd Y3) .nil)
noncomputable def F_cmp_Compare_intS : Tr.Spec := { args := F_cmp_Compare_intA, res := F_cmp_Compare_intR, fns := [], α := El Y3, f := fun x => F_cmp_Compare_int x.1 x.2.1, unp := fun z => (((), (), ()), (z, ())) }
noncomputable def F_cmp_Compare_intM : List (Nat × List Tr.Spec) := [(78, [F_cmp_isNaN_intS])]
def F_cmp_Compare_intH : Hint := .leaf
noncomputable def F_cmp_Compare_intV (a0 : El Y3) (a1 : El Y3) : Option (El Y3) := evalF (mkE tyTab mapTab pkTab [] [] F_cmp_Compare_intM 20) (codeOf Try.f74) Try.f74.results F_cmp_Compare_intH F_cmp_Compare_intA F_cmp_Compare_intR (fun y => y.2.1) (a0, a1, ())
theorem F_cmp_Compare_int_eq (a0 : El Y3) (a1 : El Y3) : F_cmp_Compare_intV a0 a1 = F_cmp_Compare_int a0 a1 := by kernel_rfl
theorem F_cmp_Compare_int_ok : FnOK Try.prog 74 F_cmp_Compare_intS := fnOK_of (m := F_cmp_Compare_intM) (fn := Try.f74) (hint := F_cmp_Compare_intH) (pack := fun y => y.2.1) hmix tab_ok ⟨⟨F_cmp_isNaN_int_ok, trivial⟩, trivial⟩ fun x z h => (F_cmp_Compare_int_eq x.1 x.2.1).trans h
noncomputable def F_footpath_closure_2 : (El Y88) → (El Y88) → Option (El Y3) := fun a0 a1 =>
 Option.bind (F_cmp_Compare_int a0.1 a1.1) fun x0 =>
 Option.bind (F_cmp_Compare_int a0.2.1 a1.2.1) fun x1 =>
 Option.bind (F_cmp_Compare_int a0.2.2.1 a1.2.2.1) fun x2 => Option.bind (F_cmp_Or_int [x0, x1, x2]) fun x3 => some x3
abbrev F_footpath_closure_2A : Pats := (.cons (.pd Y88) (.cons (.pd Y88) .nil))
abbrev F_footpath_closure_2R : Pats := (.cons (.pd Y3) .nil)
noncomputable def F_footpath_closure_2S : Tr.Spec := { args := F_footpath_closure_2A, res := F_footpath_closure_2R, fns := [], α := El Y3, f := fun x => F_footpath_closure_2 x.1 x.2.1, unp := fun z => (((), (), ()), (z, ())) }
noncomputable def F_footpath_closure_2M : List (Nat × List Tr.Spec) := [(73, [F_cmp_Or_intS]), (74, [F_cmp_Compare_intS])]
def F_footpath_closure_2H : Hint := .leaf
noncomputable def F_footpath_closure_2V (a0 : El Y88) (a1 : El Y88) : Option (El Y3) := evalF (mkE tyTab mapTab pkTab [] [] F_footpath_closure_2M 22) (codeOf Try.f72) Try.f72.results F_footpath_closure_2H F_footpath_closure_2A F_footpath_closure_2R (fun y => y.2.1) (a0, a1, ())
theorem F_footpath_closure_2_eq (a0 : El Y88) (a1 : El Y88) : F_footpath_closure_2V a0 a1 = F_footpath_closure_2 a0 a1 := by kernel_rfl
theorem F_footpath_closure_2_ok : FnOK Try.prog 72 F_footpath_closure_2S := fnOK_of (m := F_footpath_closure_2M) (fn := Try.f72) (hint := F_footpath_closure_2H) (pack := fun y => y.2.1) hmix tab_ok ⟨⟨F_cmp_Or_int_ok, trivial⟩, ⟨F_cmp_Compare_int_ok, trivial⟩, trivial⟩ fun x z h => (F_footpath_closure_2_eq x.1 x.2.1).trans h
noncomputable def F_footpath_closure_1 : (El Y3) → (El Y3) → (El Y3) → (El Y4) → (List (El Y88)) → Option (List (El Y88)) := fun a0 a1 a2 a3 a4 =>
 Option.bind (bif decide ((0 : Int) < a2) then some (decide (a2 ≤ (14400 : Int))) else some false) fun x0 =>
 bif x0 then Option.bind (guardB (decide (List.length a4 + List.length [(a0, a1, a2, a3, ())] ≤ maxApp))) fun _ => some (a4 ++ [(a0, a1, a2, a3, ())]) else some a4
abbrev F_footpath_closure_1A : Pats := (.cons (.pd Y3) (.cons (.pd Y3) (.cons (.pd Y3) (.cons (.pd Y4) (.cons (.var Y26 (.own Y88 false)) .nil)))))
abbrev F_footpath_closure_1R : Pats := .nil
noncomputable def F_footpath_closure_1S : Tr.Spec := { args := F_footpath_closure_1A, res := F_footpath_closure_1R, fns := [], α := List (El Y88), f := fun x => F_footpath_closure_1 x.1 x.2.1 x.2.2.1 x.2.2.2.1 x.2.2.2.2.1, unp := fun z => (((), (), (), (), z, ()), ()) }
noncomputable def F_footpath_closure_1M : List (Nat × List Tr.Spec) := []
def F_footpath_closure_1H : Hint := (.seq (.reg [(14, Y4)]) .leaf)
noncomputable def F_footpath_closure_1V (a0 : El Y3) (a1 : El Y3) (a2 : El Y3) (a3 : El Y4) (a4 : List (El Y88)) : Option (List (El Y88)) := evalF (mkE tyTab mapTab pkTab [] [] F_footpath_closure_1M 23) (codeOf Try.f70) Try.f70.results F_footpath_closure_1H F_footpath_closure_1A F_footpath_closure_1R (fun y => y.1.2.2.2.2.1) (a0, a1, a2, a3, a4, ())
theorem F_footpath_closure_1_eq (a0 : El Y3) (a1 : El Y3) (a2 : El Y3) (a3 : El Y4) (a4 : List (El Y88)) : F_footpath_closure_1V a0 a1 a2 a3 a4 = F_footpath_closure_1 a0 a1 a2 a3 a4 := by kernel_rfl
theorem F_footpath_closure_1_ok : FnOK Try.prog 70 F_footpath_closure_1S := fnOK_of (m := F_footpath_closure_1M) (fn := Try.f70) (hint := F_footpath_closure_1H) (pack := fun y => y.1.2.2.2.2.1) hmix tab_ok trivial fun x z h => (F_footpath_closure_1_eq x.1 x.2.1 x.2.2.1 x.2.2.2.1 x.2.2.2.2.1).trans h
noncomputable def F_math_bits_Len32 : (El Y139) → Option (El Y3) := fun a0 =>
 Option.bind
 (bif decide ((65536 : Int) ≤ a0) then some (Int.fdiv a0 ((2 : Int) ^ Min.min (Int.toNat (16 : Int)) (Go.IntKind.bits .u32)), (16 : Int))
 else some (a0, (0 : Int)))
 fun x0 =>
 Option.bind
 (bif decide ((256 : Int) ≤ x0.1) then
 some (Int.fdiv x0.1 ((2 : Int) ^ Min.min (Int.toNat (8 : Int)) (Go.IntKind.bits .u32)), IntKind.wrap .i64 (x0.2 + (8 : Int)))
 else some (x0.1, x0.2))
 fun x1 =>
 Option.bind
 (idx
 [(0 : UInt8), (1 : UInt8), (2 : UInt8), (2 : UInt8), (3 : UInt8), (3 : UInt8), (3 : UInt8), (3 : UInt8), (4 : UInt8), (4 : UInt8), (4 : UInt8), (4 : UInt8), (4 : UInt8), (4 : UInt8),
 (4 : UInt8), (4 : UInt8), (5 : UInt8), (5 : UInt8), (5 : UInt8), (5 : UInt8), (5 : UInt8), (5 : UInt8), (5 : UInt8), (5 : UInt8), (5 : UInt8), (5 : UInt8), (5 : UInt8), (5 : UInt8),
 (5 : UInt8), (5 : UInt8), (5 : UInt8), (5 : UInt8), (6 : UInt8), (6 : UInt8), (6 : UInt8), (6 : UInt8), (6 : UInt8), (6 : UInt8), (6 : UInt8), (6 : UInt8), (6 : UInt8), (6 : UInt8),
 (6 : UInt8), (6 : UInt8), (6 : UInt8), (6 : UInt8), (6 : UInt8), (6 : UInt8), (6 : UInt8), (6 : UInt8), (6 : UInt8), (6 : UInt8), (6 : UInt8), (6 : UInt8), (6 : UInt8), (6 : UInt8),
 (6 : UInt8), (6 : UInt8), (6 : UInt8), (6 : UInt8), (6 : UInt8), (6 : UInt8), (6 : UInt8), (6 : UInt8), (7 : UInt8), (7 : UInt8), (7 : UInt8), (7 : UInt8), (7 : UInt8), (7 : UInt8),
 (7 : UInt8), (7 : UInt8), (7 : UInt8), (7 : UInt8), (7 : UInt8), (7 : UInt8), (7 : UInt8), (7 : UInt8), (7 : UInt8), (7 : UInt8), (7 : UInt8), (7 : UInt8), (7 : UInt8), (7 : UInt8),
 (7 : UInt8), (7 : UInt8), (7 : UInt8), (7 : UInt8), (7 : UInt8), (7 : UInt8), (7 : UInt8), (7 : UInt8), (7 : UInt8), (7 : UInt8), (7 : UInt8), (7 : UInt8), (7 : UInt8), (7 : UInt8),
 (7 : UInt8), (7 : UInt8), (7 : UInt8), (7 : UInt8), (7 : UInt8), (7 : UInt8), (7 : UInt8), (7 : UInt8), (7 : UInt8), (7 : UInt8), (7 : UInt8), (7 : UInt8), (7 : UInt8), (7 : UInt8),
 (7 : UInt8), (7 : UInt8), (7 : UInt8), (7 : UInt8), (7 : UInt8), (7 : UInt8), (7 : UInt8), (7 : UInt8), (7 : UInt8), (7 : UInt8), (7 : UInt8), (7 : UInt8), (7 : UInt8), (7 : UInt8),
 (7 : UInt8), (7 : UInt8), (8 : UInt8), (8 : UInt8), (8 : UInt8), (8 : UInt8), (8 : UInt8), (8 : UInt8), (8 : UInt8), (8 : UInt8), (8 : UInt8), (8 : UInt8), (8 : UInt8), (8 : UInt8),
 (8 : UInt8), (8 : UInt8), (8 : UInt8), (8 : UInt8), (8 : UInt8), (8 : UInt8), (8 : UInt8), (8 : UInt8), (8 : UInt8), (8 : UInt8), (8 : UInt8), (8 : UInt8), (8 : UInt8), (8 : UInt8),
 (8 : UInt8), (8 : UInt8), (8 : UInt8), (8 : UInt8), (8 : UInt8), (8 : UInt8), (8 : UInt8), (8 : UInt8), (8 : UInt8), (8 : UInt8), (8 : UInt8), (8 : UInt8), (8 : UInt8), (8 : UInt8),
 (8 : UInt8), (8 : UInt8), (8 : UInt8), (8 : UInt8), (8 : UInt8), (8 : UInt8), (8 : UInt8), (8 : UInt8), (8 : UInt8), (8 : UInt8), (8 : UInt8), (8 : UInt8), (8 : UInt8), (8 : UInt8),
 (8 : UInt8), (8 : UInt8), (8 : UInt8), (8 : UInt8), (8 : UInt8), (8 : UInt8), (8 : UInt8), (8 : UInt8), (8 : UInt8), (8 : UInt8), (8 : UInt8), (8 : UInt8), (8 : UInt8), (8 : UInt8),
 (8 : UInt8), (8 : UInt8), (8 : UInt8), (8 : UInt8), (8 : UInt8), (8 : UInt8), (8 : UInt8), (8 : UInt8), (8 : UInt8), (8 : UInt8), (8 : UInt8), (8 : UInt8), (8 : UInt8), (8 : UInt8),
 (8 : UInt8), (8 : UInt8), (8 : UInt8), (8 : UInt8), (8 : UInt8), (8 : UInt8), (8 : UInt8), (8 : UInt8), (8 : UInt8), (8 : UInt8), (8 : UInt8), (8 : UInt8), (8 : UInt8), (8 : UInt8),
 (8 : UInt8), (8 : UInt8), (8 : UInt8), (8 : UInt8), (8 : UInt8), (8 : UInt8), (8 : UInt8), (8 : UInt8), (8 : UInt8), (8 : UInt8), (8 : UInt8), (8 : UInt8), (8 : UInt8), (8 : UInt8),
 (8 : UInt8), (8 : UInt8), (8 : UInt8), (8 : UInt8), (8 : UInt8), (8 : UInt8), (8 : UInt8), (8 : UInt8), (8 : UInt8), (8 : UInt8), (8 : UInt8), (8 : UInt8), (8 : UInt8), (8 : UInt8),
 (8 : UInt8), (8 : UInt8), (8 : UInt8), (8 : UInt8)]
 (IntKind.wrap .u8 x1.1))
 fun x2 => some (IntKind.wrap .i64 (x1.2 + IntKind.wrap .i64 (↑(UInt8.toNat x2) : Int)))
abbrev F_math_bits_Len32A : Pats := (.cons (.pd Y139) .nil)
abbrev F_math_bits_Len32R : Pats := (.cons (.pd Y3) .nil)
noncomputable def F_math_bits_Len32S : Tr.Spec := { args := F_math_bits_Len32A, res := F_math_bits_Len32R, fns := [], α := El Y3, f := fun x => F_math_bits_Len32 x.1, unp := fun z => (((), ()), (z, ())) }
noncomputable def F_math_bits_Len32M : List (Nat × List Tr.Spec) := []
def F_math_bits_Len32H : Hint := (.seq .leaf (.seq (.seq .leaf (.cnd (some (⟨[], [], [], []⟩, [(.normal, ⟨[(0, (.pd Y139)), (2, (.pd Y3))], [], [], []⟩)])) .leaf .leaf)) (.seq (.seq .leaf (.cnd (some (⟨[], [], [], []⟩, [(.normal, ⟨[(0, (.pd Y139)), (2, (.pd Y3))], [], [], []⟩)])) .leaf .leaf)) .leaf)))
noncomputable def F_math_bits_Len32V (a0 : El Y139) : Option (El Y3) := evalF (mkE tyTab mapTab pkTab [] [] F_math_bits_Len32M 19) (codeOf Try.f91) Try.f91.results F_math_bits_Len32H F_math_bits_Len32A F_math_bits_Len32R (fun y => y.2.1) (a0, ())
theorem F_math_bits_Len32_eq (a0 : El Y139) : F_math_bits_Len32V a0 = F_math_bits_Len32 a0 := by kernel_rfl
theorem F_math_bits_Len32_ok : FnOK Try.prog 91 F_math_bits_Len32S := fnOK_of (m := F_math_bits_Len32M) (fn := Try.f91) (hint := F_math_bits_Len32H) (pack := fun y => y.2.1) hmix tab_ok trivial fun x z h => (F_math_bits_Len32_eq x.1).trans h
noncomputable def F_math_bits_Len64 : (El Y141) → Option (El Y3) := fun a0 =>
 Option.bind
 (bif decide ((4294967296 : Int) ≤ a0) then some (Int.fdiv a0 ((2 : Int) ^ Min.min (Int.toNat (32 : Int)) (Go.IntKind.bits .u64)), (32 : Int))
 else some (a0, (0 : Int)))
 fun x0 =>
 Option.bind
 (bif decide ((65536 : Int) ≤ x0.1) then
 some (Int.fdiv x0.1 ((2 : Int) ^ Min.min (Int.toNat (16 : Int)) (Go.IntKind.bits .u64)), IntKind.wrap .i64 (x0.2 + (16 : Int)))
 else some (x0.1, x0.2))
 fun x1 =>
 Option.bind
 (bif decide ((256 : Int) ≤ x1.1) then
 some (Int.fdiv x1.1 ((2 : Int) ^ Min.min (Int.toNat (8 : Int)) (Go.IntKind.bits .u64)), IntKind.wrap .i64 (x1.2 + (8 : Int)))
 else some (x1.1, x1.2))
 fun x2 =>
 Option.bind
 (idx
 [(0 : UInt8), (1 : UInt8), (2 : UInt8), (2 : UInt8), (3 : UInt8), (3 : UInt8), (3 : UInt8), (3 : UInt8), (4 : UInt8), (4 : UInt8), (4 : UInt8), (4 : UInt8), (4 : UInt8), (4 : UInt8),
 (4 : UInt8), (4 : UInt8), (5 : UInt8), (5 : UInt8), (5 : UInt8), (5 : UInt8), (5 : UInt8), (5 : UInt8), (5 : UInt8), (5 : UInt8), (5 : UInt8), (5 : UInt8), (5 : UInt8), (5 : UInt8),
 (5 : UInt8), (5 : UInt8), (5 : UInt8), (5 : UInt8), (6 : UInt8), (6 : UInt8), (6 : UInt8), (6 : UInt8), (6 : UInt8), (6 : UInt8), (6 : UInt8), (6 : UInt8), (6 : UInt8), (6 : UInt8),
 (6 : UInt8), (6 : UInt8), (6 : UInt8), (6 : UInt8), (6 : UInt8), (6 : UInt8), (6 : UInt8), (6 : UInt8), (6 : UInt8), (6 : UInt8), (6 : UInt8), (6 : UInt8), (6 : UInt8), (6 : UInt8),
 (6 : UInt8), (6 : UInt8), (6 : UInt8), (6 : UInt8), (6 : UInt8), (6 : UInt8), (6 : UInt8), (6 : UInt8), (7 : UInt8), (7 : UInt8), (7 : UInt8), (7 : UInt8), (7 : UInt8), (7 : UInt8),
 (7 : UInt8), (7 : UInt8), (7 : UInt8), (7 : UInt8), (7 : UInt8), (7 : UInt8), (7 : UInt8), (7 : UInt8), (7 : UInt8), (7 : UInt8), (7 : UInt8), (7 : UInt8), (7 : UInt8), (7 : UInt8),
 (7 : UInt8), (7 : UInt8), (7 : UInt8), (7 : UInt8), (7 : UInt8), (7 : UInt8), (7 : UInt8), (7 : UInt8), (7 : UInt8), (7 : UInt8), (7 : UInt8), (7 : UInt8), (7 : UInt8), (7 : UInt8),
 (7 : UInt8), (7 : UInt8), (7 : UInt8), (7 : UInt8), (7 : UInt8), (7 : UInt8), (7 : UInt8), (7 : UInt8), (7 : UInt8), (7 : UInt8), (7 : UInt8), (7 : UInt8), (7 : UInt8), (7 : UInt8),
 (7 : UInt8), (7 : UInt8), (7 : UInt8), (7 : UInt8), (7 : UInt8), (7 : UInt8), (7 : UInt8), (7 : UInt8), (7 : UInt8), (7 : UInt8), (7 : UInt8), (7 : UInt8), (7 : UInt8), (7 : UInt8),
 (7 : UInt8), (7 : UInt8), (8 : UInt8), (8 : UInt8), (8 : UInt8), (8 : UInt8), (8 : UInt8), (8 : UInt8), (8 : UInt8), (8 : UInt8), (8 : UInt8), (8 : UInt8), (8 : UInt8), (8 : UInt8),
 (8 : UInt8), (8 : UInt8), (8 : UInt8), (8 : UInt8), (8 : UInt8), (8 : UInt8), (8 : UInt8), (8 : UInt8), (8 : UInt8), (8 : UInt8), (8 : UInt8), (8 : UInt8), (8 : UInt8), (8 : UInt8),
 (8 : UInt8), (8 : UInt8), (8 : UInt8), (8 : UInt8), (8 : UInt8), (8 : UInt8), (8 : UInt8), (8 : UInt8), (8 : UInt8), (8 : UInt8), (8 : UInt8), (8 : UInt8), (8 : UInt8), (8 : UInt8),
 (8 : UInt8), (8 : UInt8), (8 : UInt8), (8 : UInt8), (8 : UInt8), (8 : UInt8), (8 : UInt8), (8 : UInt8), (8 : UInt8), (8 : UInt8), (8 : UInt8), (8 : UInt8), (8 : UInt8), (8 : UInt8),
 (8 : UInt8), (8 : UInt8), (8 : UInt8), (8 : UInt8), (8 : UInt8), (8 : UInt8), (8 : UInt8), (8 : UInt8), (8 : UInt8), (8 : UInt8), (8 : UInt8), (8 : UInt8), (8 : UInt8), (8 : UInt8),
 (8 : UInt8), (8 : UInt8), (8 : UInt8), (8 : UInt8), (8 : UInt8), (8 : UInt8), (8 : UInt8), (8 : UInt8), (8 : UInt8), (8 : UInt8), (8 : UInt8), (8 : UInt8), (8 : UInt8), (8 : UInt8),
 (8 : UInt8), (8 : UInt8), (8 : UInt8), (8 : UInt8), (8 : UInt8), (8 : UInt8), (8 : UInt8), (8 : UInt8), (8 : UInt8), (8 : UInt8), (8 : UInt8), (8 : UInt8), (8 : UInt8), (8 : UInt8),
 (8 : UInt8), (8 : UInt8), (8 : UInt8), (8 : UInt8), (8 : UInt8), (8 : UInt8), (8 : UInt8), (8 : UInt8), (8 : UInt8), (8 : UInt8), (8 : UInt8), (8 : UInt8), (8 : UInt8), (8 : UInt8),
 (8 : UInt8), (8 : UInt8), (8 : UInt8), (8 : UInt8), (8 : UInt8), (8 : UInt8), (8 : UInt8), (8 : UInt8), (8 : UInt8), (8 : UInt8), (8 : UInt8), (8 : UInt8), (8 : UInt8), (8 : UInt8),
 (8 : UInt8), (8 : UInt8), (8 : UInt8), (8 : UInt8)]
 (IntKind.wrap .u8 x2.1))
 fun x3 => some (IntKind.wrap .i64 (x2.2 + IntKind.wrap .i64 (↑(UInt8.toNat x3) : Int)))
abbrev F_math_bits_Len64A : Pats := (.cons (.pd Y141) .nil)
abbrev F_math_bits_Len64R : Pats := (.cons (.pd Y3) .nil)
noncomputable def F_math_bits_Len64S : Tr.Spec := { args := F_math_bits_Len64A, res := F_math_bits_Len64R, fns := [], α := El Y3, f := fun x => F_math_bits_Len64 x.1, unp := fun z => (((), ()), (z, ())) }
noncomputable def F_math_bits_Len64M : List (Nat × List Tr.Spec) := []
def F_math_bits_Len64H : Hint := (.seq .leaf (.seq (.seq .leaf (.cnd (some (⟨[], [], [], []⟩, [(.normal, ⟨[(0, (.pd Y141)), (2, (.pd Y3))], [], [], []⟩)])) .leaf .leaf)) (.seq (.seq .leaf (.cnd (some (⟨[], [], [], []⟩, [(.normal, ⟨[(0, (.pd Y141)), (2, (.pd Y3))], [], [], []⟩)])) .leaf .leaf)) (.seq (.seq .leaf (.cnd (some (⟨[], [], [], []⟩, [(.normal, ⟨[(0, (.pd Y141)), (2, (.pd Y3))], [], [], []⟩)])) .leaf .leaf)) .leaf))))
noncomputable def F_math_bits_Len64V (a0 : El Y141) : Option (El Y3) := evalF (mkE tyTab mapTab pkTab [] [] F_math_bits_Len64M 25) (codeOf Try.f92) Try.f92.results F_math_bits_Len64H F_math_bits_Len64A F_math_bits_Len64R (fun y => y.2.1) (a0, ())
theorem F_math_bits_Len64_eq (a0 : El Y141) : F_math_bits_Len64V a0 = F_math_bits_Len64 a0 := by kernel_rfl
theorem F_math_bits_Len64_ok : FnOK Try.prog 92 F_math_bits_Len64S := fnOK_of (m := F_math_bits_Len64M) (fn := Try.f92) (hint := F_math_bits_Len64H) (pack := fun y => y.2.1) hmix tab_ok trivial fun x z h => (F_math_bits_Len64_eq x.1).trans h
noncomputable def F_math_bits_Len : (El Y124) → Option (El Y3) := fun a0 => Option.bind (F_math_bits_Len64 a0) fun x0 => some x0
abbrev F_math_bits_LenA : Pats := (.cons (.pd Y124) .nil)
abbrev F_math_bits_LenR : Pats := (.cons (.pd Y3) .nil)
noncomputable def F_math_bits_LenS : Tr.Spec := { args := F_math_bits_LenA, res := F_math_bits_LenR, fns := [], α := El Y3, f := fun x => F_math_bits_Len x.1, unp := fun z => (((), ()), (z, ())) }
noncomputable def F_math_bits_LenM : List (Nat × List Tr.Spec) := [(91, [F_math_bits_Len32S]), (92, [F_math_bits_Len64S])]
def F_math_bits_LenH : Hint := .leaf
noncomputable def F_math_bits_LenV (a0 : El Y124) : Option (El Y3) := evalF (mkE tyTab mapTab pkTab [] [] F_math_bits_LenM 8) (codeOf Try.f77) Try.f77.results F_math_bits_LenH F_math_bits_LenA F_math_bits_LenR (fun y => y.2.1) (a0, ())
theorem F_math_bits_Len_eq (a0 : El Y124) : F_math_bits_LenV a0 = F_math_bits_Len a0 := by kernel_rfl
theorem F_math_bits_Len_ok : FnOK Try.prog 77 F_math_bits_LenS := fnOK_of (m := F_math_bits_LenM) (fn := Try.f77) (hint := F_math_bits_LenH) (pack := fun y => y.2.1) hmix tab_ok ⟨⟨F_math_bits_Len32_ok, trivial⟩, ⟨F_math_bits_Len64_ok, trivial⟩, trivial⟩ fun x z h => (F_math_bits_Len_eq x.1).trans h
noncomputable def F_slices_partialInsertionSortCmpFunc_api_Footpath_X_footpath_closure_2 : (List (El Y88)) → (El Y3) → (El Y3) → (Unit) → Option (List (El Y88) × El Y4) := fun a0 a1 a2 a3 =>
 Option.bind
 (Tr.run
 (fun s0 =>
 bif decide (s0.2.2 < (5 : Int)) then
 Option.bind
 (Tr.run
 (fun s1 =>
 bif decide (s1 < a2) then
 Option.bind (inb s1 (List.length s0.1)) fun x2 =>
 Option.bind s0.1[x2]? fun x3 =>
 Option.bind (inb (IntKind.wrap .i64 (s1 - (1 : Int))) (List.length s0.1)) fun x4 =>
 Option.bind s0.1[x4]? fun x5 =>
 Option.bind (F_footpath_closure_2 x3 x5) fun x6 =>
 bif !decide (x6 < (0 : Int)) then some (.inl (IntKind.wrap .i64 (s1 + (1 : Int)))) else some (.inr s1)
 else some (.inr s1))
 s0.2.1)
 fun x7 =>
 bif decide (x7 = a2) then some (.inr (.inr (s0.1, true)))
 else
 bif decide (IntKind.wrap .i64 (a2 - a1) < (50 : Int)) then some (.inr (.inr (s0.1, false)))
 else
 Option.bind (inb (IntKind.wrap .i64 (x7 - (1 : Int))) (List.length s0.1)) fun x8 =>
 Option.bind s0.1[x8]? fun x9 =>
 Option.bind (inb x7 (List.length s0.1)) fun x10 =>
 Option.bind s0.1[x10]? fun x11 =>
 Option.bind (inb x7 (List.length s0.1)) fun x12 =>
 Option.bind s0.1[x12]? fun _ =>
 Option.bind (inb (IntKind.wrap .i64 (x7 - (1 : Int))) (List.length (List.set s0.1 x12 x9))) fun x14 =>
 Option.bind (List.set s0.1 x12 x9)[x14]? fun _ =>
 Option.bind
 (bif decide ((2 : Int) ≤ IntKind.wrap .i64 (x7 - a1)) then
 Option.bind
 (Tr.run
 (fun s16 =>
 bif decide ((1 : Int) ≤ s16.2) then
 Option.bind (inb s16.2 (List.length s16.1)) fun x17 =>
 Option.bind s16.1[x17]? fun x18 =>
 Option.bind (inb (IntKind.wrap .i64 (s16.2 - (1 : Int))) (List.length s16.1)) fun x19 =>
 Option.bind s16.1[x19]? fun x20 =>
 Option.bind (F_footpath_closure_2 x18 x20) fun x21 =>
 bif !decide (x21 < (0 : Int)) then some (.inr s16.1)
 else
 Option.bind (inb (IntKind.wrap .i64 (s16.2 - (1 : Int))) (List.length s16.1)) fun x22 =>
 Option.bind s16.1[x22]? fun x23 =>
 Option.bind (inb s16.2 (List.length s16.1)) fun x24 =>
 Option.bind s16.1[x24]? fun x25 =>
 Option.bind (inb s16.2 (List.length s16.1)) fun x26 =>
 Option.bind s16.1[x26]? fun _ =>
 Option.bind (inb (IntKind.wrap .i64 (s16.2 - (1 : Int))) (List.length (List.set s16.1 x26 x23))) fun x28 =>
 Option.bind (List.set s16.1 x26 x23)[x28]? fun _ =>
 some (.inl (List.set (List.set s16.1 x26 x23) x28 x25, IntKind.wrap .i64 (s16.2 - (1 : Int))))
 else some (.inr s16.1))
 (List.set (List.set s0.1 x12 x9) x14 x11, IntKind.wrap .i64 (x7 - (1 : Int))))
 fun x30 => some x30
 else some (List.set (List.set s0.1 x12 x9) x14 x11))
 fun x31 =>
 bif decide ((2 : Int) ≤ IntKind.wrap .i64 (a2 - x7)) then
 Option.bind
 (Tr.run
 (fun s32 =>
 bif decide (s32.2 < a2) then
 Option.bind (inb s32.2 (List.length s32.1)) fun x33 =>
 Option.bind s32.1[x33]? fun x34 =>
 Option.bind (inb (IntKind.wrap .i64 (s32.2 - (1 : Int))) (List.length s32.1)) fun x35 =>
 Option.bind s32.1[x35]? fun x36 =>
 Option.bind (F_footpath_closure_2 x34 x36) fun x37 =>
 bif !decide (x37 < (0 : Int)) then some (.inr s32.1)
 else
 Option.bind (inb (IntKind.wrap .i64 (s32.2 - (1 : Int))) (List.length s32.1)) fun x38 =>
 Option.bind s32.1[x38]? fun x39 =>
 Option.bind (inb s32.2 (List.length s32.1)) fun x40 =>
 Option.bind s32.1[x40]? fun x41 =>
 Option.bind (inb s32.2 (List.length s32.1)) fun x42 =>
 Option.bind s32.1[x42]? fun _ =>
 Option.bind (inb (IntKind.wrap .i64 (s32.2 - (1 : Int))) (List.length (List.set s32.1 x42 x39))) fun x44 =>
 Option.bind (List.set s32.1 x42 x39)[x44]? fun _ =>
 some (.inl (List.set (List.set s32.1 x42 x39) x44 x41, IntKind.wrap .i64 (s32.2 + (1 : Int))))
 else some (.inr s32.1))
 (x31, IntKind.wrap .i64 (x7 + (1 : Int))))
 fun x46 => some (.inl (x46, x7, IntKind.wrap .i64 (s0.2.2 + (1 : Int))))
 else some (.inl (x31, x7, IntKind.wrap .i64 (s0.2.2 + (1 : Int))))
 else some (.inr (.inl s0.1)))
 (a0, IntKind.wrap .i64 (a1 + (1 : Int)), (0 : Int)))
 fun x47 => Sum.elim (fun y48 => some (y48, false)) (fun y49 => some (y49.1, y49.2)) x47
abbrev F_slices_partialInsertionSortCmpFunc_api_Footpath_X_footpath_closure_2A : Pats := (.cons (.own Y88 true) (.cons (.pd Y3) (.cons (.pd Y3) (.cons (.fn 72 .nil) .nil))))
abbrev F_slices_partialInsertionSortCmpFunc_api_Footpath_X_footpath_closure_2R : Pats := (.cons (.pd Y4) .nil)
noncomputable def F_slices_partialInsertionSortCmpFunc_api_Footpath_X_footpath_closure_2S : Tr.Spec := { args := F_slices_partialInsertionSortCmpFunc_api_Footpath_X_footpath_closure_2A, res := F_slices_partialInsertionSortCmpFunc_api_Footpath_X_footpath_closure_2R, fns := [72], α := List (El Y88) × El Y4, f := fun x => F_slices_partialInsertionSortCmpFunc_api_Footpath_X_footpath_closure_2 x.1 x.2.1 x.2.2.1 x.2.2.2.1, unp := fun z => ((z.1, (), (), (), ()), (z.2, ())) }
noncomputable def F_slices_partialInsertionSortCmpFunc_api_Footpath_X_footpath_closure_2M : List (Nat × List Tr.Spec) := [(72, [F_footpath_closure_2S])]
def F_slices_partialInsertionSortCmpFunc_api_Footpath_X_footpath_closure_2H : Hint := (.seq .leaf (.seq .leaf (.seq (.seq .leaf (.lp ⟨[(0, (.own Y88 false)), (9, (.pd Y3)), (10, (.pd Y3))], [], [1, 2, 3], []⟩ [((.exit 0), ⟨[(0, (.own Y88 false))], [], [], []⟩), (.ret, ⟨[(0, (.own Y88 false)), (8, (.pd Y4))], [], [], []⟩)] (.seq .leaf (.seq (.seq (.lp ⟨[(9, (.pd Y3))], [], [0, 1, 2, 3, 10], []⟩ [((.exit 2), ⟨[(9, (.pd Y3))], [], [0, 1, 2, 3, 10], []⟩)] .leaf) (.seq .leaf (.seq .leaf (.seq .leaf (.seq (.seq .leaf (.cnd (some (⟨[], [], [1, 2, 3, 9, 10], []⟩, [(.normal, ⟨[(0, (.own Y88 false))], [], [1, 2, 3, 9, 10], []⟩)])) (.seq .leaf (.lp ⟨[(0, (.own Y88 false)), (11, (.pd Y3))], [], [1, 2, 3, 9, 10], []⟩ [((.exit 4), ⟨[(0, (.own Y88 false))], [], [1, 2, 3, 9, 10], []⟩)] .leaf)) .leaf)) (.seq .leaf (.cnd none (.seq .leaf (.lp ⟨[(0, (.own Y88 false)), (12, (.pd Y3))], [], [1, 2, 3, 9, 10], []⟩ [((.exit 6), ⟨[(0, (.own Y88 false))], [], [1, 2, 3, 9, 10], []⟩)] .leaf)) .leaf))))))) .leaf)))) .leaf)))
noncomputable def F_slices_partialInsertionSortCmpFunc_api_Footpath_X_footpath_closure_2V (a0 : List (El Y88)) (a1 : El Y3) (a2 : El Y3) (a3 : Unit) : Option (List (El Y88) × El Y4) := evalF (mkE tyTab mapTab pkTab [] [] F_slices_partialInsertionSortCmpFunc_api_Footpath_X_footpath_closure_2M 141) (codeOf Try.f88) Try.f88.results F_slices_partialInsertionSortCmpFunc_api_Footpath_X_footpath_closure_2H F_slices_partialInsertionSortCmpFunc_api_Footpath_X_footpath_closure_2A F_slices_partialInsertionSortCmpFunc_api_Footpath_X_footpath_closure_2R (fun y => (y.1.1, y.2.1)) (a0, a1, a2, a3, ())
theorem F_slices_partialInsertionSortCmpFunc_api_Footpath_X_footpath_closure_2_eq (a0 : List (El Y88)) (a1 : El Y3) (a2 : El Y3) (a3 : Unit) : F_slices_partialInsertionSortCmpFunc_api_Footpath_X_footpath_closure_2V a0 a1 a2 a3 = F_slices_partialInsertionSortCmpFunc_api_Footpath_X_footpath_closure_2 a0 a1 a2 a3 := by kernel_rfl
theorem F_slices_partialInsertionSortCmpFunc_api_Footpath_X_footpath_closure_2_ok : FnOK Try.prog 88 F_slices_partialInsertionSortCmpFunc_api_Footpath_X_footpath_closure_2S := fnOK_of (m := F_slices_partialInsertionSortCmpFunc_api_Footpath_X_footpath_closure_2M) (fn := Try.f88) (hint := F_slices_partialInsertionSortCmpFunc_api_Footpath_X_footpath_closure_2H) (pack := fun y => (y.1.1, y.2.1)) hmix tab_ok ⟨⟨F_footpath_closure_2_ok, trivial⟩, trivial⟩ fun x z h => (F_slices_partialInsertionSortCmpFunc_api_Footpath_X_footpath_closure_2_eq x.1 x.2.1 x.2.2.1 x.2.2.2.1).trans h
noncomputable def F_slices_order2CmpFunc_api_Footpath_X_footpath_closure_2 : (List (El Y88)) → (El Y3) → (El Y3) → (El Y3) → (Unit) → Option (List (El Y88) × El Y3 × El Y3 × El Y3) := fun a0 a1 a2 a3 a4 =>
 Option.bind (inb a2 (List.length a0)) fun x0 =>
 Option.bind a0[x0]? fun x1 =>
 Option.bind (inb a1 (List.length a0)) fun x2 =>
 Option.bind a0[x2]? fun x3 =>
 Option.bind (F_footpath_closure_2 x1 x3) fun x4 =>
 bif decide (x4 < (0 : Int)) then some (a0, IntKind.wrap .i64 (a3 + (1 : Int)), a2, a1) else some (a0, a3, a1, a2)
abbrev F_slices_order2CmpFunc_api_Footpath_X_footpath_closure_2A : Pats := (.cons (.own Y88 true) (.cons (.pd Y3) (.cons (.pd Y3) (.cons (.var Y3 (.pd Y3)) (.cons (.fn 72 .nil) .nil)))))
abbrev F_slices_order2CmpFunc_api_Footpath_X_footpath_closure_2R : Pats := (.cons (.pd Y3) (.cons (.pd Y3) .nil))
noncomputable def F_slices_order2CmpFunc_api_Footpath_X_footpath_closure_2S : Tr.Spec := { args := F_slices_order2CmpFunc_api_Footpath_X_footpath_closure_2A, res := F_slices_order2CmpFunc_api_Footpath_X_footpath_closure_2R, fns := [72], α := List (El Y88) × El Y3 × El Y3 × El Y3, f := fun x => F_slices_order2CmpFunc_api_Footpath_X_footpath_closure_2 x.1 x.2.1 x.2.2.1 x.2.2.2.1 x.2.2.2.2.1, unp := fun z => ((z.1, (), (), z.2.1, (), ()), (z.2.2.1, z.2.2.2, ())) }
noncomputable def F_slices_order2CmpFunc_api_Footpath_X_footpath_closure_2M : List (Nat × List Tr.Spec) := [(72, [F_footpath_closure_2S])]
def F_slices_order2CmpFunc_api_Footpath_X_footpath_closure_2H : Hint := .leaf
noncomputable def F_slices_order2CmpFunc_api_Footpath_X_footpath_closure_2V (a0 : List (El Y88)) (a1 : El Y3) (a2 : El Y3) (a3 : El Y3) (a4 : Unit) : Option (List (El Y88) × El Y3 × El Y3 × El Y3) := evalF (mkE tyTab mapTab pkTab [] [] F_slices_order2CmpFunc_api_Footpath_X_footpath_closure_2M 32) (codeOf Try.f107) Try.f107.results F_slices_order2CmpFunc_api_Footpath_X_footpath_closure_2H F_slices_order2CmpFunc_api_Footpath_X_footpath_closure_2A F_slices_order2CmpFunc_api_Footpath_X_footpath_closure_2R (fun y => (y.1.1, y.1.2.2.2.1, y.2.1, y.2.2.1)) (a0, a1, a2, a3, a4, ())
theorem F_slices_order2CmpFunc_api_Footpath_X_footpath_closure_2_eq (a0 : List (El Y88)) (a1 : El Y3) (a2 : El Y3) (a3 : El Y3) (a4 : Unit) : F_slices_order2CmpFunc_api_Footpath_X_footpath_closure_2V a0 a1 a2 a3 a4 = F_slices_order2CmpFunc_api_Footpath_X_footpath_closure_2 a0 a1 a2 a3 a4 := by kernel_rfl
theorem F_slices_order2CmpFunc_api_Footpath_X_footpath_closure_2_ok : FnOK Try.prog 107 F_slices_order2CmpFunc_api_Footpath_X_footpath_closure_2S := fnOK_of (m := F_slices_order2CmpFunc_api_Footpath_X_footpath_closure_2M) (fn := Try.f107) (hint := F_slices_order2CmpFunc_api_Footpath_X_footpath_closure_2H) (pack := fun y => (y.1.1, y.1.2.2.2.1, y.2.1, y.2.2.1)) hmix tab_ok ⟨⟨F_footpath_closure_2_ok, trivial⟩, trivial⟩ fun x z h => (F_slices_order2CmpFunc_api_Footpath_X_footpath_closure_2_eq x.1 x.2.1 x.2.2.1 x.2.2.2.1 x.2.2.2.2.1).trans h
noncomputable def F_slices_medianCmpFunc_api_Footpath_X_footpath_closure_2 : (List (El Y88)) → (El Y3) → (El Y3) → (El Y3) → (El Y3) → (Unit) → Option (List (El Y88) × El Y3 × El Y3) := fun a0 a1 a2 a3 a4 a5 =>
 Option.bind (F_slices_order2CmpFunc_api_Footpath_X_footpath_closure_2 a0 a1 a2 a4 ()) fun x0 =>
 Option.bind (F_slices_order2CmpFunc_api_Footpath_X_footpath_closure_2 x0.1 x0.2.2.2 a3 x0.2.1 ()) fun x1 =>
 Option.bind (F_slices_order2CmpFunc_api_Footpath_X_footpath_closure_2 x1.1 x0.2.2.1 x1.2.2.1 x1.2.1 ()) fun x2 => some (x2.1, x2.2.1, x2.2.2.2)
abbrev F_slices_medianCmpFunc_api_Footpath_X_footpath_closure_2A : Pats := (.cons (.own Y88 true) (.cons (.pd Y3) (.cons (.pd Y3) (.cons (.pd Y3) (.cons (.var Y3 (.pd Y3)) (.cons (.fn 72 .nil) .nil))))))
abbrev F_slices_medianCmpFunc_api_Footpath_X_footpath_closure_2R : Pats := (.cons (.pd Y3) .nil)
noncomputable def F_slices_medianCmpFunc_api_Footpath_X_footpath_closure_2S : Tr.Spec := { args := F_slices_medianCmpFunc_api_Footpath_X_footpath_closure_2A, res := F_slices_medianCmpFunc_api_Footpath_X_footpath_closure_2R, fns := [72], α := List (El Y88) × El Y3 × El Y3, f := fun x => F_slices_medianCmpFunc_api_Footpath_X_footpath_closure_2 x.1 x.2.1 x.2.2.1 x.2.2.2.1 x.2.2.2.2.1 x.2.2.2.2.2.1, unp := fun z => ((z.1, (), (), (), z.2.1, (), ()), (z.2.2, ())) }
noncomputable def F_slices_medianCmpFunc_api_Footpath_X_footpath_closure_2M : List (Nat × List Tr.Spec) := [(72, [F_footpath_closure_2S]), (107, [F_slices_order2CmpFunc_api_Footpath_X_footpath_closure_2S])]
def F_slices_medianCmpFunc_api_Footpath_X_footpath_closure_2H : Hint := .leaf
noncomputable def F_slices_medianCmpFunc_api_Footpath_X_footpath_closure_2V (a0 : List (El Y88)) (a1 : El Y3) (a2 : El Y3) (a3 : El Y3) (a4 : El Y3) (a5 : Unit) : Option (List (El Y88) × El Y3 × El Y3) := evalF (mkE tyTab mapTab pkTab [] [] F_slices_medianCmpFunc_api_Footpath_X_footpath_closure_2M 41) (codeOf Try.f102) Try.f102.results F_slices_medianCmpFunc_api_Footpath_X_footpath_closure_2H F_slices_medianCmpFunc_api_Footpath_X_footpath_closure_2A F_slices_medianCmpFunc_api_Footpath_X_footpath_closure_2R (fun y => (y.1.1, y.1.2.2.2.2.1, y.2.1)) (a0, a1, a2, a3, a4, a5, ())
theorem F_slices_medianCmpFunc_api_Footpath_X_footpath_closure_2_eq (a0 : List (El Y88)) (a1 : El Y3) (a2 : El Y3) (a3 : El Y3) (a4 : El Y3) (a5 : Unit) : F_slices_medianCmpFunc_api_Footpath_X_footpath_closure_2V a0 a1 a2 a3 a4 a5 = F_slices_medianCmpFunc_api_Footpath_X_footpath_closure_2 a0 a1 a2 a3 a4 a5 := by kernel_rfl
theorem F_slices_medianCmpFunc_api_Footpath_X_footpath_closure_2_ok : FnOK Try.prog 102 F_slices_medianCmpFunc_api_Footpath_X_footpath_closure_2S := fnOK_of (m := F_slices_medianCmpFunc_api_Footpath_X_footpath_closure_2M) (fn := Try.f102) (hint := F_slices_medianCmpFunc_api_Footpath_X_footpath_closure_2H) (pack := fun y => (y.1.1, y.1.2.2.2.2.1, y.2.1)) hmix tab_ok ⟨⟨F_footpath_closure_2_ok, trivial⟩, ⟨F_slices_order2CmpFunc_api_Footpath_X_footpath_closure_2_ok, trivial⟩, trivial⟩ fun x z h => (F_slices_medianCmpFunc_api_Footpath_X_footpath_closure_2_eq x.1 x.2.1 x.2.2.1 x.2.2.2.1 x.2.2.2.2.1 x.2.2.2.2.2.1).trans h
noncomputable def F_slices_medianAdjacentCmpFunc_api_Footpath_X_footpath_closure_2 : (List (El Y88)) → (El Y3) → (El Y3) → (Unit) → Option (List (El Y88) × El Y3 × El Y3) := fun a0 a1 a2 a3 =>
 Option.bind (F_slices_medianCmpFunc_api_Footpath_X_footpath_closure_2 a0 (IntKind.wrap .i64 (a1 - (1 : Int))) a1 (IntKind.wrap .i64 (a1 + (1 : Int))) a2 ()) fun x0 =>
 some (x0.1, x0.2.1, x0.2.2)
abbrev F_slices_medianAdjacentCmpFunc_api_Footpath_X_footpath_closure_2A : Pats := (.cons (.own Y88 true) (.cons (.pd Y3) (.cons (.var Y3 (.pd Y3)) (.cons (.fn 72 .nil) .nil))))
abbrev F_slices_medianAdjacentCmpFunc_api_Footpath_X_footpath_closure_2R : Pats := (.cons (.pd Y3) .nil)
noncomputable def F_slices_medianAdjacentCmpFunc_api_Footpath_X_footpath_closure_2S : Tr.Spec := { args := F_slices_medianAdjacentCmpFunc_api_Footpath_X_footpath_closure_2A, res := F_slices_medianAdjacentCmpFunc_api_Footpath_X_footpath_closure_2R, fns := [72], α := List (El Y88) × El Y3 × El Y3, f := fun x => F_slices_medianAdjacentCmpFunc_api_Footpath_X_footpath_closure_2 x.1 x.2.1 x.2.2.1 x.2.2.2.1, unp := fun z => ((z.1, (), z.2.1, (), ()), (z.2.2, ())) }
noncomputable def F_slices_medianAdjacentCmpFunc_api_Footpath_X_footpath_closure_2M : List (Nat × List Tr.Spec) := [(72, [F_footpath_closure_2S]), (102, [F_slices_medianCmpFunc_api_Footpath_X_footpath_closure_2S])]
def F_slices_medianAdjacentCmpFunc_api_Footpath_X_footpath_closure_2H : Hint := .leaf
noncomputable def F_slices_medianAdjacentCmpFunc_api_Footpath_X_footpath_closure_2V (a0 : List (El Y88)) (a1 : El Y3) (a2 : El Y3) (a3 : Unit) : Option (List (El Y88) × El Y3 × El Y3) := evalF (mkE tyTab mapTab pkTab [] [] F_slices_medianAdjacentCmpFunc_api_Footpath_X_footpath_closure_2M 18) (codeOf Try.f101) Try.f101.results F_slices_medianAdjacentCmpFunc_api_Footpath_X_footpath_closure_2H F_slices_medianAdjacentCmpFunc_api_Footpath_X_footpath_closure_2A F_slices_medianAdjacentCmpFunc_api_Footpath_X_footpath_closure_2R (fun y => (y.1.1, y.1.2.2.1, y.2.1)) (a0, a1, a2, a3, ())
theorem F_slices_medianAdjacentCmpFunc_api_Footpath_X_footpath_closure_2_eq (a0 : List (El Y88)) (a1 : El Y3) (a2 : El Y3) (a3 : Unit) : F_slices_medianAdjacentCmpFunc_api_Footpath_X_footpath_closure_2V a0 a1 a2 a3 = F_slices_medianAdjacentCmpFunc_api_Footpath_X_footpath_closure_2 a0 a1 a2 a3 := by kernel_rfl
theorem F_slices_medianAdjacentCmpFunc_api_Footpath_X_footpath_closure_2_ok : FnOK Try.prog 101 F_slices_medianAdjacentCmpFunc_api_Footpath_X_footpath_closure_2S := fnOK_of (m := F_slices_medianAdjacentCmpFunc_api_Footpath_X_footpath_closure_2M) (fn := Try.f101) (hint := F_slices_medianAdjacentCmpFunc_api_Footpath_X_footpath_closure_2H) (pack := fun y => (y.1.1, y.1.2.2.1, y.2.1)) hmix tab_ok ⟨⟨F_footpath_closure_2_ok, trivial⟩, ⟨F_slices_medianCmpFunc_api_Footpath_X_footpath_closure_2_ok, trivial⟩, trivial⟩ fun x z h => (F_slices_medianAdjacentCmpFunc_api_Footpath_X_footpath_closure_2_eq x.1 x.2.1 x.2.2.1 x.2.2.2.1).trans h
noncomputable def F_slices_choosePivotCmpFunc_api_Footpath_X_footpath_closure_2 : (List (El Y88)) → (El Y3) → (El Y3) → (Unit) → Option (List (El Y88) × El Y3 × El Y132) := fun a0 a1 a2 a3 =>
 Option.bind
 (bif decide ((8 : Int) ≤ IntKind.wrap .i64 (a2 - a1)) then
 Option.bind
 (bif decide ((50 : Int) ≤ IntKind.wrap .i64 (a2 - a1)) then
 Option.bind
 (F_slices_medianAdjacentCmpFunc_api_Footpath_X_footpath_closure_2 a0
 (IntKind.wrap .i64 (a1 + IntKind.wrap .i64 (IntKind.wrap .i64 (Int.tdiv (IntKind.wrap .i64 (a2 - a1)) (4 : Int)) * (1 : Int))))
 ((0 : Int)) ())
 fun x0 =>
 Option.bind
 (F_slices_medianAdjacentCmpFunc_api_Footpath_X_footpath_closure_2 x0.1
 (IntKind.wrap .i64 (a1 + IntKind.wrap .i64 (IntKind.wrap .i64 (Int.tdiv (IntKind.wrap .i64 (a2 - a1)) (4 : Int)) * (2 : Int))))
 x0.2.1 ())
 fun x1 =>
 Option.bind
 (F_slices_medianAdjacentCmpFunc_api_Footpath_X_footpath_closure_2 x1.1
 (IntKind.wrap .i64 (a1 + IntKind.wrap .i64 (IntKind.wrap .i64 (Int.tdiv (IntKind.wrap .i64 (a2 - a1)) (4 : Int)) * (3 : Int))))
 x1.2.1 ())
 fun x2 => some (x2.1, x2.2.1, x0.2.2, x1.2.2, x2.2.2)
 else
 some
 (a0, (0 : Int),
 IntKind.wrap .i64 (a1 + IntKind.wrap .i64 (IntKind.wrap .i64 (Int.tdiv (IntKind.wrap .i64 (a2 - a1)) (4 : Int)) * (1 : Int))),
 IntKind.wrap .i64 (a1 + IntKind.wrap .i64 (IntKind.wrap .i64 (Int.tdiv (IntKind.wrap .i64 (a2 - a1)) (4 : Int)) * (2 : Int))),
 IntKind.wrap .i64 (a1 + IntKind.wrap .i64 (IntKind.wrap .i64 (Int.tdiv (IntKind.wrap .i64 (a2 - a1)) (4 : Int)) * (3 : Int)))))
 fun x3 =>
 Option.bind (F_slices_medianCmpFunc_api_Footpath_X_footpath_closure_2 x3.1 x3.2.2.1 x3.2.2.2.1 x3.2.2.2.2 x3.2.1 ()) fun x4 =>
 some (x4.1, x4.2.1, x4.2.2)
 else
 some
 (a0, (0 : Int),
 IntKind.wrap .i64 (a1 + IntKind.wrap .i64 (IntKind.wrap .i64 (Int.tdiv (IntKind.wrap .i64 (a2 - a1)) (4 : Int)) * (2 : Int)))))
 fun x5 =>
 bif decide (x5.2.1 = (0 : Int)) then some (x5.1, x5.2.2, (1 : Int))
 else bif decide (x5.2.1 = (12 : Int)) then some (x5.1, x5.2.2, (2 : Int)) else some (x5.1, x5.2.2, (0 : Int))
abbrev F_slices_choosePivotCmpFunc_api_Footpath_X_footpath_closure_2A : Pats := (.cons (.own Y88 true) (.cons (.pd Y3) (.cons (.pd Y3) (.cons (.fn 72 .nil) .nil))))
abbrev F_slices_choosePivotCmpFunc_api_Footpath_X_footpath_closure_2R : Pats := (.cons (.pd Y3) (.cons (.pd Y132) .nil))
noncomputable def F_slices_choosePivotCmpFunc_api_Footpath_X_footpath_closure_2S : Tr.Spec := { args := F_slices_choosePivotCmpFunc_api_Footpath_X_footpath_closure_2A, res := F_slices_choosePivotCmpFunc_api_Footpath_X_footpath_closure_2R, fns := [72], α := List (El Y88) × El Y3 × El Y132, f := fun x => F_slices_choosePivotCmpFunc_api_Footpath_X_footpath_closure_2 x.1 x.2.1 x.2.2.1 x.2.2.2.1, unp := fun z => ((z.1, (), (), (), ()), (z.2.1, z.2.2, ())) }
noncomputable def F_slices_choosePivotCmpFunc_api_Footpath_X_footpath_closure_2M : List (Nat × List Tr.Spec) := [(72, [F_footpath_closure_2S]), (101, [F_slices_medianAdjacentCmpFunc_api_Footpath_X_footpath_closure_2S]), (102, [F_slices_medianCmpFunc_api_Footpath_X_footpath_closure_2S])]
def F_slices_choosePivotCmpFunc_api_Footpath_X_footpath_closure_2H : Hint := (.seq .leaf (.seq .leaf (.seq .leaf (.seq .leaf (.seq .leaf (.seq .leaf (.seq (.seq .leaf (.cnd (some (⟨[], [], [], []⟩, [(.normal, ⟨[(0, (.own Y88 false)), (11, (.var Y3 (.pd Y3))), (13, (.pd Y3))], [], [], []⟩)])) (.seq (.seq .leaf (.cnd (some (⟨[], [], [3], []⟩, [(.normal, ⟨[(0, (.own Y88 false)), (11, (.var Y3 (.pd Y3))), (12, (.pd Y3)), (13, (.pd Y3)), (14, (.pd Y3))], [], [3], []⟩)])) .leaf .leaf)) .leaf) .leaf)) .leaf)))))))
noncomputable def F_slices_choosePivotCmpFunc_api_Footpath_X_footpath_closure_2V (a0 : List (El Y88)) (a1 : El Y3) (a2 : El Y3) (a3 : Unit) : Option (List (El Y88) × El Y3 × El Y132) := evalF (mkE tyTab mapTab pkTab [] [] F_slices_choosePivotCmpFunc_api_Footpath_X_footpath_closure_2M 63) (codeOf Try.f86) Try.f86.results F_slices_choosePivotCmpFunc_api_Footpath_X_footpath_closure_2H F_slices_choosePivotCmpFunc_api_Footpath_X_footpath_closure_2A F_slices_choosePivotCmpFunc_api_Footpath_X_footpath_closure_2R (fun y => (y.1.1, y.2.1, y.2.2.1)) (a0, a1, a2, a3, ())
theorem F_slices_choosePivotCmpFunc_api_Footpath_X_footpath_closure_2_eq (a0 : List (El Y88)) (a1 : El Y3) (a2 : El Y3) (a3 : Unit) : F_slices_choosePivotCmpFunc_api_Footpath_X_footpath_closure_2V a0 a1 a2 a3 = F_slices_choosePivotCmpFunc_api_Footpath_X_footpath_closure_2 a0 a1 a2 a3 := by kernel_rfl
theorem F_slices_choosePivotCmpFunc_api_Footpath_X_footpath_closure_2_ok : FnOK Try.prog 86 F_slices_choosePivotCmpFunc_api_Footpath_X_footpath_closure_2S := fnOK_of (m := F_slices_choosePivotCmpFunc_api_Footpath_X_footpath_closure_2M) (fn := Try.f86) (hint := F_slices_choosePivotCmpFunc_api_Footpath_X_footpath_closure_2H) (pack := fun y => (y.1.1, y.2.1, y.2.2.1)) hmix tab_ok ⟨⟨F_footpath_closure_2_ok, trivial⟩, ⟨F_slices_medianAdjacentCmpFunc_api_Footpath_X_footpath_closure_2_ok, trivial⟩, ⟨F_slices_medianCmpFunc_api_Footpath_X_footpath_closure_2_ok, trivial⟩, trivial⟩ fun x z h => (F_slices_choosePivotCmpFunc_api_Footpath_X_footpath_closure_2_eq x.1 x.2.1 x.2.2.1 x.2.2.2.1).trans h
noncomputable def F_slices_insertionSortCmpFunc_api_Footpath_X_footpath_closure_2 : (List (El Y88)) → (El Y3) → (El Y3) → (Unit) → Option (List (El Y88)) := fun a0 a1 a2 a3 =>
 Option.bind
 (Tr.run
 (fun s0 =>
 bif decide (s0.2 < a2) then
 Option.bind
 (Tr.run
 (fun s1 =>
 bif decide (a1 < s1.2) then
 Option.bind (inb s1.2 (List.length s1.1)) fun x2 =>
 Option.bind s1.1[x2]? fun x3 =>
 Option.bind (inb (IntKind.wrap .i64 (s1.2 - (1 : Int))) (List.length s1.1)) fun x4 =>
 Option.bind s1.1[x4]? fun x5 =>
 Option.bind (F_footpath_closure_2 x3 x5) fun x6 =>
 bif decide (x6 < (0 : Int)) then
 Option.bind (inb (IntKind.wrap .i64 (s1.2 - (1 : Int))) (List.length s1.1)) fun x7 =>
 Option.bind s1.1[x7]? fun x8 =>
 Option.bind (inb s1.2 (List.length s1.1)) fun x9 =>
 Option.bind s1.1[x9]? fun x10 =>
 Option.bind (inb s1.2 (List.length s1.1)) fun x11 =>
 Option.bind s1.1[x11]? fun _ =>
 Option.bind (inb (IntKind.wrap .i64 (s1.2 - (1 : Int))) (List.length (List.set s1.1 x11 x8))) fun x13 =>
 Option.bind (List.set s1.1 x11 x8)[x13]? fun _ =>
 some (.inl (List.set (List.set s1.1 x11 x8) x13 x10, IntKind.wrap .i64 (s1.2 - (1 : Int))))
 else some (.inr s1.1)
 else some (.inr s1.1))
 (s0.1, s0.2))
 fun x15 => some (.inl (x15, IntKind.wrap .i64 (s0.2 + (1 : Int))))
 else some (.inr s0.1))
 (a0, IntKind.wrap .i64 (a1 + (1 : Int))))
 fun x16 => some x16
abbrev F_slices_insertionSortCmpFunc_api_Footpath_X_footpath_closure_2A : Pats := (.cons (.own Y88 true) (.cons (.pd Y3) (.cons (.pd Y3) (.cons (.fn 72 .nil) .nil))))
abbrev F_slices_insertionSortCmpFunc_api_Footpath_X_footpath_closure_2R : Pats := .nil
noncomputable def F_slices_insertionSortCmpFunc_api_Footpath_X_footpath_closure_2S : Tr.Spec := { args := F_slices_insertionSortCmpFunc_api_Footpath_X_footpath_closure_2A, res := F_slices_insertionSortCmpFunc_api_Footpath_X_footpath_closure_2R, fns := [72], α := List (El Y88), f := fun x => F_slices_insertionSortCmpFunc_api_Footpath_X_footpath_closure_2 x.1 x.2.1 x.2.2.1 x.2.2.2.1, unp := fun z => ((z, (), (), (), ()), ()) }
noncomputable def F_slices_insertionSortCmpFunc_api_Footpath_X_footpath_closure_2M : List (Nat × List Tr.Spec) := [(72, [F_footpath_closure_2S])]
def F_slices_insertionSortCmpFunc_api_Footpath_X_footpath_closure_2H : Hint := (.seq .leaf (.lp ⟨[(0, (.own Y88 false)), (8, (.pd Y3))], [], [1, 2, 3], []⟩ [((.exit 0), ⟨[(0, (.own Y88 false))], [], [], []⟩)] (.seq .leaf (.seq (.seq .leaf (.lp ⟨[(0, (.own Y88 false)), (9, (.pd Y3))], [], [1, 2, 3, 8], []⟩ [((.exit 2), ⟨[(0, (.own Y88 false))], [], [1, 2, 3, 8], []⟩)] .leaf)) .leaf))))
noncomputable def F_slices_insertionSortCmpFunc_api_Footpath_X_footpath_closure_2V (a0 : List (El Y88)) (a1 : El Y3) (a2 : El Y3) (a3 : Unit) : Option (List (El Y88)) := evalF (mkE tyTab mapTab pkTab [] [] F_slices_insertionSortCmpFunc_api_Footpath_X_footpath_closure_2M 53) (codeOf Try.f83) Try.f83.results F_slices_insertionSortCmpFunc_api_Footpath_X_footpath_closure_2H F_slices_insertionSortCmpFunc_api_Footpath_X_footpath_closure_2A F_slices_insertionSortCmpFunc_api_Footpath_X_footpath_closure_2R (fun y => y.1.1) (a0, a1, a2, a3, ())
theorem F_slices_insertionSortCmpFunc_api_Footpath_X_footpath_closure_2_eq (a0 : List (El Y88)) (a1 : El Y3) (a2 : El Y3) (a3 : Unit) : F_slices_insertionSortCmpFunc_api_Footpath_X_footpath_closure_2V a0 a1 a2 a3 = F_slices_insertionSortCmpFunc_api_Footpath_X_footpath_closure_2 a0 a1 a2 a3 := by kernel_rfl
theorem F_slices_insertionSortCmpFunc_api_Footpath_X_footpath_closure_2_ok : FnOK Try.prog 83 F_slices_insertionSortCmpFunc_api_Footpath_X_footpath_closure_2S := fnOK_of (m := F_slices_insertionSortCmpFunc_api_Footpath_X_footpath_closure_2M) (fn := Try.f83) (hint := F_slices_insertionSortCmpFunc_api_Footpath_X_footpath_closure_2H) (pack := fun y => y.1.1) hmix tab_ok ⟨⟨F_footpath_closure_2_ok, trivial⟩, trivial⟩ fun x z h => (F_slices_insertionSortCmpFunc_api_Footpath_X_footpath_closure_2_eq x.1 x.2.1 x.2.2.1 x.2.2.2.1).trans h
noncomputable def F_slices_pdqsortCmpFunc_api_Footpath_X_footpath_closure_2 : (List (El Y88)) → (El Y3) → (El Y3) → (El Y3) → (Unit) → Option (List (El Y88)) := fun a0 a1 a2 a3 a4 =>
 Option.bind
 (Tr.run
 (fun s0 =>
 bif decide (IntKind.wrap .i64 (s0.2.2.1 - s0.2.1) ≤ (12 : Int)) then
 Option.bind (F_slices_insertionSortCmpFunc_api_Footpath_X_footpath_closure_2 s0.1 s0.2.1 s0.2.2.1 ()) fun x1 => some (.inr x1)
 else
 bif decide (s0.2.2.2.1 = (0 : Int)) then none
 else
 Option.bind (bif !s0.2.2.2.2.1 then none else some s0.2.2.2.1) fun _ =>
 Option.bind (F_slices_choosePivotCmpFunc_api_Footpath_X_footpath_closure_2 s0.1 s0.2.1 s0.2.2.1 ()) fun x3 =>
 Option.bind (bif decide (x3.2.2 = (2 : Int)) then none else some (x3.2.1, x3.2.2)) fun x4 =>
 Option.bind
 (bif s0.2.2.2.2.1 then bif s0.2.2.2.2.2 then some (decide (x4.2 = (1 : Int))) else some false else some false)
 fun x5 =>
 Option.bind
 (bif x5 then
 Option.bind (F_slices_partialInsertionSortCmpFunc_api_Footpath_X_footpath_closure_2 x3.1 s0.2.1 s0.2.2.1 ()) fun x6 =>
 bif x6.2 then some (.inr x6.1) else some (.inl x6.1)
 else some (.inl x3.1))
 fun x7 =>
 Sum.elim
 (fun y8 =>
 bif decide ((0 : Int) < s0.2.1) then
 Option.bind (inb (IntKind.wrap .i64 (s0.2.1 - (1 : Int))) (List.length y8)) fun x9 =>
 Option.bind y8[x9]? fun x10 =>
 Option.bind (inb x4.1 (List.length y8)) fun x11 =>
 Option.bind y8[x11]? fun x12 => Option.bind (F_footpath_closure_2 x10 x12) fun x13 => bif !decide (x13 < (0 : Int)) then none else none
 else none)
 (fun y14 => some (.inr y14)) x7)
 (a0, a1, a2, a3, true, true))
 fun x15 => some x15
abbrev F_slices_pdqsortCmpFunc_api_Footpath_X_footpath_closure_2A : Pats := (.cons (.own Y88 true) (.cons (.pd Y3) (.cons (.pd Y3) (.cons (.pd Y3) (.cons (.fn 72 .nil) .nil)))))
abbrev F_slices_pdqsortCmpFunc_api_Footpath_X_footpath_closure_2R : Pats := .nil
noncomputable def F_slices_pdqsortCmpFunc_api_Footpath_X_footpath_closure_2S : Tr.Spec := { args := F_slices_pdqsortCmpFunc_api_Footpath_X_footpath_closure_2A, res := F_slices_pdqsortCmpFunc_api_Footpath_X_footpath_closure_2R, fns := [72], α := List (El Y88), f := fun x => F_slices_pdqsortCmpFunc_api_Footpath_X_footpath_closure_2 x.1 x.2.1 x.2.2.1 x.2.2.2.1 x.2.2.2.2.1, unp := fun z => ((z, (), (), (), (), ()), ()) }
noncomputable def F_slices_pdqsortCmpFunc_api_Footpath_X_footpath_closure_2M : List (Nat × List Tr.Spec) := [(72, [F_footpath_closure_2S]), (83, [F_slices_insertionSortCmpFunc_api_Footpath_X_footpath_closure_2S]), (86, [F_slices_choosePivotCmpFunc_api_Footpath_X_footpath_closure_2S]), (88, [F_slices_partialInsertionSortCmpFunc_api_Footpath_X_footpath_closure_2S])]
def F_slices_pdqsortCmpFunc_api_Footpath_X_footpath_closure_2H : Hint := (.seq .leaf (.seq .leaf (.lp ⟨[(0, (.own Y88 false)), (1, (.pd Y3)), (2, (.pd Y3)), (3, (.pd Y3)), (10, (.pd Y4)), (11, (.pd Y4))], [], [4], []⟩ [(.ret, ⟨[(0, (.own Y88 false))], [], [], []⟩)] (.seq .leaf (.seq .leaf (.seq .leaf (.seq (.seq .leaf (.cnd (some (⟨[], [], [0, 1, 2, 4, 10, 11, 12], []⟩, [(.normal, ⟨[(3, (.pd Y3))], [], [0, 1, 2, 4, 10, 11, 12], []⟩)])) .leaf .leaf)) (.seq .leaf (.seq (.seq .leaf (.cnd (some (⟨[], [], [0, 1, 2, 3, 4, 10, 11, 12], []⟩, [(.normal, ⟨[(13, (.pd Y3)), (14, (.pd Y132))], [], [0, 1, 2, 3, 4, 10, 11, 12], []⟩)])) .leaf .leaf)) (.seq (.seq (.reg [(75, Y4)]) (.cnd (some (⟨[], [], [1, 2, 3, 4, 10, 11, 12, 13], []⟩, [(.normal, ⟨[(0, (.own Y88 false))], [], [1, 2, 3, 4, 10, 11, 12, 13], []⟩), (.ret, ⟨[(0, (.own Y88 false))], [], [], []⟩)])) .leaf .leaf)) .leaf))))))))))
noncomputable def F_slices_pdqsortCmpFunc_api_Footpath_X_footpath_closure_2V (a0 : List (El Y88)) (a1 : El Y3) (a2 : El Y3) (a3 : El Y3) (a4 : Unit) : Option (List (El Y88)) := evalF (mkE tyTab mapTab pkTab [] [] F_slices_pdqsortCmpFunc_api_Footpath_X_footpath_closure_2M 148) (codeOf Try.f76) Try.f76.results F_slices_pdqsortCmpFunc_api_Footpath_X_footpath_closure_2H F_slices_pdqsortCmpFunc_api_Footpath_X_footpath_closure_2A F_slices_pdqsortCmpFunc_api_Footpath_X_footpath_closure_2R (fun y => y.1.1) (a0, a1, a2, a3, a4, ())
theorem F_slices_pdqsortCmpFunc_api_Footpath_X_footpath_closure_2_eq (a0 : List (El Y88)) (a1 : El Y3) (a2 : El Y3) (a3 : El Y3) (a4 : Unit) : F_slices_pdqsortCmpFunc_api_Footpath_X_footpath_closure_2V a0 a1 a2 a3 a4 = F_slices_pdqsortCmpFunc_api_Footpath_X_footpath_closure_2 a0 a1 a2 a3 a4 := by kernel_rfl
theorem F_slices_pdqsortCmpFunc_api_Footpath_X_footpath_closure_2_ok : FnOK Try.prog 76 F_slices_pdqsortCmpFunc_api_Footpath_X_footpath_closure_2S := fnOK_of (m := F_slices_pdqsortCmpFunc_api_Footpath_X_footpath_closure_2M) (fn := Try.f76) (hint := F_slices_pdqsortCmpFunc_api_Footpath_X_footpath_closure_2H) (pack := fun y => y.1.1) hmix tab_ok ⟨⟨F_footpath_closure_2_ok, trivial⟩, ⟨F_slices_insertionSortCmpFunc_api_Footpath_X_footpath_closure_2_ok, trivial⟩, ⟨F_slices_choosePivotCmpFunc_api_Footpath_X_footpath_closure_2_ok, trivial⟩, ⟨F_slices_partialInsertionSortCmpFunc_api_Footpath_X_footpath_closure_2_ok, trivial⟩, trivial⟩ fun x z h => (F_slices_pdqsortCmpFunc_api_Footpath_X_footpath_closure_2_eq x.1 x.2.1 x.2.2.1 x.2.2.2.1 x.2.2.2.2.1).trans h
noncomputable def F_slices_SortFunc_api_Footpath_api_Footpath_X_footpath_closure_2 : (List (El Y88)) → (Unit) → Option (List (El Y88)) := fun a0 a1 =>
 Option.bind (F_math_bits_Len (IntKind.wrap .u64 (↑(List.length a0) : Int))) fun x0 =>
 Option.bind (F_slices_pdqsortCmpFunc_api_Footpath_X_footpath_closure_2 a0 (0 : Int) (↑(List.length a0) : Int) x0 ()) fun x1 => some x1
abbrev F_slices_SortFunc_api_Footpath_api_Footpath_X_footpath_closure_2A : Pats := (.cons (.own Y88 true) (.cons (.fn 72 .nil) .nil))
abbrev F_slices_SortFunc_api_Footpath_api_Footpath_X_footpath_closure_2R : Pats := .nil
noncomputable def F_slices_SortFunc_api_Footpath_api_Footpath_X_footpath_closure_2S : Tr.Spec := { args := F_slices_SortFunc_api_Footpath_api_Footpath_X_footpath_closure_2A, res := F_slices_SortFunc_api_Footpath_api_Footpath_X_footpath_closure_2R, fns := [72], α := List (El Y88), f := fun x => F_slices_SortFunc_api_Footpath_api_Footpath_X_footpath_closure_2 x.1 x.2.1, unp := fun z => ((z, (), ()), ()) }
noncomputable def F_slices_SortFunc_api_Footpath_api_Footpath_X_footpath_closure_2M : List (Nat × List Tr.Spec) := [(72, [F_footpath_closure_2S]), (76, [F_slices_pdqsortCmpFunc_api_Footpath_X_footpath_closure_2S]), (77, [F_math_bits_LenS])]
def F_slices_SortFunc_api_Footpath_api_Footpath_X_footpath_closure_2H : Hint := .leaf
noncomputable def F_slices_SortFunc_api_Footpath_api_Footpath_X_footpath_closure_2V (a0 : List (El Y88)) (a1 : Unit) : Option (List (El Y88)) := evalF (mkE tyTab mapTab pkTab [] [] F_slices_SortFunc_api_Footpath_api_Footpath_X_footpath_closure_2M 14) (codeOf Try.f71) Try.f71.results F_slices_SortFunc_api_Footpath_api_Footpath_X_footpath_closure_2H F_slices_SortFunc_api_Footpath_api_Footpath_X_footpath_closure_2A F_slices_SortFunc_api_Footpath_api_Footpath_X_footpath_closure_2R (fun y => y.1.1) (a0, a1, ())
theorem F_slices_SortFunc_api_Footpath_api_Footpath_X_footpath_closure_2_eq (a0 : List (El Y88)) (a1 : Unit) : F_slices_SortFunc_api_Footpath_api_Footpath_X_footpath_closure_2V a0 a1 = F_slices_SortFunc_api_Footpath_api_Footpath_X_footpath_closure_2 a0 a1 := by kernel_rfl
theorem F_slices_SortFunc_api_Footpath_api_Footpath_X_footpath_closure_2_ok : FnOK Try.prog 71 F_slices_SortFunc_api_Footpath_api_Footpath_X_footpath_closure_2S := fnOK_of (m := F_slices_SortFunc_api_Footpath_api_Footpath_X_footpath_closure_2M) (fn := Try.f71) (hint := F_slices_SortFunc_api_Footpath_api_Footpath_X_footpath_closure_2H) (pack := fun y => y.1.1) hmix tab_ok ⟨⟨F_footpath_closure_2_ok, trivial⟩, ⟨F_slices_pdqsortCmpFunc_api_Footpath_X_footpath_closure_2_ok, trivial⟩, ⟨F_math_bits_Len_ok, trivial⟩, trivial⟩ fun x z h => (F_slices_SortFunc_api_Footpath_api_Footpath_X_footpath_closure_2_eq x.1 x.2.1).trans h
noncomputable def F_footpath_closure : (El Y26) → (El Y3) → Option (El Y26) := fun a0 a1 =>
 Option.bind (F_footpath_distances a0 a1 false) fun x0 =>
 Option.bind (F_footpath_distances a0 a1 true) fun x1 =>
 Option.bind
 (Tr.run
 (fun s2 =>
 bif decide (s2.2 < (↑(List.length x0) : Int)) then
 Option.bind (idx x0 s2.2) fun x3 =>
 Option.bind
 (Tr.run
 (fun s4 =>
 bif decide (s4.2 < (↑(List.length x3) : Int)) then
 Option.bind (idx x3 s4.2) fun x5 =>
 bif decide (s2.2 = s4.2) then some (.inl (s4.1, IntKind.wrap .i64 (s4.2 + (1 : Int))))
 else
 Option.bind (idx x1 s2.2) fun x6 =>
 Option.bind (idx x6 s4.2) fun x7 =>
 Option.bind (F_footpath_closure_1 s2.2 s4.2 x5 (decide (x7 = x5)) s4.1) fun x8 =>
 bif !decide (x7 = x5) then
 Option.bind (F_footpath_closure_1 s2.2 s4.2 x7 true x8) fun x9 => some (.inl (x9, IntKind.wrap .i64 (s4.2 + (1 : Int))))
 else some (.inl (x8, IntKind.wrap .i64 (s4.2 + (1 : Int))))
 else some (.inr s4.1))
 (s2.1, (0 : Int)))
 fun x10 => some (.inl (x10, IntKind.wrap .i64 (s2.2 + (1 : Int))))
 else some (.inr s2.1))
 ([], (0 : Int)))
 fun x11 => Option.bind (F_slices_SortFunc_api_Footpath_api_Footpath_X_footpath_closure_2 x11 ()) fun x12 => some x12
abbrev F_footpath_closureA : Pats := (.cons (.pd Y26) (.cons (.pd Y3) .nil))
abbrev F_footpath_closureR : Pats := (.cons (.pd Y26) .nil)
noncomputable def F_footpath_closureS : Tr.Spec := { args := F_footpath_closureA, res := F_footpath_closureR, fns := [], α := El Y26, f := fun x => F_footpath_closure x.1 x.2.1, unp := fun z => (((), (), ()), (z, ())) }
noncomputable def F_footpath_closureM : List (Nat × List Tr.Spec) := [(69, [F_footpath_distancesS]), (70, [F_footpath_closure_1S]), (71, [F_slices_SortFunc_api_Footpath_api_Footpath_X_footpath_closure_2S]), (72, [F_footpath_closure_2S])]
def F_footpath_closureH : Hint := (.seq .leaf (.seq .leaf (.seq .leaf (.seq .leaf (.seq (.seq .leaf (.lp ⟨[(7, (.var Y26 (.own Y88 false))), (22, (.pd Y3))], [(8, 70, [7])], [5, 6, 21], []⟩ [((.exit 0), ⟨[(7, (.var Y26 (.own Y88 false)))], [], [], []⟩)] (.seq .leaf (.seq .leaf (.seq (.seq .leaf (.seq .leaf (.lp ⟨[(7, (.var Y26 (.own Y88 false))), (30, (.pd Y3))], [(8, 70, [7])], [5, 6, 9, 21, 22, 28, 29], []⟩ [((.exit 2), ⟨[(7, (.var Y26 (.own Y88 false)))], [(8, 70, [7])], [5, 6, 21, 22], []⟩)] .leaf))) .leaf))))) .leaf)))))
noncomputable def F_footpath_closureV (a0 : El Y26) (a1 : El Y3) : Option (El Y26) := evalF (mkE tyTab mapTab pkTab [] [] F_footpath_closureM 66) (codeOf Try.f68) Try.f68.results F_footpath_closureH F_footpath_closureA F_footpath_closureR (fun y => y.2.1) (a0, a1, ())
theorem F_footpath_closure_eq (a0 : El Y26) (a1 : El Y3) : F_footpath_closureV a0 a1 = F_footpath_closure a0 a1 := by kernel_rfl
theorem F_footpath_closure_ok : FnOK Try.prog 68 F_footpath_closureS := fnOK_of (m := F_footpath_closureM) (fn := Try.f68) (hint := F_footpath_closureH) (pack := fun y => y.2.1) hmix tab_ok ⟨⟨F_footpath_distances_ok, trivial⟩, ⟨F_footpath_closure_1_ok, trivial⟩, ⟨F_slices_SortFunc_api_Footpath_api_Footpath_X_footpath_closure_2_ok, trivial⟩, ⟨F_footpath_closure_2_ok, trivial⟩, trivial⟩ fun x z h => (F_footpath_closure_eq x.1 x.2.1).trans h
noncomputable def F_footpath_IsClosed : (El Y26) → (El Y3) → Option (El Y4) := fun a0 a1 =>
 bif decide ((64 : Int) < a1) then some false
 else
 Option.bind (F_footpath_sound a0 a1) fun x0 =>
 bif !decide (x0.2 = (0 : Int)) then some false
 else
 Option.bind (F_footpath_closure a0 (Tr.imax a1 (0 : Int))) fun x1 =>
 bif !decide ((↑(List.length x1) : Int) = (↑(List.length a0) : Int)) then some false
 else
 Option.bind
 (Tr.run
 (fun s2 =>
 bif decide (s2 < (↑(List.length x1) : Int)) then
 Option.bind (idx x1 s2) fun x3 =>
 Option.bind (idx a0 s2) fun x4 =>
 bif
 !(decide (x3.1 = x4.1) &&
 (decide (x3.2.1 = x4.2.1) && (decide (x3.2.2.1 = x4.2.2.1) && x3.2.2.2.1 == x4.2.2.2.1))) then
 some (.inr (.inr false))
 else some (.inl (IntKind.wrap .i64 (s2 + (1 : Int))))
 else some (.inr (.inl ())))
 (0 : Int))
 fun x5 => Sum.elim (fun _ => some true) (fun y7 => some y7) x5
abbrev F_footpath_IsClosedA : Pats := (.cons (.pd Y26) (.cons (.pd Y3) .nil))
abbrev F_footpath_IsClosedR : Pats := (.cons (.pd Y4) .nil)
noncomputable def F_footpath_IsClosedS : Tr.Spec := { args := F_footpath_IsClosedA, res := F_footpath_IsClosedR, fns := [], α := El Y4, f := fun x => F_footpath_IsClosed x.1 x.2.1, unp := fun z => (((), (), ()), (z, ())) }
noncomputable def F_footpath_IsClosedM : List (Nat × List Tr.Spec) := [(67, [F_footpath_soundS]), (68, [F_footpath_closureS])]
def F_footpath_IsClosedH : Hint := (.seq .leaf (.seq .leaf (.seq .leaf (.seq .leaf (.seq .leaf (.seq (.seq .leaf (.lp ⟨[(30, (.pd Y3))], [], [0, 7, 29], []⟩ [((.exit 0), ⟨[], [], [], []⟩), (.ret, ⟨[(4, (.pd Y4))], [], [], []⟩)] .leaf)) .leaf))))))
noncomputable def F_footpath_IsClosedV (a0 : El Y26) (a1 : El Y3) : Option (El Y4) := evalF (mkE tyTab mapTab pkTab [] [] F_footpath_IsClosedM 43) (codeOf Try.f64) Try.f64.results F_footpath_IsClosedH F_footpath_IsClosedA F_footpath_IsClosedR (fun y => y.2.1) (a0, a1, ())
theorem F_footpath_IsClosed_eq (a0 : El Y26) (a1 : El Y3) : F_footpath_IsClosedV a0 a1 = F_footpath_IsClosed a0 a1 := by kernel_rfl
theorem F_footpath_IsClosed_ok : FnOK Try.prog 64 F_footpath_IsClosedS := fnOK_of (m := F_footpath_IsClosedM) (fn := Try.f64) (hint := F_footpath_IsClosedH) (pack := fun y => y.2.1) hmix tab_ok ⟨⟨F_footpath_sound_ok, trivial⟩, ⟨F_footpath_closure_ok, trivial⟩, trivial⟩ fun x z h => (F_footpath_IsClosed_eq x.1 x.2.1).trans h
noncomputable def F_network_checkPaths : (El Y31) → Option (El Y77) := fun a0 =>
 Option.bind
 (Tr.run
 (fun s0 =>
 bif decide (s0.2.2 < (↑(List.length a0.2.2.2.2.1) : Int)) then
 Option.bind (idx a0.2.2.2.2.1 s0.2.2) fun x1 =>
 Option.bind
 (Option.bind (F_network_within x1.1 (↑(List.length a0.1) : Int)) fun x2 =>
 bif !x2 then some true
 else Option.bind (F_network_within x1.2.1 (↑(List.length a0.1) : Int)) fun x3 => bif !x3 then some true else some (decide (x1.1 = x1.2.1)))
 fun x4 =>
 bif x4 then Option.bind (F_network_of (4 : Int) s0.2.2 (9 : Int)) fun x5 => some (.inr (.inr x5))
 else
 Option.bind (bif decide (x1.2.2.1 < (1 : Int)) then some true else some (decide ((14400 : Int) < x1.2.2.1))) fun x6 =>
 bif x6 then Option.bind (F_network_of (4 : Int) s0.2.2 (2 : Int)) fun x7 => some (.inr (.inr x7))
 else
 bif Option.getD (Tr.amGet (Tr.keyEq Y88) (x1.1, x1.2.1, (0 : Int), x1.2.2.2.1, ()) s0.2.1) (false) then
 Option.bind (F_network_of (4 : Int) s0.2.2 (6 : Int)) fun x8 => some (.inr (.inr x8))
 else
 some
 (.inl
 (s0.1, Tr.amSet (Tr.keyEq Y88) (x1.1, x1.2.1, (0 : Int), x1.2.2.2.1, ()) true s0.2.1, IntKind.wrap .i64 (s0.2.2 + (1 : Int))))
 else some (.inr (.inl s0.1)))
 (((0 : Int), (0 : Int), (0 : Int), ()), [], (0 : Int)))
 fun x9 =>
 Sum.elim
 (fun _ =>
 Option.bind (F_footpath_IsClosed a0.2.2.2.2.1 (↑(List.length a0.1) : Int)) fun x11 =>
 bif !x11 then Option.bind (F_network_of (4 : Int) (0 : Int) (18 : Int)) fun x12 => some x12 else some ((0 : Int), (0 : Int), (0 : Int), ()))
 (fun y13 => some y13) x9
abbrev F_network_checkPathsA : Pats := (.cons (.pd Y31) .nil)
abbrev F_network_checkPathsR : Pats := (.cons (.pd Y77) .nil)
noncomputable def F_network_checkPathsS : Tr.Spec := { args := F_network_checkPathsA, res := F_network_checkPathsR, fns := [], α := El Y77, f := fun x => F_network_checkPaths x.1, unp := fun z => (((), ()), (z, ())) }
noncomputable def F_network_checkPathsM : List (Nat × List Tr.Spec) := [(48, [F_network_ofS]), (61, [F_network_withinS]), (64, [F_footpath_IsClosedS])]
def F_network_checkPathsH : Hint := (.seq .leaf (.seq .leaf (.seq (.seq .leaf (.lp ⟨[(2, (.var Y77 (.pd Y77))), (3, (.map Y88 Y4)), (11, (.pd Y3))], [], [1, 9, 10], []⟩ [((.exit 0), ⟨[(2, (.var Y77 (.pd Y77)))], [], [1], []⟩), (.ret, ⟨[(2, (.var Y77 (.pd Y77)))], [], [], []⟩)] (.seq .leaf (.seq .leaf (.seq (.seq .leaf (.seq .leaf (.seq (.seq (.reg [(23, Y4)]) (.cnd none .leaf (.seq (.reg [(49, Y4)]) .leaf))) .leaf))) .leaf))))) .leaf)))
noncomputable def F_network_checkPathsV (a0 : El Y31) : Option (El Y77) := evalF (mkE tyTab mapTab pkTab [] [] F_network_checkPathsM 78) (codeOf Try.f52) Try.f52.results F_network_checkPathsH F_network_checkPathsA F_network_checkPathsR (fun y => y.2.1) (a0, ())
theorem F_network_checkPaths_eq (a0 : El Y31) : F_network_checkPathsV a0 = F_network_checkPaths a0 := by kernel_rfl
theorem F_network_checkPaths_ok : FnOK Try.prog 52 F_network_checkPathsS := fnOK_of (m := F_network_checkPathsM) (fn := Try.f52) (hint := F_network_checkPathsH) (pack := fun y => y.2.1) hmix tab_ok ⟨⟨F_network_of_ok, trivial⟩, ⟨F_network_within_ok, trivial⟩, ⟨F_footpath_IsClosed_ok, trivial⟩, trivial⟩ fun x z h => (F_network_checkPaths_eq x.1).trans h
noncomputable def F_network_Check : (El Y31) → Option (El Y3 × El Y3 × El Y35) := fun a0 =>
 Option.bind (F_stop_Check a0.1) fun x0 =>
 Option.bind (F_route_Check a0.2.1) fun x1 =>
 Option.bind (F_network_of (0 : Int) x0.1 x0.2) fun x2 =>
 Option.bind (F_network_of (1 : Int) x1.1 x1.2) fun x3 =>
 Option.bind (F_network_first [x2, x3]) fun x4 =>
 Option.bind (bif decide (x4.2.2.1 = (0 : Int)) then Option.bind (F_network_checkRuns a0) fun x5 => some x5 else some x4) fun x6 =>
 Option.bind (bif decide (x6.2.2.1 = (0 : Int)) then Option.bind (F_network_checkLinks a0) fun x7 => some x7 else some x6) fun x8 =>
 Option.bind
 (bif decide (x8.2.2.1 = (0 : Int)) then
 Option.bind (F_product_Check a0.2.2.2.2.2.1) fun x9 =>
 Option.bind (F_network_checkPaths a0) fun x10 => Option.bind (F_network_of (5 : Int) x9.1 x9.2) fun x11 => Option.bind (F_network_first [x10, x11]) fun x12 => some x12
 else some x8)
 fun x13 => some (x13.1, x13.2.1, x13.2.2.1)
abbrev F_network_CheckA : Pats := (.cons (.pd Y31) .nil)
abbrev F_network_CheckR : Pats := (.cons (.pd Y3) (.cons (.pd Y3) (.cons (.pd Y35) .nil)))
noncomputable def F_network_CheckS : Tr.Spec := { args := F_network_CheckA, res := F_network_CheckR, fns := [], α := El Y3 × El Y3 × El Y35, f := fun x => F_network_Check x.1, unp := fun z => (((), ()), (z.1, z.2.1, z.2.2, ())) }
noncomputable def F_network_CheckM : List (Nat × List Tr.Spec) := [(45, [F_stop_CheckS]), (46, [F_route_CheckS]), (47, [F_network_firstS]), (48, [F_network_ofS]), (49, [F_network_checkRunsS]), (50, [F_network_checkLinksS]), (51, [F_product_CheckS]), (52, [F_network_checkPathsS])]
def F_network_CheckH : Hint := (.seq .leaf (.seq .leaf (.seq .leaf (.seq .leaf (.seq (.seq .leaf (.cnd (some (⟨[], [], [1], []⟩, [(.normal, ⟨[(9, (.var Y77 (.pd Y77)))], [], [1], []⟩)])) .leaf .leaf)) (.seq (.seq .leaf (.cnd (some (⟨[], [], [1], []⟩, [(.normal, ⟨[(9, (.var Y77 (.pd Y77)))], [], [1], []⟩)])) .leaf .leaf)) (.seq (.seq .leaf (.cnd (some (⟨[], [], [], []⟩, [(.normal, ⟨[(9, (.var Y77 (.pd Y77)))], [], [], []⟩)])) .leaf .leaf)) .leaf)))))))
noncomputable def F_network_CheckV (a0 : El Y31) : Option (El Y3 × El Y3 × El Y35) := evalF (mkE tyTab mapTab pkTab [] [] F_network_CheckM 64) (codeOf Try.f35) Try.f35.results F_network_CheckH F_network_CheckA F_network_CheckR (fun y => (y.2.1, y.2.2.1, y.2.2.2.1)) (a0, ())
theorem F_network_Check_eq (a0 : El Y31) : F_network_CheckV a0 = F_network_Check a0 := by kernel_rfl
theorem F_network_Check_ok : FnOK Try.prog 35 F_network_CheckS := fnOK_of (m := F_network_CheckM) (fn := Try.f35) (hint := F_network_CheckH) (pack := fun y => (y.2.1, y.2.2.1, y.2.2.2.1)) hmix tab_ok ⟨⟨F_stop_Check_ok, trivial⟩, ⟨F_route_Check_ok, trivial⟩, ⟨F_network_first_ok, trivial⟩, ⟨F_network_of_ok, trivial⟩, ⟨F_network_checkRuns_ok, trivial⟩, ⟨F_network_checkLinks_ok, trivial⟩, ⟨F_product_Check_ok, trivial⟩, ⟨F_network_checkPaths_ok, trivial⟩, trivial⟩ fun x z h => (F_network_Check_eq x.1).trans h
noncomputable def F_line_valid : (El Y31) → Option (El Y4) := fun a0 => Option.bind (F_network_Check a0) fun x0 => some (decide (x0.2.2 = (0 : Int)))
abbrev F_line_validA : Pats := (.cons (.pd Y31) .nil)
abbrev F_line_validR : Pats := (.cons (.pd Y4) .nil)
noncomputable def F_line_validS : Tr.Spec := { args := F_line_validA, res := F_line_validR, fns := [], α := El Y4, f := fun x => F_line_valid x.1, unp := fun z => (((), ()), (z, ())) }
noncomputable def F_line_validM : List (Nat × List Tr.Spec) := [(35, [F_network_CheckS])]
def F_line_validH : Hint := .leaf
noncomputable def F_line_validV (a0 : El Y31) : Option (El Y4) := evalF (mkE tyTab mapTab pkTab [] [] F_line_validM 14) (codeOf Try.f25) Try.f25.results F_line_validH F_line_validA F_line_validR (fun y => y.2.1) (a0, ())
theorem F_line_valid_eq (a0 : El Y31) : F_line_validV a0 = F_line_valid a0 := by kernel_rfl
theorem F_line_valid_ok : FnOK Try.prog 25 F_line_validS := fnOK_of (m := F_line_validM) (fn := Try.f25) (hint := F_line_validH) (pack := fun y => y.2.1) hmix tab_ok ⟨⟨F_network_Check_ok, trivial⟩, trivial⟩ fun x z h => (F_line_valid_eq x.1).trans h
noncomputable def F_line_ordered_1 : (El Y3) → (El Y31) → (El Y3) → Option (El Y4) := fun a0 a1 a2 => Option.bind (idx a1.2.2.1 a0) fun x0 => Option.bind (idx x0.2.2.2.2.2.2.2.1 (0 : Int)) fun x1 => some (decide (x1.2.2.1 ≤ a2))
abbrev F_line_ordered_1A : Pats := (.cons (.pd Y3) (.cons (.ro Y31) (.cons (.ro Y3) .nil)))
abbrev F_line_ordered_1R : Pats := (.cons (.pd Y4) .nil)
noncomputable def F_line_ordered_1S : Tr.Spec := { args := F_line_ordered_1A, res := F_line_ordered_1R, fns := [], α := El Y4, f := fun x => F_line_ordered_1 x.1 x.2.1 x.2.2.1, unp := fun z => (((), (), (), ()), (z, ())) }
noncomputable def F_line_ordered_1M : List (Nat × List Tr.Spec) := []
def F_line_ordered_1H : Hint := .leaf
noncomputable def F_line_ordered_1V (a0 : El Y3) (a1 : El Y31) (a2 : El Y3) : Option (El Y4) := evalF (mkE tyTab mapTab pkTab [] [] F_line_ordered_1M 16) (codeOf Try.f36) Try.f36.results F_line_ordered_1H F_line_ordered_1A F_line_ordered_1R (fun y => y.2.1) (a0, a1, a2, ())
theorem F_line_ordered_1_eq (a0 : El Y3) (a1 : El Y31) (a2 : El Y3) : F_line_ordered_1V a0 a1 a2 = F_line_ordered_1 a0 a1 a2 := by kernel_rfl
theorem F_line_ordered_1_ok : FnOK Try.prog 36 F_line_ordered_1S := fnOK_of (m := F_line_ordered_1M) (fn := Try.f36) (hint := F_line_ordered_1H) (pack := fun y => y.2.1) hmix tab_ok trivial fun x z h => (F_line_ordered_1_eq x.1 x.2.1 x.2.2.1).trans h
noncomputable def F_line_find_int_X_line_ordered_1 : (El Y40) → ((El Y31 × El Y3 × Unit)) → Option (El Y3) := fun a0 a1 =>
 Option.bind
 (Tr.run
 (fun s0 =>
 bif decide (s0.1 < s0.2) then
 Option.bind (idx a0 (IntKind.wrap .i64 (s0.1 + IntKind.wrap .i64 (Int.tdiv (IntKind.wrap .i64 (s0.2 - s0.1)) (2 : Int))))) fun x1 =>
 Option.bind (F_line_ordered_1 x1 a1.1 a1.2.1) fun x2 =>
 bif x2 then
 some
 (.inl
 (IntKind.wrap .i64
 (IntKind.wrap .i64 (s0.1 + IntKind.wrap .i64 (Int.tdiv (IntKind.wrap .i64 (s0.2 - s0.1)) (2 : Int))) + (1 : Int)),
 s0.2))
 else some (.inl (s0.1, IntKind.wrap .i64 (s0.1 + IntKind.wrap .i64 (Int.tdiv (IntKind.wrap .i64 (s0.2 - s0.1)) (2 : Int)))))
 else some (.inr s0.1))
 ((0 : Int), (↑(List.length a0) : Int)))
 fun x3 => some x3
abbrev F_line_find_int_X_line_ordered_1A : Pats := (.cons (.pd Y40) (.cons (.fn 36 (.cons (.ro Y31) (.cons (.ro Y3) .nil))) .nil))
abbrev F_line_find_int_X_line_ordered_1R : Pats := (.cons (.pd Y3) .nil)
noncomputable def F_line_find_int_X_line_ordered_1S : Tr.Spec := { args := F_line_find_int_X_line_ordered_1A, res := F_line_find_int_X_line_ordered_1R, fns := [36], α := El Y3, f := fun x => F_line_find_int_X_line_ordered_1 x.1 x.2.1, unp := fun z => (((), ((), (), ()), ()), (z, ())) }
noncomputable def F_line_find_int_X_line_ordered_1M : List (Nat × List Tr.Spec) := [(36, [F_line_ordered_1S])]
def F_line_find_int_X_line_ordered_1H : Hint := (.seq .leaf (.seq .leaf (.seq (.lp ⟨[(5, (.pd Y3)), (6, (.pd Y3))], [], [0, 1], []⟩ [((.exit 0), ⟨[(5, (.pd Y3))], [], [1], []⟩)] .leaf) .leaf)))
noncomputable def F_line_find_int_X_line_ordered_1V (a0 : El Y40) (a1 : (El Y31 × El Y3 × Unit)) : Option (El Y3) := evalF (mkE tyTab mapTab pkTab [] [] F_line_find_int_X_line_ordered_1M 29) (codeOf Try.f32) Try.f32.results F_line_find_int_X_line_ordered_1H F_line_find_int_X_line_ordered_1A F_line_find_int_X_line_ordered_1R (fun y => y.2.1) (a0, a1, ())
theorem F_line_find_int_X_line_ordered_1_eq (a0 : El Y40) (a1 : (El Y31 × El Y3 × Unit)) : F_line_find_int_X_line_ordered_1V a0 a1 = F_line_find_int_X_line_ordered_1 a0 a1 := by kernel_rfl
theorem F_line_find_int_X_line_ordered_1_ok : FnOK Try.prog 32 F_line_find_int_X_line_ordered_1S := fnOK_of (m := F_line_find_int_X_line_ordered_1M) (fn := Try.f32) (hint := F_line_find_int_X_line_ordered_1H) (pack := fun y => y.2.1) hmix tab_ok ⟨⟨F_line_ordered_1_ok, trivial⟩, trivial⟩ fun x z h => (F_line_find_int_X_line_ordered_1_eq x.1 x.2.1).trans h
noncomputable def F_line_ordered : (El Y31) → Option (El Y40) := fun a0 =>
 Option.bind
 (Tr.run
 (fun s0 =>
 bif decide (s0.2 < (↑(List.length a0.2.2.1) : Int)) then
 Option.bind (idx a0.2.2.1 s0.2) fun x1 =>
 bif x1.2.2.2.2.2.2.1 then some (.inl (s0.1, IntKind.wrap .i64 (s0.2 + (1 : Int))))
 else
 Option.bind (idx x1.2.2.2.2.2.2.2.1 (0 : Int)) fun x2 =>
 Option.bind (F_line_find_int_X_line_ordered_1 s0.1 (a0, x2.2.2.1, ())) fun x3 =>
 Option.bind (guardB (decide (List.length s0.1 + List.length [(0 : Int)] ≤ maxApp))) fun _ =>
 Option.bind (sliceB (List.length (s0.1 ++ [(0 : Int)])) (List.length (s0.1 ++ [(0 : Int)])) (some (IntKind.wrap .i64 (x3 + (1 : Int)))) none)
 fun x5 =>
 Option.bind (sliceB (List.length (s0.1 ++ [(0 : Int)])) (List.length (s0.1 ++ [(0 : Int)])) (some x3) none) fun x6 =>
 Option.bind (guardB (Nat.ble (x5.1 + (x5.2 - x5.1)) (List.length (s0.1 ++ [(0 : Int)])))) fun _ =>
 Option.bind
 (inb x3
 (List.length
 (List.take x5.1 (s0.1 ++ [(0 : Int)]) ++
 List.take (Min.min (List.length (List.take (x6.2 - x6.1) (List.drop x6.1 (s0.1 ++ [(0 : Int)])))) (x5.2 - x5.1))
 (List.take (x6.2 - x6.1) (List.drop x6.1 (s0.1 ++ [(0 : Int)]))) ++
 List.drop (x5.1 + Min.min (List.length (List.take (x6.2 - x6.1) (List.drop x6.1 (s0.1 ++ [(0 : Int)])))) (x5.2 - x5.1)) (s0.1 ++ [(0 : Int)]))))
 fun x8 =>
 Option.bind
 (List.take x5.1 (s0.1 ++ [(0 : Int)]) ++
 List.take (Min.min (List.length (List.take (x6.2 - x6.1) (List.drop x6.1 (s0.1 ++ [(0 : Int)])))) (x5.2 - x5.1))
 (List.take (x6.2 - x6.1) (List.drop x6.1 (s0.1 ++ [(0 : Int)]))) ++
 List.drop (x5.1 + Min.min (List.length (List.take (x6.2 - x6.1) (List.drop x6.1 (s0.1 ++ [(0 : Int)])))) (x5.2 - x5.1)) (s0.1 ++ [(0 : Int)]))[x8]?
 fun _ =>
 some
 (.inl
 (List.set
 (List.take x5.1 (s0.1 ++ [(0 : Int)]) ++
 List.take (Min.min (List.length (List.take (x6.2 - x6.1) (List.drop x6.1 (s0.1 ++ [(0 : Int)])))) (x5.2 - x5.1))
 (List.take (x6.2 - x6.1) (List.drop x6.1 (s0.1 ++ [(0 : Int)]))) ++
 List.drop (x5.1 + Min.min (List.length (List.take (x6.2 - x6.1) (List.drop x6.1 (s0.1 ++ [(0 : Int)])))) (x5.2 - x5.1)) (s0.1 ++ [(0 : Int)]))
 x8 s0.2,
 IntKind.wrap .i64 (s0.2 + (1 : Int))))
 else some (.inr s0.1))
 ([], (0 : Int)))
 fun x10 => some x10
abbrev F_line_orderedA : Pats := (.cons (.pd Y31) .nil)
abbrev F_line_orderedR : Pats := (.cons (.pd Y40) .nil)
noncomputable def F_line_orderedS : Tr.Spec := { args := F_line_orderedA, res := F_line_orderedR, fns := [], α := El Y40, f := fun x => F_line_ordered x.1, unp := fun z => (((), ()), (z, ())) }
noncomputable def F_line_orderedM : List (Nat × List Tr.Spec) := [(32, [F_line_find_int_X_line_ordered_1S]), (36, [F_line_ordered_1S])]
def F_line_orderedH : Hint := (.seq .leaf (.seq .leaf (.seq (.seq .leaf (.lp ⟨[(3, (.own Y3 false)), (11, (.pd Y3))], [], [1, 9, 10], []⟩ [((.exit 0), ⟨[(3, (.own Y3 false))], [], [], []⟩)] .leaf)) .leaf)))
noncomputable def F_line_orderedV (a0 : El Y31) : Option (El Y40) := evalF (mkE tyTab mapTab pkTab [] [] F_line_orderedM 43) (codeOf Try.f26) Try.f26.results F_line_orderedH F_line_orderedA F_line_orderedR (fun y => y.2.1) (a0, ())
theorem F_line_ordered_eq (a0 : El Y31) : F_line_orderedV a0 = F_line_ordered a0 := by kernel_rfl
theorem F_line_ordered_ok : FnOK Try.prog 26 F_line_orderedS := fnOK_of (m := F_line_orderedM) (fn := Try.f26) (hint := F_line_orderedH) (pack := fun y => y.2.1) hmix tab_ok ⟨⟨F_line_find_int_X_line_ordered_1_ok, trivial⟩, ⟨F_line_ordered_1_ok, trivial⟩, trivial⟩ fun x z h => (F_line_ordered_eq x.1).trans h
noncomputable def F_line_alike : (El Y65) → (El Y65) → Option (El Y4) := fun a0 a1 =>
 some
 (decide (a0.1 = a1.1) &&
 (decide ((0 : Int) = (0 : Int)) && (decide ((0 : Int) = (0 : Int)) && (a0.2.2.2.1 == a1.2.2.2.1 && a0.2.2.2.2.1 == a1.2.2.2.2.1))))
abbrev F_line_alikeA : Pats := (.cons (.pd Y65) (.cons (.pd Y65) .nil))
abbrev F_line_alikeR : Pats := (.cons (.pd Y4) .nil)
noncomputable def F_line_alikeS : Tr.Spec := { args := F_line_alikeA, res := F_line_alikeR, fns := [], α := El Y4, f := fun x => F_line_alike x.1 x.2.1, unp := fun z => (((), (), ()), (z, ())) }
noncomputable def F_line_alikeM : List (Nat × List Tr.Spec) := []
def F_line_alikeH : Hint := .leaf
noncomputable def F_line_alikeV (a0 : El Y65) (a1 : El Y65) : Option (El Y4) := evalF (mkE tyTab mapTab pkTab [] [] F_line_alikeM 12) (codeOf Try.f37) Try.f37.results F_line_alikeH F_line_alikeA F_line_alikeR (fun y => y.2.1) (a0, a1, ())
theorem F_line_alike_eq (a0 : El Y65) (a1 : El Y65) : F_line_alikeV a0 a1 = F_line_alike a0 a1 := by kernel_rfl
theorem F_line_alike_ok : FnOK Try.prog 37 F_line_alikeS := fnOK_of (m := F_line_alikeM) (fn := Try.f37) (hint := F_line_alikeH) (pack := fun y => y.2.1) hmix tab_ok trivial fun x z h => (F_line_alike_eq x.1 x.2.1).trans h
noncomputable def F_line_follows : (El Y49) → (El Y49) → Option (El Y4) := fun a0 a1 =>
 Option.bind
 (bif !decide (a0.2.2.2.2.1 = a1.2.2.2.2.1) then some true
 else
 bif !a0.2.2.2.2.2.1 == a1.2.2.2.2.2.1 then some true
 else some !decide ((↑(List.length a0.2.2.2.2.2.2.2.1) : Int) = (↑(List.length a1.2.2.2.2.2.2.2.1) : Int)))
 fun x0 =>
 bif x0 then some false
 else
 Option.bind
 (Tr.run
 (fun s1 =>
 bif decide (s1 < (↑(List.length a0.2.2.2.2.2.2.2.1) : Int)) then
 Option.bind (idx a0.2.2.2.2.2.2.2.1 s1) fun x2 =>
 Option.bind (idx a1.2.2.2.2.2.2.2.1 s1) fun x3 =>
 Option.bind
 (Option.bind (F_line_alike x2 x3) fun x4 =>
 bif !x4 then some true
 else bif decide (x3.2.1 < x2.2.1) then some true else some (decide (x3.2.2.1 < x2.2.2.1)))
 fun x5 => bif x5 then some (.inr (.inr false)) else some (.inl (IntKind.wrap .i64 (s1 + (1 : Int))))
 else some (.inr (.inl ())))
 (0 : Int))
 fun x6 => Sum.elim (fun _ => some true) (fun y8 => some y8) x6
abbrev F_line_followsA : Pats := (.cons (.pd Y49) (.cons (.pd Y49) .nil))
abbrev F_line_followsR : Pats := (.cons (.pd Y4) .nil)
noncomputable def F_line_followsS : Tr.Spec := { args := F_line_followsA, res := F_line_followsR, fns := [], α := El Y4, f := fun x => F_line_follows x.1 x.2.1, unp := fun z => (((), (), ()), (z, ())) }
noncomputable def F_line_followsM : List (Nat × List Tr.Spec) := [(37, [F_line_alikeS])]
def F_line_followsH : Hint := (.seq .leaf (.seq (.seq (.reg [(28, Y4)]) .leaf) (.seq (.seq .leaf (.lp ⟨[(32, (.pd Y3))], [], [3, 30, 31], []⟩ [((.exit 0), ⟨[], [], [], []⟩), (.ret, ⟨[(4, (.pd Y4))], [], [], []⟩)] (.seq .leaf (.seq .leaf (.seq (.seq .leaf (.seq .leaf (.seq (.reg [(59, Y4)]) .leaf))) .leaf))))) .leaf)))
noncomputable def F_line_followsV (a0 : El Y49) (a1 : El Y49) : Option (El Y4) := evalF (mkE tyTab mapTab pkTab [] [] F_line_followsM 61) (codeOf Try.f27) Try.f27.results F_line_followsH F_line_followsA F_line_followsR (fun y => y.2.1) (a0, a1, ())
theorem F_line_follows_eq (a0 : El Y49) (a1 : El Y49) : F_line_followsV a0 a1 = F_line_follows a0 a1 := by kernel_rfl
theorem F_line_follows_ok : FnOK Try.prog 27 F_line_followsS := fnOK_of (m := F_line_followsM) (fn := Try.f27) (hint := F_line_followsH) (pack := fun y => y.2.1) hmix tab_ok ⟨⟨F_line_alike_ok, trivial⟩, trivial⟩ fun x z h => (F_line_follows_eq x.1 x.2.1).trans h
noncomputable def F_line_Lines : (El Y31) → Option (El Y34 × El Y35) := fun a0 =>
 Option.bind (F_line_valid a0) fun x0 =>
 bif !x0 then some ([], (21 : Int))
 else
 Option.bind (F_line_ordered a0) fun x1 =>
 Option.bind
 (Tr.run
 (fun s2 =>
 bif decide (s2.2 < (↑(List.length x1) : Int)) then
 Option.bind (idx x1 s2.2) fun x3 =>
 Option.bind
 (Tr.run
 (fun s4 =>
 bif decide (s4.2.2 < (↑(List.length s2.1) : Int)) then
 Option.bind (inb s4.2.2 (List.length s4.1)) fun x5 =>
 Option.bind s4.1[x5]? fun _ =>
 Option.bind (idx s4.1 (↑x5 : Int)) fun x7 =>
 Option.bind (idx s4.1 (↑x5 : Int)) fun x8 =>
 Option.bind (inb (IntKind.wrap .i64 ((↑(List.length x7) : Int) - (1 : Int))) (List.length x8)) fun x9 =>
 Option.bind (idx s4.1 (↑x5 : Int)) fun x10 =>
 Option.bind x10[x9]? fun x11 =>
 Option.bind (idx a0.2.2.1 x11) fun x12 =>
 Option.bind (idx a0.2.2.1 x3) fun x13 =>
 Option.bind (F_line_follows x12 x13) fun x14 =>
 bif x14 then
 Option.bind (idx s4.1 (↑x5 : Int)) fun x15 =>
 Option.bind (guardB (decide (List.length x15 + List.length [x3] ≤ maxApp))) fun _ =>
 Option.bind (inb s4.2.2 (List.length s4.1)) fun x17 =>
 Option.bind (guardB (Tr.holeIs (some (Int.toNat (↑x5 : Int))) x17)) fun _ =>
 Option.bind s4.1[x17]? fun _ => some (.inr (List.set s4.1 x17 (x15 ++ [x3]), true))
 else some (.inl (s4.1, s4.2.1, IntKind.wrap .i64 (s4.2.2 + (1 : Int))))
 else some (.inr (s4.1, s4.2.1)))
 (s2.1, false, (0 : Int)))
 fun x20 =>
 bif !x20.2 then
 Option.bind (guardB (decide (List.length x20.1 + List.length [[x3]] ≤ maxApp))) fun _ =>
 some (.inl (x20.1 ++ [[x3]], IntKind.wrap .i64 (s2.2 + (1 : Int))))
 else some (.inl (x20.1, IntKind.wrap .i64 (s2.2 + (1 : Int))))
 else some (.inr s2.1))
 ([], (0 : Int)))
 fun x22 => some (x22, (0 : Int))
abbrev F_line_LinesA : Pats := (.cons (.pd Y31) .nil)
abbrev F_line_LinesR : Pats := (.cons (.pd Y34) (.cons (.pd Y35) .nil))
noncomputable def F_line_LinesS : Tr.Spec := { args := F_line_LinesA, res := F_line_LinesR, fns := [], α := El Y34 × El Y35, f := fun x => F_line_Lines x.1, unp := fun z => (((), ()), (z.1, z.2, ())) }
noncomputable def F_line_LinesM : List (Nat × List Tr.Spec) := [(25, [F_line_validS]), (26, [F_line_orderedS]), (27, [F_line_followsS])]
def F_line_LinesH : Hint := (.seq .leaf (.seq .leaf (.seq .leaf (.seq (.seq .leaf (.lp ⟨[(4, (.rows Y3 false)), (16, (.pd Y3))], [], [1, 14, 15], []⟩ [((.exit 0), ⟨[(4, (.rows Y3 false))], [], [], []⟩)] (.seq .leaf (.seq .leaf (.seq (.seq .leaf (.seq .leaf (.seq (.seq .leaf (.lp ⟨[(4, (.rows Y3 false)), (7, (.pd Y4)), (22, (.pd Y3))], [], [1, 6, 14, 15, 16, 21], [(20, 4)]⟩ [((.exit 2), ⟨[(4, (.rows Y3 false)), (7, (.pd Y4))], [], [1, 6, 14, 15, 16], []⟩)] .leaf)) .leaf))) .leaf))))) .leaf))))
noncomputable def F_line_LinesV (a0 : El Y31) : Option (El Y34 × El Y35) := evalF (mkE tyTab mapTab pkTab [34] [] F_line_LinesM 60) (codeOf Try.f12) Try.f12.results F_line_LinesH F_line_LinesA F_line_LinesR (fun y => (y.2.1, y.2.2.1)) (a0, ())
theorem F_line_Lines_eq (a0 : El Y31) : F_line_LinesV a0 = F_line_Lines a0 := by kernel_rfl
theorem F_line_Lines_ok : FnOK Try.prog 12 F_line_LinesS := fnOK_of (m := F_line_LinesM) (fn := Try.f12) (hint := F_line_LinesH) (pack := fun y => (y.2.1, y.2.2.1)) hmix tab_ok ⟨⟨F_line_valid_ok, trivial⟩, ⟨F_line_ordered_ok, trivial⟩, ⟨F_line_follows_ok, trivial⟩, trivial⟩ fun x z h => (F_line_Lines_eq x.1).trans h
noncomputable def F_ref29_Same : (El Y40) → (El Y40) → Option (El Y4) := fun a0 a1 =>
 bif !decide ((↑(List.length a0) : Int) = (↑(List.length a1) : Int)) then some false
 else
 Option.bind
 (Tr.run
 (fun s0 =>
 bif decide (s0 < (↑(List.length a0) : Int)) then
 Option.bind (idx a0 s0) fun x1 =>
 Option.bind (idx a1 s0) fun x2 =>
 bif !decide (x1 = x2) then some (.inr (.inr false)) else some (.inl (IntKind.wrap .i64 (s0 + (1 : Int))))
 else some (.inr (.inl ())))
 (0 : Int))
 fun x3 => Sum.elim (fun _ => some true) (fun y5 => some y5) x3
abbrev F_ref29_SameA : Pats := (.cons (.pd Y40) (.cons (.pd Y40) .nil))
abbrev F_ref29_SameR : Pats := (.cons (.pd Y4) .nil)
noncomputable def F_ref29_SameS : Tr.Spec := { args := F_ref29_SameA, res := F_ref29_SameR, fns := [], α := El Y4, f := fun x => F_ref29_Same x.1 x.2.1, unp := fun z => (((), (), ()), (z, ())) }
noncomputable def F_ref29_SameM : List (Nat × List Tr.Spec) := []
def F_ref29_SameH : Hint := (.seq .leaf (.seq .leaf (.seq (.seq .leaf (.lp ⟨[(5, (.pd Y3))], [], [0, 1], []⟩ [((.exit 0), ⟨[], [], [], []⟩), (.ret, ⟨[(4, (.pd Y4))], [], [], []⟩)] .leaf)) .leaf)))
noncomputable def F_ref29_SameV (a0 : El Y40) (a1 : El Y40) : Option (El Y4) := evalF (mkE tyTab mapTab pkTab [] [] F_ref29_SameM 26) (codeOf Try.f15) Try.f15.results F_ref29_SameH F_ref29_SameA F_ref29_SameR (fun y => y.2.1) (a0, a1, ())
theorem F_ref29_Same_eq (a0 : El Y40) (a1 : El Y40) : F_ref29_SameV a0 a1 = F_ref29_Same a0 a1 := by kernel_rfl
theorem F_ref29_Same_ok : FnOK Try.prog 15 F_ref29_SameS := fnOK_of (m := F_ref29_SameM) (fn := Try.f15) (hint := F_ref29_SameH) (pack := fun y => y.2.1) hmix tab_ok trivial fun x z h => (F_ref29_Same_eq x.1 x.2.1).trans h
noncomputable def F_line_IsLine : (El Y31) → (El Y40) → Option (El Y4) := fun a0 a1 =>
 Option.bind (bif decide ((↑(List.length a1) : Int) = (0 : Int)) then some true else Option.bind (F_line_valid a0) fun x0 => some !x0) fun x1 =>
 bif x1 then some false
 else
 Option.bind
 (guardB
 (decide
 ((0 : Tr.El (Tr.Ty.int .i64)) ≤ (↑(List.length a0.2.2.1) : Int) ∧
 (↑(List.length a0.2.2.1) : Int) ≤ (↑(List.length a0.2.2.1) : Int) ∧ (↑(List.length a0.2.2.1) : Int) ≤ (↑maxApp : Tr.El (Tr.Ty.int .i64)))))
 fun _ =>
 Option.bind
 (Tr.run
 (fun s3 =>
 bif decide (s3.2 < (↑(List.length a1) : Int)) then
 Option.bind (idx a1 s3.2) fun x4 =>
 Option.bind
 (bif decide (x4 < (0 : Int)) then some true
 else
 bif decide ((↑(List.length a0.2.2.1) : Int) ≤ x4) then some true
 else
 Option.bind (inb x4 (List.length s3.1)) fun x5 =>
 Option.bind s3.1[x5]? fun x6 => bif x6 then some true else Option.bind (idx a0.2.2.1 x4) fun x7 => some x7.2.2.2.2.2.2.1)
 fun x8 =>
 bif x8 then some (.inr (.inr false))
 else
 Option.bind
 (bif decide ((0 : Int) < s3.2) then
 Option.bind (idx a1 (IntKind.wrap .i64 (s3.2 - (1 : Int)))) fun x9 =>
 Option.bind (idx a0.2.2.1 x9) fun x10 => Option.bind (idx a0.2.2.1 x4) fun x11 => Option.bind (F_line_follows x10 x11) fun x12 => some !x12
 else some false)
 fun x13 =>
 bif x13 then some (.inr (.inr false))
 else
 Option.bind (inb x4 (List.length s3.1)) fun x14 =>
 Option.bind s3.1[x14]? fun _ => some (.inl (List.set s3.1 x14 true, IntKind.wrap .i64 (s3.2 + (1 : Int))))
 else some (.inr (.inl ())))
 (List.replicate (Int.toNat (↑(List.length a0.2.2.1) : Int)) (false), (0 : Int)))
 fun x16 => Sum.elim (fun _ => some true) (fun y18 => some y18) x16
abbrev F_line_IsLineA : Pats := (.cons (.pd Y31) (.cons (.pd Y40) .nil))
abbrev F_line_IsLineR : Pats := (.cons (.pd Y4) .nil)
noncomputable def F_line_IsLineS : Tr.Spec := { args := F_line_IsLineA, res := F_line_IsLineR, fns := [], α := El Y4, f := fun x => F_line_IsLine x.1 x.2.1, unp := fun z => (((), (), ()), (z, ())) }
noncomputable def F_line_IsLineM : List (Nat × List Tr.Spec) := [(25, [F_line_validS]), (27, [F_line_followsS])]
def F_line_IsLineH : Hint := (.seq .leaf (.seq (.seq (.reg [(15, Y4)]) .leaf) (.seq .leaf (.seq (.seq .leaf (.lp ⟨[(5, (.own Y4 false)), (22, (.pd Y3))], [], [1, 2, 20, 21], []⟩ [((.exit 0), ⟨[], [], [], []⟩), (.ret, ⟨[(4, (.pd Y4))], [], [], []⟩)] (.seq .leaf (.seq .leaf (.seq (.seq .leaf (.seq (.seq (.reg [(49, Y4)]) .leaf) (.seq (.seq (.reg [(69, Y4)]) .leaf) .leaf))) .leaf))))) .leaf))))
noncomputable def F_line_IsLineV (a0 : El Y31) (a1 : El Y40) : Option (El Y4) := evalF (mkE tyTab mapTab pkTab [] [] F_line_IsLineM 74) (codeOf Try.f21) Try.f21.results F_line_IsLineH F_line_IsLineA F_line_IsLineR (fun y => y.2.1) (a0, a1, ())
theorem F_line_IsLine_eq (a0 : El Y31) (a1 : El Y40) : F_line_IsLineV a0 a1 = F_line_IsLine a0 a1 := by kernel_rfl
theorem F_line_IsLine_ok : FnOK Try.prog 21 F_line_IsLineS := fnOK_of (m := F_line_IsLineM) (fn := Try.f21) (hint := F_line_IsLineH) (pack := fun y => y.2.1) hmix tab_ok ⟨⟨F_line_valid_ok, trivial⟩, ⟨F_line_follows_ok, trivial⟩, trivial⟩ fun x z h => (F_line_IsLine_eq x.1 x.2.1).trans h
noncomputable def F_line_usable : (El Y31) → (El Y40) → (El Y3) → Option (El Y4) := fun a0 a1 a2 =>
 Option.bind
 (Option.bind (F_line_IsLine a0 a1) fun x0 =>
 bif x0 then
 bif decide ((0 : Int) ≤ a2) then
 Option.bind (idx a1 (0 : Int)) fun x1 => Option.bind (idx a0.2.2.1 x1) fun x2 => some (decide (a2 < (↑(List.length x2.2.2.2.2.2.2.2.1) : Int)))
 else some false
 else some false)
 fun x3 => some x3
abbrev F_line_usableA : Pats := (.cons (.pd Y31) (.cons (.pd Y40) (.cons (.pd Y3) .nil)))
abbrev F_line_usableR : Pats := (.cons (.pd Y4) .nil)
noncomputable def F_line_usableS : Tr.Spec := { args := F_line_usableA, res := F_line_usableR, fns := [], α := El Y4, f := fun x => F_line_usable x.1 x.2.1 x.2.2.1, unp := fun z => (((), (), (), ()), (z, ())) }
noncomputable def F_line_usableM : List (Nat × List Tr.Spec) := [(21, [F_line_IsLineS])]
def F_line_usableH : Hint := (.seq .leaf (.seq (.reg [(6, Y4)]) .leaf))
noncomputable def F_line_usableV (a0 : El Y31) (a1 : El Y40) (a2 : El Y3) : Option (El Y4) := evalF (mkE tyTab mapTab pkTab [] [] F_line_usableM 27) (codeOf Try.f31) Try.f31.results F_line_usableH F_line_usableA F_line_usableR (fun y => y.2.1) (a0, a1, a2, ())
theorem F_line_usable_eq (a0 : El Y31) (a1 : El Y40) (a2 : El Y3) : F_line_usableV a0 a1 a2 = F_line_usable a0 a1 a2 := by kernel_rfl
theorem F_line_usable_ok : FnOK Try.prog 31 F_line_usableS := fnOK_of (m := F_line_usableM) (fn := Try.f31) (hint := F_line_usableH) (pack := fun y => y.2.1) hmix tab_ok ⟨⟨F_line_IsLine_ok, trivial⟩, trivial⟩ fun x z h => (F_line_usable_eq x.1 x.2.1 x.2.2.1).trans h
noncomputable def F_line_Catch_1 : (El Y3) → (El Y31) → (El Y3) → (El Y3) → Option (El Y4) := fun a0 a1 a2 a3 => Option.bind (idx a1.2.2.1 a0) fun x0 => Option.bind (idx x0.2.2.2.2.2.2.2.1 a2) fun x1 => some (decide (x1.2.2.1 < a3))
abbrev F_line_Catch_1A : Pats := (.cons (.pd Y3) (.cons (.ro Y31) (.cons (.ro Y3) (.cons (.ro Y3) .nil))))
abbrev F_line_Catch_1R : Pats := (.cons (.pd Y4) .nil)
noncomputable def F_line_Catch_1S : Tr.Spec := { args := F_line_Catch_1A, res := F_line_Catch_1R, fns := [], α := El Y4, f := fun x => F_line_Catch_1 x.1 x.2.1 x.2.2.1 x.2.2.2.1, unp := fun z => (((), (), (), (), ()), (z, ())) }
noncomputable def F_line_Catch_1M : List (Nat × List Tr.Spec) := []
def F_line_Catch_1H : Hint := .leaf
noncomputable def F_line_Catch_1V (a0 : El Y3) (a1 : El Y31) (a2 : El Y3) (a3 : El Y3) : Option (El Y4) := evalF (mkE tyTab mapTab pkTab [] [] F_line_Catch_1M 18) (codeOf Try.f33) Try.f33.results F_line_Catch_1H F_line_Catch_1A F_line_Catch_1R (fun y => y.2.1) (a0, a1, a2, a3, ())
theorem F_line_Catch_1_eq (a0 : El Y3) (a1 : El Y31) (a2 : El Y3) (a3 : El Y3) : F_line_Catch_1V a0 a1 a2 a3 = F_line_Catch_1 a0 a1 a2 a3 := by kernel_rfl
theorem F_line_Catch_1_ok : FnOK Try.prog 33 F_line_Catch_1S := fnOK_of (m := F_line_Catch_1M) (fn := Try.f33) (hint := F_line_Catch_1H) (pack := fun y => y.2.1) hmix tab_ok trivial fun x z h => (F_line_Catch_1_eq x.1 x.2.1 x.2.2.1 x.2.2.2.1).trans h
noncomputable def F_line_find_int_X_line_Catch_1 : (El Y40) → ((El Y31 × El Y3 × El Y3 × Unit)) → Option (El Y3) := fun a0 a1 =>
 Option.bind
 (Tr.run
 (fun s0 =>
 bif decide (s0.1 < s0.2) then
 Option.bind (idx a0 (IntKind.wrap .i64 (s0.1 + IntKind.wrap .i64 (Int.tdiv (IntKind.wrap .i64 (s0.2 - s0.1)) (2 : Int))))) fun x1 =>
 Option.bind (F_line_Catch_1 x1 a1.1 a1.2.1 a1.2.2.1) fun x2 =>
 bif x2 then
 some
 (.inl
 (IntKind.wrap .i64
 (IntKind.wrap .i64 (s0.1 + IntKind.wrap .i64 (Int.tdiv (IntKind.wrap .i64 (s0.2 - s0.1)) (2 : Int))) + (1 : Int)),
 s0.2))
 else some (.inl (s0.1, IntKind.wrap .i64 (s0.1 + IntKind.wrap .i64 (Int.tdiv (IntKind.wrap .i64 (s0.2 - s0.1)) (2 : Int)))))
 else some (.inr s0.1))
 ((0 : Int), (↑(List.length a0) : Int)))
 fun x3 => some x3
abbrev F_line_find_int_X_line_Catch_1A : Pats := (.cons (.pd Y40) (.cons (.fn 33 (.cons (.ro Y31) (.cons (.ro Y3) (.cons (.ro Y3) .nil)))) .nil))
abbrev F_line_find_int_X_line_Catch_1R : Pats := (.cons (.pd Y3) .nil)
noncomputable def F_line_find_int_X_line_Catch_1S : Tr.Spec := { args := F_line_find_int_X_line_Catch_1A, res := F_line_find_int_X_line_Catch_1R, fns := [33], α := El Y3, f := fun x => F_line_find_int_X_line_Catch_1 x.1 x.2.1, unp := fun z => (((), ((), (), (), ()), ()), (z, ())) }
noncomputable def F_line_find_int_X_line_Catch_1M : List (Nat × List Tr.Spec) := [(33, [F_line_Catch_1S])]
def F_line_find_int_X_line_Catch_1H : Hint := (.seq .leaf (.seq .leaf (.seq (.lp ⟨[(5, (.pd Y3)), (6, (.pd Y3))], [], [0, 1], []⟩ [((.exit 0), ⟨[(5, (.pd Y3))], [], [1], []⟩)] .leaf) .leaf)))
noncomputable def F_line_find_int_X_line_Catch_1V (a0 : El Y40) (a1 : (El Y31 × El Y3 × El Y3 × Unit)) : Option (El Y3) := evalF (mkE tyTab mapTab pkTab [] [] F_line_find_int_X_line_Catch_1M 29) (codeOf Try.f32) Try.f32.results F_line_find_int_X_line_Catch_1H F_line_find_int_X_line_Catch_1A F_line_find_int_X_line_Catch_1R (fun y => y.2.1) (a0, a1, ())
theorem F_line_find_int_X_line_Catch_1_eq (a0 : El Y40) (a1 : (El Y31 × El Y3 × El Y3 × Unit)) : F_line_find_int_X_line_Catch_1V a0 a1 = F_line_find_int_X_line_Catch_1 a0 a1 := by kernel_rfl
theorem F_line_find_int_X_line_Catch_1_ok : FnOK Try.prog 32 F_line_find_int_X_line_Catch_1S := fnOK_of (m := F_line_find_int_X_line_Catch_1M) (fn := Try.f32) (hint := F_line_find_int_X_line_Catch_1H) (pack := fun y => y.2.1) hmix tab_ok ⟨⟨F_line_Catch_1_ok, trivial⟩, trivial⟩ fun x z h => (F_line_find_int_X_line_Catch_1_eq x.1 x.2.1).trans h
noncomputable def F_line_Catch : (El Y31) → (El Y40) → (El Y3) → (El Y3) → Option (El Y3 × El Y4) := fun a0 a1 a2 a3 =>
 Option.bind (F_line_usable a0 a1 a2) fun x0 =>
 bif !x0 then some ((0 : Int), false)
 else
 Option.bind (F_line_find_int_X_line_Catch_1 a1 (a0, a2, a3, ())) fun x1 =>
 bif decide (x1 = (↑(List.length a1) : Int)) then some ((0 : Int), false) else Option.bind (idx a1 x1) fun x2 => some (x2, true)
abbrev F_line_CatchA : Pats := (.cons (.pd Y31) (.cons (.pd Y40) (.cons (.pd Y3) (.cons (.pd Y3) .nil))))
abbrev F_line_CatchR : Pats := (.cons (.pd Y3) (.cons (.pd Y4) .nil))
noncomputable def F_line_CatchS : Tr.Spec := { args := F_line_CatchA, res := F_line_CatchR, fns := [], α := El Y3 × El Y4, f := fun x => F_line_Catch x.1 x.2.1 x.2.2.1 x.2.2.2.1, unp := fun z => (((), (), (), (), ()), (z.1, z.2, ())) }
noncomputable def F_line_CatchM : List (Nat × List Tr.Spec) := [(31, [F_line_usableS]), (32, [F_line_find_int_X_line_ordered_1S, F_line_find_int_X_line_Catch_1S]), (33, [F_line_Catch_1S])]
def F_line_CatchH : Hint := .leaf
noncomputable def F_line_CatchV (a0 : El Y31) (a1 : El Y40) (a2 : El Y3) (a3 : El Y3) : Option (El Y3 × El Y4) := evalF (mkE tyTab mapTab pkTab [] [] F_line_CatchM 27) (codeOf Try.f16) Try.f16.results F_line_CatchH F_line_CatchA F_line_CatchR (fun y => (y.2.1, y.2.2.1)) (a0, a1, a2, a3, ())
theorem F_line_Catch_eq (a0 : El Y31) (a1 : El Y40) (a2 : El Y3) (a3 : El Y3) : F_line_CatchV a0 a1 a2 a3 = F_line_Catch a0 a1 a2 a3 := by kernel_rfl
theorem F_line_Catch_ok : FnOK Try.prog 16 F_line_CatchS := fnOK_of (m := F_line_CatchM) (fn := Try.f16) (hint := F_line_CatchH) (pack := fun y => (y.2.1, y.2.2.1)) hmix tab_ok ⟨⟨F_line_usable_ok, trivial⟩, ⟨F_line_find_int_X_line_ordered_1_ok, F_line_find_int_X_line_Catch_1_ok, trivial⟩, ⟨F_line_Catch_1_ok, trivial⟩, trivial⟩ fun x z h => (F_line_Catch_eq x.1 x.2.1 x.2.2.1 x.2.2.2.1).trans h
end Q
