/- The functions of the program as functions of Lean, and that the program computes them; printed by a program of mine. Conditions: none. -/
import Derived.Test.YtbjnllepfnbaoaaGreatTsE
import Derived.KernelRfl
import Derived.Test.YtbjnllepfnbaoaaGreatTtB
import Derived.Test.YtbjnllepfnbaoaaGreatLay38z
import Derived.Test.YtbjnllepfnbaoaaGreatLen38z
import Derived.Test.YtbjnllepfnbaoaaGreatProg
open Tr Go Go.Proofs
namespace Q
abbrev Y3 : Ty := .int .i64
abbrev Y4 : Ty := .bool
abbrev Y9 : Ty := .str
abbrev Y55 : Ty := .prod Y9 (.prod Y3 (.prod Y4 (.prod Y3 .unit)))
abbrev Y22 : Ty := .sl Y55
abbrev Y57 : Ty := .prod Y9 (.prod Y3 (.prod Y4 .unit))
abbrev Y23 : Ty := .sl Y57
abbrev Y59 : Ty := .prod Y3 (.prod Y3 (.prod Y3 (.prod Y4 (.prod Y4 .unit))))
abbrev Y51 : Ty := .sl Y59
abbrev Y53 : Ty := .prod Y3 (.prod Y3 (.prod Y3 (.prod Y9 (.prod Y3 (.prod Y4 (.prod Y4 (.prod Y51 .unit)))))))
abbrev Y24 : Ty := .sl Y53
abbrev Y126 : Ty := .prod Y3 (.prod Y3 (.prod Y3 (.prod Y3 (.prod Y4 .unit))))
abbrev Y25 : Ty := .sl Y126
abbrev Y131 : Ty := .prod Y3 (.prod Y3 (.prod Y3 (.prod Y4 .unit)))
abbrev Y26 : Ty := .sl Y131
abbrev Y96 : Ty := .prod Y9 (.prod Y3 (.prod Y3 (.prod Y3 (.prod Y3 (.prod Y3 .unit)))))
abbrev Y27 : Ty := .sl Y96
abbrev Y29 : Ty := .prod Y27 (.prod Y3 (.prod Y3 (.prod Y3 .unit)))
abbrev Y31 : Ty := .prod Y22 (.prod Y23 (.prod Y24 (.prod Y25 (.prod Y26 (.prod Y29 .unit)))))
abbrev Y33 : Ty := .prod Y3 (.prod Y3 (.prod Y3 (.prod Y4 (.prod Y3 (.prod Y3 (.prod Y4 (.prod Y4 (.prod Y3 (.prod Y4 .unit)))))))))
abbrev Y64 : Ty := .prod Y4 (.prod Y3 (.prod Y3 (.prod Y3 (.prod Y3 (.prod Y3 (.prod Y3 (.prod Y3 (.prod Y4 .unit))))))))
abbrev Y34 : Ty := .sl Y64
abbrev Y36 : Ty := .prod Y34 .unit
abbrev Y40 : Ty := .prod Y3 (.prod Y3 (.prod Y3 (.prod Y3 (.prod Y3 .unit))))
abbrev Y74 : Ty := .prod Y3 (.prod Y3 (.prod Y3 (.prod Y3 .unit)))
abbrev Y41 : Ty := .sl Y74
abbrev Y42 : Ty := .int .i64
abbrev Y46 : Ty := .arr 4 Y3
abbrev Y47 : Ty := .arr 4 Y3
abbrev Y67 : Ty := .prod Y3 (.prod Y3 (.prod Y3 (.prod Y3 .unit)))
abbrev Y60 : Ty := .sl Y67
abbrev Y77 : Ty := .int .u64
abbrev Y78 : Ty := .int .u64
abbrev Y86 : Ty := .prod Y4 (.prod Y3 (.prod Y3 (.prod Y74 .unit)))
abbrev Y87 : Ty := .arr 9 Y86
abbrev Y93 : Ty := .prod Y4 (.prod Y3 (.prod Y41 .unit))
abbrev Y91 : Ty := .sl Y93
abbrev Y102 : Ty := .prod Y3 (.prod Y3 (.prod Y42 .unit))
abbrev Y108 : Ty := .sl Y3
abbrev Y114 : Ty := .ref
abbrev Y117 : Ty := .sl Y102
abbrev Y121 : Ty := .prod Y9 (.prod Y3 (.prod Y3 .unit))
abbrev Y118 : Ty := .ref
abbrev Y122 : Ty := .ref
abbrev Y123 : Ty := .ref
abbrev Y124 : Ty := .ref
abbrev Y129 : Ty := .ref
abbrev Y146 : Ty := .prod Y3 (.prod Y3 (.prod Y4 .unit))
abbrev Y144 : Ty := .ref
abbrev Y147 : Ty := .sl Y108
abbrev Y154 : Ty := .ref
abbrev Y157 : Ty := .prod Y3 (.prod Y3 (.prod Y3 .unit))
abbrev Y155 : Ty := .sl Y157
abbrev Y164 : Ty := .ref
abbrev Y180 : Ty := .prod Y3 (.prod Y3 (.prod Y3 .unit))
abbrev Y167 : Ty := .sl Y180
abbrev Y183 : Ty := .ref
abbrev Y197 : Ty := .prod Y180 (.prod Y3 .unit)
abbrev Y193 : Ty := .sl Y197
abbrev Y195 : Ty := .prod Y183 (.prod Y193 (.prod Y3 .unit))
def tyTab : List (Nat × Ty) := [(3, Y3), (4, Y4), (9, Y9), (55, Y55), (22, Y22), (57, Y57), (23, Y23), (59, Y59), (51, Y51), (53, Y53), (24, Y24), (126, Y126), (25, Y25), (131, Y131), (26, Y26), (96, Y96), (27, Y27), (29, Y29), (31, Y31), (33, Y33), (64, Y64), (34, Y34), (36, Y36), (40, Y40), (74, Y74), (41, Y41), (42, Y42), (46, Y46), (47, Y47), (67, Y67), (60, Y60), (77, Y77), (78, Y78), (86, Y86), (87, Y87), (93, Y93), (91, Y91), (102, Y102), (108, Y108), (114, Y114), (117, Y117), (121, Y121), (118, Y118), (122, Y122), (123, Y123), (124, Y124), (129, Y129), (146, Y146), (144, Y144), (147, Y147), (154, Y154), (157, Y157), (155, Y155), (164, Y164), (180, Y180), (167, Y167), (183, Y183), (197, Y197), (193, Y193), (195, Y195)]
def mapTab : List (Nat × Ty × Ty) := [(114, Y9, Y4), (118, Y121, Y4), (122, Y3, Y3), (123, Y3, Y4), (124, Y46, Y4), (129, Y131, Y4), (144, Y146, Y4), (154, Y146, Y3), (164, Y3, Y155)]
def pkTab : List (Nat × Nat) := [(181, 1), (183, 2)]
theorem hmix : Tryz.prog.follows .mixedOrders = true := by kernel_rfl
theorem tab_ok : tabOk Tryz.prog tyTab mapTab pkTab = true := by kernel_rfl
noncomputable def F_law38_light : (El Y31) → (El Y36) → Option (El Y4) := fun a0 a1 =>
 Option.bind
 (bif decide ((20 : Int) < (↑(List.length a0.1) : Int)) then some true
 else
 bif decide ((20 : Int) < (↑(List.length a0.2.1) : Int)) then some true
 else
 bif decide ((20 : Int) < (↑(List.length a0.2.2.1) : Int)) then some true
 else
 bif decide ((40 : Int) < (↑(List.length a0.2.2.2.1) : Int)) then some true
 else
 bif decide ((200 : Int) < (↑(List.length a0.2.2.2.2.1) : Int)) then some true
 else
 bif decide ((16 : Int) < (↑(List.length a0.2.2.2.2.2.1.1) : Int)) then some true
 else some (decide ((20 : Int) < (↑(List.length a1.1) : Int))))
 fun x0 =>
 bif x0 then some false
 else
 Option.bind
 (Tr.run
 (fun s1 =>
 bif decide (s1 < (↑(List.length a0.2.2.1) : Int)) then
 Option.bind (idx a0.2.2.1 s1) fun x2 =>
 bif decide ((40 : Int) < (↑(List.length x2.2.2.2.2.2.2.2.1) : Int)) then some (.inr (.inr false))
 else some (.inl (IntKind.wrap .i64 (s1 + (1 : Int))))
 else some (.inr (.inl ())))
 (0 : Int))
 fun x3 => Sum.elim (fun _ => some true) (fun y5 => some y5) x3
abbrev F_law38_lightA : Pats := (.cons (.pd Y31) (.cons (.pd Y36) .nil))
abbrev F_law38_lightR : Pats := (.cons (.pd Y4) .nil)
noncomputable def F_law38_lightS : Tr.Spec := { args := F_law38_lightA, res := F_law38_lightR, fns := [], α := El Y4, f := fun x => F_law38_light x.1 x.2.1, unp := fun z => (((), (), ()), (z, ())) }
noncomputable def F_law38_lightM : List (Nat × List Tr.Spec) := []
def F_law38_lightH : Hint := (.seq .leaf (.seq (.seq (.reg [(46, Y4)]) .leaf) (.seq (.seq .leaf (.lp ⟨[(50, (.pd Y3))], [], [2, 49], []⟩ [((.exit 0), ⟨[], [], [], []⟩), (.ret, ⟨[(4, (.pd Y4))], [], [], []⟩)] .leaf)) .leaf)))
noncomputable def F_law38_lightV (a0 : El Y31) (a1 : El Y36) : Option (El Y4) := evalF (mkE tyTab mapTab pkTab [] [] F_law38_lightM 62) (codeOf Tryz.f4) Tryz.f4.results F_law38_lightH F_law38_lightA F_law38_lightR (fun y => y.2.1) (a0, a1, ())
theorem F_law38_light_eq (a0 : El Y31) (a1 : El Y36) : F_law38_lightV a0 a1 = F_law38_light a0 a1 := by kernel_rfl
theorem F_law38_light_ok : FnOK Tryz.prog 4 F_law38_lightS := fnOK_of (m := F_law38_lightM) (fn := Tryz.f4) (hint := F_law38_lightH) (pack := fun y => y.2.1) hmix tab_ok trivial fun x z h => (F_law38_light_eq x.1 x.2.1).trans h
noncomputable def F_ident_Valid : (El Y9) → Option (El Y4) := fun a0 =>
 Option.bind
 (Tr.run
 (fun s0 =>
 bif decide (s0 < (↑(List.length a0) : Int)) then
 Option.bind (idx a0 s0) fun x1 =>
 Option.bind (bif decide ((97 : Int) ≤ (↑(UInt8.toNat x1) : Int)) then some (decide ((↑(UInt8.toNat x1) : Int) ≤ (122 : Int))) else some false)
 fun x2 =>
 Option.bind
 (bif x2 then some x2
 else
 Option.bind (bif decide ((65 : Int) ≤ (↑(UInt8.toNat x1) : Int)) then some (decide ((↑(UInt8.toNat x1) : Int) ≤ (90 : Int))) else some false)
 fun x3 =>
 Option.bind
 (bif x3 then some x3
 else
 Option.bind
 (bif decide ((48 : Int) ≤ (↑(UInt8.toNat x1) : Int)) then some (decide ((↑(UInt8.toNat x1) : Int) ≤ (57 : Int))) else some false)
 fun x4 => some x4)
 fun x5 => some x5)
 fun x6 =>
 bif x6 then some (.inl (IntKind.wrap .i64 (s0 + (1 : Int))))
 else
 Option.bind
 (bif decide ((↑(UInt8.toNat x1) : Int) = (45 : Int)) then some (decide ((↑(UInt8.toNat x1) : Int) = (45 : Int)))
 else
 Option.bind
 (bif decide ((↑(UInt8.toNat x1) : Int) = (95 : Int)) then some (decide ((↑(UInt8.toNat x1) : Int) = (95 : Int)))
 else some (decide ((↑(UInt8.toNat x1) : Int) = (46 : Int))))
 fun x7 => some x7)
 fun x8 => bif x8 then some (.inl (IntKind.wrap .i64 (s0 + (1 : Int)))) else some (.inr (.inr false))
 else some (.inr (.inl ())))
 (0 : Int))
 fun x9 =>
 Sum.elim
 (fun _ =>
 Option.bind (bif decide ((0 : Int) < (↑(List.length a0) : Int)) then some (decide ((↑(List.length a0) : Int) ≤ (32 : Int))) else some false) fun x11 =>
 some x11)
 (fun y12 => some y12) x9
abbrev F_ident_ValidA : Pats := (.cons (.pd Y9) .nil)
abbrev F_ident_ValidR : Pats := (.cons (.pd Y4) .nil)
noncomputable def F_ident_ValidS : Tr.Spec := { args := F_ident_ValidA, res := F_ident_ValidR, fns := [], α := El Y4, f := fun x => F_ident_Valid x.1, unp := fun z => (((), ()), (z, ())) }
noncomputable def F_ident_ValidM : List (Nat × List Tr.Spec) := []
def F_ident_ValidH : Hint := (.seq .leaf (.seq (.seq .leaf (.lp ⟨[(3, (.pd Y3))], [], [0], []⟩ [((.exit 0), ⟨[], [], [0], []⟩), (.ret, ⟨[(2, (.pd Y4))], [], [], []⟩)] (.seq .leaf (.seq (.seq .leaf (.seq (.seq (.reg [(14, Y4)]) (.cnd (some (⟨[], [], [0, 3, 4], []⟩, [(.normal, ⟨[(14, (.pd Y4))], [], [0, 3, 4], []⟩)])) .leaf (.seq (.reg [(14, Y4)]) (.cnd (some (⟨[], [], [0, 3, 4], []⟩, [(.normal, ⟨[(14, (.pd Y4))], [], [0, 3, 4], []⟩)])) .leaf (.reg [(14, Y4)]))))) (.cnd none .leaf (.seq (.seq .leaf (.cnd (some (⟨[], [], [0, 3], []⟩, [(.normal, ⟨[(33, (.pd Y4))], [], [0, 3], []⟩)])) .leaf (.seq .leaf (.cnd (some (⟨[], [], [0, 3], []⟩, [(.normal, ⟨[(33, (.pd Y4))], [], [0, 3], []⟩)])) .leaf .leaf)))) .leaf)))) .leaf)))) (.seq (.reg [(2, Y4)]) .leaf)))
noncomputable def F_ident_ValidV (a0 : El Y9) : Option (El Y4) := evalF (mkE tyTab mapTab pkTab [] [] F_ident_ValidM 48) (codeOf Tryz.f48) Tryz.f48.results F_ident_ValidH F_ident_ValidA F_ident_ValidR (fun y => y.2.1) (a0, ())
theorem F_ident_Valid_eq (a0 : El Y9) : F_ident_ValidV a0 = F_ident_Valid a0 := by kernel_rfl
theorem F_ident_Valid_ok : FnOK Tryz.prog 48 F_ident_ValidS := fnOK_of (m := F_ident_ValidM) (fn := Tryz.f48) (hint := F_ident_ValidH) (pack := fun y => y.2.1) hmix tab_ok trivial fun x z h => (F_ident_Valid_eq x.1).trans h
noncomputable def F_stop_Check : (El Y22) → Option (El Y3 × El Y42) := fun a0 =>
 bif decide ((64 : Int) < (↑(List.length a0) : Int)) then some ((0 : Int), (5 : Int))
 else
 Option.bind
 (Tr.run
 (fun s0 =>
 bif decide (s0.2 < (↑(List.length a0) : Int)) then
 Option.bind (idx a0 s0.2) fun x1 =>
 Option.bind (F_ident_Valid x1.1) fun x2 =>
 bif !x2 then some (.inr (.inr (s0.2, (12 : Int))))
 else
 bif Option.getD (Tr.amGet (Tr.keyEq Y9) x1.1 s0.1) (false) then some (.inr (.inr (s0.2, (6 : Int))))
 else
 Option.bind
 (bif decide (x1.2.1 < (0 : Int)) then some true
 else
 bif decide ((16 : Int) ≤ x1.2.1) then some true
 else bif decide (x1.2.2.2.1 < (0 : Int)) then some true else some (decide ((3600 : Int) < x1.2.2.2.1)))
 fun x3 =>
 bif x3 then some (.inr (.inr (s0.2, (2 : Int))))
 else some (.inl (Tr.amSet (Tr.keyEq Y9) x1.1 true s0.1, IntKind.wrap .i64 (s0.2 + (1 : Int))))
 else some (.inr (.inl ())))
 ([], (0 : Int)))
 fun x4 => Sum.elim (fun _ => some ((0 : Int), (0 : Int))) (fun y6 => some (y6.1, y6.2)) x4
abbrev F_stop_CheckA : Pats := (.cons (.pd Y22) .nil)
abbrev F_stop_CheckR : Pats := (.cons (.pd Y3) (.cons (.pd Y42) .nil))
noncomputable def F_stop_CheckS : Tr.Spec := { args := F_stop_CheckA, res := F_stop_CheckR, fns := [], α := El Y3 × El Y42, f := fun x => F_stop_Check x.1, unp := fun z => (((), ()), (z.1, z.2, ())) }
noncomputable def F_stop_CheckM : List (Nat × List Tr.Spec) := [(48, [F_ident_ValidS])]
def F_stop_CheckH : Hint := (.seq .leaf (.seq .leaf (.seq .leaf (.seq (.seq .leaf (.lp ⟨[(4, (.map Y9 Y4)), (13, (.pd Y3))], [], [11, 12], []⟩ [((.exit 0), ⟨[], [], [], []⟩), (.ret, ⟨[(2, (.pd Y3)), (3, (.pd Y42))], [], [], []⟩)] (.seq .leaf (.seq .leaf (.seq (.seq .leaf (.seq (.seq .leaf (.cnd none .leaf (.seq .leaf (.cnd none .leaf (.seq (.reg [(30, Y4)]) .leaf))))) .leaf)) .leaf))))) .leaf))))
noncomputable def F_stop_CheckV (a0 : El Y22) : Option (El Y3 × El Y42) := evalF (mkE tyTab mapTab pkTab [] [] F_stop_CheckM 54) (codeOf Tryz.f31) Tryz.f31.results F_stop_CheckH F_stop_CheckA F_stop_CheckR (fun y => (y.2.1, y.2.2.1)) (a0, ())
theorem F_stop_Check_eq (a0 : El Y22) : F_stop_CheckV a0 = F_stop_Check a0 := by kernel_rfl
theorem F_stop_Check_ok : FnOK Tryz.prog 31 F_stop_CheckS := fnOK_of (m := F_stop_CheckM) (fn := Tryz.f31) (hint := F_stop_CheckH) (pack := fun y => (y.2.1, y.2.2.1)) hmix tab_ok ⟨⟨F_ident_Valid_ok, trivial⟩, trivial⟩ fun x z h => (F_stop_Check_eq x.1).trans h
noncomputable def F_route_known : (El Y3) → Option (El Y4) := fun a0 => Option.bind (bif decide ((0 : Int) ≤ a0) then some (decide (a0 < (8 : Int))) else some false) fun x0 => some x0
abbrev F_route_knownA : Pats := (.cons (.pd Y3) .nil)
abbrev F_route_knownR : Pats := (.cons (.pd Y4) .nil)
noncomputable def F_route_knownS : Tr.Spec := { args := F_route_knownA, res := F_route_knownR, fns := [], α := El Y4, f := fun x => F_route_known x.1, unp := fun z => (((), ()), (z, ())) }
noncomputable def F_route_knownM : List (Nat × List Tr.Spec) := []
def F_route_knownH : Hint := (.seq .leaf (.seq (.reg [(2, Y4)]) .leaf))
noncomputable def F_route_knownV (a0 : El Y3) : Option (El Y4) := evalF (mkE tyTab mapTab pkTab [] [] F_route_knownM 9) (codeOf Tryz.f49) Tryz.f49.results F_route_knownH F_route_knownA F_route_knownR (fun y => y.2.1) (a0, ())
theorem F_route_known_eq (a0 : El Y3) : F_route_knownV a0 = F_route_known a0 := by kernel_rfl
theorem F_route_known_ok : FnOK Tryz.prog 49 F_route_knownS := fnOK_of (m := F_route_knownM) (fn := Tryz.f49) (hint := F_route_knownH) (pack := fun y => y.2.1) hmix tab_ok trivial fun x z h => (F_route_known_eq x.1).trans h
noncomputable def F_route_Check : (El Y23) → Option (El Y3 × El Y42) := fun a0 =>
 bif decide ((64 : Int) < (↑(List.length a0) : Int)) then some ((0 : Int), (5 : Int))
 else
 Option.bind
 (Tr.run
 (fun s0 =>
 bif decide (s0.2 < (↑(List.length a0) : Int)) then
 Option.bind (idx a0 s0.2) fun x1 =>
 Option.bind (F_ident_Valid x1.1) fun x2 =>
 bif !x2 then some (.inr (.inr (s0.2, (12 : Int))))
 else
 bif Option.getD (Tr.amGet (Tr.keyEq Y9) x1.1 s0.1) (false) then some (.inr (.inr (s0.2, (6 : Int))))
 else
 Option.bind (F_route_known x1.2.1) fun x3 =>
 bif !x3 then some (.inr (.inr (s0.2, (2 : Int))))
 else some (.inl (Tr.amSet (Tr.keyEq Y9) x1.1 true s0.1, IntKind.wrap .i64 (s0.2 + (1 : Int))))
 else some (.inr (.inl ())))
 ([], (0 : Int)))
 fun x4 => Sum.elim (fun _ => some ((0 : Int), (0 : Int))) (fun y6 => some (y6.1, y6.2)) x4
abbrev F_route_CheckA : Pats := (.cons (.pd Y23) .nil)
abbrev F_route_CheckR : Pats := (.cons (.pd Y3) (.cons (.pd Y42) .nil))
noncomputable def F_route_CheckS : Tr.Spec := { args := F_route_CheckA, res := F_route_CheckR, fns := [], α := El Y3 × El Y42, f := fun x => F_route_Check x.1, unp := fun z => (((), ()), (z.1, z.2, ())) }
noncomputable def F_route_CheckM : List (Nat × List Tr.Spec) := [(48, [F_ident_ValidS]), (49, [F_route_knownS])]
def F_route_CheckH : Hint := (.seq .leaf (.seq .leaf (.seq .leaf (.seq (.seq .leaf (.lp ⟨[(4, (.map Y9 Y4)), (13, (.pd Y3))], [], [11, 12], []⟩ [((.exit 0), ⟨[], [], [], []⟩), (.ret, ⟨[(2, (.pd Y3)), (3, (.pd Y42))], [], [], []⟩)] .leaf)) .leaf))))
noncomputable def F_route_CheckV (a0 : El Y23) : Option (El Y3 × El Y42) := evalF (mkE tyTab mapTab pkTab [] [] F_route_CheckM 37) (codeOf Tryz.f32) Tryz.f32.results F_route_CheckH F_route_CheckA F_route_CheckR (fun y => (y.2.1, y.2.2.1)) (a0, ())
theorem F_route_Check_eq (a0 : El Y23) : F_route_CheckV a0 = F_route_Check a0 := by kernel_rfl
theorem F_route_Check_ok : FnOK Tryz.prog 32 F_route_CheckS := fnOK_of (m := F_route_CheckM) (fn := Tryz.f32) (hint := F_route_CheckH) (pack := fun y => (y.2.1, y.2.2.1)) hmix tab_ok ⟨⟨F_ident_Valid_ok, trivial⟩, ⟨F_route_known_ok, trivial⟩, trivial⟩ fun x z h => (F_route_Check_eq x.1).trans h
noncomputable def F_network_first : (El Y117) → Option (El Y102) := fun a0 =>
 Option.bind
 (Tr.run
 (fun s0 =>
 bif decide (s0.2 < (↑(List.length a0) : Int)) then
 Option.bind (idx a0 s0.2) fun x1 =>
 bif !decide (x1.2.2.1 = (0 : Int)) then some (.inr (.inr x1)) else some (.inl (s0.1, IntKind.wrap .i64 (s0.2 + (1 : Int))))
 else some (.inr (.inl s0.1)))
 (((0 : Int), (0 : Int), (0 : Int), ()), (0 : Int)))
 fun x2 => Sum.elim (fun _ => some ((0 : Int), (0 : Int), (0 : Int), ())) (fun y4 => some y4) x2
abbrev F_network_firstA : Pats := (.cons (.pd Y117) .nil)
abbrev F_network_firstR : Pats := (.cons (.pd Y102) .nil)
noncomputable def F_network_firstS : Tr.Spec := { args := F_network_firstA, res := F_network_firstR, fns := [], α := El Y102, f := fun x => F_network_first x.1, unp := fun z => (((), ()), (z, ())) }
noncomputable def F_network_firstM : List (Nat × List Tr.Spec) := []
def F_network_firstH : Hint := (.seq .leaf (.seq (.seq .leaf (.lp ⟨[(2, (.var Y102 (.pd Y102))), (7, (.pd Y3))], [], [5, 6], []⟩ [((.exit 0), ⟨[(2, (.var Y102 (.pd Y102)))], [], [], []⟩), (.ret, ⟨[(2, (.var Y102 (.pd Y102)))], [], [], []⟩)] .leaf)) .leaf))
noncomputable def F_network_firstV (a0 : El Y117) : Option (El Y102) := evalF (mkE tyTab mapTab pkTab [] [] F_network_firstM 17) (codeOf Tryz.f33) Tryz.f33.results F_network_firstH F_network_firstA F_network_firstR (fun y => y.2.1) (a0, ())
theorem F_network_first_eq (a0 : El Y117) : F_network_firstV a0 = F_network_first a0 := by kernel_rfl
theorem F_network_first_ok : FnOK Tryz.prog 33 F_network_firstS := fnOK_of (m := F_network_firstM) (fn := Tryz.f33) (hint := F_network_firstH) (pack := fun y => y.2.1) hmix tab_ok trivial fun x z h => (F_network_first_eq x.1).trans h
noncomputable def F_network_of : (El Y3) → (El Y3) → (El Y42) → Option (El Y102) := fun a0 a1 a2 => some (a0, a1, a2, ())
abbrev F_network_ofA : Pats := (.cons (.pd Y3) (.cons (.pd Y3) (.cons (.pd Y42) .nil)))
abbrev F_network_ofR : Pats := (.cons (.pd Y102) .nil)
noncomputable def F_network_ofS : Tr.Spec := { args := F_network_ofA, res := F_network_ofR, fns := [], α := El Y102, f := fun x => F_network_of x.1 x.2.1 x.2.2.1, unp := fun z => (((), (), (), ()), (z, ())) }
noncomputable def F_network_ofM : List (Nat × List Tr.Spec) := []
def F_network_ofH : Hint := .leaf
noncomputable def F_network_ofV (a0 : El Y3) (a1 : El Y3) (a2 : El Y42) : Option (El Y102) := evalF (mkE tyTab mapTab pkTab [] [] F_network_ofM 11) (codeOf Tryz.f34) Tryz.f34.results F_network_ofH F_network_ofA F_network_ofR (fun y => y.2.1) (a0, a1, a2, ())
theorem F_network_of_eq (a0 : El Y3) (a1 : El Y3) (a2 : El Y42) : F_network_ofV a0 a1 a2 = F_network_of a0 a1 a2 := by kernel_rfl
theorem F_network_of_ok : FnOK Tryz.prog 34 F_network_ofS := fnOK_of (m := F_network_ofM) (fn := Tryz.f34) (hint := F_network_ofH) (pack := fun y => y.2.1) hmix tab_ok trivial fun x z h => (F_network_of_eq x.1 x.2.1 x.2.2.1).trans h
noncomputable def F_call_one : (El Y51) → (El Y3) → (El Y3) → (El Y3) → (El Y3) → Option (El Y42) := fun a0 a1 a2 a3 a4 =>
 Option.bind (idx a0 a1) fun x0 =>
 Option.bind (bif decide (x0.1 < (0 : Int)) then some true else some (decide (a2 ≤ x0.1))) fun x1 =>
 bif x1 then some (9 : Int)
 else
 Option.bind
 (bif decide ((0 : Int) < a1) then Option.bind (idx a0 (IntKind.wrap .i64 (a1 - (1 : Int)))) fun x2 => some (decide (x2.1 = x0.1))
 else some false)
 fun x3 =>
 bif x3 then some (13 : Int)
 else
 Option.bind
 (bif decide (x0.2.1 < a3) then some true
 else
 bif decide (x0.2.2.1 < x0.2.1) then some true
 else
 bif decide (a4 < x0.2.2.1) then some true
 else
 bif decide ((0 : Int) < a1) then
 Option.bind (idx a0 (IntKind.wrap .i64 (a1 - (1 : Int)))) fun x4 => some (decide (x0.2.1 < x4.2.2.1))
 else some false)
 fun x5 => bif x5 then some (10 : Int) else some (0 : Int)
abbrev F_call_oneA : Pats := (.cons (.pd Y51) (.cons (.pd Y3) (.cons (.pd Y3) (.cons (.pd Y3) (.cons (.pd Y3) .nil)))))
abbrev F_call_oneR : Pats := (.cons (.pd Y42) .nil)
noncomputable def F_call_oneS : Tr.Spec := { args := F_call_oneA, res := F_call_oneR, fns := [], α := El Y42, f := fun x => F_call_one x.1 x.2.1 x.2.2.1 x.2.2.2.1 x.2.2.2.2.1, unp := fun z => (((), (), (), (), (), ()), (z, ())) }
noncomputable def F_call_oneM : List (Nat × List Tr.Spec) := []
def F_call_oneH : Hint := (.seq .leaf (.seq .leaf (.seq (.seq (.reg [(24, Y4)]) .leaf) (.seq (.seq (.reg [(37, Y4)]) .leaf) (.seq (.seq (.reg [(69, Y4)]) .leaf) .leaf)))))
noncomputable def F_call_oneV (a0 : El Y51) (a1 : El Y3) (a2 : El Y3) (a3 : El Y3) (a4 : El Y3) : Option (El Y42) := evalF (mkE tyTab mapTab pkTab [] [] F_call_oneM 70) (codeOf Tryz.f67) Tryz.f67.results F_call_oneH F_call_oneA F_call_oneR (fun y => y.2.1) (a0, a1, a2, a3, a4, ())
theorem F_call_one_eq (a0 : El Y51) (a1 : El Y3) (a2 : El Y3) (a3 : El Y3) (a4 : El Y3) : F_call_oneV a0 a1 a2 a3 a4 = F_call_one a0 a1 a2 a3 a4 := by kernel_rfl
theorem F_call_one_ok : FnOK Tryz.prog 67 F_call_oneS := fnOK_of (m := F_call_oneM) (fn := Tryz.f67) (hint := F_call_oneH) (pack := fun y => y.2.1) hmix tab_ok trivial fun x z h => (F_call_one_eq x.1 x.2.1 x.2.2.1 x.2.2.2.1 x.2.2.2.2.1).trans h
noncomputable def F_call_Check : (El Y51) → (El Y3) → (El Y3) → (El Y3) → Option (El Y3 × El Y42) := fun a0 a1 a2 a3 =>
 Option.bind (bif decide ((↑(List.length a0) : Int) < (2 : Int)) then some true else some (decide ((32 : Int) < (↑(List.length a0) : Int)))) fun x0 =>
 bif x0 then some ((0 : Int), (5 : Int))
 else
 Option.bind
 (Tr.run
 (fun s1 =>
 bif decide (s1 < (↑(List.length a0) : Int)) then
 Option.bind (F_call_one a0 s1 a1 a2 a3) fun x2 =>
 bif !decide (x2 = (0 : Int)) then some (.inr (.inr (s1, x2))) else some (.inl (IntKind.wrap .i64 (s1 + (1 : Int))))
 else some (.inr (.inl ())))
 (0 : Int))
 fun x3 => Sum.elim (fun _ => some ((0 : Int), (0 : Int))) (fun y5 => some (y5.1, y5.2)) x3
abbrev F_call_CheckA : Pats := (.cons (.pd Y51) (.cons (.pd Y3) (.cons (.pd Y3) (.cons (.pd Y3) .nil))))
abbrev F_call_CheckR : Pats := (.cons (.pd Y3) (.cons (.pd Y42) .nil))
noncomputable def F_call_CheckS : Tr.Spec := { args := F_call_CheckA, res := F_call_CheckR, fns := [], α := El Y3 × El Y42, f := fun x => F_call_Check x.1 x.2.1 x.2.2.1 x.2.2.2.1, unp := fun z => (((), (), (), (), ()), (z.1, z.2, ())) }
noncomputable def F_call_CheckM : List (Nat × List Tr.Spec) := [(67, [F_call_oneS])]
def F_call_CheckH : Hint := (.seq .leaf (.seq (.seq (.reg [(19, Y4)]) .leaf) (.seq (.seq .leaf (.lp ⟨[(22, (.pd Y3))], [], [0, 1, 2, 3, 21], []⟩ [((.exit 0), ⟨[], [], [], []⟩), (.ret, ⟨[(8, (.pd Y3)), (9, (.pd Y42))], [], [], []⟩)] .leaf)) .leaf)))
noncomputable def F_call_CheckV (a0 : El Y51) (a1 : El Y3) (a2 : El Y3) (a3 : El Y3) : Option (El Y3 × El Y42) := evalF (mkE tyTab mapTab pkTab [] [] F_call_CheckM 36) (codeOf Tryz.f50) Tryz.f50.results F_call_CheckH F_call_CheckA F_call_CheckR (fun y => (y.2.1, y.2.2.1)) (a0, a1, a2, a3, ())
theorem F_call_Check_eq (a0 : El Y51) (a1 : El Y3) (a2 : El Y3) (a3 : El Y3) : F_call_CheckV a0 a1 a2 a3 = F_call_Check a0 a1 a2 a3 := by kernel_rfl
theorem F_call_Check_ok : FnOK Tryz.prog 50 F_call_CheckS := fnOK_of (m := F_call_CheckM) (fn := Tryz.f50) (hint := F_call_CheckH) (pack := fun y => (y.2.1, y.2.2.1)) hmix tab_ok ⟨⟨F_call_one_ok, trivial⟩, trivial⟩ fun x z h => (F_call_Check_eq x.1 x.2.1 x.2.2.1 x.2.2.2.1).trans h
noncomputable def F_network_checkRuns : (El Y31) → Option (El Y102) := fun a0 =>
 bif decide ((1024 : Int) < (↑(List.length a0.2.2.1) : Int)) then Option.bind (F_network_of (2 : Int) (0 : Int) (5 : Int)) fun x0 => some x0
 else
 Option.bind
 (Tr.run
 (fun s1 =>
 bif decide (s1.2.2 < (↑(List.length a0.2.2.1) : Int)) then
 Option.bind (idx a0.2.2.1 s1.2.2) fun x2 =>
 Option.bind (F_ident_Valid x2.2.2.2.1) fun x3 =>
 bif !x3 then Option.bind (F_network_of (2 : Int) s1.2.2 (12 : Int)) fun x4 => some (.inr (.inr x4))
 else
 Option.bind (bif decide (x2.1 < (-1 : Int)) then some true else some (decide (x2.2.2.1 < (0 : Int)))) fun x5 =>
 bif x5 then Option.bind (F_network_of (2 : Int) s1.2.2 (2 : Int)) fun x6 => some (.inr (.inr x6))
 else
 Option.bind (bif decide (x2.2.1 < (0 : Int)) then some true else some (decide ((36524 : Int) < x2.2.1))) fun x7 =>
 bif x7 then Option.bind (F_network_of (2 : Int) s1.2.2 (11 : Int)) fun x8 => some (.inr (.inr x8))
 else
 Option.bind
 (bif decide (x2.2.2.2.2.1 < (0 : Int)) then some true
 else some (decide ((↑(List.length a0.2.1) : Int) ≤ x2.2.2.2.2.1)))
 fun x9 =>
 bif x9 then Option.bind (F_network_of (2 : Int) s1.2.2 (9 : Int)) fun x10 => some (.inr (.inr x10))
 else
 Option.bind (F_call_Check x2.2.2.2.2.2.2.2.1 (↑(List.length a0.1) : Int) (0 : Int) (3155932800 : Int)) fun x11 =>
 bif !decide (x11.2 = (0 : Int)) then Option.bind (F_network_of (2 : Int) s1.2.2 x11.2) fun x12 => some (.inr (.inr x12))
 else
 bif Option.getD (Tr.amGet (Tr.keyEq Y121) (x2.2.2.2.1, x2.2.1, x2.2.2.1, ()) s1.2.1) (false) then
 Option.bind (F_network_of (2 : Int) s1.2.2 (6 : Int)) fun x13 => some (.inr (.inr x13))
 else
 some
 (.inl
 (s1.1, Tr.amSet (Tr.keyEq Y121) (x2.2.2.2.1, x2.2.1, x2.2.2.1, ()) true s1.2.1,
 IntKind.wrap .i64 (s1.2.2 + (1 : Int))))
 else some (.inr (.inl s1.1)))
 (((0 : Int), (0 : Int), (0 : Int), ()), [], (0 : Int)))
 fun x14 => Sum.elim (fun _ => some ((0 : Int), (0 : Int), (0 : Int), ())) (fun y16 => some y16) x14
abbrev F_network_checkRunsA : Pats := (.cons (.pd Y31) .nil)
abbrev F_network_checkRunsR : Pats := (.cons (.pd Y102) .nil)
noncomputable def F_network_checkRunsS : Tr.Spec := { args := F_network_checkRunsA, res := F_network_checkRunsR, fns := [], α := El Y102, f := fun x => F_network_checkRuns x.1, unp := fun z => (((), ()), (z, ())) }
noncomputable def F_network_checkRunsM : List (Nat × List Tr.Spec) := [(34, [F_network_ofS]), (48, [F_ident_ValidS]), (50, [F_call_CheckS])]
def F_network_checkRunsH : Hint := (.seq .leaf (.seq .leaf (.seq .leaf (.seq (.seq .leaf (.lp ⟨[(2, (.var Y102 (.pd Y102))), (3, (.map Y121 Y4)), (18, (.pd Y3))], [], [1, 16, 17], []⟩ [((.exit 0), ⟨[(2, (.var Y102 (.pd Y102)))], [], [], []⟩), (.ret, ⟨[(2, (.var Y102 (.pd Y102)))], [], [], []⟩)] (.seq .leaf (.seq .leaf (.seq (.seq .leaf (.seq (.seq .leaf (.cnd none .leaf (.seq (.reg [(30, Y4)]) (.cnd none .leaf (.seq (.reg [(41, Y4)]) (.cnd none .leaf (.seq (.reg [(52, Y4)]) .leaf))))))) .leaf)) .leaf))))) .leaf))))
noncomputable def F_network_checkRunsV (a0 : El Y31) : Option (El Y102) := evalF (mkE tyTab mapTab pkTab [] [] F_network_checkRunsM 96) (codeOf Tryz.f35) Tryz.f35.results F_network_checkRunsH F_network_checkRunsA F_network_checkRunsR (fun y => y.2.1) (a0, ())
theorem F_network_checkRuns_eq (a0 : El Y31) : F_network_checkRunsV a0 = F_network_checkRuns a0 := by kernel_rfl
theorem F_network_checkRuns_ok : FnOK Tryz.prog 35 F_network_checkRunsS := fnOK_of (m := F_network_checkRunsM) (fn := Tryz.f35) (hint := F_network_checkRunsH) (pack := fun y => y.2.1) hmix tab_ok ⟨⟨F_network_of_ok, trivial⟩, ⟨F_ident_Valid_ok, trivial⟩, ⟨F_call_Check_ok, trivial⟩, trivial⟩ fun x z h => (F_network_checkRuns_eq x.1).trans h
noncomputable def F_network_within : (El Y3) → (El Y3) → Option (El Y4) := fun a0 a1 => Option.bind (bif decide ((0 : Int) ≤ a0) then some (decide (a0 < a1)) else some false) fun x0 => some x0
abbrev F_network_withinA : Pats := (.cons (.pd Y3) (.cons (.pd Y3) .nil))
abbrev F_network_withinR : Pats := (.cons (.pd Y4) .nil)
noncomputable def F_network_withinS : Tr.Spec := { args := F_network_withinA, res := F_network_withinR, fns := [], α := El Y4, f := fun x => F_network_within x.1 x.2.1, unp := fun z => (((), (), ()), (z, ())) }
noncomputable def F_network_withinM : List (Nat × List Tr.Spec) := []
def F_network_withinH : Hint := (.seq .leaf (.seq (.reg [(4, Y4)]) .leaf))
noncomputable def F_network_withinV (a0 : El Y3) (a1 : El Y3) : Option (El Y4) := evalF (mkE tyTab mapTab pkTab [] [] F_network_withinM 12) (codeOf Tryz.f51) Tryz.f51.results F_network_withinH F_network_withinA F_network_withinR (fun y => y.2.1) (a0, a1, ())
theorem F_network_within_eq (a0 : El Y3) (a1 : El Y3) : F_network_withinV a0 a1 = F_network_within a0 a1 := by kernel_rfl
theorem F_network_within_ok : FnOK Tryz.prog 51 F_network_withinS := fnOK_of (m := F_network_withinM) (fn := Tryz.f51) (hint := F_network_withinH) (pack := fun y => y.2.1) hmix tab_ok trivial fun x z h => (F_network_within_eq x.1 x.2.1).trans h
noncomputable def F_network_leads : (List (El Y3 × El Y3)) → (El Y3) → (El Y3) → Option (List (El Y3 × El Y3) × El Y4) := fun a0 a1 a2 =>
 Option.bind
 (Tr.run
 (fun s0 =>
 bif s0.2 then
 bif decide (s0.1 = a2) then some (.inr (.inr true))
 else some (.inl (Option.getD (Tr.amGet (Tr.keyEq Y3) s0.1 a0) ((0 : Int)), Option.isSome (Tr.amGet (Tr.keyEq Y3) s0.1 a0)))
 else some (.inr (.inl ())))
 (Option.getD (Tr.amGet (Tr.keyEq Y3) a1 a0) ((0 : Int)), Option.isSome (Tr.amGet (Tr.keyEq Y3) a1 a0)))
 fun x1 => Sum.elim (fun _ => some (a0, false)) (fun y3 => some (a0, y3)) x1
abbrev F_network_leadsA : Pats := (.cons (.map Y3 Y3) (.cons (.pd Y3) (.cons (.pd Y3) .nil)))
abbrev F_network_leadsR : Pats := (.cons (.pd Y4) .nil)
noncomputable def F_network_leadsS : Tr.Spec := { args := F_network_leadsA, res := F_network_leadsR, fns := [], α := List (El Y3 × El Y3) × El Y4, f := fun x => F_network_leads x.1 x.2.1 x.2.2.1, unp := fun z => ((z.1, (), (), ()), (z.2, ())) }
noncomputable def F_network_leadsM : List (Nat × List Tr.Spec) := []
def F_network_leadsH : Hint := (.seq .leaf (.seq (.seq .leaf (.lp ⟨[(7, (.pd Y3)), (8, (.pd Y4))], [], [0, 2], []⟩ [((.exit 0), ⟨[], [], [0], []⟩), (.ret, ⟨[(6, (.pd Y4))], [], [0], []⟩)] .leaf)) .leaf))
noncomputable def F_network_leadsV (a0 : List (El Y3 × El Y3)) (a1 : El Y3) (a2 : El Y3) : Option (List (El Y3 × El Y3) × El Y4) := evalF (mkE tyTab mapTab pkTab [] [] F_network_leadsM 25) (codeOf Tryz.f52) Tryz.f52.results F_network_leadsH F_network_leadsA F_network_leadsR (fun y => (y.1.1, y.2.1)) (a0, a1, a2, ())
theorem F_network_leads_eq (a0 : List (El Y3 × El Y3)) (a1 : El Y3) (a2 : El Y3) : F_network_leadsV a0 a1 a2 = F_network_leads a0 a1 a2 := by kernel_rfl
theorem F_network_leads_ok : FnOK Tryz.prog 52 F_network_leadsS := fnOK_of (m := F_network_leadsM) (fn := Tryz.f52) (hint := F_network_leadsH) (pack := fun y => (y.1.1, y.2.1)) hmix tab_ok trivial fun x z h => (F_network_leads_eq x.1 x.2.1 x.2.2.1).trans h
noncomputable def F_network_checkLinks : (El Y31) → Option (El Y102) := fun a0 =>
 bif decide ((1024 : Int) < (↑(List.length a0.2.2.2.1) : Int)) then Option.bind (F_network_of (3 : Int) (0 : Int) (5 : Int)) fun x0 => some x0
 else
 Option.bind
 (Tr.run
 (fun s1 =>
 bif decide (s1.2.2.2.2 < (↑(List.length a0.2.2.2.1) : Int)) then
 Option.bind (idx a0.2.2.2.1 s1.2.2.2.2) fun x2 =>
 Option.bind
 (Option.bind (F_network_within x2.1 (↑(List.length a0.2.2.1) : Int)) fun x3 =>
 bif !x3 then some true
 else
 Option.bind (F_network_within x2.2.2.1 (↑(List.length a0.2.2.1) : Int)) fun x4 =>
 bif !x4 then some true else some (decide (x2.1 = x2.2.2.1)))
 fun x5 =>
 bif x5 then Option.bind (F_network_of (3 : Int) s1.2.2.2.2 (9 : Int)) fun x6 => some (.inr (.inr x6))
 else
 Option.bind (idx a0.2.2.1 x2.1) fun x7 =>
 Option.bind (idx a0.2.2.1 x2.2.2.1) fun x8 =>
 Option.bind
 (Option.bind (F_network_within x2.2.1 (↑(List.length x7.2.2.2.2.2.2.2.1) : Int)) fun x9 =>
 bif !x9 then some true
 else Option.bind (F_network_within x2.2.2.2.1 (↑(List.length x8.2.2.2.2.2.2.2.1) : Int)) fun x10 => some !x10)
 fun x11 =>
 bif x11 then Option.bind (F_network_of (3 : Int) s1.2.2.2.2 (9 : Int)) fun x12 => some (.inr (.inr x12))
 else
 Option.bind (idx x7.2.2.2.2.2.2.2.1 x2.2.1) fun x13 =>
 Option.bind (idx x8.2.2.2.2.2.2.2.1 x2.2.2.2.1) fun x14 =>
 bif !decide (x13.1 = x14.1) then Option.bind (F_network_of (3 : Int) s1.2.2.2.2 (13 : Int)) fun x15 => some (.inr (.inr x15))
 else
 bif x2.2.2.2.2.1 then
 bif !decide (IntKind.wrap .i64 (x2.2.1 + (1 : Int)) = (↑(List.length x7.2.2.2.2.2.2.2.1) : Int)) then
 Option.bind (F_network_of (3 : Int) s1.2.2.2.2 (19 : Int)) fun x16 => some (.inr (.inr x16))
 else
 bif !decide (x2.2.2.2.1 = (0 : Int)) then
 Option.bind (F_network_of (3 : Int) s1.2.2.2.2 (19 : Int)) fun x17 => some (.inr (.inr x17))
 else
 bif Option.isSome (Tr.amGet (Tr.keyEq Y3) x2.1 s1.2.1) then
 Option.bind (F_network_of (3 : Int) s1.2.2.2.2 (19 : Int)) fun x18 => some (.inr (.inr x18))
 else
 bif Option.getD (Tr.amGet (Tr.keyEq Y3) x2.2.2.1 s1.2.2.1) (false) then
 Option.bind (F_network_of (3 : Int) s1.2.2.2.2 (19 : Int)) fun x19 => some (.inr (.inr x19))
 else
 Option.bind (F_network_leads s1.2.1 x2.2.2.1 x2.1) fun x20 =>
 bif x20.2 then Option.bind (F_network_of (3 : Int) s1.2.2.2.2 (19 : Int)) fun x21 => some (.inr (.inr x21))
 else
 bif Option.getD (Tr.amGet (Tr.keyEq Y46) [x2.1, x2.2.1, x2.2.2.1, x2.2.2.2.1] s1.2.2.2.1) (false) then
 Option.bind (F_network_of (3 : Int) s1.2.2.2.2 (6 : Int)) fun x22 => some (.inr (.inr x22))
 else
 bif x2.2.2.2.2.1 then
 some
 (.inl
 (s1.1, Tr.amSet (Tr.keyEq Y3) x2.1 x2.2.2.1 x20.1, Tr.amSet (Tr.keyEq Y3) x2.2.2.1 true s1.2.2.1,
 Tr.amSet (Tr.keyEq Y46) [x2.1, x2.2.1, x2.2.2.1, x2.2.2.2.1] true s1.2.2.2.1,
 IntKind.wrap .i64 (s1.2.2.2.2 + (1 : Int))))
 else
 some
 (.inl
 (s1.1, x20.1, s1.2.2.1, Tr.amSet (Tr.keyEq Y46) [x2.1, x2.2.1, x2.2.2.1, x2.2.2.2.1] true s1.2.2.2.1,
 IntKind.wrap .i64 (s1.2.2.2.2 + (1 : Int))))
 else
 bif Option.getD (Tr.amGet (Tr.keyEq Y46) [x2.1, x2.2.1, x2.2.2.1, x2.2.2.2.1] s1.2.2.2.1) (false) then
 Option.bind (F_network_of (3 : Int) s1.2.2.2.2 (6 : Int)) fun x23 => some (.inr (.inr x23))
 else
 bif x2.2.2.2.2.1 then
 some
 (.inl
 (s1.1, Tr.amSet (Tr.keyEq Y3) x2.1 x2.2.2.1 s1.2.1, Tr.amSet (Tr.keyEq Y3) x2.2.2.1 true s1.2.2.1,
 Tr.amSet (Tr.keyEq Y46) [x2.1, x2.2.1, x2.2.2.1, x2.2.2.2.1] true s1.2.2.2.1,
 IntKind.wrap .i64 (s1.2.2.2.2 + (1 : Int))))
 else
 some
 (.inl
 (s1.1, s1.2.1, s1.2.2.1, Tr.amSet (Tr.keyEq Y46) [x2.1, x2.2.1, x2.2.2.1, x2.2.2.2.1] true s1.2.2.2.1,
 IntKind.wrap .i64 (s1.2.2.2.2 + (1 : Int))))
 else some (.inr (.inl s1.1)))
 (((0 : Int), (0 : Int), (0 : Int), ()), [], [], [], (0 : Int)))
 fun x24 => Sum.elim (fun _ => some ((0 : Int), (0 : Int), (0 : Int), ())) (fun y26 => some y26) x24
abbrev F_network_checkLinksA : Pats := (.cons (.pd Y31) .nil)
abbrev F_network_checkLinksR : Pats := (.cons (.pd Y102) .nil)
noncomputable def F_network_checkLinksS : Tr.Spec := { args := F_network_checkLinksA, res := F_network_checkLinksR, fns := [], α := El Y102, f := fun x => F_network_checkLinks x.1, unp := fun z => (((), ()), (z, ())) }
noncomputable def F_network_checkLinksM : List (Nat × List Tr.Spec) := [(34, [F_network_ofS]), (51, [F_network_withinS]), (52, [F_network_leadsS])]
def F_network_checkLinksH : Hint := (.seq .leaf (.seq .leaf (.seq .leaf (.seq .leaf (.seq (.seq .leaf (.lp ⟨[(2, (.var Y102 (.pd Y102))), (3, (.map Y3 Y3)), (4, (.map Y3 Y4)), (5, (.map Y46 Y4)), (24, (.pd Y3))], [], [1, 22, 23], []⟩ [((.exit 0), ⟨[(2, (.var Y102 (.pd Y102)))], [], [], []⟩), (.ret, ⟨[(2, (.var Y102 (.pd Y102)))], [], [], []⟩)] (.seq .leaf (.seq .leaf (.seq (.seq .leaf (.seq (.seq (.reg [(51, Y4)]) .leaf) (.seq .leaf (.seq (.seq (.reg [(81, Y4)]) .leaf) .leaf)))) .leaf))))) .leaf)))))
noncomputable def F_network_checkLinksV (a0 : El Y31) : Option (El Y102) := evalF (mkE tyTab mapTab pkTab [] [] F_network_checkLinksM 171) (codeOf Tryz.f36) Tryz.f36.results F_network_checkLinksH F_network_checkLinksA F_network_checkLinksR (fun y => y.2.1) (a0, ())
theorem F_network_checkLinks_eq (a0 : El Y31) : F_network_checkLinksV a0 = F_network_checkLinks a0 := by kernel_rfl
theorem F_network_checkLinks_ok : FnOK Tryz.prog 36 F_network_checkLinksS := fnOK_of (m := F_network_checkLinksM) (fn := Tryz.f36) (hint := F_network_checkLinksH) (pack := fun y => y.2.1) hmix tab_ok ⟨⟨F_network_of_ok, trivial⟩, ⟨F_network_within_ok, trivial⟩, ⟨F_network_leads_ok, trivial⟩, trivial⟩ fun x z h => (F_network_checkLinks_eq x.1).trans h
noncomputable def F_product_within : (El Y3) → (El Y3) → (El Y3) → Option (El Y4) := fun a0 a1 a2 => Option.bind (bif decide (a1 ≤ a0) then some (decide (a0 ≤ a2)) else some false) fun x0 => some x0
abbrev F_product_withinA : Pats := (.cons (.pd Y3) (.cons (.pd Y3) (.cons (.pd Y3) .nil)))
abbrev F_product_withinR : Pats := (.cons (.pd Y4) .nil)
noncomputable def F_product_withinS : Tr.Spec := { args := F_product_withinA, res := F_product_withinR, fns := [], α := El Y4, f := fun x => F_product_within x.1 x.2.1 x.2.2.1, unp := fun z => (((), (), (), ()), (z, ())) }
noncomputable def F_product_withinM : List (Nat × List Tr.Spec) := []
def F_product_withinH : Hint := (.seq .leaf (.seq (.reg [(6, Y4)]) .leaf))
noncomputable def F_product_withinV (a0 : El Y3) (a1 : El Y3) (a2 : El Y3) : Option (El Y4) := evalF (mkE tyTab mapTab pkTab [] [] F_product_withinM 15) (codeOf Tryz.f53) Tryz.f53.results F_product_withinH F_product_withinA F_product_withinR (fun y => y.2.1) (a0, a1, a2, ())
theorem F_product_within_eq (a0 : El Y3) (a1 : El Y3) (a2 : El Y3) : F_product_withinV a0 a1 a2 = F_product_within a0 a1 a2 := by kernel_rfl
theorem F_product_within_ok : FnOK Tryz.prog 53 F_product_withinS := fnOK_of (m := F_product_withinM) (fn := Tryz.f53) (hint := F_product_withinH) (pack := fun y => y.2.1) hmix tab_ok trivial fun x z h => (F_product_within_eq x.1 x.2.1 x.2.2.1).trans h
noncomputable def F_product_Check : (El Y29) → Option (El Y3 × El Y42) := fun a0 =>
 Option.bind
 (Option.bind (F_product_within a0.2.1 (0 : Int) (1000000 : Int)) fun x0 =>
 bif !x0 then some true
 else
 Option.bind (F_product_within a0.2.2.1 (0 : Int) (86400 : Int)) fun x1 =>
 bif !x1 then some true else Option.bind (F_product_within a0.2.2.2.1 (0 : Int) (1000000 : Int)) fun x2 => some !x2)
 fun x3 =>
 bif x3 then some ((-1 : Int), (2 : Int))
 else
 bif decide ((16 : Int) < (↑(List.length a0.1) : Int)) then some ((0 : Int), (5 : Int))
 else
 Option.bind
 (Tr.run
 (fun s4 =>
 bif decide (s4.2 < (↑(List.length a0.1) : Int)) then
 Option.bind (idx a0.1 s4.2) fun x5 =>
 Option.bind (F_ident_Valid x5.1) fun x6 =>
 bif !x6 then some (.inr (.inr (s4.2, (12 : Int))))
 else
 bif Option.getD (Tr.amGet (Tr.keyEq Y9) x5.1 s4.1) (false) then some (.inr (.inr (s4.2, (6 : Int))))
 else
 Option.bind
 (Option.bind (F_product_within x5.2.1 (0 : Int) (1000000 : Int)) fun x7 =>
 bif !x7 then some true
 else
 Option.bind (F_product_within x5.2.2.1 (1 : Int) (8 : Int)) fun x8 =>
 bif !x8 then some true
 else
 Option.bind (F_product_within x5.2.2.2.1 (1 : Int) (16 : Int)) fun x9 =>
 bif !x9 then some true
 else
 Option.bind (F_product_within x5.2.2.2.2.1 (0 : Int) (86400 : Int)) fun x10 =>
 bif !x10 then some true else Option.bind (F_product_within x5.2.2.2.2.2.1 (1 : Int) (255 : Int)) fun x11 => some !x11)
 fun x12 =>
 bif x12 then some (.inr (.inr (s4.2, (2 : Int))))
 else some (.inl (Tr.amSet (Tr.keyEq Y9) x5.1 true s4.1, IntKind.wrap .i64 (s4.2 + (1 : Int))))
 else some (.inr (.inl ())))
 ([], (0 : Int)))
 fun x13 => Sum.elim (fun _ => some ((0 : Int), (0 : Int))) (fun y15 => some (y15.1, y15.2)) x13
abbrev F_product_CheckA : Pats := (.cons (.pd Y29) .nil)
abbrev F_product_CheckR : Pats := (.cons (.pd Y3) (.cons (.pd Y42) .nil))
noncomputable def F_product_CheckS : Tr.Spec := { args := F_product_CheckA, res := F_product_CheckR, fns := [], α := El Y3 × El Y42, f := fun x => F_product_Check x.1, unp := fun z => (((), ()), (z.1, z.2, ())) }
noncomputable def F_product_CheckM : List (Nat × List Tr.Spec) := [(48, [F_ident_ValidS]), (53, [F_product_withinS])]
def F_product_CheckH : Hint := (.seq .leaf (.seq (.seq (.reg [(22, Y4)]) .leaf) (.seq .leaf (.seq .leaf (.seq (.seq .leaf (.lp ⟨[(4, (.map Y9 Y4)), (31, (.pd Y3))], [], [29, 30], []⟩ [((.exit 0), ⟨[], [], [], []⟩), (.ret, ⟨[(2, (.pd Y3)), (3, (.pd Y42))], [], [], []⟩)] (.seq .leaf (.seq .leaf (.seq (.seq .leaf (.seq .leaf (.seq .leaf (.seq (.seq (.reg [(73, Y4)]) .leaf) .leaf)))) .leaf))))) .leaf)))))
noncomputable def F_product_CheckV (a0 : El Y29) : Option (El Y3 × El Y42) := evalF (mkE tyTab mapTab pkTab [] [] F_product_CheckM 79) (codeOf Tryz.f37) Tryz.f37.results F_product_CheckH F_product_CheckA F_product_CheckR (fun y => (y.2.1, y.2.2.1)) (a0, ())
theorem F_product_Check_eq (a0 : El Y29) : F_product_CheckV a0 = F_product_Check a0 := by kernel_rfl
theorem F_product_Check_ok : FnOK Tryz.prog 37 F_product_CheckS := fnOK_of (m := F_product_CheckM) (fn := Tryz.f37) (hint := F_product_CheckH) (pack := fun y => (y.2.1, y.2.2.1)) hmix tab_ok ⟨⟨F_ident_Valid_ok, trivial⟩, ⟨F_product_within_ok, trivial⟩, trivial⟩ fun x z h => (F_product_Check_eq x.1).trans h
noncomputable def F_footpath_sound : (El Y26) → (El Y3) → Option (El Y3 × El Y42) := fun a0 a1 =>
 Option.bind
 (Tr.run
 (fun s0 =>
 bif decide (s0.2 < (↑(List.length a0) : Int)) then
 Option.bind (idx a0 s0.2) fun x1 =>
 Option.bind
 (bif decide (x1.1 < (0 : Int)) then some (decide (x1.1 < (0 : Int)))
 else
 Option.bind
 (bif decide (a1 ≤ x1.1) then some (decide (a1 ≤ x1.1))
 else
 Option.bind
 (bif decide (x1.2.1 < (0 : Int)) then some (decide (x1.2.1 < (0 : Int)))
 else
 Option.bind (bif decide (a1 ≤ x1.2.1) then some (decide (a1 ≤ x1.2.1)) else some (decide (x1.1 = x1.2.1))) fun x2 =>
 some x2)
 fun x3 => some x3)
 fun x4 => some x4)
 fun x5 =>
 bif x5 then some (.inr (.inr (s0.2, (9 : Int))))
 else
 Option.bind
 (bif decide (x1.2.2.1 < (1 : Int)) then some (decide (x1.2.2.1 < (1 : Int)))
 else some (decide ((14400 : Int) < x1.2.2.1)))
 fun x6 =>
 bif x6 then some (.inr (.inr (s0.2, (2 : Int))))
 else
 bif Option.getD (Tr.amGet (Tr.keyEq Y146) (x1.1, x1.2.1, x1.2.2.2.1, ()) s0.1) (false) then some (.inr (.inr (s0.2, (6 : Int))))
 else some (.inl (Tr.amSet (Tr.keyEq Y146) (x1.1, x1.2.1, x1.2.2.2.1, ()) true s0.1, IntKind.wrap .i64 (s0.2 + (1 : Int))))
 else some (.inr (.inl ())))
 ([], (0 : Int)))
 fun x7 => Sum.elim (fun _ => some ((0 : Int), (0 : Int))) (fun y9 => some (y9.1, y9.2)) x7
abbrev F_footpath_soundA : Pats := (.cons (.pd Y26) (.cons (.pd Y3) .nil))
abbrev F_footpath_soundR : Pats := (.cons (.pd Y3) (.cons (.pd Y42) .nil))
noncomputable def F_footpath_soundS : Tr.Spec := { args := F_footpath_soundA, res := F_footpath_soundR, fns := [], α := El Y3 × El Y42, f := fun x => F_footpath_sound x.1 x.2.1, unp := fun z => (((), (), ()), (z.1, z.2, ())) }
noncomputable def F_footpath_soundM : List (Nat × List Tr.Spec) := []
def F_footpath_soundH : Hint := (.seq .leaf (.seq .leaf (.seq (.seq .leaf (.lp ⟨[(6, (.map Y146 Y4)), (13, (.pd Y3))], [], [1, 11, 12], []⟩ [((.exit 0), ⟨[], [], [], []⟩), (.ret, ⟨[(4, (.pd Y3)), (5, (.pd Y42))], [], [], []⟩)] (.seq .leaf (.seq .leaf (.seq (.seq .leaf (.seq .leaf (.seq (.seq (.seq .leaf (.cnd (some (⟨[], [], [1, 6, 7, 8, 9, 11, 12, 13], []⟩, [(.normal, ⟨[(25, (.pd Y4))], [], [1, 6, 7, 8, 9, 11, 12, 13], []⟩)])) .leaf (.seq .leaf (.cnd (some (⟨[], [], [1, 6, 7, 8, 9, 11, 12, 13], []⟩, [(.normal, ⟨[(25, (.pd Y4))], [], [1, 6, 7, 8, 9, 11, 12, 13], []⟩)])) .leaf (.seq .leaf (.cnd (some (⟨[], [], [1, 6, 7, 8, 9, 11, 12, 13], []⟩, [(.normal, ⟨[(25, (.pd Y4))], [], [1, 6, 7, 8, 9, 11, 12, 13], []⟩)])) .leaf (.seq .leaf (.cnd (some (⟨[], [], [1, 6, 7, 8, 9, 11, 12, 13], []⟩, [(.normal, ⟨[(25, (.pd Y4))], [], [1, 6, 7, 8, 9, 11, 12, 13], []⟩)])) .leaf .leaf)))))))) (.cnd none .leaf (.seq (.seq .leaf (.cnd (some (⟨[], [], [1, 6, 7, 9, 11, 12, 13], []⟩, [(.normal, ⟨[(46, (.pd Y4))], [], [1, 6, 7, 9, 11, 12, 13], []⟩)])) .leaf .leaf)) .leaf))) .leaf))) .leaf))))) .leaf)))
noncomputable def F_footpath_soundV (a0 : El Y26) (a1 : El Y3) : Option (El Y3 × El Y42) := evalF (mkE tyTab mapTab pkTab [] [] F_footpath_soundM 62) (codeOf Tryz.f68) Tryz.f68.results F_footpath_soundH F_footpath_soundA F_footpath_soundR (fun y => (y.2.1, y.2.2.1)) (a0, a1, ())
theorem F_footpath_sound_eq (a0 : El Y26) (a1 : El Y3) : F_footpath_soundV a0 a1 = F_footpath_sound a0 a1 := by kernel_rfl
theorem F_footpath_sound_ok : FnOK Tryz.prog 68 F_footpath_soundS := fnOK_of (m := F_footpath_soundM) (fn := Tryz.f68) (hint := F_footpath_soundH) (pack := fun y => (y.2.1, y.2.2.1)) hmix tab_ok trivial fun x z h => (F_footpath_sound_eq x.1 x.2.1).trans h
noncomputable def F_shortest_check_1 : (El Y3) → (El Y3) → Option (El Y4) := fun a0 a1 => Option.bind (bif decide (a0 < (0 : Int)) then some true else some (decide (a1 ≤ a0))) fun x0 => some x0
abbrev F_shortest_check_1A : Pats := (.cons (.pd Y3) (.cons (.ro Y3) .nil))
abbrev F_shortest_check_1R : Pats := (.cons (.pd Y4) .nil)
noncomputable def F_shortest_check_1S : Tr.Spec := { args := F_shortest_check_1A, res := F_shortest_check_1R, fns := [], α := El Y4, f := fun x => F_shortest_check_1 x.1 x.2.1, unp := fun z => (((), (), ()), (z, ())) }
noncomputable def F_shortest_check_1M : List (Nat × List Tr.Spec) := []
def F_shortest_check_1H : Hint := (.seq .leaf (.seq (.reg [(3, Y4)]) .leaf))
noncomputable def F_shortest_check_1V (a0 : El Y3) (a1 : El Y3) : Option (El Y4) := evalF (mkE tyTab mapTab pkTab [] [] F_shortest_check_1M 11) (codeOf Tryz.f100) Tryz.f100.results F_shortest_check_1H F_shortest_check_1A F_shortest_check_1R (fun y => y.2.1) (a0, a1, ())
theorem F_shortest_check_1_eq (a0 : El Y3) (a1 : El Y3) : F_shortest_check_1V a0 a1 = F_shortest_check_1 a0 a1 := by kernel_rfl
theorem F_shortest_check_1_ok : FnOK Tryz.prog 100 F_shortest_check_1S := fnOK_of (m := F_shortest_check_1M) (fn := Tryz.f100) (hint := F_shortest_check_1H) (pack := fun y => y.2.1) hmix tab_ok trivial fun x z h => (F_shortest_check_1_eq x.1 x.2.1).trans h
noncomputable def F_shortest_check : (El Y3) → (El Y155) → (El Y108) → Option (El Y42) := fun a0 a1 a2 =>
 Option.bind (bif decide (a0 < (0 : Int)) then some true else some (decide ((64 : Int) < a0))) fun x0 =>
 bif x0 then some (2 : Int)
 else
 bif decide ((4096 : Int) < (↑(List.length a1) : Int)) then some (5 : Int)
 else
 Option.bind
 (Tr.run
 (fun s1 =>
 bif decide (s1 < (↑(List.length a1) : Int)) then
 Option.bind (idx a1 s1) fun x2 =>
 Option.bind (F_shortest_check_1 x2.1 a0) fun x3 =>
 bif x3 then some (.inr (.inr (9 : Int)))
 else
 Option.bind (F_shortest_check_1 x2.2.1 a0) fun x4 =>
 bif x4 then some (.inr (.inr (9 : Int)))
 else
 Option.bind (bif decide (x2.2.2.1 < (0 : Int)) then some true else some (decide ((1073741824 : Int) < x2.2.2.1))) fun x5 =>
 bif x5 then some (.inr (.inr (2 : Int))) else some (.inl (IntKind.wrap .i64 (s1 + (1 : Int))))
 else some (.inr (.inl ())))
 (0 : Int))
 fun x6 =>
 Sum.elim
 (fun _ =>
 Option.bind
 (Tr.run
 (fun s8 =>
 bif decide (s8 < (↑(List.length a2) : Int)) then
 Option.bind (idx a2 s8) fun x9 =>
 Option.bind (F_shortest_check_1 x9 a0) fun x10 =>
 bif x10 then some (.inr (.inr (9 : Int))) else some (.inl (IntKind.wrap .i64 (s8 + (1 : Int))))
 else some (.inr (.inl ())))
 (0 : Int))
 fun x11 => Sum.elim (fun _ => some (0 : Int)) (fun y13 => some y13) x11)
 (fun y14 => some y14) x6
abbrev F_shortest_checkA : Pats := (.cons (.pd Y3) (.cons (.pd Y155) (.cons (.pd Y108) .nil)))
abbrev F_shortest_checkR : Pats := (.cons (.pd Y42) .nil)
noncomputable def F_shortest_checkS : Tr.Spec := { args := F_shortest_checkA, res := F_shortest_checkR, fns := [], α := El Y42, f := fun x => F_shortest_check x.1 x.2.1 x.2.2.1, unp := fun z => (((), (), (), ()), (z, ())) }
noncomputable def F_shortest_checkM : List (Nat × List Tr.Spec) := [(100, [F_shortest_check_1S])]
def F_shortest_checkH : Hint := (.seq .leaf (.seq (.seq (.reg [(17, Y4)]) .leaf) (.seq .leaf (.seq .leaf (.seq (.seq .leaf (.lp ⟨[(24, (.pd Y3))], [], [2, 7, 22, 23], []⟩ [((.exit 0), ⟨[], [], [2, 7], []⟩), (.ret, ⟨[(6, (.pd Y42))], [], [], []⟩)] (.seq .leaf (.seq .leaf (.seq (.seq .leaf (.seq .leaf (.seq (.reg [(45, Y4)]) .leaf))) .leaf))))) (.seq (.seq .leaf (.lp ⟨[(49, (.pd Y3))], [], [7, 47, 48], []⟩ [((.exit 2), ⟨[], [], [], []⟩), (.ret, ⟨[(6, (.pd Y42))], [], [], []⟩)] .leaf)) .leaf))))))
noncomputable def F_shortest_checkV (a0 : El Y3) (a1 : El Y155) (a2 : El Y108) : Option (El Y42) := evalF (mkE tyTab mapTab pkTab [] [] F_shortest_checkM 57) (codeOf Tryz.f86) Tryz.f86.results F_shortest_checkH F_shortest_checkA F_shortest_checkR (fun y => y.2.1) (a0, a1, a2, ())
theorem F_shortest_check_eq (a0 : El Y3) (a1 : El Y155) (a2 : El Y108) : F_shortest_checkV a0 a1 a2 = F_shortest_check a0 a1 a2 := by kernel_rfl
theorem F_shortest_check_ok : FnOK Tryz.prog 86 F_shortest_checkS := fnOK_of (m := F_shortest_checkM) (fn := Tryz.f86) (hint := F_shortest_checkH) (pack := fun y => y.2.1) hmix tab_ok ⟨⟨F_shortest_check_1_ok, trivial⟩, trivial⟩ fun x z h => (F_shortest_check_eq x.1 x.2.1 x.2.2.1).trans h
noncomputable def F_shortest_neighbors : (El Y155) → (El Y4) → Option (List (El Y3 × List (El Y157))) := fun a0 a1 =>
 Option.bind
 (Tr.run
 (fun s0 =>
 bif decide (s0.2 < (↑(List.length a0) : Int)) then
 Option.bind (idx a0 s0.2) fun x1 =>
 Option.bind (bif a1 then some (x1.2.1, x1.1, x1.2.2) else some x1) fun x2 =>
 Option.bind (guardB (decide (List.length (Option.getD (Tr.amGet (Tr.keyEq Y3) x2.1 s0.1) []) + List.length [x2] ≤ maxApp))) fun _ =>
 Option.bind (guardB (Tr.holeK Y3 (some x2.1) x2.1)) fun _ =>
 some (.inl (Tr.amSet (Tr.keyEq Y3) x2.1 (Option.getD (Tr.amGet (Tr.keyEq Y3) x2.1 s0.1) [] ++ [x2]) s0.1, IntKind.wrap .i64 (s0.2 + (1 : Int))))
 else some (.inr s0.1))
 ([], (0 : Int)))
 fun x5 => some x5
abbrev F_shortest_neighborsA : Pats := (.cons (.pd Y155) (.cons (.pd Y4) .nil))
abbrev F_shortest_neighborsR : Pats := (.cons (.mrows Y3 Y157) .nil)
noncomputable def F_shortest_neighborsS : Tr.Spec := { args := F_shortest_neighborsA, res := F_shortest_neighborsR, fns := [], α := List (El Y3 × List (El Y157)), f := fun x => F_shortest_neighbors x.1 x.2.1, unp := fun z => (((), (), ()), (z, ())) }
noncomputable def F_shortest_neighborsM : List (Nat × List Tr.Spec) := []
def F_shortest_neighborsH : Hint := (.seq .leaf (.seq .leaf (.seq (.seq .leaf (.lp ⟨[(5, (.mrows Y3 Y157)), (11, (.pd Y3))], [], [1, 9, 10], []⟩ [((.exit 0), ⟨[(5, (.mrows Y3 Y157))], [], [], []⟩)] (.seq .leaf (.seq .leaf (.seq (.seq .leaf (.seq (.seq .leaf (.cnd (some (⟨[], [], [1, 5, 9, 10, 11], []⟩, [(.normal, ⟨[(7, (.var Y157 (.pd Y157)))], [], [1, 5, 9, 10, 11], []⟩)])) .leaf .leaf)) .leaf)) .leaf))))) .leaf)))
noncomputable def F_shortest_neighborsV (a0 : El Y155) (a1 : El Y4) : Option (List (El Y3 × List (El Y157))) := evalF (mkE tyTab mapTab pkTab [164] [] F_shortest_neighborsM 34) (codeOf Tryz.f87) Tryz.f87.results F_shortest_neighborsH F_shortest_neighborsA F_shortest_neighborsR (fun y => y.2.1) (a0, a1, ())
theorem F_shortest_neighbors_eq (a0 : El Y155) (a1 : El Y4) : F_shortest_neighborsV a0 a1 = F_shortest_neighbors a0 a1 := by kernel_rfl
theorem F_shortest_neighbors_ok : FnOK Tryz.prog 87 F_shortest_neighborsS := fnOK_of (m := F_shortest_neighborsM) (fn := Tryz.f87) (hint := F_shortest_neighborsH) (pack := fun y => y.2.1) hmix tab_ok trivial fun x z h => (F_shortest_neighbors_eq x.1 x.2.1).trans h
noncomputable def F_shortest_lengths : (El Y167) → Option (El Y108) := fun a0 =>
 Option.bind
 (guardB
 (decide
 ((0 : Tr.El (Tr.Ty.int .i64)) ≤ (↑(List.length a0) : Int) ∧
 (↑(List.length a0) : Int) ≤ (↑(List.length a0) : Int) ∧ (↑(List.length a0) : Int) ≤ (↑maxApp : Tr.El (Tr.Ty.int .i64)))))
 fun _ =>
 Option.bind
 (Tr.run
 (fun s1 =>
 bif decide (s1.2 < (↑(List.length a0) : Int)) then
 Option.bind (idx a0 s1.2) fun x2 =>
 Option.bind (inb s1.2 (List.length s1.1)) fun x3 =>
 Option.bind s1.1[x3]? fun _ => some (.inl (List.set s1.1 x3 x2.2.1, IntKind.wrap .i64 (s1.2 + (1 : Int))))
 else some (.inr s1.1))
 (List.replicate (Int.toNat (↑(List.length a0) : Int)) ((0 : Int)), (0 : Int)))
 fun x5 => some x5
abbrev F_shortest_lengthsA : Pats := (.cons (.pd Y167) .nil)
abbrev F_shortest_lengthsR : Pats := (.cons (.pd Y108) .nil)
noncomputable def F_shortest_lengthsS : Tr.Spec := { args := F_shortest_lengthsA, res := F_shortest_lengthsR, fns := [], α := El Y108, f := fun x => F_shortest_lengths x.1, unp := fun z => (((), ()), (z, ())) }
noncomputable def F_shortest_lengthsM : List (Nat × List Tr.Spec) := []
def F_shortest_lengthsH : Hint := (.seq .leaf (.seq .leaf (.seq (.seq .leaf (.lp ⟨[(3, (.own Y3 false)), (11, (.pd Y3))], [], [9, 10], []⟩ [((.exit 0), ⟨[(3, (.own Y3 false))], [], [], []⟩)] .leaf)) .leaf)))
noncomputable def F_shortest_lengthsV (a0 : El Y167) : Option (El Y108) := evalF (mkE tyTab mapTab pkTab [] [] F_shortest_lengthsM 23) (codeOf Tryz.f88) Tryz.f88.results F_shortest_lengthsH F_shortest_lengthsA F_shortest_lengthsR (fun y => y.2.1) (a0, ())
theorem F_shortest_lengths_eq (a0 : El Y167) : F_shortest_lengthsV a0 = F_shortest_lengths a0 := by kernel_rfl
theorem F_shortest_lengths_ok : FnOK Tryz.prog 88 F_shortest_lengthsS := fnOK_of (m := F_shortest_lengthsM) (fn := Tryz.f88) (hint := F_shortest_lengthsH) (pack := fun y => y.2.1) hmix tab_ok trivial fun x z h => (F_shortest_lengths_eq x.1).trans h
noncomputable def F_shortest_less : (El Y180) → (El Y180) → Option (El Y4) := fun a0 a1 =>
 Option.bind
 (bif decide (a0.2.1 < a1.2.1) then some true
 else bif decide (a0.2.1 = a1.2.1) then some (decide (a0.2.2.1 < a1.2.2.1)) else some false)
 fun x0 => some x0
abbrev F_shortest_lessA : Pats := (.cons (.pd Y180) (.cons (.pd Y180) .nil))
abbrev F_shortest_lessR : Pats := (.cons (.pd Y4) .nil)
noncomputable def F_shortest_lessS : Tr.Spec := { args := F_shortest_lessA, res := F_shortest_lessR, fns := [], α := El Y4, f := fun x => F_shortest_less x.1 x.2.1, unp := fun z => (((), (), ()), (z, ())) }
noncomputable def F_shortest_lessM : List (Nat × List Tr.Spec) := []
def F_shortest_lessH : Hint := (.seq .leaf (.seq (.reg [(4, Y4)]) .leaf))
noncomputable def F_shortest_lessV (a0 : El Y180) (a1 : El Y180) : Option (El Y4) := evalF (mkE tyTab mapTab pkTab [] [] F_shortest_lessM 24) (codeOf Tryz.f102) Tryz.f102.results F_shortest_lessH F_shortest_lessA F_shortest_lessR (fun y => y.2.1) (a0, a1, ())
theorem F_shortest_less_eq (a0 : El Y180) (a1 : El Y180) : F_shortest_lessV a0 a1 = F_shortest_less a0 a1 := by kernel_rfl
theorem F_shortest_less_ok : FnOK Tryz.prog 102 F_shortest_lessS := fnOK_of (m := F_shortest_lessM) (fn := Tryz.f102) (hint := F_shortest_lessH) (pack := fun y => y.2.1) hmix tab_ok trivial fun x z h => (F_shortest_less_eq x.1 x.2.1).trans h
noncomputable def F_heap_Heap_shortest_label_before : ((Unit × List (El Y197) × El Y3 × Unit)) → (El Y3) → (El Y3) → Option ((Unit × List (El Y197) × El Y3 × Unit) × El Y4) := fun a0 a1 a2 =>
 Option.bind (inb a1 (List.length a0.2.1)) fun x0 =>
 Option.bind a0.2.1[x0]? fun x1 =>
 Option.bind (inb a2 (List.length a0.2.1)) fun x2 =>
 Option.bind a0.2.1[x2]? fun x3 =>
 Option.bind (F_shortest_less x1.1 x3.1) fun x4 =>
 bif x4 then some (((), a0.2.1, a0.2.2.1, ()), true)
 else
 Option.bind (F_shortest_less x3.1 x1.1) fun x5 =>
 bif x5 then some (((), a0.2.1, a0.2.2.1, ()), false) else some (((), a0.2.1, a0.2.2.1, ()), decide (x1.2.1 < x3.2.1))
abbrev F_heap_Heap_shortest_label_beforeA : Pats := (.cons (.var Y195 (.agg (.cons (.fn 102 .nil) (.cons (.own Y197 true) (.cons (.pd Y3) .nil))))) (.cons (.pd Y3) (.cons (.pd Y3) .nil)))
abbrev F_heap_Heap_shortest_label_beforeR : Pats := (.cons (.pd Y4) .nil)
noncomputable def F_heap_Heap_shortest_label_beforeS : Tr.Spec := { args := F_heap_Heap_shortest_label_beforeA, res := F_heap_Heap_shortest_label_beforeR, fns := [], α := (Unit × List (El Y197) × El Y3 × Unit) × El Y4, f := fun x => F_heap_Heap_shortest_label_before x.1 x.2.1 x.2.2.1, unp := fun z => ((z.1, (), (), ()), (z.2, ())) }
noncomputable def F_heap_Heap_shortest_label_beforeM : List (Nat × List Tr.Spec) := [(102, [F_shortest_lessS])]
def F_heap_Heap_shortest_label_beforeH : Hint := .leaf
noncomputable def F_heap_Heap_shortest_label_beforeV (a0 : (Unit × List (El Y197) × El Y3 × Unit)) (a1 : El Y3) (a2 : El Y3) : Option ((Unit × List (El Y197) × El Y3 × Unit) × El Y4) := evalF (mkE tyTab mapTab pkTab [] [] F_heap_Heap_shortest_label_beforeM 46) (codeOf Tryz.f110) Tryz.f110.results F_heap_Heap_shortest_label_beforeH F_heap_Heap_shortest_label_beforeA F_heap_Heap_shortest_label_beforeR (fun y => (y.1.1, y.2.1)) (a0, a1, a2, ())
theorem F_heap_Heap_shortest_label_before_eq (a0 : (Unit × List (El Y197) × El Y3 × Unit)) (a1 : El Y3) (a2 : El Y3) : F_heap_Heap_shortest_label_beforeV a0 a1 a2 = F_heap_Heap_shortest_label_before a0 a1 a2 := by kernel_rfl
theorem F_heap_Heap_shortest_label_before_ok : FnOK Tryz.prog 110 F_heap_Heap_shortest_label_beforeS := fnOK_of (m := F_heap_Heap_shortest_label_beforeM) (fn := Tryz.f110) (hint := F_heap_Heap_shortest_label_beforeH) (pack := fun y => (y.1.1, y.2.1)) hmix tab_ok ⟨⟨F_shortest_less_ok, trivial⟩, trivial⟩ fun x z h => (F_heap_Heap_shortest_label_before_eq x.1 x.2.1 x.2.2.1).trans h
noncomputable def F_heap_Heap_shortest_label_swap : ((Unit × List (El Y197) × El Y3 × Unit)) → (El Y3) → (El Y3) → Option ((Unit × List (El Y197) × El Y3 × Unit)) := fun a0 a1 a2 =>
 Option.bind (inb a2 (List.length a0.2.1)) fun x0 =>
 Option.bind a0.2.1[x0]? fun x1 =>
 Option.bind (inb a1 (List.length a0.2.1)) fun x2 =>
 Option.bind a0.2.1[x2]? fun x3 =>
 Option.bind (inb a1 (List.length a0.2.1)) fun x4 =>
 Option.bind a0.2.1[x4]? fun _ =>
 Option.bind (inb a2 (List.length (List.set a0.2.1 x4 x1))) fun x6 =>
 Option.bind (List.set a0.2.1 x4 x1)[x6]? fun _ => some ((), List.set (List.set a0.2.1 x4 x1) x6 x3, a0.2.2.1, ())
abbrev F_heap_Heap_shortest_label_swapA : Pats := (.cons (.var Y195 (.agg (.cons (.fn 102 .nil) (.cons (.own Y197 true) (.cons (.pd Y3) .nil))))) (.cons (.pd Y3) (.cons (.pd Y3) .nil)))
abbrev F_heap_Heap_shortest_label_swapR : Pats := .nil
noncomputable def F_heap_Heap_shortest_label_swapS : Tr.Spec := { args := F_heap_Heap_shortest_label_swapA, res := F_heap_Heap_shortest_label_swapR, fns := [], α := (Unit × List (El Y197) × El Y3 × Unit), f := fun x => F_heap_Heap_shortest_label_swap x.1 x.2.1 x.2.2.1, unp := fun z => ((z, (), (), ()), ()) }
noncomputable def F_heap_Heap_shortest_label_swapM : List (Nat × List Tr.Spec) := [(102, [F_shortest_lessS])]
def F_heap_Heap_shortest_label_swapH : Hint := .leaf
noncomputable def F_heap_Heap_shortest_label_swapV (a0 : (Unit × List (El Y197) × El Y3 × Unit)) (a1 : El Y3) (a2 : El Y3) : Option ((Unit × List (El Y197) × El Y3 × Unit)) := evalF (mkE tyTab mapTab pkTab [] [] F_heap_Heap_shortest_label_swapM 32) (codeOf Tryz.f111) Tryz.f111.results F_heap_Heap_shortest_label_swapH F_heap_Heap_shortest_label_swapA F_heap_Heap_shortest_label_swapR (fun y => y.1.1) (a0, a1, a2, ())
theorem F_heap_Heap_shortest_label_swap_eq (a0 : (Unit × List (El Y197) × El Y3 × Unit)) (a1 : El Y3) (a2 : El Y3) : F_heap_Heap_shortest_label_swapV a0 a1 a2 = F_heap_Heap_shortest_label_swap a0 a1 a2 := by kernel_rfl
theorem F_heap_Heap_shortest_label_swap_ok : FnOK Tryz.prog 111 F_heap_Heap_shortest_label_swapS := fnOK_of (m := F_heap_Heap_shortest_label_swapM) (fn := Tryz.f111) (hint := F_heap_Heap_shortest_label_swapH) (pack := fun y => y.1.1) hmix tab_ok ⟨⟨F_shortest_less_ok, trivial⟩, trivial⟩ fun x z h => (F_heap_Heap_shortest_label_swap_eq x.1 x.2.1 x.2.2.1).trans h
noncomputable def F_heap_Heap_shortest_label_Push : ((Unit × List (El Y197) × El Y3 × Unit)) → (El Y180) → Option ((Unit × List (El Y197) × El Y3 × Unit)) := fun a0 a1 =>
 Option.bind (guardB (decide (List.length a0.2.1 + List.length [(a1, a0.2.2.1, ())] ≤ maxApp))) fun _ =>
 Option.bind
 (Tr.run
 (fun s1 =>
 bif decide ((0 : Int) < s1.2) then
 Option.bind
 (F_heap_Heap_shortest_label_before ((), s1.1.2.1, s1.1.2.2.1, ()) s1.2
 (IntKind.wrap .i64 (Int.tdiv (IntKind.wrap .i64 (s1.2 - (1 : Int))) (2 : Int))))
 fun x2 =>
 bif x2.2 then
 Option.bind
 (F_heap_Heap_shortest_label_swap ((), x2.1.2.1, x2.1.2.2.1, ()) s1.2
 (IntKind.wrap .i64 (Int.tdiv (IntKind.wrap .i64 (s1.2 - (1 : Int))) (2 : Int))))
 fun x3 => some (.inl (((), x3.2.1, x3.2.2.1, ()), IntKind.wrap .i64 (Int.tdiv (IntKind.wrap .i64 (s1.2 - (1 : Int))) (2 : Int))))
 else some (.inr ((), x2.1.2.1, x2.1.2.2.1, ()))
 else some (.inr ((), s1.1.2.1, s1.1.2.2.1, ())))
 (((), a0.2.1 ++ [(a1, a0.2.2.1, ())], IntKind.wrap .i64 (a0.2.2.1 + (1 : Int)), ()),
 IntKind.wrap .i64 ((↑(List.length (a0.2.1 ++ [(a1, a0.2.2.1, ())])) : Int) - (1 : Int))))
 fun x4 => some ((), x4.2.1, x4.2.2.1, ())
abbrev F_heap_Heap_shortest_label_PushA : Pats := (.cons (.var Y195 (.agg (.cons (.fn 102 .nil) (.cons (.own Y197 true) (.cons (.pd Y3) .nil))))) (.cons (.pd Y180) .nil))
abbrev F_heap_Heap_shortest_label_PushR : Pats := .nil
noncomputable def F_heap_Heap_shortest_label_PushS : Tr.Spec := { args := F_heap_Heap_shortest_label_PushA, res := F_heap_Heap_shortest_label_PushR, fns := [], α := (Unit × List (El Y197) × El Y3 × Unit), f := fun x => F_heap_Heap_shortest_label_Push x.1 x.2.1, unp := fun z => ((z, (), ()), ()) }
noncomputable def F_heap_Heap_shortest_label_PushM : List (Nat × List Tr.Spec) := [(102, [F_shortest_lessS]), (110, [F_heap_Heap_shortest_label_beforeS]), (111, [F_heap_Heap_shortest_label_swapS])]
def F_heap_Heap_shortest_label_PushH : Hint := (.seq .leaf (.seq .leaf (.seq .leaf (.seq .leaf (.seq .leaf (.lp ⟨[(0, (.var Y195 (.agg (.cons (.fn 102 .nil) (.cons (.own Y197 false) (.cons (.pd Y3) .nil)))))), (4, (.pd Y3))], [], [], []⟩ [((.exit 0), ⟨[(0, (.var Y195 (.agg (.cons (.fn 102 .nil) (.cons (.own Y197 false) (.cons (.pd Y3) .nil))))))], [], [], []⟩)] .leaf))))))
noncomputable def F_heap_Heap_shortest_label_PushV (a0 : (Unit × List (El Y197) × El Y3 × Unit)) (a1 : El Y180) : Option ((Unit × List (El Y197) × El Y3 × Unit)) := evalF (mkE tyTab mapTab pkTab [] [] F_heap_Heap_shortest_label_PushM 54) (codeOf Tryz.f103) Tryz.f103.results F_heap_Heap_shortest_label_PushH F_heap_Heap_shortest_label_PushA F_heap_Heap_shortest_label_PushR (fun y => y.1.1) (a0, a1, ())
theorem F_heap_Heap_shortest_label_Push_eq (a0 : (Unit × List (El Y197) × El Y3 × Unit)) (a1 : El Y180) : F_heap_Heap_shortest_label_PushV a0 a1 = F_heap_Heap_shortest_label_Push a0 a1 := by kernel_rfl
theorem F_heap_Heap_shortest_label_Push_ok : FnOK Tryz.prog 103 F_heap_Heap_shortest_label_PushS := fnOK_of (m := F_heap_Heap_shortest_label_PushM) (fn := Tryz.f103) (hint := F_heap_Heap_shortest_label_PushH) (pack := fun y => y.1.1) hmix tab_ok ⟨⟨F_shortest_less_ok, trivial⟩, ⟨F_heap_Heap_shortest_label_before_ok, trivial⟩, ⟨F_heap_Heap_shortest_label_swap_ok, trivial⟩, trivial⟩ fun x z h => (F_heap_Heap_shortest_label_Push_eq x.1 x.2.1).trans h
noncomputable def F_heap_Heap_shortest_label_Len : ((Unit × List (El Y197) × El Y3 × Unit)) → Option ((Unit × List (El Y197) × El Y3 × Unit) × El Y3) := fun a0 => some (((), a0.2.1, a0.2.2.1, ()), (↑(List.length a0.2.1) : Int))
abbrev F_heap_Heap_shortest_label_LenA : Pats := (.cons (.var Y195 (.agg (.cons (.fn 102 .nil) (.cons (.own Y197 true) (.cons (.pd Y3) .nil))))) .nil)
abbrev F_heap_Heap_shortest_label_LenR : Pats := (.cons (.pd Y3) .nil)
noncomputable def F_heap_Heap_shortest_label_LenS : Tr.Spec := { args := F_heap_Heap_shortest_label_LenA, res := F_heap_Heap_shortest_label_LenR, fns := [], α := (Unit × List (El Y197) × El Y3 × Unit) × El Y3, f := fun x => F_heap_Heap_shortest_label_Len x.1, unp := fun z => ((z.1, ()), (z.2, ())) }
noncomputable def F_heap_Heap_shortest_label_LenM : List (Nat × List Tr.Spec) := [(102, [F_shortest_lessS])]
def F_heap_Heap_shortest_label_LenH : Hint := .leaf
noncomputable def F_heap_Heap_shortest_label_LenV (a0 : (Unit × List (El Y197) × El Y3 × Unit)) : Option ((Unit × List (El Y197) × El Y3 × Unit) × El Y3) := evalF (mkE tyTab mapTab pkTab [] [] F_heap_Heap_shortest_label_LenM 10) (codeOf Tryz.f115) Tryz.f115.results F_heap_Heap_shortest_label_LenH F_heap_Heap_shortest_label_LenA F_heap_Heap_shortest_label_LenR (fun y => (y.1.1, y.2.1)) (a0, ())
theorem F_heap_Heap_shortest_label_Len_eq (a0 : (Unit × List (El Y197) × El Y3 × Unit)) : F_heap_Heap_shortest_label_LenV a0 = F_heap_Heap_shortest_label_Len a0 := by kernel_rfl
theorem F_heap_Heap_shortest_label_Len_ok : FnOK Tryz.prog 115 F_heap_Heap_shortest_label_LenS := fnOK_of (m := F_heap_Heap_shortest_label_LenM) (fn := Tryz.f115) (hint := F_heap_Heap_shortest_label_LenH) (pack := fun y => (y.1.1, y.2.1)) hmix tab_ok ⟨⟨F_shortest_less_ok, trivial⟩, trivial⟩ fun x z h => (F_heap_Heap_shortest_label_Len_eq x.1).trans h
noncomputable def F_heap_Heap_shortest_label_Peek : ((Unit × List (El Y197) × El Y3 × Unit)) → Option ((Unit × List (El Y197) × El Y3 × Unit) × El Y180 × El Y4) := fun a0 =>
 Option.bind (F_heap_Heap_shortest_label_Len ((), a0.2.1, a0.2.2.1, ())) fun x0 =>
 bif decide (x0.2 = (0 : Int)) then some (((), x0.1.2.1, x0.1.2.2.1, ()), ((0 : Int), (0 : Int), (0 : Int), ()), false)
 else Option.bind (inb (0 : Int) (List.length x0.1.2.1)) fun x1 => Option.bind x0.1.2.1[x1]? fun x2 => some (((), x0.1.2.1, x0.1.2.2.1, ()), x2.1, true)
abbrev F_heap_Heap_shortest_label_PeekA : Pats := (.cons (.var Y195 (.agg (.cons (.fn 102 .nil) (.cons (.own Y197 true) (.cons (.pd Y3) .nil))))) .nil)
abbrev F_heap_Heap_shortest_label_PeekR : Pats := (.cons (.pd Y180) (.cons (.pd Y4) .nil))
noncomputable def F_heap_Heap_shortest_label_PeekS : Tr.Spec := { args := F_heap_Heap_shortest_label_PeekA, res := F_heap_Heap_shortest_label_PeekR, fns := [], α := (Unit × List (El Y197) × El Y3 × Unit) × El Y180 × El Y4, f := fun x => F_heap_Heap_shortest_label_Peek x.1, unp := fun z => ((z.1, ()), (z.2.1, z.2.2, ())) }
noncomputable def F_heap_Heap_shortest_label_PeekM : List (Nat × List Tr.Spec) := [(102, [F_shortest_lessS]), (115, [F_heap_Heap_shortest_label_LenS])]
def F_heap_Heap_shortest_label_PeekH : Hint := .leaf
noncomputable def F_heap_Heap_shortest_label_PeekV (a0 : (Unit × List (El Y197) × El Y3 × Unit)) : Option ((Unit × List (El Y197) × El Y3 × Unit) × El Y180 × El Y4) := evalF (mkE tyTab mapTab pkTab [] [] F_heap_Heap_shortest_label_PeekM 16) (codeOf Tryz.f112) Tryz.f112.results F_heap_Heap_shortest_label_PeekH F_heap_Heap_shortest_label_PeekA F_heap_Heap_shortest_label_PeekR (fun y => (y.1.1, y.2.1, y.2.2.1)) (a0, ())
theorem F_heap_Heap_shortest_label_Peek_eq (a0 : (Unit × List (El Y197) × El Y3 × Unit)) : F_heap_Heap_shortest_label_PeekV a0 = F_heap_Heap_shortest_label_Peek a0 := by kernel_rfl
theorem F_heap_Heap_shortest_label_Peek_ok : FnOK Tryz.prog 112 F_heap_Heap_shortest_label_PeekS := fnOK_of (m := F_heap_Heap_shortest_label_PeekM) (fn := Tryz.f112) (hint := F_heap_Heap_shortest_label_PeekH) (pack := fun y => (y.1.1, y.2.1, y.2.2.1)) hmix tab_ok ⟨⟨F_shortest_less_ok, trivial⟩, ⟨F_heap_Heap_shortest_label_Len_ok, trivial⟩, trivial⟩ fun x z h => (F_heap_Heap_shortest_label_Peek_eq x.1).trans h
noncomputable def F_heap_Heap_shortest_label_sink : ((Unit × List (El Y197) × El Y3 × Unit)) → Option ((Unit × List (El Y197) × El Y3 × Unit)) := fun a0 =>
 Option.bind
 (Tr.run
 (fun s0 =>
 bif decide ((↑(List.length s0.1.2.1) : Int) ≤ IntKind.wrap .i64 (IntKind.wrap .i64 ((2 : Int) * s0.2) + (1 : Int))) then
 some (.inr ((), s0.1.2.1, s0.1.2.2.1, ()))
 else
 bif
 decide
 (IntKind.wrap .i64 (IntKind.wrap .i64 (IntKind.wrap .i64 ((2 : Int) * s0.2) + (1 : Int)) + (1 : Int)) <
 (↑(List.length s0.1.2.1) : Int)) then
 Option.bind
 (F_heap_Heap_shortest_label_before ((), s0.1.2.1, s0.1.2.2.1, ())
 (IntKind.wrap .i64 (IntKind.wrap .i64 (IntKind.wrap .i64 ((2 : Int) * s0.2) + (1 : Int)) + (1 : Int)))
 (IntKind.wrap .i64 (IntKind.wrap .i64 ((2 : Int) * s0.2) + (1 : Int))))
 fun x1 =>
 Option.bind
 (bif x1.2 then
 some
 (((), x1.1.2.1, x1.1.2.2.1, ()),
 IntKind.wrap .i64 (IntKind.wrap .i64 (IntKind.wrap .i64 ((2 : Int) * s0.2) + (1 : Int)) + (1 : Int)))
 else some (((), x1.1.2.1, x1.1.2.2.1, ()), IntKind.wrap .i64 (IntKind.wrap .i64 ((2 : Int) * s0.2) + (1 : Int))))
 fun x2 =>
 Option.bind (F_heap_Heap_shortest_label_before ((), x2.1.2.1, x2.1.2.2.1, ()) x2.2 s0.2) fun x3 =>
 bif !x3.2 then some (.inr ((), x3.1.2.1, x3.1.2.2.1, ()))
 else
 Option.bind (F_heap_Heap_shortest_label_swap ((), x3.1.2.1, x3.1.2.2.1, ()) s0.2 x2.2) fun x4 =>
 some (.inl (((), x4.2.1, x4.2.2.1, ()), x2.2))
 else
 Option.bind
 (F_heap_Heap_shortest_label_before ((), s0.1.2.1, s0.1.2.2.1, ()) (IntKind.wrap .i64 (IntKind.wrap .i64 ((2 : Int) * s0.2) + (1 : Int))) s0.2)
 fun x5 =>
 bif !x5.2 then some (.inr ((), x5.1.2.1, x5.1.2.2.1, ()))
 else
 Option.bind
 (F_heap_Heap_shortest_label_swap ((), x5.1.2.1, x5.1.2.2.1, ()) s0.2
 (IntKind.wrap .i64 (IntKind.wrap .i64 ((2 : Int) * s0.2) + (1 : Int))))
 fun x6 => some (.inl (((), x6.2.1, x6.2.2.1, ()), IntKind.wrap .i64 (IntKind.wrap .i64 ((2 : Int) * s0.2) + (1 : Int)))))
 (((), a0.2.1, a0.2.2.1, ()), (0 : Int)))
 fun x7 => some ((), x7.2.1, x7.2.2.1, ())
abbrev F_heap_Heap_shortest_label_sinkA : Pats := (.cons (.var Y195 (.agg (.cons (.fn 102 .nil) (.cons (.own Y197 true) (.cons (.pd Y3) .nil))))) .nil)
abbrev F_heap_Heap_shortest_label_sinkR : Pats := .nil
noncomputable def F_heap_Heap_shortest_label_sinkS : Tr.Spec := { args := F_heap_Heap_shortest_label_sinkA, res := F_heap_Heap_shortest_label_sinkR, fns := [], α := (Unit × List (El Y197) × El Y3 × Unit), f := fun x => F_heap_Heap_shortest_label_sink x.1, unp := fun z => ((z, ()), ()) }
noncomputable def F_heap_Heap_shortest_label_sinkM : List (Nat × List Tr.Spec) := [(102, [F_shortest_lessS]), (110, [F_heap_Heap_shortest_label_beforeS]), (111, [F_heap_Heap_shortest_label_swapS])]
def F_heap_Heap_shortest_label_sinkH : Hint := (.seq .leaf (.lp ⟨[(0, (.var Y195 (.agg (.cons (.fn 102 .nil) (.cons (.own Y197 false) (.cons (.pd Y3) .nil)))))), (2, (.pd Y3))], [], [], []⟩ [(.ret, ⟨[(0, (.var Y195 (.agg (.cons (.fn 102 .nil) (.cons (.own Y197 false) (.cons (.pd Y3) .nil))))))], [], [], []⟩)] (.seq .leaf (.seq .leaf (.seq (.seq .leaf (.cnd (some (⟨[], [], [2], []⟩, [(.normal, ⟨[(0, (.var Y195 (.agg (.cons (.fn 102 .nil) (.cons (.own Y197 false) (.cons (.pd Y3) .nil)))))), (3, (.pd Y3))], [], [2], []⟩)])) .leaf .leaf)) .leaf)))))
noncomputable def F_heap_Heap_shortest_label_sinkV (a0 : (Unit × List (El Y197) × El Y3 × Unit)) : Option ((Unit × List (El Y197) × El Y3 × Unit)) := evalF (mkE tyTab mapTab pkTab [] [] F_heap_Heap_shortest_label_sinkM 41) (codeOf Tryz.f113) Tryz.f113.results F_heap_Heap_shortest_label_sinkH F_heap_Heap_shortest_label_sinkA F_heap_Heap_shortest_label_sinkR (fun y => y.1.1) (a0, ())
theorem F_heap_Heap_shortest_label_sink_eq (a0 : (Unit × List (El Y197) × El Y3 × Unit)) : F_heap_Heap_shortest_label_sinkV a0 = F_heap_Heap_shortest_label_sink a0 := by kernel_rfl
theorem F_heap_Heap_shortest_label_sink_ok : FnOK Tryz.prog 113 F_heap_Heap_shortest_label_sinkS := fnOK_of (m := F_heap_Heap_shortest_label_sinkM) (fn := Tryz.f113) (hint := F_heap_Heap_shortest_label_sinkH) (pack := fun y => y.1.1) hmix tab_ok ⟨⟨F_shortest_less_ok, trivial⟩, ⟨F_heap_Heap_shortest_label_before_ok, trivial⟩, ⟨F_heap_Heap_shortest_label_swap_ok, trivial⟩, trivial⟩ fun x z h => (F_heap_Heap_shortest_label_sink_eq x.1).trans h
noncomputable def F_heap_Heap_shortest_label_Pop : ((Unit × List (El Y197) × El Y3 × Unit)) → Option ((Unit × List (El Y197) × El Y3 × Unit) × El Y180 × El Y4) := fun a0 =>
 Option.bind (F_heap_Heap_shortest_label_Peek ((), a0.2.1, a0.2.2.1, ())) fun x0 =>
 bif !x0.2.2 then some (((), x0.1.2.1, x0.1.2.2.1, ()), x0.2.1, false)
 else
 Option.bind (F_heap_Heap_shortest_label_swap ((), x0.1.2.1, x0.1.2.2.1, ()) (0 : Int) (IntKind.wrap .i64 ((↑(List.length x0.1.2.1) : Int) - (1 : Int))))
 fun x1 =>
 Option.bind (sliceB (List.length x1.2.1) (List.length x1.2.1) none (some (IntKind.wrap .i64 ((↑(List.length x0.1.2.1) : Int) - (1 : Int)))))
 fun x2 =>
 Option.bind (F_heap_Heap_shortest_label_sink ((), List.take x2.2 x1.2.1, x1.2.2.1, ())) fun x3 => some (((), x3.2.1, x3.2.2.1, ()), x0.2.1, true)
abbrev F_heap_Heap_shortest_label_PopA : Pats := (.cons (.var Y195 (.agg (.cons (.fn 102 .nil) (.cons (.own Y197 true) (.cons (.pd Y3) .nil))))) .nil)
abbrev F_heap_Heap_shortest_label_PopR : Pats := (.cons (.pd Y180) (.cons (.pd Y4) .nil))
noncomputable def F_heap_Heap_shortest_label_PopS : Tr.Spec := { args := F_heap_Heap_shortest_label_PopA, res := F_heap_Heap_shortest_label_PopR, fns := [], α := (Unit × List (El Y197) × El Y3 × Unit) × El Y180 × El Y4, f := fun x => F_heap_Heap_shortest_label_Pop x.1, unp := fun z => ((z.1, ()), (z.2.1, z.2.2, ())) }
noncomputable def F_heap_Heap_shortest_label_PopM : List (Nat × List Tr.Spec) := [(102, [F_shortest_lessS]), (111, [F_heap_Heap_shortest_label_swapS]), (112, [F_heap_Heap_shortest_label_PeekS]), (113, [F_heap_Heap_shortest_label_sinkS])]
def F_heap_Heap_shortest_label_PopH : Hint := .leaf
noncomputable def F_heap_Heap_shortest_label_PopV (a0 : (Unit × List (El Y197) × El Y3 × Unit)) : Option ((Unit × List (El Y197) × El Y3 × Unit) × El Y180 × El Y4) := evalF (mkE tyTab mapTab pkTab [] [] F_heap_Heap_shortest_label_PopM 36) (codeOf Tryz.f104) Tryz.f104.results F_heap_Heap_shortest_label_PopH F_heap_Heap_shortest_label_PopA F_heap_Heap_shortest_label_PopR (fun y => (y.1.1, y.2.1, y.2.2.1)) (a0, ())
theorem F_heap_Heap_shortest_label_Pop_eq (a0 : (Unit × List (El Y197) × El Y3 × Unit)) : F_heap_Heap_shortest_label_PopV a0 = F_heap_Heap_shortest_label_Pop a0 := by kernel_rfl
theorem F_heap_Heap_shortest_label_Pop_ok : FnOK Tryz.prog 104 F_heap_Heap_shortest_label_PopS := fnOK_of (m := F_heap_Heap_shortest_label_PopM) (fn := Tryz.f104) (hint := F_heap_Heap_shortest_label_PopH) (pack := fun y => (y.1.1, y.2.1, y.2.2.1)) hmix tab_ok ⟨⟨F_shortest_less_ok, trivial⟩, ⟨F_heap_Heap_shortest_label_swap_ok, trivial⟩, ⟨F_heap_Heap_shortest_label_Peek_ok, trivial⟩, ⟨F_heap_Heap_shortest_label_sink_ok, trivial⟩, trivial⟩ fun x z h => (F_heap_Heap_shortest_label_Pop_eq x.1).trans h
noncomputable def F_heap_New_shortest_label_X_shortest_less : (Unit) → Option ((Unit × List (El Y197) × El Y3 × Unit)) := fun _ => some ((), [], (0 : Int), ())
abbrev F_heap_New_shortest_label_X_shortest_lessA : Pats := (.cons (.fn 102 .nil) .nil)
abbrev F_heap_New_shortest_label_X_shortest_lessR : Pats := (.cons (.var Y195 (.agg (.cons (.fn 102 .nil) (.cons (.own Y197 true) (.cons (.pd Y3) .nil))))) .nil)
noncomputable def F_heap_New_shortest_label_X_shortest_lessS : Tr.Spec := { args := F_heap_New_shortest_label_X_shortest_lessA, res := F_heap_New_shortest_label_X_shortest_lessR, fns := [102], α := (Unit × List (El Y197) × El Y3 × Unit), f := fun x => F_heap_New_shortest_label_X_shortest_less x.1, unp := fun z => (((), ()), (z, ())) }
noncomputable def F_heap_New_shortest_label_X_shortest_lessM : List (Nat × List Tr.Spec) := [(102, [F_shortest_lessS])]
def F_heap_New_shortest_label_X_shortest_lessH : Hint := .leaf
noncomputable def F_heap_New_shortest_label_X_shortest_lessV (a0 : Unit) : Option ((Unit × List (El Y197) × El Y3 × Unit)) := evalF (mkE tyTab mapTab pkTab [] [] F_heap_New_shortest_label_X_shortest_lessM 8) (codeOf Tryz.f101) Tryz.f101.results F_heap_New_shortest_label_X_shortest_lessH F_heap_New_shortest_label_X_shortest_lessA F_heap_New_shortest_label_X_shortest_lessR (fun y => y.2.1) (a0, ())
theorem F_heap_New_shortest_label_X_shortest_less_eq (a0 : Unit) : F_heap_New_shortest_label_X_shortest_lessV a0 = F_heap_New_shortest_label_X_shortest_less a0 := by kernel_rfl
theorem F_heap_New_shortest_label_X_shortest_less_ok : FnOK Tryz.prog 101 F_heap_New_shortest_label_X_shortest_lessS := fnOK_of (m := F_heap_New_shortest_label_X_shortest_lessM) (fn := Tryz.f101) (hint := F_heap_New_shortest_label_X_shortest_lessH) (pack := fun y => y.2.1) hmix tab_ok ⟨⟨F_shortest_less_ok, trivial⟩, trivial⟩ fun x z h => (F_heap_New_shortest_label_X_shortest_less_eq x.1).trans h
noncomputable def F_shortest_labels : (El Y3) → (List (El Y3 × List (El Y157))) → (El Y3) → Option (List (El Y3 × List (El Y157)) × El Y167) := fun a0 a1 a2 =>
 Option.bind (guardB (decide ((0 : Tr.El (Tr.Ty.int .i64)) ≤ a0 ∧ a0 ≤ a0 ∧ a0 ≤ (↑maxApp : Tr.El (Tr.Ty.int .i64))))) fun _ =>
 Option.bind
 (Tr.run
 (fun s1 =>
 bif decide (s1.2 < (↑(List.length (List.replicate (Int.toNat a0) (((0 : Int), (0 : Int), (0 : Int), ())))) : Int)) then
 Option.bind (inb s1.2 (List.length s1.1)) fun x2 =>
 Option.bind s1.1[x2]? fun _ => some (.inl (List.set s1.1 x2 (s1.2, (-1 : Int), (-1 : Int), ()), IntKind.wrap .i64 (s1.2 + (1 : Int))))
 else some (.inr s1.1))
 (List.replicate (Int.toNat a0) (((0 : Int), (0 : Int), (0 : Int), ())), (0 : Int)))
 fun x4 =>
 Option.bind (F_heap_New_shortest_label_X_shortest_less ()) fun x5 =>
 Option.bind (F_heap_Heap_shortest_label_Push ((), x5.2.1, x5.2.2.1, ()) (a2, (0 : Int), (0 : Int), ())) fun x6 =>
 Option.bind
 (Tr.run
 (fun s7 =>
 Option.bind (F_heap_Heap_shortest_label_Pop ((), s7.2.2.1, s7.2.2.2.1, ())) fun x8 =>
 bif !x8.2.2 then some (.inr s7.1)
 else
 Option.bind (inb x8.2.1.1 (List.length s7.1)) fun x9 =>
 Option.bind s7.1[x9]? fun x10 =>
 bif decide ((0 : Int) ≤ x10.2.2.1) then some (.inl (s7.1, (), x8.1.2.1, x8.1.2.2.1, ()))
 else
 Option.bind (inb x8.2.1.1 (List.length s7.1)) fun x11 =>
 Option.bind s7.1[x11]? fun _ =>
 Option.bind
 (Tr.run
 (fun s13 =>
 bif decide (s13.2 < (↑(List.length (Option.getD (Tr.amGet (Tr.keyEq Y3) x8.2.1.1 a1) [])) : Int)) then
 Option.bind (inb s13.2 (List.length (Option.getD (Tr.amGet (Tr.keyEq Y3) x8.2.1.1 a1) []))) fun x14 =>
 Option.bind (Option.getD (Tr.amGet (Tr.keyEq Y3) x8.2.1.1 a1) [])[x14]? fun x15 =>
 Option.bind (inb x15.2.1 (List.length (List.set s7.1 x11 x8.2.1))) fun x16 =>
 Option.bind (List.set s7.1 x11 x8.2.1)[x16]? fun x17 =>
 bif decide (x17.2.2.1 < (0 : Int)) then
 Option.bind
 (F_heap_Heap_shortest_label_Push ((), s13.1.2.1, s13.1.2.2.1, ())
 (x15.2.1, IntKind.wrap .i64 (x8.2.1.2.1 + x15.2.2.1),
 IntKind.wrap .i64 (x8.2.1.2.2.1 + (1 : Int)), ()))
 fun x18 => some (.inl (((), x18.2.1, x18.2.2.1, ()), IntKind.wrap .i64 (s13.2 + (1 : Int))))
 else some (.inl (((), s13.1.2.1, s13.1.2.2.1, ()), IntKind.wrap .i64 (s13.2 + (1 : Int))))
 else some (.inr ((), s13.1.2.1, s13.1.2.2.1, ())))
 (((), x8.1.2.1, x8.1.2.2.1, ()), (0 : Int)))
 fun x19 => some (.inl (List.set s7.1 x11 x8.2.1, (), x19.2.1, x19.2.2.1, ())))
 (x4, (), x6.2.1, x6.2.2.1, ()))
 fun x20 => some (a1, x20)
abbrev F_shortest_labelsA : Pats := (.cons (.pd Y3) (.cons (.mrows Y3 Y157) (.cons (.pd Y3) .nil)))
abbrev F_shortest_labelsR : Pats := (.cons (.pd Y167) .nil)
noncomputable def F_shortest_labelsS : Tr.Spec := { args := F_shortest_labelsA, res := F_shortest_labelsR, fns := [], α := List (El Y3 × List (El Y157)) × El Y167, f := fun x => F_shortest_labels x.1 x.2.1 x.2.2.1, unp := fun z => (((), z.1, (), ()), (z.2, ())) }
noncomputable def F_shortest_labelsM : List (Nat × List Tr.Spec) := [(101, [F_heap_New_shortest_label_X_shortest_lessS]), (102, [F_shortest_lessS]), (103, [F_heap_Heap_shortest_label_PushS]), (104, [F_heap_Heap_shortest_label_PopS])]
def F_shortest_labelsH : Hint := (.seq .leaf (.seq .leaf (.seq (.seq .leaf (.lp ⟨[(7, (.own Y180 false)), (18, (.pd Y3))], [], [1, 2, 17], []⟩ [((.exit 0), ⟨[(7, (.own Y180 false))], [], [1, 2], []⟩)] .leaf)) (.seq .leaf (.seq .leaf (.lp ⟨[(7, (.own Y180 false)), (9, (.var Y195 (.agg (.cons (.fn 102 .nil) (.cons (.own Y197 false) (.cons (.pd Y3) .nil))))))], [], [1], []⟩ [(.ret, ⟨[(6, (.own Y180 false))], [], [1], []⟩)] (.seq .leaf (.seq .leaf (.seq .leaf (.seq .leaf (.seq .leaf (.lp ⟨[(9, (.var Y195 (.agg (.cons (.fn 102 .nil) (.cons (.own Y197 false) (.cons (.pd Y3) .nil)))))), (57, (.pd Y3))], [], [1, 7, 10, 55, 56], []⟩ [((.exit 4), ⟨[(9, (.var Y195 (.agg (.cons (.fn 102 .nil) (.cons (.own Y197 false) (.cons (.pd Y3) .nil))))))], [], [1, 7], []⟩)] .leaf))))))))))))
noncomputable def F_shortest_labelsV (a0 : El Y3) (a1 : List (El Y3 × List (El Y157))) (a2 : El Y3) : Option (List (El Y3 × List (El Y157)) × El Y167) := evalF (mkE tyTab mapTab pkTab [] [] F_shortest_labelsM 82) (codeOf Tryz.f89) Tryz.f89.results F_shortest_labelsH F_shortest_labelsA F_shortest_labelsR (fun y => (y.1.2.1, y.2.1)) (a0, a1, a2, ())
theorem F_shortest_labels_eq (a0 : El Y3) (a1 : List (El Y3 × List (El Y157))) (a2 : El Y3) : F_shortest_labelsV a0 a1 a2 = F_shortest_labels a0 a1 a2 := by kernel_rfl
theorem F_shortest_labels_ok : FnOK Tryz.prog 89 F_shortest_labelsS := fnOK_of (m := F_shortest_labelsM) (fn := Tryz.f89) (hint := F_shortest_labelsH) (pack := fun y => (y.1.2.1, y.2.1)) hmix tab_ok ⟨⟨F_heap_New_shortest_label_X_shortest_less_ok, trivial⟩, ⟨F_shortest_less_ok, trivial⟩, ⟨F_heap_Heap_shortest_label_Push_ok, trivial⟩, ⟨F_heap_Heap_shortest_label_Pop_ok, trivial⟩, trivial⟩ fun x z h => (F_shortest_labels_eq x.1 x.2.1 x.2.2.1).trans h
noncomputable def F_shortest_All : (El Y3) → (El Y155) → Option (El Y147 × El Y42) := fun a0 a1 =>
 Option.bind (F_shortest_check a0 a1 []) fun x0 =>
 bif !decide (x0 = (0 : Int)) then some ([], x0)
 else
 Option.bind (F_shortest_neighbors a1 false) fun x1 =>
 Option.bind (guardB (decide ((0 : Tr.El (Tr.Ty.int .i64)) ≤ a0 ∧ a0 ≤ a0 ∧ a0 ≤ (↑maxApp : Tr.El (Tr.Ty.int .i64))))) fun _ =>
 Option.bind
 (Tr.run
 (fun s3 =>
 bif decide (s3.2.2 < (↑(List.length (List.replicate (Int.toNat a0) (([] : List (El Y3))))) : Int)) then
 Option.bind (F_shortest_labels a0 s3.1 s3.2.2) fun x4 =>
 Option.bind (F_shortest_lengths x4.2) fun x5 =>
 Option.bind (inb s3.2.2 (List.length s3.2.1)) fun x6 =>
 Option.bind s3.2.1[x6]? fun _ => some (.inl (x4.1, List.set s3.2.1 x6 x5, IntKind.wrap .i64 (s3.2.2 + (1 : Int))))
 else some (.inr s3.2.1))
 (x1, List.replicate (Int.toNat a0) (([] : List (El Y3))), (0 : Int)))
 fun x8 => some (x8, (0 : Int))
abbrev F_shortest_AllA : Pats := (.cons (.pd Y3) (.cons (.pd Y155) .nil))
abbrev F_shortest_AllR : Pats := (.cons (.pd Y147) (.cons (.pd Y42) .nil))
noncomputable def F_shortest_AllS : Tr.Spec := { args := F_shortest_AllA, res := F_shortest_AllR, fns := [], α := El Y147 × El Y42, f := fun x => F_shortest_All x.1 x.2.1, unp := fun z => (((), (), ()), (z.1, z.2, ())) }
noncomputable def F_shortest_AllM : List (Nat × List Tr.Spec) := [(86, [F_shortest_checkS]), (87, [F_shortest_neighborsS]), (88, [F_shortest_lengthsS]), (89, [F_shortest_labelsS])]
def F_shortest_AllH : Hint := (.seq .leaf (.seq .leaf (.seq .leaf (.seq .leaf (.seq .leaf (.seq (.seq .leaf (.lp ⟨[(7, (.mrows Y3 Y157)), (8, (.own Y108 false)), (22, (.pd Y3))], [], [0, 21], []⟩ [((.exit 0), ⟨[(8, (.own Y108 false))], [], [], []⟩)] .leaf)) .leaf))))))
noncomputable def F_shortest_AllV (a0 : El Y3) (a1 : El Y155) : Option (El Y147 × El Y42) := evalF (mkE tyTab mapTab pkTab [] [] F_shortest_AllM 35) (codeOf Tryz.f82) Tryz.f82.results F_shortest_AllH F_shortest_AllA F_shortest_AllR (fun y => (y.2.1, y.2.2.1)) (a0, a1, ())
theorem F_shortest_All_eq (a0 : El Y3) (a1 : El Y155) : F_shortest_AllV a0 a1 = F_shortest_All a0 a1 := by kernel_rfl
theorem F_shortest_All_ok : FnOK Tryz.prog 82 F_shortest_AllS := fnOK_of (m := F_shortest_AllM) (fn := Tryz.f82) (hint := F_shortest_AllH) (pack := fun y => (y.2.1, y.2.2.1)) hmix tab_ok ⟨⟨F_shortest_check_ok, trivial⟩, ⟨F_shortest_neighbors_ok, trivial⟩, ⟨F_shortest_lengths_ok, trivial⟩, ⟨F_shortest_labels_ok, trivial⟩, trivial⟩ fun x z h => (F_shortest_All_eq x.1 x.2.1).trans h
noncomputable def F_footpath_distances : (El Y26) → (El Y3) → (El Y4) → Option (El Y147) := fun a0 a1 a2 =>
 Option.bind
 (Tr.run
 (fun s0 =>
 bif decide (s0.2 < (↑(List.length a0) : Int)) then
 Option.bind (idx a0 s0.2) fun x1 =>
 Option.bind (bif a2 then some !x1.2.2.2.1 else some false) fun x2 =>
 bif x2 then some (.inl (s0.1, IntKind.wrap .i64 (s0.2 + (1 : Int))))
 else
 Option.bind
 (bif !Option.isSome (Tr.amGet (Tr.keyEq Y146) (x1.1, x1.2.1, false, ()) s0.1) then some true
 else some (decide (x1.2.2.1 < Option.getD (Tr.amGet (Tr.keyEq Y146) (x1.1, x1.2.1, false, ()) s0.1) ((0 : Int)))))
 fun x3 =>
 bif x3 then some (.inl (Tr.amSet (Tr.keyEq Y146) (x1.1, x1.2.1, false, ()) x1.2.2.1 s0.1, IntKind.wrap .i64 (s0.2 + (1 : Int))))
 else some (.inl (s0.1, IntKind.wrap .i64 (s0.2 + (1 : Int))))
 else some (.inr s0.1))
 ([], (0 : Int)))
 fun x4 =>
 Option.bind
 (guardB
 (decide ((0 : Tr.El (Tr.Ty.int .i64)) ≤ (0 : Int) ∧ (0 : Int) ≤ (↑(List.length x4) : Int) ∧ (↑(List.length x4) : Int) ≤ (↑maxApp : Tr.El (Tr.Ty.int .i64)))))
 fun _ =>
 Tr.drun (fun s6 => bif List.isEmpty s6.2 then (1 : Nat) else List.length s6.2)
 (fun s6 i7 =>
 bif List.isEmpty s6.2 then some (.inr s6.1)
 else
 Option.bind s6.2[i7]? fun x8 =>
 Option.bind (guardB (decide (List.length s6.1 + List.length [(x8.1.1, x8.1.2.1, x8.2, ())] ≤ maxApp))) fun _ =>
 some (.inl (s6.1 ++ [(x8.1.1, x8.1.2.1, x8.2, ())], List.eraseIdx s6.2 i7)))
 (fun o10 => Option.bind (F_shortest_All a1 o10) fun x11 => some x11.1) (List.replicate (Int.toNat (0 : Int)) (((0 : Int), (0 : Int), (0 : Int), ())), x4)
abbrev F_footpath_distancesA : Pats := (.cons (.pd Y26) (.cons (.pd Y3) (.cons (.pd Y4) .nil)))
abbrev F_footpath_distancesR : Pats := (.cons (.pd Y147) .nil)
noncomputable def F_footpath_distancesS : Tr.Spec := { args := F_footpath_distancesA, res := F_footpath_distancesR, fns := [], α := El Y147, f := fun x => F_footpath_distances x.1 x.2.1 x.2.2.1, unp := fun z => (((), (), (), ()), (z, ())) }
noncomputable def F_footpath_distancesM : List (Nat × List Tr.Spec) := [(82, [F_shortest_AllS])]
def F_footpath_distancesH : Hint := (.seq .leaf (.seq .leaf (.seq (.seq .leaf (.lp ⟨[(7, (.map Y146 Y3)), (21, (.pd Y3))], [], [1, 2, 19, 20], []⟩ [((.exit 0), ⟨[(7, (.map Y146 Y3))], [], [1], []⟩)] (.seq .leaf (.seq .leaf (.seq (.seq .leaf (.seq (.seq (.reg [(30, Y4)]) .leaf) (.seq .leaf (.seq .leaf (.seq (.reg [(49, Y4)]) .leaf))))) .leaf))))) (.seq .leaf (.seq (.seq .leaf (.lpd 59 ⟨[(13, (.own Y157 false)), (59, (.it Y146 Y3))], [], [1], []⟩ [((.exit 2), ⟨[(13, (.own Y157 false))], [], [1], []⟩)] .leaf)) .leaf)))))
noncomputable def F_footpath_distancesV (a0 : El Y26) (a1 : El Y3) (a2 : El Y4) : Option (El Y147) := evalF (mkE tyTab mapTab pkTab [] [] F_footpath_distancesM 81) (codeOf Tryz.f75) Tryz.f75.results F_footpath_distancesH F_footpath_distancesA F_footpath_distancesR (fun y => y.2.1) (a0, a1, a2, ())
theorem F_footpath_distances_eq (a0 : El Y26) (a1 : El Y3) (a2 : El Y4) : F_footpath_distancesV a0 a1 a2 = F_footpath_distances a0 a1 a2 := by kernel_rfl
theorem F_footpath_distances_ok : FnOK Tryz.prog 75 F_footpath_distancesS := fnOK_of (m := F_footpath_distancesM) (fn := Tryz.f75) (hint := F_footpath_distancesH) (pack := fun y => y.2.1) hmix tab_ok ⟨⟨F_shortest_All_ok, trivial⟩, trivial⟩ fun x z h => (F_footpath_distances_eq x.1 x.2.1 x.2.2.1).trans h
noncomputable def F_cmp_Or_int : (El Y108) → Option (El Y3) := fun a0 =>
 Option.bind
 (Tr.run
 (fun s0 =>
 bif decide (s0 < (↑(List.length a0) : Int)) then
 Option.bind (idx a0 s0) fun x1 =>
 bif !decide (x1 = (0 : Int)) then some (.inr (.inr x1)) else some (.inl (IntKind.wrap .i64 (s0 + (1 : Int))))
 else some (.inr (.inl ())))
 (0 : Int))
 fun x2 => Sum.elim (fun _ => some (0 : Int)) (fun y4 => some y4) x2
abbrev F_cmp_Or_intA : Pats := (.cons (.pd Y108) .nil)
abbrev F_cmp_Or_intR : Pats := (.cons (.pd Y3) .nil)
noncomputable def F_cmp_Or_intS : Tr.Spec := { args := F_cmp_Or_intA, res := F_cmp_Or_intR, fns := [], α := El Y3, f := fun x => F_cmp_Or_int x.1, unp := fun z => (((), ()), (z, ())) }
noncomputable def F_cmp_Or_intM : List (Nat × List Tr.Spec) := []
def F_cmp_Or_intH : Hint := (.seq .leaf (.seq .leaf (.seq (.seq .leaf (.lp ⟨[(8, (.pd Y3))], [], [3, 6, 7], []⟩ [((.exit 0), ⟨[], [], [3], []⟩), (.ret, ⟨[(2, (.pd Y3))], [], [], []⟩)] .leaf)) .leaf)))
noncomputable def F_cmp_Or_intV (a0 : El Y108) : Option (El Y3) := evalF (mkE tyTab mapTab pkTab [] [] F_cmp_Or_intM 18) (codeOf Tryz.f79) Tryz.f79.results F_cmp_Or_intH F_cmp_Or_intA F_cmp_Or_intR (fun y => y.2.1) (a0, ())
theorem F_cmp_Or_int_eq (a0 : El Y108) : F_cmp_Or_intV a0 = F_cmp_Or_int a0 := by kernel_rfl
theorem F_cmp_Or_int_ok : FnOK Tryz.prog 79 F_cmp_Or_intS := fnOK_of (m := F_cmp_Or_intM) (fn := Tryz.f79) (hint := F_cmp_Or_intH) (pack := fun y => y.2.1) hmix tab_ok trivial fun x z h => (F_cmp_Or_int_eq x.1).trans h
noncomputable def F_cmp_isNaN_int : (El Y3) → Option (El Y4) := fun a0 => some !decide (a0 = a0)
abbrev F_cmp_isNaN_intA : Pats := (.cons (.pd Y3) .nil)
abbrev F_cmp_isNaN_intR : Pats := (.cons (.pd Y4) .nil)
noncomputable def F_cmp_isNaN_intS : Tr.Spec := { args := F_cmp_isNaN_intA, res := F_cmp_isNaN_intR, fns := [], α := El Y4, f := fun x => F_cmp_isNaN_int x.1, unp := fun z => (((), ()), (z, ())) }
noncomputable def F_cmp_isNaN_intM : List (Nat × List Tr.Spec) := []
def F_cmp_isNaN_intH : Hint := .leaf
noncomputable def F_cmp_isNaN_intV (a0 : El Y3) : Option (El Y4) := evalF (mkE tyTab mapTab pkTab [] [] F_cmp_isNaN_intM 6) (codeOf Tryz.f85) Tryz.f85.results F_cmp_isNaN_intH F_cmp_isNaN_intA F_cmp_isNaN_intR (fun y => y.2.1) (a0, ())
theorem F_cmp_isNaN_int_eq (a0 : El Y3) : F_cmp_isNaN_intV a0 = F_cmp_isNaN_int a0 := by kernel_rfl
theorem F_cmp_isNaN_int_ok : FnOK Tryz.prog 85 F_cmp_isNaN_intS := fnOK_of (m := F_cmp_isNaN_intM) (fn := Tryz.f85) (hint := F_cmp_isNaN_intH) (pack := fun y => y.2.1) hmix tab_ok trivial fun x z h => (F_cmp_isNaN_int_eq x.1).trans h
noncomputable def F_cmp_Compare_int : (El Y3) → (El Y3) → Option (El Y3) := fun a0 a1 =>
 Option.bind (F_cmp_isNaN_int a0) fun x0 =>
 Option.bind (F_cmp_isNaN_int a1) fun x1 =>
 bif x0 then bif x1 then some (0 : Int) else some (-1 : Int)
 else bif x1 then some (1 : Int) else bif decide (a0 < a1) then some (-1 : Int) else bif decide (a1 < a0) then some (1 : Int) else some (0 : Int)
abbrev F_cmp_Compare_intA : Pats := (.cons (.pd Y3) (.cons (.pd Y3) .nil))
abbrev F_cmp_Compare_intR : Pats := (.cons (.pd Y3) .nil)
noncomputable def F_cmp_Compare_intS : Tr.Spec := { args := F_cmp_Compare_intA, res := F_cmp_Compare_intR, fns := [], α := El Y3, f := fun x => F_cmp_Compare_int x.1 x.2.1, unp := fun z => (((), (), ()), (z, ())) }
noncomputable def F_cmp_Compare_intM : List (Nat × List Tr.Spec) := [(85, [F_cmp_isNaN_intS])]
def F_cmp_Compare_intH : Hint := .leaf
noncomputable def F_cmp_Compare_intV (a0 : El Y3) (a1 : El Y3) : Option (El Y3) := evalF (mkE tyTab mapTab pkTab [] [] F_cmp_Compare_intM 20) (codeOf Tryz.f80) Tryz.f80.results F_cmp_Compare_intH F_cmp_Compare_intA F_cmp_Compare_intR (fun y => y.2.1) (a0, a1, ())
theorem F_cmp_Compare_int_eq (a0 : El Y3) (a1 : El Y3) : F_cmp_Compare_intV a0 a1 = F_cmp_Compare_int a0 a1 := by kernel_rfl
theorem F_cmp_Compare_int_ok : FnOK Tryz.prog 80 F_cmp_Compare_intS := fnOK_of (m := F_cmp_Compare_intM) (fn := Tryz.f80) (hint := F_cmp_Compare_intH) (pack := fun y => y.2.1) hmix tab_ok ⟨⟨F_cmp_isNaN_int_ok, trivial⟩, trivial⟩ fun x z h => (F_cmp_Compare_int_eq x.1 x.2.1).trans h
noncomputable def F_footpath_closure_2 : (El Y131) → (El Y131) → Option (El Y3) := fun a0 a1 =>
 Option.bind (F_cmp_Compare_int a0.1 a1.1) fun x0 =>
 Option.bind (F_cmp_Compare_int a0.2.1 a1.2.1) fun x1 =>
 Option.bind (F_cmp_Compare_int a0.2.2.1 a1.2.2.1) fun x2 => Option.bind (F_cmp_Or_int [x0, x1, x2]) fun x3 => some x3
abbrev F_footpath_closure_2A : Pats := (.cons (.pd Y131) (.cons (.pd Y131) .nil))
abbrev F_footpath_closure_2R : Pats := (.cons (.pd Y3) .nil)
noncomputable def F_footpath_closure_2S : Tr.Spec := { args := F_footpath_closure_2A, res := F_footpath_closure_2R, fns := [], α := El Y3, f := fun x => F_footpath_closure_2 x.1 x.2.1, unp := fun z => (((), (), ()), (z, ())) }
noncomputable def F_footpath_closure_2M : List (Nat × List Tr.Spec) := [(79, [F_cmp_Or_intS]), (80, [F_cmp_Compare_intS])]
def F_footpath_closure_2H : Hint := .leaf
noncomputable def F_footpath_closure_2V (a0 : El Y131) (a1 : El Y131) : Option (El Y3) := evalF (mkE tyTab mapTab pkTab [] [] F_footpath_closure_2M 22) (codeOf Tryz.f78) Tryz.f78.results F_footpath_closure_2H F_footpath_closure_2A F_footpath_closure_2R (fun y => y.2.1) (a0, a1, ())
theorem F_footpath_closure_2_eq (a0 : El Y131) (a1 : El Y131) : F_footpath_closure_2V a0 a1 = F_footpath_closure_2 a0 a1 := by kernel_rfl
theorem F_footpath_closure_2_ok : FnOK Tryz.prog 78 F_footpath_closure_2S := fnOK_of (m := F_footpath_closure_2M) (fn := Tryz.f78) (hint := F_footpath_closure_2H) (pack := fun y => y.2.1) hmix tab_ok ⟨⟨F_cmp_Or_int_ok, trivial⟩, ⟨F_cmp_Compare_int_ok, trivial⟩, trivial⟩ fun x z h => (F_footpath_closure_2_eq x.1 x.2.1).trans h
noncomputable def F_slices_SortFunc_api_Footpath_api_Footpath_X_footpath_closure_2 (a0 : List (El Y131)) (_ : Unit) : Option (List (El Y131)) := Tr.sortF F_footpath_closure_2 a0
abbrev F_slices_SortFunc_api_Footpath_api_Footpath_X_footpath_closure_2A : Pats := (.cons (.own Y131 true) (.cons (.fn 78 .nil) .nil))
abbrev F_slices_SortFunc_api_Footpath_api_Footpath_X_footpath_closure_2R : Pats := .nil
noncomputable def F_slices_SortFunc_api_Footpath_api_Footpath_X_footpath_closure_2S : Tr.Spec := { args := F_slices_SortFunc_api_Footpath_api_Footpath_X_footpath_closure_2A, res := F_slices_SortFunc_api_Footpath_api_Footpath_X_footpath_closure_2R, fns := [78], α := List (El Y131), f := fun x => F_slices_SortFunc_api_Footpath_api_Footpath_X_footpath_closure_2 x.1 x.2.1, unp := fun z => ((z, (), ()), ()) }
theorem F_slices_SortFunc_api_Footpath_api_Footpath_X_footpath_closure_2_ok : FnOK Tryz.prog 77 F_slices_SortFunc_api_Footpath_api_Footpath_X_footpath_closure_2S := Tr.sortFunc_ok (ρ := Tryz.sort77_ren) Tryz.sort77 rfl Tryz.isAgg131 Tryz.sizeOf131 F_footpath_closure_2_ok
noncomputable def F_footpath_closure_1 : (El Y3) → (El Y3) → (El Y3) → (El Y4) → (List (El Y131)) → Option (List (El Y131)) := fun a0 a1 a2 a3 a4 =>
 Option.bind (bif decide ((0 : Int) < a2) then some (decide (a2 ≤ (14400 : Int))) else some false) fun x0 =>
 bif x0 then Option.bind (guardB (decide (List.length a4 + List.length [(a0, a1, a2, a3, ())] ≤ maxApp))) fun _ => some (a4 ++ [(a0, a1, a2, a3, ())]) else some a4
abbrev F_footpath_closure_1A : Pats := (.cons (.pd Y3) (.cons (.pd Y3) (.cons (.pd Y3) (.cons (.pd Y4) (.cons (.var Y26 (.own Y131 false)) .nil)))))
abbrev F_footpath_closure_1R : Pats := .nil
noncomputable def F_footpath_closure_1S : Tr.Spec := { args := F_footpath_closure_1A, res := F_footpath_closure_1R, fns := [], α := List (El Y131), f := fun x => F_footpath_closure_1 x.1 x.2.1 x.2.2.1 x.2.2.2.1 x.2.2.2.2.1, unp := fun z => (((), (), (), (), z, ()), ()) }
noncomputable def F_footpath_closure_1M : List (Nat × List Tr.Spec) := []
def F_footpath_closure_1H : Hint := (.seq (.reg [(14, Y4)]) .leaf)
noncomputable def F_footpath_closure_1V (a0 : El Y3) (a1 : El Y3) (a2 : El Y3) (a3 : El Y4) (a4 : List (El Y131)) : Option (List (El Y131)) := evalF (mkE tyTab mapTab pkTab [] [] F_footpath_closure_1M 23) (codeOf Tryz.f76) Tryz.f76.results F_footpath_closure_1H F_footpath_closure_1A F_footpath_closure_1R (fun y => y.1.2.2.2.2.1) (a0, a1, a2, a3, a4, ())
theorem F_footpath_closure_1_eq (a0 : El Y3) (a1 : El Y3) (a2 : El Y3) (a3 : El Y4) (a4 : List (El Y131)) : F_footpath_closure_1V a0 a1 a2 a3 a4 = F_footpath_closure_1 a0 a1 a2 a3 a4 := by kernel_rfl
theorem F_footpath_closure_1_ok : FnOK Tryz.prog 76 F_footpath_closure_1S := fnOK_of (m := F_footpath_closure_1M) (fn := Tryz.f76) (hint := F_footpath_closure_1H) (pack := fun y => y.1.2.2.2.2.1) hmix tab_ok trivial fun x z h => (F_footpath_closure_1_eq x.1 x.2.1 x.2.2.1 x.2.2.2.1 x.2.2.2.2.1).trans h
noncomputable def F_footpath_closure : (El Y26) → (El Y3) → Option (El Y26) := fun a0 a1 =>
 Option.bind (F_footpath_distances a0 a1 false) fun x0 =>
 Option.bind (F_footpath_distances a0 a1 true) fun x1 =>
 Option.bind
 (Tr.run
 (fun s2 =>
 bif decide (s2.2 < (↑(List.length x0) : Int)) then
 Option.bind (idx x0 s2.2) fun x3 =>
 Option.bind
 (Tr.run
 (fun s4 =>
 bif decide (s4.2 < (↑(List.length x3) : Int)) then
 Option.bind (idx x3 s4.2) fun x5 =>
 bif decide (s2.2 = s4.2) then some (.inl (s4.1, IntKind.wrap .i64 (s4.2 + (1 : Int))))
 else
 Option.bind (idx x1 s2.2) fun x6 =>
 Option.bind (idx x6 s4.2) fun x7 =>
 Option.bind (F_footpath_closure_1 s2.2 s4.2 x5 (decide (x7 = x5)) s4.1) fun x8 =>
 bif !decide (x7 = x5) then
 Option.bind (F_footpath_closure_1 s2.2 s4.2 x7 true x8) fun x9 => some (.inl (x9, IntKind.wrap .i64 (s4.2 + (1 : Int))))
 else some (.inl (x8, IntKind.wrap .i64 (s4.2 + (1 : Int))))
 else some (.inr s4.1))
 (s2.1, (0 : Int)))
 fun x10 => some (.inl (x10, IntKind.wrap .i64 (s2.2 + (1 : Int))))
 else some (.inr s2.1))
 ([], (0 : Int)))
 fun x11 => Option.bind (F_slices_SortFunc_api_Footpath_api_Footpath_X_footpath_closure_2 x11 ()) fun x12 => some x12
abbrev F_footpath_closureA : Pats := (.cons (.pd Y26) (.cons (.pd Y3) .nil))
abbrev F_footpath_closureR : Pats := (.cons (.pd Y26) .nil)
noncomputable def F_footpath_closureS : Tr.Spec := { args := F_footpath_closureA, res := F_footpath_closureR, fns := [], α := El Y26, f := fun x => F_footpath_closure x.1 x.2.1, unp := fun z => (((), (), ()), (z, ())) }
noncomputable def F_footpath_closureM : List (Nat × List Tr.Spec) := [(75, [F_footpath_distancesS]), (76, [F_footpath_closure_1S]), (77, [F_slices_SortFunc_api_Footpath_api_Footpath_X_footpath_closure_2S]), (78, [F_footpath_closure_2S])]
def F_footpath_closureH : Hint := (.seq .leaf (.seq .leaf (.seq .leaf (.seq .leaf (.seq (.seq .leaf (.lp ⟨[(7, (.var Y26 (.own Y131 false))), (22, (.pd Y3))], [(8, 76, [7])], [5, 6, 21], []⟩ [((.exit 0), ⟨[(7, (.var Y26 (.own Y131 false)))], [], [], []⟩)] (.seq .leaf (.seq .leaf (.seq (.seq .leaf (.seq .leaf (.lp ⟨[(7, (.var Y26 (.own Y131 false))), (30, (.pd Y3))], [(8, 76, [7])], [5, 6, 9, 21, 22, 28, 29], []⟩ [((.exit 2), ⟨[(7, (.var Y26 (.own Y131 false)))], [(8, 76, [7])], [5, 6, 21, 22], []⟩)] .leaf))) .leaf))))) .leaf)))))
noncomputable def F_footpath_closureV (a0 : El Y26) (a1 : El Y3) : Option (El Y26) := evalF (mkE tyTab mapTab pkTab [] [] F_footpath_closureM 66) (codeOf Tryz.f69) Tryz.f69.results F_footpath_closureH F_footpath_closureA F_footpath_closureR (fun y => y.2.1) (a0, a1, ())
theorem F_footpath_closure_eq (a0 : El Y26) (a1 : El Y3) : F_footpath_closureV a0 a1 = F_footpath_closure a0 a1 := by kernel_rfl
theorem F_footpath_closure_ok : FnOK Tryz.prog 69 F_footpath_closureS := fnOK_of (m := F_footpath_closureM) (fn := Tryz.f69) (hint := F_footpath_closureH) (pack := fun y => y.2.1) hmix tab_ok ⟨⟨F_footpath_distances_ok, trivial⟩, ⟨F_footpath_closure_1_ok, trivial⟩, ⟨F_slices_SortFunc_api_Footpath_api_Footpath_X_footpath_closure_2_ok, trivial⟩, ⟨F_footpath_closure_2_ok, trivial⟩, trivial⟩ fun x z h => (F_footpath_closure_eq x.1 x.2.1).trans h
noncomputable def F_footpath_IsClosed : (El Y26) → (El Y3) → Option (El Y4) := fun a0 a1 =>
 bif decide ((64 : Int) < a1) then some false
 else
 Option.bind (F_footpath_sound a0 a1) fun x0 =>
 bif !decide (x0.2 = (0 : Int)) then some false
 else
 Option.bind (F_footpath_closure a0 (Tr.imax a1 (0 : Int))) fun x1 =>
 bif !decide ((↑(List.length x1) : Int) = (↑(List.length a0) : Int)) then some false
 else
 Option.bind
 (Tr.run
 (fun s2 =>
 bif decide (s2 < (↑(List.length x1) : Int)) then
 Option.bind (idx x1 s2) fun x3 =>
 Option.bind (idx a0 s2) fun x4 =>
 bif
 !(decide (x3.1 = x4.1) &&
 (decide (x3.2.1 = x4.2.1) && (decide (x3.2.2.1 = x4.2.2.1) && x3.2.2.2.1 == x4.2.2.2.1))) then
 some (.inr (.inr false))
 else some (.inl (IntKind.wrap .i64 (s2 + (1 : Int))))
 else some (.inr (.inl ())))
 (0 : Int))
 fun x5 => Sum.elim (fun _ => some true) (fun y7 => some y7) x5
abbrev F_footpath_IsClosedA : Pats := (.cons (.pd Y26) (.cons (.pd Y3) .nil))
abbrev F_footpath_IsClosedR : Pats := (.cons (.pd Y4) .nil)
noncomputable def F_footpath_IsClosedS : Tr.Spec := { args := F_footpath_IsClosedA, res := F_footpath_IsClosedR, fns := [], α := El Y4, f := fun x => F_footpath_IsClosed x.1 x.2.1, unp := fun z => (((), (), ()), (z, ())) }
noncomputable def F_footpath_IsClosedM : List (Nat × List Tr.Spec) := [(68, [F_footpath_soundS]), (69, [F_footpath_closureS])]
def F_footpath_IsClosedH : Hint := (.seq .leaf (.seq .leaf (.seq .leaf (.seq .leaf (.seq .leaf (.seq (.seq .leaf (.lp ⟨[(30, (.pd Y3))], [], [0, 7, 29], []⟩ [((.exit 0), ⟨[], [], [], []⟩), (.ret, ⟨[(4, (.pd Y4))], [], [], []⟩)] .leaf)) .leaf))))))
noncomputable def F_footpath_IsClosedV (a0 : El Y26) (a1 : El Y3) : Option (El Y4) := evalF (mkE tyTab mapTab pkTab [] [] F_footpath_IsClosedM 43) (codeOf Tryz.f54) Tryz.f54.results F_footpath_IsClosedH F_footpath_IsClosedA F_footpath_IsClosedR (fun y => y.2.1) (a0, a1, ())
theorem F_footpath_IsClosed_eq (a0 : El Y26) (a1 : El Y3) : F_footpath_IsClosedV a0 a1 = F_footpath_IsClosed a0 a1 := by kernel_rfl
theorem F_footpath_IsClosed_ok : FnOK Tryz.prog 54 F_footpath_IsClosedS := fnOK_of (m := F_footpath_IsClosedM) (fn := Tryz.f54) (hint := F_footpath_IsClosedH) (pack := fun y => y.2.1) hmix tab_ok ⟨⟨F_footpath_sound_ok, trivial⟩, ⟨F_footpath_closure_ok, trivial⟩, trivial⟩ fun x z h => (F_footpath_IsClosed_eq x.1 x.2.1).trans h
noncomputable def F_network_checkPaths : (El Y31) → Option (El Y102) := fun a0 =>
 Option.bind
 (Tr.run
 (fun s0 =>
 bif decide (s0.2.2 < (↑(List.length a0.2.2.2.2.1) : Int)) then
 Option.bind (idx a0.2.2.2.2.1 s0.2.2) fun x1 =>
 Option.bind
 (Option.bind (F_network_within x1.1 (↑(List.length a0.1) : Int)) fun x2 =>
 bif !x2 then some true
 else Option.bind (F_network_within x1.2.1 (↑(List.length a0.1) : Int)) fun x3 => bif !x3 then some true else some (decide (x1.1 = x1.2.1)))
 fun x4 =>
 bif x4 then Option.bind (F_network_of (4 : Int) s0.2.2 (9 : Int)) fun x5 => some (.inr (.inr x5))
 else
 Option.bind (bif decide (x1.2.2.1 < (1 : Int)) then some true else some (decide ((14400 : Int) < x1.2.2.1))) fun x6 =>
 bif x6 then Option.bind (F_network_of (4 : Int) s0.2.2 (2 : Int)) fun x7 => some (.inr (.inr x7))
 else
 bif Option.getD (Tr.amGet (Tr.keyEq Y131) (x1.1, x1.2.1, (0 : Int), x1.2.2.2.1, ()) s0.2.1) (false) then
 Option.bind (F_network_of (4 : Int) s0.2.2 (6 : Int)) fun x8 => some (.inr (.inr x8))
 else
 some
 (.inl
 (s0.1, Tr.amSet (Tr.keyEq Y131) (x1.1, x1.2.1, (0 : Int), x1.2.2.2.1, ()) true s0.2.1, IntKind.wrap .i64 (s0.2.2 + (1 : Int))))
 else some (.inr (.inl s0.1)))
 (((0 : Int), (0 : Int), (0 : Int), ()), [], (0 : Int)))
 fun x9 =>
 Sum.elim
 (fun _ =>
 Option.bind (F_footpath_IsClosed a0.2.2.2.2.1 (↑(List.length a0.1) : Int)) fun x11 =>
 bif !x11 then Option.bind (F_network_of (4 : Int) (0 : Int) (18 : Int)) fun x12 => some x12 else some ((0 : Int), (0 : Int), (0 : Int), ()))
 (fun y13 => some y13) x9
abbrev F_network_checkPathsA : Pats := (.cons (.pd Y31) .nil)
abbrev F_network_checkPathsR : Pats := (.cons (.pd Y102) .nil)
noncomputable def F_network_checkPathsS : Tr.Spec := { args := F_network_checkPathsA, res := F_network_checkPathsR, fns := [], α := El Y102, f := fun x => F_network_checkPaths x.1, unp := fun z => (((), ()), (z, ())) }
noncomputable def F_network_checkPathsM : List (Nat × List Tr.Spec) := [(34, [F_network_ofS]), (51, [F_network_withinS]), (54, [F_footpath_IsClosedS])]
def F_network_checkPathsH : Hint := (.seq .leaf (.seq .leaf (.seq (.seq .leaf (.lp ⟨[(2, (.var Y102 (.pd Y102))), (3, (.map Y131 Y4)), (11, (.pd Y3))], [], [1, 9, 10], []⟩ [((.exit 0), ⟨[(2, (.var Y102 (.pd Y102)))], [], [1], []⟩), (.ret, ⟨[(2, (.var Y102 (.pd Y102)))], [], [], []⟩)] (.seq .leaf (.seq .leaf (.seq (.seq .leaf (.seq .leaf (.seq (.seq (.reg [(23, Y4)]) (.cnd none .leaf (.seq (.reg [(49, Y4)]) .leaf))) .leaf))) .leaf))))) .leaf)))
noncomputable def F_network_checkPathsV (a0 : El Y31) : Option (El Y102) := evalF (mkE tyTab mapTab pkTab [] [] F_network_checkPathsM 78) (codeOf Tryz.f38) Tryz.f38.results F_network_checkPathsH F_network_checkPathsA F_network_checkPathsR (fun y => y.2.1) (a0, ())
theorem F_network_checkPaths_eq (a0 : El Y31) : F_network_checkPathsV a0 = F_network_checkPaths a0 := by kernel_rfl
theorem F_network_checkPaths_ok : FnOK Tryz.prog 38 F_network_checkPathsS := fnOK_of (m := F_network_checkPathsM) (fn := Tryz.f38) (hint := F_network_checkPathsH) (pack := fun y => y.2.1) hmix tab_ok ⟨⟨F_network_of_ok, trivial⟩, ⟨F_network_within_ok, trivial⟩, ⟨F_footpath_IsClosed_ok, trivial⟩, trivial⟩ fun x z h => (F_network_checkPaths_eq x.1).trans h
noncomputable def F_network_Check : (El Y31) → Option (El Y3 × El Y3 × El Y42) := fun a0 =>
 Option.bind (F_stop_Check a0.1) fun x0 =>
 Option.bind (F_route_Check a0.2.1) fun x1 =>
 Option.bind (F_network_of (0 : Int) x0.1 x0.2) fun x2 =>
 Option.bind (F_network_of (1 : Int) x1.1 x1.2) fun x3 =>
 Option.bind (F_network_first [x2, x3]) fun x4 =>
 Option.bind (bif decide (x4.2.2.1 = (0 : Int)) then Option.bind (F_network_checkRuns a0) fun x5 => some x5 else some x4) fun x6 =>
 Option.bind (bif decide (x6.2.2.1 = (0 : Int)) then Option.bind (F_network_checkLinks a0) fun x7 => some x7 else some x6) fun x8 =>
 Option.bind
 (bif decide (x8.2.2.1 = (0 : Int)) then
 Option.bind (F_product_Check a0.2.2.2.2.2.1) fun x9 =>
 Option.bind (F_network_checkPaths a0) fun x10 => Option.bind (F_network_of (5 : Int) x9.1 x9.2) fun x11 => Option.bind (F_network_first [x10, x11]) fun x12 => some x12
 else some x8)
 fun x13 => some (x13.1, x13.2.1, x13.2.2.1)
abbrev F_network_CheckA : Pats := (.cons (.pd Y31) .nil)
abbrev F_network_CheckR : Pats := (.cons (.pd Y3) (.cons (.pd Y3) (.cons (.pd Y42) .nil)))
noncomputable def F_network_CheckS : Tr.Spec := { args := F_network_CheckA, res := F_network_CheckR, fns := [], α := El Y3 × El Y3 × El Y42, f := fun x => F_network_Check x.1, unp := fun z => (((), ()), (z.1, z.2.1, z.2.2, ())) }
noncomputable def F_network_CheckM : List (Nat × List Tr.Spec) := [(31, [F_stop_CheckS]), (32, [F_route_CheckS]), (33, [F_network_firstS]), (34, [F_network_ofS]), (35, [F_network_checkRunsS]), (36, [F_network_checkLinksS]), (37, [F_product_CheckS]), (38, [F_network_checkPathsS])]
def F_network_CheckH : Hint := (.seq .leaf (.seq .leaf (.seq .leaf (.seq .leaf (.seq (.seq .leaf (.cnd (some (⟨[], [], [1], []⟩, [(.normal, ⟨[(9, (.var Y102 (.pd Y102)))], [], [1], []⟩)])) .leaf .leaf)) (.seq (.seq .leaf (.cnd (some (⟨[], [], [1], []⟩, [(.normal, ⟨[(9, (.var Y102 (.pd Y102)))], [], [1], []⟩)])) .leaf .leaf)) (.seq (.seq .leaf (.cnd (some (⟨[], [], [], []⟩, [(.normal, ⟨[(9, (.var Y102 (.pd Y102)))], [], [], []⟩)])) .leaf .leaf)) .leaf)))))))
noncomputable def F_network_CheckV (a0 : El Y31) : Option (El Y3 × El Y3 × El Y42) := evalF (mkE tyTab mapTab pkTab [] [] F_network_CheckM 64) (codeOf Tryz.f18) Tryz.f18.results F_network_CheckH F_network_CheckA F_network_CheckR (fun y => (y.2.1, y.2.2.1, y.2.2.2.1)) (a0, ())
theorem F_network_Check_eq (a0 : El Y31) : F_network_CheckV a0 = F_network_Check a0 := by kernel_rfl
theorem F_network_Check_ok : FnOK Tryz.prog 18 F_network_CheckS := fnOK_of (m := F_network_CheckM) (fn := Tryz.f18) (hint := F_network_CheckH) (pack := fun y => (y.2.1, y.2.2.1, y.2.2.2.1)) hmix tab_ok ⟨⟨F_stop_Check_ok, trivial⟩, ⟨F_route_Check_ok, trivial⟩, ⟨F_network_first_ok, trivial⟩, ⟨F_network_of_ok, trivial⟩, ⟨F_network_checkRuns_ok, trivial⟩, ⟨F_network_checkLinks_ok, trivial⟩, ⟨F_product_Check_ok, trivial⟩, ⟨F_network_checkPaths_ok, trivial⟩, trivial⟩ fun x z h => (F_network_Check_eq x.1).trans h
noncomputable def F_journey_exists : (El Y31) → (El Y64) → Option (El Y4) := fun a0 a1 =>
 Option.bind
 (bif decide ((0 : Int) ≤ a1.2.1) then
 bif decide (a1.2.1 < (↑(List.length a0.2.2.1) : Int)) then
 bif decide ((0 : Int) ≤ a1.2.2.1) then
 bif decide (a1.2.2.1 < a1.2.2.2.1) then
 Option.bind (idx a0.2.2.1 a1.2.1) fun x0 => some (decide (a1.2.2.2.1 < (↑(List.length x0.2.2.2.2.2.2.2.1) : Int)))
 else some false
 else some false
 else some false
 else some false)
 fun x1 => some x1
abbrev F_journey_existsA : Pats := (.cons (.pd Y31) (.cons (.pd Y64) .nil))
abbrev F_journey_existsR : Pats := (.cons (.pd Y4) .nil)
noncomputable def F_journey_existsS : Tr.Spec := { args := F_journey_existsA, res := F_journey_existsR, fns := [], α := El Y4, f := fun x => F_journey_exists x.1 x.2.1, unp := fun z => (((), (), ()), (z, ())) }
noncomputable def F_journey_existsM : List (Nat × List Tr.Spec) := []
def F_journey_existsH : Hint := (.seq .leaf (.seq (.reg [(4, Y4)]) .leaf))
noncomputable def F_journey_existsV (a0 : El Y31) (a1 : El Y64) : Option (El Y4) := evalF (mkE tyTab mapTab pkTab [] [] F_journey_existsM 41) (codeOf Tryz.f22) Tryz.f22.results F_journey_existsH F_journey_existsA F_journey_existsR (fun y => y.2.1) (a0, a1, ())
theorem F_journey_exists_eq (a0 : El Y31) (a1 : El Y64) : F_journey_existsV a0 a1 = F_journey_exists a0 a1 := by kernel_rfl
theorem F_journey_exists_ok : FnOK Tryz.prog 22 F_journey_existsS := fnOK_of (m := F_journey_existsM) (fn := Tryz.f22) (hint := F_journey_existsH) (pack := fun y => y.2.1) hmix tab_ok trivial fun x z h => (F_journey_exists_eq x.1 x.2.1).trans h
noncomputable def F_bitset_one : (El Y3) → Option (El Y78) := fun a0 =>
 Option.bind (bif decide (a0 < (0 : Int)) then some true else some (decide ((63 : Int) < a0))) fun x0 =>
 bif x0 then some (0 : Int) else Option.bind (Tr.qshl .u64 (1 : Int) a0) fun x1 => some x1
abbrev F_bitset_oneA : Pats := (.cons (.pd Y3) .nil)
abbrev F_bitset_oneR : Pats := (.cons (.pd Y78) .nil)
noncomputable def F_bitset_oneS : Tr.Spec := { args := F_bitset_oneA, res := F_bitset_oneR, fns := [], α := El Y78, f := fun x => F_bitset_one x.1, unp := fun z => (((), ()), (z, ())) }
noncomputable def F_bitset_oneM : List (Nat × List Tr.Spec) := []
def F_bitset_oneH : Hint := (.seq .leaf (.seq (.seq (.reg [(8, Y4)]) .leaf) .leaf))
noncomputable def F_bitset_oneV (a0 : El Y3) : Option (El Y78) := evalF (mkE tyTab mapTab pkTab [] [] F_bitset_oneM 11) (codeOf Tryz.f40) Tryz.f40.results F_bitset_oneH F_bitset_oneA F_bitset_oneR (fun y => y.2.1) (a0, ())
theorem F_bitset_one_eq (a0 : El Y3) : F_bitset_oneV a0 = F_bitset_one a0 := by kernel_rfl
theorem F_bitset_one_ok : FnOK Tryz.prog 40 F_bitset_oneS := fnOK_of (m := F_bitset_oneM) (fn := Tryz.f40) (hint := F_bitset_oneH) (pack := fun y => y.2.1) hmix tab_ok trivial fun x z h => (F_bitset_one_eq x.1).trans h
noncomputable def F_bitset_Set_With : (El Y78) → (El Y3) → Option (El Y78) := fun a0 a1 => Option.bind (F_bitset_one a1) fun x0 => some (Tr.qor .u64 a0 x0)
abbrev F_bitset_Set_WithA : Pats := (.cons (.pd Y78) (.cons (.pd Y3) .nil))
abbrev F_bitset_Set_WithR : Pats := (.cons (.pd Y78) .nil)
noncomputable def F_bitset_Set_WithS : Tr.Spec := { args := F_bitset_Set_WithA, res := F_bitset_Set_WithR, fns := [], α := El Y78, f := fun x => F_bitset_Set_With x.1 x.2.1, unp := fun z => (((), (), ()), (z, ())) }
noncomputable def F_bitset_Set_WithM : List (Nat × List Tr.Spec) := [(40, [F_bitset_oneS])]
def F_bitset_Set_WithH : Hint := .leaf
noncomputable def F_bitset_Set_WithV (a0 : El Y78) (a1 : El Y3) : Option (El Y78) := evalF (mkE tyTab mapTab pkTab [] [] F_bitset_Set_WithM 9) (codeOf Tryz.f39) Tryz.f39.results F_bitset_Set_WithH F_bitset_Set_WithA F_bitset_Set_WithR (fun y => y.2.1) (a0, a1, ())
theorem F_bitset_Set_With_eq (a0 : El Y78) (a1 : El Y3) : F_bitset_Set_WithV a0 a1 = F_bitset_Set_With a0 a1 := by kernel_rfl
theorem F_bitset_Set_With_ok : FnOK Tryz.prog 39 F_bitset_Set_WithS := fnOK_of (m := F_bitset_Set_WithM) (fn := Tryz.f39) (hint := F_bitset_Set_WithH) (pack := fun y => y.2.1) hmix tab_ok ⟨⟨F_bitset_one_ok, trivial⟩, trivial⟩ fun x z h => (F_bitset_Set_With_eq x.1 x.2.1).trans h
noncomputable def F_journey_zones : (El Y31) → (El Y64) → Option (El Y78) := fun a0 a1 =>
 Option.bind (idx a0.2.2.1 a1.2.1) fun x0 =>
 Option.bind
 (sliceB (List.length x0.2.2.2.2.2.2.2.1) (List.length x0.2.2.2.2.2.2.2.1) (some a1.2.2.1)
 (some (IntKind.wrap .i64 (a1.2.2.2.1 + (1 : Int)))))
 fun x1 =>
 Option.bind
 (Tr.run
 (fun s2 =>
 bif decide (s2.2 < (↑(List.length (List.take (x1.2 - x1.1) (List.drop x1.1 x0.2.2.2.2.2.2.2.1))) : Int)) then
 Option.bind (idx (List.take (x1.2 - x1.1) (List.drop x1.1 x0.2.2.2.2.2.2.2.1)) s2.2) fun x3 =>
 Option.bind (idx a0.1 x3.1) fun x4 => Option.bind (F_bitset_Set_With s2.1 x4.2.1) fun x5 => some (.inl (x5, IntKind.wrap .i64 (s2.2 + (1 : Int))))
 else some (.inr s2.1))
 ((0 : Int), (0 : Int)))
 fun x6 => some x6
abbrev F_journey_zonesA : Pats := (.cons (.pd Y31) (.cons (.pd Y64) .nil))
abbrev F_journey_zonesR : Pats := (.cons (.pd Y78) .nil)
noncomputable def F_journey_zonesS : Tr.Spec := { args := F_journey_zonesA, res := F_journey_zonesR, fns := [], α := El Y78, f := fun x => F_journey_zones x.1 x.2.1, unp := fun z => (((), (), ()), (z, ())) }
noncomputable def F_journey_zonesM : List (Nat × List Tr.Spec) := [(39, [F_bitset_Set_WithS])]
def F_journey_zonesH : Hint := (.seq .leaf (.seq .leaf (.seq (.seq .leaf (.lp ⟨[(5, (.pd Y78)), (22, (.pd Y3))], [], [2, 20, 21], []⟩ [((.exit 0), ⟨[(5, (.pd Y78))], [], [], []⟩)] .leaf)) .leaf)))
noncomputable def F_journey_zonesV (a0 : El Y31) (a1 : El Y64) : Option (El Y78) := evalF (mkE tyTab mapTab pkTab [] [] F_journey_zonesM 37) (codeOf Tryz.f20) Tryz.f20.results F_journey_zonesH F_journey_zonesA F_journey_zonesR (fun y => y.2.1) (a0, a1, ())
theorem F_journey_zones_eq (a0 : El Y31) (a1 : El Y64) : F_journey_zonesV a0 a1 = F_journey_zones a0 a1 := by kernel_rfl
theorem F_journey_zones_ok : FnOK Tryz.prog 20 F_journey_zonesS := fnOK_of (m := F_journey_zonesM) (fn := Tryz.f20) (hint := F_journey_zonesH) (pack := fun y => y.2.1) hmix tab_ok ⟨⟨F_bitset_Set_With_ok, trivial⟩, trivial⟩ fun x z h => (F_journey_zones_eq x.1 x.2.1).trans h
noncomputable def F_bitset_Of : (El Y108) → Option (El Y78) := fun a0 =>
 Option.bind
 (Tr.run
 (fun s0 =>
 bif decide (s0.2 < (↑(List.length a0) : Int)) then
 Option.bind (idx a0 s0.2) fun x1 => Option.bind (F_bitset_one x1) fun x2 => some (.inl (Tr.qor .u64 s0.1 x2, IntKind.wrap .i64 (s0.2 + (1 : Int))))
 else some (.inr s0.1))
 ((0 : Int), (0 : Int)))
 fun x3 => some x3
abbrev F_bitset_OfA : Pats := (.cons (.pd Y108) .nil)
abbrev F_bitset_OfR : Pats := (.cons (.pd Y78) .nil)
noncomputable def F_bitset_OfS : Tr.Spec := { args := F_bitset_OfA, res := F_bitset_OfR, fns := [], α := El Y78, f := fun x => F_bitset_Of x.1, unp := fun z => (((), ()), (z, ())) }
noncomputable def F_bitset_OfM : List (Nat × List Tr.Spec) := [(40, [F_bitset_oneS])]
def F_bitset_OfH : Hint := (.seq .leaf (.seq .leaf (.seq (.seq .leaf (.lp ⟨[(3, (.pd Y78)), (8, (.pd Y3))], [], [6, 7], []⟩ [((.exit 0), ⟨[(3, (.pd Y78))], [], [], []⟩)] .leaf)) .leaf)))
noncomputable def F_bitset_OfV (a0 : El Y108) : Option (El Y78) := evalF (mkE tyTab mapTab pkTab [] [] F_bitset_OfM 18) (codeOf Tryz.f21) Tryz.f21.results F_bitset_OfH F_bitset_OfA F_bitset_OfR (fun y => y.2.1) (a0, ())
theorem F_bitset_Of_eq (a0 : El Y108) : F_bitset_OfV a0 = F_bitset_Of a0 := by kernel_rfl
theorem F_bitset_Of_ok : FnOK Tryz.prog 21 F_bitset_OfS := fnOK_of (m := F_bitset_OfM) (fn := Tryz.f21) (hint := F_bitset_OfH) (pack := fun y => y.2.1) hmix tab_ok ⟨⟨F_bitset_one_ok, trivial⟩, trivial⟩ fun x z h => (F_bitset_Of_eq x.1).trans h
noncomputable def F_journey_Rides_1 : (El Y64) → (El Y31) → (List (El Y67)) → Option (List (El Y67)) := fun a0 a1 a2 =>
 Option.bind (F_journey_zones a1 a0) fun x0 =>
 Option.bind (idx a1.2.2.1 a0.2.1) fun x1 =>
 Option.bind (idx a1.2.1 x1.2.2.2.2.1) fun x2 =>
 Option.bind (F_bitset_Of [x2.2.1]) fun x3 =>
 bif !a0.2.2.2.2.2.2.2.2.1 then
 Option.bind
 (guardB
 (decide
 (List.length a2 + List.length [(a0.2.2.2.2.2.2.1, a0.2.2.2.2.2.2.2.1, IntKind.wrap .i64 x0, IntKind.wrap .i64 x3, ())] ≤
 maxApp)))
 fun _ => some (a2 ++ [(a0.2.2.2.2.2.2.1, a0.2.2.2.2.2.2.2.1, IntKind.wrap .i64 x0, IntKind.wrap .i64 x3, ())])
 else
 Option.bind (inb (IntKind.wrap .i64 ((↑(List.length a2) : Int) - (1 : Int))) (List.length a2)) fun x5 =>
 Option.bind a2[x5]? fun x6 =>
 Option.bind (List.set a2 x5 (x6.1, a0.2.2.2.2.2.2.2.1, x6.2.2))[x5]? fun x7 =>
 Option.bind (List.set a2 x5 (x6.1, a0.2.2.2.2.2.2.2.1, x6.2.2))[x5]? fun x8 =>
 Option.bind
 (List.set (List.set a2 x5 (x6.1, a0.2.2.2.2.2.2.2.1, x6.2.2)) x5
 (x8.1, x8.2.1, Tr.qor .i64 x7.2.2.1 (IntKind.wrap .i64 x0), x8.2.2.2))[x5]?
 fun x9 =>
 Option.bind
 (List.set (List.set a2 x5 (x6.1, a0.2.2.2.2.2.2.2.1, x6.2.2)) x5
 (x8.1, x8.2.1, Tr.qor .i64 x7.2.2.1 (IntKind.wrap .i64 x0), x8.2.2.2))[x5]?
 fun x10 =>
 some
 (List.set
 (List.set (List.set a2 x5 (x6.1, a0.2.2.2.2.2.2.2.1, x6.2.2)) x5
 (x8.1, x8.2.1, Tr.qor .i64 x7.2.2.1 (IntKind.wrap .i64 x0), x8.2.2.2))
 x5 (x10.1, x10.2.1, x10.2.2.1, Tr.qor .i64 x9.2.2.2.1 (IntKind.wrap .i64 x3), x10.2.2.2.2))
abbrev F_journey_Rides_1A : Pats := (.cons (.pd Y64) (.cons (.ro Y31) (.cons (.var Y60 (.own Y67 false)) .nil)))
abbrev F_journey_Rides_1R : Pats := .nil
noncomputable def F_journey_Rides_1S : Tr.Spec := { args := F_journey_Rides_1A, res := F_journey_Rides_1R, fns := [], α := List (El Y67), f := fun x => F_journey_Rides_1 x.1 x.2.1 x.2.2.1, unp := fun z => (((), (), z, ()), ()) }
noncomputable def F_journey_Rides_1M : List (Nat × List Tr.Spec) := [(20, [F_journey_zonesS]), (21, [F_bitset_OfS])]
def F_journey_Rides_1H : Hint := .leaf
noncomputable def F_journey_Rides_1V (a0 : El Y64) (a1 : El Y31) (a2 : List (El Y67)) : Option (List (El Y67)) := evalF (mkE tyTab mapTab pkTab [] [] F_journey_Rides_1M 65) (codeOf Tryz.f19) Tryz.f19.results F_journey_Rides_1H F_journey_Rides_1A F_journey_Rides_1R (fun y => y.1.2.2.1) (a0, a1, a2, ())
theorem F_journey_Rides_1_eq (a0 : El Y64) (a1 : El Y31) (a2 : List (El Y67)) : F_journey_Rides_1V a0 a1 a2 = F_journey_Rides_1 a0 a1 a2 := by kernel_rfl
theorem F_journey_Rides_1_ok : FnOK Tryz.prog 19 F_journey_Rides_1S := fnOK_of (m := F_journey_Rides_1M) (fn := Tryz.f19) (hint := F_journey_Rides_1H) (pack := fun y => y.1.2.2.1) hmix tab_ok ⟨⟨F_journey_zones_ok, trivial⟩, ⟨F_bitset_Of_ok, trivial⟩, trivial⟩ fun x z h => (F_journey_Rides_1_eq x.1 x.2.1 x.2.2.1).trans h
noncomputable def F_journey_Rides : (El Y31) → (El Y36) → Option (El Y60 × El Y42) := fun a0 a1 =>
 Option.bind (F_network_Check a0) fun x0 =>
 bif !decide (x0.2.2 = (0 : Int)) then some ([], (21 : Int))
 else
 Option.bind
 (Tr.run
 (fun s1 =>
 bif decide (s1.2.2 < (↑(List.length a1.1) : Int)) then
 Option.bind (idx a1.1 s1.2.2) fun x2 =>
 Option.bind (bif x2.1 then Option.bind (F_journey_exists a0 x2) fun x3 => some !x3 else some false) fun x4 =>
 bif x4 then some (.inr (.inr ([], (9 : Int))))
 else
 Option.bind (bif x2.2.2.2.2.2.2.2.2.1 then bif !x2.1 then some true else some !s1.2.1 else some false) fun x5 =>
 bif x5 then some (.inr (.inr ([], (19 : Int))))
 else
 Option.bind (bif x2.1 then Option.bind (F_journey_Rides_1 x2 a0 s1.1) fun x6 => some x6 else some s1.1) fun x7 =>
 some (.inl (x7, x2.1, IntKind.wrap .i64 (s1.2.2 + (1 : Int))))
 else some (.inr (.inl s1.1)))
 ([], false, (0 : Int)))
 fun x8 => Sum.elim (fun y9 => some (y9, (0 : Int))) (fun y10 => some (y10.1, y10.2)) x8
abbrev F_journey_RidesA : Pats := (.cons (.pd Y31) (.cons (.pd Y36) .nil))
abbrev F_journey_RidesR : Pats := (.cons (.pd Y60) (.cons (.pd Y42) .nil))
noncomputable def F_journey_RidesS : Tr.Spec := { args := F_journey_RidesA, res := F_journey_RidesR, fns := [], α := El Y60 × El Y42, f := fun x => F_journey_Rides x.1 x.2.1, unp := fun z => (((), (), ()), (z.1, z.2, ())) }
noncomputable def F_journey_RidesM : List (Nat × List Tr.Spec) := [(18, [F_network_CheckS]), (19, [F_journey_Rides_1S]), (22, [F_journey_existsS])]
def F_journey_RidesH : Hint := (.seq .leaf (.seq .leaf (.seq .leaf (.seq .leaf (.seq .leaf (.seq (.seq .leaf (.lp ⟨[(9, (.var Y60 (.own Y67 false))), (11, (.pd Y4)), (26, (.pd Y3))], [(10, 19, [2, 9])], [2, 24, 25], []⟩ [((.exit 0), ⟨[(9, (.var Y60 (.own Y67 false)))], [], [], []⟩), (.ret, ⟨[(4, (.pd Y60)), (5, (.pd Y42))], [], [], []⟩)] (.seq .leaf (.seq .leaf (.seq (.seq .leaf (.seq (.seq (.reg [(37, Y4)]) .leaf) (.seq (.seq (.reg [(48, Y4)]) .leaf) (.seq (.seq .leaf (.cnd (some (⟨[], [], [2, 13, 24, 25, 26], []⟩, [(.normal, ⟨[(9, (.var Y60 (.own Y67 false)))], [(10, 19, [2, 9])], [2, 13, 24, 25, 26], []⟩)])) .leaf .leaf)) .leaf)))) .leaf))))) .leaf))))))
noncomputable def F_journey_RidesV (a0 : El Y31) (a1 : El Y36) : Option (El Y60 × El Y42) := evalF (mkE tyTab mapTab pkTab [] [] F_journey_RidesM 58) (codeOf Tryz.f11) Tryz.f11.results F_journey_RidesH F_journey_RidesA F_journey_RidesR (fun y => (y.2.1, y.2.2.1)) (a0, a1, ())
theorem F_journey_Rides_eq (a0 : El Y31) (a1 : El Y36) : F_journey_RidesV a0 a1 = F_journey_Rides a0 a1 := by kernel_rfl
theorem F_journey_Rides_ok : FnOK Tryz.prog 11 F_journey_RidesS := fnOK_of (m := F_journey_RidesM) (fn := Tryz.f11) (hint := F_journey_RidesH) (pack := fun y => (y.2.1, y.2.2.1)) hmix tab_ok ⟨⟨F_network_Check_ok, trivial⟩, ⟨F_journey_Rides_1_ok, trivial⟩, ⟨F_journey_exists_ok, trivial⟩, trivial⟩ fun x z h => (F_journey_Rides_eq x.1 x.2.1).trans h
noncomputable def F_journey_Walk : (El Y36) → Option (El Y3) := fun a0 =>
 Option.bind
 (Tr.run
 (fun s0 =>
 bif decide (s0.2 < (↑(List.length a0.1) : Int)) then
 Option.bind (idx a0.1 s0.2) fun x1 =>
 Option.bind
 (bif x1.1 then some true
 else
 bif decide (x1.2.2.2.2.2.2.1 < (0 : Int)) then some true
 else
 bif decide (x1.2.2.2.2.2.2.2.1 < x1.2.2.2.2.2.2.1) then some true
 else some (decide ((14400 : Int) < IntKind.wrap .i64 (x1.2.2.2.2.2.2.2.1 - x1.2.2.2.2.2.2.1))))
 fun x2 =>
 bif x2 then some (.inl (s0.1, IntKind.wrap .i64 (s0.2 + (1 : Int))))
 else
 some
 (.inl
 (IntKind.wrap .i64 (s0.1 + IntKind.wrap .i64 (x1.2.2.2.2.2.2.2.1 - x1.2.2.2.2.2.2.1)),
 IntKind.wrap .i64 (s0.2 + (1 : Int))))
 else some (.inr s0.1))
 ((0 : Int), (0 : Int)))
 fun x3 => some x3
abbrev F_journey_WalkA : Pats := (.cons (.pd Y36) .nil)
abbrev F_journey_WalkR : Pats := (.cons (.pd Y3) .nil)
noncomputable def F_journey_WalkS : Tr.Spec := { args := F_journey_WalkA, res := F_journey_WalkR, fns := [], α := El Y3, f := fun x => F_journey_Walk x.1, unp := fun z => (((), ()), (z, ())) }
noncomputable def F_journey_WalkM : List (Nat × List Tr.Spec) := []
def F_journey_WalkH : Hint := (.seq .leaf (.seq .leaf (.seq (.seq .leaf (.lp ⟨[(3, (.pd Y3)), (9, (.pd Y3))], [], [7, 8], []⟩ [((.exit 0), ⟨[(3, (.pd Y3))], [], [], []⟩)] (.seq .leaf (.seq .leaf (.seq (.seq .leaf (.seq (.seq (.reg [(34, Y4)]) .leaf) .leaf)) .leaf))))) .leaf)))
noncomputable def F_journey_WalkV (a0 : El Y36) : Option (El Y3) := evalF (mkE tyTab mapTab pkTab [] [] F_journey_WalkM 44) (codeOf Tryz.f12) Tryz.f12.results F_journey_WalkH F_journey_WalkA F_journey_WalkR (fun y => y.2.1) (a0, ())
theorem F_journey_Walk_eq (a0 : El Y36) : F_journey_WalkV a0 = F_journey_Walk a0 := by kernel_rfl
theorem F_journey_Walk_ok : FnOK Tryz.prog 12 F_journey_WalkS := fnOK_of (m := F_journey_WalkM) (fn := Tryz.f12) (hint := F_journey_WalkH) (pack := fun y => y.2.1) hmix tab_ok trivial fun x z h => (F_journey_Walk_eq x.1).trans h
noncomputable def F_law38_exampleHolds : Option (El Y4) := Option.bind
 (F_journey_Rides
 ([([(65 : UInt8)], (1 : Int), false, (0 : Int), ()), ([(66 : UInt8)], (1 : Int), false, (0 : Int), ()), ([(67 : UInt8)], (3 : Int), false, (0 : Int), ())],
 [([(82 : UInt8)], (3 : Int), false, ())],
 [((0 : Int), (0 : Int), (0 : Int), [(116 : UInt8)], (0 : Int), false, false,
 [((0 : Int), (1 : Int), (1 : Int), true, false, ()), ((1 : Int), (2 : Int), (2 : Int), false, false, ()),
 ((2 : Int), (3 : Int), (3 : Int), false, true, ())],
 ())],
 ([] : List (El Y126)), ([] : List (El Y131)), (([] : List (El Y96)), (0 : Int), (0 : Int), (0 : Int), ()), ())
 ([(true, (0 : Int), (0 : Int), (2 : Int), (0 : Int), (2 : Int), (1 : Int), (3 : Int), false, ())], ()))
 fun x0 =>
 Option.bind
 (F_journey_Walk
 ([(false, (0 : Int), (0 : Int), (0 : Int), (0 : Int), (1 : Int), (100 : Int), (160 : Int), false, ()),
 (false, (0 : Int), (0 : Int), (0 : Int), (0 : Int), (0 : Int), (200 : Int), (190 : Int), false, ())],
 ()))
 fun x1 =>
 Option.bind
 (bif decide (x0.2 = (0 : Int)) then
 bif decide ((↑(List.length x0.1) : Int) = (1 : Int)) then
 Option.bind (idx x0.1 (0 : Int)) fun x2 =>
 bif
 decide (x2.1 = (1 : Int)) &&
 (decide (x2.2.1 = (3 : Int)) && (decide (x2.2.2.1 = (10 : Int)) && decide (x2.2.2.2.1 = (8 : Int)))) then
 some (decide (x1 = (60 : Int)))
 else some false
 else some false
 else some false)
 fun x3 => some x3
abbrev F_law38_exampleHoldsA : Pats := .nil
abbrev F_law38_exampleHoldsR : Pats := (.cons (.pd Y4) .nil)
noncomputable def F_law38_exampleHoldsS : Tr.Spec := { args := F_law38_exampleHoldsA, res := F_law38_exampleHoldsR, fns := [], α := El Y4, f := fun _ => F_law38_exampleHolds, unp := fun z => ((), (z, ())) }
noncomputable def F_law38_exampleHoldsM : List (Nat × List Tr.Spec) := [(11, [F_journey_RidesS]), (12, [F_journey_WalkS])]
def F_law38_exampleHoldsH : Hint := (.seq .leaf (.seq .leaf (.seq .leaf (.seq .leaf (.seq (.reg [(0, Y4)]) .leaf)))))
noncomputable def F_law38_exampleHoldsV : Option (El Y4) := evalF (mkE tyTab mapTab pkTab [] [] F_law38_exampleHoldsM 49) (codeOf Tryz.f5) Tryz.f5.results F_law38_exampleHoldsH F_law38_exampleHoldsA F_law38_exampleHoldsR (fun y => y.2.1) (())
theorem F_law38_exampleHolds_eq  : F_law38_exampleHoldsV  = F_law38_exampleHolds  := by kernel_rfl
theorem F_law38_exampleHolds_ok : FnOK Tryz.prog 5 F_law38_exampleHoldsS := fnOK_of (m := F_law38_exampleHoldsM) (fn := Tryz.f5) (hint := F_law38_exampleHoldsH) (pack := fun y => y.2.1) hmix tab_ok ⟨⟨F_journey_Rides_ok, trivial⟩, ⟨F_journey_Walk_ok, trivial⟩, trivial⟩ fun _ z h => (F_law38_exampleHolds_eq ).trans h
noncomputable def F_fare_valid : (El Y29) → (El Y60) → Option (El Y42) := fun a0 a1 =>
 Option.bind (F_product_Check a0) fun x0 =>
 bif !decide (x0.2 = (0 : Int)) then some (20 : Int) else bif decide ((8 : Int) < (↑(List.length a1) : Int)) then some (33 : Int) else some (0 : Int)
abbrev F_fare_validA : Pats := (.cons (.pd Y29) (.cons (.pd Y60) .nil))
abbrev F_fare_validR : Pats := (.cons (.pd Y42) .nil)
noncomputable def F_fare_validS : Tr.Spec := { args := F_fare_validA, res := F_fare_validR, fns := [], α := El Y42, f := fun x => F_fare_valid x.1 x.2.1, unp := fun z => (((), (), ()), (z, ())) }
noncomputable def F_fare_validM : List (Nat × List Tr.Spec) := [(37, [F_product_CheckS])]
def F_fare_validH : Hint := .leaf
noncomputable def F_fare_validV (a0 : El Y29) (a1 : El Y60) : Option (El Y42) := evalF (mkE tyTab mapTab pkTab [] [] F_fare_validM 17) (codeOf Tryz.f23) Tryz.f23.results F_fare_validH F_fare_validA F_fare_validR (fun y => y.2.1) (a0, a1, ())
theorem F_fare_valid_eq (a0 : El Y29) (a1 : El Y60) : F_fare_validV a0 a1 = F_fare_valid a0 a1 := by kernel_rfl
theorem F_fare_valid_ok : FnOK Tryz.prog 23 F_fare_validS := fnOK_of (m := F_fare_validM) (fn := Tryz.f23) (hint := F_fare_validH) (pack := fun y => y.2.1) hmix tab_ok ⟨⟨F_product_Check_ok, trivial⟩, trivial⟩ fun x z h => (F_fare_valid_eq x.1 x.2.1).trans h
noncomputable def F_product_later : (El Y3) → (El Y3) → (El Y3) → Option (El Y4) := fun a0 a1 a2 =>
 bif decide (a0 ≤ a1) then
 Option.bind
 (bif decide (a2 < (0 : Int)) then some true
 else some (decide (IntKind.wrap .u64 a2 < IntKind.wrap .u64 (IntKind.wrap .u64 a1 - IntKind.wrap .u64 a0))))
 fun x0 => some x0
 else
 Option.bind
 (bif decide (a2 < (0 : Int)) then
 some
 (decide
 (IntKind.wrap .u64 (IntKind.wrap .u64 a0 - IntKind.wrap .u64 a1) < IntKind.wrap .u64 ((0 : Int) - IntKind.wrap .u64 a2)))
 else some false)
 fun x1 => some x1
abbrev F_product_laterA : Pats := (.cons (.pd Y3) (.cons (.pd Y3) (.cons (.pd Y3) .nil)))
abbrev F_product_laterR : Pats := (.cons (.pd Y4) .nil)
noncomputable def F_product_laterS : Tr.Spec := { args := F_product_laterA, res := F_product_laterR, fns := [], α := El Y4, f := fun x => F_product_later x.1 x.2.1 x.2.2.1, unp := fun z => (((), (), (), ()), (z, ())) }
noncomputable def F_product_laterM : List (Nat × List Tr.Spec) := []
def F_product_laterH : Hint := (.seq .leaf (.seq (.seq .leaf (.cnd none (.seq (.reg [(6, Y4)]) .leaf) .leaf)) (.seq (.reg [(6, Y4)]) .leaf)))
noncomputable def F_product_laterV (a0 : El Y3) (a1 : El Y3) (a2 : El Y3) : Option (El Y4) := evalF (mkE tyTab mapTab pkTab [] [] F_product_laterM 35) (codeOf Tryz.f55) Tryz.f55.results F_product_laterH F_product_laterA F_product_laterR (fun y => y.2.1) (a0, a1, a2, ())
theorem F_product_later_eq (a0 : El Y3) (a1 : El Y3) (a2 : El Y3) : F_product_laterV a0 a1 a2 = F_product_later a0 a1 a2 := by kernel_rfl
theorem F_product_later_ok : FnOK Tryz.prog 55 F_product_laterS := fnOK_of (m := F_product_laterM) (fn := Tryz.f55) (hint := F_product_laterH) (pack := fun y => y.2.1) hmix tab_ok trivial fun x z h => (F_product_later_eq x.1 x.2.1 x.2.2.1).trans h
def F_bitset_Set_Len (a0 : Int) : Option Int := Tr.lenF a0
abbrev F_bitset_Set_LenA : Pats := (.cons (.pd Y78) .nil)
abbrev F_bitset_Set_LenR : Pats := (.cons (.pd Y3) .nil)
noncomputable def F_bitset_Set_LenS : Tr.Spec := { args := F_bitset_Set_LenA, res := F_bitset_Set_LenR, fns := [], α := El Y3, f := fun x => F_bitset_Set_Len x.1, unp := fun z => (((), ()), (z, ())) }
theorem F_bitset_Set_Len_ok : FnOK Tryz.prog 58 F_bitset_Set_LenS := Tr.len_ok
noncomputable def F_bitset_Set_Within : (El Y78) → (El Y78) → Option (El Y4) := fun a0 a1 => some (decide (Tr.qandNot .u64 a0 a1 = (0 : Int)))
abbrev F_bitset_Set_WithinA : Pats := (.cons (.pd Y78) (.cons (.pd Y78) .nil))
abbrev F_bitset_Set_WithinR : Pats := (.cons (.pd Y4) .nil)
noncomputable def F_bitset_Set_WithinS : Tr.Spec := { args := F_bitset_Set_WithinA, res := F_bitset_Set_WithinR, fns := [], α := El Y4, f := fun x => F_bitset_Set_Within x.1 x.2.1, unp := fun z => (((), (), ()), (z, ())) }
noncomputable def F_bitset_Set_WithinM : List (Nat × List Tr.Spec) := []
def F_bitset_Set_WithinH : Hint := .leaf
noncomputable def F_bitset_Set_WithinV (a0 : El Y78) (a1 : El Y78) : Option (El Y4) := evalF (mkE tyTab mapTab pkTab [] [] F_bitset_Set_WithinM 9) (codeOf Tryz.f59) Tryz.f59.results F_bitset_Set_WithinH F_bitset_Set_WithinA F_bitset_Set_WithinR (fun y => y.2.1) (a0, a1, ())
theorem F_bitset_Set_Within_eq (a0 : El Y78) (a1 : El Y78) : F_bitset_Set_WithinV a0 a1 = F_bitset_Set_Within a0 a1 := by kernel_rfl
theorem F_bitset_Set_Within_ok : FnOK Tryz.prog 59 F_bitset_Set_WithinS := fnOK_of (m := F_bitset_Set_WithinM) (fn := Tryz.f59) (hint := F_bitset_Set_WithinH) (pack := fun y => y.2.1) hmix tab_ok trivial fun x z h => (F_bitset_Set_Within_eq x.1 x.2.1).trans h
noncomputable def F_bitset_Set_Union : (El Y78) → (El Y78) → Option (El Y78) := fun a0 a1 => some (Tr.qor .u64 a0 a1)
abbrev F_bitset_Set_UnionA : Pats := (.cons (.pd Y78) (.cons (.pd Y78) .nil))
abbrev F_bitset_Set_UnionR : Pats := (.cons (.pd Y78) .nil)
noncomputable def F_bitset_Set_UnionS : Tr.Spec := { args := F_bitset_Set_UnionA, res := F_bitset_Set_UnionR, fns := [], α := El Y78, f := fun x => F_bitset_Set_Union x.1 x.2.1, unp := fun z => (((), (), ()), (z, ())) }
noncomputable def F_bitset_Set_UnionM : List (Nat × List Tr.Spec) := []
def F_bitset_Set_UnionH : Hint := .leaf
noncomputable def F_bitset_Set_UnionV (a0 : El Y78) (a1 : El Y78) : Option (El Y78) := evalF (mkE tyTab mapTab pkTab [] [] F_bitset_Set_UnionM 8) (codeOf Tryz.f57) Tryz.f57.results F_bitset_Set_UnionH F_bitset_Set_UnionA F_bitset_Set_UnionR (fun y => y.2.1) (a0, a1, ())
theorem F_bitset_Set_Union_eq (a0 : El Y78) (a1 : El Y78) : F_bitset_Set_UnionV a0 a1 = F_bitset_Set_Union a0 a1 := by kernel_rfl
theorem F_bitset_Set_Union_ok : FnOK Tryz.prog 57 F_bitset_Set_UnionS := fnOK_of (m := F_bitset_Set_UnionM) (fn := Tryz.f57) (hint := F_bitset_Set_UnionH) (pack := fun y => y.2.1) hmix tab_ok trivial fun x z h => (F_bitset_Set_Union_eq x.1 x.2.1).trans h
noncomputable def F_product_Covers_1 : (El Y67) → (El Y78) → (El Y78) → Option (El Y78 × El Y78) := fun a0 a1 a2 =>
 Option.bind (F_bitset_Set_Union a1 (IntKind.wrap .u64 a0.2.2.1)) fun x0 =>
 Option.bind (F_bitset_Set_Union a2 (IntKind.wrap .u64 a0.2.2.2.1)) fun x1 => some (x0, x1)
abbrev F_product_Covers_1A : Pats := (.cons (.pd Y67) (.cons (.var Y78 (.pd Y78)) (.cons (.var Y78 (.pd Y78)) .nil)))
abbrev F_product_Covers_1R : Pats := .nil
noncomputable def F_product_Covers_1S : Tr.Spec := { args := F_product_Covers_1A, res := F_product_Covers_1R, fns := [], α := El Y78 × El Y78, f := fun x => F_product_Covers_1 x.1 x.2.1 x.2.2.1, unp := fun z => (((), z.1, z.2, ()), ()) }
noncomputable def F_product_Covers_1M : List (Nat × List Tr.Spec) := [(57, [F_bitset_Set_UnionS])]
def F_product_Covers_1H : Hint := .leaf
noncomputable def F_product_Covers_1V (a0 : El Y67) (a1 : El Y78) (a2 : El Y78) : Option (El Y78 × El Y78) := evalF (mkE tyTab mapTab pkTab [] [] F_product_Covers_1M 14) (codeOf Tryz.f56) Tryz.f56.results F_product_Covers_1H F_product_Covers_1A F_product_Covers_1R (fun y => (y.1.2.1, y.1.2.2.1)) (a0, a1, a2, ())
theorem F_product_Covers_1_eq (a0 : El Y67) (a1 : El Y78) (a2 : El Y78) : F_product_Covers_1V a0 a1 a2 = F_product_Covers_1 a0 a1 a2 := by kernel_rfl
theorem F_product_Covers_1_ok : FnOK Tryz.prog 56 F_product_Covers_1S := fnOK_of (m := F_product_Covers_1M) (fn := Tryz.f56) (hint := F_product_Covers_1H) (pack := fun y => (y.1.2.1, y.1.2.2.1)) hmix tab_ok ⟨⟨F_bitset_Set_Union_ok, trivial⟩, trivial⟩ fun x z h => (F_product_Covers_1_eq x.1 x.2.1 x.2.2.1).trans h
noncomputable def F_product_Covers : (El Y96) → (El Y60) → Option (El Y4) := fun a0 a1 =>
 Option.bind
 (bif decide ((↑(List.length a1) : Int) = (0 : Int)) then some true
 else
 bif decide (a0.2.2.1 < (↑(List.length a1) : Int)) then some true
 else
 Option.bind (idx a1 (0 : Int)) fun x0 =>
 Option.bind (idx a1 (IntKind.wrap .i64 ((↑(List.length a1) : Int) - (1 : Int)))) fun x1 =>
 Option.bind (F_product_later x0.1 x1.1 a0.2.2.2.2.1) fun x2 => some x2)
 fun x3 =>
 bif x3 then some false
 else
 Option.bind
 (Tr.run
 (fun s4 =>
 bif decide (s4.2.2 < (↑(List.length a1) : Int)) then
 Option.bind (idx a1 s4.2.2) fun x5 =>
 Option.bind (F_product_Covers_1 x5 s4.1 s4.2.1) fun x6 => some (.inl (x6.1, x6.2, IntKind.wrap .i64 (s4.2.2 + (1 : Int))))
 else some (.inr (s4.1, s4.2.1)))
 ((0 : Int), (0 : Int), (0 : Int)))
 fun x7 =>
 Option.bind
 (Option.bind (F_bitset_Set_Len x7.1) fun x8 =>
 bif decide (x8 ≤ a0.2.2.2.1) then Option.bind (F_bitset_Set_Within x7.2 (IntKind.wrap .u64 a0.2.2.2.2.2.1)) fun x9 => some x9
 else some false)
 fun x10 => some x10
abbrev F_product_CoversA : Pats := (.cons (.pd Y96) (.cons (.pd Y60) .nil))
abbrev F_product_CoversR : Pats := (.cons (.pd Y4) .nil)
noncomputable def F_product_CoversS : Tr.Spec := { args := F_product_CoversA, res := F_product_CoversR, fns := [], α := El Y4, f := fun x => F_product_Covers x.1 x.2.1, unp := fun z => (((), (), ()), (z, ())) }
noncomputable def F_product_CoversM : List (Nat × List Tr.Spec) := [(55, [F_product_laterS]), (56, [F_product_Covers_1S]), (58, [F_bitset_Set_LenS]), (59, [F_bitset_Set_WithinS])]
def F_product_CoversH : Hint := (.seq .leaf (.seq .leaf (.seq (.seq (.reg [(35, Y4)]) .leaf) (.seq .leaf (.seq .leaf (.seq (.seq .leaf (.lp ⟨[(6, (.var Y78 (.pd Y78))), (7, (.var Y78 (.pd Y78))), (39, (.pd Y3))], [(8, 56, [6, 7])], [2, 37, 38], []⟩ [((.exit 0), ⟨[(6, (.var Y78 (.pd Y78))), (7, (.var Y78 (.pd Y78)))], [], [2], []⟩)] .leaf)) (.seq (.reg [(4, Y4)]) .leaf)))))))
noncomputable def F_product_CoversV (a0 : El Y96) (a1 : El Y60) : Option (El Y4) := evalF (mkE tyTab mapTab pkTab [] [] F_product_CoversM 59) (codeOf Tryz.f42) Tryz.f42.results F_product_CoversH F_product_CoversA F_product_CoversR (fun y => y.2.1) (a0, a1, ())
theorem F_product_Covers_eq (a0 : El Y96) (a1 : El Y60) : F_product_CoversV a0 a1 = F_product_Covers a0 a1 := by kernel_rfl
theorem F_product_Covers_ok : FnOK Tryz.prog 42 F_product_CoversS := fnOK_of (m := F_product_CoversM) (fn := Tryz.f42) (hint := F_product_CoversH) (pack := fun y => y.2.1) hmix tab_ok ⟨⟨F_product_later_ok, trivial⟩, ⟨F_product_Covers_1_ok, trivial⟩, ⟨F_bitset_Set_Len_ok, trivial⟩, ⟨F_bitset_Set_Within_ok, trivial⟩, trivial⟩ fun x z h => (F_product_Covers_eq x.1 x.2.1).trans h
noncomputable def F_fare_within : (El Y3) → (El Y3) → (El Y3) → Option (El Y4) := fun a0 a1 a2 =>
 Option.bind
 (bif decide (a1 ≤ a0) then some true
 else some (decide (IntKind.wrap .u64 (IntKind.wrap .u64 a1 - IntKind.wrap .u64 a0) ≤ IntKind.wrap .u64 a2)))
 fun x0 => some x0
abbrev F_fare_withinA : Pats := (.cons (.pd Y3) (.cons (.pd Y3) (.cons (.pd Y3) .nil)))
abbrev F_fare_withinR : Pats := (.cons (.pd Y4) .nil)
noncomputable def F_fare_withinS : Tr.Spec := { args := F_fare_withinA, res := F_fare_withinR, fns := [], α := El Y4, f := fun x => F_fare_within x.1 x.2.1 x.2.2.1, unp := fun z => (((), (), (), ()), (z, ())) }
noncomputable def F_fare_withinM : List (Nat × List Tr.Spec) := []
def F_fare_withinH : Hint := (.seq .leaf (.seq (.reg [(6, Y4)]) .leaf))
noncomputable def F_fare_withinV (a0 : El Y3) (a1 : El Y3) (a2 : El Y3) : Option (El Y4) := evalF (mkE tyTab mapTab pkTab [] [] F_fare_withinM 20) (codeOf Tryz.f60) Tryz.f60.results F_fare_withinH F_fare_withinA F_fare_withinR (fun y => y.2.1) (a0, a1, a2, ())
theorem F_fare_within_eq (a0 : El Y3) (a1 : El Y3) (a2 : El Y3) : F_fare_withinV a0 a1 a2 = F_fare_within a0 a1 a2 := by kernel_rfl
theorem F_fare_within_ok : FnOK Tryz.prog 60 F_fare_withinS := fnOK_of (m := F_fare_withinM) (fn := Tryz.f60) (hint := F_fare_withinH) (pack := fun y => y.2.1) hmix tab_ok trivial fun x z h => (F_fare_within_eq x.1 x.2.1 x.2.2.1).trans h
noncomputable def F_fare_ticketPrice : (El Y29) → (El Y96) → (El Y60) → (El Y3) → Option (El Y3) := fun a0 a1 a2 a3 =>
 Option.bind
 (bif decide ((0 : Int) < a3) then
 Option.bind (idx a2 (IntKind.wrap .i64 (a3 - (1 : Int)))) fun x0 =>
 Option.bind (idx a2 a3) fun x1 => Option.bind (F_fare_within x0.2.1 x1.1 a0.2.2.1) fun x2 => some x2
 else some false)
 fun x3 => bif x3 then some (Tr.imax (0 : Int) (IntKind.wrap .i64 (a1.2.1 - a0.2.1))) else some a1.2.1
abbrev F_fare_ticketPriceA : Pats := (.cons (.pd Y29) (.cons (.pd Y96) (.cons (.pd Y60) (.cons (.pd Y3) .nil))))
abbrev F_fare_ticketPriceR : Pats := (.cons (.pd Y3) .nil)
noncomputable def F_fare_ticketPriceS : Tr.Spec := { args := F_fare_ticketPriceA, res := F_fare_ticketPriceR, fns := [], α := El Y3, f := fun x => F_fare_ticketPrice x.1 x.2.1 x.2.2.1 x.2.2.2.1, unp := fun z => (((), (), (), (), ()), (z, ())) }
noncomputable def F_fare_ticketPriceM : List (Nat × List Tr.Spec) := [(60, [F_fare_withinS])]
def F_fare_ticketPriceH : Hint := (.seq .leaf (.seq (.seq (.reg [(26, Y4)]) .leaf) .leaf))
noncomputable def F_fare_ticketPriceV (a0 : El Y29) (a1 : El Y96) (a2 : El Y60) (a3 : El Y3) : Option (El Y3) := evalF (mkE tyTab mapTab pkTab [] [] F_fare_ticketPriceM 35) (codeOf Tryz.f43) Tryz.f43.results F_fare_ticketPriceH F_fare_ticketPriceA F_fare_ticketPriceR (fun y => y.2.1) (a0, a1, a2, a3, ())
theorem F_fare_ticketPrice_eq (a0 : El Y29) (a1 : El Y96) (a2 : El Y60) (a3 : El Y3) : F_fare_ticketPriceV a0 a1 a2 a3 = F_fare_ticketPrice a0 a1 a2 a3 := by kernel_rfl
theorem F_fare_ticketPrice_ok : FnOK Tryz.prog 43 F_fare_ticketPriceS := fnOK_of (m := F_fare_ticketPriceM) (fn := Tryz.f43) (hint := F_fare_ticketPriceH) (pack := fun y => y.2.1) hmix tab_ok ⟨⟨F_fare_within_ok, trivial⟩, trivial⟩ fun x z h => (F_fare_ticketPrice_eq x.1 x.2.1 x.2.2.1 x.2.2.2.1).trans h
noncomputable def F_fare_rest_better : (El Y86) → (El Y3) → (El Y3) → Option (El Y4) := fun a0 a1 a2 =>
 Option.bind
 (bif !a0.1 then some true
 else
 bif decide (a1 < a0.2.1) then some true
 else bif decide (a1 = a0.2.1) then some (decide (a2 < a0.2.2.1)) else some false)
 fun x0 => some x0
abbrev F_fare_rest_betterA : Pats := (.cons (.pd Y86) (.cons (.pd Y3) (.cons (.pd Y3) .nil)))
abbrev F_fare_rest_betterR : Pats := (.cons (.pd Y4) .nil)
noncomputable def F_fare_rest_betterS : Tr.Spec := { args := F_fare_rest_betterA, res := F_fare_rest_betterR, fns := [], α := El Y4, f := fun x => F_fare_rest_better x.1 x.2.1 x.2.2.1, unp := fun z => (((), (), (), ()), (z, ())) }
noncomputable def F_fare_rest_betterM : List (Nat × List Tr.Spec) := []
def F_fare_rest_betterH : Hint := (.seq .leaf (.seq (.reg [(6, Y4)]) .leaf))
noncomputable def F_fare_rest_betterV (a0 : El Y86) (a1 : El Y3) (a2 : El Y3) : Option (El Y4) := evalF (mkE tyTab mapTab pkTab [] [] F_fare_rest_betterM 28) (codeOf Tryz.f44) Tryz.f44.results F_fare_rest_betterH F_fare_rest_betterA F_fare_rest_betterR (fun y => y.2.1) (a0, a1, a2, ())
theorem F_fare_rest_better_eq (a0 : El Y86) (a1 : El Y3) (a2 : El Y3) : F_fare_rest_betterV a0 a1 a2 = F_fare_rest_better a0 a1 a2 := by kernel_rfl
theorem F_fare_rest_better_ok : FnOK Tryz.prog 44 F_fare_rest_betterS := fnOK_of (m := F_fare_rest_betterM) (fn := Tryz.f44) (hint := F_fare_rest_betterH) (pack := fun y => y.2.1) hmix tab_ok trivial fun x z h => (F_fare_rest_better_eq x.1 x.2.1 x.2.2.1).trans h
noncomputable def F_fare_divide_1 : (El Y3) → (El Y3) → (El Y3) → (El Y29) → (El Y60) → (El Y87) → Option (El Y87) := fun a0 a1 a2 a3 a4 a5 =>
 Option.bind (idx a3.1 a2) fun x0 =>
 Option.bind (sliceB (List.length a4) (List.length a4) (some a0) (some (IntKind.wrap .i64 (a1 + (1 : Int))))) fun x1 =>
 Option.bind (F_product_Covers x0 (List.take (x1.2 - x1.1) (List.drop x1.1 a4))) fun x2 =>
 bif !x2 then some a5
 else
 Option.bind (idx a3.1 a2) fun x3 =>
 Option.bind (F_fare_ticketPrice a3 x3 a4 a0) fun x4 =>
 Option.bind (inb (IntKind.wrap .i64 (a1 + (1 : Int))) (9 : Nat)) fun x5 =>
 Option.bind a5[x5]? fun x6 =>
 Option.bind (inb (IntKind.wrap .i64 (a1 + (1 : Int))) (9 : Nat)) fun x7 =>
 Option.bind a5[x7]? fun x8 =>
 Option.bind (inb a0 (9 : Nat)) fun x9 =>
 Option.bind a5[x9]? fun x10 =>
 Option.bind (F_fare_rest_better x10 (IntKind.wrap .i64 (x4 + x6.2.1)) (IntKind.wrap .i64 (x8.2.2.1 + (1 : Int)))) fun x11 =>
 bif x11 then
 Option.bind (inb a0 (9 : Nat)) fun x12 =>
 Option.bind a5[x12]? fun _ =>
 some
 (List.set a5 x12
 (true, IntKind.wrap .i64 (x4 + x6.2.1), IntKind.wrap .i64 (x8.2.2.1 + (1 : Int)), (a2, a0, a1, x4, ()), ()))
 else some a5
abbrev F_fare_divide_1A : Pats := (.cons (.pd Y3) (.cons (.pd Y3) (.cons (.pd Y3) (.cons (.ro Y29) (.cons (.ro Y60) (.cons (.var Y87 (.pd Y87)) .nil))))))
abbrev F_fare_divide_1R : Pats := .nil
noncomputable def F_fare_divide_1S : Tr.Spec := { args := F_fare_divide_1A, res := F_fare_divide_1R, fns := [], α := El Y87, f := fun x => F_fare_divide_1 x.1 x.2.1 x.2.2.1 x.2.2.2.1 x.2.2.2.2.1 x.2.2.2.2.2.1, unp := fun z => (((), (), (), (), (), z, ()), ()) }
noncomputable def F_fare_divide_1M : List (Nat × List Tr.Spec) := [(42, [F_product_CoversS]), (43, [F_fare_ticketPriceS]), (44, [F_fare_rest_betterS])]
def F_fare_divide_1H : Hint := .leaf
noncomputable def F_fare_divide_1V (a0 : El Y3) (a1 : El Y3) (a2 : El Y3) (a3 : El Y29) (a4 : El Y60) (a5 : El Y87) : Option (El Y87) := evalF (mkE tyTab mapTab pkTab [] [] F_fare_divide_1M 62) (codeOf Tryz.f41) Tryz.f41.results F_fare_divide_1H F_fare_divide_1A F_fare_divide_1R (fun y => y.1.2.2.2.2.2.1) (a0, a1, a2, a3, a4, a5, ())
theorem F_fare_divide_1_eq (a0 : El Y3) (a1 : El Y3) (a2 : El Y3) (a3 : El Y29) (a4 : El Y60) (a5 : El Y87) : F_fare_divide_1V a0 a1 a2 a3 a4 a5 = F_fare_divide_1 a0 a1 a2 a3 a4 a5 := by kernel_rfl
theorem F_fare_divide_1_ok : FnOK Tryz.prog 41 F_fare_divide_1S := fnOK_of (m := F_fare_divide_1M) (fn := Tryz.f41) (hint := F_fare_divide_1H) (pack := fun y => y.1.2.2.2.2.2.1) hmix tab_ok ⟨⟨F_product_Covers_ok, trivial⟩, ⟨F_fare_ticketPrice_ok, trivial⟩, ⟨F_fare_rest_better_ok, trivial⟩, trivial⟩ fun x z h => (F_fare_divide_1_eq x.1 x.2.1 x.2.2.1 x.2.2.2.1 x.2.2.2.2.1 x.2.2.2.2.2.1).trans h
noncomputable def F_fare_divide : (El Y29) → (El Y60) → Option (El Y87) := fun a0 a1 =>
 Option.bind (inb (↑(List.length a1) : Int) (9 : Nat)) fun x0 =>
 Option.bind (Tr.zeroEl Y87)[x0]? fun x1 =>
 Option.bind
 (Tr.run
 (fun s2 =>
 bif decide ((0 : Int) ≤ s2.2) then
 Option.bind
 (Tr.run
 (fun s3 =>
 bif decide (s3.2 < (↑(List.length a1) : Int)) then
 Option.bind
 (Tr.run
 (fun s4 =>
 bif decide (s4.2 < (↑(List.length a0.1) : Int)) then
 Option.bind (inb (IntKind.wrap .i64 (s3.2 + (1 : Int))) (9 : Nat)) fun x5 =>
 Option.bind s4.1[x5]? fun x6 =>
 bif x6.1 then
 Option.bind (F_fare_divide_1 s2.2 s3.2 s4.2 a0 a1 s4.1) fun x7 => some (.inl (x7, IntKind.wrap .i64 (s4.2 + (1 : Int))))
 else some (.inl (s4.1, IntKind.wrap .i64 (s4.2 + (1 : Int))))
 else some (.inr s4.1))
 (s3.1, (0 : Int)))
 fun x8 => some (.inl (x8, IntKind.wrap .i64 (s3.2 + (1 : Int))))
 else some (.inr s3.1))
 (s2.1, s2.2))
 fun x9 => some (.inl (x9, IntKind.wrap .i64 (s2.2 - (1 : Int))))
 else some (.inr s2.1))
 (List.set (Tr.zeroEl Y87) x0 (true, x1.2), IntKind.wrap .i64 ((↑(List.length a1) : Int) - (1 : Int))))
 fun x10 => some x10
abbrev F_fare_divideA : Pats := (.cons (.pd Y29) (.cons (.pd Y60) .nil))
abbrev F_fare_divideR : Pats := (.cons (.pd Y87) .nil)
noncomputable def F_fare_divideS : Tr.Spec := { args := F_fare_divideA, res := F_fare_divideR, fns := [], α := El Y87, f := fun x => F_fare_divide x.1 x.2.1, unp := fun z => (((), (), ()), (z, ())) }
noncomputable def F_fare_divideM : List (Nat × List Tr.Spec) := [(41, [F_fare_divide_1S])]
def F_fare_divideH : Hint := (.seq .leaf (.seq .leaf (.seq .leaf (.seq .leaf (.seq .leaf (.seq (.seq .leaf (.lp ⟨[(5, (.var Y87 (.pd Y87))), (8, (.pd Y3))], [(7, 41, [2, 3, 5])], [2, 3, 4, 6], []⟩ [((.exit 0), ⟨[(5, (.var Y87 (.pd Y87)))], [], [4], []⟩)] (.seq .leaf (.seq (.seq .leaf (.lp ⟨[(5, (.var Y87 (.pd Y87))), (9, (.pd Y3))], [(7, 41, [2, 3, 5])], [2, 3, 4, 6, 8], []⟩ [((.exit 2), ⟨[(5, (.var Y87 (.pd Y87)))], [(7, 41, [2, 3, 5])], [2, 3, 4, 6, 8], []⟩)] (.seq .leaf (.seq (.seq .leaf (.lp ⟨[(5, (.var Y87 (.pd Y87))), (32, (.pd Y3))], [(7, 41, [2, 3, 5])], [2, 3, 4, 6, 8, 9, 31], []⟩ [((.exit 4), ⟨[(5, (.var Y87 (.pd Y87)))], [(7, 41, [2, 3, 5])], [2, 3, 4, 6, 8, 9], []⟩)] .leaf)) .leaf)))) .leaf)))) .leaf))))))
noncomputable def F_fare_divideV (a0 : El Y29) (a1 : El Y60) : Option (El Y87) := evalF (mkE tyTab mapTab pkTab [] [] F_fare_divideM 47) (codeOf Tryz.f24) Tryz.f24.results F_fare_divideH F_fare_divideA F_fare_divideR (fun y => y.2.1) (a0, a1, ())
theorem F_fare_divide_eq (a0 : El Y29) (a1 : El Y60) : F_fare_divideV a0 a1 = F_fare_divide a0 a1 := by kernel_rfl
theorem F_fare_divide_ok : FnOK Tryz.prog 24 F_fare_divideS := fnOK_of (m := F_fare_divideM) (fn := Tryz.f24) (hint := F_fare_divideH) (pack := fun y => y.2.1) hmix tab_ok ⟨⟨F_fare_divide_1_ok, trivial⟩, trivial⟩ fun x z h => (F_fare_divide_eq x.1 x.2.1).trans h
noncomputable def F_fare_capped : (El Y29) → (El Y3) → Option (El Y3) := fun a0 a1 =>
 Option.bind (bif decide ((0 : Int) < a0.2.2.2.1) then some (decide (a0.2.2.2.1 < a1)) else some false) fun x0 =>
 bif x0 then some a0.2.2.2.1 else some a1
abbrev F_fare_cappedA : Pats := (.cons (.pd Y29) (.cons (.pd Y3) .nil))
abbrev F_fare_cappedR : Pats := (.cons (.pd Y3) .nil)
noncomputable def F_fare_cappedS : Tr.Spec := { args := F_fare_cappedA, res := F_fare_cappedR, fns := [], α := El Y3, f := fun x => F_fare_capped x.1 x.2.1, unp := fun z => (((), (), ()), (z, ())) }
noncomputable def F_fare_cappedM : List (Nat × List Tr.Spec) := []
def F_fare_cappedH : Hint := (.seq .leaf (.seq (.seq (.reg [(13, Y4)]) .leaf) .leaf))
noncomputable def F_fare_cappedV (a0 : El Y29) (a1 : El Y3) : Option (El Y3) := evalF (mkE tyTab mapTab pkTab [] [] F_fare_cappedM 17) (codeOf Tryz.f25) Tryz.f25.results F_fare_cappedH F_fare_cappedA F_fare_cappedR (fun y => y.2.1) (a0, a1, ())
theorem F_fare_capped_eq (a0 : El Y29) (a1 : El Y3) : F_fare_cappedV a0 a1 = F_fare_capped a0 a1 := by kernel_rfl
theorem F_fare_capped_ok : FnOK Tryz.prog 25 F_fare_cappedS := fnOK_of (m := F_fare_cappedM) (fn := Tryz.f25) (hint := F_fare_cappedH) (pack := fun y => y.2.1) hmix tab_ok trivial fun x z h => (F_fare_capped_eq x.1 x.2.1).trans h
noncomputable def F_fare_Price : (El Y29) → (El Y60) → Option (El Y3 × El Y41 × El Y42) := fun a0 a1 =>
 Option.bind (F_fare_valid a0 a1) fun x0 =>
 bif !decide (x0 = (0 : Int)) then some ((0 : Int), [], x0)
 else
 Option.bind (F_fare_divide a0 a1) fun x1 =>
 Option.bind x1[Int.toNat (0 : Int)]? fun x2 =>
 bif !x2.1 then some ((0 : Int), [], (34 : Int))
 else
 Option.bind
 (Tr.run
 (fun s3 =>
 bif decide (s3.2 < (↑(List.length a1) : Int)) then
 Option.bind (inb s3.2 (9 : Nat)) fun x4 =>
 Option.bind x1[x4]? fun x5 =>
 Option.bind (guardB (decide (List.length s3.1 + List.length [x5.2.2.2.1] ≤ maxApp))) fun _ =>
 Option.bind (inb s3.2 (9 : Nat)) fun x7 =>
 Option.bind x1[x7]? fun x8 => some (.inl (s3.1 ++ [x5.2.2.2.1], IntKind.wrap .i64 (x8.2.2.2.1.2.2.1 + (1 : Int))))
 else some (.inr s3.1))
 ([], (0 : Int)))
 fun x9 => Option.bind x1[Int.toNat (0 : Int)]? fun x10 => Option.bind (F_fare_capped a0 x10.2.1) fun x11 => some (x11, x9, (0 : Int))
abbrev F_fare_PriceA : Pats := (.cons (.pd Y29) (.cons (.pd Y60) .nil))
abbrev F_fare_PriceR : Pats := (.cons (.pd Y3) (.cons (.pd Y41) (.cons (.pd Y42) .nil)))
noncomputable def F_fare_PriceS : Tr.Spec := { args := F_fare_PriceA, res := F_fare_PriceR, fns := [], α := El Y3 × El Y41 × El Y42, f := fun x => F_fare_Price x.1 x.2.1, unp := fun z => (((), (), ()), (z.1, z.2.1, z.2.2, ())) }
noncomputable def F_fare_PriceM : List (Nat × List Tr.Spec) := [(23, [F_fare_validS]), (24, [F_fare_divideS]), (25, [F_fare_cappedS])]
def F_fare_PriceH : Hint := (.seq .leaf (.seq .leaf (.seq .leaf (.seq .leaf (.seq .leaf (.seq (.seq .leaf (.lp ⟨[(9, (.own Y74 false)), (10, (.pd Y3))], [], [1, 2, 8], []⟩ [((.exit 0), ⟨[(9, (.own Y74 false))], [], [2, 8], []⟩)] .leaf)) .leaf))))))
noncomputable def F_fare_PriceV (a0 : El Y29) (a1 : El Y60) : Option (El Y3 × El Y41 × El Y42) := evalF (mkE tyTab mapTab pkTab [] [] F_fare_PriceM 47) (codeOf Tryz.f13) Tryz.f13.results F_fare_PriceH F_fare_PriceA F_fare_PriceR (fun y => (y.2.1, y.2.2.1, y.2.2.2.1)) (a0, a1, ())
theorem F_fare_Price_eq (a0 : El Y29) (a1 : El Y60) : F_fare_PriceV a0 a1 = F_fare_Price a0 a1 := by kernel_rfl
theorem F_fare_Price_ok : FnOK Tryz.prog 13 F_fare_PriceS := fnOK_of (m := F_fare_PriceM) (fn := Tryz.f13) (hint := F_fare_PriceH) (pack := fun y => (y.2.1, y.2.2.1, y.2.2.2.1)) hmix tab_ok ⟨⟨F_fare_valid_ok, trivial⟩, ⟨F_fare_divide_ok, trivial⟩, ⟨F_fare_capped_ok, trivial⟩, trivial⟩ fun x z h => (F_fare_Price_eq x.1 x.2.1).trans h
noncomputable def F_journey_Cost : (El Y31) → (El Y33) → (El Y36) → Option (El Y40 × El Y41 × El Y42) := fun a0 a1 a2 =>
 Option.bind (F_journey_Rides a0 a2) fun x0 =>
 bif !decide (x0.2 = (0 : Int)) then some (((0 : Int), (0 : Int), (0 : Int), (0 : Int), (0 : Int), ()), [], x0.2)
 else
 Option.bind (F_fare_Price a0.2.2.2.2.2.1 x0.1) fun x1 =>
 bif !decide (x1.2.2 = (0 : Int)) then some (((0 : Int), (0 : Int), (0 : Int), (0 : Int), (0 : Int), ()), [], x1.2.2)
 else
 Option.bind (F_journey_Walk a2) fun x2 =>
 Option.bind
 (bif decide ((0 : Int) < (↑(List.length a2.1) : Int)) then
 Option.bind (idx a2.1 (0 : Int)) fun x3 =>
 Option.bind (idx a2.1 (IntKind.wrap .i64 ((↑(List.length a2.1) : Int) - (1 : Int)))) fun x4 =>
 some (x3.2.2.2.2.2.2.1, x4.2.2.2.2.2.2.2.1, (↑(List.length x0.1) : Int), x1.1, x2, ())
 else some (a1.2.2.1, a1.2.2.1, (↑(List.length x0.1) : Int), x1.1, x2, ()))
 fun x5 => some (x5, x1.2.1, (0 : Int))
abbrev F_journey_CostA : Pats := (.cons (.pd Y31) (.cons (.pd Y33) (.cons (.pd Y36) .nil)))
abbrev F_journey_CostR : Pats := (.cons (.pd Y40) (.cons (.pd Y41) (.cons (.pd Y42) .nil)))
noncomputable def F_journey_CostS : Tr.Spec := { args := F_journey_CostA, res := F_journey_CostR, fns := [], α := El Y40 × El Y41 × El Y42, f := fun x => F_journey_Cost x.1 x.2.1 x.2.2.1, unp := fun z => (((), (), (), ()), (z.1, z.2.1, z.2.2, ())) }
noncomputable def F_journey_CostM : List (Nat × List Tr.Spec) := [(11, [F_journey_RidesS]), (12, [F_journey_WalkS]), (13, [F_fare_PriceS])]
def F_journey_CostH : Hint := (.seq .leaf (.seq .leaf (.seq .leaf (.seq .leaf (.seq .leaf (.seq .leaf (.seq (.seq .leaf (.seq .leaf (.cnd (some (⟨[], [], [6, 12], []⟩, [(.normal, ⟨[(13, (.var Y40 (.pd Y40)))], [], [6, 12], []⟩)])) .leaf .leaf))) .leaf)))))))
noncomputable def F_journey_CostV (a0 : El Y31) (a1 : El Y33) (a2 : El Y36) : Option (El Y40 × El Y41 × El Y42) := evalF (mkE tyTab mapTab pkTab [] [] F_journey_CostM 68) (codeOf Tryz.f6) Tryz.f6.results F_journey_CostH F_journey_CostA F_journey_CostR (fun y => (y.2.1, y.2.2.1, y.2.2.2.1)) (a0, a1, a2, ())
theorem F_journey_Cost_eq (a0 : El Y31) (a1 : El Y33) (a2 : El Y36) : F_journey_CostV a0 a1 a2 = F_journey_Cost a0 a1 a2 := by kernel_rfl
theorem F_journey_Cost_ok : FnOK Tryz.prog 6 F_journey_CostS := fnOK_of (m := F_journey_CostM) (fn := Tryz.f6) (hint := F_journey_CostH) (pack := fun y => (y.2.1, y.2.2.1, y.2.2.2.1)) hmix tab_ok ⟨⟨F_journey_Rides_ok, trivial⟩, ⟨F_journey_Walk_ok, trivial⟩, ⟨F_fare_Price_ok, trivial⟩, trivial⟩ fun x z h => (F_journey_Cost_eq x.1 x.2.1 x.2.2.1).trans h
noncomputable def F_ref26_ValidID : (El Y9) → Option (El Y4) := fun a0 =>
 Option.bind (bif decide ((↑(List.length a0) : Int) < (1 : Int)) then some true else some (decide ((32 : Int) < (↑(List.length a0) : Int)))) fun x0 =>
 bif x0 then some false
 else
 Option.bind
 (Tr.run
 (fun s1 =>
 bif decide (s1 < (↑(List.length a0) : Int)) then
 Option.bind (idx a0 s1) fun x2 =>
 Option.bind
 (bif decide ((97 : Int) ≤ (↑(UInt8.toNat x2) : Int)) then
 bif decide ((↑(UInt8.toNat x2) : Int) ≤ (122 : Int)) then some true
 else
 bif decide ((65 : Int) ≤ (↑(UInt8.toNat x2) : Int)) then
 bif decide ((↑(UInt8.toNat x2) : Int) ≤ (90 : Int)) then some true
 else bif decide ((48 : Int) ≤ (↑(UInt8.toNat x2) : Int)) then some (decide ((↑(UInt8.toNat x2) : Int) ≤ (57 : Int))) else some false
 else bif decide ((48 : Int) ≤ (↑(UInt8.toNat x2) : Int)) then some (decide ((↑(UInt8.toNat x2) : Int) ≤ (57 : Int))) else some false
 else
 bif decide ((65 : Int) ≤ (↑(UInt8.toNat x2) : Int)) then
 bif decide ((↑(UInt8.toNat x2) : Int) ≤ (90 : Int)) then some true
 else bif decide ((48 : Int) ≤ (↑(UInt8.toNat x2) : Int)) then some (decide ((↑(UInt8.toNat x2) : Int) ≤ (57 : Int))) else some false
 else bif decide ((48 : Int) ≤ (↑(UInt8.toNat x2) : Int)) then some (decide ((↑(UInt8.toNat x2) : Int) ≤ (57 : Int))) else some false)
 fun x3 =>
 Option.bind
 (bif !x3 then
 bif !decide ((↑(UInt8.toNat x2) : Int) = (45 : Int)) then
 bif !decide ((↑(UInt8.toNat x2) : Int) = (95 : Int)) then some !decide ((↑(UInt8.toNat x2) : Int) = (46 : Int)) else some false
 else some false
 else some false)
 fun x4 => bif x4 then some (.inr (.inr false)) else some (.inl (IntKind.wrap .i64 (s1 + (1 : Int))))
 else some (.inr (.inl ())))
 (0 : Int))
 fun x5 => Sum.elim (fun _ => some true) (fun y7 => some y7) x5
abbrev F_ref26_ValidIDA : Pats := (.cons (.pd Y9) .nil)
abbrev F_ref26_ValidIDR : Pats := (.cons (.pd Y4) .nil)
noncomputable def F_ref26_ValidIDS : Tr.Spec := { args := F_ref26_ValidIDA, res := F_ref26_ValidIDR, fns := [], α := El Y4, f := fun x => F_ref26_ValidID x.1, unp := fun z => (((), ()), (z, ())) }
noncomputable def F_ref26_ValidIDM : List (Nat × List Tr.Spec) := []
def F_ref26_ValidIDH : Hint := (.seq .leaf (.seq (.seq (.reg [(13, Y4)]) .leaf) (.seq (.seq .leaf (.lp ⟨[(3, (.pd Y3))], [], [0], []⟩ [((.exit 0), ⟨[], [], [], []⟩), (.ret, ⟨[(2, (.pd Y4))], [], [], []⟩)] (.seq .leaf (.seq (.seq .leaf (.seq (.reg [(5, Y4)]) (.seq (.reg [(58, Y4)]) .leaf))) .leaf)))) .leaf)))
noncomputable def F_ref26_ValidIDV (a0 : El Y9) : Option (El Y4) := evalF (mkE tyTab mapTab pkTab [] [] F_ref26_ValidIDM 59) (codeOf Tryz.f70) Tryz.f70.results F_ref26_ValidIDH F_ref26_ValidIDA F_ref26_ValidIDR (fun y => y.2.1) (a0, ())
theorem F_ref26_ValidID_eq (a0 : El Y9) : F_ref26_ValidIDV a0 = F_ref26_ValidID a0 := by kernel_rfl
theorem F_ref26_ValidID_ok : FnOK Tryz.prog 70 F_ref26_ValidIDS := fnOK_of (m := F_ref26_ValidIDM) (fn := Tryz.f70) (hint := F_ref26_ValidIDH) (pack := fun y => y.2.1) hmix tab_ok trivial fun x z h => (F_ref26_ValidID_eq x.1).trans h
noncomputable def F_ref26_in : (El Y3) → (El Y3) → (El Y3) → Option (El Y4) := fun a0 a1 a2 => Option.bind (bif decide (a1 ≤ a0) then some (decide (a0 ≤ a2)) else some false) fun x0 => some x0
abbrev F_ref26_inA : Pats := (.cons (.pd Y3) (.cons (.pd Y3) (.cons (.pd Y3) .nil)))
abbrev F_ref26_inR : Pats := (.cons (.pd Y4) .nil)
noncomputable def F_ref26_inS : Tr.Spec := { args := F_ref26_inA, res := F_ref26_inR, fns := [], α := El Y4, f := fun x => F_ref26_in x.1 x.2.1 x.2.2.1, unp := fun z => (((), (), (), ()), (z, ())) }
noncomputable def F_ref26_inM : List (Nat × List Tr.Spec) := []
def F_ref26_inH : Hint := (.seq .leaf (.seq (.reg [(6, Y4)]) .leaf))
noncomputable def F_ref26_inV (a0 : El Y3) (a1 : El Y3) (a2 : El Y3) : Option (El Y4) := evalF (mkE tyTab mapTab pkTab [] [] F_ref26_inM 15) (codeOf Tryz.f71) Tryz.f71.results F_ref26_inH F_ref26_inA F_ref26_inR (fun y => y.2.1) (a0, a1, a2, ())
theorem F_ref26_in_eq (a0 : El Y3) (a1 : El Y3) (a2 : El Y3) : F_ref26_inV a0 a1 a2 = F_ref26_in a0 a1 a2 := by kernel_rfl
theorem F_ref26_in_ok : FnOK Tryz.prog 71 F_ref26_inS := fnOK_of (m := F_ref26_inM) (fn := Tryz.f71) (hint := F_ref26_inH) (pack := fun y => y.2.1) hmix tab_ok trivial fun x z h => (F_ref26_in_eq x.1 x.2.1 x.2.2.1).trans h
noncomputable def F_ref26_stops : (El Y22) → Option (El Y3 × El Y42) := fun a0 =>
 bif decide ((64 : Int) < (↑(List.length a0) : Int)) then some ((0 : Int), (5 : Int))
 else
 Option.bind
 (Tr.run
 (fun s0 =>
 bif decide (s0 < (↑(List.length a0) : Int)) then
 Option.bind (idx a0 s0) fun x1 =>
 Option.bind (F_ref26_ValidID x1.1) fun x2 =>
 bif !x2 then some (.inr (.inr (s0, (12 : Int))))
 else
 Option.bind
 (Tr.run
 (fun s3 =>
 bif decide (s3 < s0) then
 Option.bind (idx a0 s3) fun x4 =>
 Option.bind (idx a0 s0) fun x5 =>
 bif decide (x4.1 = x5.1) then some (.inr (.inr (s0, (6 : Int)))) else some (.inl (IntKind.wrap .i64 (s3 + (1 : Int))))
 else some (.inr (.inl ())))
 (0 : Int))
 fun x6 =>
 Sum.elim
 (fun _ =>
 Option.bind
 (Option.bind (idx a0 s0) fun x8 =>
 Option.bind (F_ref26_in x8.2.1 (0 : Int) (15 : Int)) fun x9 =>
 bif !x9 then some true
 else Option.bind (idx a0 s0) fun x10 => Option.bind (F_ref26_in x10.2.2.2.1 (0 : Int) (3600 : Int)) fun x11 => some !x11)
 fun x12 => bif x12 then some (.inr (.inr (s0, (2 : Int)))) else some (.inl (IntKind.wrap .i64 (s0 + (1 : Int)))))
 (fun y13 => some (.inr (.inr (y13.1, y13.2)))) x6
 else some (.inr (.inl ())))
 (0 : Int))
 fun x14 => Sum.elim (fun _ => some ((0 : Int), (0 : Int))) (fun y16 => some (y16.1, y16.2)) x14
abbrev F_ref26_stopsA : Pats := (.cons (.pd Y22) .nil)
abbrev F_ref26_stopsR : Pats := (.cons (.pd Y3) (.cons (.pd Y42) .nil))
noncomputable def F_ref26_stopsS : Tr.Spec := { args := F_ref26_stopsA, res := F_ref26_stopsR, fns := [], α := El Y3 × El Y42, f := fun x => F_ref26_stops x.1, unp := fun z => (((), ()), (z.1, z.2, ())) }
noncomputable def F_ref26_stopsM : List (Nat × List Tr.Spec) := [(70, [F_ref26_ValidIDS]), (71, [F_ref26_inS])]
def F_ref26_stopsH : Hint := (.seq .leaf (.seq .leaf (.seq (.seq .leaf (.lp ⟨[(4, (.pd Y3))], [], [0], []⟩ [((.exit 0), ⟨[], [], [], []⟩), (.ret, ⟨[(2, (.pd Y3)), (3, (.pd Y42))], [], [], []⟩)] (.seq .leaf (.seq (.seq .leaf (.seq (.seq .leaf (.lp ⟨[(5, (.pd Y3))], [], [0, 4], []⟩ [((.exit 2), ⟨[], [], [0, 4], []⟩), (.ret, ⟨[(2, (.pd Y3)), (3, (.pd Y42))], [], [], []⟩)] .leaf)) (.seq (.reg [(55, Y4)]) .leaf))) .leaf)))) .leaf)))
noncomputable def F_ref26_stopsV (a0 : El Y22) : Option (El Y3 × El Y42) := evalF (mkE tyTab mapTab pkTab [] [] F_ref26_stopsM 57) (codeOf Tryz.f61) Tryz.f61.results F_ref26_stopsH F_ref26_stopsA F_ref26_stopsR (fun y => (y.2.1, y.2.2.1)) (a0, ())
theorem F_ref26_stops_eq (a0 : El Y22) : F_ref26_stopsV a0 = F_ref26_stops a0 := by kernel_rfl
theorem F_ref26_stops_ok : FnOK Tryz.prog 61 F_ref26_stopsS := fnOK_of (m := F_ref26_stopsM) (fn := Tryz.f61) (hint := F_ref26_stopsH) (pack := fun y => (y.2.1, y.2.2.1)) hmix tab_ok ⟨⟨F_ref26_ValidID_ok, trivial⟩, ⟨F_ref26_in_ok, trivial⟩, trivial⟩ fun x z h => (F_ref26_stops_eq x.1).trans h
noncomputable def F_ref26_routes : (El Y23) → Option (El Y3 × El Y42) := fun a0 =>
 bif decide ((64 : Int) < (↑(List.length a0) : Int)) then some ((0 : Int), (5 : Int))
 else
 Option.bind
 (Tr.run
 (fun s0 =>
 bif decide (s0 < (↑(List.length a0) : Int)) then
 Option.bind (idx a0 s0) fun x1 =>
 Option.bind (F_ref26_ValidID x1.1) fun x2 =>
 bif !x2 then some (.inr (.inr (s0, (12 : Int))))
 else
 Option.bind
 (Tr.run
 (fun s3 =>
 bif decide (s3 < s0) then
 Option.bind (idx a0 s3) fun x4 =>
 Option.bind (idx a0 s0) fun x5 =>
 bif decide (x4.1 = x5.1) then some (.inr (.inr (s0, (6 : Int)))) else some (.inl (IntKind.wrap .i64 (s3 + (1 : Int))))
 else some (.inr (.inl ())))
 (0 : Int))
 fun x6 =>
 Sum.elim
 (fun _ =>
 Option.bind (idx a0 s0) fun x8 =>
 Option.bind (F_ref26_in x8.2.1 (0 : Int) (7 : Int)) fun x9 =>
 bif !x9 then some (.inr (.inr (s0, (2 : Int)))) else some (.inl (IntKind.wrap .i64 (s0 + (1 : Int)))))
 (fun y10 => some (.inr (.inr (y10.1, y10.2)))) x6
 else some (.inr (.inl ())))
 (0 : Int))
 fun x11 => Sum.elim (fun _ => some ((0 : Int), (0 : Int))) (fun y13 => some (y13.1, y13.2)) x11
abbrev F_ref26_routesA : Pats := (.cons (.pd Y23) .nil)
abbrev F_ref26_routesR : Pats := (.cons (.pd Y3) (.cons (.pd Y42) .nil))
noncomputable def F_ref26_routesS : Tr.Spec := { args := F_ref26_routesA, res := F_ref26_routesR, fns := [], α := El Y3 × El Y42, f := fun x => F_ref26_routes x.1, unp := fun z => (((), ()), (z.1, z.2, ())) }
noncomputable def F_ref26_routesM : List (Nat × List Tr.Spec) := [(70, [F_ref26_ValidIDS]), (71, [F_ref26_inS])]
def F_ref26_routesH : Hint := (.seq .leaf (.seq .leaf (.seq (.seq .leaf (.lp ⟨[(4, (.pd Y3))], [], [0], []⟩ [((.exit 0), ⟨[], [], [], []⟩), (.ret, ⟨[(2, (.pd Y3)), (3, (.pd Y42))], [], [], []⟩)] (.seq .leaf (.seq (.seq .leaf (.seq (.seq .leaf (.lp ⟨[(5, (.pd Y3))], [], [0, 4], []⟩ [((.exit 2), ⟨[], [], [0, 4], []⟩), (.ret, ⟨[(2, (.pd Y3)), (3, (.pd Y42))], [], [], []⟩)] .leaf)) .leaf)) .leaf)))) .leaf)))
noncomputable def F_ref26_routesV (a0 : El Y23) : Option (El Y3 × El Y42) := evalF (mkE tyTab mapTab pkTab [] [] F_ref26_routesM 48) (codeOf Tryz.f62) Tryz.f62.results F_ref26_routesH F_ref26_routesA F_ref26_routesR (fun y => (y.2.1, y.2.2.1)) (a0, ())
theorem F_ref26_routes_eq (a0 : El Y23) : F_ref26_routesV a0 = F_ref26_routes a0 := by kernel_rfl
theorem F_ref26_routes_ok : FnOK Tryz.prog 62 F_ref26_routesS := fnOK_of (m := F_ref26_routesM) (fn := Tryz.f62) (hint := F_ref26_routesH) (pack := fun y => (y.2.1, y.2.2.1)) hmix tab_ok ⟨⟨F_ref26_ValidID_ok, trivial⟩, ⟨F_ref26_in_ok, trivial⟩, trivial⟩ fun x z h => (F_ref26_routes_eq x.1).trans h
noncomputable def F_ref26_Calls : (El Y51) → (El Y3) → (El Y3) → (El Y3) → Option (El Y42) := fun a0 a1 a2 a3 =>
 Option.bind (bif decide ((↑(List.length a0) : Int) < (2 : Int)) then some true else some (decide ((32 : Int) < (↑(List.length a0) : Int)))) fun x0 =>
 bif x0 then some (5 : Int)
 else
 Option.bind
 (Tr.run
 (fun s1 =>
 bif decide (s1 < (↑(List.length a0) : Int)) then
 Option.bind (idx a0 s1) fun x2 =>
 Option.bind (bif decide (x2.1 < (0 : Int)) then some true else some (decide (a1 ≤ x2.1))) fun x3 =>
 bif x3 then some (.inr (.inr (9 : Int)))
 else
 Option.bind
 (bif decide ((0 : Int) < s1) then Option.bind (idx a0 (IntKind.wrap .i64 (s1 - (1 : Int)))) fun x4 => some (decide (x4.1 = x2.1))
 else some false)
 fun x5 =>
 bif x5 then some (.inr (.inr (13 : Int)))
 else
 Option.bind
 (bif decide (x2.2.1 < a2) then some true
 else
 bif decide (x2.2.2.1 < x2.2.1) then some true
 else
 bif decide (a3 < x2.2.2.1) then some true
 else
 bif decide ((0 : Int) < s1) then
 Option.bind (idx a0 (IntKind.wrap .i64 (s1 - (1 : Int)))) fun x6 => some (decide (x2.2.1 < x6.2.2.1))
 else some false)
 fun x7 => bif x7 then some (.inr (.inr (10 : Int))) else some (.inl (IntKind.wrap .i64 (s1 + (1 : Int))))
 else some (.inr (.inl ())))
 (0 : Int))
 fun x8 => Sum.elim (fun _ => some (0 : Int)) (fun y10 => some y10) x8
abbrev F_ref26_CallsA : Pats := (.cons (.pd Y51) (.cons (.pd Y3) (.cons (.pd Y3) (.cons (.pd Y3) .nil))))
abbrev F_ref26_CallsR : Pats := (.cons (.pd Y42) .nil)
noncomputable def F_ref26_CallsS : Tr.Spec := { args := F_ref26_CallsA, res := F_ref26_CallsR, fns := [], α := El Y42, f := fun x => F_ref26_Calls x.1 x.2.1 x.2.2.1 x.2.2.2.1, unp := fun z => (((), (), (), (), ()), (z, ())) }
noncomputable def F_ref26_CallsM : List (Nat × List Tr.Spec) := []
def F_ref26_CallsH : Hint := (.seq .leaf (.seq (.seq (.reg [(18, Y4)]) .leaf) (.seq (.seq .leaf (.lp ⟨[(9, (.pd Y3))], [], [0, 1, 2, 3], []⟩ [((.exit 0), ⟨[], [], [], []⟩), (.ret, ⟨[(8, (.pd Y42))], [], [], []⟩)] (.seq .leaf (.seq (.seq .leaf (.seq (.seq (.reg [(37, Y4)]) .leaf) (.seq (.seq (.reg [(50, Y4)]) .leaf) (.seq (.reg [(82, Y4)]) .leaf)))) .leaf)))) .leaf)))
noncomputable def F_ref26_CallsV (a0 : El Y51) (a1 : El Y3) (a2 : El Y3) (a3 : El Y3) : Option (El Y42) := evalF (mkE tyTab mapTab pkTab [] [] F_ref26_CallsM 83) (codeOf Tryz.f72) Tryz.f72.results F_ref26_CallsH F_ref26_CallsA F_ref26_CallsR (fun y => y.2.1) (a0, a1, a2, a3, ())
theorem F_ref26_Calls_eq (a0 : El Y51) (a1 : El Y3) (a2 : El Y3) (a3 : El Y3) : F_ref26_CallsV a0 a1 a2 a3 = F_ref26_Calls a0 a1 a2 a3 := by kernel_rfl
theorem F_ref26_Calls_ok : FnOK Tryz.prog 72 F_ref26_CallsS := fnOK_of (m := F_ref26_CallsM) (fn := Tryz.f72) (hint := F_ref26_CallsH) (pack := fun y => y.2.1) hmix tab_ok trivial fun x z h => (F_ref26_Calls_eq x.1 x.2.1 x.2.2.1 x.2.2.2.1).trans h
noncomputable def F_ref26_run : (El Y31) → (El Y3) → Option (El Y42) := fun a0 a1 =>
 Option.bind (idx a0.2.2.1 a1) fun x0 =>
 Option.bind (F_ref26_ValidID x0.2.2.2.1) fun x1 =>
 bif !x1 then some (12 : Int)
 else
 Option.bind (bif decide (x0.1 < (-1 : Int)) then some true else some (decide (x0.2.2.1 < (0 : Int)))) fun x2 =>
 bif x2 then some (2 : Int)
 else
 Option.bind (F_ref26_in x0.2.1 (0 : Int) (36524 : Int)) fun x3 =>
 bif !x3 then some (11 : Int)
 else
 Option.bind
 (bif decide (x0.2.2.2.2.1 < (0 : Int)) then some true
 else some (decide ((↑(List.length a0.2.1) : Int) ≤ x0.2.2.2.2.1)))
 fun x4 =>
 bif x4 then some (9 : Int)
 else
 Option.bind (F_ref26_Calls x0.2.2.2.2.2.2.2.1 (↑(List.length a0.1) : Int) (0 : Int) (3155932800 : Int)) fun x5 =>
 bif !decide (x5 = (0 : Int)) then some x5
 else
 Option.bind
 (Tr.run
 (fun s6 =>
 bif decide (s6 < a1) then
 Option.bind (idx a0.2.2.1 s6) fun x7 =>
 Option.bind
 (bif decide (x7.2.2.2.1 = x0.2.2.2.1) then
 bif decide (x7.2.1 = x0.2.1) then some (decide (x7.2.2.1 = x0.2.2.1)) else some false
 else some false)
 fun x8 => bif x8 then some (.inr (.inr (6 : Int))) else some (.inl (IntKind.wrap .i64 (s6 + (1 : Int))))
 else some (.inr (.inl ())))
 (0 : Int))
 fun x9 => Sum.elim (fun _ => some (0 : Int)) (fun y11 => some y11) x9
abbrev F_ref26_runA : Pats := (.cons (.pd Y31) (.cons (.pd Y3) .nil))
abbrev F_ref26_runR : Pats := (.cons (.pd Y42) .nil)
noncomputable def F_ref26_runS : Tr.Spec := { args := F_ref26_runA, res := F_ref26_runR, fns := [], α := El Y42, f := fun x => F_ref26_run x.1 x.2.1, unp := fun z => (((), (), ()), (z, ())) }
noncomputable def F_ref26_runM : List (Nat × List Tr.Spec) := [(70, [F_ref26_ValidIDS]), (71, [F_ref26_inS]), (72, [F_ref26_CallsS])]
def F_ref26_runH : Hint := (.seq .leaf (.seq .leaf (.seq .leaf (.seq (.seq (.reg [(25, Y4)]) .leaf) (.seq .leaf (.seq (.seq (.reg [(40, Y4)]) .leaf) (.seq .leaf (.seq .leaf (.seq (.seq .leaf (.lp ⟨[(7, (.pd Y3))], [], [1, 2, 5], []⟩ [((.exit 0), ⟨[], [], [], []⟩), (.ret, ⟨[(4, (.pd Y42))], [], [], []⟩)] (.seq .leaf (.seq (.seq .leaf (.seq (.reg [(78, Y4)]) .leaf)) .leaf)))) .leaf)))))))))
noncomputable def F_ref26_runV (a0 : El Y31) (a1 : El Y3) : Option (El Y42) := evalF (mkE tyTab mapTab pkTab [] [] F_ref26_runM 79) (codeOf Tryz.f63) Tryz.f63.results F_ref26_runH F_ref26_runA F_ref26_runR (fun y => y.2.1) (a0, a1, ())
theorem F_ref26_run_eq (a0 : El Y31) (a1 : El Y3) : F_ref26_runV a0 a1 = F_ref26_run a0 a1 := by kernel_rfl
theorem F_ref26_run_ok : FnOK Tryz.prog 63 F_ref26_runS := fnOK_of (m := F_ref26_runM) (fn := Tryz.f63) (hint := F_ref26_runH) (pack := fun y => y.2.1) hmix tab_ok ⟨⟨F_ref26_ValidID_ok, trivial⟩, ⟨F_ref26_in_ok, trivial⟩, ⟨F_ref26_Calls_ok, trivial⟩, trivial⟩ fun x z h => (F_ref26_run_eq x.1 x.2.1).trans h
noncomputable def F_ref26_leads : (El Y31) → (El Y3) → (El Y3) → (El Y3) → Option (El Y4) := fun a0 a1 a2 a3 =>
 Option.bind
 (Tr.run
 (fun s0 =>
 bif decide (s0.2 ≤ a1) then
 Option.bind
 (Tr.run
 (fun s1 =>
 bif decide (s1.2 < a1) then
 Option.bind
 (Option.bind (idx a0.2.2.2.1 s1.2) fun x2 =>
 bif x2.2.2.2.2.1 then Option.bind (idx a0.2.2.2.1 s1.2) fun x3 => some (decide (x3.1 = s0.1)) else some false)
 fun x4 =>
 bif x4 then Option.bind (idx a0.2.2.2.1 s1.2) fun x5 => some (.inl (x5.2.2.1, IntKind.wrap .i64 (s1.2 + (1 : Int))))
 else some (.inl (s1.1, IntKind.wrap .i64 (s1.2 + (1 : Int))))
 else some (.inr s1.1))
 ((-1 : Int), (0 : Int)))
 fun x6 => bif decide (x6 = a3) then some (.inr (.inr true)) else some (.inl (x6, IntKind.wrap .i64 (s0.2 + (1 : Int))))
 else some (.inr (.inl ())))
 (a2, (0 : Int)))
 fun x7 => Sum.elim (fun _ => some false) (fun y9 => some y9) x7
abbrev F_ref26_leadsA : Pats := (.cons (.pd Y31) (.cons (.pd Y3) (.cons (.pd Y3) (.cons (.pd Y3) .nil))))
abbrev F_ref26_leadsR : Pats := (.cons (.pd Y4) .nil)
noncomputable def F_ref26_leadsS : Tr.Spec := { args := F_ref26_leadsA, res := F_ref26_leadsR, fns := [], α := El Y4, f := fun x => F_ref26_leads x.1 x.2.1 x.2.2.1 x.2.2.2.1, unp := fun z => (((), (), (), (), ()), (z, ())) }
noncomputable def F_ref26_leadsM : List (Nat × List Tr.Spec) := []
def F_ref26_leadsH : Hint := (.seq .leaf (.seq (.seq .leaf (.lp ⟨[(2, (.pd Y3)), (9, (.pd Y3))], [], [1, 3, 4], []⟩ [((.exit 0), ⟨[], [], [], []⟩), (.ret, ⟨[(8, (.pd Y4))], [], [], []⟩)] (.seq .leaf (.seq (.seq .leaf (.seq (.seq .leaf (.lp ⟨[(10, (.pd Y3)), (11, (.pd Y3))], [], [1, 2, 3, 4, 9], []⟩ [((.exit 2), ⟨[(10, (.pd Y3))], [], [1, 3, 4, 9], []⟩)] (.seq .leaf (.seq (.seq (.reg [(37, Y4)]) .leaf) .leaf)))) .leaf)) .leaf)))) .leaf))
noncomputable def F_ref26_leadsV (a0 : El Y31) (a1 : El Y3) (a2 : El Y3) (a3 : El Y3) : Option (El Y4) := evalF (mkE tyTab mapTab pkTab [] [] F_ref26_leadsM 48) (codeOf Tryz.f73) Tryz.f73.results F_ref26_leadsH F_ref26_leadsA F_ref26_leadsR (fun y => y.2.1) (a0, a1, a2, a3, ())
theorem F_ref26_leads_eq (a0 : El Y31) (a1 : El Y3) (a2 : El Y3) (a3 : El Y3) : F_ref26_leadsV a0 a1 a2 a3 = F_ref26_leads a0 a1 a2 a3 := by kernel_rfl
theorem F_ref26_leads_ok : FnOK Tryz.prog 73 F_ref26_leadsS := fnOK_of (m := F_ref26_leadsM) (fn := Tryz.f73) (hint := F_ref26_leadsH) (pack := fun y => y.2.1) hmix tab_ok trivial fun x z h => (F_ref26_leads_eq x.1 x.2.1 x.2.2.1 x.2.2.2.1).trans h
noncomputable def F_ref26_link : (El Y31) → (El Y3) → Option (El Y42) := fun a0 a1 =>
 Option.bind (idx a0.2.2.2.1 a1) fun x0 =>
 Option.bind
 (Option.bind (F_ref26_in x0.1 (0 : Int) (IntKind.wrap .i64 ((↑(List.length a0.2.2.1) : Int) - (1 : Int)))) fun x1 =>
 bif !x1 then some true
 else
 Option.bind (F_ref26_in x0.2.2.1 (0 : Int) (IntKind.wrap .i64 ((↑(List.length a0.2.2.1) : Int) - (1 : Int)))) fun x2 =>
 bif !x2 then some true else some (decide (x0.1 = x0.2.2.1)))
 fun x3 =>
 bif x3 then some (9 : Int)
 else
 Option.bind (idx a0.2.2.1 x0.1) fun x4 =>
 Option.bind (idx a0.2.2.1 x0.2.2.1) fun x5 =>
 Option.bind
 (Option.bind (F_ref26_in x0.2.1 (0 : Int) (IntKind.wrap .i64 ((↑(List.length x4.2.2.2.2.2.2.2.1) : Int) - (1 : Int)))) fun x6 =>
 bif !x6 then some true
 else
 Option.bind (F_ref26_in x0.2.2.2.1 (0 : Int) (IntKind.wrap .i64 ((↑(List.length x5.2.2.2.2.2.2.2.1) : Int) - (1 : Int)))) fun x7 =>
 some !x7)
 fun x8 =>
 bif x8 then some (9 : Int)
 else
 Option.bind (idx x4.2.2.2.2.2.2.2.1 x0.2.1) fun x9 =>
 Option.bind (idx x5.2.2.2.2.2.2.2.1 x0.2.2.2.1) fun x10 =>
 bif !decide (x9.1 = x10.1) then some (13 : Int)
 else
 Option.bind
 (bif x0.2.2.2.2.1 then
 bif !decide (x0.2.1 = IntKind.wrap .i64 ((↑(List.length x4.2.2.2.2.2.2.2.1) : Int) - (1 : Int))) then some true
 else some !decide (x0.2.2.2.1 = (0 : Int))
 else some false)
 fun x11 =>
 bif x11 then some (19 : Int)
 else
 Option.bind
 (Tr.run
 (fun s12 =>
 bif decide (s12 < a1) then
 Option.bind (idx a0.2.2.2.1 s12) fun x13 =>
 Option.bind
 (bif x0.2.2.2.2.1 then
 bif x13.2.2.2.2.1 then
 bif decide (x13.1 = x0.1) then some true else some (decide (x13.2.2.1 = x0.2.2.1))
 else some false
 else some false)
 fun x14 => bif x14 then some (.inr (.inr (19 : Int))) else some (.inl (IntKind.wrap .i64 (s12 + (1 : Int))))
 else some (.inr (.inl ())))
 (0 : Int))
 fun x15 =>
 Sum.elim
 (fun _ =>
 Option.bind (bif x0.2.2.2.2.1 then Option.bind (F_ref26_leads a0 a1 x0.2.2.1 x0.1) fun x17 => some x17 else some false) fun x18 =>
 bif x18 then some (19 : Int)
 else
 Option.bind
 (Tr.run
 (fun s19 =>
 bif decide (s19 < a1) then
 Option.bind (idx a0.2.2.2.1 s19) fun x20 =>
 Option.bind
 (bif decide (x20.1 = x0.1) then
 bif decide (x20.2.1 = x0.2.1) then
 bif decide (x20.2.2.1 = x0.2.2.1) then some (decide (x20.2.2.2.1 = x0.2.2.2.1))
 else some false
 else some false
 else some false)
 fun x21 => bif x21 then some (.inr (.inr (6 : Int))) else some (.inl (IntKind.wrap .i64 (s19 + (1 : Int))))
 else some (.inr (.inl ())))
 (0 : Int))
 fun x22 => Sum.elim (fun _ => some (0 : Int)) (fun y24 => some y24) x22)
 (fun y25 => some y25) x15
abbrev F_ref26_linkA : Pats := (.cons (.pd Y31) (.cons (.pd Y3) .nil))
abbrev F_ref26_linkR : Pats := (.cons (.pd Y42) .nil)
noncomputable def F_ref26_linkS : Tr.Spec := { args := F_ref26_linkA, res := F_ref26_linkR, fns := [], α := El Y42, f := fun x => F_ref26_link x.1 x.2.1, unp := fun z => (((), (), ()), (z, ())) }
noncomputable def F_ref26_linkM : List (Nat × List Tr.Spec) := [(71, [F_ref26_inS]), (73, [F_ref26_leadsS])]
def F_ref26_linkH : Hint := (.seq .leaf (.seq .leaf (.seq (.seq (.reg [(41, Y4)]) .leaf) (.seq .leaf (.seq (.seq (.reg [(71, Y4)]) .leaf) (.seq .leaf (.seq (.seq (.reg [(99, Y4)]) .leaf) (.seq (.seq .leaf (.lp ⟨[(8, (.pd Y3))], [], [1, 2, 5], []⟩ [((.exit 0), ⟨[], [], [1, 2, 5], []⟩), (.ret, ⟨[(4, (.pd Y42))], [], [], []⟩)] (.seq .leaf (.seq (.seq .leaf (.seq (.reg [(129, Y4)]) .leaf)) .leaf)))) (.seq (.seq (.reg [(140, Y4)]) .leaf) (.seq (.seq .leaf (.lp ⟨[(10, (.pd Y3))], [], [1, 2, 5], []⟩ [((.exit 2), ⟨[], [], [], []⟩), (.ret, ⟨[(4, (.pd Y42))], [], [], []⟩)] (.seq .leaf (.seq (.seq .leaf (.seq (.reg [(176, Y4)]) .leaf)) .leaf)))) .leaf))))))))))
noncomputable def F_ref26_linkV (a0 : El Y31) (a1 : El Y3) : Option (El Y42) := evalF (mkE tyTab mapTab pkTab [] [] F_ref26_linkM 177) (codeOf Tryz.f64) Tryz.f64.results F_ref26_linkH F_ref26_linkA F_ref26_linkR (fun y => y.2.1) (a0, a1, ())
theorem F_ref26_link_eq (a0 : El Y31) (a1 : El Y3) : F_ref26_linkV a0 a1 = F_ref26_link a0 a1 := by kernel_rfl
theorem F_ref26_link_ok : FnOK Tryz.prog 64 F_ref26_linkS := fnOK_of (m := F_ref26_linkM) (fn := Tryz.f64) (hint := F_ref26_linkH) (pack := fun y => y.2.1) hmix tab_ok ⟨⟨F_ref26_in_ok, trivial⟩, ⟨F_ref26_leads_ok, trivial⟩, trivial⟩ fun x z h => (F_ref26_link_eq x.1 x.2.1).trans h
end Q
