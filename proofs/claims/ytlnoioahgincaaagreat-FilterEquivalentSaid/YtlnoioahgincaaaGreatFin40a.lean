/- The functions of the program as functions of Lean, and that the program computes them; printed by a program of mine. Conditions: none. -/
import Derived.Test.YtlnoioahgincaaaGreatTsE
import Derived.KernelRfl
import Derived.Test.YtlnoioahgincaaaGreatTtB
import Derived.Test.YtlnoioahgincaaaGreatLay40
import Derived.Test.YtlnoioahgincaaaGreatUse40
import Derived.Test.YtlnoioahgincaaaGreatProg
open Tr Go Go.Proofs
namespace Q
abbrev Y3 : Ty := .int .i64
abbrev Y4 : Ty := .bool
abbrev Y9 : Ty := .str
abbrev Y67 : Ty := .prod Y9 (.prod Y3 (.prod Y4 (.prod Y3 .unit)))
abbrev Y22 : Ty := .sl Y67
abbrev Y69 : Ty := .prod Y9 (.prod Y3 (.prod Y4 .unit))
abbrev Y23 : Ty := .sl Y69
abbrev Y59 : Ty := .prod Y3 (.prod Y3 (.prod Y3 (.prod Y4 (.prod Y4 .unit))))
abbrev Y54 : Ty := .sl Y59
abbrev Y56 : Ty := .prod Y3 (.prod Y3 (.prod Y3 (.prod Y9 (.prod Y3 (.prod Y4 (.prod Y4 (.prod Y54 .unit)))))))
abbrev Y24 : Ty := .sl Y56
abbrev Y71 : Ty := .prod Y3 (.prod Y3 (.prod Y3 (.prod Y3 (.prod Y4 .unit))))
abbrev Y25 : Ty := .sl Y71
abbrev Y64 : Ty := .prod Y3 (.prod Y3 (.prod Y3 (.prod Y4 .unit)))
abbrev Y26 : Ty := .sl Y64
abbrev Y80 : Ty := .prod Y9 (.prod Y3 (.prod Y3 (.prod Y3 (.prod Y3 (.prod Y3 .unit)))))
abbrev Y27 : Ty := .sl Y80
abbrev Y29 : Ty := .prod Y27 (.prod Y3 (.prod Y3 (.prod Y3 .unit)))
abbrev Y31 : Ty := .prod Y22 (.prod Y23 (.prod Y24 (.prod Y25 (.prod Y26 (.prod Y29 .unit)))))
abbrev Y33 : Ty := .prod Y3 (.prod Y3 (.prod Y3 (.prod Y4 (.prod Y3 (.prod Y3 (.prod Y4 (.prod Y4 (.prod Y3 (.prod Y4 .unit)))))))))
abbrev Y36 : Ty := .int .i64
abbrev Y43 : Ty := .sl Y3
abbrev Y110 : Ty := .prod Y4 (.prod Y3 (.prod Y3 (.prod Y3 (.prod Y3 (.prod Y3 (.prod Y3 (.prod Y3 (.prod Y4 .unit))))))))
abbrev Y48 : Ty := .sl Y110
abbrev Y50 : Ty := .prod Y48 .unit
abbrev Y53 : Ty := .sl Y33
abbrev Y100 : Ty := .prod Y3 (.prod Y3 (.prod Y36 .unit))
abbrev Y115 : Ty := .prod Y3 (.prod Y3 (.prod Y3 (.prod Y3 (.prod Y3 .unit))))
abbrev Y156 : Ty := .prod Y3 (.prod Y3 (.prod Y3 (.prod Y3 .unit)))
abbrev Y116 : Ty := .sl Y156
abbrev Y119 : Ty := .ref
abbrev Y121 : Ty := .sl Y100
abbrev Y125 : Ty := .prod Y9 (.prod Y3 (.prod Y3 .unit))
abbrev Y122 : Ty := .ref
abbrev Y126 : Ty := .ref
abbrev Y127 : Ty := .ref
abbrev Y130 : Ty := .arr 4 Y3
abbrev Y128 : Ty := .ref
abbrev Y133 : Ty := .ref
abbrev Y135 : Ty := .sl Y43
abbrev Y148 : Ty := .prod Y3 (.prod Y3 (.prod Y3 (.prod Y3 .unit)))
abbrev Y139 : Ty := .sl Y148
abbrev Y152 : Ty := .prod Y4 (.prod Y3 (.prod Y116 .unit))
abbrev Y150 : Ty := .sl Y152
abbrev Y159 : Ty := .prod Y3 (.prod Y3 (.prod Y4 .unit))
abbrev Y157 : Ty := .ref
abbrev Y166 : Ty := .ref
abbrev Y169 : Ty := .prod Y3 (.prod Y3 (.prod Y3 .unit))
abbrev Y167 : Ty := .sl Y169
abbrev Y175 : Ty := .int .u64
abbrev Y177 : Ty := .ref
abbrev Y193 : Ty := .prod Y3 (.prod Y3 (.prod Y3 .unit))
abbrev Y180 : Ty := .sl Y193
abbrev Y196 : Ty := .ref
abbrev Y210 : Ty := .prod Y193 (.prod Y3 .unit)
abbrev Y206 : Ty := .sl Y210
abbrev Y208 : Ty := .prod Y196 (.prod Y206 (.prod Y3 .unit))
def tyTab : List (Nat × Ty) := [(3, Y3), (4, Y4), (9, Y9), (67, Y67), (22, Y22), (69, Y69), (23, Y23), (59, Y59), (54, Y54), (56, Y56), (24, Y24), (71, Y71), (25, Y25), (64, Y64), (26, Y26), (80, Y80), (27, Y27), (29, Y29), (31, Y31), (33, Y33), (36, Y36), (43, Y43), (110, Y110), (48, Y48), (50, Y50), (53, Y53), (100, Y100), (115, Y115), (156, Y156), (116, Y116), (119, Y119), (121, Y121), (125, Y125), (122, Y122), (126, Y126), (127, Y127), (130, Y130), (128, Y128), (133, Y133), (135, Y135), (148, Y148), (139, Y139), (152, Y152), (150, Y150), (159, Y159), (157, Y157), (166, Y166), (169, Y169), (167, Y167), (175, Y175), (177, Y177), (193, Y193), (180, Y180), (196, Y196), (210, Y210), (206, Y206), (208, Y208)]
def mapTab : List (Nat × Ty × Ty) := [(119, Y9, Y4), (122, Y125, Y4), (126, Y3, Y3), (127, Y3, Y4), (128, Y130, Y4), (133, Y64, Y4), (157, Y159, Y4), (166, Y159, Y3), (177, Y3, Y167)]
def pkTab : List (Nat × Nat) := [(194, 1), (196, 2)]
def bdTab : List (Nat × Nat) := []
theorem hmix : Tryz.prog.follows .mixedOrders = true := by kernel_rfl
theorem tab_ok : tabOk Tryz.prog tyTab mapTab pkTab bdTab = true := by kernel_rfl
noncomputable def F34 : (El Y31) → Option (El Y4) := fun a0 =>
 Option.bind
 (bif decide ((70 : Int) < (↑(List.length a0.1) : Int)) then some true
 else
 bif decide ((70 : Int) < (↑(List.length a0.2.1) : Int)) then some true
 else
 bif decide ((40 : Int) < (↑(List.length a0.2.2.1) : Int)) then some true
 else
 bif decide ((80 : Int) < (↑(List.length a0.2.2.2.1) : Int)) then some true
 else
 bif decide ((80 : Int) < (↑(List.length a0.2.2.2.2.1) : Int)) then some true
 else some (decide ((20 : Int) < (↑(List.length a0.2.2.2.2.2.1.1) : Int))))
 fun x0 =>
 bif x0 then some false
 else
 Option.bind
 (Tr.run
 (fun s1 =>
 bif decide (s1 < (↑(List.length a0.2.2.1) : Int)) then
 Option.bind (idx a0.2.2.1 s1) fun x2 =>
 bif decide ((40 : Int) < (↑(List.length x2.2.2.2.2.2.2.2.1) : Int)) then some (.inr (.inr false))
 else some (.inl (IntKind.wrap .i64 (s1 + (1 : Int))))
 else some (.inr (.inl ())))
 (0 : Int))
 fun x3 => Sum.elim (fun _ => some true) (fun y5 => some y5) x3
abbrev F34A : Pats := (.cons (.pd Y31) .nil)
abbrev F34R : Pats := (.cons (.pd Y4) .nil)
noncomputable def F34S : Tr.Spec := { args := F34A, res := F34R, fns := [], α := El Y4, f := fun x => F34 x.1, unp := fun z => (((), ()), (z, ())) }
noncomputable def F34M : List (Nat × List Tr.Spec) := []
def F34H : Hint := (.seq .leaf (.seq (.seq (.reg [(39, Y4)]) .leaf) (.seq (.seq .leaf (.lp ⟨[(43, (.pd Y3))], [], [41, 42], []⟩ [((.exit 0), ⟨[], [], [], []⟩), (.ret, ⟨[(2, (.pd Y4))], [], [], []⟩)] .leaf)) .leaf)))
noncomputable def F34V (a0 : El Y31) : Option (El Y4) := evalF (mkE tyTab mapTab pkTab [] [] F34M 52 bdTab) (codeOf Tryz.f8) Tryz.f8.results F34H F34A F34R (fun y => y.2.1) (a0, ())
theorem F34_eq (a0 : El Y31) : F34V a0 = F34 a0 := by kernel_rfl
theorem F34_ok : FnOK Tryz.prog 8 F34S := fnOK_of (m := F34M) (fn := Tryz.f8) (hint := F34H) (pack := fun y => y.2.1) hmix tab_ok trivial fun x z h => (F34_eq x.1).trans h
noncomputable def F27 : (El Y9) → Option (El Y4) := fun a0 =>
 Option.bind
 (Tr.run
 (fun s0 =>
 bif decide (s0 < (↑(List.length a0) : Int)) then
 Option.bind (idx a0 s0) fun x1 =>
 Option.bind (bif decide ((97 : Int) ≤ (↑(UInt8.toNat x1) : Int)) then some (decide ((↑(UInt8.toNat x1) : Int) ≤ (122 : Int))) else some false)
 fun x2 =>
 Option.bind
 (bif x2 then some x2
 else
 Option.bind (bif decide ((65 : Int) ≤ (↑(UInt8.toNat x1) : Int)) then some (decide ((↑(UInt8.toNat x1) : Int) ≤ (90 : Int))) else some false)
 fun x3 =>
 Option.bind
 (bif x3 then some x3
 else
 Option.bind
 (bif decide ((48 : Int) ≤ (↑(UInt8.toNat x1) : Int)) then some (decide ((↑(UInt8.toNat x1) : Int) ≤ (57 : Int))) else some false)
 fun x4 => some x4)
 fun x5 => some x5)
 fun x6 =>
 bif x6 then some (.inl (IntKind.wrap .i64 (s0 + (1 : Int))))
 else
 Option.bind
 (bif decide ((↑(UInt8.toNat x1) : Int) = (45 : Int)) then some (decide ((↑(UInt8.toNat x1) : Int) = (45 : Int)))
 else
 Option.bind
 (bif decide ((↑(UInt8.toNat x1) : Int) = (95 : Int)) then some (decide ((↑(UInt8.toNat x1) : Int) = (95 : Int)))
 else some (decide ((↑(UInt8.toNat x1) : Int) = (46 : Int))))
 fun x7 => some x7)
 fun x8 => bif x8 then some (.inl (IntKind.wrap .i64 (s0 + (1 : Int)))) else some (.inr (.inr false))
 else some (.inr (.inl ())))
 (0 : Int))
 fun x9 =>
 Sum.elim
 (fun _ =>
 Option.bind (bif decide ((0 : Int) < (↑(List.length a0) : Int)) then some (decide ((↑(List.length a0) : Int) ≤ (32 : Int))) else some false) fun x11 =>
 some x11)
 (fun y12 => some y12) x9
abbrev F27A : Pats := (.cons (.pd Y9) .nil)
abbrev F27R : Pats := (.cons (.pd Y4) .nil)
noncomputable def F27S : Tr.Spec := { args := F27A, res := F27R, fns := [], α := El Y4, f := fun x => F27 x.1, unp := fun z => (((), ()), (z, ())) }
noncomputable def F27M : List (Nat × List Tr.Spec) := []
def F27H : Hint := (.seq .leaf (.seq (.seq .leaf (.lp ⟨[(3, (.pd Y3))], [], [0], []⟩ [((.exit 0), ⟨[], [], [0], []⟩), (.ret, ⟨[(2, (.pd Y4))], [], [], []⟩)] (.seq .leaf (.seq (.seq .leaf (.seq (.seq (.reg [(14, Y4)]) (.cnd (some (⟨[], [], [0, 3, 4], []⟩, [(.normal, ⟨[(14, (.pd Y4))], [], [0, 3, 4], []⟩)])) .leaf (.seq (.reg [(14, Y4)]) (.cnd (some (⟨[], [], [0, 3, 4], []⟩, [(.normal, ⟨[(14, (.pd Y4))], [], [0, 3, 4], []⟩)])) .leaf (.reg [(14, Y4)]))))) (.cnd none .leaf (.seq (.seq .leaf (.cnd (some (⟨[], [], [0, 3], []⟩, [(.normal, ⟨[(33, (.pd Y4))], [], [0, 3], []⟩)])) .leaf (.seq .leaf (.cnd (some (⟨[], [], [0, 3], []⟩, [(.normal, ⟨[(33, (.pd Y4))], [], [0, 3], []⟩)])) .leaf .leaf)))) .leaf)))) .leaf)))) (.seq (.reg [(2, Y4)]) .leaf)))
noncomputable def F27V (a0 : El Y9) : Option (El Y4) := evalF (mkE tyTab mapTab pkTab [] [] F27M 48 bdTab) (codeOf Tryz.f80) Tryz.f80.results F27H F27A F27R (fun y => y.2.1) (a0, ())
theorem F27_eq (a0 : El Y9) : F27V a0 = F27 a0 := by kernel_rfl
theorem F27_ok : FnOK Tryz.prog 80 F27S := fnOK_of (m := F27M) (fn := Tryz.f80) (hint := F27H) (pack := fun y => y.2.1) hmix tab_ok trivial fun x z h => (F27_eq x.1).trans h
noncomputable def F116 : (El Y22) → Option (El Y3 × El Y36) := fun a0 =>
 bif decide ((64 : Int) < (↑(List.length a0) : Int)) then some ((0 : Int), (5 : Int))
 else
 Option.bind
 (Tr.run
 (fun s0 =>
 bif decide (s0.2 < (↑(List.length a0) : Int)) then
 Option.bind (idx a0 s0.2) fun x1 =>
 Option.bind (F27 x1.1) fun x2 =>
 bif !x2 then some (.inr (.inr (s0.2, (12 : Int))))
 else
 bif Option.getD (Tr.amGet (Tr.keyEq Y9) x1.1 s0.1) (false) then some (.inr (.inr (s0.2, (6 : Int))))
 else
 Option.bind
 (bif decide (x1.2.1 < (0 : Int)) then some true
 else
 bif decide ((16 : Int) ≤ x1.2.1) then some true
 else bif decide (x1.2.2.2.1 < (0 : Int)) then some true else some (decide ((3600 : Int) < x1.2.2.2.1)))
 fun x3 =>
 bif x3 then some (.inr (.inr (s0.2, (2 : Int))))
 else some (.inl (Tr.amSet (Tr.keyEq Y9) x1.1 true s0.1, IntKind.wrap .i64 (s0.2 + (1 : Int))))
 else some (.inr (.inl ())))
 ([], (0 : Int)))
 fun x4 => Sum.elim (fun _ => some ((0 : Int), (0 : Int))) (fun y6 => some (y6.1, y6.2)) x4
abbrev F116A : Pats := (.cons (.pd Y22) .nil)
abbrev F116R : Pats := (.cons (.pd Y3) (.cons (.pd Y36) .nil))
noncomputable def F116S : Tr.Spec := { args := F116A, res := F116R, fns := [], α := El Y3 × El Y36, f := fun x => F116 x.1, unp := fun z => (((), ()), (z.1, z.2, ())) }
noncomputable def F116M : List (Nat × List Tr.Spec) := [(80, [F27S])]
def F116H : Hint := (.seq .leaf (.seq .leaf (.seq .leaf (.seq (.seq .leaf (.lp ⟨[(4, (.map Y9 Y4)), (13, (.pd Y3))], [], [11, 12], []⟩ [((.exit 0), ⟨[], [], [], []⟩), (.ret, ⟨[(2, (.pd Y3)), (3, (.pd Y36))], [], [], []⟩)] (.seq .leaf (.seq .leaf (.seq (.seq .leaf (.seq (.seq .leaf (.cnd none .leaf (.seq .leaf (.cnd none .leaf (.seq (.reg [(30, Y4)]) .leaf))))) .leaf)) .leaf))))) .leaf))))
noncomputable def F116V (a0 : El Y22) : Option (El Y3 × El Y36) := evalF (mkE tyTab mapTab pkTab [] [] F116M 54 bdTab) (codeOf Tryz.f61) Tryz.f61.results F116H F116A F116R (fun y => (y.2.1, y.2.2.1)) (a0, ())
theorem F116_eq (a0 : El Y22) : F116V a0 = F116 a0 := by kernel_rfl
theorem F116_ok : FnOK Tryz.prog 61 F116S := fnOK_of (m := F116M) (fn := Tryz.f61) (hint := F116H) (pack := fun y => (y.2.1, y.2.2.1)) hmix tab_ok ⟨⟨F27_ok, trivial⟩, trivial⟩ fun x z h => (F116_eq x.1).trans h
noncomputable def F107 : (El Y3) → Option (El Y4) := fun a0 => Option.bind (bif decide ((0 : Int) ≤ a0) then some (decide (a0 < (8 : Int))) else some false) fun x0 => some x0
abbrev F107A : Pats := (.cons (.pd Y3) .nil)
abbrev F107R : Pats := (.cons (.pd Y4) .nil)
noncomputable def F107S : Tr.Spec := { args := F107A, res := F107R, fns := [], α := El Y4, f := fun x => F107 x.1, unp := fun z => (((), ()), (z, ())) }
noncomputable def F107M : List (Nat × List Tr.Spec) := []
def F107H : Hint := (.seq .leaf (.seq (.reg [(2, Y4)]) .leaf))
noncomputable def F107V (a0 : El Y3) : Option (El Y4) := evalF (mkE tyTab mapTab pkTab [] [] F107M 9 bdTab) (codeOf Tryz.f81) Tryz.f81.results F107H F107A F107R (fun y => y.2.1) (a0, ())
theorem F107_eq (a0 : El Y3) : F107V a0 = F107 a0 := by kernel_rfl
theorem F107_ok : FnOK Tryz.prog 81 F107S := fnOK_of (m := F107M) (fn := Tryz.f81) (hint := F107H) (pack := fun y => y.2.1) hmix tab_ok trivial fun x z h => (F107_eq x.1).trans h
noncomputable def F106 : (El Y23) → Option (El Y3 × El Y36) := fun a0 =>
 bif decide ((64 : Int) < (↑(List.length a0) : Int)) then some ((0 : Int), (5 : Int))
 else
 Option.bind
 (Tr.run
 (fun s0 =>
 bif decide (s0.2 < (↑(List.length a0) : Int)) then
 Option.bind (idx a0 s0.2) fun x1 =>
 Option.bind (F27 x1.1) fun x2 =>
 bif !x2 then some (.inr (.inr (s0.2, (12 : Int))))
 else
 bif Option.getD (Tr.amGet (Tr.keyEq Y9) x1.1 s0.1) (false) then some (.inr (.inr (s0.2, (6 : Int))))
 else
 Option.bind (F107 x1.2.1) fun x3 =>
 bif !x3 then some (.inr (.inr (s0.2, (2 : Int))))
 else some (.inl (Tr.amSet (Tr.keyEq Y9) x1.1 true s0.1, IntKind.wrap .i64 (s0.2 + (1 : Int))))
 else some (.inr (.inl ())))
 ([], (0 : Int)))
 fun x4 => Sum.elim (fun _ => some ((0 : Int), (0 : Int))) (fun y6 => some (y6.1, y6.2)) x4
abbrev F106A : Pats := (.cons (.pd Y23) .nil)
abbrev F106R : Pats := (.cons (.pd Y3) (.cons (.pd Y36) .nil))
noncomputable def F106S : Tr.Spec := { args := F106A, res := F106R, fns := [], α := El Y3 × El Y36, f := fun x => F106 x.1, unp := fun z => (((), ()), (z.1, z.2, ())) }
noncomputable def F106M : List (Nat × List Tr.Spec) := [(80, [F27S]), (81, [F107S])]
def F106H : Hint := (.seq .leaf (.seq .leaf (.seq .leaf (.seq (.seq .leaf (.lp ⟨[(4, (.map Y9 Y4)), (13, (.pd Y3))], [], [11, 12], []⟩ [((.exit 0), ⟨[], [], [], []⟩), (.ret, ⟨[(2, (.pd Y3)), (3, (.pd Y36))], [], [], []⟩)] .leaf)) .leaf))))
noncomputable def F106V (a0 : El Y23) : Option (El Y3 × El Y36) := evalF (mkE tyTab mapTab pkTab [] [] F106M 37 bdTab) (codeOf Tryz.f62) Tryz.f62.results F106H F106A F106R (fun y => (y.2.1, y.2.2.1)) (a0, ())
theorem F106_eq (a0 : El Y23) : F106V a0 = F106 a0 := by kernel_rfl
theorem F106_ok : FnOK Tryz.prog 62 F106S := fnOK_of (m := F106M) (fn := Tryz.f62) (hint := F106H) (pack := fun y => (y.2.1, y.2.2.1)) hmix tab_ok ⟨⟨F27_ok, trivial⟩, ⟨F107_ok, trivial⟩, trivial⟩ fun x z h => (F106_eq x.1).trans h
noncomputable def F41 : (El Y121) → Option (El Y100) := fun a0 =>
 Option.bind
 (Tr.run
 (fun s0 =>
 bif decide (s0.2 < (↑(List.length a0) : Int)) then
 Option.bind (idx a0 s0.2) fun x1 =>
 bif !decide (x1.2.2.1 = (0 : Int)) then some (.inr (.inr x1)) else some (.inl (s0.1, IntKind.wrap .i64 (s0.2 + (1 : Int))))
 else some (.inr (.inl s0.1)))
 (((0 : Int), (0 : Int), (0 : Int), ()), (0 : Int)))
 fun x2 => Sum.elim (fun _ => some ((0 : Int), (0 : Int), (0 : Int), ())) (fun y4 => some y4) x2
abbrev F41A : Pats := (.cons (.pd Y121) .nil)
abbrev F41R : Pats := (.cons (.pd Y100) .nil)
noncomputable def F41S : Tr.Spec := { args := F41A, res := F41R, fns := [], α := El Y100, f := fun x => F41 x.1, unp := fun z => (((), ()), (z, ())) }
noncomputable def F41M : List (Nat × List Tr.Spec) := []
def F41H : Hint := (.seq .leaf (.seq (.seq .leaf (.lp ⟨[(2, (.var Y100 (.pd Y100))), (7, (.pd Y3))], [], [5, 6], []⟩ [((.exit 0), ⟨[(2, (.var Y100 (.pd Y100)))], [], [], []⟩), (.ret, ⟨[(2, (.var Y100 (.pd Y100)))], [], [], []⟩)] .leaf)) .leaf))
noncomputable def F41V (a0 : El Y121) : Option (El Y100) := evalF (mkE tyTab mapTab pkTab [] [] F41M 17 bdTab) (codeOf Tryz.f63) Tryz.f63.results F41H F41A F41R (fun y => y.2.1) (a0, ())
theorem F41_eq (a0 : El Y121) : F41V a0 = F41 a0 := by kernel_rfl
theorem F41_ok : FnOK Tryz.prog 63 F41S := fnOK_of (m := F41M) (fn := Tryz.f63) (hint := F41H) (pack := fun y => y.2.1) hmix tab_ok trivial fun x z h => (F41_eq x.1).trans h
noncomputable def F50 : (El Y3) → (El Y3) → (El Y36) → Option (El Y100) := fun a0 a1 a2 => some (a0, a1, a2, ())
abbrev F50A : Pats := (.cons (.pd Y3) (.cons (.pd Y3) (.cons (.pd Y36) .nil)))
abbrev F50R : Pats := (.cons (.pd Y100) .nil)
noncomputable def F50S : Tr.Spec := { args := F50A, res := F50R, fns := [], α := El Y100, f := fun x => F50 x.1 x.2.1 x.2.2.1, unp := fun z => (((), (), (), ()), (z, ())) }
noncomputable def F50M : List (Nat × List Tr.Spec) := []
def F50H : Hint := .leaf
noncomputable def F50V (a0 : El Y3) (a1 : El Y3) (a2 : El Y36) : Option (El Y100) := evalF (mkE tyTab mapTab pkTab [] [] F50M 11 bdTab) (codeOf Tryz.f64) Tryz.f64.results F50H F50A F50R (fun y => y.2.1) (a0, a1, a2, ())
theorem F50_eq (a0 : El Y3) (a1 : El Y3) (a2 : El Y36) : F50V a0 a1 a2 = F50 a0 a1 a2 := by kernel_rfl
theorem F50_ok : FnOK Tryz.prog 64 F50S := fnOK_of (m := F50M) (fn := Tryz.f64) (hint := F50H) (pack := fun y => y.2.1) hmix tab_ok trivial fun x z h => (F50_eq x.1 x.2.1 x.2.2.1).trans h
noncomputable def F1 : (El Y54) → (El Y3) → (El Y3) → (El Y3) → (El Y3) → Option (El Y36) := fun a0 a1 a2 a3 a4 =>
 Option.bind (idx a0 a1) fun x0 =>
 Option.bind (bif decide (x0.1 < (0 : Int)) then some true else some (decide (a2 ≤ x0.1))) fun x1 =>
 bif x1 then some (9 : Int)
 else
 Option.bind
 (bif decide ((0 : Int) < a1) then Option.bind (idx a0 (IntKind.wrap .i64 (a1 - (1 : Int)))) fun x2 => some (decide (x2.1 = x0.1))
 else some false)
 fun x3 =>
 bif x3 then some (13 : Int)
 else
 Option.bind
 (bif decide (x0.2.1 < a3) then some true
 else
 bif decide (x0.2.2.1 < x0.2.1) then some true
 else
 bif decide (a4 < x0.2.2.1) then some true
 else
 bif decide ((0 : Int) < a1) then
 Option.bind (idx a0 (IntKind.wrap .i64 (a1 - (1 : Int)))) fun x4 => some (decide (x0.2.1 < x4.2.2.1))
 else some false)
 fun x5 => bif x5 then some (10 : Int) else some (0 : Int)
abbrev F1A : Pats := (.cons (.pd Y54) (.cons (.pd Y3) (.cons (.pd Y3) (.cons (.pd Y3) (.cons (.pd Y3) .nil)))))
abbrev F1R : Pats := (.cons (.pd Y36) .nil)
noncomputable def F1S : Tr.Spec := { args := F1A, res := F1R, fns := [], α := El Y36, f := fun x => F1 x.1 x.2.1 x.2.2.1 x.2.2.2.1 x.2.2.2.2.1, unp := fun z => (((), (), (), (), (), ()), (z, ())) }
noncomputable def F1M : List (Nat × List Tr.Spec) := []
def F1H : Hint := (.seq .leaf (.seq .leaf (.seq (.seq (.reg [(24, Y4)]) .leaf) (.seq (.seq (.reg [(37, Y4)]) .leaf) (.seq (.seq (.reg [(69, Y4)]) .leaf) .leaf)))))
noncomputable def F1V (a0 : El Y54) (a1 : El Y3) (a2 : El Y3) (a3 : El Y3) (a4 : El Y3) : Option (El Y36) := evalF (mkE tyTab mapTab pkTab [] [] F1M 70 bdTab) (codeOf Tryz.f95) Tryz.f95.results F1H F1A F1R (fun y => y.2.1) (a0, a1, a2, a3, a4, ())
theorem F1_eq (a0 : El Y54) (a1 : El Y3) (a2 : El Y3) (a3 : El Y3) (a4 : El Y3) : F1V a0 a1 a2 a3 a4 = F1 a0 a1 a2 a3 a4 := by kernel_rfl
theorem F1_ok : FnOK Tryz.prog 95 F1S := fnOK_of (m := F1M) (fn := Tryz.f95) (hint := F1H) (pack := fun y => y.2.1) hmix tab_ok trivial fun x z h => (F1_eq x.1 x.2.1 x.2.2.1 x.2.2.2.1 x.2.2.2.2.1).trans h
noncomputable def F0 : (El Y54) → (El Y3) → (El Y3) → (El Y3) → Option (El Y3 × El Y36) := fun a0 a1 a2 a3 =>
 Option.bind (bif decide ((↑(List.length a0) : Int) < (2 : Int)) then some true else some (decide ((32 : Int) < (↑(List.length a0) : Int)))) fun x0 =>
 bif x0 then some ((0 : Int), (5 : Int))
 else
 Option.bind
 (Tr.run
 (fun s1 =>
 bif decide (s1 < (↑(List.length a0) : Int)) then
 Option.bind (F1 a0 s1 a1 a2 a3) fun x2 =>
 bif !decide (x2 = (0 : Int)) then some (.inr (.inr (s1, x2))) else some (.inl (IntKind.wrap .i64 (s1 + (1 : Int))))
 else some (.inr (.inl ())))
 (0 : Int))
 fun x3 => Sum.elim (fun _ => some ((0 : Int), (0 : Int))) (fun y5 => some (y5.1, y5.2)) x3
abbrev F0A : Pats := (.cons (.pd Y54) (.cons (.pd Y3) (.cons (.pd Y3) (.cons (.pd Y3) .nil))))
abbrev F0R : Pats := (.cons (.pd Y3) (.cons (.pd Y36) .nil))
noncomputable def F0S : Tr.Spec := { args := F0A, res := F0R, fns := [], α := El Y3 × El Y36, f := fun x => F0 x.1 x.2.1 x.2.2.1 x.2.2.2.1, unp := fun z => (((), (), (), (), ()), (z.1, z.2, ())) }
noncomputable def F0M : List (Nat × List Tr.Spec) := [(95, [F1S])]
def F0H : Hint := (.seq .leaf (.seq (.seq (.reg [(19, Y4)]) .leaf) (.seq (.seq .leaf (.lp ⟨[(22, (.pd Y3))], [], [0, 1, 2, 3, 21], []⟩ [((.exit 0), ⟨[], [], [], []⟩), (.ret, ⟨[(8, (.pd Y3)), (9, (.pd Y36))], [], [], []⟩)] .leaf)) .leaf)))
noncomputable def F0V (a0 : El Y54) (a1 : El Y3) (a2 : El Y3) (a3 : El Y3) : Option (El Y3 × El Y36) := evalF (mkE tyTab mapTab pkTab [] [] F0M 36 bdTab) (codeOf Tryz.f82) Tryz.f82.results F0H F0A F0R (fun y => (y.2.1, y.2.2.1)) (a0, a1, a2, a3, ())
theorem F0_eq (a0 : El Y54) (a1 : El Y3) (a2 : El Y3) (a3 : El Y3) : F0V a0 a1 a2 a3 = F0 a0 a1 a2 a3 := by kernel_rfl
theorem F0_ok : FnOK Tryz.prog 82 F0S := fnOK_of (m := F0M) (fn := Tryz.f82) (hint := F0H) (pack := fun y => (y.2.1, y.2.2.1)) hmix tab_ok ⟨⟨F1_ok, trivial⟩, trivial⟩ fun x z h => (F0_eq x.1 x.2.1 x.2.2.1 x.2.2.2.1).trans h
noncomputable def F40 : (El Y31) → Option (El Y100) := fun a0 =>
 bif decide ((1024 : Int) < (↑(List.length a0.2.2.1) : Int)) then Option.bind (F50 (2 : Int) (0 : Int) (5 : Int)) fun x0 => some x0
 else
 Option.bind
 (Tr.run
 (fun s1 =>
 bif decide (s1.2.2 < (↑(List.length a0.2.2.1) : Int)) then
 Option.bind (idx a0.2.2.1 s1.2.2) fun x2 =>
 Option.bind (F27 x2.2.2.2.1) fun x3 =>
 bif !x3 then Option.bind (F50 (2 : Int) s1.2.2 (12 : Int)) fun x4 => some (.inr (.inr x4))
 else
 Option.bind (bif decide (x2.1 < (-1 : Int)) then some true else some (decide (x2.2.2.1 < (0 : Int)))) fun x5 =>
 bif x5 then Option.bind (F50 (2 : Int) s1.2.2 (2 : Int)) fun x6 => some (.inr (.inr x6))
 else
 Option.bind (bif decide (x2.2.1 < (0 : Int)) then some true else some (decide ((36524 : Int) < x2.2.1))) fun x7 =>
 bif x7 then Option.bind (F50 (2 : Int) s1.2.2 (11 : Int)) fun x8 => some (.inr (.inr x8))
 else
 Option.bind
 (bif decide (x2.2.2.2.2.1 < (0 : Int)) then some true
 else some (decide ((↑(List.length a0.2.1) : Int) ≤ x2.2.2.2.2.1)))
 fun x9 =>
 bif x9 then Option.bind (F50 (2 : Int) s1.2.2 (9 : Int)) fun x10 => some (.inr (.inr x10))
 else
 Option.bind (F0 x2.2.2.2.2.2.2.2.1 (↑(List.length a0.1) : Int) (0 : Int) (3155932800 : Int)) fun x11 =>
 bif !decide (x11.2 = (0 : Int)) then Option.bind (F50 (2 : Int) s1.2.2 x11.2) fun x12 => some (.inr (.inr x12))
 else
 bif Option.getD (Tr.amGet (Tr.keyEq Y125) (x2.2.2.2.1, x2.2.1, x2.2.2.1, ()) s1.2.1) (false) then
 Option.bind (F50 (2 : Int) s1.2.2 (6 : Int)) fun x13 => some (.inr (.inr x13))
 else
 some
 (.inl
 (s1.1, Tr.amSet (Tr.keyEq Y125) (x2.2.2.2.1, x2.2.1, x2.2.2.1, ()) true s1.2.1,
 IntKind.wrap .i64 (s1.2.2 + (1 : Int))))
 else some (.inr (.inl s1.1)))
 (((0 : Int), (0 : Int), (0 : Int), ()), [], (0 : Int)))
 fun x14 => Sum.elim (fun _ => some ((0 : Int), (0 : Int), (0 : Int), ())) (fun y16 => some y16) x14
abbrev F40A : Pats := (.cons (.pd Y31) .nil)
abbrev F40R : Pats := (.cons (.pd Y100) .nil)
noncomputable def F40S : Tr.Spec := { args := F40A, res := F40R, fns := [], α := El Y100, f := fun x => F40 x.1, unp := fun z => (((), ()), (z, ())) }
noncomputable def F40M : List (Nat × List Tr.Spec) := [(64, [F50S]), (80, [F27S]), (82, [F0S])]
def F40H : Hint := (.seq .leaf (.seq .leaf (.seq .leaf (.seq (.seq .leaf (.lp ⟨[(2, (.var Y100 (.pd Y100))), (3, (.map Y125 Y4)), (18, (.pd Y3))], [], [1, 16, 17], []⟩ [((.exit 0), ⟨[(2, (.var Y100 (.pd Y100)))], [], [], []⟩), (.ret, ⟨[(2, (.var Y100 (.pd Y100)))], [], [], []⟩)] (.seq .leaf (.seq .leaf (.seq (.seq .leaf (.seq (.seq .leaf (.cnd none .leaf (.seq (.reg [(30, Y4)]) (.cnd none .leaf (.seq (.reg [(41, Y4)]) (.cnd none .leaf (.seq (.reg [(52, Y4)]) .leaf))))))) .leaf)) .leaf))))) .leaf))))
noncomputable def F40V (a0 : El Y31) : Option (El Y100) := evalF (mkE tyTab mapTab pkTab [] [] F40M 96 bdTab) (codeOf Tryz.f65) Tryz.f65.results F40H F40A F40R (fun y => y.2.1) (a0, ())
theorem F40_eq (a0 : El Y31) : F40V a0 = F40 a0 := by kernel_rfl
theorem F40_ok : FnOK Tryz.prog 65 F40S := fnOK_of (m := F40M) (fn := Tryz.f65) (hint := F40H) (pack := fun y => y.2.1) hmix tab_ok ⟨⟨F50_ok, trivial⟩, ⟨F27_ok, trivial⟩, ⟨F0_ok, trivial⟩, trivial⟩ fun x z h => (F40_eq x.1).trans h
noncomputable def F51 : (El Y3) → (El Y3) → Option (El Y4) := fun a0 a1 => Option.bind (bif decide ((0 : Int) ≤ a0) then some (decide (a0 < a1)) else some false) fun x0 => some x0
abbrev F51A : Pats := (.cons (.pd Y3) (.cons (.pd Y3) .nil))
abbrev F51R : Pats := (.cons (.pd Y4) .nil)
noncomputable def F51S : Tr.Spec := { args := F51A, res := F51R, fns := [], α := El Y4, f := fun x => F51 x.1 x.2.1, unp := fun z => (((), (), ()), (z, ())) }
noncomputable def F51M : List (Nat × List Tr.Spec) := []
def F51H : Hint := (.seq .leaf (.seq (.reg [(4, Y4)]) .leaf))
noncomputable def F51V (a0 : El Y3) (a1 : El Y3) : Option (El Y4) := evalF (mkE tyTab mapTab pkTab [] [] F51M 12 bdTab) (codeOf Tryz.f83) Tryz.f83.results F51H F51A F51R (fun y => y.2.1) (a0, a1, ())
theorem F51_eq (a0 : El Y3) (a1 : El Y3) : F51V a0 a1 = F51 a0 a1 := by kernel_rfl
theorem F51_ok : FnOK Tryz.prog 83 F51S := fnOK_of (m := F51M) (fn := Tryz.f83) (hint := F51H) (pack := fun y => y.2.1) hmix tab_ok trivial fun x z h => (F51_eq x.1 x.2.1).trans h
noncomputable def F49 : (List (El Y3 × El Y3)) → (El Y3) → (El Y3) → Option (List (El Y3 × El Y3) × El Y4) := fun a0 a1 a2 =>
 Option.bind
 (Tr.run
 (fun s0 =>
 bif s0.2 then
 bif decide (s0.1 = a2) then some (.inr (.inr true))
 else some (.inl (Option.getD (Tr.amGet (Tr.keyEq Y3) s0.1 a0) ((0 : Int)), Option.isSome (Tr.amGet (Tr.keyEq Y3) s0.1 a0)))
 else some (.inr (.inl ())))
 (Option.getD (Tr.amGet (Tr.keyEq Y3) a1 a0) ((0 : Int)), Option.isSome (Tr.amGet (Tr.keyEq Y3) a1 a0)))
 fun x1 => Sum.elim (fun _ => some (a0, false)) (fun y3 => some (a0, y3)) x1
abbrev F49A : Pats := (.cons (.map Y3 Y3) (.cons (.pd Y3) (.cons (.pd Y3) .nil)))
abbrev F49R : Pats := (.cons (.pd Y4) .nil)
noncomputable def F49S : Tr.Spec := { args := F49A, res := F49R, fns := [], α := List (El Y3 × El Y3) × El Y4, f := fun x => F49 x.1 x.2.1 x.2.2.1, unp := fun z => ((z.1, (), (), ()), (z.2, ())) }
noncomputable def F49M : List (Nat × List Tr.Spec) := []
def F49H : Hint := (.seq .leaf (.seq (.seq .leaf (.lp ⟨[(7, (.pd Y3)), (8, (.pd Y4))], [], [0, 2], []⟩ [((.exit 0), ⟨[], [], [0], []⟩), (.ret, ⟨[(6, (.pd Y4))], [], [0], []⟩)] .leaf)) .leaf))
noncomputable def F49V (a0 : List (El Y3 × El Y3)) (a1 : El Y3) (a2 : El Y3) : Option (List (El Y3 × El Y3) × El Y4) := evalF (mkE tyTab mapTab pkTab [] [] F49M 25 bdTab) (codeOf Tryz.f84) Tryz.f84.results F49H F49A F49R (fun y => (y.1.1, y.2.1)) (a0, a1, a2, ())
theorem F49_eq (a0 : List (El Y3 × El Y3)) (a1 : El Y3) (a2 : El Y3) : F49V a0 a1 a2 = F49 a0 a1 a2 := by kernel_rfl
theorem F49_ok : FnOK Tryz.prog 84 F49S := fnOK_of (m := F49M) (fn := Tryz.f84) (hint := F49H) (pack := fun y => (y.1.1, y.2.1)) hmix tab_ok trivial fun x z h => (F49_eq x.1 x.2.1 x.2.2.1).trans h
noncomputable def F38 : (El Y31) → Option (El Y100) := fun a0 =>
 bif decide ((1024 : Int) < (↑(List.length a0.2.2.2.1) : Int)) then Option.bind (F50 (3 : Int) (0 : Int) (5 : Int)) fun x0 => some x0
 else
 Option.bind
 (Tr.run
 (fun s1 =>
 bif decide (s1.2.2.2.2 < (↑(List.length a0.2.2.2.1) : Int)) then
 Option.bind (idx a0.2.2.2.1 s1.2.2.2.2) fun x2 =>
 Option.bind
 (Option.bind (F51 x2.1 (↑(List.length a0.2.2.1) : Int)) fun x3 =>
 bif !x3 then some true
 else
 Option.bind (F51 x2.2.2.1 (↑(List.length a0.2.2.1) : Int)) fun x4 =>
 bif !x4 then some true else some (decide (x2.1 = x2.2.2.1)))
 fun x5 =>
 bif x5 then Option.bind (F50 (3 : Int) s1.2.2.2.2 (9 : Int)) fun x6 => some (.inr (.inr x6))
 else
 Option.bind (idx a0.2.2.1 x2.1) fun x7 =>
 Option.bind (idx a0.2.2.1 x2.2.2.1) fun x8 =>
 Option.bind
 (Option.bind (F51 x2.2.1 (↑(List.length x7.2.2.2.2.2.2.2.1) : Int)) fun x9 =>
 bif !x9 then some true
 else Option.bind (F51 x2.2.2.2.1 (↑(List.length x8.2.2.2.2.2.2.2.1) : Int)) fun x10 => some !x10)
 fun x11 =>
 bif x11 then Option.bind (F50 (3 : Int) s1.2.2.2.2 (9 : Int)) fun x12 => some (.inr (.inr x12))
 else
 Option.bind (idx x7.2.2.2.2.2.2.2.1 x2.2.1) fun x13 =>
 Option.bind (idx x8.2.2.2.2.2.2.2.1 x2.2.2.2.1) fun x14 =>
 bif !decide (x13.1 = x14.1) then Option.bind (F50 (3 : Int) s1.2.2.2.2 (13 : Int)) fun x15 => some (.inr (.inr x15))
 else
 bif x2.2.2.2.2.1 then
 bif !decide (IntKind.wrap .i64 (x2.2.1 + (1 : Int)) = (↑(List.length x7.2.2.2.2.2.2.2.1) : Int)) then
 Option.bind (F50 (3 : Int) s1.2.2.2.2 (19 : Int)) fun x16 => some (.inr (.inr x16))
 else
 bif !decide (x2.2.2.2.1 = (0 : Int)) then
 Option.bind (F50 (3 : Int) s1.2.2.2.2 (19 : Int)) fun x17 => some (.inr (.inr x17))
 else
 bif Option.isSome (Tr.amGet (Tr.keyEq Y3) x2.1 s1.2.1) then
 Option.bind (F50 (3 : Int) s1.2.2.2.2 (19 : Int)) fun x18 => some (.inr (.inr x18))
 else
 bif Option.getD (Tr.amGet (Tr.keyEq Y3) x2.2.2.1 s1.2.2.1) (false) then
 Option.bind (F50 (3 : Int) s1.2.2.2.2 (19 : Int)) fun x19 => some (.inr (.inr x19))
 else
 Option.bind (F49 s1.2.1 x2.2.2.1 x2.1) fun x20 =>
 bif x20.2 then Option.bind (F50 (3 : Int) s1.2.2.2.2 (19 : Int)) fun x21 => some (.inr (.inr x21))
 else
 bif Option.getD (Tr.amGet (Tr.keyEq Y130) [x2.1, x2.2.1, x2.2.2.1, x2.2.2.2.1] s1.2.2.2.1) (false) then
 Option.bind (F50 (3 : Int) s1.2.2.2.2 (6 : Int)) fun x22 => some (.inr (.inr x22))
 else
 bif x2.2.2.2.2.1 then
 some
 (.inl
 (s1.1, Tr.amSet (Tr.keyEq Y3) x2.1 x2.2.2.1 x20.1, Tr.amSet (Tr.keyEq Y3) x2.2.2.1 true s1.2.2.1,
 Tr.amSet (Tr.keyEq Y130) [x2.1, x2.2.1, x2.2.2.1, x2.2.2.2.1] true s1.2.2.2.1,
 IntKind.wrap .i64 (s1.2.2.2.2 + (1 : Int))))
 else
 some
 (.inl
 (s1.1, x20.1, s1.2.2.1, Tr.amSet (Tr.keyEq Y130) [x2.1, x2.2.1, x2.2.2.1, x2.2.2.2.1] true s1.2.2.2.1,
 IntKind.wrap .i64 (s1.2.2.2.2 + (1 : Int))))
 else
 bif Option.getD (Tr.amGet (Tr.keyEq Y130) [x2.1, x2.2.1, x2.2.2.1, x2.2.2.2.1] s1.2.2.2.1) (false) then
 Option.bind (F50 (3 : Int) s1.2.2.2.2 (6 : Int)) fun x23 => some (.inr (.inr x23))
 else
 bif x2.2.2.2.2.1 then
 some
 (.inl
 (s1.1, Tr.amSet (Tr.keyEq Y3) x2.1 x2.2.2.1 s1.2.1, Tr.amSet (Tr.keyEq Y3) x2.2.2.1 true s1.2.2.1,
 Tr.amSet (Tr.keyEq Y130) [x2.1, x2.2.1, x2.2.2.1, x2.2.2.2.1] true s1.2.2.2.1,
 IntKind.wrap .i64 (s1.2.2.2.2 + (1 : Int))))
 else
 some
 (.inl
 (s1.1, s1.2.1, s1.2.2.1, Tr.amSet (Tr.keyEq Y130) [x2.1, x2.2.1, x2.2.2.1, x2.2.2.2.1] true s1.2.2.2.1,
 IntKind.wrap .i64 (s1.2.2.2.2 + (1 : Int))))
 else some (.inr (.inl s1.1)))
 (((0 : Int), (0 : Int), (0 : Int), ()), [], [], [], (0 : Int)))
 fun x24 => Sum.elim (fun _ => some ((0 : Int), (0 : Int), (0 : Int), ())) (fun y26 => some y26) x24
abbrev F38A : Pats := (.cons (.pd Y31) .nil)
abbrev F38R : Pats := (.cons (.pd Y100) .nil)
noncomputable def F38S : Tr.Spec := { args := F38A, res := F38R, fns := [], α := El Y100, f := fun x => F38 x.1, unp := fun z => (((), ()), (z, ())) }
noncomputable def F38M : List (Nat × List Tr.Spec) := [(64, [F50S]), (83, [F51S]), (84, [F49S])]
def F38H : Hint := (.seq .leaf (.seq .leaf (.seq .leaf (.seq .leaf (.seq (.seq .leaf (.lp ⟨[(2, (.var Y100 (.pd Y100))), (3, (.map Y3 Y3)), (4, (.map Y3 Y4)), (5, (.map Y130 Y4)), (24, (.pd Y3))], [], [1, 22, 23], []⟩ [((.exit 0), ⟨[(2, (.var Y100 (.pd Y100)))], [], [], []⟩), (.ret, ⟨[(2, (.var Y100 (.pd Y100)))], [], [], []⟩)] (.seq .leaf (.seq .leaf (.seq (.seq .leaf (.seq (.seq (.reg [(51, Y4)]) .leaf) (.seq .leaf (.seq (.seq (.reg [(81, Y4)]) .leaf) .leaf)))) .leaf))))) .leaf)))))
noncomputable def F38V (a0 : El Y31) : Option (El Y100) := evalF (mkE tyTab mapTab pkTab [] [] F38M 171 bdTab) (codeOf Tryz.f66) Tryz.f66.results F38H F38A F38R (fun y => y.2.1) (a0, ())
theorem F38_eq (a0 : El Y31) : F38V a0 = F38 a0 := by kernel_rfl
theorem F38_ok : FnOK Tryz.prog 66 F38S := fnOK_of (m := F38M) (fn := Tryz.f66) (hint := F38H) (pack := fun y => y.2.1) hmix tab_ok ⟨⟨F50_ok, trivial⟩, ⟨F51_ok, trivial⟩, ⟨F49_ok, trivial⟩, trivial⟩ fun x z h => (F38_eq x.1).trans h
noncomputable def F53 : (El Y3) → (El Y3) → (El Y3) → Option (El Y4) := fun a0 a1 a2 => Option.bind (bif decide (a1 ≤ a0) then some (decide (a0 ≤ a2)) else some false) fun x0 => some x0
abbrev F53A : Pats := (.cons (.pd Y3) (.cons (.pd Y3) (.cons (.pd Y3) .nil)))
abbrev F53R : Pats := (.cons (.pd Y4) .nil)
noncomputable def F53S : Tr.Spec := { args := F53A, res := F53R, fns := [], α := El Y4, f := fun x => F53 x.1 x.2.1 x.2.2.1, unp := fun z => (((), (), (), ()), (z, ())) }
noncomputable def F53M : List (Nat × List Tr.Spec) := []
def F53H : Hint := (.seq .leaf (.seq (.reg [(6, Y4)]) .leaf))
noncomputable def F53V (a0 : El Y3) (a1 : El Y3) (a2 : El Y3) : Option (El Y4) := evalF (mkE tyTab mapTab pkTab [] [] F53M 15 bdTab) (codeOf Tryz.f85) Tryz.f85.results F53H F53A F53R (fun y => y.2.1) (a0, a1, a2, ())
theorem F53_eq (a0 : El Y3) (a1 : El Y3) (a2 : El Y3) : F53V a0 a1 a2 = F53 a0 a1 a2 := by kernel_rfl
theorem F53_ok : FnOK Tryz.prog 85 F53S := fnOK_of (m := F53M) (fn := Tryz.f85) (hint := F53H) (pack := fun y => y.2.1) hmix tab_ok trivial fun x z h => (F53_eq x.1 x.2.1 x.2.2.1).trans h
noncomputable def F52 : (El Y29) → Option (El Y3 × El Y36) := fun a0 =>
 Option.bind
 (Option.bind (F53 a0.2.1 (0 : Int) (1000000 : Int)) fun x0 =>
 bif !x0 then some true
 else
 Option.bind (F53 a0.2.2.1 (0 : Int) (86400 : Int)) fun x1 =>
 bif !x1 then some true else Option.bind (F53 a0.2.2.2.1 (0 : Int) (1000000 : Int)) fun x2 => some !x2)
 fun x3 =>
 bif x3 then some ((-1 : Int), (2 : Int))
 else
 bif decide ((16 : Int) < (↑(List.length a0.1) : Int)) then some ((0 : Int), (5 : Int))
 else
 Option.bind
 (Tr.run
 (fun s4 =>
 bif decide (s4.2 < (↑(List.length a0.1) : Int)) then
 Option.bind (idx a0.1 s4.2) fun x5 =>
 Option.bind (F27 x5.1) fun x6 =>
 bif !x6 then some (.inr (.inr (s4.2, (12 : Int))))
 else
 bif Option.getD (Tr.amGet (Tr.keyEq Y9) x5.1 s4.1) (false) then some (.inr (.inr (s4.2, (6 : Int))))
 else
 Option.bind
 (Option.bind (F53 x5.2.1 (0 : Int) (1000000 : Int)) fun x7 =>
 bif !x7 then some true
 else
 Option.bind (F53 x5.2.2.1 (1 : Int) (8 : Int)) fun x8 =>
 bif !x8 then some true
 else
 Option.bind (F53 x5.2.2.2.1 (1 : Int) (16 : Int)) fun x9 =>
 bif !x9 then some true
 else
 Option.bind (F53 x5.2.2.2.2.1 (0 : Int) (86400 : Int)) fun x10 =>
 bif !x10 then some true else Option.bind (F53 x5.2.2.2.2.2.1 (1 : Int) (255 : Int)) fun x11 => some !x11)
 fun x12 =>
 bif x12 then some (.inr (.inr (s4.2, (2 : Int))))
 else some (.inl (Tr.amSet (Tr.keyEq Y9) x5.1 true s4.1, IntKind.wrap .i64 (s4.2 + (1 : Int))))
 else some (.inr (.inl ())))
 ([], (0 : Int)))
 fun x13 => Sum.elim (fun _ => some ((0 : Int), (0 : Int))) (fun y15 => some (y15.1, y15.2)) x13
abbrev F52A : Pats := (.cons (.pd Y29) .nil)
abbrev F52R : Pats := (.cons (.pd Y3) (.cons (.pd Y36) .nil))
noncomputable def F52S : Tr.Spec := { args := F52A, res := F52R, fns := [], α := El Y3 × El Y36, f := fun x => F52 x.1, unp := fun z => (((), ()), (z.1, z.2, ())) }
noncomputable def F52M : List (Nat × List Tr.Spec) := [(80, [F27S]), (85, [F53S])]
def F52H : Hint := (.seq .leaf (.seq (.seq (.reg [(22, Y4)]) .leaf) (.seq .leaf (.seq .leaf (.seq (.seq .leaf (.lp ⟨[(4, (.map Y9 Y4)), (31, (.pd Y3))], [], [29, 30], []⟩ [((.exit 0), ⟨[], [], [], []⟩), (.ret, ⟨[(2, (.pd Y3)), (3, (.pd Y36))], [], [], []⟩)] (.seq .leaf (.seq .leaf (.seq (.seq .leaf (.seq .leaf (.seq .leaf (.seq (.seq (.reg [(73, Y4)]) .leaf) .leaf)))) .leaf))))) .leaf)))))
noncomputable def F52V (a0 : El Y29) : Option (El Y3 × El Y36) := evalF (mkE tyTab mapTab pkTab [] [] F52M 79 bdTab) (codeOf Tryz.f67) Tryz.f67.results F52H F52A F52R (fun y => (y.2.1, y.2.2.1)) (a0, ())
theorem F52_eq (a0 : El Y29) : F52V a0 = F52 a0 := by kernel_rfl
theorem F52_ok : FnOK Tryz.prog 67 F52S := fnOK_of (m := F52M) (fn := Tryz.f67) (hint := F52H) (pack := fun y => (y.2.1, y.2.2.1)) hmix tab_ok ⟨⟨F27_ok, trivial⟩, ⟨F53_ok, trivial⟩, trivial⟩ fun x z h => (F52_eq x.1).trans h
noncomputable def F18 : (El Y26) → (El Y3) → Option (El Y3 × El Y36) := fun a0 a1 =>
 Option.bind
 (Tr.run
 (fun s0 =>
 bif decide (s0.2 < (↑(List.length a0) : Int)) then
 Option.bind (idx a0 s0.2) fun x1 =>
 Option.bind
 (bif decide (x1.1 < (0 : Int)) then some (decide (x1.1 < (0 : Int)))
 else
 Option.bind
 (bif decide (a1 ≤ x1.1) then some (decide (a1 ≤ x1.1))
 else
 Option.bind
 (bif decide (x1.2.1 < (0 : Int)) then some (decide (x1.2.1 < (0 : Int)))
 else
 Option.bind (bif decide (a1 ≤ x1.2.1) then some (decide (a1 ≤ x1.2.1)) else some (decide (x1.1 = x1.2.1))) fun x2 =>
 some x2)
 fun x3 => some x3)
 fun x4 => some x4)
 fun x5 =>
 bif x5 then some (.inr (.inr (s0.2, (9 : Int))))
 else
 Option.bind
 (bif decide (x1.2.2.1 < (1 : Int)) then some (decide (x1.2.2.1 < (1 : Int)))
 else some (decide ((14400 : Int) < x1.2.2.1)))
 fun x6 =>
 bif x6 then some (.inr (.inr (s0.2, (2 : Int))))
 else
 bif Option.getD (Tr.amGet (Tr.keyEq Y159) (x1.1, x1.2.1, x1.2.2.2.1, ()) s0.1) (false) then some (.inr (.inr (s0.2, (6 : Int))))
 else some (.inl (Tr.amSet (Tr.keyEq Y159) (x1.1, x1.2.1, x1.2.2.2.1, ()) true s0.1, IntKind.wrap .i64 (s0.2 + (1 : Int))))
 else some (.inr (.inl ())))
 ([], (0 : Int)))
 fun x7 => Sum.elim (fun _ => some ((0 : Int), (0 : Int))) (fun y9 => some (y9.1, y9.2)) x7
abbrev F18A : Pats := (.cons (.pd Y26) (.cons (.pd Y3) .nil))
abbrev F18R : Pats := (.cons (.pd Y3) (.cons (.pd Y36) .nil))
noncomputable def F18S : Tr.Spec := { args := F18A, res := F18R, fns := [], α := El Y3 × El Y36, f := fun x => F18 x.1 x.2.1, unp := fun z => (((), (), ()), (z.1, z.2, ())) }
noncomputable def F18M : List (Nat × List Tr.Spec) := []
def F18H : Hint := (.seq .leaf (.seq .leaf (.seq (.seq .leaf (.lp ⟨[(6, (.map Y159 Y4)), (13, (.pd Y3))], [], [1, 11, 12], []⟩ [((.exit 0), ⟨[], [], [], []⟩), (.ret, ⟨[(4, (.pd Y3)), (5, (.pd Y36))], [], [], []⟩)] (.seq .leaf (.seq .leaf (.seq (.seq .leaf (.seq .leaf (.seq (.seq (.seq .leaf (.cnd (some (⟨[], [], [1, 6, 7, 8, 9, 11, 12, 13], []⟩, [(.normal, ⟨[(25, (.pd Y4))], [], [1, 6, 7, 8, 9, 11, 12, 13], []⟩)])) .leaf (.seq .leaf (.cnd (some (⟨[], [], [1, 6, 7, 8, 9, 11, 12, 13], []⟩, [(.normal, ⟨[(25, (.pd Y4))], [], [1, 6, 7, 8, 9, 11, 12, 13], []⟩)])) .leaf (.seq .leaf (.cnd (some (⟨[], [], [1, 6, 7, 8, 9, 11, 12, 13], []⟩, [(.normal, ⟨[(25, (.pd Y4))], [], [1, 6, 7, 8, 9, 11, 12, 13], []⟩)])) .leaf (.seq .leaf (.cnd (some (⟨[], [], [1, 6, 7, 8, 9, 11, 12, 13], []⟩, [(.normal, ⟨[(25, (.pd Y4))], [], [1, 6, 7, 8, 9, 11, 12, 13], []⟩)])) .leaf .leaf)))))))) (.cnd none .leaf (.seq (.seq .leaf (.cnd (some (⟨[], [], [1, 6, 7, 9, 11, 12, 13], []⟩, [(.normal, ⟨[(46, (.pd Y4))], [], [1, 6, 7, 9, 11, 12, 13], []⟩)])) .leaf .leaf)) .leaf))) .leaf))) .leaf))))) .leaf)))
noncomputable def F18V (a0 : El Y26) (a1 : El Y3) : Option (El Y3 × El Y36) := evalF (mkE tyTab mapTab pkTab [] [] F18M 62 bdTab) (codeOf Tryz.f96) Tryz.f96.results F18H F18A F18R (fun y => (y.2.1, y.2.2.1)) (a0, a1, ())
theorem F18_eq (a0 : El Y26) (a1 : El Y3) : F18V a0 a1 = F18 a0 a1 := by kernel_rfl
theorem F18_ok : FnOK Tryz.prog 96 F18S := fnOK_of (m := F18M) (fn := Tryz.f96) (hint := F18H) (pack := fun y => (y.2.1, y.2.2.1)) hmix tab_ok trivial fun x z h => (F18_eq x.1 x.2.1).trans h
noncomputable def F110 : (El Y3) → (El Y3) → Option (El Y4) := fun a0 a1 => Option.bind (bif decide (a0 < (0 : Int)) then some true else some (decide (a1 ≤ a0))) fun x0 => some x0
abbrev F110A : Pats := (.cons (.pd Y3) (.cons (.ro Y3) .nil))
abbrev F110R : Pats := (.cons (.pd Y4) .nil)
noncomputable def F110S : Tr.Spec := { args := F110A, res := F110R, fns := [], α := El Y4, f := fun x => F110 x.1 x.2.1, unp := fun z => (((), (), ()), (z, ())) }
noncomputable def F110M : List (Nat × List Tr.Spec) := []
def F110H : Hint := (.seq .leaf (.seq (.reg [(3, Y4)]) .leaf))
noncomputable def F110V (a0 : El Y3) (a1 : El Y3) : Option (El Y4) := evalF (mkE tyTab mapTab pkTab [] [] F110M 11 bdTab) (codeOf Tryz.f127) Tryz.f127.results F110H F110A F110R (fun y => y.2.1) (a0, a1, ())
theorem F110_eq (a0 : El Y3) (a1 : El Y3) : F110V a0 a1 = F110 a0 a1 := by kernel_rfl
theorem F110_ok : FnOK Tryz.prog 127 F110S := fnOK_of (m := F110M) (fn := Tryz.f127) (hint := F110H) (pack := fun y => y.2.1) hmix tab_ok trivial fun x z h => (F110_eq x.1 x.2.1).trans h
noncomputable def F109 : (El Y3) → (El Y167) → (El Y43) → Option (El Y36) := fun a0 a1 a2 =>
 Option.bind (bif decide (a0 < (0 : Int)) then some true else some (decide ((64 : Int) < a0))) fun x0 =>
 bif x0 then some (2 : Int)
 else
 bif decide ((4096 : Int) < (↑(List.length a1) : Int)) then some (5 : Int)
 else
 Option.bind
 (Tr.run
 (fun s1 =>
 bif decide (s1 < (↑(List.length a1) : Int)) then
 Option.bind (idx a1 s1) fun x2 =>
 Option.bind (F110 x2.1 a0) fun x3 =>
 bif x3 then some (.inr (.inr (9 : Int)))
 else
 Option.bind (F110 x2.2.1 a0) fun x4 =>
 bif x4 then some (.inr (.inr (9 : Int)))
 else
 Option.bind (bif decide (x2.2.2.1 < (0 : Int)) then some true else some (decide ((1073741824 : Int) < x2.2.2.1))) fun x5 =>
 bif x5 then some (.inr (.inr (2 : Int))) else some (.inl (IntKind.wrap .i64 (s1 + (1 : Int))))
 else some (.inr (.inl ())))
 (0 : Int))
 fun x6 =>
 Sum.elim
 (fun _ =>
 Option.bind
 (Tr.run
 (fun s8 =>
 bif decide (s8 < (↑(List.length a2) : Int)) then
 Option.bind (idx a2 s8) fun x9 =>
 Option.bind (F110 x9 a0) fun x10 =>
 bif x10 then some (.inr (.inr (9 : Int))) else some (.inl (IntKind.wrap .i64 (s8 + (1 : Int))))
 else some (.inr (.inl ())))
 (0 : Int))
 fun x11 => Sum.elim (fun _ => some (0 : Int)) (fun y13 => some y13) x11)
 (fun y14 => some y14) x6
abbrev F109A : Pats := (.cons (.pd Y3) (.cons (.pd Y167) (.cons (.pd Y43) .nil)))
abbrev F109R : Pats := (.cons (.pd Y36) .nil)
noncomputable def F109S : Tr.Spec := { args := F109A, res := F109R, fns := [], α := El Y36, f := fun x => F109 x.1 x.2.1 x.2.2.1, unp := fun z => (((), (), (), ()), (z, ())) }
noncomputable def F109M : List (Nat × List Tr.Spec) := [(127, [F110S])]
def F109H : Hint := (.seq .leaf (.seq (.seq (.reg [(17, Y4)]) .leaf) (.seq .leaf (.seq .leaf (.seq (.seq .leaf (.lp ⟨[(24, (.pd Y3))], [], [2, 7, 22, 23], []⟩ [((.exit 0), ⟨[], [], [2, 7], []⟩), (.ret, ⟨[(6, (.pd Y36))], [], [], []⟩)] (.seq .leaf (.seq .leaf (.seq (.seq .leaf (.seq .leaf (.seq (.reg [(45, Y4)]) .leaf))) .leaf))))) (.seq (.seq .leaf (.lp ⟨[(49, (.pd Y3))], [], [7, 47, 48], []⟩ [((.exit 2), ⟨[], [], [], []⟩), (.ret, ⟨[(6, (.pd Y36))], [], [], []⟩)] .leaf)) .leaf))))))
noncomputable def F109V (a0 : El Y3) (a1 : El Y167) (a2 : El Y43) : Option (El Y36) := evalF (mkE tyTab mapTab pkTab [] [] F109M 57 bdTab) (codeOf Tryz.f113) Tryz.f113.results F109H F109A F109R (fun y => y.2.1) (a0, a1, a2, ())
theorem F109_eq (a0 : El Y3) (a1 : El Y167) (a2 : El Y43) : F109V a0 a1 a2 = F109 a0 a1 a2 := by kernel_rfl
theorem F109_ok : FnOK Tryz.prog 113 F109S := fnOK_of (m := F109M) (fn := Tryz.f113) (hint := F109H) (pack := fun y => y.2.1) hmix tab_ok ⟨⟨F110_ok, trivial⟩, trivial⟩ fun x z h => (F109_eq x.1 x.2.1 x.2.2.1).trans h
noncomputable def F114 : (El Y167) → (El Y4) → Option (List (El Y3 × List (El Y169))) := fun a0 a1 =>
 Option.bind
 (Tr.run
 (fun s0 =>
 bif decide (s0.2 < (↑(List.length a0) : Int)) then
 Option.bind (idx a0 s0.2) fun x1 =>
 Option.bind (bif a1 then some (x1.2.1, x1.1, x1.2.2) else some x1) fun x2 =>
 Option.bind (guardB (decide (List.length (Option.getD (Tr.amGet (Tr.keyEq Y3) x2.1 s0.1) []) + List.length [x2] ≤ maxApp))) fun _ =>
 Option.bind (guardB (Tr.holeK Y3 (some x2.1) x2.1)) fun _ =>
 some (.inl (Tr.amSet (Tr.keyEq Y3) x2.1 (Option.getD (Tr.amGet (Tr.keyEq Y3) x2.1 s0.1) [] ++ [x2]) s0.1, IntKind.wrap .i64 (s0.2 + (1 : Int))))
 else some (.inr s0.1))
 ([], (0 : Int)))
 fun x5 => some x5
abbrev F114A : Pats := (.cons (.pd Y167) (.cons (.pd Y4) .nil))
abbrev F114R : Pats := (.cons (.mrows Y3 Y169) .nil)
noncomputable def F114S : Tr.Spec := { args := F114A, res := F114R, fns := [], α := List (El Y3 × List (El Y169)), f := fun x => F114 x.1 x.2.1, unp := fun z => (((), (), ()), (z, ())) }
noncomputable def F114M : List (Nat × List Tr.Spec) := []
def F114H : Hint := (.seq .leaf (.seq .leaf (.seq (.seq .leaf (.lp ⟨[(5, (.mrows Y3 Y169)), (11, (.pd Y3))], [], [1, 9, 10], []⟩ [((.exit 0), ⟨[(5, (.mrows Y3 Y169))], [], [], []⟩)] (.seq .leaf (.seq .leaf (.seq (.seq .leaf (.seq (.seq .leaf (.cnd (some (⟨[], [], [1, 5, 9, 10, 11], []⟩, [(.normal, ⟨[(7, (.var Y169 (.pd Y169)))], [], [1, 5, 9, 10, 11], []⟩)])) .leaf .leaf)) .leaf)) .leaf))))) .leaf)))
noncomputable def F114V (a0 : El Y167) (a1 : El Y4) : Option (List (El Y3 × List (El Y169))) := evalF (mkE tyTab mapTab pkTab [177] [] F114M 34 bdTab) (codeOf Tryz.f114) Tryz.f114.results F114H F114A F114R (fun y => y.2.1) (a0, a1, ())
theorem F114_eq (a0 : El Y167) (a1 : El Y4) : F114V a0 a1 = F114 a0 a1 := by kernel_rfl
theorem F114_ok : FnOK Tryz.prog 114 F114S := fnOK_of (m := F114M) (fn := Tryz.f114) (hint := F114H) (pack := fun y => y.2.1) hmix tab_ok trivial fun x z h => (F114_eq x.1 x.2.1).trans h
noncomputable def F112 : (El Y180) → Option (El Y43) := fun a0 =>
 Option.bind
 (guardB
 (decide
 ((0 : Tr.El (Tr.Ty.int .i64)) ≤ (↑(List.length a0) : Int) ∧
 (↑(List.length a0) : Int) ≤ (↑(List.length a0) : Int) ∧ (↑(List.length a0) : Int) ≤ (↑maxApp : Tr.El (Tr.Ty.int .i64)))))
 fun _ =>
 Option.bind
 (Tr.run
 (fun s1 =>
 bif decide (s1.2 < (↑(List.length a0) : Int)) then
 Option.bind (idx a0 s1.2) fun x2 =>
 Option.bind (inb s1.2 (List.length s1.1)) fun x3 =>
 Option.bind s1.1[x3]? fun _ => some (.inl (List.set s1.1 x3 x2.2.1, IntKind.wrap .i64 (s1.2 + (1 : Int))))
 else some (.inr s1.1))
 (List.replicate (Int.toNat (↑(List.length a0) : Int)) ((0 : Int)), (0 : Int)))
 fun x5 => some x5
abbrev F112A : Pats := (.cons (.pd Y180) .nil)
abbrev F112R : Pats := (.cons (.pd Y43) .nil)
noncomputable def F112S : Tr.Spec := { args := F112A, res := F112R, fns := [], α := El Y43, f := fun x => F112 x.1, unp := fun z => (((), ()), (z, ())) }
noncomputable def F112M : List (Nat × List Tr.Spec) := []
def F112H : Hint := (.seq .leaf (.seq .leaf (.seq (.seq .leaf (.lp ⟨[(3, (.own Y3 false)), (11, (.pd Y3))], [], [9, 10], []⟩ [((.exit 0), ⟨[(3, (.own Y3 false))], [], [], []⟩)] .leaf)) .leaf)))
noncomputable def F112V (a0 : El Y180) : Option (El Y43) := evalF (mkE tyTab mapTab pkTab [] [] F112M 23 bdTab) (codeOf Tryz.f115) Tryz.f115.results F112H F112A F112R (fun y => y.2.1) (a0, ())
theorem F112_eq (a0 : El Y180) : F112V a0 = F112 a0 := by kernel_rfl
theorem F112_ok : FnOK Tryz.prog 115 F112S := fnOK_of (m := F112M) (fn := Tryz.f115) (hint := F112H) (pack := fun y => y.2.1) hmix tab_ok trivial fun x z h => (F112_eq x.1).trans h
noncomputable def F113 : (El Y193) → (El Y193) → Option (El Y4) := fun a0 a1 =>
 Option.bind
 (bif decide (a0.2.1 < a1.2.1) then some true
 else bif decide (a0.2.1 = a1.2.1) then some (decide (a0.2.2.1 < a1.2.2.1)) else some false)
 fun x0 => some x0
abbrev F113A : Pats := (.cons (.pd Y193) (.cons (.pd Y193) .nil))
abbrev F113R : Pats := (.cons (.pd Y4) .nil)
noncomputable def F113S : Tr.Spec := { args := F113A, res := F113R, fns := [], α := El Y4, f := fun x => F113 x.1 x.2.1, unp := fun z => (((), (), ()), (z, ())) }
noncomputable def F113M : List (Nat × List Tr.Spec) := []
def F113H : Hint := (.seq .leaf (.seq (.reg [(4, Y4)]) .leaf))
noncomputable def F113V (a0 : El Y193) (a1 : El Y193) : Option (El Y4) := evalF (mkE tyTab mapTab pkTab [] [] F113M 24 bdTab) (codeOf Tryz.f129) Tryz.f129.results F113H F113A F113R (fun y => y.2.1) (a0, a1, ())
theorem F113_eq (a0 : El Y193) (a1 : El Y193) : F113V a0 a1 = F113 a0 a1 := by kernel_rfl
theorem F113_ok : FnOK Tryz.prog 129 F113S := fnOK_of (m := F113M) (fn := Tryz.f129) (hint := F113H) (pack := fun y => y.2.1) hmix tab_ok trivial fun x z h => (F113_eq x.1 x.2.1).trans h
noncomputable def F23 : ((Unit × List (El Y210) × El Y3 × Unit)) → (El Y3) → (El Y3) → Option ((Unit × List (El Y210) × El Y3 × Unit) × El Y4) := fun a0 a1 a2 =>
 Option.bind (inb a1 (List.length a0.2.1)) fun x0 =>
 Option.bind a0.2.1[x0]? fun x1 =>
 Option.bind (inb a2 (List.length a0.2.1)) fun x2 =>
 Option.bind a0.2.1[x2]? fun x3 =>
 Option.bind (F113 x1.1 x3.1) fun x4 =>
 bif x4 then some (((), a0.2.1, a0.2.2.1, ()), true)
 else
 Option.bind (F113 x3.1 x1.1) fun x5 =>
 bif x5 then some (((), a0.2.1, a0.2.2.1, ()), false) else some (((), a0.2.1, a0.2.2.1, ()), decide (x1.2.1 < x3.2.1))
abbrev F23A : Pats := (.cons (.var Y208 (.agg (.cons (.fn 129 .nil) (.cons (.own Y210 true) (.cons (.pd Y3) .nil))))) (.cons (.pd Y3) (.cons (.pd Y3) .nil)))
abbrev F23R : Pats := (.cons (.pd Y4) .nil)
noncomputable def F23S : Tr.Spec := { args := F23A, res := F23R, fns := [], α := (Unit × List (El Y210) × El Y3 × Unit) × El Y4, f := fun x => F23 x.1 x.2.1 x.2.2.1, unp := fun z => ((z.1, (), (), ()), (z.2, ())) }
noncomputable def F23M : List (Nat × List Tr.Spec) := [(129, [F113S])]
def F23H : Hint := .leaf
noncomputable def F23V (a0 : (Unit × List (El Y210) × El Y3 × Unit)) (a1 : El Y3) (a2 : El Y3) : Option ((Unit × List (El Y210) × El Y3 × Unit) × El Y4) := evalF (mkE tyTab mapTab pkTab [] [] F23M 46 bdTab) (codeOf Tryz.f137) Tryz.f137.results F23H F23A F23R (fun y => (y.1.1, y.2.1)) (a0, a1, a2, ())
theorem F23_eq (a0 : (Unit × List (El Y210) × El Y3 × Unit)) (a1 : El Y3) (a2 : El Y3) : F23V a0 a1 a2 = F23 a0 a1 a2 := by kernel_rfl
theorem F23_ok : FnOK Tryz.prog 137 F23S := fnOK_of (m := F23M) (fn := Tryz.f137) (hint := F23H) (pack := fun y => (y.1.1, y.2.1)) hmix tab_ok ⟨⟨F113_ok, trivial⟩, trivial⟩ fun x z h => (F23_eq x.1 x.2.1 x.2.2.1).trans h
noncomputable def F25 : ((Unit × List (El Y210) × El Y3 × Unit)) → (El Y3) → (El Y3) → Option ((Unit × List (El Y210) × El Y3 × Unit)) := fun a0 a1 a2 =>
 Option.bind (inb a2 (List.length a0.2.1)) fun x0 =>
 Option.bind a0.2.1[x0]? fun x1 =>
 Option.bind (inb a1 (List.length a0.2.1)) fun x2 =>
 Option.bind a0.2.1[x2]? fun x3 =>
 Option.bind (inb a1 (List.length a0.2.1)) fun x4 =>
 Option.bind a0.2.1[x4]? fun _ =>
 Option.bind (inb a2 (List.length (List.set a0.2.1 x4 x1))) fun x6 =>
 Option.bind (List.set a0.2.1 x4 x1)[x6]? fun _ => some ((), List.set (List.set a0.2.1 x4 x1) x6 x3, a0.2.2.1, ())
abbrev F25A : Pats := (.cons (.var Y208 (.agg (.cons (.fn 129 .nil) (.cons (.own Y210 true) (.cons (.pd Y3) .nil))))) (.cons (.pd Y3) (.cons (.pd Y3) .nil)))
abbrev F25R : Pats := .nil
noncomputable def F25S : Tr.Spec := { args := F25A, res := F25R, fns := [], α := (Unit × List (El Y210) × El Y3 × Unit), f := fun x => F25 x.1 x.2.1 x.2.2.1, unp := fun z => ((z, (), (), ()), ()) }
noncomputable def F25M : List (Nat × List Tr.Spec) := [(129, [F113S])]
def F25H : Hint := .leaf
noncomputable def F25V (a0 : (Unit × List (El Y210) × El Y3 × Unit)) (a1 : El Y3) (a2 : El Y3) : Option ((Unit × List (El Y210) × El Y3 × Unit)) := evalF (mkE tyTab mapTab pkTab [] [] F25M 32 bdTab) (codeOf Tryz.f138) Tryz.f138.results F25H F25A F25R (fun y => y.1.1) (a0, a1, a2, ())
theorem F25_eq (a0 : (Unit × List (El Y210) × El Y3 × Unit)) (a1 : El Y3) (a2 : El Y3) : F25V a0 a1 a2 = F25 a0 a1 a2 := by kernel_rfl
theorem F25_ok : FnOK Tryz.prog 138 F25S := fnOK_of (m := F25M) (fn := Tryz.f138) (hint := F25H) (pack := fun y => y.1.1) hmix tab_ok ⟨⟨F113_ok, trivial⟩, trivial⟩ fun x z h => (F25_eq x.1 x.2.1 x.2.2.1).trans h
noncomputable def F22 : ((Unit × List (El Y210) × El Y3 × Unit)) → (El Y193) → Option ((Unit × List (El Y210) × El Y3 × Unit)) := fun a0 a1 =>
 Option.bind (guardB (decide (List.length a0.2.1 + List.length [(a1, a0.2.2.1, ())] ≤ maxApp))) fun _ =>
 Option.bind
 (Tr.run
 (fun s1 =>
 bif decide ((0 : Int) < s1.2) then
 Option.bind
 (F23 ((), s1.1.2.1, s1.1.2.2.1, ()) s1.2
 (IntKind.wrap .i64 (Int.tdiv (IntKind.wrap .i64 (s1.2 - (1 : Int))) (2 : Int))))
 fun x2 =>
 bif x2.2 then
 Option.bind
 (F25 ((), x2.1.2.1, x2.1.2.2.1, ()) s1.2
 (IntKind.wrap .i64 (Int.tdiv (IntKind.wrap .i64 (s1.2 - (1 : Int))) (2 : Int))))
 fun x3 => some (.inl (((), x3.2.1, x3.2.2.1, ()), IntKind.wrap .i64 (Int.tdiv (IntKind.wrap .i64 (s1.2 - (1 : Int))) (2 : Int))))
 else some (.inr ((), x2.1.2.1, x2.1.2.2.1, ()))
 else some (.inr ((), s1.1.2.1, s1.1.2.2.1, ())))
 (((), a0.2.1 ++ [(a1, a0.2.2.1, ())], IntKind.wrap .i64 (a0.2.2.1 + (1 : Int)), ()),
 IntKind.wrap .i64 ((↑(List.length (a0.2.1 ++ [(a1, a0.2.2.1, ())])) : Int) - (1 : Int))))
 fun x4 => some ((), x4.2.1, x4.2.2.1, ())
abbrev F22A : Pats := (.cons (.var Y208 (.agg (.cons (.fn 129 .nil) (.cons (.own Y210 true) (.cons (.pd Y3) .nil))))) (.cons (.pd Y193) .nil))
abbrev F22R : Pats := .nil
noncomputable def F22S : Tr.Spec := { args := F22A, res := F22R, fns := [], α := (Unit × List (El Y210) × El Y3 × Unit), f := fun x => F22 x.1 x.2.1, unp := fun z => ((z, (), ()), ()) }
noncomputable def F22M : List (Nat × List Tr.Spec) := [(129, [F113S]), (137, [F23S]), (138, [F25S])]
def F22H : Hint := (.seq .leaf (.seq .leaf (.seq .leaf (.seq .leaf (.seq .leaf (.lp ⟨[(0, (.var Y208 (.agg (.cons (.fn 129 .nil) (.cons (.own Y210 false) (.cons (.pd Y3) .nil)))))), (4, (.pd Y3))], [], [], []⟩ [((.exit 0), ⟨[(0, (.var Y208 (.agg (.cons (.fn 129 .nil) (.cons (.own Y210 false) (.cons (.pd Y3) .nil))))))], [], [], []⟩)] .leaf))))))
noncomputable def F22V (a0 : (Unit × List (El Y210) × El Y3 × Unit)) (a1 : El Y193) : Option ((Unit × List (El Y210) × El Y3 × Unit)) := evalF (mkE tyTab mapTab pkTab [] [] F22M 54 bdTab) (codeOf Tryz.f130) Tryz.f130.results F22H F22A F22R (fun y => y.1.1) (a0, a1, ())
theorem F22_eq (a0 : (Unit × List (El Y210) × El Y3 × Unit)) (a1 : El Y193) : F22V a0 a1 = F22 a0 a1 := by kernel_rfl
theorem F22_ok : FnOK Tryz.prog 130 F22S := fnOK_of (m := F22M) (fn := Tryz.f130) (hint := F22H) (pack := fun y => y.1.1) hmix tab_ok ⟨⟨F113_ok, trivial⟩, ⟨F23_ok, trivial⟩, ⟨F25_ok, trivial⟩, trivial⟩ fun x z h => (F22_eq x.1 x.2.1).trans h
noncomputable def F19 : ((Unit × List (El Y210) × El Y3 × Unit)) → Option ((Unit × List (El Y210) × El Y3 × Unit) × El Y3) := fun a0 => some (((), a0.2.1, a0.2.2.1, ()), (↑(List.length a0.2.1) : Int))
abbrev F19A : Pats := (.cons (.var Y208 (.agg (.cons (.fn 129 .nil) (.cons (.own Y210 true) (.cons (.pd Y3) .nil))))) .nil)
abbrev F19R : Pats := (.cons (.pd Y3) .nil)
noncomputable def F19S : Tr.Spec := { args := F19A, res := F19R, fns := [], α := (Unit × List (El Y210) × El Y3 × Unit) × El Y3, f := fun x => F19 x.1, unp := fun z => ((z.1, ()), (z.2, ())) }
noncomputable def F19M : List (Nat × List Tr.Spec) := [(129, [F113S])]
def F19H : Hint := .leaf
noncomputable def F19V (a0 : (Unit × List (El Y210) × El Y3 × Unit)) : Option ((Unit × List (El Y210) × El Y3 × Unit) × El Y3) := evalF (mkE tyTab mapTab pkTab [] [] F19M 10 bdTab) (codeOf Tryz.f142) Tryz.f142.results F19H F19A F19R (fun y => (y.1.1, y.2.1)) (a0, ())
theorem F19_eq (a0 : (Unit × List (El Y210) × El Y3 × Unit)) : F19V a0 = F19 a0 := by kernel_rfl
theorem F19_ok : FnOK Tryz.prog 142 F19S := fnOK_of (m := F19M) (fn := Tryz.f142) (hint := F19H) (pack := fun y => (y.1.1, y.2.1)) hmix tab_ok ⟨⟨F113_ok, trivial⟩, trivial⟩ fun x z h => (F19_eq x.1).trans h
noncomputable def F20 : ((Unit × List (El Y210) × El Y3 × Unit)) → Option ((Unit × List (El Y210) × El Y3 × Unit) × El Y193 × El Y4) := fun a0 =>
 Option.bind (F19 ((), a0.2.1, a0.2.2.1, ())) fun x0 =>
 bif decide (x0.2 = (0 : Int)) then some (((), x0.1.2.1, x0.1.2.2.1, ()), ((0 : Int), (0 : Int), (0 : Int), ()), false)
 else Option.bind (inb (0 : Int) (List.length x0.1.2.1)) fun x1 => Option.bind x0.1.2.1[x1]? fun x2 => some (((), x0.1.2.1, x0.1.2.2.1, ()), x2.1, true)
abbrev F20A : Pats := (.cons (.var Y208 (.agg (.cons (.fn 129 .nil) (.cons (.own Y210 true) (.cons (.pd Y3) .nil))))) .nil)
abbrev F20R : Pats := (.cons (.pd Y193) (.cons (.pd Y4) .nil))
noncomputable def F20S : Tr.Spec := { args := F20A, res := F20R, fns := [], α := (Unit × List (El Y210) × El Y3 × Unit) × El Y193 × El Y4, f := fun x => F20 x.1, unp := fun z => ((z.1, ()), (z.2.1, z.2.2, ())) }
noncomputable def F20M : List (Nat × List Tr.Spec) := [(129, [F113S]), (142, [F19S])]
def F20H : Hint := .leaf
noncomputable def F20V (a0 : (Unit × List (El Y210) × El Y3 × Unit)) : Option ((Unit × List (El Y210) × El Y3 × Unit) × El Y193 × El Y4) := evalF (mkE tyTab mapTab pkTab [] [] F20M 16 bdTab) (codeOf Tryz.f139) Tryz.f139.results F20H F20A F20R (fun y => (y.1.1, y.2.1, y.2.2.1)) (a0, ())
theorem F20_eq (a0 : (Unit × List (El Y210) × El Y3 × Unit)) : F20V a0 = F20 a0 := by kernel_rfl
theorem F20_ok : FnOK Tryz.prog 139 F20S := fnOK_of (m := F20M) (fn := Tryz.f139) (hint := F20H) (pack := fun y => (y.1.1, y.2.1, y.2.2.1)) hmix tab_ok ⟨⟨F113_ok, trivial⟩, ⟨F19_ok, trivial⟩, trivial⟩ fun x z h => (F20_eq x.1).trans h
noncomputable def F24 : ((Unit × List (El Y210) × El Y3 × Unit)) → Option ((Unit × List (El Y210) × El Y3 × Unit)) := fun a0 =>
 Option.bind
 (Tr.run
 (fun s0 =>
 bif decide ((↑(List.length s0.1.2.1) : Int) ≤ IntKind.wrap .i64 (IntKind.wrap .i64 ((2 : Int) * s0.2) + (1 : Int))) then
 some (.inr ((), s0.1.2.1, s0.1.2.2.1, ()))
 else
 bif
 decide
 (IntKind.wrap .i64 (IntKind.wrap .i64 (IntKind.wrap .i64 ((2 : Int) * s0.2) + (1 : Int)) + (1 : Int)) <
 (↑(List.length s0.1.2.1) : Int)) then
 Option.bind
 (F23 ((), s0.1.2.1, s0.1.2.2.1, ())
 (IntKind.wrap .i64 (IntKind.wrap .i64 (IntKind.wrap .i64 ((2 : Int) * s0.2) + (1 : Int)) + (1 : Int)))
 (IntKind.wrap .i64 (IntKind.wrap .i64 ((2 : Int) * s0.2) + (1 : Int))))
 fun x1 =>
 Option.bind
 (bif x1.2 then
 some
 (((), x1.1.2.1, x1.1.2.2.1, ()),
 IntKind.wrap .i64 (IntKind.wrap .i64 (IntKind.wrap .i64 ((2 : Int) * s0.2) + (1 : Int)) + (1 : Int)))
 else some (((), x1.1.2.1, x1.1.2.2.1, ()), IntKind.wrap .i64 (IntKind.wrap .i64 ((2 : Int) * s0.2) + (1 : Int))))
 fun x2 =>
 Option.bind (F23 ((), x2.1.2.1, x2.1.2.2.1, ()) x2.2 s0.2) fun x3 =>
 bif !x3.2 then some (.inr ((), x3.1.2.1, x3.1.2.2.1, ()))
 else
 Option.bind (F25 ((), x3.1.2.1, x3.1.2.2.1, ()) s0.2 x2.2) fun x4 =>
 some (.inl (((), x4.2.1, x4.2.2.1, ()), x2.2))
 else
 Option.bind
 (F23 ((), s0.1.2.1, s0.1.2.2.1, ()) (IntKind.wrap .i64 (IntKind.wrap .i64 ((2 : Int) * s0.2) + (1 : Int))) s0.2)
 fun x5 =>
 bif !x5.2 then some (.inr ((), x5.1.2.1, x5.1.2.2.1, ()))
 else
 Option.bind
 (F25 ((), x5.1.2.1, x5.1.2.2.1, ()) s0.2
 (IntKind.wrap .i64 (IntKind.wrap .i64 ((2 : Int) * s0.2) + (1 : Int))))
 fun x6 => some (.inl (((), x6.2.1, x6.2.2.1, ()), IntKind.wrap .i64 (IntKind.wrap .i64 ((2 : Int) * s0.2) + (1 : Int)))))
 (((), a0.2.1, a0.2.2.1, ()), (0 : Int)))
 fun x7 => some ((), x7.2.1, x7.2.2.1, ())
abbrev F24A : Pats := (.cons (.var Y208 (.agg (.cons (.fn 129 .nil) (.cons (.own Y210 true) (.cons (.pd Y3) .nil))))) .nil)
abbrev F24R : Pats := .nil
noncomputable def F24S : Tr.Spec := { args := F24A, res := F24R, fns := [], α := (Unit × List (El Y210) × El Y3 × Unit), f := fun x => F24 x.1, unp := fun z => ((z, ()), ()) }
noncomputable def F24M : List (Nat × List Tr.Spec) := [(129, [F113S]), (137, [F23S]), (138, [F25S])]
def F24H : Hint := (.seq .leaf (.lp ⟨[(0, (.var Y208 (.agg (.cons (.fn 129 .nil) (.cons (.own Y210 false) (.cons (.pd Y3) .nil)))))), (2, (.pd Y3))], [], [], []⟩ [(.ret, ⟨[(0, (.var Y208 (.agg (.cons (.fn 129 .nil) (.cons (.own Y210 false) (.cons (.pd Y3) .nil))))))], [], [], []⟩)] (.seq .leaf (.seq .leaf (.seq (.seq .leaf (.cnd (some (⟨[], [], [2], []⟩, [(.normal, ⟨[(0, (.var Y208 (.agg (.cons (.fn 129 .nil) (.cons (.own Y210 false) (.cons (.pd Y3) .nil)))))), (3, (.pd Y3))], [], [2], []⟩)])) .leaf .leaf)) .leaf)))))
noncomputable def F24V (a0 : (Unit × List (El Y210) × El Y3 × Unit)) : Option ((Unit × List (El Y210) × El Y3 × Unit)) := evalF (mkE tyTab mapTab pkTab [] [] F24M 41 bdTab) (codeOf Tryz.f140) Tryz.f140.results F24H F24A F24R (fun y => y.1.1) (a0, ())
theorem F24_eq (a0 : (Unit × List (El Y210) × El Y3 × Unit)) : F24V a0 = F24 a0 := by kernel_rfl
theorem F24_ok : FnOK Tryz.prog 140 F24S := fnOK_of (m := F24M) (fn := Tryz.f140) (hint := F24H) (pack := fun y => y.1.1) hmix tab_ok ⟨⟨F113_ok, trivial⟩, ⟨F23_ok, trivial⟩, ⟨F25_ok, trivial⟩, trivial⟩ fun x z h => (F24_eq x.1).trans h
noncomputable def F21 : ((Unit × List (El Y210) × El Y3 × Unit)) → Option ((Unit × List (El Y210) × El Y3 × Unit) × El Y193 × El Y4) := fun a0 =>
 Option.bind (F20 ((), a0.2.1, a0.2.2.1, ())) fun x0 =>
 bif !x0.2.2 then some (((), x0.1.2.1, x0.1.2.2.1, ()), x0.2.1, false)
 else
 Option.bind (F25 ((), x0.1.2.1, x0.1.2.2.1, ()) (0 : Int) (IntKind.wrap .i64 ((↑(List.length x0.1.2.1) : Int) - (1 : Int))))
 fun x1 =>
 Option.bind (sliceB (List.length x1.2.1) (List.length x1.2.1) none (some (IntKind.wrap .i64 ((↑(List.length x0.1.2.1) : Int) - (1 : Int)))))
 fun x2 =>
 Option.bind (F24 ((), List.take x2.2 x1.2.1, x1.2.2.1, ())) fun x3 => some (((), x3.2.1, x3.2.2.1, ()), x0.2.1, true)
abbrev F21A : Pats := (.cons (.var Y208 (.agg (.cons (.fn 129 .nil) (.cons (.own Y210 true) (.cons (.pd Y3) .nil))))) .nil)
abbrev F21R : Pats := (.cons (.pd Y193) (.cons (.pd Y4) .nil))
noncomputable def F21S : Tr.Spec := { args := F21A, res := F21R, fns := [], α := (Unit × List (El Y210) × El Y3 × Unit) × El Y193 × El Y4, f := fun x => F21 x.1, unp := fun z => ((z.1, ()), (z.2.1, z.2.2, ())) }
noncomputable def F21M : List (Nat × List Tr.Spec) := [(129, [F113S]), (138, [F25S]), (139, [F20S]), (140, [F24S])]
def F21H : Hint := .leaf
noncomputable def F21V (a0 : (Unit × List (El Y210) × El Y3 × Unit)) : Option ((Unit × List (El Y210) × El Y3 × Unit) × El Y193 × El Y4) := evalF (mkE tyTab mapTab pkTab [] [] F21M 36 bdTab) (codeOf Tryz.f131) Tryz.f131.results F21H F21A F21R (fun y => (y.1.1, y.2.1, y.2.2.1)) (a0, ())
theorem F21_eq (a0 : (Unit × List (El Y210) × El Y3 × Unit)) : F21V a0 = F21 a0 := by kernel_rfl
theorem F21_ok : FnOK Tryz.prog 131 F21S := fnOK_of (m := F21M) (fn := Tryz.f131) (hint := F21H) (pack := fun y => (y.1.1, y.2.1, y.2.2.1)) hmix tab_ok ⟨⟨F113_ok, trivial⟩, ⟨F25_ok, trivial⟩, ⟨F20_ok, trivial⟩, ⟨F24_ok, trivial⟩, trivial⟩ fun x z h => (F21_eq x.1).trans h
noncomputable def F26 : (Unit) → Option ((Unit × List (El Y210) × El Y3 × Unit)) := fun _ => some ((), [], (0 : Int), ())
abbrev F26A : Pats := (.cons (.fn 129 .nil) .nil)
abbrev F26R : Pats := (.cons (.var Y208 (.agg (.cons (.fn 129 .nil) (.cons (.own Y210 true) (.cons (.pd Y3) .nil))))) .nil)
noncomputable def F26S : Tr.Spec := { args := F26A, res := F26R, fns := [129], α := (Unit × List (El Y210) × El Y3 × Unit), f := fun x => F26 x.1, unp := fun z => (((), ()), (z, ())) }
noncomputable def F26M : List (Nat × List Tr.Spec) := [(129, [F113S])]
def F26H : Hint := .leaf
noncomputable def F26V (a0 : Unit) : Option ((Unit × List (El Y210) × El Y3 × Unit)) := evalF (mkE tyTab mapTab pkTab [] [] F26M 8 bdTab) (codeOf Tryz.f128) Tryz.f128.results F26H F26A F26R (fun y => y.2.1) (a0, ())
theorem F26_eq (a0 : Unit) : F26V a0 = F26 a0 := by kernel_rfl
theorem F26_ok : FnOK Tryz.prog 128 F26S := fnOK_of (m := F26M) (fn := Tryz.f128) (hint := F26H) (pack := fun y => y.2.1) hmix tab_ok ⟨⟨F113_ok, trivial⟩, trivial⟩ fun x z h => (F26_eq x.1).trans h
noncomputable def F111 : (El Y3) → (List (El Y3 × List (El Y169))) → (El Y3) → Option (List (El Y3 × List (El Y169)) × El Y180) := fun a0 a1 a2 =>
 Option.bind (guardB (decide ((0 : Tr.El (Tr.Ty.int .i64)) ≤ a0 ∧ a0 ≤ a0 ∧ a0 ≤ (↑maxApp : Tr.El (Tr.Ty.int .i64))))) fun _ =>
 Option.bind
 (Tr.run
 (fun s1 =>
 bif decide (s1.2 < (↑(List.length (List.replicate (Int.toNat a0) (((0 : Int), (0 : Int), (0 : Int), ())))) : Int)) then
 Option.bind (inb s1.2 (List.length s1.1)) fun x2 =>
 Option.bind s1.1[x2]? fun _ => some (.inl (List.set s1.1 x2 (s1.2, (-1 : Int), (-1 : Int), ()), IntKind.wrap .i64 (s1.2 + (1 : Int))))
 else some (.inr s1.1))
 (List.replicate (Int.toNat a0) (((0 : Int), (0 : Int), (0 : Int), ())), (0 : Int)))
 fun x4 =>
 Option.bind (F26 ()) fun x5 =>
 Option.bind (F22 ((), x5.2.1, x5.2.2.1, ()) (a2, (0 : Int), (0 : Int), ())) fun x6 =>
 Option.bind
 (Tr.run
 (fun s7 =>
 Option.bind (F21 ((), s7.2.2.1, s7.2.2.2.1, ())) fun x8 =>
 bif !x8.2.2 then some (.inr s7.1)
 else
 Option.bind (inb x8.2.1.1 (List.length s7.1)) fun x9 =>
 Option.bind s7.1[x9]? fun x10 =>
 bif decide ((0 : Int) ≤ x10.2.2.1) then some (.inl (s7.1, (), x8.1.2.1, x8.1.2.2.1, ()))
 else
 Option.bind (inb x8.2.1.1 (List.length s7.1)) fun x11 =>
 Option.bind s7.1[x11]? fun _ =>
 Option.bind
 (Tr.run
 (fun s13 =>
 bif decide (s13.2 < (↑(List.length (Option.getD (Tr.amGet (Tr.keyEq Y3) x8.2.1.1 a1) [])) : Int)) then
 Option.bind (inb s13.2 (List.length (Option.getD (Tr.amGet (Tr.keyEq Y3) x8.2.1.1 a1) []))) fun x14 =>
 Option.bind (Option.getD (Tr.amGet (Tr.keyEq Y3) x8.2.1.1 a1) [])[x14]? fun x15 =>
 Option.bind (inb x15.2.1 (List.length (List.set s7.1 x11 x8.2.1))) fun x16 =>
 Option.bind (List.set s7.1 x11 x8.2.1)[x16]? fun x17 =>
 bif decide (x17.2.2.1 < (0 : Int)) then
 Option.bind
 (F22 ((), s13.1.2.1, s13.1.2.2.1, ())
 (x15.2.1, IntKind.wrap .i64 (x8.2.1.2.1 + x15.2.2.1),
 IntKind.wrap .i64 (x8.2.1.2.2.1 + (1 : Int)), ()))
 fun x18 => some (.inl (((), x18.2.1, x18.2.2.1, ()), IntKind.wrap .i64 (s13.2 + (1 : Int))))
 else some (.inl (((), s13.1.2.1, s13.1.2.2.1, ()), IntKind.wrap .i64 (s13.2 + (1 : Int))))
 else some (.inr ((), s13.1.2.1, s13.1.2.2.1, ())))
 (((), x8.1.2.1, x8.1.2.2.1, ()), (0 : Int)))
 fun x19 => some (.inl (List.set s7.1 x11 x8.2.1, (), x19.2.1, x19.2.2.1, ())))
 (x4, (), x6.2.1, x6.2.2.1, ()))
 fun x20 => some (a1, x20)
abbrev F111A : Pats := (.cons (.pd Y3) (.cons (.mrows Y3 Y169) (.cons (.pd Y3) .nil)))
abbrev F111R : Pats := (.cons (.pd Y180) .nil)
noncomputable def F111S : Tr.Spec := { args := F111A, res := F111R, fns := [], α := List (El Y3 × List (El Y169)) × El Y180, f := fun x => F111 x.1 x.2.1 x.2.2.1, unp := fun z => (((), z.1, (), ()), (z.2, ())) }
noncomputable def F111M : List (Nat × List Tr.Spec) := [(128, [F26S]), (129, [F113S]), (130, [F22S]), (131, [F21S])]
def F111H : Hint := (.seq .leaf (.seq .leaf (.seq (.seq .leaf (.lp ⟨[(7, (.own Y193 false)), (18, (.pd Y3))], [], [1, 2, 17], []⟩ [((.exit 0), ⟨[(7, (.own Y193 false))], [], [1, 2], []⟩)] .leaf)) (.seq .leaf (.seq .leaf (.lp ⟨[(7, (.own Y193 false)), (9, (.var Y208 (.agg (.cons (.fn 129 .nil) (.cons (.own Y210 false) (.cons (.pd Y3) .nil))))))], [], [1], []⟩ [(.ret, ⟨[(6, (.own Y193 false))], [], [1], []⟩)] (.seq .leaf (.seq .leaf (.seq .leaf (.seq .leaf (.seq .leaf (.lp ⟨[(9, (.var Y208 (.agg (.cons (.fn 129 .nil) (.cons (.own Y210 false) (.cons (.pd Y3) .nil)))))), (57, (.pd Y3))], [], [1, 7, 10, 55, 56], []⟩ [((.exit 4), ⟨[(9, (.var Y208 (.agg (.cons (.fn 129 .nil) (.cons (.own Y210 false) (.cons (.pd Y3) .nil))))))], [], [1, 7], []⟩)] .leaf))))))))))))
noncomputable def F111V (a0 : El Y3) (a1 : List (El Y3 × List (El Y169))) (a2 : El Y3) : Option (List (El Y3 × List (El Y169)) × El Y180) := evalF (mkE tyTab mapTab pkTab [] [] F111M 82 bdTab) (codeOf Tryz.f116) Tryz.f116.results F111H F111A F111R (fun y => (y.1.2.1, y.2.1)) (a0, a1, a2, ())
theorem F111_eq (a0 : El Y3) (a1 : List (El Y3 × List (El Y169))) (a2 : El Y3) : F111V a0 a1 a2 = F111 a0 a1 a2 := by kernel_rfl
theorem F111_ok : FnOK Tryz.prog 116 F111S := fnOK_of (m := F111M) (fn := Tryz.f116) (hint := F111H) (pack := fun y => (y.1.2.1, y.2.1)) hmix tab_ok ⟨⟨F26_ok, trivial⟩, ⟨F113_ok, trivial⟩, ⟨F22_ok, trivial⟩, ⟨F21_ok, trivial⟩, trivial⟩ fun x z h => (F111_eq x.1 x.2.1 x.2.2.1).trans h
noncomputable def F108 : (El Y3) → (El Y167) → Option (El Y135 × El Y36) := fun a0 a1 =>
 Option.bind (F109 a0 a1 []) fun x0 =>
 bif !decide (x0 = (0 : Int)) then some ([], x0)
 else
 Option.bind (F114 a1 false) fun x1 =>
 Option.bind (guardB (decide ((0 : Tr.El (Tr.Ty.int .i64)) ≤ a0 ∧ a0 ≤ a0 ∧ a0 ≤ (↑maxApp : Tr.El (Tr.Ty.int .i64))))) fun _ =>
 Option.bind
 (Tr.run
 (fun s3 =>
 bif decide (s3.2.2 < (↑(List.length (List.replicate (Int.toNat a0) (([] : List (El Y3))))) : Int)) then
 Option.bind (F111 a0 s3.1 s3.2.2) fun x4 =>
 Option.bind (F112 x4.2) fun x5 =>
 Option.bind (inb s3.2.2 (List.length s3.2.1)) fun x6 =>
 Option.bind s3.2.1[x6]? fun _ => some (.inl (x4.1, List.set s3.2.1 x6 x5, IntKind.wrap .i64 (s3.2.2 + (1 : Int))))
 else some (.inr s3.2.1))
 (x1, List.replicate (Int.toNat a0) (([] : List (El Y3))), (0 : Int)))
 fun x8 => some (x8, (0 : Int))
abbrev F108A : Pats := (.cons (.pd Y3) (.cons (.pd Y167) .nil))
abbrev F108R : Pats := (.cons (.pd Y135) (.cons (.pd Y36) .nil))
noncomputable def F108S : Tr.Spec := { args := F108A, res := F108R, fns := [], α := El Y135 × El Y36, f := fun x => F108 x.1 x.2.1, unp := fun z => (((), (), ()), (z.1, z.2, ())) }
noncomputable def F108M : List (Nat × List Tr.Spec) := [(113, [F109S]), (114, [F114S]), (115, [F112S]), (116, [F111S])]
def F108H : Hint := (.seq .leaf (.seq .leaf (.seq .leaf (.seq .leaf (.seq .leaf (.seq (.seq .leaf (.lp ⟨[(7, (.mrows Y3 Y169)), (8, (.own Y43 false)), (22, (.pd Y3))], [], [0, 21], []⟩ [((.exit 0), ⟨[(8, (.own Y43 false))], [], [], []⟩)] .leaf)) .leaf))))))
noncomputable def F108V (a0 : El Y3) (a1 : El Y167) : Option (El Y135 × El Y36) := evalF (mkE tyTab mapTab pkTab [] [] F108M 35 bdTab) (codeOf Tryz.f109) Tryz.f109.results F108H F108A F108R (fun y => (y.2.1, y.2.2.1)) (a0, a1, ())
theorem F108_eq (a0 : El Y3) (a1 : El Y167) : F108V a0 a1 = F108 a0 a1 := by kernel_rfl
theorem F108_ok : FnOK Tryz.prog 109 F108S := fnOK_of (m := F108M) (fn := Tryz.f109) (hint := F108H) (pack := fun y => (y.2.1, y.2.2.1)) hmix tab_ok ⟨⟨F109_ok, trivial⟩, ⟨F114_ok, trivial⟩, ⟨F112_ok, trivial⟩, ⟨F111_ok, trivial⟩, trivial⟩ fun x z h => (F108_eq x.1 x.2.1).trans h
noncomputable def F17 : (El Y26) → (El Y3) → (El Y4) → Option (El Y135) := fun a0 a1 a2 =>
 Option.bind
 (Tr.run
 (fun s0 =>
 bif decide (s0.2 < (↑(List.length a0) : Int)) then
 Option.bind (idx a0 s0.2) fun x1 =>
 Option.bind (bif a2 then some !x1.2.2.2.1 else some false) fun x2 =>
 bif x2 then some (.inl (s0.1, IntKind.wrap .i64 (s0.2 + (1 : Int))))
 else
 Option.bind
 (bif !Option.isSome (Tr.amGet (Tr.keyEq Y159) (x1.1, x1.2.1, false, ()) s0.1) then some true
 else some (decide (x1.2.2.1 < Option.getD (Tr.amGet (Tr.keyEq Y159) (x1.1, x1.2.1, false, ()) s0.1) ((0 : Int)))))
 fun x3 =>
 bif x3 then some (.inl (Tr.amSet (Tr.keyEq Y159) (x1.1, x1.2.1, false, ()) x1.2.2.1 s0.1, IntKind.wrap .i64 (s0.2 + (1 : Int))))
 else some (.inl (s0.1, IntKind.wrap .i64 (s0.2 + (1 : Int))))
 else some (.inr s0.1))
 ([], (0 : Int)))
 fun x4 =>
 Option.bind
 (guardB
 (decide ((0 : Tr.El (Tr.Ty.int .i64)) ≤ (0 : Int) ∧ (0 : Int) ≤ (↑(List.length x4) : Int) ∧ (↑(List.length x4) : Int) ≤ (↑maxApp : Tr.El (Tr.Ty.int .i64)))))
 fun _ =>
 Tr.drun (fun s6 => bif List.isEmpty s6.2 then (1 : Nat) else List.length s6.2)
 (fun s6 i7 =>
 bif List.isEmpty s6.2 then some (.inr s6.1)
 else
 Option.bind s6.2[i7]? fun x8 =>
 Option.bind (guardB (decide (List.length s6.1 + List.length [(x8.1.1, x8.1.2.1, x8.2, ())] ≤ maxApp))) fun _ =>
 some (.inl (s6.1 ++ [(x8.1.1, x8.1.2.1, x8.2, ())], List.eraseIdx s6.2 i7)))
 (fun o10 => Option.bind (F108 a1 o10) fun x11 => some x11.1) (List.replicate (Int.toNat (0 : Int)) (((0 : Int), (0 : Int), (0 : Int), ())), x4)
abbrev F17A : Pats := (.cons (.pd Y26) (.cons (.pd Y3) (.cons (.pd Y4) .nil)))
abbrev F17R : Pats := (.cons (.pd Y135) .nil)
noncomputable def F17S : Tr.Spec := { args := F17A, res := F17R, fns := [], α := El Y135, f := fun x => F17 x.1 x.2.1 x.2.2.1, unp := fun z => (((), (), (), ()), (z, ())) }
noncomputable def F17M : List (Nat × List Tr.Spec) := [(109, [F108S])]
def F17H : Hint := (.seq .leaf (.seq .leaf (.seq (.seq .leaf (.lp ⟨[(7, (.map Y159 Y3)), (21, (.pd Y3))], [], [1, 2, 19, 20], []⟩ [((.exit 0), ⟨[(7, (.map Y159 Y3))], [], [1], []⟩)] (.seq .leaf (.seq .leaf (.seq (.seq .leaf (.seq (.seq (.reg [(30, Y4)]) .leaf) (.seq .leaf (.seq .leaf (.seq (.reg [(49, Y4)]) .leaf))))) .leaf))))) (.seq .leaf (.seq (.seq .leaf (.lpd 59 ⟨[(13, (.own Y169 false)), (59, (.it Y159 Y3))], [], [1], []⟩ [((.exit 2), ⟨[(13, (.own Y169 false))], [], [1], []⟩)] .leaf)) .leaf)))))
noncomputable def F17V (a0 : El Y26) (a1 : El Y3) (a2 : El Y4) : Option (El Y135) := evalF (mkE tyTab mapTab pkTab [] [] F17M 81 bdTab) (codeOf Tryz.f101) Tryz.f101.results F17H F17A F17R (fun y => y.2.1) (a0, a1, a2, ())
theorem F17_eq (a0 : El Y26) (a1 : El Y3) (a2 : El Y4) : F17V a0 a1 a2 = F17 a0 a1 a2 := by kernel_rfl
theorem F17_ok : FnOK Tryz.prog 101 F17S := fnOK_of (m := F17M) (fn := Tryz.f101) (hint := F17H) (pack := fun y => y.2.1) hmix tab_ok ⟨⟨F108_ok, trivial⟩, trivial⟩ fun x z h => (F17_eq x.1 x.2.1 x.2.2.1).trans h
noncomputable def F3 : (El Y43) → Option (El Y3) := fun a0 =>
 Option.bind
 (Tr.run
 (fun s0 =>
 bif decide (s0 < (↑(List.length a0) : Int)) then
 Option.bind (idx a0 s0) fun x1 =>
 bif !decide (x1 = (0 : Int)) then some (.inr (.inr x1)) else some (.inl (IntKind.wrap .i64 (s0 + (1 : Int))))
 else some (.inr (.inl ())))
 (0 : Int))
 fun x2 => Sum.elim (fun _ => some (0 : Int)) (fun y4 => some y4) x2
abbrev F3A : Pats := (.cons (.pd Y43) .nil)
abbrev F3R : Pats := (.cons (.pd Y3) .nil)
noncomputable def F3S : Tr.Spec := { args := F3A, res := F3R, fns := [], α := El Y3, f := fun x => F3 x.1, unp := fun z => (((), ()), (z, ())) }
noncomputable def F3M : List (Nat × List Tr.Spec) := []
def F3H : Hint := (.seq .leaf (.seq .leaf (.seq (.seq .leaf (.lp ⟨[(8, (.pd Y3))], [], [3, 6, 7], []⟩ [((.exit 0), ⟨[], [], [3], []⟩), (.ret, ⟨[(2, (.pd Y3))], [], [], []⟩)] .leaf)) .leaf)))
noncomputable def F3V (a0 : El Y43) : Option (El Y3) := evalF (mkE tyTab mapTab pkTab [] [] F3M 18 bdTab) (codeOf Tryz.f105) Tryz.f105.results F3H F3A F3R (fun y => y.2.1) (a0, ())
theorem F3_eq (a0 : El Y43) : F3V a0 = F3 a0 := by kernel_rfl
theorem F3_ok : FnOK Tryz.prog 105 F3S := fnOK_of (m := F3M) (fn := Tryz.f105) (hint := F3H) (pack := fun y => y.2.1) hmix tab_ok trivial fun x z h => (F3_eq x.1).trans h
noncomputable def F4 : (El Y3) → Option (El Y4) := fun a0 => some !decide (a0 = a0)
abbrev F4A : Pats := (.cons (.pd Y3) .nil)
abbrev F4R : Pats := (.cons (.pd Y4) .nil)
noncomputable def F4S : Tr.Spec := { args := F4A, res := F4R, fns := [], α := El Y4, f := fun x => F4 x.1, unp := fun z => (((), ()), (z, ())) }
noncomputable def F4M : List (Nat × List Tr.Spec) := []
def F4H : Hint := .leaf
noncomputable def F4V (a0 : El Y3) : Option (El Y4) := evalF (mkE tyTab mapTab pkTab [] [] F4M 6 bdTab) (codeOf Tryz.f112) Tryz.f112.results F4H F4A F4R (fun y => y.2.1) (a0, ())
theorem F4_eq (a0 : El Y3) : F4V a0 = F4 a0 := by kernel_rfl
theorem F4_ok : FnOK Tryz.prog 112 F4S := fnOK_of (m := F4M) (fn := Tryz.f112) (hint := F4H) (pack := fun y => y.2.1) hmix tab_ok trivial fun x z h => (F4_eq x.1).trans h
noncomputable def F2 : (El Y3) → (El Y3) → Option (El Y3) := fun a0 a1 =>
 Option.bind (F4 a0) fun x0 =>
 Option.bind (F4 a1) fun x1 =>
 bif x0 then bif x1 then some (0 : Int) else some (-1 : Int)
 else bif x1 then some (1 : Int) else bif decide (a0 < a1) then some (-1 : Int) else bif decide (a1 < a0) then some (1 : Int) else some (0 : Int)
abbrev F2A : Pats := (.cons (.pd Y3) (.cons (.pd Y3) .nil))
abbrev F2R : Pats := (.cons (.pd Y3) .nil)
noncomputable def F2S : Tr.Spec := { args := F2A, res := F2R, fns := [], α := El Y3, f := fun x => F2 x.1 x.2.1, unp := fun z => (((), (), ()), (z, ())) }
noncomputable def F2M : List (Nat × List Tr.Spec) := [(112, [F4S])]
def F2H : Hint := .leaf
noncomputable def F2V (a0 : El Y3) (a1 : El Y3) : Option (El Y3) := evalF (mkE tyTab mapTab pkTab [] [] F2M 20 bdTab) (codeOf Tryz.f106) Tryz.f106.results F2H F2A F2R (fun y => y.2.1) (a0, a1, ())
theorem F2_eq (a0 : El Y3) (a1 : El Y3) : F2V a0 a1 = F2 a0 a1 := by kernel_rfl
theorem F2_ok : FnOK Tryz.prog 106 F2S := fnOK_of (m := F2M) (fn := Tryz.f106) (hint := F2H) (pack := fun y => y.2.1) hmix tab_ok ⟨⟨F4_ok, trivial⟩, trivial⟩ fun x z h => (F2_eq x.1 x.2.1).trans h
noncomputable def F16 : (El Y64) → (El Y64) → Option (El Y3) := fun a0 a1 =>
 Option.bind (F2 a0.1 a1.1) fun x0 =>
 Option.bind (F2 a0.2.1 a1.2.1) fun x1 =>
 Option.bind (F2 a0.2.2.1 a1.2.2.1) fun x2 => Option.bind (F3 [x0, x1, x2]) fun x3 => some x3
abbrev F16A : Pats := (.cons (.pd Y64) (.cons (.pd Y64) .nil))
abbrev F16R : Pats := (.cons (.pd Y3) .nil)
noncomputable def F16S : Tr.Spec := { args := F16A, res := F16R, fns := [], α := El Y3, f := fun x => F16 x.1 x.2.1, unp := fun z => (((), (), ()), (z, ())) }
noncomputable def F16M : List (Nat × List Tr.Spec) := [(105, [F3S]), (106, [F2S])]
def F16H : Hint := .leaf
noncomputable def F16V (a0 : El Y64) (a1 : El Y64) : Option (El Y3) := evalF (mkE tyTab mapTab pkTab [] [] F16M 22 bdTab) (codeOf Tryz.f104) Tryz.f104.results F16H F16A F16R (fun y => y.2.1) (a0, a1, ())
theorem F16_eq (a0 : El Y64) (a1 : El Y64) : F16V a0 a1 = F16 a0 a1 := by kernel_rfl
theorem F16_ok : FnOK Tryz.prog 104 F16S := fnOK_of (m := F16M) (fn := Tryz.f104) (hint := F16H) (pack := fun y => y.2.1) hmix tab_ok ⟨⟨F3_ok, trivial⟩, ⟨F2_ok, trivial⟩, trivial⟩ fun x z h => (F16_eq x.1 x.2.1).trans h
noncomputable def F115 (a0 : List (El Y64)) (_ : Unit) : Option (List (El Y64)) := Tr.sortF F16 a0
abbrev F115A : Pats := (.cons (.own Y64 true) (.cons (.fn 104 .nil) .nil))
abbrev F115R : Pats := .nil
noncomputable def F115S : Tr.Spec := { args := F115A, res := F115R, fns := [104], α := List (El Y64), f := fun x => F115 x.1 x.2.1, unp := fun z => ((z, (), ()), ()) }
theorem F115_ok : FnOK Tryz.prog 103 F115S := Tr.sortFunc_ok (ρ := Tryz.sort103_ren) Tryz.sort103 rfl Tryz.isAgg64 Tryz.sizeOf64 F16_ok
noncomputable def F15 : (El Y3) → (El Y3) → (El Y3) → (El Y4) → (List (El Y64)) → Option (List (El Y64)) := fun a0 a1 a2 a3 a4 =>
 Option.bind (bif decide ((0 : Int) < a2) then some (decide (a2 ≤ (14400 : Int))) else some false) fun x0 =>
 bif x0 then Option.bind (guardB (decide (List.length a4 + List.length [(a0, a1, a2, a3, ())] ≤ maxApp))) fun _ => some (a4 ++ [(a0, a1, a2, a3, ())]) else some a4
abbrev F15A : Pats := (.cons (.pd Y3) (.cons (.pd Y3) (.cons (.pd Y3) (.cons (.pd Y4) (.cons (.var Y26 (.own Y64 false)) .nil)))))
abbrev F15R : Pats := .nil
noncomputable def F15S : Tr.Spec := { args := F15A, res := F15R, fns := [], α := List (El Y64), f := fun x => F15 x.1 x.2.1 x.2.2.1 x.2.2.2.1 x.2.2.2.2.1, unp := fun z => (((), (), (), (), z, ()), ()) }
noncomputable def F15M : List (Nat × List Tr.Spec) := []
def F15H : Hint := (.seq (.reg [(14, Y4)]) .leaf)
noncomputable def F15V (a0 : El Y3) (a1 : El Y3) (a2 : El Y3) (a3 : El Y4) (a4 : List (El Y64)) : Option (List (El Y64)) := evalF (mkE tyTab mapTab pkTab [] [] F15M 23 bdTab) (codeOf Tryz.f102) Tryz.f102.results F15H F15A F15R (fun y => y.1.2.2.2.2.1) (a0, a1, a2, a3, a4, ())
theorem F15_eq (a0 : El Y3) (a1 : El Y3) (a2 : El Y3) (a3 : El Y4) (a4 : List (El Y64)) : F15V a0 a1 a2 a3 a4 = F15 a0 a1 a2 a3 a4 := by kernel_rfl
theorem F15_ok : FnOK Tryz.prog 102 F15S := fnOK_of (m := F15M) (fn := Tryz.f102) (hint := F15H) (pack := fun y => y.1.2.2.2.2.1) hmix tab_ok trivial fun x z h => (F15_eq x.1 x.2.1 x.2.2.1 x.2.2.2.1 x.2.2.2.2.1).trans h
noncomputable def F14 : (El Y26) → (El Y3) → Option (El Y26) := fun a0 a1 =>
 Option.bind (F17 a0 a1 false) fun x0 =>
 Option.bind (F17 a0 a1 true) fun x1 =>
 Option.bind
 (Tr.run
 (fun s2 =>
 bif decide (s2.2 < (↑(List.length x0) : Int)) then
 Option.bind (idx x0 s2.2) fun x3 =>
 Option.bind
 (Tr.run
 (fun s4 =>
 bif decide (s4.2 < (↑(List.length x3) : Int)) then
 Option.bind (idx x3 s4.2) fun x5 =>
 bif decide (s2.2 = s4.2) then some (.inl (s4.1, IntKind.wrap .i64 (s4.2 + (1 : Int))))
 else
 Option.bind (idx x1 s2.2) fun x6 =>
 Option.bind (idx x6 s4.2) fun x7 =>
 Option.bind (F15 s2.2 s4.2 x5 (decide (x7 = x5)) s4.1) fun x8 =>
 bif !decide (x7 = x5) then
 Option.bind (F15 s2.2 s4.2 x7 true x8) fun x9 => some (.inl (x9, IntKind.wrap .i64 (s4.2 + (1 : Int))))
 else some (.inl (x8, IntKind.wrap .i64 (s4.2 + (1 : Int))))
 else some (.inr s4.1))
 (s2.1, (0 : Int)))
 fun x10 => some (.inl (x10, IntKind.wrap .i64 (s2.2 + (1 : Int))))
 else some (.inr s2.1))
 ([], (0 : Int)))
 fun x11 => Option.bind (F115 x11 ()) fun x12 => some x12
abbrev F14A : Pats := (.cons (.pd Y26) (.cons (.pd Y3) .nil))
abbrev F14R : Pats := (.cons (.pd Y26) .nil)
noncomputable def F14S : Tr.Spec := { args := F14A, res := F14R, fns := [], α := El Y26, f := fun x => F14 x.1 x.2.1, unp := fun z => (((), (), ()), (z, ())) }
noncomputable def F14M : List (Nat × List Tr.Spec) := [(101, [F17S]), (102, [F15S]), (103, [F115S]), (104, [F16S])]
def F14H : Hint := (.seq .leaf (.seq .leaf (.seq .leaf (.seq .leaf (.seq (.seq .leaf (.lp ⟨[(7, (.var Y26 (.own Y64 false))), (22, (.pd Y3))], [(8, 102, [7])], [5, 6, 21], []⟩ [((.exit 0), ⟨[(7, (.var Y26 (.own Y64 false)))], [], [], []⟩)] (.seq .leaf (.seq .leaf (.seq (.seq .leaf (.seq .leaf (.lp ⟨[(7, (.var Y26 (.own Y64 false))), (30, (.pd Y3))], [(8, 102, [7])], [5, 6, 9, 21, 22, 28, 29], []⟩ [((.exit 2), ⟨[(7, (.var Y26 (.own Y64 false)))], [(8, 102, [7])], [5, 6, 21, 22], []⟩)] .leaf))) .leaf))))) .leaf)))))
noncomputable def F14V (a0 : El Y26) (a1 : El Y3) : Option (El Y26) := evalF (mkE tyTab mapTab pkTab [] [] F14M 66 bdTab) (codeOf Tryz.f97) Tryz.f97.results F14H F14A F14R (fun y => y.2.1) (a0, a1, ())
theorem F14_eq (a0 : El Y26) (a1 : El Y3) : F14V a0 a1 = F14 a0 a1 := by kernel_rfl
theorem F14_ok : FnOK Tryz.prog 97 F14S := fnOK_of (m := F14M) (fn := Tryz.f97) (hint := F14H) (pack := fun y => y.2.1) hmix tab_ok ⟨⟨F17_ok, trivial⟩, ⟨F15_ok, trivial⟩, ⟨F115_ok, trivial⟩, ⟨F16_ok, trivial⟩, trivial⟩ fun x z h => (F14_eq x.1 x.2.1).trans h
noncomputable def F13 : (El Y26) → (El Y3) → Option (El Y4) := fun a0 a1 =>
 bif decide ((64 : Int) < a1) then some false
 else
 Option.bind (F18 a0 a1) fun x0 =>
 bif !decide (x0.2 = (0 : Int)) then some false
 else
 Option.bind (F14 a0 (Tr.imax a1 (0 : Int))) fun x1 =>
 bif !decide ((↑(List.length x1) : Int) = (↑(List.length a0) : Int)) then some false
 else
 Option.bind
 (Tr.run
 (fun s2 =>
 bif decide (s2 < (↑(List.length x1) : Int)) then
 Option.bind (idx x1 s2) fun x3 =>
 Option.bind (idx a0 s2) fun x4 =>
 bif
 !(decide (x3.1 = x4.1) &&
 (decide (x3.2.1 = x4.2.1) && (decide (x3.2.2.1 = x4.2.2.1) && x3.2.2.2.1 == x4.2.2.2.1))) then
 some (.inr (.inr false))
 else some (.inl (IntKind.wrap .i64 (s2 + (1 : Int))))
 else some (.inr (.inl ())))
 (0 : Int))
 fun x5 => Sum.elim (fun _ => some true) (fun y7 => some y7) x5
abbrev F13A : Pats := (.cons (.pd Y26) (.cons (.pd Y3) .nil))
abbrev F13R : Pats := (.cons (.pd Y4) .nil)
noncomputable def F13S : Tr.Spec := { args := F13A, res := F13R, fns := [], α := El Y4, f := fun x => F13 x.1 x.2.1, unp := fun z => (((), (), ()), (z, ())) }
noncomputable def F13M : List (Nat × List Tr.Spec) := [(96, [F18S]), (97, [F14S])]
def F13H : Hint := (.seq .leaf (.seq .leaf (.seq .leaf (.seq .leaf (.seq .leaf (.seq (.seq .leaf (.lp ⟨[(30, (.pd Y3))], [], [0, 7, 29], []⟩ [((.exit 0), ⟨[], [], [], []⟩), (.ret, ⟨[(4, (.pd Y4))], [], [], []⟩)] .leaf)) .leaf))))))
noncomputable def F13V (a0 : El Y26) (a1 : El Y3) : Option (El Y4) := evalF (mkE tyTab mapTab pkTab [] [] F13M 43 bdTab) (codeOf Tryz.f86) Tryz.f86.results F13H F13A F13R (fun y => y.2.1) (a0, a1, ())
theorem F13_eq (a0 : El Y26) (a1 : El Y3) : F13V a0 a1 = F13 a0 a1 := by kernel_rfl
theorem F13_ok : FnOK Tryz.prog 86 F13S := fnOK_of (m := F13M) (fn := Tryz.f86) (hint := F13H) (pack := fun y => y.2.1) hmix tab_ok ⟨⟨F18_ok, trivial⟩, ⟨F14_ok, trivial⟩, trivial⟩ fun x z h => (F13_eq x.1 x.2.1).trans h
noncomputable def F39 : (El Y31) → Option (El Y100) := fun a0 =>
 Option.bind
 (Tr.run
 (fun s0 =>
 bif decide (s0.2.2 < (↑(List.length a0.2.2.2.2.1) : Int)) then
 Option.bind (idx a0.2.2.2.2.1 s0.2.2) fun x1 =>
 Option.bind
 (Option.bind (F51 x1.1 (↑(List.length a0.1) : Int)) fun x2 =>
 bif !x2 then some true
 else Option.bind (F51 x1.2.1 (↑(List.length a0.1) : Int)) fun x3 => bif !x3 then some true else some (decide (x1.1 = x1.2.1)))
 fun x4 =>
 bif x4 then Option.bind (F50 (4 : Int) s0.2.2 (9 : Int)) fun x5 => some (.inr (.inr x5))
 else
 Option.bind (bif decide (x1.2.2.1 < (1 : Int)) then some true else some (decide ((14400 : Int) < x1.2.2.1))) fun x6 =>
 bif x6 then Option.bind (F50 (4 : Int) s0.2.2 (2 : Int)) fun x7 => some (.inr (.inr x7))
 else
 bif Option.getD (Tr.amGet (Tr.keyEq Y64) (x1.1, x1.2.1, (0 : Int), x1.2.2.2.1, ()) s0.2.1) (false) then
 Option.bind (F50 (4 : Int) s0.2.2 (6 : Int)) fun x8 => some (.inr (.inr x8))
 else
 some
 (.inl
 (s0.1, Tr.amSet (Tr.keyEq Y64) (x1.1, x1.2.1, (0 : Int), x1.2.2.2.1, ()) true s0.2.1, IntKind.wrap .i64 (s0.2.2 + (1 : Int))))
 else some (.inr (.inl s0.1)))
 (((0 : Int), (0 : Int), (0 : Int), ()), [], (0 : Int)))
 fun x9 =>
 Sum.elim
 (fun _ =>
 Option.bind (F13 a0.2.2.2.2.1 (↑(List.length a0.1) : Int)) fun x11 =>
 bif !x11 then Option.bind (F50 (4 : Int) (0 : Int) (18 : Int)) fun x12 => some x12 else some ((0 : Int), (0 : Int), (0 : Int), ()))
 (fun y13 => some y13) x9
abbrev F39A : Pats := (.cons (.pd Y31) .nil)
abbrev F39R : Pats := (.cons (.pd Y100) .nil)
noncomputable def F39S : Tr.Spec := { args := F39A, res := F39R, fns := [], α := El Y100, f := fun x => F39 x.1, unp := fun z => (((), ()), (z, ())) }
noncomputable def F39M : List (Nat × List Tr.Spec) := [(64, [F50S]), (83, [F51S]), (86, [F13S])]
def F39H : Hint := (.seq .leaf (.seq .leaf (.seq (.seq .leaf (.lp ⟨[(2, (.var Y100 (.pd Y100))), (3, (.map Y64 Y4)), (11, (.pd Y3))], [], [1, 9, 10], []⟩ [((.exit 0), ⟨[(2, (.var Y100 (.pd Y100)))], [], [1], []⟩), (.ret, ⟨[(2, (.var Y100 (.pd Y100)))], [], [], []⟩)] (.seq .leaf (.seq .leaf (.seq (.seq .leaf (.seq .leaf (.seq (.seq (.reg [(23, Y4)]) (.cnd none .leaf (.seq (.reg [(49, Y4)]) .leaf))) .leaf))) .leaf))))) .leaf)))
noncomputable def F39V (a0 : El Y31) : Option (El Y100) := evalF (mkE tyTab mapTab pkTab [] [] F39M 78 bdTab) (codeOf Tryz.f68) Tryz.f68.results F39H F39A F39R (fun y => y.2.1) (a0, ())
theorem F39_eq (a0 : El Y31) : F39V a0 = F39 a0 := by kernel_rfl
theorem F39_ok : FnOK Tryz.prog 68 F39S := fnOK_of (m := F39M) (fn := Tryz.f68) (hint := F39H) (pack := fun y => y.2.1) hmix tab_ok ⟨⟨F50_ok, trivial⟩, ⟨F51_ok, trivial⟩, ⟨F13_ok, trivial⟩, trivial⟩ fun x z h => (F39_eq x.1).trans h
noncomputable def F36 : (El Y31) → Option (El Y3 × El Y3 × El Y36) := fun a0 =>
 Option.bind (F116 a0.1) fun x0 =>
 Option.bind (F106 a0.2.1) fun x1 =>
 Option.bind (F50 (0 : Int) x0.1 x0.2) fun x2 =>
 Option.bind (F50 (1 : Int) x1.1 x1.2) fun x3 =>
 Option.bind (F41 [x2, x3]) fun x4 =>
 Option.bind (bif decide (x4.2.2.1 = (0 : Int)) then Option.bind (F40 a0) fun x5 => some x5 else some x4) fun x6 =>
 Option.bind (bif decide (x6.2.2.1 = (0 : Int)) then Option.bind (F38 a0) fun x7 => some x7 else some x6) fun x8 =>
 Option.bind
 (bif decide (x8.2.2.1 = (0 : Int)) then
 Option.bind (F52 a0.2.2.2.2.2.1) fun x9 =>
 Option.bind (F39 a0) fun x10 => Option.bind (F50 (5 : Int) x9.1 x9.2) fun x11 => Option.bind (F41 [x10, x11]) fun x12 => some x12
 else some x8)
 fun x13 => some (x13.1, x13.2.1, x13.2.2.1)
abbrev F36A : Pats := (.cons (.pd Y31) .nil)
abbrev F36R : Pats := (.cons (.pd Y3) (.cons (.pd Y3) (.cons (.pd Y36) .nil)))
noncomputable def F36S : Tr.Spec := { args := F36A, res := F36R, fns := [], α := El Y3 × El Y3 × El Y36, f := fun x => F36 x.1, unp := fun z => (((), ()), (z.1, z.2.1, z.2.2, ())) }
noncomputable def F36M : List (Nat × List Tr.Spec) := [(61, [F116S]), (62, [F106S]), (63, [F41S]), (64, [F50S]), (65, [F40S]), (66, [F38S]), (67, [F52S]), (68, [F39S])]
def F36H : Hint := (.seq .leaf (.seq .leaf (.seq .leaf (.seq .leaf (.seq (.seq .leaf (.cnd (some (⟨[], [], [1], []⟩, [(.normal, ⟨[(9, (.var Y100 (.pd Y100)))], [], [1], []⟩)])) .leaf .leaf)) (.seq (.seq .leaf (.cnd (some (⟨[], [], [1], []⟩, [(.normal, ⟨[(9, (.var Y100 (.pd Y100)))], [], [1], []⟩)])) .leaf .leaf)) (.seq (.seq .leaf (.cnd (some (⟨[], [], [], []⟩, [(.normal, ⟨[(9, (.var Y100 (.pd Y100)))], [], [], []⟩)])) .leaf .leaf)) .leaf)))))))
noncomputable def F36V (a0 : El Y31) : Option (El Y3 × El Y3 × El Y36) := evalF (mkE tyTab mapTab pkTab [] [] F36M 64 bdTab) (codeOf Tryz.f37) Tryz.f37.results F36H F36A F36R (fun y => (y.2.1, y.2.2.1, y.2.2.2.1)) (a0, ())
theorem F36_eq (a0 : El Y31) : F36V a0 = F36 a0 := by kernel_rfl
theorem F36_ok : FnOK Tryz.prog 37 F36S := fnOK_of (m := F36M) (fn := Tryz.f37) (hint := F36H) (pack := fun y => (y.2.1, y.2.2.1, y.2.2.2.1)) hmix tab_ok ⟨⟨F116_ok, trivial⟩, ⟨F106_ok, trivial⟩, ⟨F41_ok, trivial⟩, ⟨F50_ok, trivial⟩, ⟨F40_ok, trivial⟩, ⟨F38_ok, trivial⟩, ⟨F52_ok, trivial⟩, ⟨F39_ok, trivial⟩, trivial⟩ fun x z h => (F36_eq x.1).trans h
noncomputable def F6 : (El Y3) → (El Y3) → (El Y3) → Option (El Y4) := fun a0 a1 a2 => Option.bind (bif decide (a1 ≤ a0) then some (decide (a0 ≤ a2)) else some false) fun x0 => some x0
abbrev F6A : Pats := (.cons (.pd Y3) (.cons (.pd Y3) (.cons (.pd Y3) .nil)))
abbrev F6R : Pats := (.cons (.pd Y4) .nil)
noncomputable def F6S : Tr.Spec := { args := F6A, res := F6R, fns := [], α := El Y4, f := fun x => F6 x.1 x.2.1 x.2.2.1, unp := fun z => (((), (), (), ()), (z, ())) }
noncomputable def F6M : List (Nat × List Tr.Spec) := []
def F6H : Hint := (.seq .leaf (.seq (.reg [(6, Y4)]) .leaf))
noncomputable def F6V (a0 : El Y3) (a1 : El Y3) (a2 : El Y3) : Option (El Y4) := evalF (mkE tyTab mapTab pkTab [] [] F6M 15 bdTab) (codeOf Tryz.f38) Tryz.f38.results F6H F6A F6R (fun y => y.2.1) (a0, a1, a2, ())
theorem F6_eq (a0 : El Y3) (a1 : El Y3) (a2 : El Y3) : F6V a0 a1 a2 = F6 a0 a1 a2 := by kernel_rfl
theorem F6_ok : FnOK Tryz.prog 38 F6S := fnOK_of (m := F6M) (fn := Tryz.f38) (hint := F6H) (pack := fun y => y.2.1) hmix tab_ok trivial fun x z h => (F6_eq x.1 x.2.1 x.2.2.1).trans h
noncomputable def F5 : (El Y31) → (El Y33) → Option (El Y36) := fun a0 a1 =>
 Option.bind (F36 a0) fun x0 =>
 bif !decide (x0.2.2 = (0 : Int)) then some (21 : Int)
 else
 Option.bind
 (Option.bind (F6 a1.1 (0 : Int) (IntKind.wrap .i64 ((↑(List.length a0.1) : Int) - (1 : Int)))) fun x1 =>
 bif !x1 then some true
 else
 Option.bind (F6 a1.2.1 (0 : Int) (IntKind.wrap .i64 ((↑(List.length a0.1) : Int) - (1 : Int)))) fun x2 =>
 bif !x2 then some true
 else
 Option.bind (F6 a1.2.2.1 (0 : Int) (3155932800 : Int)) fun x3 =>
 bif !x3 then some true
 else
 Option.bind (F6 a1.2.2.2.2.1 (0 : Int) (8 : Int)) fun x4 =>
 bif !x4 then some true
 else
 Option.bind (F6 a1.2.2.2.2.2.1 (0 : Int) (86400 : Int)) fun x5 =>
 bif !x5 then some true
 else
 Option.bind (F6 a1.2.2.2.2.2.2.2.2.1 (0 : Int) (255 : Int)) fun x6 =>
 bif !x6 then some true else bif a1.2.2.2.2.2.2.2.2.2.1 then some a1.2.2.2.1 else some false)
 fun x7 => bif x7 then some (22 : Int) else some (0 : Int)
abbrev F5A : Pats := (.cons (.pd Y31) (.cons (.pd Y33) .nil))
abbrev F5R : Pats := (.cons (.pd Y36) .nil)
noncomputable def F5S : Tr.Spec := { args := F5A, res := F5R, fns := [], α := El Y36, f := fun x => F5 x.1 x.2.1, unp := fun z => (((), (), ()), (z, ())) }
noncomputable def F5M : List (Nat × List Tr.Spec) := [(37, [F36S]), (38, [F6S])]
def F5H : Hint := (.seq .leaf (.seq .leaf (.seq .leaf (.seq .leaf (.seq (.seq (.reg [(64, Y4)]) .leaf) .leaf)))))
noncomputable def F5V (a0 : El Y31) (a1 : El Y33) : Option (El Y36) := evalF (mkE tyTab mapTab pkTab [] [] F5M 65 bdTab) (codeOf Tryz.f24) Tryz.f24.results F5H F5A F5R (fun y => y.2.1) (a0, a1, ())
theorem F5_eq (a0 : El Y31) (a1 : El Y33) : F5V a0 a1 = F5 a0 a1 := by kernel_rfl
theorem F5_ok : FnOK Tryz.prog 24 F5S := fnOK_of (m := F5M) (fn := Tryz.f24) (hint := F5H) (pack := fun y => y.2.1) hmix tab_ok ⟨⟨F36_ok, trivial⟩, ⟨F6_ok, trivial⟩, trivial⟩ fun x z h => (F5_eq x.1 x.2.1).trans h
noncomputable def F48 : (El Y22) → Option (El Y22) := fun a0 =>
 Option.bind (guardB (decide (List.length ([] : List Unit) + List.length a0 ≤ maxApp))) fun _ =>
 Option.bind (inb (↑(List.length ([] ++ a0)) : Int) (List.length ([] ++ a0) + (1 : Nat))) fun x1 =>
 Option.bind (sliceB (List.length ([] ++ a0)) x1 none (some (↑(List.length ([] ++ a0)) : Int))) fun x2 => some (List.take x2.2 (List.drop (0 : Nat) ([] ++ a0)))
abbrev F48A : Pats := (.cons (.pd Y22) .nil)
abbrev F48R : Pats := (.cons (.pd Y22) .nil)
noncomputable def F48S : Tr.Spec := { args := F48A, res := F48R, fns := [], α := El Y22, f := fun x => F48 x.1, unp := fun z => (((), ()), (z, ())) }
noncomputable def F48M : List (Nat × List Tr.Spec) := []
def F48H : Hint := .leaf
noncomputable def F48V (a0 : El Y22) : Option (El Y22) := evalF (mkE tyTab mapTab pkTab [] [] F48M 13 bdTab) (codeOf Tryz.f39) Tryz.f39.results F48H F48A F48R (fun y => y.2.1) (a0, ())
theorem F48_eq (a0 : El Y22) : F48V a0 = F48 a0 := by kernel_rfl
theorem F48_ok : FnOK Tryz.prog 39 F48S := fnOK_of (m := F48M) (fn := Tryz.f39) (hint := F48H) (pack := fun y => y.2.1) hmix tab_ok trivial fun x z h => (F48_eq x.1).trans h
noncomputable def F46 : (El Y23) → Option (El Y23) := fun a0 =>
 Option.bind (guardB (decide (List.length ([] : List Unit) + List.length a0 ≤ maxApp))) fun _ =>
 Option.bind (inb (↑(List.length ([] ++ a0)) : Int) (List.length ([] ++ a0) + (1 : Nat))) fun x1 =>
 Option.bind (sliceB (List.length ([] ++ a0)) x1 none (some (↑(List.length ([] ++ a0)) : Int))) fun x2 => some (List.take x2.2 (List.drop (0 : Nat) ([] ++ a0)))
abbrev F46A : Pats := (.cons (.pd Y23) .nil)
abbrev F46R : Pats := (.cons (.pd Y23) .nil)
noncomputable def F46S : Tr.Spec := { args := F46A, res := F46R, fns := [], α := El Y23, f := fun x => F46 x.1, unp := fun z => (((), ()), (z, ())) }
noncomputable def F46M : List (Nat × List Tr.Spec) := []
def F46H : Hint := .leaf
noncomputable def F46V (a0 : El Y23) : Option (El Y23) := evalF (mkE tyTab mapTab pkTab [] [] F46M 13 bdTab) (codeOf Tryz.f40) Tryz.f40.results F46H F46A F46R (fun y => y.2.1) (a0, ())
theorem F46_eq (a0 : El Y23) : F46V a0 = F46 a0 := by kernel_rfl
theorem F46_ok : FnOK Tryz.prog 40 F46S := fnOK_of (m := F46M) (fn := Tryz.f40) (hint := F46H) (pack := fun y => y.2.1) hmix tab_ok trivial fun x z h => (F46_eq x.1).trans h
noncomputable def F47 : (El Y24) → Option (List (El Y56)) := fun a0 =>
 Option.bind (guardB (decide (List.length ([] : List Unit) + List.length a0 ≤ maxApp))) fun _ =>
 Option.bind (inb (↑(List.length ([] ++ a0)) : Int) (List.length ([] ++ a0) + (1 : Nat))) fun x1 =>
 Option.bind (sliceB (List.length ([] ++ a0)) x1 none (some (↑(List.length ([] ++ a0)) : Int))) fun x2 => some (List.take x2.2 ([] ++ a0))
abbrev F47A : Pats := (.cons (.pd Y24) .nil)
abbrev F47R : Pats := (.cons (.own Y56 false) .nil)
noncomputable def F47S : Tr.Spec := { args := F47A, res := F47R, fns := [], α := List (El Y56), f := fun x => F47 x.1, unp := fun z => (((), ()), (z, ())) }
noncomputable def F47M : List (Nat × List Tr.Spec) := []
def F47H : Hint := .leaf
noncomputable def F47V (a0 : El Y24) : Option (List (El Y56)) := evalF (mkE tyTab mapTab pkTab [] [] F47M 13 bdTab) (codeOf Tryz.f41) Tryz.f41.results F47H F47A F47R (fun y => y.2.1) (a0, ())
theorem F47_eq (a0 : El Y24) : F47V a0 = F47 a0 := by kernel_rfl
theorem F47_ok : FnOK Tryz.prog 41 F47S := fnOK_of (m := F47M) (fn := Tryz.f41) (hint := F47H) (pack := fun y => y.2.1) hmix tab_ok trivial fun x z h => (F47_eq x.1).trans h
noncomputable def F44 : (El Y25) → Option (El Y25) := fun a0 =>
 Option.bind (guardB (decide (List.length ([] : List Unit) + List.length a0 ≤ maxApp))) fun _ =>
 Option.bind (inb (↑(List.length ([] ++ a0)) : Int) (List.length ([] ++ a0) + (1 : Nat))) fun x1 =>
 Option.bind (sliceB (List.length ([] ++ a0)) x1 none (some (↑(List.length ([] ++ a0)) : Int))) fun x2 => some (List.take x2.2 (List.drop (0 : Nat) ([] ++ a0)))
abbrev F44A : Pats := (.cons (.pd Y25) .nil)
abbrev F44R : Pats := (.cons (.pd Y25) .nil)
noncomputable def F44S : Tr.Spec := { args := F44A, res := F44R, fns := [], α := El Y25, f := fun x => F44 x.1, unp := fun z => (((), ()), (z, ())) }
noncomputable def F44M : List (Nat × List Tr.Spec) := []
def F44H : Hint := .leaf
noncomputable def F44V (a0 : El Y25) : Option (El Y25) := evalF (mkE tyTab mapTab pkTab [] [] F44M 13 bdTab) (codeOf Tryz.f42) Tryz.f42.results F44H F44A F44R (fun y => y.2.1) (a0, ())
theorem F44_eq (a0 : El Y25) : F44V a0 = F44 a0 := by kernel_rfl
theorem F44_ok : FnOK Tryz.prog 42 F44S := fnOK_of (m := F44M) (fn := Tryz.f42) (hint := F44H) (pack := fun y => y.2.1) hmix tab_ok trivial fun x z h => (F44_eq x.1).trans h
noncomputable def F43 : (El Y26) → Option (El Y26) := fun a0 =>
 Option.bind (guardB (decide (List.length ([] : List Unit) + List.length a0 ≤ maxApp))) fun _ =>
 Option.bind (inb (↑(List.length ([] ++ a0)) : Int) (List.length ([] ++ a0) + (1 : Nat))) fun x1 =>
 Option.bind (sliceB (List.length ([] ++ a0)) x1 none (some (↑(List.length ([] ++ a0)) : Int))) fun x2 => some (List.take x2.2 (List.drop (0 : Nat) ([] ++ a0)))
abbrev F43A : Pats := (.cons (.pd Y26) .nil)
abbrev F43R : Pats := (.cons (.pd Y26) .nil)
noncomputable def F43S : Tr.Spec := { args := F43A, res := F43R, fns := [], α := El Y26, f := fun x => F43 x.1, unp := fun z => (((), ()), (z, ())) }
noncomputable def F43M : List (Nat × List Tr.Spec) := []
def F43H : Hint := .leaf
noncomputable def F43V (a0 : El Y26) : Option (El Y26) := evalF (mkE tyTab mapTab pkTab [] [] F43M 13 bdTab) (codeOf Tryz.f43) Tryz.f43.results F43H F43A F43R (fun y => y.2.1) (a0, ())
theorem F43_eq (a0 : El Y26) : F43V a0 = F43 a0 := by kernel_rfl
theorem F43_ok : FnOK Tryz.prog 43 F43S := fnOK_of (m := F43M) (fn := Tryz.f43) (hint := F43H) (pack := fun y => y.2.1) hmix tab_ok trivial fun x z h => (F43_eq x.1).trans h
noncomputable def F42 : (El Y54) → Option (El Y54) := fun a0 =>
 Option.bind (guardB (decide (List.length ([] : List Unit) + List.length a0 ≤ maxApp))) fun _ =>
 Option.bind (inb (↑(List.length ([] ++ a0)) : Int) (List.length ([] ++ a0) + (1 : Nat))) fun x1 =>
 Option.bind (sliceB (List.length ([] ++ a0)) x1 none (some (↑(List.length ([] ++ a0)) : Int))) fun x2 => some (List.take x2.2 (List.drop (0 : Nat) ([] ++ a0)))
abbrev F42A : Pats := (.cons (.pd Y54) .nil)
abbrev F42R : Pats := (.cons (.pd Y54) .nil)
noncomputable def F42S : Tr.Spec := { args := F42A, res := F42R, fns := [], α := El Y54, f := fun x => F42 x.1, unp := fun z => (((), ()), (z, ())) }
noncomputable def F42M : List (Nat × List Tr.Spec) := []
def F42H : Hint := .leaf
noncomputable def F42V (a0 : El Y54) : Option (El Y54) := evalF (mkE tyTab mapTab pkTab [] [] F42M 13 bdTab) (codeOf Tryz.f44) Tryz.f44.results F42H F42A F42R (fun y => y.2.1) (a0, ())
theorem F42_eq (a0 : El Y54) : F42V a0 = F42 a0 := by kernel_rfl
theorem F42_ok : FnOK Tryz.prog 44 F42S := fnOK_of (m := F42M) (fn := Tryz.f44) (hint := F42H) (pack := fun y => y.2.1) hmix tab_ok trivial fun x z h => (F42_eq x.1).trans h
noncomputable def F45 : (El Y27) → Option (El Y27) := fun a0 =>
 Option.bind (guardB (decide (List.length ([] : List Unit) + List.length a0 ≤ maxApp))) fun _ =>
 Option.bind (inb (↑(List.length ([] ++ a0)) : Int) (List.length ([] ++ a0) + (1 : Nat))) fun x1 =>
 Option.bind (sliceB (List.length ([] ++ a0)) x1 none (some (↑(List.length ([] ++ a0)) : Int))) fun x2 => some (List.take x2.2 (List.drop (0 : Nat) ([] ++ a0)))
abbrev F45A : Pats := (.cons (.pd Y27) .nil)
abbrev F45R : Pats := (.cons (.pd Y27) .nil)
noncomputable def F45S : Tr.Spec := { args := F45A, res := F45R, fns := [], α := El Y27, f := fun x => F45 x.1, unp := fun z => (((), ()), (z, ())) }
noncomputable def F45M : List (Nat × List Tr.Spec) := []
def F45H : Hint := .leaf
noncomputable def F45V (a0 : El Y27) : Option (El Y27) := evalF (mkE tyTab mapTab pkTab [] [] F45M 13 bdTab) (codeOf Tryz.f45) Tryz.f45.results F45H F45A F45R (fun y => y.2.1) (a0, ())
theorem F45_eq (a0 : El Y27) : F45V a0 = F45 a0 := by kernel_rfl
theorem F45_ok : FnOK Tryz.prog 45 F45S := fnOK_of (m := F45M) (fn := Tryz.f45) (hint := F45H) (pack := fun y => y.2.1) hmix tab_ok trivial fun x z h => (F45_eq x.1).trans h
noncomputable def F37 : (El Y31) → Option ((El Y22 × El Y23 × List (El Y56) × El Y25 × El Y26 × El Y29 × Unit)) := fun a0 =>
 Option.bind (F48 a0.1) fun x0 =>
 Option.bind (F46 a0.2.1) fun x1 =>
 Option.bind (F47 a0.2.2.1) fun x2 =>
 Option.bind (F44 a0.2.2.2.1) fun x3 =>
 Option.bind (F43 a0.2.2.2.2.1) fun x4 =>
 Option.bind
 (Tr.run
 (fun s5 =>
 bif decide (s5.2 < (↑(List.length x2) : Int)) then
 Option.bind (inb s5.2 (List.length s5.1.2.2.1)) fun x6 =>
 Option.bind s5.1.2.2.1[x6]? fun x7 =>
 Option.bind (F42 x7.2.2.2.2.2.2.2.1) fun x8 =>
 Option.bind (inb s5.2 (List.length s5.1.2.2.1)) fun x9 =>
 Option.bind s5.1.2.2.1[x9]? fun x10 =>
 some
 (.inl
 ((s5.1.1, s5.1.2.1,
 List.set s5.1.2.2.1 x9
 (x10.1, x10.2.1, x10.2.2.1, x10.2.2.2.1, x10.2.2.2.2.1, x10.2.2.2.2.2.1, x10.2.2.2.2.2.2.1, x8,
 x10.2.2.2.2.2.2.2.2),
 s5.1.2.2.2.1, s5.1.2.2.2.2.1, s5.1.2.2.2.2.2.1, ()),
 IntKind.wrap .i64 (s5.2 + (1 : Int))))
 else some (.inr (s5.1.1, s5.1.2.1, s5.1.2.2.1, s5.1.2.2.2.1, s5.1.2.2.2.2.1, s5.1.2.2.2.2.2.1, ())))
 ((x0, x1, x2, x3, x4, a0.2.2.2.2.2.1, ()), (0 : Int)))
 fun x11 =>
 Option.bind (F45 a0.2.2.2.2.2.1.1) fun x12 =>
 some (x11.1, x11.2.1, x11.2.2.1, x11.2.2.2.1, x11.2.2.2.2.1, (x12, x11.2.2.2.2.2.1.2), ())
abbrev F37A : Pats := (.cons (.pd Y31) .nil)
abbrev F37R : Pats := (.cons (.agg (.cons (.pd Y22) (.cons (.pd Y23) (.cons (.own Y56 false) (.cons (.pd Y25) (.cons (.pd Y26) (.cons (.pd Y29) .nil))))))) .nil)
noncomputable def F37S : Tr.Spec := { args := F37A, res := F37R, fns := [], α := (El Y22 × El Y23 × List (El Y56) × El Y25 × El Y26 × El Y29 × Unit), f := fun x => F37 x.1, unp := fun z => (((), ()), (z, ())) }
noncomputable def F37M : List (Nat × List Tr.Spec) := [(39, [F48S]), (40, [F46S]), (41, [F47S]), (42, [F44S]), (43, [F43S]), (44, [F42S]), (45, [F45S])]
def F37H : Hint := (.seq .leaf (.seq .leaf (.seq (.seq .leaf (.lp ⟨[(3, (.var Y31 (.agg (.cons (.pd Y22) (.cons (.pd Y23) (.cons (.own Y56 false) (.cons (.pd Y25) (.cons (.pd Y26) (.cons (.pd Y29) .nil))))))))), (26, (.pd Y3))], [], [1, 2, 25], []⟩ [((.exit 0), ⟨[(3, (.var Y31 (.agg (.cons (.pd Y22) (.cons (.pd Y23) (.cons (.own Y56 false) (.cons (.pd Y25) (.cons (.pd Y26) (.cons (.pd Y29) .nil)))))))))], [], [1, 2], []⟩)] .leaf)) .leaf)))
noncomputable def F37V (a0 : El Y31) : Option ((El Y22 × El Y23 × List (El Y56) × El Y25 × El Y26 × El Y29 × Unit)) := evalF (mkE tyTab mapTab pkTab [] [] F37M 49 bdTab) (codeOf Tryz.f25) Tryz.f25.results F37H F37A F37R (fun y => y.2.1) (a0, ())
theorem F37_eq (a0 : El Y31) : F37V a0 = F37 a0 := by kernel_rfl
theorem F37_ok : FnOK Tryz.prog 25 F37S := fnOK_of (m := F37M) (fn := Tryz.f25) (hint := F37H) (pack := fun y => y.2.1) hmix tab_ok ⟨⟨F48_ok, trivial⟩, ⟨F46_ok, trivial⟩, ⟨F47_ok, trivial⟩, ⟨F44_ok, trivial⟩, ⟨F43_ok, trivial⟩, ⟨F42_ok, trivial⟩, ⟨F45_ok, trivial⟩, trivial⟩ fun x z h => (F37_eq x.1).trans h
def F12 (a0 : El Y31) (a1 : El Y33) (a2 : El Y56) : Option Bool := Tr.useF a0 a1 a2
abbrev F12A : Pats := (.cons (.pd Y31) (.cons (.pd Y33) (.cons (.pd Y56) .nil)))
abbrev F12R : Pats := (.cons (.pd Y4) .nil)
noncomputable def F12S : Tr.Spec := { args := F12A, res := F12R, fns := [], α := El Y4, f := fun x => F12 x.1 x.2.1 x.2.2.1, unp := fun z => (((), (), (), ()), (z, ())) }
theorem F12_ok : FnOK Tryz.prog 26 F12S := Tr.use_ok
noncomputable def F11 : (El Y31) → (El Y33) → (El Y3) → Option (El Y4) := fun a0 a1 a2 => Option.bind (Option.bind (idx a0.1 a2) fun x0 => bif x0.2.2.1 then some true else some !a1.2.2.2.2.2.2.1) fun x1 => some x1
abbrev F11A : Pats := (.cons (.pd Y31) (.cons (.pd Y33) (.cons (.pd Y3) .nil)))
abbrev F11R : Pats := (.cons (.pd Y4) .nil)
noncomputable def F11S : Tr.Spec := { args := F11A, res := F11R, fns := [], α := El Y4, f := fun x => F11 x.1 x.2.1 x.2.2.1, unp := fun z => (((), (), (), ()), (z, ())) }
noncomputable def F11M : List (Nat × List Tr.Spec) := []
def F11H : Hint := (.seq .leaf (.seq (.reg [(6, Y4)]) .leaf))
noncomputable def F11V (a0 : El Y31) (a1 : El Y33) (a2 : El Y3) : Option (El Y4) := evalF (mkE tyTab mapTab pkTab [] [] F11M 18 bdTab) (codeOf Tryz.f33) Tryz.f33.results F11H F11A F11R (fun y => y.2.1) (a0, a1, a2, ())
theorem F11_eq (a0 : El Y31) (a1 : El Y33) (a2 : El Y3) : F11V a0 a1 a2 = F11 a0 a1 a2 := by kernel_rfl
theorem F11_ok : FnOK Tryz.prog 33 F11S := fnOK_of (m := F11M) (fn := Tryz.f33) (hint := F11H) (pack := fun y => y.2.1) hmix tab_ok trivial fun x z h => (F11_eq x.1 x.2.1 x.2.2.1).trans h
noncomputable def F10 : (El Y31) → (El Y33) → (El Y54) → Option (El Y54) := fun a0 a1 a2 =>
 Option.bind
 (Tr.run
 (fun s0 =>
 bif decide (s0.2 < (↑(List.length a2) : Int)) then
 Option.bind (idx a2 s0.2) fun x1 =>
 Option.bind (F11 a0 a1 x1.1) fun x2 =>
 Option.bind (bif !x2 then some (x1.1, x1.2.1, x1.2.2.1, false, false, x1.2.2.2.2.2) else some x1) fun x3 =>
 Option.bind (guardB (decide (List.length s0.1 + List.length [x3] ≤ maxApp))) fun _ =>
 some (.inl (s0.1 ++ [x3], IntKind.wrap .i64 (s0.2 + (1 : Int))))
 else some (.inr s0.1))
 ([], (0 : Int)))
 fun x5 =>
 Option.bind (inb (↑(List.length x5) : Int) (List.length x5 + (1 : Nat))) fun x6 =>
 Option.bind (sliceB (List.length x5) x6 none (some (↑(List.length x5) : Int))) fun x7 => some (List.take x7.2 (List.drop (0 : Nat) x5))
abbrev F10A : Pats := (.cons (.pd Y31) (.cons (.pd Y33) (.cons (.pd Y54) .nil)))
abbrev F10R : Pats := (.cons (.pd Y54) .nil)
noncomputable def F10S : Tr.Spec := { args := F10A, res := F10R, fns := [], α := El Y54, f := fun x => F10 x.1 x.2.1 x.2.2.1, unp := fun z => (((), (), (), ()), (z, ())) }
noncomputable def F10M : List (Nat × List Tr.Spec) := [(33, [F11S])]
def F10H : Hint := (.seq .leaf (.seq .leaf (.seq (.seq .leaf (.lp ⟨[(7, (.own Y59 false)), (12, (.pd Y3))], [], [3, 4, 10, 11], []⟩ [((.exit 0), ⟨[(7, (.own Y59 false))], [], [], []⟩)] (.seq .leaf (.seq .leaf (.seq (.seq .leaf (.seq (.seq .leaf (.cnd (some (⟨[], [], [3, 4, 7, 10, 11, 12], []⟩, [(.normal, ⟨[(9, (.var Y59 (.pd Y59)))], [], [3, 4, 7, 10, 11, 12], []⟩)])) .leaf .leaf)) .leaf)) .leaf))))) .leaf)))
noncomputable def F10V (a0 : El Y31) (a1 : El Y33) (a2 : El Y54) : Option (El Y54) := evalF (mkE tyTab mapTab pkTab [] [] F10M 35 bdTab) (codeOf Tryz.f27) Tryz.f27.results F10H F10A F10R (fun y => y.2.1) (a0, a1, a2, ())
theorem F10_eq (a0 : El Y31) (a1 : El Y33) (a2 : El Y54) : F10V a0 a1 a2 = F10 a0 a1 a2 := by kernel_rfl
theorem F10_ok : FnOK Tryz.prog 27 F10S := fnOK_of (m := F10M) (fn := Tryz.f27) (hint := F10H) (pack := fun y => y.2.1) hmix tab_ok ⟨⟨F11_ok, trivial⟩, trivial⟩ fun x z h => (F10_eq x.1 x.2.1 x.2.2.1).trans h
noncomputable def F7 : (El Y31) → (El Y33) → Option (El Y31 × El Y36) := fun a0 a1 =>
 Option.bind (F5 a0 a1) fun x0 =>
 bif !decide (x0 = (0 : Int)) then some ((([] : List (El Y67)), ([] : List (El Y69)), ([] : List (El Y56)), ([] : List (El Y71)), ([] : List (El Y64)), (([] : List (El Y80)), (0 : Int), (0 : Int), (0 : Int), ()), ()), x0)
 else
 Option.bind (F37 a0) fun x1 =>
 Option.bind
 (Tr.run
 (fun s2 =>
 bif decide (s2.2 < (↑(List.length a0.2.2.1) : Int)) then
 Option.bind (idx a0.2.2.1 s2.2) fun x3 =>
 Option.bind (F12 a0 a1 x3) fun x4 =>
 Option.bind (inb s2.2 (List.length s2.1.2.2.1)) fun x5 =>
 Option.bind s2.1.2.2.1[x5]? fun x6 =>
 Option.bind (F10 a0 a1 x3.2.2.2.2.2.2.2.1) fun x7 =>
 Option.bind
 (inb s2.2
 (List.length
 (List.set s2.1.2.2.1 x5
 (x6.1, x6.2.1, x6.2.2.1, x6.2.2.2.1, x6.2.2.2.2.1, x6.2.2.2.2.2.1, !x4, x6.2.2.2.2.2.2.2))))
 fun x8 =>
 Option.bind
 (List.set s2.1.2.2.1 x5
 (x6.1, x6.2.1, x6.2.2.1, x6.2.2.2.1, x6.2.2.2.2.1, x6.2.2.2.2.2.1, !x4, x6.2.2.2.2.2.2.2))[x8]?
 fun x9 =>
 some
 (.inl
 ((s2.1.1, s2.1.2.1,
 List.set
 (List.set s2.1.2.2.1 x5
 (x6.1, x6.2.1, x6.2.2.1, x6.2.2.2.1, x6.2.2.2.2.1, x6.2.2.2.2.2.1, !x4, x6.2.2.2.2.2.2.2))
 x8
 (x9.1, x9.2.1, x9.2.2.1, x9.2.2.2.1, x9.2.2.2.2.1, x9.2.2.2.2.2.1, x9.2.2.2.2.2.2.1, x7,
 x9.2.2.2.2.2.2.2.2),
 s2.1.2.2.2.1, s2.1.2.2.2.2.1, s2.1.2.2.2.2.2.1, ()),
 IntKind.wrap .i64 (s2.2 + (1 : Int))))
 else some (.inr (s2.1.1, s2.1.2.1, s2.1.2.2.1, s2.1.2.2.2.1, s2.1.2.2.2.2.1, s2.1.2.2.2.2.2.1, ())))
 ((x1.1, x1.2.1, x1.2.2.1, x1.2.2.2.1, x1.2.2.2.2.1, x1.2.2.2.2.2.1, ()), (0 : Int)))
 fun x10 =>
 bif a1.2.2.2.2.2.2.1 then
 Option.bind
 (Tr.run
 (fun s11 =>
 bif decide (s11.2 < (↑(List.length a0.2.2.2.2.1) : Int)) then
 Option.bind (idx a0.2.2.2.2.1 s11.2) fun x12 =>
 bif x12.2.2.2.1 then
 Option.bind (guardB (decide (List.length s11.1.2.2.2.2.1 + List.length [x12] ≤ maxApp))) fun _ =>
 some
 (.inl
 ((s11.1.1, s11.1.2.1, s11.1.2.2.1, s11.1.2.2.2.1, s11.1.2.2.2.2.1 ++ [x12], s11.1.2.2.2.2.2.1, ()),
 IntKind.wrap .i64 (s11.2 + (1 : Int))))
 else
 some
 (.inl
 ((s11.1.1, s11.1.2.1, s11.1.2.2.1, s11.1.2.2.2.1, s11.1.2.2.2.2.1, s11.1.2.2.2.2.2.1, ()),
 IntKind.wrap .i64 (s11.2 + (1 : Int))))
 else some (.inr (s11.1.1, s11.1.2.1, s11.1.2.2.1, s11.1.2.2.2.1, s11.1.2.2.2.2.1, s11.1.2.2.2.2.2.1, ())))
 ((x10.1, x10.2.1, x10.2.2.1, x10.2.2.2.1, [], x10.2.2.2.2.2.1, ()), (0 : Int)))
 fun x14 => some ((x14.1, x14.2.1, x14.2.2.1, x14.2.2.2.1, x14.2.2.2.2.1, x14.2.2.2.2.2.1, ()), (0 : Int))
 else some ((x10.1, x10.2.1, x10.2.2.1, x10.2.2.2.1, x10.2.2.2.2.1, x10.2.2.2.2.2.1, ()), (0 : Int))
abbrev F7A : Pats := (.cons (.pd Y31) (.cons (.pd Y33) .nil))
abbrev F7R : Pats := (.cons (.pd Y31) (.cons (.pd Y36) .nil))
noncomputable def F7S : Tr.Spec := { args := F7A, res := F7R, fns := [], α := El Y31 × El Y36, f := fun x => F7 x.1 x.2.1, unp := fun z => (((), (), ()), (z.1, z.2, ())) }
noncomputable def F7M : List (Nat × List Tr.Spec) := [(24, [F5S]), (25, [F37S]), (26, [F12S]), (27, [F10S])]
def F7H : Hint := (.seq .leaf (.seq .leaf (.seq .leaf (.seq (.seq .leaf (.lp ⟨[(7, (.var Y31 (.agg (.cons (.pd Y22) (.cons (.pd Y23) (.cons (.own Y56 false) (.cons (.pd Y25) (.cons (.pd Y26) (.cons (.pd Y29) .nil))))))))), (24, (.pd Y3))], [], [2, 3, 4, 22, 23], []⟩ [((.exit 0), ⟨[(7, (.var Y31 (.agg (.cons (.pd Y22) (.cons (.pd Y23) (.cons (.own Y56 false) (.cons (.pd Y25) (.cons (.pd Y26) (.cons (.pd Y29) .nil)))))))))], [], [2, 3, 4], []⟩)] .leaf)) (.seq (.seq .leaf (.cnd none (.seq .leaf (.seq .leaf (.lp ⟨[(7, (.var Y31 (.agg (.cons (.pd Y22) (.cons (.pd Y23) (.cons (.own Y56 false) (.cons (.pd Y25) (.cons (.own Y64 false) (.cons (.pd Y29) .nil))))))))), (56, (.pd Y3))], [], [4, 54, 55], []⟩ [((.exit 2), ⟨[(7, (.var Y31 (.agg (.cons (.pd Y22) (.cons (.pd Y23) (.cons (.own Y56 false) (.cons (.pd Y25) (.cons (.own Y64 false) (.cons (.pd Y29) .nil)))))))))], [], [4], []⟩)] .leaf))) .leaf)) .leaf)))))
noncomputable def F7V (a0 : El Y31) (a1 : El Y33) : Option (El Y31 × El Y36) := evalF (mkE tyTab mapTab pkTab [] [] F7M 70 bdTab) (codeOf Tryz.f10) Tryz.f10.results F7H F7A F7R (fun y => (y.2.1, y.2.2.1)) (a0, a1, ())
theorem F7_eq (a0 : El Y31) (a1 : El Y33) : F7V a0 a1 = F7 a0 a1 := by kernel_rfl
theorem F7_ok : FnOK Tryz.prog 10 F7S := fnOK_of (m := F7M) (fn := Tryz.f10) (hint := F7H) (pack := fun y => (y.2.1, y.2.2.1)) hmix tab_ok ⟨⟨F5_ok, trivial⟩, ⟨F37_ok, trivial⟩, ⟨F12_ok, trivial⟩, ⟨F10_ok, trivial⟩, trivial⟩ fun x z h => (F7_eq x.1 x.2.1).trans h
noncomputable def F8 : (El Y31) → (El Y33) → Option (El Y43 × El Y36) := fun a0 a1 =>
 Option.bind (F5 a0 a1) fun x0 =>
 bif !decide (x0 = (0 : Int)) then some ([], x0)
 else
 Option.bind
 (Tr.run
 (fun s1 =>
 bif decide (s1.2 < (↑(List.length a0.2.2.1) : Int)) then
 Option.bind (idx a0.2.2.1 s1.2) fun x2 =>
 Option.bind (F12 a0 a1 x2) fun x3 =>
 bif x3 then
 Option.bind (guardB (decide (List.length s1.1 + List.length [s1.2] ≤ maxApp))) fun _ =>
 some (.inl (s1.1 ++ [s1.2], IntKind.wrap .i64 (s1.2 + (1 : Int))))
 else some (.inl (s1.1, IntKind.wrap .i64 (s1.2 + (1 : Int))))
 else some (.inr s1.1))
 ([], (0 : Int)))
 fun x5 => some (x5, (0 : Int))
abbrev F8A : Pats := (.cons (.pd Y31) (.cons (.pd Y33) .nil))
abbrev F8R : Pats := (.cons (.pd Y43) (.cons (.pd Y36) .nil))
noncomputable def F8S : Tr.Spec := { args := F8A, res := F8R, fns := [], α := El Y43 × El Y36, f := fun x => F8 x.1 x.2.1, unp := fun z => (((), (), ()), (z.1, z.2, ())) }
noncomputable def F8M : List (Nat × List Tr.Spec) := [(24, [F5S]), (26, [F12S])]
def F8H : Hint := (.seq .leaf (.seq .leaf (.seq .leaf (.seq (.seq .leaf (.lp ⟨[(7, (.own Y3 false)), (19, (.pd Y3))], [], [2, 3, 17, 18], []⟩ [((.exit 0), ⟨[(7, (.own Y3 false))], [], [], []⟩)] .leaf)) .leaf))))
noncomputable def F8V (a0 : El Y31) (a1 : El Y33) : Option (El Y43 × El Y36) := evalF (mkE tyTab mapTab pkTab [] [] F8M 34 bdTab) (codeOf Tryz.f14) Tryz.f14.results F8H F8A F8R (fun y => (y.2.1, y.2.2.1)) (a0, a1, ())
theorem F8_eq (a0 : El Y31) (a1 : El Y33) : F8V a0 a1 = F8 a0 a1 := by kernel_rfl
theorem F8_ok : FnOK Tryz.prog 14 F8S := fnOK_of (m := F8M) (fn := Tryz.f14) (hint := F8H) (pack := fun y => (y.2.1, y.2.2.1)) hmix tab_ok ⟨⟨F5_ok, trivial⟩, ⟨F12_ok, trivial⟩, trivial⟩ fun x z h => (F8_eq x.1 x.2.1).trans h
noncomputable def F9 : (El Y31) → (El Y33) → Option (El Y43 × El Y36) := fun a0 a1 =>
 Option.bind (F5 a0 a1) fun x0 =>
 bif !decide (x0 = (0 : Int)) then some ([], x0)
 else
 Option.bind
 (Tr.run
 (fun s1 =>
 bif decide (s1.2 < (↑(List.length a0.1) : Int)) then
 Option.bind (F11 a0 a1 s1.2) fun x2 =>
 bif x2 then
 Option.bind (guardB (decide (List.length s1.1 + List.length [s1.2] ≤ maxApp))) fun _ =>
 some (.inl (s1.1 ++ [s1.2], IntKind.wrap .i64 (s1.2 + (1 : Int))))
 else some (.inl (s1.1, IntKind.wrap .i64 (s1.2 + (1 : Int))))
 else some (.inr s1.1))
 ([], (0 : Int)))
 fun x4 => some (x4, (0 : Int))
abbrev F9A : Pats := (.cons (.pd Y31) (.cons (.pd Y33) .nil))
abbrev F9R : Pats := (.cons (.pd Y43) (.cons (.pd Y36) .nil))
noncomputable def F9S : Tr.Spec := { args := F9A, res := F9R, fns := [], α := El Y43 × El Y36, f := fun x => F9 x.1 x.2.1, unp := fun z => (((), (), ()), (z.1, z.2, ())) }
noncomputable def F9M : List (Nat × List Tr.Spec) := [(24, [F5S]), (33, [F11S])]
def F9H : Hint := (.seq .leaf (.seq .leaf (.seq .leaf (.seq (.seq .leaf (.lp ⟨[(7, (.own Y3 false)), (18, (.pd Y3))], [], [2, 3, 17], []⟩ [((.exit 0), ⟨[(7, (.own Y3 false))], [], [], []⟩)] .leaf)) .leaf))))
noncomputable def F9V (a0 : El Y31) (a1 : El Y33) : Option (El Y43 × El Y36) := evalF (mkE tyTab mapTab pkTab [] [] F9M 31 bdTab) (codeOf Tryz.f15) Tryz.f15.results F9H F9A F9R (fun y => (y.2.1, y.2.2.1)) (a0, a1, ())
theorem F9_eq (a0 : El Y31) (a1 : El Y33) : F9V a0 a1 = F9 a0 a1 := by kernel_rfl
theorem F9_ok : FnOK Tryz.prog 15 F9S := fnOK_of (m := F9M) (fn := Tryz.f15) (hint := F9H) (pack := fun y => (y.2.1, y.2.2.1)) hmix tab_ok ⟨⟨F5_ok, trivial⟩, ⟨F11_ok, trivial⟩, trivial⟩ fun x z h => (F9_eq x.1 x.2.1).trans h
noncomputable def F101 : (El Y43) → (El Y43) → Option (El Y4) := fun a0 a1 =>
 bif !decide ((↑(List.length a0) : Int) = (↑(List.length a1) : Int)) then some false
 else
 Option.bind
 (Tr.run
 (fun s0 =>
 bif decide (s0 < (↑(List.length a0) : Int)) then
 Option.bind (idx a0 s0) fun x1 =>
 Option.bind (idx a1 s0) fun x2 =>
 bif !decide (x1 = x2) then some (.inr (.inr false)) else some (.inl (IntKind.wrap .i64 (s0 + (1 : Int))))
 else some (.inr (.inl ())))
 (0 : Int))
 fun x3 => Sum.elim (fun _ => some true) (fun y5 => some y5) x3
abbrev F101A : Pats := (.cons (.pd Y43) (.cons (.pd Y43) .nil))
abbrev F101R : Pats := (.cons (.pd Y4) .nil)
noncomputable def F101S : Tr.Spec := { args := F101A, res := F101R, fns := [], α := El Y4, f := fun x => F101 x.1 x.2.1, unp := fun z => (((), (), ()), (z, ())) }
noncomputable def F101M : List (Nat × List Tr.Spec) := []
def F101H : Hint := (.seq .leaf (.seq .leaf (.seq (.seq .leaf (.lp ⟨[(5, (.pd Y3))], [], [0, 1], []⟩ [((.exit 0), ⟨[], [], [], []⟩), (.ret, ⟨[(4, (.pd Y4))], [], [], []⟩)] .leaf)) .leaf)))
noncomputable def F101V (a0 : El Y43) (a1 : El Y43) : Option (El Y4) := evalF (mkE tyTab mapTab pkTab [] [] F101M 26 bdTab) (codeOf Tryz.f16) Tryz.f16.results F101H F101A F101R (fun y => y.2.1) (a0, a1, ())
theorem F101_eq (a0 : El Y43) (a1 : El Y43) : F101V a0 a1 = F101 a0 a1 := by kernel_rfl
theorem F101_ok : FnOK Tryz.prog 16 F101S := fnOK_of (m := F101M) (fn := Tryz.f16) (hint := F101H) (pack := fun y => y.2.1) hmix tab_ok trivial fun x z h => (F101_eq x.1 x.2.1).trans h
noncomputable def F35 : Option (El Y31) := some
 ([([(65 : UInt8)], (0 : Int), true, (0 : Int), ()), ([(66 : UInt8)], (0 : Int), false, (0 : Int), ())],
 [([(82 : UInt8)], (0 : Int), true, ()), ([(83 : UInt8)], (3 : Int), false, ())],
 [((0 : Int), (0 : Int), (0 : Int), [(114 : UInt8)], (0 : Int), true, false,
 [((0 : Int), (100 : Int), (100 : Int), true, false, ()), ((1 : Int), (200 : Int), (200 : Int), false, true, ())], ()),
 ((0 : Int), (0 : Int), (0 : Int), [(115 : UInt8)], (1 : Int), false, false,
 [((0 : Int), (100 : Int), (100 : Int), true, false, ()), ((1 : Int), (200 : Int), (200 : Int), false, true, ())], ())],
 ([] : List (El Y71)), ([] : List (El Y64)), ([([(112 : UInt8)], (100 : Int), (1 : Int), (16 : Int), (0 : Int), (255 : Int), ())], (0 : Int), (0 : Int), (0 : Int), ()), ())
abbrev F35A : Pats := .nil
abbrev F35R : Pats := (.cons (.pd Y31) .nil)
noncomputable def F35S : Tr.Spec := { args := F35A, res := F35R, fns := [], α := El Y31, f := fun _ => F35, unp := fun z => ((), (z, ())) }
noncomputable def F35M : List (Nat × List Tr.Spec) := []
def F35H : Hint := .leaf
noncomputable def F35V : Option (El Y31) := evalF (mkE tyTab mapTab pkTab [] [] F35M 20 bdTab) (codeOf Tryz.f23) Tryz.f23.results F35H F35A F35R (fun y => y.2.1) (())
theorem F35_eq  : F35V  = F35  := by kernel_rfl
theorem F35_ok : FnOK Tryz.prog 23 F35S := fnOK_of (m := F35M) (fn := Tryz.f23) (hint := F35H) (pack := fun y => y.2.1) hmix tab_ok trivial fun _ z h => (F35_eq ).trans h
noncomputable def F33 : Option (El Y4) := Option.bind F35 fun x0 =>
 Option.bind (F8 x0 ((0 : Int), (1 : Int), (0 : Int), false, (1 : Int), (0 : Int), false, true, (0 : Int), false, ())) fun x1 =>
 Option.bind (F7 x0 ((0 : Int), (1 : Int), (0 : Int), false, (1 : Int), (0 : Int), false, true, (0 : Int), false, ())) fun x2 =>
 Option.bind (F9 x0 ((0 : Int), (1 : Int), (0 : Int), false, (1 : Int), (0 : Int), true, false, (0 : Int), false, ())) fun x3 =>
 Option.bind (F7 x0 ((0 : Int), (1 : Int), (0 : Int), false, (1 : Int), (0 : Int), true, false, (0 : Int), false, ())) fun x4 =>
 Option.bind (F8 x0 ((0 : Int), (2 : Int), (0 : Int), false, (0 : Int), (0 : Int), false, false, (0 : Int), false, ())) fun x5 =>
 Option.bind
 (bif !decide (x1.2 = (0 : Int)) then some true
 else
 bif !decide (x2.2 = (0 : Int)) then some true
 else
 bif !decide (x3.2 = (0 : Int)) then some true
 else
 bif !decide (x4.2 = (0 : Int)) then some true
 else
 bif !decide (x5.2 = (22 : Int)) then some true
 else
 bif !decide ((↑(List.length x2.1.2.2.1) : Int) = (2 : Int)) then some true
 else
 bif !decide ((↑(List.length x4.1.2.2.1) : Int) = (2 : Int)) then some true
 else Option.bind (idx x4.1.2.2.1 (0 : Int)) fun x6 => some !decide ((↑(List.length x6.2.2.2.2.2.2.2.1) : Int) = (2 : Int)))
 fun x7 =>
 bif x7 then some false
 else
 Option.bind (F101 x1.1 [(0 : Int)]) fun x8 =>
 bif x8 then
 Option.bind (idx x2.1.2.2.1 (1 : Int)) fun x9 =>
 bif x9.2.2.2.2.2.2.1 then
 Option.bind (idx x2.1.2.2.1 (0 : Int)) fun x10 =>
 bif !x10.2.2.2.2.2.2.1 then
 Option.bind (F101 x3.1 [(0 : Int)]) fun x11 =>
 bif x11 then
 Option.bind (idx x4.1.2.2.1 (0 : Int)) fun x12 =>
 Option.bind (idx x12.2.2.2.2.2.2.2.1 (0 : Int)) fun x13 =>
 bif x13.2.2.2.1 then
 Option.bind (idx x4.1.2.2.1 (0 : Int)) fun x14 =>
 Option.bind (idx x14.2.2.2.2.2.2.2.1 (1 : Int)) fun x15 => some !x15.2.2.2.2.1
 else some false
 else some false
 else some false
 else some false
 else some false
abbrev F33A : Pats := .nil
abbrev F33R : Pats := (.cons (.pd Y4) .nil)
noncomputable def F33S : Tr.Spec := { args := F33A, res := F33R, fns := [], α := El Y4, f := fun _ => F33, unp := fun z => ((), (z, ())) }
noncomputable def F33M : List (Nat × List Tr.Spec) := [(10, [F7S]), (14, [F8S]), (15, [F9S]), (16, [F101S]), (23, [F35S])]
def F33H : Hint := (.seq .leaf (.seq .leaf (.seq .leaf (.seq .leaf (.seq .leaf (.seq .leaf (.seq .leaf (.seq .leaf (.seq .leaf (.seq (.seq (.reg [(85, Y4)]) .leaf) .leaf))))))))))
noncomputable def F33V : Option (El Y4) := evalF (mkE tyTab mapTab pkTab [] [] F33M 130 bdTab) (codeOf Tryz.f9) Tryz.f9.results F33H F33A F33R (fun y => y.2.1) (())
theorem F33_eq  : F33V  = F33  := by kernel_rfl
theorem F33_ok : FnOK Tryz.prog 9 F33S := fnOK_of (m := F33M) (fn := Tryz.f9) (hint := F33H) (pack := fun y => y.2.1) hmix tab_ok ⟨⟨F7_ok, trivial⟩, ⟨F8_ok, trivial⟩, ⟨F9_ok, trivial⟩, ⟨F101_ok, trivial⟩, ⟨F35_ok, trivial⟩, trivial⟩ fun _ z h => (F33_eq ).trans h
noncomputable def F64 : (El Y9) → Option (El Y4) := fun a0 =>
 Option.bind (bif decide ((↑(List.length a0) : Int) < (1 : Int)) then some true else some (decide ((32 : Int) < (↑(List.length a0) : Int)))) fun x0 =>
 bif x0 then some false
 else
 Option.bind
 (Tr.run
 (fun s1 =>
 bif decide (s1 < (↑(List.length a0) : Int)) then
 Option.bind (idx a0 s1) fun x2 =>
 Option.bind
 (bif decide ((97 : Int) ≤ (↑(UInt8.toNat x2) : Int)) then
 bif decide ((↑(UInt8.toNat x2) : Int) ≤ (122 : Int)) then some true
 else
 bif decide ((65 : Int) ≤ (↑(UInt8.toNat x2) : Int)) then
 bif decide ((↑(UInt8.toNat x2) : Int) ≤ (90 : Int)) then some true
 else bif decide ((48 : Int) ≤ (↑(UInt8.toNat x2) : Int)) then some (decide ((↑(UInt8.toNat x2) : Int) ≤ (57 : Int))) else some false
 else bif decide ((48 : Int) ≤ (↑(UInt8.toNat x2) : Int)) then some (decide ((↑(UInt8.toNat x2) : Int) ≤ (57 : Int))) else some false
 else
 bif decide ((65 : Int) ≤ (↑(UInt8.toNat x2) : Int)) then
 bif decide ((↑(UInt8.toNat x2) : Int) ≤ (90 : Int)) then some true
 else bif decide ((48 : Int) ≤ (↑(UInt8.toNat x2) : Int)) then some (decide ((↑(UInt8.toNat x2) : Int) ≤ (57 : Int))) else some false
 else bif decide ((48 : Int) ≤ (↑(UInt8.toNat x2) : Int)) then some (decide ((↑(UInt8.toNat x2) : Int) ≤ (57 : Int))) else some false)
 fun x3 =>
 Option.bind
 (bif !x3 then
 bif !decide ((↑(UInt8.toNat x2) : Int) = (45 : Int)) then
 bif !decide ((↑(UInt8.toNat x2) : Int) = (95 : Int)) then some !decide ((↑(UInt8.toNat x2) : Int) = (46 : Int)) else some false
 else some false
 else some false)
 fun x4 => bif x4 then some (.inr (.inr false)) else some (.inl (IntKind.wrap .i64 (s1 + (1 : Int))))
 else some (.inr (.inl ())))
 (0 : Int))
 fun x5 => Sum.elim (fun _ => some true) (fun y7 => some y7) x5
abbrev F64A : Pats := (.cons (.pd Y9) .nil)
abbrev F64R : Pats := (.cons (.pd Y4) .nil)
noncomputable def F64S : Tr.Spec := { args := F64A, res := F64R, fns := [], α := El Y4, f := fun x => F64 x.1, unp := fun z => (((), ()), (z, ())) }
noncomputable def F64M : List (Nat × List Tr.Spec) := []
def F64H : Hint := (.seq .leaf (.seq (.seq (.reg [(13, Y4)]) .leaf) (.seq (.seq .leaf (.lp ⟨[(3, (.pd Y3))], [], [0], []⟩ [((.exit 0), ⟨[], [], [], []⟩), (.ret, ⟨[(2, (.pd Y4))], [], [], []⟩)] (.seq .leaf (.seq (.seq .leaf (.seq (.reg [(5, Y4)]) (.seq (.reg [(58, Y4)]) .leaf))) .leaf)))) .leaf)))
noncomputable def F64V (a0 : El Y9) : Option (El Y4) := evalF (mkE tyTab mapTab pkTab [] [] F64M 59 bdTab) (codeOf Tryz.f69) Tryz.f69.results F64H F64A F64R (fun y => y.2.1) (a0, ())
theorem F64_eq (a0 : El Y9) : F64V a0 = F64 a0 := by kernel_rfl
theorem F64_ok : FnOK Tryz.prog 69 F64S := fnOK_of (m := F64M) (fn := Tryz.f69) (hint := F64H) (pack := fun y => y.2.1) hmix tab_ok trivial fun x z h => (F64_eq x.1).trans h
noncomputable def F65 : (El Y3) → (El Y3) → (El Y3) → Option (El Y4) := fun a0 a1 a2 => Option.bind (bif decide (a1 ≤ a0) then some (decide (a0 ≤ a2)) else some false) fun x0 => some x0
abbrev F65A : Pats := (.cons (.pd Y3) (.cons (.pd Y3) (.cons (.pd Y3) .nil)))
abbrev F65R : Pats := (.cons (.pd Y4) .nil)
noncomputable def F65S : Tr.Spec := { args := F65A, res := F65R, fns := [], α := El Y4, f := fun x => F65 x.1 x.2.1 x.2.2.1, unp := fun z => (((), (), (), ()), (z, ())) }
noncomputable def F65M : List (Nat × List Tr.Spec) := []
def F65H : Hint := (.seq .leaf (.seq (.reg [(6, Y4)]) .leaf))
noncomputable def F65V (a0 : El Y3) (a1 : El Y3) (a2 : El Y3) : Option (El Y4) := evalF (mkE tyTab mapTab pkTab [] [] F65M 15 bdTab) (codeOf Tryz.f70) Tryz.f70.results F65H F65A F65R (fun y => y.2.1) (a0, a1, a2, ())
theorem F65_eq (a0 : El Y3) (a1 : El Y3) (a2 : El Y3) : F65V a0 a1 a2 = F65 a0 a1 a2 := by kernel_rfl
theorem F65_ok : FnOK Tryz.prog 70 F65S := fnOK_of (m := F65M) (fn := Tryz.f70) (hint := F65H) (pack := fun y => y.2.1) hmix tab_ok trivial fun x z h => (F65_eq x.1 x.2.1 x.2.2.1).trans h
noncomputable def F71 : (El Y22) → Option (El Y3 × El Y36) := fun a0 =>
 bif decide ((64 : Int) < (↑(List.length a0) : Int)) then some ((0 : Int), (5 : Int))
 else
 Option.bind
 (Tr.run
 (fun s0 =>
 bif decide (s0 < (↑(List.length a0) : Int)) then
 Option.bind (idx a0 s0) fun x1 =>
 Option.bind (F64 x1.1) fun x2 =>
 bif !x2 then some (.inr (.inr (s0, (12 : Int))))
 else
 Option.bind
 (Tr.run
 (fun s3 =>
 bif decide (s3 < s0) then
 Option.bind (idx a0 s3) fun x4 =>
 Option.bind (idx a0 s0) fun x5 =>
 bif decide (x4.1 = x5.1) then some (.inr (.inr (s0, (6 : Int)))) else some (.inl (IntKind.wrap .i64 (s3 + (1 : Int))))
 else some (.inr (.inl ())))
 (0 : Int))
 fun x6 =>
 Sum.elim
 (fun _ =>
 Option.bind
 (Option.bind (idx a0 s0) fun x8 =>
 Option.bind (F65 x8.2.1 (0 : Int) (15 : Int)) fun x9 =>
 bif !x9 then some true
 else Option.bind (idx a0 s0) fun x10 => Option.bind (F65 x10.2.2.2.1 (0 : Int) (3600 : Int)) fun x11 => some !x11)
 fun x12 => bif x12 then some (.inr (.inr (s0, (2 : Int)))) else some (.inl (IntKind.wrap .i64 (s0 + (1 : Int)))))
 (fun y13 => some (.inr (.inr (y13.1, y13.2)))) x6
 else some (.inr (.inl ())))
 (0 : Int))
 fun x14 => Sum.elim (fun _ => some ((0 : Int), (0 : Int))) (fun y16 => some (y16.1, y16.2)) x14
abbrev F71A : Pats := (.cons (.pd Y22) .nil)
abbrev F71R : Pats := (.cons (.pd Y3) (.cons (.pd Y36) .nil))
noncomputable def F71S : Tr.Spec := { args := F71A, res := F71R, fns := [], α := El Y3 × El Y36, f := fun x => F71 x.1, unp := fun z => (((), ()), (z.1, z.2, ())) }
noncomputable def F71M : List (Nat × List Tr.Spec) := [(69, [F64S]), (70, [F65S])]
def F71H : Hint := (.seq .leaf (.seq .leaf (.seq (.seq .leaf (.lp ⟨[(4, (.pd Y3))], [], [0], []⟩ [((.exit 0), ⟨[], [], [], []⟩), (.ret, ⟨[(2, (.pd Y3)), (3, (.pd Y36))], [], [], []⟩)] (.seq .leaf (.seq (.seq .leaf (.seq (.seq .leaf (.lp ⟨[(5, (.pd Y3))], [], [0, 4], []⟩ [((.exit 2), ⟨[], [], [0, 4], []⟩), (.ret, ⟨[(2, (.pd Y3)), (3, (.pd Y36))], [], [], []⟩)] .leaf)) (.seq (.reg [(55, Y4)]) .leaf))) .leaf)))) .leaf)))
noncomputable def F71V (a0 : El Y22) : Option (El Y3 × El Y36) := evalF (mkE tyTab mapTab pkTab [] [] F71M 57 bdTab) (codeOf Tryz.f53) Tryz.f53.results F71H F71A F71R (fun y => (y.2.1, y.2.2.1)) (a0, ())
theorem F71_eq (a0 : El Y22) : F71V a0 = F71 a0 := by kernel_rfl
theorem F71_ok : FnOK Tryz.prog 53 F71S := fnOK_of (m := F71M) (fn := Tryz.f53) (hint := F71H) (pack := fun y => (y.2.1, y.2.2.1)) hmix tab_ok ⟨⟨F64_ok, trivial⟩, ⟨F65_ok, trivial⟩, trivial⟩ fun x z h => (F71_eq x.1).trans h
noncomputable def F69 : (El Y23) → Option (El Y3 × El Y36) := fun a0 =>
 bif decide ((64 : Int) < (↑(List.length a0) : Int)) then some ((0 : Int), (5 : Int))
 else
 Option.bind
 (Tr.run
 (fun s0 =>
 bif decide (s0 < (↑(List.length a0) : Int)) then
 Option.bind (idx a0 s0) fun x1 =>
 Option.bind (F64 x1.1) fun x2 =>
 bif !x2 then some (.inr (.inr (s0, (12 : Int))))
 else
 Option.bind
 (Tr.run
 (fun s3 =>
 bif decide (s3 < s0) then
 Option.bind (idx a0 s3) fun x4 =>
 Option.bind (idx a0 s0) fun x5 =>
 bif decide (x4.1 = x5.1) then some (.inr (.inr (s0, (6 : Int)))) else some (.inl (IntKind.wrap .i64 (s3 + (1 : Int))))
 else some (.inr (.inl ())))
 (0 : Int))
 fun x6 =>
 Sum.elim
 (fun _ =>
 Option.bind (idx a0 s0) fun x8 =>
 Option.bind (F65 x8.2.1 (0 : Int) (7 : Int)) fun x9 =>
 bif !x9 then some (.inr (.inr (s0, (2 : Int)))) else some (.inl (IntKind.wrap .i64 (s0 + (1 : Int)))))
 (fun y10 => some (.inr (.inr (y10.1, y10.2)))) x6
 else some (.inr (.inl ())))
 (0 : Int))
 fun x11 => Sum.elim (fun _ => some ((0 : Int), (0 : Int))) (fun y13 => some (y13.1, y13.2)) x11
abbrev F69A : Pats := (.cons (.pd Y23) .nil)
abbrev F69R : Pats := (.cons (.pd Y3) (.cons (.pd Y36) .nil))
noncomputable def F69S : Tr.Spec := { args := F69A, res := F69R, fns := [], α := El Y3 × El Y36, f := fun x => F69 x.1, unp := fun z => (((), ()), (z.1, z.2, ())) }
noncomputable def F69M : List (Nat × List Tr.Spec) := [(69, [F64S]), (70, [F65S])]
def F69H : Hint := (.seq .leaf (.seq .leaf (.seq (.seq .leaf (.lp ⟨[(4, (.pd Y3))], [], [0], []⟩ [((.exit 0), ⟨[], [], [], []⟩), (.ret, ⟨[(2, (.pd Y3)), (3, (.pd Y36))], [], [], []⟩)] (.seq .leaf (.seq (.seq .leaf (.seq (.seq .leaf (.lp ⟨[(5, (.pd Y3))], [], [0, 4], []⟩ [((.exit 2), ⟨[], [], [0, 4], []⟩), (.ret, ⟨[(2, (.pd Y3)), (3, (.pd Y36))], [], [], []⟩)] .leaf)) .leaf)) .leaf)))) .leaf)))
noncomputable def F69V (a0 : El Y23) : Option (El Y3 × El Y36) := evalF (mkE tyTab mapTab pkTab [] [] F69M 48 bdTab) (codeOf Tryz.f54) Tryz.f54.results F69H F69A F69R (fun y => (y.2.1, y.2.2.1)) (a0, ())
theorem F69_eq (a0 : El Y23) : F69V a0 = F69 a0 := by kernel_rfl
theorem F69_ok : FnOK Tryz.prog 54 F69S := fnOK_of (m := F69M) (fn := Tryz.f54) (hint := F69H) (pack := fun y => (y.2.1, y.2.2.1)) hmix tab_ok ⟨⟨F64_ok, trivial⟩, ⟨F65_ok, trivial⟩, trivial⟩ fun x z h => (F69_eq x.1).trans h
noncomputable def F54 : (El Y54) → (El Y3) → (El Y3) → (El Y3) → Option (El Y36) := fun a0 a1 a2 a3 =>
 Option.bind (bif decide ((↑(List.length a0) : Int) < (2 : Int)) then some true else some (decide ((32 : Int) < (↑(List.length a0) : Int)))) fun x0 =>
 bif x0 then some (5 : Int)
 else
 Option.bind
 (Tr.run
 (fun s1 =>
 bif decide (s1 < (↑(List.length a0) : Int)) then
 Option.bind (idx a0 s1) fun x2 =>
 Option.bind (bif decide (x2.1 < (0 : Int)) then some true else some (decide (a1 ≤ x2.1))) fun x3 =>
 bif x3 then some (.inr (.inr (9 : Int)))
 else
 Option.bind
 (bif decide ((0 : Int) < s1) then Option.bind (idx a0 (IntKind.wrap .i64 (s1 - (1 : Int)))) fun x4 => some (decide (x4.1 = x2.1))
 else some false)
 fun x5 =>
 bif x5 then some (.inr (.inr (13 : Int)))
 else
 Option.bind
 (bif decide (x2.2.1 < a2) then some true
 else
 bif decide (x2.2.2.1 < x2.2.1) then some true
 else
 bif decide (a3 < x2.2.2.1) then some true
 else
 bif decide ((0 : Int) < s1) then
 Option.bind (idx a0 (IntKind.wrap .i64 (s1 - (1 : Int)))) fun x6 => some (decide (x2.2.1 < x6.2.2.1))
 else some false)
 fun x7 => bif x7 then some (.inr (.inr (10 : Int))) else some (.inl (IntKind.wrap .i64 (s1 + (1 : Int))))
 else some (.inr (.inl ())))
 (0 : Int))
 fun x8 => Sum.elim (fun _ => some (0 : Int)) (fun y10 => some y10) x8
abbrev F54A : Pats := (.cons (.pd Y54) (.cons (.pd Y3) (.cons (.pd Y3) (.cons (.pd Y3) .nil))))
abbrev F54R : Pats := (.cons (.pd Y36) .nil)
noncomputable def F54S : Tr.Spec := { args := F54A, res := F54R, fns := [], α := El Y36, f := fun x => F54 x.1 x.2.1 x.2.2.1 x.2.2.2.1, unp := fun z => (((), (), (), (), ()), (z, ())) }
noncomputable def F54M : List (Nat × List Tr.Spec) := []
def F54H : Hint := (.seq .leaf (.seq (.seq (.reg [(18, Y4)]) .leaf) (.seq (.seq .leaf (.lp ⟨[(9, (.pd Y3))], [], [0, 1, 2, 3], []⟩ [((.exit 0), ⟨[], [], [], []⟩), (.ret, ⟨[(8, (.pd Y36))], [], [], []⟩)] (.seq .leaf (.seq (.seq .leaf (.seq (.seq (.reg [(37, Y4)]) .leaf) (.seq (.seq (.reg [(50, Y4)]) .leaf) (.seq (.reg [(82, Y4)]) .leaf)))) .leaf)))) .leaf)))
noncomputable def F54V (a0 : El Y54) (a1 : El Y3) (a2 : El Y3) (a3 : El Y3) : Option (El Y36) := evalF (mkE tyTab mapTab pkTab [] [] F54M 83 bdTab) (codeOf Tryz.f71) Tryz.f71.results F54H F54A F54R (fun y => y.2.1) (a0, a1, a2, a3, ())
theorem F54_eq (a0 : El Y54) (a1 : El Y3) (a2 : El Y3) (a3 : El Y3) : F54V a0 a1 a2 a3 = F54 a0 a1 a2 a3 := by kernel_rfl
theorem F54_ok : FnOK Tryz.prog 71 F54S := fnOK_of (m := F54M) (fn := Tryz.f71) (hint := F54H) (pack := fun y => y.2.1) hmix tab_ok trivial fun x z h => (F54_eq x.1 x.2.1 x.2.2.1 x.2.2.2.1).trans h
noncomputable def F70 : (El Y31) → (El Y3) → Option (El Y36) := fun a0 a1 =>
 Option.bind (idx a0.2.2.1 a1) fun x0 =>
 Option.bind (F64 x0.2.2.2.1) fun x1 =>
 bif !x1 then some (12 : Int)
 else
 Option.bind (bif decide (x0.1 < (-1 : Int)) then some true else some (decide (x0.2.2.1 < (0 : Int)))) fun x2 =>
 bif x2 then some (2 : Int)
 else
 Option.bind (F65 x0.2.1 (0 : Int) (36524 : Int)) fun x3 =>
 bif !x3 then some (11 : Int)
 else
 Option.bind
 (bif decide (x0.2.2.2.2.1 < (0 : Int)) then some true
 else some (decide ((↑(List.length a0.2.1) : Int) ≤ x0.2.2.2.2.1)))
 fun x4 =>
 bif x4 then some (9 : Int)
 else
 Option.bind (F54 x0.2.2.2.2.2.2.2.1 (↑(List.length a0.1) : Int) (0 : Int) (3155932800 : Int)) fun x5 =>
 bif !decide (x5 = (0 : Int)) then some x5
 else
 Option.bind
 (Tr.run
 (fun s6 =>
 bif decide (s6 < a1) then
 Option.bind (idx a0.2.2.1 s6) fun x7 =>
 Option.bind
 (bif decide (x7.2.2.2.1 = x0.2.2.2.1) then
 bif decide (x7.2.1 = x0.2.1) then some (decide (x7.2.2.1 = x0.2.2.1)) else some false
 else some false)
 fun x8 => bif x8 then some (.inr (.inr (6 : Int))) else some (.inl (IntKind.wrap .i64 (s6 + (1 : Int))))
 else some (.inr (.inl ())))
 (0 : Int))
 fun x9 => Sum.elim (fun _ => some (0 : Int)) (fun y11 => some y11) x9
abbrev F70A : Pats := (.cons (.pd Y31) (.cons (.pd Y3) .nil))
abbrev F70R : Pats := (.cons (.pd Y36) .nil)
noncomputable def F70S : Tr.Spec := { args := F70A, res := F70R, fns := [], α := El Y36, f := fun x => F70 x.1 x.2.1, unp := fun z => (((), (), ()), (z, ())) }
noncomputable def F70M : List (Nat × List Tr.Spec) := [(69, [F64S]), (70, [F65S]), (71, [F54S])]
def F70H : Hint := (.seq .leaf (.seq .leaf (.seq .leaf (.seq (.seq (.reg [(25, Y4)]) .leaf) (.seq .leaf (.seq (.seq (.reg [(40, Y4)]) .leaf) (.seq .leaf (.seq .leaf (.seq (.seq .leaf (.lp ⟨[(7, (.pd Y3))], [], [1, 2, 5], []⟩ [((.exit 0), ⟨[], [], [], []⟩), (.ret, ⟨[(4, (.pd Y36))], [], [], []⟩)] (.seq .leaf (.seq (.seq .leaf (.seq (.reg [(78, Y4)]) .leaf)) .leaf)))) .leaf)))))))))
noncomputable def F70V (a0 : El Y31) (a1 : El Y3) : Option (El Y36) := evalF (mkE tyTab mapTab pkTab [] [] F70M 79 bdTab) (codeOf Tryz.f55) Tryz.f55.results F70H F70A F70R (fun y => y.2.1) (a0, a1, ())
theorem F70_eq (a0 : El Y31) (a1 : El Y3) : F70V a0 a1 = F70 a0 a1 := by kernel_rfl
theorem F70_ok : FnOK Tryz.prog 55 F70S := fnOK_of (m := F70M) (fn := Tryz.f55) (hint := F70H) (pack := fun y => y.2.1) hmix tab_ok ⟨⟨F64_ok, trivial⟩, ⟨F65_ok, trivial⟩, ⟨F54_ok, trivial⟩, trivial⟩ fun x z h => (F70_eq x.1 x.2.1).trans h
noncomputable def F66 : (El Y31) → (El Y3) → (El Y3) → (El Y3) → Option (El Y4) := fun a0 a1 a2 a3 =>
 Option.bind
 (Tr.run
 (fun s0 =>
 bif decide (s0.2 ≤ a1) then
 Option.bind
 (Tr.run
 (fun s1 =>
 bif decide (s1.2 < a1) then
 Option.bind
 (Option.bind (idx a0.2.2.2.1 s1.2) fun x2 =>
 bif x2.2.2.2.2.1 then Option.bind (idx a0.2.2.2.1 s1.2) fun x3 => some (decide (x3.1 = s0.1)) else some false)
 fun x4 =>
 bif x4 then Option.bind (idx a0.2.2.2.1 s1.2) fun x5 => some (.inl (x5.2.2.1, IntKind.wrap .i64 (s1.2 + (1 : Int))))
 else some (.inl (s1.1, IntKind.wrap .i64 (s1.2 + (1 : Int))))
 else some (.inr s1.1))
 ((-1 : Int), (0 : Int)))
 fun x6 => bif decide (x6 = a3) then some (.inr (.inr true)) else some (.inl (x6, IntKind.wrap .i64 (s0.2 + (1 : Int))))
 else some (.inr (.inl ())))
 (a2, (0 : Int)))
 fun x7 => Sum.elim (fun _ => some false) (fun y9 => some y9) x7
abbrev F66A : Pats := (.cons (.pd Y31) (.cons (.pd Y3) (.cons (.pd Y3) (.cons (.pd Y3) .nil))))
abbrev F66R : Pats := (.cons (.pd Y4) .nil)
noncomputable def F66S : Tr.Spec := { args := F66A, res := F66R, fns := [], α := El Y4, f := fun x => F66 x.1 x.2.1 x.2.2.1 x.2.2.2.1, unp := fun z => (((), (), (), (), ()), (z, ())) }
noncomputable def F66M : List (Nat × List Tr.Spec) := []
def F66H : Hint := (.seq .leaf (.seq (.seq .leaf (.lp ⟨[(2, (.pd Y3)), (9, (.pd Y3))], [], [1, 3, 4], []⟩ [((.exit 0), ⟨[], [], [], []⟩), (.ret, ⟨[(8, (.pd Y4))], [], [], []⟩)] (.seq .leaf (.seq (.seq .leaf (.seq (.seq .leaf (.lp ⟨[(10, (.pd Y3)), (11, (.pd Y3))], [], [1, 2, 3, 4, 9], []⟩ [((.exit 2), ⟨[(10, (.pd Y3))], [], [1, 3, 4, 9], []⟩)] (.seq .leaf (.seq (.seq (.reg [(37, Y4)]) .leaf) .leaf)))) .leaf)) .leaf)))) .leaf))
noncomputable def F66V (a0 : El Y31) (a1 : El Y3) (a2 : El Y3) (a3 : El Y3) : Option (El Y4) := evalF (mkE tyTab mapTab pkTab [] [] F66M 48 bdTab) (codeOf Tryz.f72) Tryz.f72.results F66H F66A F66R (fun y => y.2.1) (a0, a1, a2, a3, ())
theorem F66_eq (a0 : El Y31) (a1 : El Y3) (a2 : El Y3) (a3 : El Y3) : F66V a0 a1 a2 a3 = F66 a0 a1 a2 a3 := by kernel_rfl
theorem F66_ok : FnOK Tryz.prog 72 F66S := fnOK_of (m := F66M) (fn := Tryz.f72) (hint := F66H) (pack := fun y => y.2.1) hmix tab_ok trivial fun x z h => (F66_eq x.1 x.2.1 x.2.2.1 x.2.2.2.1).trans h
noncomputable def F67 : (El Y31) → (El Y3) → Option (El Y36) := fun a0 a1 =>
 Option.bind (idx a0.2.2.2.1 a1) fun x0 =>
 Option.bind
 (Option.bind (F65 x0.1 (0 : Int) (IntKind.wrap .i64 ((↑(List.length a0.2.2.1) : Int) - (1 : Int)))) fun x1 =>
 bif !x1 then some true
 else
 Option.bind (F65 x0.2.2.1 (0 : Int) (IntKind.wrap .i64 ((↑(List.length a0.2.2.1) : Int) - (1 : Int)))) fun x2 =>
 bif !x2 then some true else some (decide (x0.1 = x0.2.2.1)))
 fun x3 =>
 bif x3 then some (9 : Int)
 else
 Option.bind (idx a0.2.2.1 x0.1) fun x4 =>
 Option.bind (idx a0.2.2.1 x0.2.2.1) fun x5 =>
 Option.bind
 (Option.bind (F65 x0.2.1 (0 : Int) (IntKind.wrap .i64 ((↑(List.length x4.2.2.2.2.2.2.2.1) : Int) - (1 : Int)))) fun x6 =>
 bif !x6 then some true
 else
 Option.bind (F65 x0.2.2.2.1 (0 : Int) (IntKind.wrap .i64 ((↑(List.length x5.2.2.2.2.2.2.2.1) : Int) - (1 : Int)))) fun x7 =>
 some !x7)
 fun x8 =>
 bif x8 then some (9 : Int)
 else
 Option.bind (idx x4.2.2.2.2.2.2.2.1 x0.2.1) fun x9 =>
 Option.bind (idx x5.2.2.2.2.2.2.2.1 x0.2.2.2.1) fun x10 =>
 bif !decide (x9.1 = x10.1) then some (13 : Int)
 else
 Option.bind
 (bif x0.2.2.2.2.1 then
 bif !decide (x0.2.1 = IntKind.wrap .i64 ((↑(List.length x4.2.2.2.2.2.2.2.1) : Int) - (1 : Int))) then some true
 else some !decide (x0.2.2.2.1 = (0 : Int))
 else some false)
 fun x11 =>
 bif x11 then some (19 : Int)
 else
 Option.bind
 (Tr.run
 (fun s12 =>
 bif decide (s12 < a1) then
 Option.bind (idx a0.2.2.2.1 s12) fun x13 =>
 Option.bind
 (bif x0.2.2.2.2.1 then
 bif x13.2.2.2.2.1 then
 bif decide (x13.1 = x0.1) then some true else some (decide (x13.2.2.1 = x0.2.2.1))
 else some false
 else some false)
 fun x14 => bif x14 then some (.inr (.inr (19 : Int))) else some (.inl (IntKind.wrap .i64 (s12 + (1 : Int))))
 else some (.inr (.inl ())))
 (0 : Int))
 fun x15 =>
 Sum.elim
 (fun _ =>
 Option.bind (bif x0.2.2.2.2.1 then Option.bind (F66 a0 a1 x0.2.2.1 x0.1) fun x17 => some x17 else some false) fun x18 =>
 bif x18 then some (19 : Int)
 else
 Option.bind
 (Tr.run
 (fun s19 =>
 bif decide (s19 < a1) then
 Option.bind (idx a0.2.2.2.1 s19) fun x20 =>
 Option.bind
 (bif decide (x20.1 = x0.1) then
 bif decide (x20.2.1 = x0.2.1) then
 bif decide (x20.2.2.1 = x0.2.2.1) then some (decide (x20.2.2.2.1 = x0.2.2.2.1))
 else some false
 else some false
 else some false)
 fun x21 => bif x21 then some (.inr (.inr (6 : Int))) else some (.inl (IntKind.wrap .i64 (s19 + (1 : Int))))
 else some (.inr (.inl ())))
 (0 : Int))
 fun x22 => Sum.elim (fun _ => some (0 : Int)) (fun y24 => some y24) x22)
 (fun y25 => some y25) x15
abbrev F67A : Pats := (.cons (.pd Y31) (.cons (.pd Y3) .nil))
abbrev F67R : Pats := (.cons (.pd Y36) .nil)
noncomputable def F67S : Tr.Spec := { args := F67A, res := F67R, fns := [], α := El Y36, f := fun x => F67 x.1 x.2.1, unp := fun z => (((), (), ()), (z, ())) }
noncomputable def F67M : List (Nat × List Tr.Spec) := [(70, [F65S]), (72, [F66S])]
def F67H : Hint := (.seq .leaf (.seq .leaf (.seq (.seq (.reg [(41, Y4)]) .leaf) (.seq .leaf (.seq (.seq (.reg [(71, Y4)]) .leaf) (.seq .leaf (.seq (.seq (.reg [(99, Y4)]) .leaf) (.seq (.seq .leaf (.lp ⟨[(8, (.pd Y3))], [], [1, 2, 5], []⟩ [((.exit 0), ⟨[], [], [1, 2, 5], []⟩), (.ret, ⟨[(4, (.pd Y36))], [], [], []⟩)] (.seq .leaf (.seq (.seq .leaf (.seq (.reg [(129, Y4)]) .leaf)) .leaf)))) (.seq (.seq (.reg [(140, Y4)]) .leaf) (.seq (.seq .leaf (.lp ⟨[(10, (.pd Y3))], [], [1, 2, 5], []⟩ [((.exit 2), ⟨[], [], [], []⟩), (.ret, ⟨[(4, (.pd Y36))], [], [], []⟩)] (.seq .leaf (.seq (.seq .leaf (.seq (.reg [(176, Y4)]) .leaf)) .leaf)))) .leaf))))))))))
noncomputable def F67V (a0 : El Y31) (a1 : El Y3) : Option (El Y36) := evalF (mkE tyTab mapTab pkTab [] [] F67M 177 bdTab) (codeOf Tryz.f56) Tryz.f56.results F67H F67A F67R (fun y => y.2.1) (a0, a1, ())
theorem F67_eq (a0 : El Y31) (a1 : El Y3) : F67V a0 a1 = F67 a0 a1 := by kernel_rfl
theorem F67_ok : FnOK Tryz.prog 56 F67S := fnOK_of (m := F67M) (fn := Tryz.f56) (hint := F67H) (pack := fun y => y.2.1) hmix tab_ok ⟨⟨F65_ok, trivial⟩, ⟨F66_ok, trivial⟩, trivial⟩ fun x z h => (F67_eq x.1 x.2.1).trans h
noncomputable def F62 : (El Y26) → (El Y3) → (El Y4) → Option (El Y135) := fun a0 a1 a2 =>
 Option.bind
 (Tr.run
 (fun s0 =>
 bif decide (s0.2 < a1) then
 Option.bind
 (Tr.run
 (fun s1 =>
 bif decide (s1.2.2 < a1) then
 Option.bind (guardB (decide (List.length s1.2.1 + List.length [(1099511627776 : Int)] ≤ maxApp))) fun _ =>
 some (.inl (s1.1, s1.2.1 ++ [(1099511627776 : Int)], IntKind.wrap .i64 (s1.2.2 + (1 : Int))))
 else some (.inr (s1.1, s1.2.1)))
 (s0.1, [], (0 : Int)))
 fun x3 =>
 Option.bind (guardB (decide (List.length x3.1 + List.length [x3.2] ≤ maxApp))) fun _ =>
 some (.inl (x3.1 ++ [x3.2], IntKind.wrap .i64 (s0.2 + (1 : Int))))
 else some (.inr s0.1))
 ([], (0 : Int)))
 fun x5 =>
 Option.bind
 (Tr.run
 (fun s6 =>
 bif decide (s6.2 < (↑(List.length a0) : Int)) then
 Option.bind (idx a0 s6.2) fun x7 =>
 Option.bind (bif x7.2.2.2.1 then some true else some !a2) fun x8 =>
 bif x8 then
 Option.bind (inb x7.1 (List.length s6.1)) fun x9 =>
 Option.bind s6.1[x9]? fun _ =>
 Option.bind (inb x7.1 (List.length s6.1)) fun x11 =>
 Option.bind s6.1[x11]? fun _ =>
 Option.bind (idx s6.1 (↑x11 : Int)) fun x13 =>
 Option.bind (inb x7.2.1 (List.length x13)) fun x14 =>
 Option.bind (idx s6.1 (↑x11 : Int)) fun x15 =>
 Option.bind x15[x14]? fun x16 =>
 Option.bind (idx s6.1 (↑x9 : Int)) fun x17 =>
 Option.bind (inb x7.2.1 (List.length x17)) fun x18 =>
 Option.bind (idx s6.1 (↑x9 : Int)) fun x19 =>
 Option.bind x19[x18]? fun _ =>
 some
 (.inl (List.set s6.1 (Int.toNat (↑x9 : Int)) (List.set x19 x18 (Tr.imin x16 x7.2.2.1)), IntKind.wrap .i64 (s6.2 + (1 : Int))))
 else some (.inl (s6.1, IntKind.wrap .i64 (s6.2 + (1 : Int))))
 else some (.inr s6.1))
 (x5, (0 : Int)))
 fun x21 =>
 Option.bind
 (Tr.run
 (fun s22 =>
 bif decide (s22.2 < a1) then
 Option.bind
 (Tr.run
 (fun s23 =>
 bif decide (s23.2 < a1) then
 Option.bind
 (Tr.run
 (fun s24 =>
 bif decide (s24.2 < a1) then
 Option.bind (inb s23.2 (List.length s24.1)) fun x25 =>
 Option.bind s24.1[x25]? fun _ =>
 Option.bind (inb s23.2 (List.length s24.1)) fun x27 =>
 Option.bind s24.1[x27]? fun _ =>
 Option.bind (idx s24.1 (↑x27 : Int)) fun x29 =>
 Option.bind (inb s24.2 (List.length x29)) fun x30 =>
 Option.bind (idx s24.1 (↑x27 : Int)) fun x31 =>
 Option.bind x31[x30]? fun x32 =>
 Option.bind (inb s23.2 (List.length s24.1)) fun x33 =>
 Option.bind s24.1[x33]? fun _ =>
 Option.bind (idx s24.1 (↑x33 : Int)) fun x35 =>
 Option.bind (inb s22.2 (List.length x35)) fun x36 =>
 Option.bind (idx s24.1 (↑x33 : Int)) fun x37 =>
 Option.bind x37[x36]? fun x38 =>
 Option.bind (inb s22.2 (List.length s24.1)) fun x39 =>
 Option.bind s24.1[x39]? fun _ =>
 Option.bind (idx s24.1 (↑x39 : Int)) fun x41 =>
 Option.bind (inb s24.2 (List.length x41)) fun x42 =>
 Option.bind (idx s24.1 (↑x39 : Int)) fun x43 =>
 Option.bind x43[x42]? fun x44 =>
 Option.bind (idx s24.1 (↑x25 : Int)) fun x45 =>
 Option.bind (inb s24.2 (List.length x45)) fun x46 =>
 Option.bind (idx s24.1 (↑x25 : Int)) fun x47 =>
 Option.bind x47[x46]? fun _ =>
 some
 (.inl
 (List.set s24.1 (Int.toNat (↑x25 : Int))
 (List.set x47 x46 (Tr.imin x32 (IntKind.wrap .i64 (x38 + x44)))),
 IntKind.wrap .i64 (s24.2 + (1 : Int))))
 else some (.inr s24.1))
 (s23.1, (0 : Int)))
 fun x49 => some (.inl (x49, IntKind.wrap .i64 (s23.2 + (1 : Int))))
 else some (.inr s23.1))
 (s22.1, (0 : Int)))
 fun x50 => some (.inl (x50, IntKind.wrap .i64 (s22.2 + (1 : Int))))
 else some (.inr s22.1))
 (x21, (0 : Int)))
 fun x51 => some x51
abbrev F62A : Pats := (.cons (.pd Y26) (.cons (.pd Y3) (.cons (.pd Y4) .nil)))
abbrev F62R : Pats := (.cons (.pd Y135) .nil)
noncomputable def F62S : Tr.Spec := { args := F62A, res := F62R, fns := [], α := El Y135, f := fun x => F62 x.1 x.2.1 x.2.2.1, unp := fun z => (((), (), (), ()), (z, ())) }
noncomputable def F62M : List (Nat × List Tr.Spec) := []
def F62H : Hint := (.seq .leaf (.seq .leaf (.seq (.seq .leaf (.lp ⟨[(7, (.rows Y3 false)), (8, (.pd Y3))], [], [0, 1, 2], []⟩ [((.exit 0), ⟨[(7, (.rows Y3 false))], [], [0, 1, 2], []⟩)] (.seq .leaf (.seq (.seq .leaf (.seq (.seq .leaf (.lp ⟨[(7, (.rows Y3 false)), (9, (.own Y3 false)), (10, (.pd Y3))], [], [0, 1, 2, 8], []⟩ [((.exit 2), ⟨[(7, (.rows Y3 false)), (9, (.own Y3 false))], [], [0, 1, 2, 8], []⟩)] .leaf)) .leaf)) .leaf)))) (.seq (.seq .leaf (.lp ⟨[(7, (.rows Y3 false)), (11, (.pd Y3))], [], [0, 1, 2], []⟩ [((.exit 4), ⟨[(7, (.rows Y3 false))], [], [1], []⟩)] (.seq .leaf (.seq (.seq .leaf (.seq (.reg [(50, Y4)]) .leaf)) .leaf)))) (.seq (.seq .leaf (.lp ⟨[(7, (.rows Y3 false)), (13, (.pd Y3))], [], [1], []⟩ [((.exit 6), ⟨[(7, (.rows Y3 false))], [], [], []⟩)] (.seq .leaf (.seq (.seq .leaf (.lp ⟨[(7, (.rows Y3 false)), (14, (.pd Y3))], [], [1, 13], []⟩ [((.exit 8), ⟨[(7, (.rows Y3 false))], [], [1, 13], []⟩)] (.seq .leaf (.seq (.seq .leaf (.lp ⟨[(7, (.rows Y3 false)), (15, (.pd Y3))], [], [1, 13, 14], []⟩ [((.exit 10), ⟨[(7, (.rows Y3 false))], [], [1, 13, 14], []⟩)] .leaf)) .leaf)))) .leaf)))) .leaf)))))
noncomputable def F62V (a0 : El Y26) (a1 : El Y3) (a2 : El Y4) : Option (El Y135) := evalF (mkE tyTab mapTab pkTab [135] [] F62M 116 bdTab) (codeOf Tryz.f87) Tryz.f87.results F62H F62A F62R (fun y => y.2.1) (a0, a1, a2, ())
theorem F62_eq (a0 : El Y26) (a1 : El Y3) (a2 : El Y4) : F62V a0 a1 a2 = F62 a0 a1 a2 := by kernel_rfl
theorem F62_ok : FnOK Tryz.prog 87 F62S := fnOK_of (m := F62M) (fn := Tryz.f87) (hint := F62H) (pack := fun y => y.2.1) hmix tab_ok trivial fun x z h => (F62_eq x.1 x.2.1 x.2.2.1).trans h
noncomputable def F56 : (El Y26) → (El Y3) → Option (El Y26) := fun a0 a1 =>
 Option.bind (F62 a0 a1 false) fun x0 =>
 Option.bind (F62 a0 a1 true) fun x1 =>
 Option.bind
 (Tr.run
 (fun s2 =>
 bif decide (s2.2 < a1) then
 Option.bind
 (Tr.run
 (fun s3 =>
 bif decide (s3.2 < a1) then
 Option.bind
 (bif decide (s2.2 = s3.2) then some true
 else Option.bind (idx x0 s2.2) fun x4 => Option.bind (idx x4 s3.2) fun x5 => some (decide ((14400 : Int) < x5)))
 fun x6 =>
 bif x6 then some (.inl (s3.1, IntKind.wrap .i64 (s3.2 + (1 : Int))))
 else
 Option.bind (idx x0 s2.2) fun x7 =>
 Option.bind (idx x7 s3.2) fun x8 =>
 Option.bind (idx x1 s2.2) fun x9 =>
 Option.bind (idx x9 s3.2) fun x10 =>
 Option.bind (idx x0 s2.2) fun x11 =>
 Option.bind (idx x11 s3.2) fun x12 =>
 Option.bind (guardB (decide (List.length s3.1 + List.length [(s2.2, s3.2, x8, decide (x10 = x12), ())] ≤ maxApp))) fun _ =>
 Option.bind
 (Option.bind (idx x1 s2.2) fun x14 =>
 Option.bind (idx x14 s3.2) fun x15 =>
 Option.bind (idx x0 s2.2) fun x16 =>
 Option.bind (idx x16 s3.2) fun x17 =>
 bif decide (x17 < x15) then
 Option.bind (idx x1 s2.2) fun x18 => Option.bind (idx x18 s3.2) fun x19 => some (decide (x19 ≤ (14400 : Int)))
 else some false)
 fun x20 =>
 bif x20 then
 Option.bind (idx x1 s2.2) fun x21 =>
 Option.bind (idx x21 s3.2) fun x22 =>
 Option.bind
 (guardB
 (decide
 (List.length (s3.1 ++ [(s2.2, s3.2, x8, decide (x10 = x12), ())]) + List.length [(s2.2, s3.2, x22, true, ())] ≤
 maxApp)))
 fun _ =>
 some
 (.inl
 (s3.1 ++ [(s2.2, s3.2, x8, decide (x10 = x12), ())] ++ [(s2.2, s3.2, x22, true, ())],
 IntKind.wrap .i64 (s3.2 + (1 : Int))))
 else some (.inl (s3.1 ++ [(s2.2, s3.2, x8, decide (x10 = x12), ())], IntKind.wrap .i64 (s3.2 + (1 : Int))))
 else some (.inr s3.1))
 (s2.1, (0 : Int)))
 fun x24 => some (.inl (x24, IntKind.wrap .i64 (s2.2 + (1 : Int))))
 else some (.inr s2.1))
 ([], (0 : Int)))
 fun x25 => some x25
abbrev F56A : Pats := (.cons (.pd Y26) (.cons (.pd Y3) .nil))
abbrev F56R : Pats := (.cons (.pd Y26) .nil)
noncomputable def F56S : Tr.Spec := { args := F56A, res := F56R, fns := [], α := El Y26, f := fun x => F56 x.1 x.2.1, unp := fun z => (((), (), ()), (z, ())) }
noncomputable def F56M : List (Nat × List Tr.Spec) := [(87, [F62S])]
def F56H : Hint := (.seq .leaf (.seq .leaf (.seq .leaf (.seq (.seq .leaf (.lp ⟨[(7, (.own Y64 false)), (8, (.pd Y3))], [], [1, 5, 6], []⟩ [((.exit 0), ⟨[(7, (.own Y64 false))], [], [], []⟩)] (.seq .leaf (.seq (.seq .leaf (.lp ⟨[(7, (.own Y64 false)), (9, (.pd Y3))], [], [1, 5, 6, 8], []⟩ [((.exit 2), ⟨[(7, (.own Y64 false))], [], [1, 5, 6, 8], []⟩)] (.seq .leaf (.seq (.seq (.seq (.reg [(39, Y4)]) .leaf) (.seq .leaf (.seq (.reg [(92, Y4)]) .leaf))) .leaf)))) .leaf)))) .leaf))))
noncomputable def F56V (a0 : El Y26) (a1 : El Y3) : Option (El Y26) := evalF (mkE tyTab mapTab pkTab [] [] F56M 107 bdTab) (codeOf Tryz.f73) Tryz.f73.results F56H F56A F56R (fun y => y.2.1) (a0, a1, ())
theorem F56_eq (a0 : El Y26) (a1 : El Y3) : F56V a0 a1 = F56 a0 a1 := by kernel_rfl
theorem F56_ok : FnOK Tryz.prog 73 F56S := fnOK_of (m := F56M) (fn := Tryz.f73) (hint := F56H) (pack := fun y => y.2.1) hmix tab_ok ⟨⟨F62_ok, trivial⟩, trivial⟩ fun x z h => (F56_eq x.1 x.2.1).trans h
end Q
