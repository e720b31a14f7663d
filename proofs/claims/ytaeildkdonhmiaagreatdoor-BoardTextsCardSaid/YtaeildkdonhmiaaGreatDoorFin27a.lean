/- The functions of the program as functions of Lean, and that the program computes them; printed by a program of mine. Conditions: none. -/
import Derived.Test.YtaeildkdonhmiaaGreatDoorTsE
import Derived.KernelRfl
import Derived.Test.YtaeildkdonhmiaaGreatDoorTtB
import Derived.Test.YtaeildkdonhmiaaGreatDoorLay27
import Derived.Test.YtaeildkdonhmiaaGreatDoorTtD
import Derived.Test.YtaeildkdonhmiaaGreatDoorProg
open Tr Go Go.Proofs
namespace Q
abbrev Y3 : Ty := .int .i64
abbrev Y4 : Ty := .bool
abbrev Y9 : Ty := .str
abbrev Y85 : Ty := .prod Y9 (.prod Y3 (.prod Y4 (.prod Y3 .unit)))
abbrev Y22 : Ty := .sl Y85
abbrev Y83 : Ty := .prod Y9 (.prod Y3 (.prod Y4 .unit))
abbrev Y23 : Ty := .sl Y83
abbrev Y56 : Ty := .prod Y3 (.prod Y3 (.prod Y3 (.prod Y4 (.prod Y4 .unit))))
abbrev Y52 : Ty := .sl Y56
abbrev Y54 : Ty := .prod Y3 (.prod Y3 (.prod Y3 (.prod Y9 (.prod Y3 (.prod Y4 (.prod Y4 (.prod Y52 .unit)))))))
abbrev Y24 : Ty := .sl Y54
abbrev Y121 : Ty := .prod Y3 (.prod Y3 (.prod Y3 (.prod Y3 (.prod Y4 .unit))))
abbrev Y25 : Ty := .sl Y121
abbrev Y124 : Ty := .prod Y3 (.prod Y3 (.prod Y3 (.prod Y4 .unit)))
abbrev Y26 : Ty := .sl Y124
abbrev Y127 : Ty := .prod Y9 (.prod Y3 (.prod Y3 (.prod Y3 (.prod Y3 (.prod Y3 .unit)))))
abbrev Y27 : Ty := .sl Y127
abbrev Y29 : Ty := .prod Y27 (.prod Y3 (.prod Y3 (.prod Y3 .unit)))
abbrev Y31 : Ty := .prod Y22 (.prod Y23 (.prod Y24 (.prod Y25 (.prod Y26 (.prod Y29 .unit)))))
abbrev Y33 : Ty := .prod Y3 (.prod Y3 .unit)
abbrev Y51 : Ty := .prod Y3 (.prod Y3 (.prod Y3 .unit))
abbrev Y36 : Ty := .sl Y51
abbrev Y37 : Ty := .int .i64
abbrev Y59 : Ty := .prod Y3 (.prod Y3 (.prod Y3 .unit))
abbrev Y90 : Ty := .sl Y3
abbrev Y106 : Ty := .prod Y3 (.prod Y3 (.prod Y37 .unit))
abbrev Y128 : Ty := .ref
abbrev Y129 : Ty := .sl Y106
abbrev Y133 : Ty := .prod Y9 (.prod Y3 (.prod Y3 .unit))
abbrev Y130 : Ty := .ref
abbrev Y134 : Ty := .ref
abbrev Y135 : Ty := .ref
abbrev Y138 : Ty := .arr 4 Y3
abbrev Y136 : Ty := .ref
abbrev Y140 : Ty := .ref
abbrev Y157 : Ty := .sl Y90
abbrev Y173 : Ty := .prod Y3 (.prod Y3 (.prod Y4 .unit))
abbrev Y171 : Ty := .ref
abbrev Y180 : Ty := .ref
abbrev Y183 : Ty := .prod Y3 (.prod Y3 (.prod Y3 .unit))
abbrev Y181 : Ty := .sl Y183
abbrev Y190 : Ty := .ref
abbrev Y201 : Ty := .prod Y3 (.prod Y3 (.prod Y3 .unit))
abbrev Y193 : Ty := .sl Y201
abbrev Y204 : Ty := .ref
abbrev Y214 : Ty := .prod Y201 (.prod Y3 .unit)
abbrev Y210 : Ty := .sl Y214
abbrev Y212 : Ty := .prod Y204 (.prod Y210 (.prod Y3 .unit))
def tyTab : List (Nat × Ty) := [(3, Y3), (4, Y4), (9, Y9), (85, Y85), (22, Y22), (83, Y83), (23, Y23), (56, Y56), (52, Y52), (54, Y54), (24, Y24), (121, Y121), (25, Y25), (124, Y124), (26, Y26), (127, Y127), (27, Y27), (29, Y29), (31, Y31), (33, Y33), (51, Y51), (36, Y36), (37, Y37), (59, Y59), (90, Y90), (106, Y106), (128, Y128), (129, Y129), (133, Y133), (130, Y130), (134, Y134), (135, Y135), (138, Y138), (136, Y136), (140, Y140), (157, Y157), (173, Y173), (171, Y171), (180, Y180), (183, Y183), (181, Y181), (190, Y190), (201, Y201), (193, Y193), (204, Y204), (214, Y214), (210, Y210), (212, Y212)]
def mapTab : List (Nat × Ty × Ty) := [(128, Y9, Y4), (130, Y133, Y4), (134, Y3, Y3), (135, Y3, Y4), (136, Y138, Y4), (140, Y124, Y4), (171, Y173, Y4), (180, Y173, Y3), (190, Y3, Y181)]
def pkTab : List (Nat × Nat) := [(202, 1), (204, 2)]
def bdTab : List (Nat × Nat) := [(76, 5)]
theorem hmix : Tryz.prog.follows .mixedOrders = true := by kernel_rfl
theorem tab_ok : tabOk Tryz.prog tyTab mapTab pkTab bdTab = true := by kernel_rfl
noncomputable def F47 : (El Y31) → Option (El Y4) := fun a0 =>
 Option.bind
 (bif decide ((20 : Int) < (↑(List.length a0.1) : Int)) then some true
 else
 bif decide ((20 : Int) < (↑(List.length a0.2.1) : Int)) then some true
 else
 bif decide ((20 : Int) < (↑(List.length a0.2.2.1) : Int)) then some true
 else
 bif decide ((20 : Int) < (↑(List.length a0.2.2.2.1) : Int)) then some true
 else
 bif decide ((200 : Int) < (↑(List.length a0.2.2.2.2.1) : Int)) then some true
 else some (decide ((20 : Int) < (↑(List.length a0.2.2.2.2.2.1.1) : Int))))
 fun x0 =>
 bif x0 then some false
 else
 Option.bind
 (Tr.run
 (fun s1 =>
 bif decide (s1 < (↑(List.length a0.2.2.1) : Int)) then
 Option.bind (idx a0.2.2.1 s1) fun x2 =>
 bif decide ((40 : Int) < (↑(List.length x2.2.2.2.2.2.2.2.1) : Int)) then some (.inr (.inr false))
 else some (.inl (IntKind.wrap .i64 (s1 + (1 : Int))))
 else some (.inr (.inl ())))
 (0 : Int))
 fun x3 => Sum.elim (fun _ => some true) (fun y5 => some y5) x3
abbrev F47A : Pats := (.cons (.pd Y31) .nil)
abbrev F47R : Pats := (.cons (.pd Y4) .nil)
noncomputable def F47S : Tr.Spec := { args := F47A, res := F47R, fns := [], α := El Y4, f := fun x => F47 x.1, unp := fun z => (((), ()), (z, ())) }
noncomputable def F47M : List (Nat × List Tr.Spec) := []
def F47H : Hint := (.seq .leaf (.seq (.seq (.reg [(38, Y4)]) .leaf) (.seq (.seq .leaf (.lp ⟨[(3, (.pd Y3))], [], [1], []⟩ [((.exit 0), ⟨[], [], [], []⟩), (.ret, ⟨[(2, (.pd Y4))], [], [], []⟩)] .leaf)) .leaf)))
noncomputable def F47V (a0 : El Y31) : Option (El Y4) := evalF (mkE tyTab mapTab pkTab [] [] F47M 54 bdTab) (codeOf Tryz.f10) Tryz.f10.results F47H F47A F47R (fun y => y.2.1) (a0, ())
theorem F47_eq (a0 : El Y31) : F47V a0 = F47 a0 := by kernel_rfl
theorem F47_ok : FnOK Tryz.prog 10 F47S := fnOK_of (m := F47M) (fn := Tryz.f10) (hint := F47H) (pack := fun y => y.2.1) hmix tab_ok trivial fun x z h => (F47_eq x.1).trans h
noncomputable def F32 : (El Y9) → Option (El Y4) := fun a0 =>
 Option.bind
 (Tr.run
 (fun s0 =>
 bif decide (s0 < (↑(List.length a0) : Int)) then
 Option.bind (idx a0 s0) fun x1 =>
 Option.bind (bif decide ((97 : Int) ≤ (↑(UInt8.toNat x1) : Int)) then some (decide ((↑(UInt8.toNat x1) : Int) ≤ (122 : Int))) else some false)
 fun x2 =>
 Option.bind
 (bif x2 then some x2
 else
 Option.bind (bif decide ((65 : Int) ≤ (↑(UInt8.toNat x1) : Int)) then some (decide ((↑(UInt8.toNat x1) : Int) ≤ (90 : Int))) else some false)
 fun x3 =>
 Option.bind
 (bif x3 then some x3
 else
 Option.bind
 (bif decide ((48 : Int) ≤ (↑(UInt8.toNat x1) : Int)) then some (decide ((↑(UInt8.toNat x1) : Int) ≤ (57 : Int))) else some false)
 fun x4 => some x4)
 fun x5 => some x5)
 fun x6 =>
 bif x6 then some (.inl (IntKind.wrap .i64 (s0 + (1 : Int))))
 else
 Option.bind
 (bif decide ((↑(UInt8.toNat x1) : Int) = (45 : Int)) then some (decide ((↑(UInt8.toNat x1) : Int) = (45 : Int)))
 else
 Option.bind
 (bif decide ((↑(UInt8.toNat x1) : Int) = (95 : Int)) then some (decide ((↑(UInt8.toNat x1) : Int) = (95 : Int)))
 else some (decide ((↑(UInt8.toNat x1) : Int) = (46 : Int))))
 fun x7 => some x7)
 fun x8 => bif x8 then some (.inl (IntKind.wrap .i64 (s0 + (1 : Int)))) else some (.inr (.inr false))
 else some (.inr (.inl ())))
 (0 : Int))
 fun x9 =>
 Sum.elim
 (fun _ =>
 Option.bind (bif decide ((0 : Int) < (↑(List.length a0) : Int)) then some (decide ((↑(List.length a0) : Int) ≤ (32 : Int))) else some false) fun x11 =>
 some x11)
 (fun y12 => some y12) x9
abbrev F32A : Pats := (.cons (.pd Y9) .nil)
abbrev F32R : Pats := (.cons (.pd Y4) .nil)
noncomputable def F32S : Tr.Spec := { args := F32A, res := F32R, fns := [], α := El Y4, f := fun x => F32 x.1, unp := fun z => (((), ()), (z, ())) }
noncomputable def F32M : List (Nat × List Tr.Spec) := []
def F32H : Hint := (.seq .leaf (.seq (.seq .leaf (.lp ⟨[(3, (.pd Y3))], [], [0], []⟩ [((.exit 0), ⟨[], [], [0], []⟩), (.ret, ⟨[(2, (.pd Y4))], [], [], []⟩)] (.seq .leaf (.seq (.seq .leaf (.seq (.seq (.reg [(14, Y4)]) (.cnd (some (⟨[], [], [0, 3, 4], []⟩, [(.normal, ⟨[(14, (.pd Y4))], [], [0, 3, 4], []⟩)])) .leaf (.seq (.reg [(14, Y4)]) (.cnd (some (⟨[], [], [0, 3, 4], []⟩, [(.normal, ⟨[(14, (.pd Y4))], [], [0, 3, 4], []⟩)])) .leaf (.reg [(14, Y4)]))))) (.cnd none .leaf (.seq (.seq .leaf (.cnd (some (⟨[], [], [0, 3], []⟩, [(.normal, ⟨[(33, (.pd Y4))], [], [0, 3], []⟩)])) .leaf (.seq .leaf (.cnd (some (⟨[], [], [0, 3], []⟩, [(.normal, ⟨[(33, (.pd Y4))], [], [0, 3], []⟩)])) .leaf .leaf)))) .leaf)))) .leaf)))) (.seq (.reg [(2, Y4)]) .leaf)))
noncomputable def F32V (a0 : El Y9) : Option (El Y4) := evalF (mkE tyTab mapTab pkTab [] [] F32M 48 bdTab) (codeOf Tryz.f79) Tryz.f79.results F32H F32A F32R (fun y => y.2.1) (a0, ())
theorem F32_eq (a0 : El Y9) : F32V a0 = F32 a0 := by kernel_rfl
theorem F32_ok : FnOK Tryz.prog 79 F32S := fnOK_of (m := F32M) (fn := Tryz.f79) (hint := F32H) (pack := fun y => y.2.1) hmix tab_ok trivial fun x z h => (F32_eq x.1).trans h
noncomputable def F98 : (El Y22) → Option (El Y3 × El Y37) := fun a0 =>
 bif decide ((64 : Int) < (↑(List.length a0) : Int)) then some ((0 : Int), (5 : Int))
 else
 Option.bind
 (Tr.run
 (fun s0 =>
 bif decide (s0.2 < (↑(List.length a0) : Int)) then
 Option.bind (idx a0 s0.2) fun x1 =>
 Option.bind (F32 x1.1) fun x2 =>
 bif !x2 then some (.inr (.inr (s0.2, (12 : Int))))
 else
 bif Option.getD (Tr.amGet (Tr.keyEq Y9) x1.1 s0.1) (false) then some (.inr (.inr (s0.2, (6 : Int))))
 else
 Option.bind
 (bif decide (x1.2.1 < (0 : Int)) then some true
 else
 bif decide ((16 : Int) ≤ x1.2.1) then some true
 else bif decide (x1.2.2.2.1 < (0 : Int)) then some true else some (decide ((3600 : Int) < x1.2.2.2.1)))
 fun x3 =>
 bif x3 then some (.inr (.inr (s0.2, (2 : Int))))
 else some (.inl (Tr.amSet (Tr.keyEq Y9) x1.1 true s0.1, IntKind.wrap .i64 (s0.2 + (1 : Int))))
 else some (.inr (.inl ())))
 ([], (0 : Int)))
 fun x4 => Sum.elim (fun _ => some ((0 : Int), (0 : Int))) (fun y6 => some (y6.1, y6.2)) x4
abbrev F98A : Pats := (.cons (.pd Y22) .nil)
abbrev F98R : Pats := (.cons (.pd Y3) (.cons (.pd Y37) .nil))
noncomputable def F98S : Tr.Spec := { args := F98A, res := F98R, fns := [], α := El Y3 × El Y37, f := fun x => F98 x.1, unp := fun z => (((), ()), (z.1, z.2, ())) }
noncomputable def F98M : List (Nat × List Tr.Spec) := [(79, [F32S])]
def F98H : Hint := (.seq .leaf (.seq .leaf (.seq .leaf (.seq (.seq .leaf (.lp ⟨[(4, (.map Y9 Y4)), (13, (.pd Y3))], [], [11, 12], []⟩ [((.exit 0), ⟨[], [], [], []⟩), (.ret, ⟨[(2, (.pd Y3)), (3, (.pd Y37))], [], [], []⟩)] (.seq .leaf (.seq .leaf (.seq (.seq .leaf (.seq (.seq .leaf (.cnd none .leaf (.seq .leaf (.cnd none .leaf (.seq (.reg [(30, Y4)]) .leaf))))) .leaf)) .leaf))))) .leaf))))
noncomputable def F98V (a0 : El Y22) : Option (El Y3 × El Y37) := evalF (mkE tyTab mapTab pkTab [] [] F98M 54 bdTab) (codeOf Tryz.f61) Tryz.f61.results F98H F98A F98R (fun y => (y.2.1, y.2.2.1)) (a0, ())
theorem F98_eq (a0 : El Y22) : F98V a0 = F98 a0 := by kernel_rfl
theorem F98_ok : FnOK Tryz.prog 61 F98S := fnOK_of (m := F98M) (fn := Tryz.f61) (hint := F98H) (pack := fun y => (y.2.1, y.2.2.1)) hmix tab_ok ⟨⟨F32_ok, trivial⟩, trivial⟩ fun x z h => (F98_eq x.1).trans h
noncomputable def F86 : (El Y3) → Option (El Y4) := fun a0 => Option.bind (bif decide ((0 : Int) ≤ a0) then some (decide (a0 < (8 : Int))) else some false) fun x0 => some x0
abbrev F86A : Pats := (.cons (.pd Y3) .nil)
abbrev F86R : Pats := (.cons (.pd Y4) .nil)
noncomputable def F86S : Tr.Spec := { args := F86A, res := F86R, fns := [], α := El Y4, f := fun x => F86 x.1, unp := fun z => (((), ()), (z, ())) }
noncomputable def F86M : List (Nat × List Tr.Spec) := []
def F86H : Hint := (.seq .leaf (.seq (.reg [(2, Y4)]) .leaf))
noncomputable def F86V (a0 : El Y3) : Option (El Y4) := evalF (mkE tyTab mapTab pkTab [] [] F86M 9 bdTab) (codeOf Tryz.f80) Tryz.f80.results F86H F86A F86R (fun y => y.2.1) (a0, ())
theorem F86_eq (a0 : El Y3) : F86V a0 = F86 a0 := by kernel_rfl
theorem F86_ok : FnOK Tryz.prog 80 F86S := fnOK_of (m := F86M) (fn := Tryz.f80) (hint := F86H) (pack := fun y => y.2.1) hmix tab_ok trivial fun x z h => (F86_eq x.1).trans h
noncomputable def F85 : (El Y23) → Option (El Y3 × El Y37) := fun a0 =>
 bif decide ((64 : Int) < (↑(List.length a0) : Int)) then some ((0 : Int), (5 : Int))
 else
 Option.bind
 (Tr.run
 (fun s0 =>
 bif decide (s0.2 < (↑(List.length a0) : Int)) then
 Option.bind (idx a0 s0.2) fun x1 =>
 Option.bind (F32 x1.1) fun x2 =>
 bif !x2 then some (.inr (.inr (s0.2, (12 : Int))))
 else
 bif Option.getD (Tr.amGet (Tr.keyEq Y9) x1.1 s0.1) (false) then some (.inr (.inr (s0.2, (6 : Int))))
 else
 Option.bind (F86 x1.2.1) fun x3 =>
 bif !x3 then some (.inr (.inr (s0.2, (2 : Int))))
 else some (.inl (Tr.amSet (Tr.keyEq Y9) x1.1 true s0.1, IntKind.wrap .i64 (s0.2 + (1 : Int))))
 else some (.inr (.inl ())))
 ([], (0 : Int)))
 fun x4 => Sum.elim (fun _ => some ((0 : Int), (0 : Int))) (fun y6 => some (y6.1, y6.2)) x4
abbrev F85A : Pats := (.cons (.pd Y23) .nil)
abbrev F85R : Pats := (.cons (.pd Y3) (.cons (.pd Y37) .nil))
noncomputable def F85S : Tr.Spec := { args := F85A, res := F85R, fns := [], α := El Y3 × El Y37, f := fun x => F85 x.1, unp := fun z => (((), ()), (z.1, z.2, ())) }
noncomputable def F85M : List (Nat × List Tr.Spec) := [(79, [F32S]), (80, [F86S])]
def F85H : Hint := (.seq .leaf (.seq .leaf (.seq .leaf (.seq (.seq .leaf (.lp ⟨[(4, (.map Y9 Y4)), (13, (.pd Y3))], [], [11, 12], []⟩ [((.exit 0), ⟨[], [], [], []⟩), (.ret, ⟨[(2, (.pd Y3)), (3, (.pd Y37))], [], [], []⟩)] .leaf)) .leaf))))
noncomputable def F85V (a0 : El Y23) : Option (El Y3 × El Y37) := evalF (mkE tyTab mapTab pkTab [] [] F85M 37 bdTab) (codeOf Tryz.f62) Tryz.f62.results F85H F85A F85R (fun y => (y.2.1, y.2.2.1)) (a0, ())
theorem F85_eq (a0 : El Y23) : F85V a0 = F85 a0 := by kernel_rfl
theorem F85_ok : FnOK Tryz.prog 62 F85S := fnOK_of (m := F85M) (fn := Tryz.f62) (hint := F85H) (pack := fun y => (y.2.1, y.2.2.1)) hmix tab_ok ⟨⟨F32_ok, trivial⟩, ⟨F86_ok, trivial⟩, trivial⟩ fun x z h => (F85_eq x.1).trans h
noncomputable def F52 : (El Y129) → Option (El Y106) := fun a0 =>
 Option.bind
 (Tr.run
 (fun s0 =>
 bif decide (s0.2 < (↑(List.length a0) : Int)) then
 Option.bind (idx a0 s0.2) fun x1 =>
 bif !decide (x1.2.2.1 = (0 : Int)) then some (.inr (.inr x1)) else some (.inl (s0.1, IntKind.wrap .i64 (s0.2 + (1 : Int))))
 else some (.inr (.inl s0.1)))
 (((0 : Int), (0 : Int), (0 : Int), ()), (0 : Int)))
 fun x2 => Sum.elim (fun _ => some ((0 : Int), (0 : Int), (0 : Int), ())) (fun y4 => some y4) x2
abbrev F52A : Pats := (.cons (.pd Y129) .nil)
abbrev F52R : Pats := (.cons (.pd Y106) .nil)
noncomputable def F52S : Tr.Spec := { args := F52A, res := F52R, fns := [], α := El Y106, f := fun x => F52 x.1, unp := fun z => (((), ()), (z, ())) }
noncomputable def F52M : List (Nat × List Tr.Spec) := []
def F52H : Hint := (.seq .leaf (.seq (.seq .leaf (.lp ⟨[(2, (.var Y106 (.pd Y106))), (7, (.pd Y3))], [], [5, 6], []⟩ [((.exit 0), ⟨[(2, (.var Y106 (.pd Y106)))], [], [], []⟩), (.ret, ⟨[(2, (.var Y106 (.pd Y106)))], [], [], []⟩)] .leaf)) .leaf))
noncomputable def F52V (a0 : El Y129) : Option (El Y106) := evalF (mkE tyTab mapTab pkTab [] [] F52M 17 bdTab) (codeOf Tryz.f63) Tryz.f63.results F52H F52A F52R (fun y => y.2.1) (a0, ())
theorem F52_eq (a0 : El Y129) : F52V a0 = F52 a0 := by kernel_rfl
theorem F52_ok : FnOK Tryz.prog 63 F52S := fnOK_of (m := F52M) (fn := Tryz.f63) (hint := F52H) (pack := fun y => y.2.1) hmix tab_ok trivial fun x z h => (F52_eq x.1).trans h
noncomputable def F54 : (El Y3) → (El Y3) → (El Y37) → Option (El Y106) := fun a0 a1 a2 => some (a0, a1, a2, ())
abbrev F54A : Pats := (.cons (.pd Y3) (.cons (.pd Y3) (.cons (.pd Y37) .nil)))
abbrev F54R : Pats := (.cons (.pd Y106) .nil)
noncomputable def F54S : Tr.Spec := { args := F54A, res := F54R, fns := [], α := El Y106, f := fun x => F54 x.1 x.2.1 x.2.2.1, unp := fun z => (((), (), (), ()), (z, ())) }
noncomputable def F54M : List (Nat × List Tr.Spec) := []
def F54H : Hint := .leaf
noncomputable def F54V (a0 : El Y3) (a1 : El Y3) (a2 : El Y37) : Option (El Y106) := evalF (mkE tyTab mapTab pkTab [] [] F54M 11 bdTab) (codeOf Tryz.f64) Tryz.f64.results F54H F54A F54R (fun y => y.2.1) (a0, a1, a2, ())
theorem F54_eq (a0 : El Y3) (a1 : El Y3) (a2 : El Y37) : F54V a0 a1 a2 = F54 a0 a1 a2 := by kernel_rfl
theorem F54_ok : FnOK Tryz.prog 64 F54S := fnOK_of (m := F54M) (fn := Tryz.f64) (hint := F54H) (pack := fun y => y.2.1) hmix tab_ok trivial fun x z h => (F54_eq x.1 x.2.1 x.2.2.1).trans h
noncomputable def F14 : (El Y52) → (El Y3) → (El Y3) → (El Y3) → (El Y3) → Option (El Y37) := fun a0 a1 a2 a3 a4 =>
 Option.bind (idx a0 a1) fun x0 =>
 Option.bind (bif decide (x0.1 < (0 : Int)) then some true else some (decide (a2 ≤ x0.1))) fun x1 =>
 bif x1 then some (9 : Int)
 else
 Option.bind
 (bif decide ((0 : Int) < a1) then Option.bind (idx a0 (IntKind.wrap .i64 (a1 - (1 : Int)))) fun x2 => some (decide (x2.1 = x0.1))
 else some false)
 fun x3 =>
 bif x3 then some (13 : Int)
 else
 Option.bind
 (bif decide (x0.2.1 < a3) then some true
 else
 bif decide (x0.2.2.1 < x0.2.1) then some true
 else
 bif decide (a4 < x0.2.2.1) then some true
 else
 bif decide ((0 : Int) < a1) then
 Option.bind (idx a0 (IntKind.wrap .i64 (a1 - (1 : Int)))) fun x4 => some (decide (x0.2.1 < x4.2.2.1))
 else some false)
 fun x5 => bif x5 then some (10 : Int) else some (0 : Int)
abbrev F14A : Pats := (.cons (.pd Y52) (.cons (.pd Y3) (.cons (.pd Y3) (.cons (.pd Y3) (.cons (.pd Y3) .nil)))))
abbrev F14R : Pats := (.cons (.pd Y37) .nil)
noncomputable def F14S : Tr.Spec := { args := F14A, res := F14R, fns := [], α := El Y37, f := fun x => F14 x.1 x.2.1 x.2.2.1 x.2.2.2.1 x.2.2.2.2.1, unp := fun z => (((), (), (), (), (), ()), (z, ())) }
noncomputable def F14M : List (Nat × List Tr.Spec) := []
def F14H : Hint := (.seq .leaf (.seq .leaf (.seq (.seq (.reg [(24, Y4)]) .leaf) (.seq (.seq (.reg [(37, Y4)]) .leaf) (.seq (.seq (.reg [(69, Y4)]) .leaf) .leaf)))))
noncomputable def F14V (a0 : El Y52) (a1 : El Y3) (a2 : El Y3) (a3 : El Y3) (a4 : El Y3) : Option (El Y37) := evalF (mkE tyTab mapTab pkTab [] [] F14M 70 bdTab) (codeOf Tryz.f101) Tryz.f101.results F14H F14A F14R (fun y => y.2.1) (a0, a1, a2, a3, a4, ())
theorem F14_eq (a0 : El Y52) (a1 : El Y3) (a2 : El Y3) (a3 : El Y3) (a4 : El Y3) : F14V a0 a1 a2 a3 a4 = F14 a0 a1 a2 a3 a4 := by kernel_rfl
theorem F14_ok : FnOK Tryz.prog 101 F14S := fnOK_of (m := F14M) (fn := Tryz.f101) (hint := F14H) (pack := fun y => y.2.1) hmix tab_ok trivial fun x z h => (F14_eq x.1 x.2.1 x.2.2.1 x.2.2.2.1 x.2.2.2.2.1).trans h
noncomputable def F13 : (El Y52) → (El Y3) → (El Y3) → (El Y3) → Option (El Y3 × El Y37) := fun a0 a1 a2 a3 =>
 Option.bind (bif decide ((↑(List.length a0) : Int) < (2 : Int)) then some true else some (decide ((32 : Int) < (↑(List.length a0) : Int)))) fun x0 =>
 bif x0 then some ((0 : Int), (5 : Int))
 else
 Option.bind
 (Tr.run
 (fun s1 =>
 bif decide (s1 < (↑(List.length a0) : Int)) then
 Option.bind (F14 a0 s1 a1 a2 a3) fun x2 =>
 bif !decide (x2 = (0 : Int)) then some (.inr (.inr (s1, x2))) else some (.inl (IntKind.wrap .i64 (s1 + (1 : Int))))
 else some (.inr (.inl ())))
 (0 : Int))
 fun x3 => Sum.elim (fun _ => some ((0 : Int), (0 : Int))) (fun y5 => some (y5.1, y5.2)) x3
abbrev F13A : Pats := (.cons (.pd Y52) (.cons (.pd Y3) (.cons (.pd Y3) (.cons (.pd Y3) .nil))))
abbrev F13R : Pats := (.cons (.pd Y3) (.cons (.pd Y37) .nil))
noncomputable def F13S : Tr.Spec := { args := F13A, res := F13R, fns := [], α := El Y3 × El Y37, f := fun x => F13 x.1 x.2.1 x.2.2.1 x.2.2.2.1, unp := fun z => (((), (), (), (), ()), (z.1, z.2, ())) }
noncomputable def F13M : List (Nat × List Tr.Spec) := [(101, [F14S])]
def F13H : Hint := (.seq .leaf (.seq (.seq (.reg [(19, Y4)]) .leaf) (.seq (.seq .leaf (.lp ⟨[(22, (.pd Y3))], [], [0, 1, 2, 3, 21], []⟩ [((.exit 0), ⟨[], [], [], []⟩), (.ret, ⟨[(8, (.pd Y3)), (9, (.pd Y37))], [], [], []⟩)] .leaf)) .leaf)))
noncomputable def F13V (a0 : El Y52) (a1 : El Y3) (a2 : El Y3) (a3 : El Y3) : Option (El Y3 × El Y37) := evalF (mkE tyTab mapTab pkTab [] [] F13M 36 bdTab) (codeOf Tryz.f81) Tryz.f81.results F13H F13A F13R (fun y => (y.2.1, y.2.2.1)) (a0, a1, a2, a3, ())
theorem F13_eq (a0 : El Y52) (a1 : El Y3) (a2 : El Y3) (a3 : El Y3) : F13V a0 a1 a2 a3 = F13 a0 a1 a2 a3 := by kernel_rfl
theorem F13_ok : FnOK Tryz.prog 81 F13S := fnOK_of (m := F13M) (fn := Tryz.f81) (hint := F13H) (pack := fun y => (y.2.1, y.2.2.1)) hmix tab_ok ⟨⟨F14_ok, trivial⟩, trivial⟩ fun x z h => (F13_eq x.1 x.2.1 x.2.2.1 x.2.2.2.1).trans h
noncomputable def F51 : (El Y31) → Option (El Y106) := fun a0 =>
 bif decide ((1024 : Int) < (↑(List.length a0.2.2.1) : Int)) then Option.bind (F54 (2 : Int) (0 : Int) (5 : Int)) fun x0 => some x0
 else
 Option.bind
 (Tr.run
 (fun s1 =>
 bif decide (s1.2.2 < (↑(List.length a0.2.2.1) : Int)) then
 Option.bind (idx a0.2.2.1 s1.2.2) fun x2 =>
 Option.bind (F32 x2.2.2.2.1) fun x3 =>
 bif !x3 then Option.bind (F54 (2 : Int) s1.2.2 (12 : Int)) fun x4 => some (.inr (.inr x4))
 else
 Option.bind (bif decide (x2.1 < (-1 : Int)) then some true else some (decide (x2.2.2.1 < (0 : Int)))) fun x5 =>
 bif x5 then Option.bind (F54 (2 : Int) s1.2.2 (2 : Int)) fun x6 => some (.inr (.inr x6))
 else
 Option.bind (bif decide (x2.2.1 < (0 : Int)) then some true else some (decide ((36524 : Int) < x2.2.1))) fun x7 =>
 bif x7 then Option.bind (F54 (2 : Int) s1.2.2 (11 : Int)) fun x8 => some (.inr (.inr x8))
 else
 Option.bind
 (bif decide (x2.2.2.2.2.1 < (0 : Int)) then some true
 else some (decide ((↑(List.length a0.2.1) : Int) ≤ x2.2.2.2.2.1)))
 fun x9 =>
 bif x9 then Option.bind (F54 (2 : Int) s1.2.2 (9 : Int)) fun x10 => some (.inr (.inr x10))
 else
 Option.bind (F13 x2.2.2.2.2.2.2.2.1 (↑(List.length a0.1) : Int) (0 : Int) (3155932800 : Int)) fun x11 =>
 bif !decide (x11.2 = (0 : Int)) then Option.bind (F54 (2 : Int) s1.2.2 x11.2) fun x12 => some (.inr (.inr x12))
 else
 bif Option.getD (Tr.amGet (Tr.keyEq Y133) (x2.2.2.2.1, x2.2.1, x2.2.2.1, ()) s1.2.1) (false) then
 Option.bind (F54 (2 : Int) s1.2.2 (6 : Int)) fun x13 => some (.inr (.inr x13))
 else
 some
 (.inl
 (s1.1, Tr.amSet (Tr.keyEq Y133) (x2.2.2.2.1, x2.2.1, x2.2.2.1, ()) true s1.2.1,
 IntKind.wrap .i64 (s1.2.2 + (1 : Int))))
 else some (.inr (.inl s1.1)))
 (((0 : Int), (0 : Int), (0 : Int), ()), [], (0 : Int)))
 fun x14 => Sum.elim (fun _ => some ((0 : Int), (0 : Int), (0 : Int), ())) (fun y16 => some y16) x14
abbrev F51A : Pats := (.cons (.pd Y31) .nil)
abbrev F51R : Pats := (.cons (.pd Y106) .nil)
noncomputable def F51S : Tr.Spec := { args := F51A, res := F51R, fns := [], α := El Y106, f := fun x => F51 x.1, unp := fun z => (((), ()), (z, ())) }
noncomputable def F51M : List (Nat × List Tr.Spec) := [(64, [F54S]), (79, [F32S]), (81, [F13S])]
def F51H : Hint := (.seq .leaf (.seq .leaf (.seq .leaf (.seq (.seq .leaf (.lp ⟨[(2, (.var Y106 (.pd Y106))), (3, (.map Y133 Y4)), (18, (.pd Y3))], [], [1, 16, 17], []⟩ [((.exit 0), ⟨[(2, (.var Y106 (.pd Y106)))], [], [], []⟩), (.ret, ⟨[(2, (.var Y106 (.pd Y106)))], [], [], []⟩)] (.seq .leaf (.seq .leaf (.seq (.seq .leaf (.seq (.seq .leaf (.cnd none .leaf (.seq (.reg [(30, Y4)]) (.cnd none .leaf (.seq (.reg [(41, Y4)]) (.cnd none .leaf (.seq (.reg [(52, Y4)]) .leaf))))))) .leaf)) .leaf))))) .leaf))))
noncomputable def F51V (a0 : El Y31) : Option (El Y106) := evalF (mkE tyTab mapTab pkTab [] [] F51M 96 bdTab) (codeOf Tryz.f65) Tryz.f65.results F51H F51A F51R (fun y => y.2.1) (a0, ())
theorem F51_eq (a0 : El Y31) : F51V a0 = F51 a0 := by kernel_rfl
theorem F51_ok : FnOK Tryz.prog 65 F51S := fnOK_of (m := F51M) (fn := Tryz.f65) (hint := F51H) (pack := fun y => y.2.1) hmix tab_ok ⟨⟨F54_ok, trivial⟩, ⟨F32_ok, trivial⟩, ⟨F13_ok, trivial⟩, trivial⟩ fun x z h => (F51_eq x.1).trans h
noncomputable def F55 : (El Y3) → (El Y3) → Option (El Y4) := fun a0 a1 => Option.bind (bif decide ((0 : Int) ≤ a0) then some (decide (a0 < a1)) else some false) fun x0 => some x0
abbrev F55A : Pats := (.cons (.pd Y3) (.cons (.pd Y3) .nil))
abbrev F55R : Pats := (.cons (.pd Y4) .nil)
noncomputable def F55S : Tr.Spec := { args := F55A, res := F55R, fns := [], α := El Y4, f := fun x => F55 x.1 x.2.1, unp := fun z => (((), (), ()), (z, ())) }
noncomputable def F55M : List (Nat × List Tr.Spec) := []
def F55H : Hint := (.seq .leaf (.seq (.reg [(4, Y4)]) .leaf))
noncomputable def F55V (a0 : El Y3) (a1 : El Y3) : Option (El Y4) := evalF (mkE tyTab mapTab pkTab [] [] F55M 12 bdTab) (codeOf Tryz.f82) Tryz.f82.results F55H F55A F55R (fun y => y.2.1) (a0, a1, ())
theorem F55_eq (a0 : El Y3) (a1 : El Y3) : F55V a0 a1 = F55 a0 a1 := by kernel_rfl
theorem F55_ok : FnOK Tryz.prog 82 F55S := fnOK_of (m := F55M) (fn := Tryz.f82) (hint := F55H) (pack := fun y => y.2.1) hmix tab_ok trivial fun x z h => (F55_eq x.1 x.2.1).trans h
noncomputable def F53 : (List (El Y3 × El Y3)) → (El Y3) → (El Y3) → Option (List (El Y3 × El Y3) × El Y4) := fun a0 a1 a2 =>
 Option.bind
 (Tr.run
 (fun s0 =>
 bif s0.2 then
 bif decide (s0.1 = a2) then some (.inr (.inr true))
 else some (.inl (Option.getD (Tr.amGet (Tr.keyEq Y3) s0.1 a0) ((0 : Int)), Option.isSome (Tr.amGet (Tr.keyEq Y3) s0.1 a0)))
 else some (.inr (.inl ())))
 (Option.getD (Tr.amGet (Tr.keyEq Y3) a1 a0) ((0 : Int)), Option.isSome (Tr.amGet (Tr.keyEq Y3) a1 a0)))
 fun x1 => Sum.elim (fun _ => some (a0, false)) (fun y3 => some (a0, y3)) x1
abbrev F53A : Pats := (.cons (.map Y3 Y3) (.cons (.pd Y3) (.cons (.pd Y3) .nil)))
abbrev F53R : Pats := (.cons (.pd Y4) .nil)
noncomputable def F53S : Tr.Spec := { args := F53A, res := F53R, fns := [], α := List (El Y3 × El Y3) × El Y4, f := fun x => F53 x.1 x.2.1 x.2.2.1, unp := fun z => ((z.1, (), (), ()), (z.2, ())) }
noncomputable def F53M : List (Nat × List Tr.Spec) := []
def F53H : Hint := (.seq .leaf (.seq (.seq .leaf (.lp ⟨[(7, (.pd Y3)), (8, (.pd Y4))], [], [0, 2], []⟩ [((.exit 0), ⟨[], [], [0], []⟩), (.ret, ⟨[(6, (.pd Y4))], [], [0], []⟩)] .leaf)) .leaf))
noncomputable def F53V (a0 : List (El Y3 × El Y3)) (a1 : El Y3) (a2 : El Y3) : Option (List (El Y3 × El Y3) × El Y4) := evalF (mkE tyTab mapTab pkTab [] [] F53M 25 bdTab) (codeOf Tryz.f83) Tryz.f83.results F53H F53A F53R (fun y => (y.1.1, y.2.1)) (a0, a1, a2, ())
theorem F53_eq (a0 : List (El Y3 × El Y3)) (a1 : El Y3) (a2 : El Y3) : F53V a0 a1 a2 = F53 a0 a1 a2 := by kernel_rfl
theorem F53_ok : FnOK Tryz.prog 83 F53S := fnOK_of (m := F53M) (fn := Tryz.f83) (hint := F53H) (pack := fun y => (y.1.1, y.2.1)) hmix tab_ok trivial fun x z h => (F53_eq x.1 x.2.1 x.2.2.1).trans h
noncomputable def F49 : (El Y31) → Option (El Y106) := fun a0 =>
 bif decide ((1024 : Int) < (↑(List.length a0.2.2.2.1) : Int)) then Option.bind (F54 (3 : Int) (0 : Int) (5 : Int)) fun x0 => some x0
 else
 Option.bind
 (Tr.run
 (fun s1 =>
 bif decide (s1.2.2.2.2 < (↑(List.length a0.2.2.2.1) : Int)) then
 Option.bind (idx a0.2.2.2.1 s1.2.2.2.2) fun x2 =>
 Option.bind
 (Option.bind (F55 x2.1 (↑(List.length a0.2.2.1) : Int)) fun x3 =>
 bif !x3 then some true
 else
 Option.bind (F55 x2.2.2.1 (↑(List.length a0.2.2.1) : Int)) fun x4 =>
 bif !x4 then some true else some (decide (x2.1 = x2.2.2.1)))
 fun x5 =>
 bif x5 then Option.bind (F54 (3 : Int) s1.2.2.2.2 (9 : Int)) fun x6 => some (.inr (.inr x6))
 else
 Option.bind (idx a0.2.2.1 x2.1) fun x7 =>
 Option.bind (idx a0.2.2.1 x2.2.2.1) fun x8 =>
 Option.bind
 (Option.bind (F55 x2.2.1 (↑(List.length x7.2.2.2.2.2.2.2.1) : Int)) fun x9 =>
 bif !x9 then some true
 else Option.bind (F55 x2.2.2.2.1 (↑(List.length x8.2.2.2.2.2.2.2.1) : Int)) fun x10 => some !x10)
 fun x11 =>
 bif x11 then Option.bind (F54 (3 : Int) s1.2.2.2.2 (9 : Int)) fun x12 => some (.inr (.inr x12))
 else
 Option.bind (idx x7.2.2.2.2.2.2.2.1 x2.2.1) fun x13 =>
 Option.bind (idx x8.2.2.2.2.2.2.2.1 x2.2.2.2.1) fun x14 =>
 bif !decide (x13.1 = x14.1) then Option.bind (F54 (3 : Int) s1.2.2.2.2 (13 : Int)) fun x15 => some (.inr (.inr x15))
 else
 bif x2.2.2.2.2.1 then
 bif !decide (IntKind.wrap .i64 (x2.2.1 + (1 : Int)) = (↑(List.length x7.2.2.2.2.2.2.2.1) : Int)) then
 Option.bind (F54 (3 : Int) s1.2.2.2.2 (19 : Int)) fun x16 => some (.inr (.inr x16))
 else
 bif !decide (x2.2.2.2.1 = (0 : Int)) then
 Option.bind (F54 (3 : Int) s1.2.2.2.2 (19 : Int)) fun x17 => some (.inr (.inr x17))
 else
 bif Option.isSome (Tr.amGet (Tr.keyEq Y3) x2.1 s1.2.1) then
 Option.bind (F54 (3 : Int) s1.2.2.2.2 (19 : Int)) fun x18 => some (.inr (.inr x18))
 else
 bif Option.getD (Tr.amGet (Tr.keyEq Y3) x2.2.2.1 s1.2.2.1) (false) then
 Option.bind (F54 (3 : Int) s1.2.2.2.2 (19 : Int)) fun x19 => some (.inr (.inr x19))
 else
 Option.bind (F53 s1.2.1 x2.2.2.1 x2.1) fun x20 =>
 bif x20.2 then Option.bind (F54 (3 : Int) s1.2.2.2.2 (19 : Int)) fun x21 => some (.inr (.inr x21))
 else
 bif Option.getD (Tr.amGet (Tr.keyEq Y138) [x2.1, x2.2.1, x2.2.2.1, x2.2.2.2.1] s1.2.2.2.1) (false) then
 Option.bind (F54 (3 : Int) s1.2.2.2.2 (6 : Int)) fun x22 => some (.inr (.inr x22))
 else
 bif x2.2.2.2.2.1 then
 some
 (.inl
 (s1.1, Tr.amSet (Tr.keyEq Y3) x2.1 x2.2.2.1 x20.1, Tr.amSet (Tr.keyEq Y3) x2.2.2.1 true s1.2.2.1,
 Tr.amSet (Tr.keyEq Y138) [x2.1, x2.2.1, x2.2.2.1, x2.2.2.2.1] true s1.2.2.2.1,
 IntKind.wrap .i64 (s1.2.2.2.2 + (1 : Int))))
 else
 some
 (.inl
 (s1.1, x20.1, s1.2.2.1, Tr.amSet (Tr.keyEq Y138) [x2.1, x2.2.1, x2.2.2.1, x2.2.2.2.1] true s1.2.2.2.1,
 IntKind.wrap .i64 (s1.2.2.2.2 + (1 : Int))))
 else
 bif Option.getD (Tr.amGet (Tr.keyEq Y138) [x2.1, x2.2.1, x2.2.2.1, x2.2.2.2.1] s1.2.2.2.1) (false) then
 Option.bind (F54 (3 : Int) s1.2.2.2.2 (6 : Int)) fun x23 => some (.inr (.inr x23))
 else
 bif x2.2.2.2.2.1 then
 some
 (.inl
 (s1.1, Tr.amSet (Tr.keyEq Y3) x2.1 x2.2.2.1 s1.2.1, Tr.amSet (Tr.keyEq Y3) x2.2.2.1 true s1.2.2.1,
 Tr.amSet (Tr.keyEq Y138) [x2.1, x2.2.1, x2.2.2.1, x2.2.2.2.1] true s1.2.2.2.1,
 IntKind.wrap .i64 (s1.2.2.2.2 + (1 : Int))))
 else
 some
 (.inl
 (s1.1, s1.2.1, s1.2.2.1, Tr.amSet (Tr.keyEq Y138) [x2.1, x2.2.1, x2.2.2.1, x2.2.2.2.1] true s1.2.2.2.1,
 IntKind.wrap .i64 (s1.2.2.2.2 + (1 : Int))))
 else some (.inr (.inl s1.1)))
 (((0 : Int), (0 : Int), (0 : Int), ()), [], [], [], (0 : Int)))
 fun x24 => Sum.elim (fun _ => some ((0 : Int), (0 : Int), (0 : Int), ())) (fun y26 => some y26) x24
abbrev F49A : Pats := (.cons (.pd Y31) .nil)
abbrev F49R : Pats := (.cons (.pd Y106) .nil)
noncomputable def F49S : Tr.Spec := { args := F49A, res := F49R, fns := [], α := El Y106, f := fun x => F49 x.1, unp := fun z => (((), ()), (z, ())) }
noncomputable def F49M : List (Nat × List Tr.Spec) := [(64, [F54S]), (82, [F55S]), (83, [F53S])]
def F49H : Hint := (.seq .leaf (.seq .leaf (.seq .leaf (.seq .leaf (.seq (.seq .leaf (.lp ⟨[(2, (.var Y106 (.pd Y106))), (3, (.map Y3 Y3)), (4, (.map Y3 Y4)), (5, (.map Y138 Y4)), (24, (.pd Y3))], [], [1, 22, 23], []⟩ [((.exit 0), ⟨[(2, (.var Y106 (.pd Y106)))], [], [], []⟩), (.ret, ⟨[(2, (.var Y106 (.pd Y106)))], [], [], []⟩)] (.seq .leaf (.seq .leaf (.seq (.seq .leaf (.seq (.seq (.reg [(51, Y4)]) .leaf) (.seq .leaf (.seq (.seq (.reg [(81, Y4)]) .leaf) .leaf)))) .leaf))))) .leaf)))))
noncomputable def F49V (a0 : El Y31) : Option (El Y106) := evalF (mkE tyTab mapTab pkTab [] [] F49M 171 bdTab) (codeOf Tryz.f66) Tryz.f66.results F49H F49A F49R (fun y => y.2.1) (a0, ())
theorem F49_eq (a0 : El Y31) : F49V a0 = F49 a0 := by kernel_rfl
theorem F49_ok : FnOK Tryz.prog 66 F49S := fnOK_of (m := F49M) (fn := Tryz.f66) (hint := F49H) (pack := fun y => y.2.1) hmix tab_ok ⟨⟨F54_ok, trivial⟩, ⟨F55_ok, trivial⟩, ⟨F53_ok, trivial⟩, trivial⟩ fun x z h => (F49_eq x.1).trans h
noncomputable def F57 : (El Y3) → (El Y3) → (El Y3) → Option (El Y4) := fun a0 a1 a2 => Option.bind (bif decide (a1 ≤ a0) then some (decide (a0 ≤ a2)) else some false) fun x0 => some x0
abbrev F57A : Pats := (.cons (.pd Y3) (.cons (.pd Y3) (.cons (.pd Y3) .nil)))
abbrev F57R : Pats := (.cons (.pd Y4) .nil)
noncomputable def F57S : Tr.Spec := { args := F57A, res := F57R, fns := [], α := El Y4, f := fun x => F57 x.1 x.2.1 x.2.2.1, unp := fun z => (((), (), (), ()), (z, ())) }
noncomputable def F57M : List (Nat × List Tr.Spec) := []
def F57H : Hint := (.seq .leaf (.seq (.reg [(6, Y4)]) .leaf))
noncomputable def F57V (a0 : El Y3) (a1 : El Y3) (a2 : El Y3) : Option (El Y4) := evalF (mkE tyTab mapTab pkTab [] [] F57M 15 bdTab) (codeOf Tryz.f84) Tryz.f84.results F57H F57A F57R (fun y => y.2.1) (a0, a1, a2, ())
theorem F57_eq (a0 : El Y3) (a1 : El Y3) (a2 : El Y3) : F57V a0 a1 a2 = F57 a0 a1 a2 := by kernel_rfl
theorem F57_ok : FnOK Tryz.prog 84 F57S := fnOK_of (m := F57M) (fn := Tryz.f84) (hint := F57H) (pack := fun y => y.2.1) hmix tab_ok trivial fun x z h => (F57_eq x.1 x.2.1 x.2.2.1).trans h
noncomputable def F56 : (El Y29) → Option (El Y3 × El Y37) := fun a0 =>
 Option.bind
 (Option.bind (F57 a0.2.1 (0 : Int) (1000000 : Int)) fun x0 =>
 bif !x0 then some true
 else
 Option.bind (F57 a0.2.2.1 (0 : Int) (86400 : Int)) fun x1 =>
 bif !x1 then some true else Option.bind (F57 a0.2.2.2.1 (0 : Int) (1000000 : Int)) fun x2 => some !x2)
 fun x3 =>
 bif x3 then some ((-1 : Int), (2 : Int))
 else
 bif decide ((16 : Int) < (↑(List.length a0.1) : Int)) then some ((0 : Int), (5 : Int))
 else
 Option.bind
 (Tr.run
 (fun s4 =>
 bif decide (s4.2 < (↑(List.length a0.1) : Int)) then
 Option.bind (idx a0.1 s4.2) fun x5 =>
 Option.bind (F32 x5.1) fun x6 =>
 bif !x6 then some (.inr (.inr (s4.2, (12 : Int))))
 else
 bif Option.getD (Tr.amGet (Tr.keyEq Y9) x5.1 s4.1) (false) then some (.inr (.inr (s4.2, (6 : Int))))
 else
 Option.bind
 (Option.bind (F57 x5.2.1 (0 : Int) (1000000 : Int)) fun x7 =>
 bif !x7 then some true
 else
 Option.bind (F57 x5.2.2.1 (1 : Int) (8 : Int)) fun x8 =>
 bif !x8 then some true
 else
 Option.bind (F57 x5.2.2.2.1 (1 : Int) (16 : Int)) fun x9 =>
 bif !x9 then some true
 else
 Option.bind (F57 x5.2.2.2.2.1 (0 : Int) (86400 : Int)) fun x10 =>
 bif !x10 then some true else Option.bind (F57 x5.2.2.2.2.2.1 (1 : Int) (255 : Int)) fun x11 => some !x11)
 fun x12 =>
 bif x12 then some (.inr (.inr (s4.2, (2 : Int))))
 else some (.inl (Tr.amSet (Tr.keyEq Y9) x5.1 true s4.1, IntKind.wrap .i64 (s4.2 + (1 : Int))))
 else some (.inr (.inl ())))
 ([], (0 : Int)))
 fun x13 => Sum.elim (fun _ => some ((0 : Int), (0 : Int))) (fun y15 => some (y15.1, y15.2)) x13
abbrev F56A : Pats := (.cons (.pd Y29) .nil)
abbrev F56R : Pats := (.cons (.pd Y3) (.cons (.pd Y37) .nil))
noncomputable def F56S : Tr.Spec := { args := F56A, res := F56R, fns := [], α := El Y3 × El Y37, f := fun x => F56 x.1, unp := fun z => (((), ()), (z.1, z.2, ())) }
noncomputable def F56M : List (Nat × List Tr.Spec) := [(79, [F32S]), (84, [F57S])]
def F56H : Hint := (.seq .leaf (.seq (.seq (.reg [(22, Y4)]) .leaf) (.seq .leaf (.seq .leaf (.seq (.seq .leaf (.lp ⟨[(4, (.map Y9 Y4)), (31, (.pd Y3))], [], [29, 30], []⟩ [((.exit 0), ⟨[], [], [], []⟩), (.ret, ⟨[(2, (.pd Y3)), (3, (.pd Y37))], [], [], []⟩)] (.seq .leaf (.seq .leaf (.seq (.seq .leaf (.seq .leaf (.seq .leaf (.seq (.seq (.reg [(73, Y4)]) .leaf) .leaf)))) .leaf))))) .leaf)))))
noncomputable def F56V (a0 : El Y29) : Option (El Y3 × El Y37) := evalF (mkE tyTab mapTab pkTab [] [] F56M 79 bdTab) (codeOf Tryz.f67) Tryz.f67.results F56H F56A F56R (fun y => (y.2.1, y.2.2.1)) (a0, ())
theorem F56_eq (a0 : El Y29) : F56V a0 = F56 a0 := by kernel_rfl
theorem F56_ok : FnOK Tryz.prog 67 F56S := fnOK_of (m := F56M) (fn := Tryz.f67) (hint := F56H) (pack := fun y => (y.2.1, y.2.2.1)) hmix tab_ok ⟨⟨F32_ok, trivial⟩, ⟨F57_ok, trivial⟩, trivial⟩ fun x z h => (F56_eq x.1).trans h
noncomputable def F23 : (El Y26) → (El Y3) → Option (El Y3 × El Y37) := fun a0 a1 =>
 Option.bind
 (Tr.run
 (fun s0 =>
 bif decide (s0.2 < (↑(List.length a0) : Int)) then
 Option.bind (idx a0 s0.2) fun x1 =>
 Option.bind
 (bif decide (x1.1 < (0 : Int)) then some (decide (x1.1 < (0 : Int)))
 else
 Option.bind
 (bif decide (a1 ≤ x1.1) then some (decide (a1 ≤ x1.1))
 else
 Option.bind
 (bif decide (x1.2.1 < (0 : Int)) then some (decide (x1.2.1 < (0 : Int)))
 else
 Option.bind (bif decide (a1 ≤ x1.2.1) then some (decide (a1 ≤ x1.2.1)) else some (decide (x1.1 = x1.2.1))) fun x2 =>
 some x2)
 fun x3 => some x3)
 fun x4 => some x4)
 fun x5 =>
 bif x5 then some (.inr (.inr (s0.2, (9 : Int))))
 else
 Option.bind
 (bif decide (x1.2.2.1 < (1 : Int)) then some (decide (x1.2.2.1 < (1 : Int)))
 else some (decide ((14400 : Int) < x1.2.2.1)))
 fun x6 =>
 bif x6 then some (.inr (.inr (s0.2, (2 : Int))))
 else
 bif Option.getD (Tr.amGet (Tr.keyEq Y173) (x1.1, x1.2.1, x1.2.2.2.1, ()) s0.1) (false) then some (.inr (.inr (s0.2, (6 : Int))))
 else some (.inl (Tr.amSet (Tr.keyEq Y173) (x1.1, x1.2.1, x1.2.2.2.1, ()) true s0.1, IntKind.wrap .i64 (s0.2 + (1 : Int))))
 else some (.inr (.inl ())))
 ([], (0 : Int)))
 fun x7 => Sum.elim (fun _ => some ((0 : Int), (0 : Int))) (fun y9 => some (y9.1, y9.2)) x7
abbrev F23A : Pats := (.cons (.pd Y26) (.cons (.pd Y3) .nil))
abbrev F23R : Pats := (.cons (.pd Y3) (.cons (.pd Y37) .nil))
noncomputable def F23S : Tr.Spec := { args := F23A, res := F23R, fns := [], α := El Y3 × El Y37, f := fun x => F23 x.1 x.2.1, unp := fun z => (((), (), ()), (z.1, z.2, ())) }
noncomputable def F23M : List (Nat × List Tr.Spec) := []
def F23H : Hint := (.seq .leaf (.seq .leaf (.seq (.seq .leaf (.lp ⟨[(6, (.map Y173 Y4)), (13, (.pd Y3))], [], [1, 11, 12], []⟩ [((.exit 0), ⟨[], [], [], []⟩), (.ret, ⟨[(4, (.pd Y3)), (5, (.pd Y37))], [], [], []⟩)] (.seq .leaf (.seq .leaf (.seq (.seq .leaf (.seq .leaf (.seq (.seq (.seq .leaf (.cnd (some (⟨[], [], [1, 6, 7, 8, 9, 11, 12, 13], []⟩, [(.normal, ⟨[(25, (.pd Y4))], [], [1, 6, 7, 8, 9, 11, 12, 13], []⟩)])) .leaf (.seq .leaf (.cnd (some (⟨[], [], [1, 6, 7, 8, 9, 11, 12, 13], []⟩, [(.normal, ⟨[(25, (.pd Y4))], [], [1, 6, 7, 8, 9, 11, 12, 13], []⟩)])) .leaf (.seq .leaf (.cnd (some (⟨[], [], [1, 6, 7, 8, 9, 11, 12, 13], []⟩, [(.normal, ⟨[(25, (.pd Y4))], [], [1, 6, 7, 8, 9, 11, 12, 13], []⟩)])) .leaf (.seq .leaf (.cnd (some (⟨[], [], [1, 6, 7, 8, 9, 11, 12, 13], []⟩, [(.normal, ⟨[(25, (.pd Y4))], [], [1, 6, 7, 8, 9, 11, 12, 13], []⟩)])) .leaf .leaf)))))))) (.cnd none .leaf (.seq (.seq .leaf (.cnd (some (⟨[], [], [1, 6, 7, 9, 11, 12, 13], []⟩, [(.normal, ⟨[(46, (.pd Y4))], [], [1, 6, 7, 9, 11, 12, 13], []⟩)])) .leaf .leaf)) .leaf))) .leaf))) .leaf))))) .leaf)))
noncomputable def F23V (a0 : El Y26) (a1 : El Y3) : Option (El Y3 × El Y37) := evalF (mkE tyTab mapTab pkTab [] [] F23M 62 bdTab) (codeOf Tryz.f102) Tryz.f102.results F23H F23A F23R (fun y => (y.2.1, y.2.2.1)) (a0, a1, ())
theorem F23_eq (a0 : El Y26) (a1 : El Y3) : F23V a0 a1 = F23 a0 a1 := by kernel_rfl
theorem F23_ok : FnOK Tryz.prog 102 F23S := fnOK_of (m := F23M) (fn := Tryz.f102) (hint := F23H) (pack := fun y => (y.2.1, y.2.2.1)) hmix tab_ok trivial fun x z h => (F23_eq x.1 x.2.1).trans h
noncomputable def F89 : (El Y3) → (El Y3) → Option (El Y4) := fun a0 a1 => Option.bind (bif decide (a0 < (0 : Int)) then some true else some (decide (a1 ≤ a0))) fun x0 => some x0
abbrev F89A : Pats := (.cons (.pd Y3) (.cons (.ro Y3) .nil))
abbrev F89R : Pats := (.cons (.pd Y4) .nil)
noncomputable def F89S : Tr.Spec := { args := F89A, res := F89R, fns := [], α := El Y4, f := fun x => F89 x.1 x.2.1, unp := fun z => (((), (), ()), (z, ())) }
noncomputable def F89M : List (Nat × List Tr.Spec) := []
def F89H : Hint := (.seq .leaf (.seq (.reg [(3, Y4)]) .leaf))
noncomputable def F89V (a0 : El Y3) (a1 : El Y3) : Option (El Y4) := evalF (mkE tyTab mapTab pkTab [] [] F89M 11 bdTab) (codeOf Tryz.f134) Tryz.f134.results F89H F89A F89R (fun y => y.2.1) (a0, a1, ())
theorem F89_eq (a0 : El Y3) (a1 : El Y3) : F89V a0 a1 = F89 a0 a1 := by kernel_rfl
theorem F89_ok : FnOK Tryz.prog 134 F89S := fnOK_of (m := F89M) (fn := Tryz.f134) (hint := F89H) (pack := fun y => y.2.1) hmix tab_ok trivial fun x z h => (F89_eq x.1 x.2.1).trans h
noncomputable def F88 : (El Y3) → (El Y181) → (El Y90) → Option (El Y37) := fun a0 a1 a2 =>
 Option.bind (bif decide (a0 < (0 : Int)) then some true else some (decide ((64 : Int) < a0))) fun x0 =>
 bif x0 then some (2 : Int)
 else
 bif decide ((4096 : Int) < (↑(List.length a1) : Int)) then some (5 : Int)
 else
 Option.bind
 (Tr.run
 (fun s1 =>
 bif decide (s1 < (↑(List.length a1) : Int)) then
 Option.bind (idx a1 s1) fun x2 =>
 Option.bind (F89 x2.1 a0) fun x3 =>
 bif x3 then some (.inr (.inr (9 : Int)))
 else
 Option.bind (F89 x2.2.1 a0) fun x4 =>
 bif x4 then some (.inr (.inr (9 : Int)))
 else
 Option.bind (bif decide (x2.2.2.1 < (0 : Int)) then some true else some (decide ((1073741824 : Int) < x2.2.2.1))) fun x5 =>
 bif x5 then some (.inr (.inr (2 : Int))) else some (.inl (IntKind.wrap .i64 (s1 + (1 : Int))))
 else some (.inr (.inl ())))
 (0 : Int))
 fun x6 =>
 Sum.elim
 (fun _ =>
 Option.bind
 (Tr.run
 (fun s8 =>
 bif decide (s8 < (↑(List.length a2) : Int)) then
 Option.bind (idx a2 s8) fun x9 =>
 Option.bind (F89 x9 a0) fun x10 =>
 bif x10 then some (.inr (.inr (9 : Int))) else some (.inl (IntKind.wrap .i64 (s8 + (1 : Int))))
 else some (.inr (.inl ())))
 (0 : Int))
 fun x11 => Sum.elim (fun _ => some (0 : Int)) (fun y13 => some y13) x11)
 (fun y14 => some y14) x6
abbrev F88A : Pats := (.cons (.pd Y3) (.cons (.pd Y181) (.cons (.pd Y90) .nil)))
abbrev F88R : Pats := (.cons (.pd Y37) .nil)
noncomputable def F88S : Tr.Spec := { args := F88A, res := F88R, fns := [], α := El Y37, f := fun x => F88 x.1 x.2.1 x.2.2.1, unp := fun z => (((), (), (), ()), (z, ())) }
noncomputable def F88M : List (Nat × List Tr.Spec) := [(134, [F89S])]
def F88H : Hint := (.seq .leaf (.seq (.seq (.reg [(17, Y4)]) .leaf) (.seq .leaf (.seq .leaf (.seq (.seq .leaf (.lp ⟨[(24, (.pd Y3))], [], [2, 7, 22, 23], []⟩ [((.exit 0), ⟨[], [], [2, 7], []⟩), (.ret, ⟨[(6, (.pd Y37))], [], [], []⟩)] (.seq .leaf (.seq .leaf (.seq (.seq .leaf (.seq .leaf (.seq (.reg [(45, Y4)]) .leaf))) .leaf))))) (.seq (.seq .leaf (.lp ⟨[(49, (.pd Y3))], [], [7, 47, 48], []⟩ [((.exit 2), ⟨[], [], [], []⟩), (.ret, ⟨[(6, (.pd Y37))], [], [], []⟩)] .leaf)) .leaf))))))
noncomputable def F88V (a0 : El Y3) (a1 : El Y181) (a2 : El Y90) : Option (El Y37) := evalF (mkE tyTab mapTab pkTab [] [] F88M 57 bdTab) (codeOf Tryz.f122) Tryz.f122.results F88H F88A F88R (fun y => y.2.1) (a0, a1, a2, ())
theorem F88_eq (a0 : El Y3) (a1 : El Y181) (a2 : El Y90) : F88V a0 a1 a2 = F88 a0 a1 a2 := by kernel_rfl
theorem F88_ok : FnOK Tryz.prog 122 F88S := fnOK_of (m := F88M) (fn := Tryz.f122) (hint := F88H) (pack := fun y => y.2.1) hmix tab_ok ⟨⟨F89_ok, trivial⟩, trivial⟩ fun x z h => (F88_eq x.1 x.2.1 x.2.2.1).trans h
noncomputable def F93 : (El Y181) → (El Y4) → Option (List (El Y3 × List (El Y183))) := fun a0 a1 =>
 Option.bind
 (Tr.run
 (fun s0 =>
 bif decide (s0.2 < (↑(List.length a0) : Int)) then
 Option.bind (idx a0 s0.2) fun x1 =>
 Option.bind (bif a1 then some (x1.2.1, x1.1, x1.2.2) else some x1) fun x2 =>
 Option.bind (guardB (decide (List.length (Option.getD (Tr.amGet (Tr.keyEq Y3) x2.1 s0.1) []) + List.length [x2] ≤ maxApp))) fun _ =>
 Option.bind (guardB (Tr.holeK Y3 (some x2.1) x2.1)) fun _ =>
 some (.inl (Tr.amSet (Tr.keyEq Y3) x2.1 (Option.getD (Tr.amGet (Tr.keyEq Y3) x2.1 s0.1) [] ++ [x2]) s0.1, IntKind.wrap .i64 (s0.2 + (1 : Int))))
 else some (.inr s0.1))
 ([], (0 : Int)))
 fun x5 => some x5
abbrev F93A : Pats := (.cons (.pd Y181) (.cons (.pd Y4) .nil))
abbrev F93R : Pats := (.cons (.mrows Y3 Y183) .nil)
noncomputable def F93S : Tr.Spec := { args := F93A, res := F93R, fns := [], α := List (El Y3 × List (El Y183)), f := fun x => F93 x.1 x.2.1, unp := fun z => (((), (), ()), (z, ())) }
noncomputable def F93M : List (Nat × List Tr.Spec) := []
def F93H : Hint := (.seq .leaf (.seq .leaf (.seq (.seq .leaf (.lp ⟨[(5, (.mrows Y3 Y183)), (11, (.pd Y3))], [], [1, 9, 10], []⟩ [((.exit 0), ⟨[(5, (.mrows Y3 Y183))], [], [], []⟩)] (.seq .leaf (.seq .leaf (.seq (.seq .leaf (.seq (.seq .leaf (.cnd (some (⟨[], [], [1, 5, 9, 10, 11], []⟩, [(.normal, ⟨[(7, (.var Y183 (.pd Y183)))], [], [1, 5, 9, 10, 11], []⟩)])) .leaf .leaf)) .leaf)) .leaf))))) .leaf)))
noncomputable def F93V (a0 : El Y181) (a1 : El Y4) : Option (List (El Y3 × List (El Y183))) := evalF (mkE tyTab mapTab pkTab [190] [] F93M 34 bdTab) (codeOf Tryz.f123) Tryz.f123.results F93H F93A F93R (fun y => y.2.1) (a0, a1, ())
theorem F93_eq (a0 : El Y181) (a1 : El Y4) : F93V a0 a1 = F93 a0 a1 := by kernel_rfl
theorem F93_ok : FnOK Tryz.prog 123 F93S := fnOK_of (m := F93M) (fn := Tryz.f123) (hint := F93H) (pack := fun y => y.2.1) hmix tab_ok trivial fun x z h => (F93_eq x.1 x.2.1).trans h
noncomputable def F91 : (El Y193) → Option (El Y90) := fun a0 =>
 Option.bind
 (guardB
 (decide
 ((0 : Tr.El (Tr.Ty.int .i64)) ≤ (↑(List.length a0) : Int) ∧
 (↑(List.length a0) : Int) ≤ (↑(List.length a0) : Int) ∧ (↑(List.length a0) : Int) ≤ (↑maxApp : Tr.El (Tr.Ty.int .i64)))))
 fun _ =>
 Option.bind
 (Tr.run
 (fun s1 =>
 bif decide (s1.2 < (↑(List.length a0) : Int)) then
 Option.bind (idx a0 s1.2) fun x2 =>
 Option.bind (inb s1.2 (List.length s1.1)) fun x3 =>
 Option.bind s1.1[x3]? fun _ => some (.inl (List.set s1.1 x3 x2.2.1, IntKind.wrap .i64 (s1.2 + (1 : Int))))
 else some (.inr s1.1))
 (List.replicate (Int.toNat (↑(List.length a0) : Int)) ((0 : Int)), (0 : Int)))
 fun x5 => some x5
abbrev F91A : Pats := (.cons (.pd Y193) .nil)
abbrev F91R : Pats := (.cons (.pd Y90) .nil)
noncomputable def F91S : Tr.Spec := { args := F91A, res := F91R, fns := [], α := El Y90, f := fun x => F91 x.1, unp := fun z => (((), ()), (z, ())) }
noncomputable def F91M : List (Nat × List Tr.Spec) := []
def F91H : Hint := (.seq .leaf (.seq .leaf (.seq (.seq .leaf (.lp ⟨[(3, (.own Y3 false)), (11, (.pd Y3))], [], [9, 10], []⟩ [((.exit 0), ⟨[(3, (.own Y3 false))], [], [], []⟩)] .leaf)) .leaf)))
noncomputable def F91V (a0 : El Y193) : Option (El Y90) := evalF (mkE tyTab mapTab pkTab [] [] F91M 23 bdTab) (codeOf Tryz.f124) Tryz.f124.results F91H F91A F91R (fun y => y.2.1) (a0, ())
theorem F91_eq (a0 : El Y193) : F91V a0 = F91 a0 := by kernel_rfl
theorem F91_ok : FnOK Tryz.prog 124 F91S := fnOK_of (m := F91M) (fn := Tryz.f124) (hint := F91H) (pack := fun y => y.2.1) hmix tab_ok trivial fun x z h => (F91_eq x.1).trans h
noncomputable def F92 : (El Y201) → (El Y201) → Option (El Y4) := fun a0 a1 =>
 Option.bind
 (bif decide (a0.2.1 < a1.2.1) then some true
 else bif decide (a0.2.1 = a1.2.1) then some (decide (a0.2.2.1 < a1.2.2.1)) else some false)
 fun x0 => some x0
abbrev F92A : Pats := (.cons (.pd Y201) (.cons (.pd Y201) .nil))
abbrev F92R : Pats := (.cons (.pd Y4) .nil)
noncomputable def F92S : Tr.Spec := { args := F92A, res := F92R, fns := [], α := El Y4, f := fun x => F92 x.1 x.2.1, unp := fun z => (((), (), ()), (z, ())) }
noncomputable def F92M : List (Nat × List Tr.Spec) := []
def F92H : Hint := (.seq .leaf (.seq (.reg [(4, Y4)]) .leaf))
noncomputable def F92V (a0 : El Y201) (a1 : El Y201) : Option (El Y4) := evalF (mkE tyTab mapTab pkTab [] [] F92M 24 bdTab) (codeOf Tryz.f136) Tryz.f136.results F92H F92A F92R (fun y => y.2.1) (a0, a1, ())
theorem F92_eq (a0 : El Y201) (a1 : El Y201) : F92V a0 a1 = F92 a0 a1 := by kernel_rfl
theorem F92_ok : FnOK Tryz.prog 136 F92S := fnOK_of (m := F92M) (fn := Tryz.f136) (hint := F92H) (pack := fun y => y.2.1) hmix tab_ok trivial fun x z h => (F92_eq x.1 x.2.1).trans h
noncomputable def F28 : ((Unit × List (El Y214) × El Y3 × Unit)) → (El Y3) → (El Y3) → Option ((Unit × List (El Y214) × El Y3 × Unit) × El Y4) := fun a0 a1 a2 =>
 Option.bind (inb a1 (List.length a0.2.1)) fun x0 =>
 Option.bind a0.2.1[x0]? fun x1 =>
 Option.bind (inb a2 (List.length a0.2.1)) fun x2 =>
 Option.bind a0.2.1[x2]? fun x3 =>
 Option.bind (F92 x1.1 x3.1) fun x4 =>
 bif x4 then some (((), a0.2.1, a0.2.2.1, ()), true)
 else
 Option.bind (F92 x3.1 x1.1) fun x5 =>
 bif x5 then some (((), a0.2.1, a0.2.2.1, ()), false) else some (((), a0.2.1, a0.2.2.1, ()), decide (x1.2.1 < x3.2.1))
abbrev F28A : Pats := (.cons (.var Y212 (.agg (.cons (.fn 136 .nil) (.cons (.own Y214 true) (.cons (.pd Y3) .nil))))) (.cons (.pd Y3) (.cons (.pd Y3) .nil)))
abbrev F28R : Pats := (.cons (.pd Y4) .nil)
noncomputable def F28S : Tr.Spec := { args := F28A, res := F28R, fns := [], α := (Unit × List (El Y214) × El Y3 × Unit) × El Y4, f := fun x => F28 x.1 x.2.1 x.2.2.1, unp := fun z => ((z.1, (), (), ()), (z.2, ())) }
noncomputable def F28M : List (Nat × List Tr.Spec) := [(136, [F92S])]
def F28H : Hint := .leaf
noncomputable def F28V (a0 : (Unit × List (El Y214) × El Y3 × Unit)) (a1 : El Y3) (a2 : El Y3) : Option ((Unit × List (El Y214) × El Y3 × Unit) × El Y4) := evalF (mkE tyTab mapTab pkTab [] [] F28M 46 bdTab) (codeOf Tryz.f142) Tryz.f142.results F28H F28A F28R (fun y => (y.1.1, y.2.1)) (a0, a1, a2, ())
theorem F28_eq (a0 : (Unit × List (El Y214) × El Y3 × Unit)) (a1 : El Y3) (a2 : El Y3) : F28V a0 a1 a2 = F28 a0 a1 a2 := by kernel_rfl
theorem F28_ok : FnOK Tryz.prog 142 F28S := fnOK_of (m := F28M) (fn := Tryz.f142) (hint := F28H) (pack := fun y => (y.1.1, y.2.1)) hmix tab_ok ⟨⟨F92_ok, trivial⟩, trivial⟩ fun x z h => (F28_eq x.1 x.2.1 x.2.2.1).trans h
noncomputable def F30 : ((Unit × List (El Y214) × El Y3 × Unit)) → (El Y3) → (El Y3) → Option ((Unit × List (El Y214) × El Y3 × Unit)) := fun a0 a1 a2 =>
 Option.bind (inb a2 (List.length a0.2.1)) fun x0 =>
 Option.bind a0.2.1[x0]? fun x1 =>
 Option.bind (inb a1 (List.length a0.2.1)) fun x2 =>
 Option.bind a0.2.1[x2]? fun x3 =>
 Option.bind (inb a1 (List.length a0.2.1)) fun x4 =>
 Option.bind a0.2.1[x4]? fun _ =>
 Option.bind (inb a2 (List.length (List.set a0.2.1 x4 x1))) fun x6 =>
 Option.bind (List.set a0.2.1 x4 x1)[x6]? fun _ => some ((), List.set (List.set a0.2.1 x4 x1) x6 x3, a0.2.2.1, ())
abbrev F30A : Pats := (.cons (.var Y212 (.agg (.cons (.fn 136 .nil) (.cons (.own Y214 true) (.cons (.pd Y3) .nil))))) (.cons (.pd Y3) (.cons (.pd Y3) .nil)))
abbrev F30R : Pats := .nil
noncomputable def F30S : Tr.Spec := { args := F30A, res := F30R, fns := [], α := (Unit × List (El Y214) × El Y3 × Unit), f := fun x => F30 x.1 x.2.1 x.2.2.1, unp := fun z => ((z, (), (), ()), ()) }
noncomputable def F30M : List (Nat × List Tr.Spec) := [(136, [F92S])]
def F30H : Hint := .leaf
noncomputable def F30V (a0 : (Unit × List (El Y214) × El Y3 × Unit)) (a1 : El Y3) (a2 : El Y3) : Option ((Unit × List (El Y214) × El Y3 × Unit)) := evalF (mkE tyTab mapTab pkTab [] [] F30M 32 bdTab) (codeOf Tryz.f143) Tryz.f143.results F30H F30A F30R (fun y => y.1.1) (a0, a1, a2, ())
theorem F30_eq (a0 : (Unit × List (El Y214) × El Y3 × Unit)) (a1 : El Y3) (a2 : El Y3) : F30V a0 a1 a2 = F30 a0 a1 a2 := by kernel_rfl
theorem F30_ok : FnOK Tryz.prog 143 F30S := fnOK_of (m := F30M) (fn := Tryz.f143) (hint := F30H) (pack := fun y => y.1.1) hmix tab_ok ⟨⟨F92_ok, trivial⟩, trivial⟩ fun x z h => (F30_eq x.1 x.2.1 x.2.2.1).trans h
noncomputable def F27 : ((Unit × List (El Y214) × El Y3 × Unit)) → (El Y201) → Option ((Unit × List (El Y214) × El Y3 × Unit)) := fun a0 a1 =>
 Option.bind (guardB (decide (List.length a0.2.1 + List.length [(a1, a0.2.2.1, ())] ≤ maxApp))) fun _ =>
 Option.bind
 (Tr.run
 (fun s1 =>
 bif decide ((0 : Int) < s1.2) then
 Option.bind
 (F28 ((), s1.1.2.1, s1.1.2.2.1, ()) s1.2
 (IntKind.wrap .i64 (Int.tdiv (IntKind.wrap .i64 (s1.2 - (1 : Int))) (2 : Int))))
 fun x2 =>
 bif x2.2 then
 Option.bind
 (F30 ((), x2.1.2.1, x2.1.2.2.1, ()) s1.2
 (IntKind.wrap .i64 (Int.tdiv (IntKind.wrap .i64 (s1.2 - (1 : Int))) (2 : Int))))
 fun x3 => some (.inl (((), x3.2.1, x3.2.2.1, ()), IntKind.wrap .i64 (Int.tdiv (IntKind.wrap .i64 (s1.2 - (1 : Int))) (2 : Int))))
 else some (.inr ((), x2.1.2.1, x2.1.2.2.1, ()))
 else some (.inr ((), s1.1.2.1, s1.1.2.2.1, ())))
 (((), a0.2.1 ++ [(a1, a0.2.2.1, ())], IntKind.wrap .i64 (a0.2.2.1 + (1 : Int)), ()),
 IntKind.wrap .i64 ((↑(List.length (a0.2.1 ++ [(a1, a0.2.2.1, ())])) : Int) - (1 : Int))))
 fun x4 => some ((), x4.2.1, x4.2.2.1, ())
abbrev F27A : Pats := (.cons (.var Y212 (.agg (.cons (.fn 136 .nil) (.cons (.own Y214 true) (.cons (.pd Y3) .nil))))) (.cons (.pd Y201) .nil))
abbrev F27R : Pats := .nil
noncomputable def F27S : Tr.Spec := { args := F27A, res := F27R, fns := [], α := (Unit × List (El Y214) × El Y3 × Unit), f := fun x => F27 x.1 x.2.1, unp := fun z => ((z, (), ()), ()) }
noncomputable def F27M : List (Nat × List Tr.Spec) := [(136, [F92S]), (142, [F28S]), (143, [F30S])]
def F27H : Hint := (.seq .leaf (.seq .leaf (.seq .leaf (.seq .leaf (.seq .leaf (.lp ⟨[(0, (.var Y212 (.agg (.cons (.fn 136 .nil) (.cons (.own Y214 false) (.cons (.pd Y3) .nil)))))), (4, (.pd Y3))], [], [], []⟩ [((.exit 0), ⟨[(0, (.var Y212 (.agg (.cons (.fn 136 .nil) (.cons (.own Y214 false) (.cons (.pd Y3) .nil))))))], [], [], []⟩)] .leaf))))))
noncomputable def F27V (a0 : (Unit × List (El Y214) × El Y3 × Unit)) (a1 : El Y201) : Option ((Unit × List (El Y214) × El Y3 × Unit)) := evalF (mkE tyTab mapTab pkTab [] [] F27M 54 bdTab) (codeOf Tryz.f137) Tryz.f137.results F27H F27A F27R (fun y => y.1.1) (a0, a1, ())
theorem F27_eq (a0 : (Unit × List (El Y214) × El Y3 × Unit)) (a1 : El Y201) : F27V a0 a1 = F27 a0 a1 := by kernel_rfl
theorem F27_ok : FnOK Tryz.prog 137 F27S := fnOK_of (m := F27M) (fn := Tryz.f137) (hint := F27H) (pack := fun y => y.1.1) hmix tab_ok ⟨⟨F92_ok, trivial⟩, ⟨F28_ok, trivial⟩, ⟨F30_ok, trivial⟩, trivial⟩ fun x z h => (F27_eq x.1 x.2.1).trans h
noncomputable def F24 : ((Unit × List (El Y214) × El Y3 × Unit)) → Option ((Unit × List (El Y214) × El Y3 × Unit) × El Y3) := fun a0 => some (((), a0.2.1, a0.2.2.1, ()), (↑(List.length a0.2.1) : Int))
abbrev F24A : Pats := (.cons (.var Y212 (.agg (.cons (.fn 136 .nil) (.cons (.own Y214 true) (.cons (.pd Y3) .nil))))) .nil)
abbrev F24R : Pats := (.cons (.pd Y3) .nil)
noncomputable def F24S : Tr.Spec := { args := F24A, res := F24R, fns := [], α := (Unit × List (El Y214) × El Y3 × Unit) × El Y3, f := fun x => F24 x.1, unp := fun z => ((z.1, ()), (z.2, ())) }
noncomputable def F24M : List (Nat × List Tr.Spec) := [(136, [F92S])]
def F24H : Hint := .leaf
noncomputable def F24V (a0 : (Unit × List (El Y214) × El Y3 × Unit)) : Option ((Unit × List (El Y214) × El Y3 × Unit) × El Y3) := evalF (mkE tyTab mapTab pkTab [] [] F24M 10 bdTab) (codeOf Tryz.f147) Tryz.f147.results F24H F24A F24R (fun y => (y.1.1, y.2.1)) (a0, ())
theorem F24_eq (a0 : (Unit × List (El Y214) × El Y3 × Unit)) : F24V a0 = F24 a0 := by kernel_rfl
theorem F24_ok : FnOK Tryz.prog 147 F24S := fnOK_of (m := F24M) (fn := Tryz.f147) (hint := F24H) (pack := fun y => (y.1.1, y.2.1)) hmix tab_ok ⟨⟨F92_ok, trivial⟩, trivial⟩ fun x z h => (F24_eq x.1).trans h
noncomputable def F25 : ((Unit × List (El Y214) × El Y3 × Unit)) → Option ((Unit × List (El Y214) × El Y3 × Unit) × El Y201 × El Y4) := fun a0 =>
 Option.bind (F24 ((), a0.2.1, a0.2.2.1, ())) fun x0 =>
 bif decide (x0.2 = (0 : Int)) then some (((), x0.1.2.1, x0.1.2.2.1, ()), ((0 : Int), (0 : Int), (0 : Int), ()), false)
 else Option.bind (inb (0 : Int) (List.length x0.1.2.1)) fun x1 => Option.bind x0.1.2.1[x1]? fun x2 => some (((), x0.1.2.1, x0.1.2.2.1, ()), x2.1, true)
abbrev F25A : Pats := (.cons (.var Y212 (.agg (.cons (.fn 136 .nil) (.cons (.own Y214 true) (.cons (.pd Y3) .nil))))) .nil)
abbrev F25R : Pats := (.cons (.pd Y201) (.cons (.pd Y4) .nil))
noncomputable def F25S : Tr.Spec := { args := F25A, res := F25R, fns := [], α := (Unit × List (El Y214) × El Y3 × Unit) × El Y201 × El Y4, f := fun x => F25 x.1, unp := fun z => ((z.1, ()), (z.2.1, z.2.2, ())) }
noncomputable def F25M : List (Nat × List Tr.Spec) := [(136, [F92S]), (147, [F24S])]
def F25H : Hint := .leaf
noncomputable def F25V (a0 : (Unit × List (El Y214) × El Y3 × Unit)) : Option ((Unit × List (El Y214) × El Y3 × Unit) × El Y201 × El Y4) := evalF (mkE tyTab mapTab pkTab [] [] F25M 16 bdTab) (codeOf Tryz.f144) Tryz.f144.results F25H F25A F25R (fun y => (y.1.1, y.2.1, y.2.2.1)) (a0, ())
theorem F25_eq (a0 : (Unit × List (El Y214) × El Y3 × Unit)) : F25V a0 = F25 a0 := by kernel_rfl
theorem F25_ok : FnOK Tryz.prog 144 F25S := fnOK_of (m := F25M) (fn := Tryz.f144) (hint := F25H) (pack := fun y => (y.1.1, y.2.1, y.2.2.1)) hmix tab_ok ⟨⟨F92_ok, trivial⟩, ⟨F24_ok, trivial⟩, trivial⟩ fun x z h => (F25_eq x.1).trans h
noncomputable def F29 : ((Unit × List (El Y214) × El Y3 × Unit)) → Option ((Unit × List (El Y214) × El Y3 × Unit)) := fun a0 =>
 Option.bind
 (Tr.run
 (fun s0 =>
 bif decide ((↑(List.length s0.1.2.1) : Int) ≤ IntKind.wrap .i64 (IntKind.wrap .i64 ((2 : Int) * s0.2) + (1 : Int))) then
 some (.inr ((), s0.1.2.1, s0.1.2.2.1, ()))
 else
 bif
 decide
 (IntKind.wrap .i64 (IntKind.wrap .i64 (IntKind.wrap .i64 ((2 : Int) * s0.2) + (1 : Int)) + (1 : Int)) <
 (↑(List.length s0.1.2.1) : Int)) then
 Option.bind
 (F28 ((), s0.1.2.1, s0.1.2.2.1, ())
 (IntKind.wrap .i64 (IntKind.wrap .i64 (IntKind.wrap .i64 ((2 : Int) * s0.2) + (1 : Int)) + (1 : Int)))
 (IntKind.wrap .i64 (IntKind.wrap .i64 ((2 : Int) * s0.2) + (1 : Int))))
 fun x1 =>
 Option.bind
 (bif x1.2 then
 some
 (((), x1.1.2.1, x1.1.2.2.1, ()),
 IntKind.wrap .i64 (IntKind.wrap .i64 (IntKind.wrap .i64 ((2 : Int) * s0.2) + (1 : Int)) + (1 : Int)))
 else some (((), x1.1.2.1, x1.1.2.2.1, ()), IntKind.wrap .i64 (IntKind.wrap .i64 ((2 : Int) * s0.2) + (1 : Int))))
 fun x2 =>
 Option.bind (F28 ((), x2.1.2.1, x2.1.2.2.1, ()) x2.2 s0.2) fun x3 =>
 bif !x3.2 then some (.inr ((), x3.1.2.1, x3.1.2.2.1, ()))
 else
 Option.bind (F30 ((), x3.1.2.1, x3.1.2.2.1, ()) s0.2 x2.2) fun x4 =>
 some (.inl (((), x4.2.1, x4.2.2.1, ()), x2.2))
 else
 Option.bind
 (F28 ((), s0.1.2.1, s0.1.2.2.1, ()) (IntKind.wrap .i64 (IntKind.wrap .i64 ((2 : Int) * s0.2) + (1 : Int))) s0.2)
 fun x5 =>
 bif !x5.2 then some (.inr ((), x5.1.2.1, x5.1.2.2.1, ()))
 else
 Option.bind
 (F30 ((), x5.1.2.1, x5.1.2.2.1, ()) s0.2
 (IntKind.wrap .i64 (IntKind.wrap .i64 ((2 : Int) * s0.2) + (1 : Int))))
 fun x6 => some (.inl (((), x6.2.1, x6.2.2.1, ()), IntKind.wrap .i64 (IntKind.wrap .i64 ((2 : Int) * s0.2) + (1 : Int)))))
 (((), a0.2.1, a0.2.2.1, ()), (0 : Int)))
 fun x7 => some ((), x7.2.1, x7.2.2.1, ())
abbrev F29A : Pats := (.cons (.var Y212 (.agg (.cons (.fn 136 .nil) (.cons (.own Y214 true) (.cons (.pd Y3) .nil))))) .nil)
abbrev F29R : Pats := .nil
noncomputable def F29S : Tr.Spec := { args := F29A, res := F29R, fns := [], α := (Unit × List (El Y214) × El Y3 × Unit), f := fun x => F29 x.1, unp := fun z => ((z, ()), ()) }
noncomputable def F29M : List (Nat × List Tr.Spec) := [(136, [F92S]), (142, [F28S]), (143, [F30S])]
def F29H : Hint := (.seq .leaf (.lp ⟨[(0, (.var Y212 (.agg (.cons (.fn 136 .nil) (.cons (.own Y214 false) (.cons (.pd Y3) .nil)))))), (2, (.pd Y3))], [], [], []⟩ [(.ret, ⟨[(0, (.var Y212 (.agg (.cons (.fn 136 .nil) (.cons (.own Y214 false) (.cons (.pd Y3) .nil))))))], [], [], []⟩)] (.seq .leaf (.seq .leaf (.seq (.seq .leaf (.cnd (some (⟨[], [], [2], []⟩, [(.normal, ⟨[(0, (.var Y212 (.agg (.cons (.fn 136 .nil) (.cons (.own Y214 false) (.cons (.pd Y3) .nil)))))), (3, (.pd Y3))], [], [2], []⟩)])) .leaf .leaf)) .leaf)))))
noncomputable def F29V (a0 : (Unit × List (El Y214) × El Y3 × Unit)) : Option ((Unit × List (El Y214) × El Y3 × Unit)) := evalF (mkE tyTab mapTab pkTab [] [] F29M 41 bdTab) (codeOf Tryz.f145) Tryz.f145.results F29H F29A F29R (fun y => y.1.1) (a0, ())
theorem F29_eq (a0 : (Unit × List (El Y214) × El Y3 × Unit)) : F29V a0 = F29 a0 := by kernel_rfl
theorem F29_ok : FnOK Tryz.prog 145 F29S := fnOK_of (m := F29M) (fn := Tryz.f145) (hint := F29H) (pack := fun y => y.1.1) hmix tab_ok ⟨⟨F92_ok, trivial⟩, ⟨F28_ok, trivial⟩, ⟨F30_ok, trivial⟩, trivial⟩ fun x z h => (F29_eq x.1).trans h
noncomputable def F26 : ((Unit × List (El Y214) × El Y3 × Unit)) → Option ((Unit × List (El Y214) × El Y3 × Unit) × El Y201 × El Y4) := fun a0 =>
 Option.bind (F25 ((), a0.2.1, a0.2.2.1, ())) fun x0 =>
 bif !x0.2.2 then some (((), x0.1.2.1, x0.1.2.2.1, ()), x0.2.1, false)
 else
 Option.bind (F30 ((), x0.1.2.1, x0.1.2.2.1, ()) (0 : Int) (IntKind.wrap .i64 ((↑(List.length x0.1.2.1) : Int) - (1 : Int))))
 fun x1 =>
 Option.bind (sliceB (List.length x1.2.1) (List.length x1.2.1) none (some (IntKind.wrap .i64 ((↑(List.length x0.1.2.1) : Int) - (1 : Int)))))
 fun x2 =>
 Option.bind (F29 ((), List.take x2.2 x1.2.1, x1.2.2.1, ())) fun x3 => some (((), x3.2.1, x3.2.2.1, ()), x0.2.1, true)
abbrev F26A : Pats := (.cons (.var Y212 (.agg (.cons (.fn 136 .nil) (.cons (.own Y214 true) (.cons (.pd Y3) .nil))))) .nil)
abbrev F26R : Pats := (.cons (.pd Y201) (.cons (.pd Y4) .nil))
noncomputable def F26S : Tr.Spec := { args := F26A, res := F26R, fns := [], α := (Unit × List (El Y214) × El Y3 × Unit) × El Y201 × El Y4, f := fun x => F26 x.1, unp := fun z => ((z.1, ()), (z.2.1, z.2.2, ())) }
noncomputable def F26M : List (Nat × List Tr.Spec) := [(136, [F92S]), (143, [F30S]), (144, [F25S]), (145, [F29S])]
def F26H : Hint := .leaf
noncomputable def F26V (a0 : (Unit × List (El Y214) × El Y3 × Unit)) : Option ((Unit × List (El Y214) × El Y3 × Unit) × El Y201 × El Y4) := evalF (mkE tyTab mapTab pkTab [] [] F26M 36 bdTab) (codeOf Tryz.f138) Tryz.f138.results F26H F26A F26R (fun y => (y.1.1, y.2.1, y.2.2.1)) (a0, ())
theorem F26_eq (a0 : (Unit × List (El Y214) × El Y3 × Unit)) : F26V a0 = F26 a0 := by kernel_rfl
theorem F26_ok : FnOK Tryz.prog 138 F26S := fnOK_of (m := F26M) (fn := Tryz.f138) (hint := F26H) (pack := fun y => (y.1.1, y.2.1, y.2.2.1)) hmix tab_ok ⟨⟨F92_ok, trivial⟩, ⟨F30_ok, trivial⟩, ⟨F25_ok, trivial⟩, ⟨F29_ok, trivial⟩, trivial⟩ fun x z h => (F26_eq x.1).trans h
noncomputable def F31 : (Unit) → Option ((Unit × List (El Y214) × El Y3 × Unit)) := fun _ => some ((), [], (0 : Int), ())
abbrev F31A : Pats := (.cons (.fn 136 .nil) .nil)
abbrev F31R : Pats := (.cons (.var Y212 (.agg (.cons (.fn 136 .nil) (.cons (.own Y214 true) (.cons (.pd Y3) .nil))))) .nil)
noncomputable def F31S : Tr.Spec := { args := F31A, res := F31R, fns := [136], α := (Unit × List (El Y214) × El Y3 × Unit), f := fun x => F31 x.1, unp := fun z => (((), ()), (z, ())) }
noncomputable def F31M : List (Nat × List Tr.Spec) := [(136, [F92S])]
def F31H : Hint := .leaf
noncomputable def F31V (a0 : Unit) : Option ((Unit × List (El Y214) × El Y3 × Unit)) := evalF (mkE tyTab mapTab pkTab [] [] F31M 8 bdTab) (codeOf Tryz.f135) Tryz.f135.results F31H F31A F31R (fun y => y.2.1) (a0, ())
theorem F31_eq (a0 : Unit) : F31V a0 = F31 a0 := by kernel_rfl
theorem F31_ok : FnOK Tryz.prog 135 F31S := fnOK_of (m := F31M) (fn := Tryz.f135) (hint := F31H) (pack := fun y => y.2.1) hmix tab_ok ⟨⟨F92_ok, trivial⟩, trivial⟩ fun x z h => (F31_eq x.1).trans h
noncomputable def F90 : (El Y3) → (List (El Y3 × List (El Y183))) → (El Y3) → Option (List (El Y3 × List (El Y183)) × El Y193) := fun a0 a1 a2 =>
 Option.bind (guardB (decide ((0 : Tr.El (Tr.Ty.int .i64)) ≤ a0 ∧ a0 ≤ a0 ∧ a0 ≤ (↑maxApp : Tr.El (Tr.Ty.int .i64))))) fun _ =>
 Option.bind
 (Tr.run
 (fun s1 =>
 bif decide (s1.2 < (↑(List.length (List.replicate (Int.toNat a0) (((0 : Int), (0 : Int), (0 : Int), ())))) : Int)) then
 Option.bind (inb s1.2 (List.length s1.1)) fun x2 =>
 Option.bind s1.1[x2]? fun _ => some (.inl (List.set s1.1 x2 (s1.2, (-1 : Int), (-1 : Int), ()), IntKind.wrap .i64 (s1.2 + (1 : Int))))
 else some (.inr s1.1))
 (List.replicate (Int.toNat a0) (((0 : Int), (0 : Int), (0 : Int), ())), (0 : Int)))
 fun x4 =>
 Option.bind (F31 ()) fun x5 =>
 Option.bind (F27 ((), x5.2.1, x5.2.2.1, ()) (a2, (0 : Int), (0 : Int), ())) fun x6 =>
 Option.bind
 (Tr.run
 (fun s7 =>
 Option.bind (F26 ((), s7.2.2.1, s7.2.2.2.1, ())) fun x8 =>
 bif !x8.2.2 then some (.inr s7.1)
 else
 Option.bind (inb x8.2.1.1 (List.length s7.1)) fun x9 =>
 Option.bind s7.1[x9]? fun x10 =>
 bif decide ((0 : Int) ≤ x10.2.2.1) then some (.inl (s7.1, (), x8.1.2.1, x8.1.2.2.1, ()))
 else
 Option.bind (inb x8.2.1.1 (List.length s7.1)) fun x11 =>
 Option.bind s7.1[x11]? fun _ =>
 Option.bind
 (Tr.run
 (fun s13 =>
 bif decide (s13.2 < (↑(List.length (Option.getD (Tr.amGet (Tr.keyEq Y3) x8.2.1.1 a1) [])) : Int)) then
 Option.bind (inb s13.2 (List.length (Option.getD (Tr.amGet (Tr.keyEq Y3) x8.2.1.1 a1) []))) fun x14 =>
 Option.bind (Option.getD (Tr.amGet (Tr.keyEq Y3) x8.2.1.1 a1) [])[x14]? fun x15 =>
 Option.bind (inb x15.2.1 (List.length (List.set s7.1 x11 x8.2.1))) fun x16 =>
 Option.bind (List.set s7.1 x11 x8.2.1)[x16]? fun x17 =>
 bif decide (x17.2.2.1 < (0 : Int)) then
 Option.bind
 (F27 ((), s13.1.2.1, s13.1.2.2.1, ())
 (x15.2.1, IntKind.wrap .i64 (x8.2.1.2.1 + x15.2.2.1),
 IntKind.wrap .i64 (x8.2.1.2.2.1 + (1 : Int)), ()))
 fun x18 => some (.inl (((), x18.2.1, x18.2.2.1, ()), IntKind.wrap .i64 (s13.2 + (1 : Int))))
 else some (.inl (((), s13.1.2.1, s13.1.2.2.1, ()), IntKind.wrap .i64 (s13.2 + (1 : Int))))
 else some (.inr ((), s13.1.2.1, s13.1.2.2.1, ())))
 (((), x8.1.2.1, x8.1.2.2.1, ()), (0 : Int)))
 fun x19 => some (.inl (List.set s7.1 x11 x8.2.1, (), x19.2.1, x19.2.2.1, ())))
 (x4, (), x6.2.1, x6.2.2.1, ()))
 fun x20 => some (a1, x20)
abbrev F90A : Pats := (.cons (.pd Y3) (.cons (.mrows Y3 Y183) (.cons (.pd Y3) .nil)))
abbrev F90R : Pats := (.cons (.pd Y193) .nil)
noncomputable def F90S : Tr.Spec := { args := F90A, res := F90R, fns := [], α := List (El Y3 × List (El Y183)) × El Y193, f := fun x => F90 x.1 x.2.1 x.2.2.1, unp := fun z => (((), z.1, (), ()), (z.2, ())) }
noncomputable def F90M : List (Nat × List Tr.Spec) := [(135, [F31S]), (136, [F92S]), (137, [F27S]), (138, [F26S])]
def F90H : Hint := (.seq .leaf (.seq .leaf (.seq (.seq .leaf (.lp ⟨[(7, (.own Y201 false)), (18, (.pd Y3))], [], [1, 2, 17], []⟩ [((.exit 0), ⟨[(7, (.own Y201 false))], [], [1, 2], []⟩)] .leaf)) (.seq .leaf (.seq .leaf (.lp ⟨[(7, (.own Y201 false)), (9, (.var Y212 (.agg (.cons (.fn 136 .nil) (.cons (.own Y214 false) (.cons (.pd Y3) .nil))))))], [], [1], []⟩ [(.ret, ⟨[(6, (.own Y201 false))], [], [1], []⟩)] (.seq .leaf (.seq .leaf (.seq .leaf (.seq .leaf (.seq .leaf (.lp ⟨[(9, (.var Y212 (.agg (.cons (.fn 136 .nil) (.cons (.own Y214 false) (.cons (.pd Y3) .nil)))))), (57, (.pd Y3))], [], [1, 7, 10, 55, 56], []⟩ [((.exit 4), ⟨[(9, (.var Y212 (.agg (.cons (.fn 136 .nil) (.cons (.own Y214 false) (.cons (.pd Y3) .nil))))))], [], [1, 7], []⟩)] .leaf))))))))))))
noncomputable def F90V (a0 : El Y3) (a1 : List (El Y3 × List (El Y183))) (a2 : El Y3) : Option (List (El Y3 × List (El Y183)) × El Y193) := evalF (mkE tyTab mapTab pkTab [] [] F90M 82 bdTab) (codeOf Tryz.f125) Tryz.f125.results F90H F90A F90R (fun y => (y.1.2.1, y.2.1)) (a0, a1, a2, ())
theorem F90_eq (a0 : El Y3) (a1 : List (El Y3 × List (El Y183))) (a2 : El Y3) : F90V a0 a1 a2 = F90 a0 a1 a2 := by kernel_rfl
theorem F90_ok : FnOK Tryz.prog 125 F90S := fnOK_of (m := F90M) (fn := Tryz.f125) (hint := F90H) (pack := fun y => (y.1.2.1, y.2.1)) hmix tab_ok ⟨⟨F31_ok, trivial⟩, ⟨F92_ok, trivial⟩, ⟨F27_ok, trivial⟩, ⟨F26_ok, trivial⟩, trivial⟩ fun x z h => (F90_eq x.1 x.2.1 x.2.2.1).trans h
noncomputable def F87 : (El Y3) → (El Y181) → Option (El Y157 × El Y37) := fun a0 a1 =>
 Option.bind (F88 a0 a1 []) fun x0 =>
 bif !decide (x0 = (0 : Int)) then some ([], x0)
 else
 Option.bind (F93 a1 false) fun x1 =>
 Option.bind (guardB (decide ((0 : Tr.El (Tr.Ty.int .i64)) ≤ a0 ∧ a0 ≤ a0 ∧ a0 ≤ (↑maxApp : Tr.El (Tr.Ty.int .i64))))) fun _ =>
 Option.bind
 (Tr.run
 (fun s3 =>
 bif decide (s3.2.2 < (↑(List.length (List.replicate (Int.toNat a0) (([] : List (El Y3))))) : Int)) then
 Option.bind (F90 a0 s3.1 s3.2.2) fun x4 =>
 Option.bind (F91 x4.2) fun x5 =>
 Option.bind (inb s3.2.2 (List.length s3.2.1)) fun x6 =>
 Option.bind s3.2.1[x6]? fun _ => some (.inl (x4.1, List.set s3.2.1 x6 x5, IntKind.wrap .i64 (s3.2.2 + (1 : Int))))
 else some (.inr s3.2.1))
 (x1, List.replicate (Int.toNat a0) (([] : List (El Y3))), (0 : Int)))
 fun x8 => some (x8, (0 : Int))
abbrev F87A : Pats := (.cons (.pd Y3) (.cons (.pd Y181) .nil))
abbrev F87R : Pats := (.cons (.pd Y157) (.cons (.pd Y37) .nil))
noncomputable def F87S : Tr.Spec := { args := F87A, res := F87R, fns := [], α := El Y157 × El Y37, f := fun x => F87 x.1 x.2.1, unp := fun z => (((), (), ()), (z.1, z.2, ())) }
noncomputable def F87M : List (Nat × List Tr.Spec) := [(122, [F88S]), (123, [F93S]), (124, [F91S]), (125, [F90S])]
def F87H : Hint := (.seq .leaf (.seq .leaf (.seq .leaf (.seq .leaf (.seq .leaf (.seq (.seq .leaf (.lp ⟨[(7, (.mrows Y3 Y183)), (8, (.own Y90 false)), (22, (.pd Y3))], [], [0, 21], []⟩ [((.exit 0), ⟨[(8, (.own Y90 false))], [], [], []⟩)] .leaf)) .leaf))))))
noncomputable def F87V (a0 : El Y3) (a1 : El Y181) : Option (El Y157 × El Y37) := evalF (mkE tyTab mapTab pkTab [] [] F87M 35 bdTab) (codeOf Tryz.f120) Tryz.f120.results F87H F87A F87R (fun y => (y.2.1, y.2.2.1)) (a0, a1, ())
theorem F87_eq (a0 : El Y3) (a1 : El Y181) : F87V a0 a1 = F87 a0 a1 := by kernel_rfl
theorem F87_ok : FnOK Tryz.prog 120 F87S := fnOK_of (m := F87M) (fn := Tryz.f120) (hint := F87H) (pack := fun y => (y.2.1, y.2.2.1)) hmix tab_ok ⟨⟨F88_ok, trivial⟩, ⟨F93_ok, trivial⟩, ⟨F91_ok, trivial⟩, ⟨F90_ok, trivial⟩, trivial⟩ fun x z h => (F87_eq x.1 x.2.1).trans h
noncomputable def F22 : (El Y26) → (El Y3) → (El Y4) → Option (El Y157) := fun a0 a1 a2 =>
 Option.bind
 (Tr.run
 (fun s0 =>
 bif decide (s0.2 < (↑(List.length a0) : Int)) then
 Option.bind (idx a0 s0.2) fun x1 =>
 Option.bind (bif a2 then some !x1.2.2.2.1 else some false) fun x2 =>
 bif x2 then some (.inl (s0.1, IntKind.wrap .i64 (s0.2 + (1 : Int))))
 else
 Option.bind
 (bif !Option.isSome (Tr.amGet (Tr.keyEq Y173) (x1.1, x1.2.1, false, ()) s0.1) then some true
 else some (decide (x1.2.2.1 < Option.getD (Tr.amGet (Tr.keyEq Y173) (x1.1, x1.2.1, false, ()) s0.1) ((0 : Int)))))
 fun x3 =>
 bif x3 then some (.inl (Tr.amSet (Tr.keyEq Y173) (x1.1, x1.2.1, false, ()) x1.2.2.1 s0.1, IntKind.wrap .i64 (s0.2 + (1 : Int))))
 else some (.inl (s0.1, IntKind.wrap .i64 (s0.2 + (1 : Int))))
 else some (.inr s0.1))
 ([], (0 : Int)))
 fun x4 =>
 Option.bind
 (guardB
 (decide ((0 : Tr.El (Tr.Ty.int .i64)) ≤ (0 : Int) ∧ (0 : Int) ≤ (↑(List.length x4) : Int) ∧ (↑(List.length x4) : Int) ≤ (↑maxApp : Tr.El (Tr.Ty.int .i64)))))
 fun _ =>
 Tr.drun (fun s6 => bif List.isEmpty s6.2 then (1 : Nat) else List.length s6.2)
 (fun s6 i7 =>
 bif List.isEmpty s6.2 then some (.inr s6.1)
 else
 Option.bind s6.2[i7]? fun x8 =>
 Option.bind (guardB (decide (List.length s6.1 + List.length [(x8.1.1, x8.1.2.1, x8.2, ())] ≤ maxApp))) fun _ =>
 some (.inl (s6.1 ++ [(x8.1.1, x8.1.2.1, x8.2, ())], List.eraseIdx s6.2 i7)))
 (fun o10 => Option.bind (F87 a1 o10) fun x11 => some x11.1) (List.replicate (Int.toNat (0 : Int)) (((0 : Int), (0 : Int), (0 : Int), ())), x4)
abbrev F22A : Pats := (.cons (.pd Y26) (.cons (.pd Y3) (.cons (.pd Y4) .nil)))
abbrev F22R : Pats := (.cons (.pd Y157) .nil)
noncomputable def F22S : Tr.Spec := { args := F22A, res := F22R, fns := [], α := El Y157, f := fun x => F22 x.1 x.2.1 x.2.2.1, unp := fun z => (((), (), (), ()), (z, ())) }
noncomputable def F22M : List (Nat × List Tr.Spec) := [(120, [F87S])]
def F22H : Hint := (.seq .leaf (.seq .leaf (.seq (.seq .leaf (.lp ⟨[(7, (.map Y173 Y3)), (21, (.pd Y3))], [], [1, 2, 19, 20], []⟩ [((.exit 0), ⟨[(7, (.map Y173 Y3))], [], [1], []⟩)] (.seq .leaf (.seq .leaf (.seq (.seq .leaf (.seq (.seq (.reg [(30, Y4)]) .leaf) (.seq .leaf (.seq .leaf (.seq (.reg [(49, Y4)]) .leaf))))) .leaf))))) (.seq .leaf (.seq (.seq .leaf (.lpd 59 ⟨[(13, (.own Y183 false)), (59, (.it Y173 Y3))], [], [1], []⟩ [((.exit 2), ⟨[(13, (.own Y183 false))], [], [1], []⟩)] .leaf)) .leaf)))))
noncomputable def F22V (a0 : El Y26) (a1 : El Y3) (a2 : El Y4) : Option (El Y157) := evalF (mkE tyTab mapTab pkTab [] [] F22M 81 bdTab) (codeOf Tryz.f113) Tryz.f113.results F22H F22A F22R (fun y => y.2.1) (a0, a1, a2, ())
theorem F22_eq (a0 : El Y26) (a1 : El Y3) (a2 : El Y4) : F22V a0 a1 a2 = F22 a0 a1 a2 := by kernel_rfl
theorem F22_ok : FnOK Tryz.prog 113 F22S := fnOK_of (m := F22M) (fn := Tryz.f113) (hint := F22H) (pack := fun y => y.2.1) hmix tab_ok ⟨⟨F87_ok, trivial⟩, trivial⟩ fun x z h => (F22_eq x.1 x.2.1 x.2.2.1).trans h
noncomputable def F16 : (El Y90) → Option (El Y3) := fun a0 =>
 Option.bind
 (Tr.run
 (fun s0 =>
 bif decide (s0 < (↑(List.length a0) : Int)) then
 Option.bind (idx a0 s0) fun x1 =>
 bif !decide (x1 = (0 : Int)) then some (.inr (.inr x1)) else some (.inl (IntKind.wrap .i64 (s0 + (1 : Int))))
 else some (.inr (.inl ())))
 (0 : Int))
 fun x2 => Sum.elim (fun _ => some (0 : Int)) (fun y4 => some y4) x2
abbrev F16A : Pats := (.cons (.pd Y90) .nil)
abbrev F16R : Pats := (.cons (.pd Y3) .nil)
noncomputable def F16S : Tr.Spec := { args := F16A, res := F16R, fns := [], α := El Y3, f := fun x => F16 x.1, unp := fun z => (((), ()), (z, ())) }
noncomputable def F16M : List (Nat × List Tr.Spec) := []
def F16H : Hint := (.seq .leaf (.seq .leaf (.seq (.seq .leaf (.lp ⟨[(8, (.pd Y3))], [], [3, 6, 7], []⟩ [((.exit 0), ⟨[], [], [3], []⟩), (.ret, ⟨[(2, (.pd Y3))], [], [], []⟩)] .leaf)) .leaf)))
noncomputable def F16V (a0 : El Y90) : Option (El Y3) := evalF (mkE tyTab mapTab pkTab [] [] F16M 18 bdTab) (codeOf Tryz.f48) Tryz.f48.results F16H F16A F16R (fun y => y.2.1) (a0, ())
theorem F16_eq (a0 : El Y90) : F16V a0 = F16 a0 := by kernel_rfl
theorem F16_ok : FnOK Tryz.prog 48 F16S := fnOK_of (m := F16M) (fn := Tryz.f48) (hint := F16H) (pack := fun y => y.2.1) hmix tab_ok trivial fun x z h => (F16_eq x.1).trans h
noncomputable def F17 : (El Y3) → Option (El Y4) := fun a0 => some !decide (a0 = a0)
abbrev F17A : Pats := (.cons (.pd Y3) .nil)
abbrev F17R : Pats := (.cons (.pd Y4) .nil)
noncomputable def F17S : Tr.Spec := { args := F17A, res := F17R, fns := [], α := El Y4, f := fun x => F17 x.1, unp := fun z => (((), ()), (z, ())) }
noncomputable def F17M : List (Nat × List Tr.Spec) := []
def F17H : Hint := .leaf
noncomputable def F17V (a0 : El Y3) : Option (El Y4) := evalF (mkE tyTab mapTab pkTab [] [] F17M 6 bdTab) (codeOf Tryz.f71) Tryz.f71.results F17H F17A F17R (fun y => y.2.1) (a0, ())
theorem F17_eq (a0 : El Y3) : F17V a0 = F17 a0 := by kernel_rfl
theorem F17_ok : FnOK Tryz.prog 71 F17S := fnOK_of (m := F17M) (fn := Tryz.f71) (hint := F17H) (pack := fun y => y.2.1) hmix tab_ok trivial fun x z h => (F17_eq x.1).trans h
noncomputable def F15 : (El Y3) → (El Y3) → Option (El Y3) := fun a0 a1 =>
 Option.bind (F17 a0) fun x0 =>
 Option.bind (F17 a1) fun x1 =>
 bif x0 then bif x1 then some (0 : Int) else some (-1 : Int)
 else bif x1 then some (1 : Int) else bif decide (a0 < a1) then some (-1 : Int) else bif decide (a1 < a0) then some (1 : Int) else some (0 : Int)
abbrev F15A : Pats := (.cons (.pd Y3) (.cons (.pd Y3) .nil))
abbrev F15R : Pats := (.cons (.pd Y3) .nil)
noncomputable def F15S : Tr.Spec := { args := F15A, res := F15R, fns := [], α := El Y3, f := fun x => F15 x.1 x.2.1, unp := fun z => (((), (), ()), (z, ())) }
noncomputable def F15M : List (Nat × List Tr.Spec) := [(71, [F17S])]
def F15H : Hint := .leaf
noncomputable def F15V (a0 : El Y3) (a1 : El Y3) : Option (El Y3) := evalF (mkE tyTab mapTab pkTab [] [] F15M 20 bdTab) (codeOf Tryz.f49) Tryz.f49.results F15H F15A F15R (fun y => y.2.1) (a0, a1, ())
theorem F15_eq (a0 : El Y3) (a1 : El Y3) : F15V a0 a1 = F15 a0 a1 := by kernel_rfl
theorem F15_ok : FnOK Tryz.prog 49 F15S := fnOK_of (m := F15M) (fn := Tryz.f49) (hint := F15H) (pack := fun y => y.2.1) hmix tab_ok ⟨⟨F17_ok, trivial⟩, trivial⟩ fun x z h => (F15_eq x.1 x.2.1).trans h
noncomputable def F21 : (El Y124) → (El Y124) → Option (El Y3) := fun a0 a1 =>
 Option.bind (F15 a0.1 a1.1) fun x0 =>
 Option.bind (F15 a0.2.1 a1.2.1) fun x1 =>
 Option.bind (F15 a0.2.2.1 a1.2.2.1) fun x2 => Option.bind (F16 [x0, x1, x2]) fun x3 => some x3
abbrev F21A : Pats := (.cons (.pd Y124) (.cons (.pd Y124) .nil))
abbrev F21R : Pats := (.cons (.pd Y3) .nil)
noncomputable def F21S : Tr.Spec := { args := F21A, res := F21R, fns := [], α := El Y3, f := fun x => F21 x.1 x.2.1, unp := fun z => (((), (), ()), (z, ())) }
noncomputable def F21M : List (Nat × List Tr.Spec) := [(48, [F16S]), (49, [F15S])]
def F21H : Hint := .leaf
noncomputable def F21V (a0 : El Y124) (a1 : El Y124) : Option (El Y3) := evalF (mkE tyTab mapTab pkTab [] [] F21M 22 bdTab) (codeOf Tryz.f116) Tryz.f116.results F21H F21A F21R (fun y => y.2.1) (a0, a1, ())
theorem F21_eq (a0 : El Y124) (a1 : El Y124) : F21V a0 a1 = F21 a0 a1 := by kernel_rfl
theorem F21_ok : FnOK Tryz.prog 116 F21S := fnOK_of (m := F21M) (fn := Tryz.f116) (hint := F21H) (pack := fun y => y.2.1) hmix tab_ok ⟨⟨F16_ok, trivial⟩, ⟨F15_ok, trivial⟩, trivial⟩ fun x z h => (F21_eq x.1 x.2.1).trans h
noncomputable def F96 (a0 : List (El Y124)) (_ : Unit) : Option (List (El Y124)) := Tr.sortF F21 a0
abbrev F96A : Pats := (.cons (.own Y124 true) (.cons (.fn 116 .nil) .nil))
abbrev F96R : Pats := .nil
noncomputable def F96S : Tr.Spec := { args := F96A, res := F96R, fns := [116], α := List (El Y124), f := fun x => F96 x.1 x.2.1, unp := fun z => ((z, (), ()), ()) }
theorem F96_ok : FnOK Tryz.prog 115 F96S := Tr.sortFunc_ok (ρ := Tryz.sort115_ren) Tryz.sort115 rfl Tryz.isAgg124 Tryz.sizeOf124 F21_ok
noncomputable def F20 : (El Y3) → (El Y3) → (El Y3) → (El Y4) → (List (El Y124)) → Option (List (El Y124)) := fun a0 a1 a2 a3 a4 =>
 Option.bind (bif decide ((0 : Int) < a2) then some (decide (a2 ≤ (14400 : Int))) else some false) fun x0 =>
 bif x0 then Option.bind (guardB (decide (List.length a4 + List.length [(a0, a1, a2, a3, ())] ≤ maxApp))) fun _ => some (a4 ++ [(a0, a1, a2, a3, ())]) else some a4
abbrev F20A : Pats := (.cons (.pd Y3) (.cons (.pd Y3) (.cons (.pd Y3) (.cons (.pd Y4) (.cons (.var Y26 (.own Y124 false)) .nil)))))
abbrev F20R : Pats := .nil
noncomputable def F20S : Tr.Spec := { args := F20A, res := F20R, fns := [], α := List (El Y124), f := fun x => F20 x.1 x.2.1 x.2.2.1 x.2.2.2.1 x.2.2.2.2.1, unp := fun z => (((), (), (), (), z, ()), ()) }
noncomputable def F20M : List (Nat × List Tr.Spec) := []
def F20H : Hint := (.seq (.reg [(14, Y4)]) .leaf)
noncomputable def F20V (a0 : El Y3) (a1 : El Y3) (a2 : El Y3) (a3 : El Y4) (a4 : List (El Y124)) : Option (List (El Y124)) := evalF (mkE tyTab mapTab pkTab [] [] F20M 23 bdTab) (codeOf Tryz.f114) Tryz.f114.results F20H F20A F20R (fun y => y.1.2.2.2.2.1) (a0, a1, a2, a3, a4, ())
theorem F20_eq (a0 : El Y3) (a1 : El Y3) (a2 : El Y3) (a3 : El Y4) (a4 : List (El Y124)) : F20V a0 a1 a2 a3 a4 = F20 a0 a1 a2 a3 a4 := by kernel_rfl
theorem F20_ok : FnOK Tryz.prog 114 F20S := fnOK_of (m := F20M) (fn := Tryz.f114) (hint := F20H) (pack := fun y => y.1.2.2.2.2.1) hmix tab_ok trivial fun x z h => (F20_eq x.1 x.2.1 x.2.2.1 x.2.2.2.1 x.2.2.2.2.1).trans h
noncomputable def F19 : (El Y26) → (El Y3) → Option (El Y26) := fun a0 a1 =>
 Option.bind (F22 a0 a1 false) fun x0 =>
 Option.bind (F22 a0 a1 true) fun x1 =>
 Option.bind
 (Tr.run
 (fun s2 =>
 bif decide (s2.2 < (↑(List.length x0) : Int)) then
 Option.bind (idx x0 s2.2) fun x3 =>
 Option.bind
 (Tr.run
 (fun s4 =>
 bif decide (s4.2 < (↑(List.length x3) : Int)) then
 Option.bind (idx x3 s4.2) fun x5 =>
 bif decide (s2.2 = s4.2) then some (.inl (s4.1, IntKind.wrap .i64 (s4.2 + (1 : Int))))
 else
 Option.bind (idx x1 s2.2) fun x6 =>
 Option.bind (idx x6 s4.2) fun x7 =>
 Option.bind (F20 s2.2 s4.2 x5 (decide (x7 = x5)) s4.1) fun x8 =>
 bif !decide (x7 = x5) then
 Option.bind (F20 s2.2 s4.2 x7 true x8) fun x9 => some (.inl (x9, IntKind.wrap .i64 (s4.2 + (1 : Int))))
 else some (.inl (x8, IntKind.wrap .i64 (s4.2 + (1 : Int))))
 else some (.inr s4.1))
 (s2.1, (0 : Int)))
 fun x10 => some (.inl (x10, IntKind.wrap .i64 (s2.2 + (1 : Int))))
 else some (.inr s2.1))
 ([], (0 : Int)))
 fun x11 => Option.bind (F96 x11 ()) fun x12 => some x12
abbrev F19A : Pats := (.cons (.pd Y26) (.cons (.pd Y3) .nil))
abbrev F19R : Pats := (.cons (.pd Y26) .nil)
noncomputable def F19S : Tr.Spec := { args := F19A, res := F19R, fns := [], α := El Y26, f := fun x => F19 x.1 x.2.1, unp := fun z => (((), (), ()), (z, ())) }
noncomputable def F19M : List (Nat × List Tr.Spec) := [(113, [F22S]), (114, [F20S]), (115, [F96S]), (116, [F21S])]
def F19H : Hint := (.seq .leaf (.seq .leaf (.seq .leaf (.seq .leaf (.seq (.seq .leaf (.lp ⟨[(7, (.var Y26 (.own Y124 false))), (22, (.pd Y3))], [(8, 114, [7])], [5, 6, 21], []⟩ [((.exit 0), ⟨[(7, (.var Y26 (.own Y124 false)))], [], [], []⟩)] (.seq .leaf (.seq .leaf (.seq (.seq .leaf (.seq .leaf (.lp ⟨[(7, (.var Y26 (.own Y124 false))), (30, (.pd Y3))], [(8, 114, [7])], [5, 6, 9, 21, 22, 28, 29], []⟩ [((.exit 2), ⟨[(7, (.var Y26 (.own Y124 false)))], [(8, 114, [7])], [5, 6, 21, 22], []⟩)] .leaf))) .leaf))))) .leaf)))))
noncomputable def F19V (a0 : El Y26) (a1 : El Y3) : Option (El Y26) := evalF (mkE tyTab mapTab pkTab [] [] F19M 66 bdTab) (codeOf Tryz.f103) Tryz.f103.results F19H F19A F19R (fun y => y.2.1) (a0, a1, ())
theorem F19_eq (a0 : El Y26) (a1 : El Y3) : F19V a0 a1 = F19 a0 a1 := by kernel_rfl
theorem F19_ok : FnOK Tryz.prog 103 F19S := fnOK_of (m := F19M) (fn := Tryz.f103) (hint := F19H) (pack := fun y => y.2.1) hmix tab_ok ⟨⟨F22_ok, trivial⟩, ⟨F20_ok, trivial⟩, ⟨F96_ok, trivial⟩, ⟨F21_ok, trivial⟩, trivial⟩ fun x z h => (F19_eq x.1 x.2.1).trans h
noncomputable def F18 : (El Y26) → (El Y3) → Option (El Y4) := fun a0 a1 =>
 bif decide ((64 : Int) < a1) then some false
 else
 Option.bind (F23 a0 a1) fun x0 =>
 bif !decide (x0.2 = (0 : Int)) then some false
 else
 Option.bind (F19 a0 (Tr.imax a1 (0 : Int))) fun x1 =>
 bif !decide ((↑(List.length x1) : Int) = (↑(List.length a0) : Int)) then some false
 else
 Option.bind
 (Tr.run
 (fun s2 =>
 bif decide (s2 < (↑(List.length x1) : Int)) then
 Option.bind (idx x1 s2) fun x3 =>
 Option.bind (idx a0 s2) fun x4 =>
 bif
 !(decide (x3.1 = x4.1) &&
 (decide (x3.2.1 = x4.2.1) && (decide (x3.2.2.1 = x4.2.2.1) && x3.2.2.2.1 == x4.2.2.2.1))) then
 some (.inr (.inr false))
 else some (.inl (IntKind.wrap .i64 (s2 + (1 : Int))))
 else some (.inr (.inl ())))
 (0 : Int))
 fun x5 => Sum.elim (fun _ => some true) (fun y7 => some y7) x5
abbrev F18A : Pats := (.cons (.pd Y26) (.cons (.pd Y3) .nil))
abbrev F18R : Pats := (.cons (.pd Y4) .nil)
noncomputable def F18S : Tr.Spec := { args := F18A, res := F18R, fns := [], α := El Y4, f := fun x => F18 x.1 x.2.1, unp := fun z => (((), (), ()), (z, ())) }
noncomputable def F18M : List (Nat × List Tr.Spec) := [(102, [F23S]), (103, [F19S])]
def F18H : Hint := (.seq .leaf (.seq .leaf (.seq .leaf (.seq .leaf (.seq .leaf (.seq (.seq .leaf (.lp ⟨[(30, (.pd Y3))], [], [0, 7, 29], []⟩ [((.exit 0), ⟨[], [], [], []⟩), (.ret, ⟨[(4, (.pd Y4))], [], [], []⟩)] .leaf)) .leaf))))))
noncomputable def F18V (a0 : El Y26) (a1 : El Y3) : Option (El Y4) := evalF (mkE tyTab mapTab pkTab [] [] F18M 43 bdTab) (codeOf Tryz.f85) Tryz.f85.results F18H F18A F18R (fun y => y.2.1) (a0, a1, ())
theorem F18_eq (a0 : El Y26) (a1 : El Y3) : F18V a0 a1 = F18 a0 a1 := by kernel_rfl
theorem F18_ok : FnOK Tryz.prog 85 F18S := fnOK_of (m := F18M) (fn := Tryz.f85) (hint := F18H) (pack := fun y => y.2.1) hmix tab_ok ⟨⟨F23_ok, trivial⟩, ⟨F19_ok, trivial⟩, trivial⟩ fun x z h => (F18_eq x.1 x.2.1).trans h
noncomputable def F50 : (El Y31) → Option (El Y106) := fun a0 =>
 Option.bind
 (Tr.run
 (fun s0 =>
 bif decide (s0.2.2 < (↑(List.length a0.2.2.2.2.1) : Int)) then
 Option.bind (idx a0.2.2.2.2.1 s0.2.2) fun x1 =>
 Option.bind
 (Option.bind (F55 x1.1 (↑(List.length a0.1) : Int)) fun x2 =>
 bif !x2 then some true
 else Option.bind (F55 x1.2.1 (↑(List.length a0.1) : Int)) fun x3 => bif !x3 then some true else some (decide (x1.1 = x1.2.1)))
 fun x4 =>
 bif x4 then Option.bind (F54 (4 : Int) s0.2.2 (9 : Int)) fun x5 => some (.inr (.inr x5))
 else
 Option.bind (bif decide (x1.2.2.1 < (1 : Int)) then some true else some (decide ((14400 : Int) < x1.2.2.1))) fun x6 =>
 bif x6 then Option.bind (F54 (4 : Int) s0.2.2 (2 : Int)) fun x7 => some (.inr (.inr x7))
 else
 bif Option.getD (Tr.amGet (Tr.keyEq Y124) (x1.1, x1.2.1, (0 : Int), x1.2.2.2.1, ()) s0.2.1) (false) then
 Option.bind (F54 (4 : Int) s0.2.2 (6 : Int)) fun x8 => some (.inr (.inr x8))
 else
 some
 (.inl
 (s0.1, Tr.amSet (Tr.keyEq Y124) (x1.1, x1.2.1, (0 : Int), x1.2.2.2.1, ()) true s0.2.1, IntKind.wrap .i64 (s0.2.2 + (1 : Int))))
 else some (.inr (.inl s0.1)))
 (((0 : Int), (0 : Int), (0 : Int), ()), [], (0 : Int)))
 fun x9 =>
 Sum.elim
 (fun _ =>
 Option.bind (F18 a0.2.2.2.2.1 (↑(List.length a0.1) : Int)) fun x11 =>
 bif !x11 then Option.bind (F54 (4 : Int) (0 : Int) (18 : Int)) fun x12 => some x12 else some ((0 : Int), (0 : Int), (0 : Int), ()))
 (fun y13 => some y13) x9
abbrev F50A : Pats := (.cons (.pd Y31) .nil)
abbrev F50R : Pats := (.cons (.pd Y106) .nil)
noncomputable def F50S : Tr.Spec := { args := F50A, res := F50R, fns := [], α := El Y106, f := fun x => F50 x.1, unp := fun z => (((), ()), (z, ())) }
noncomputable def F50M : List (Nat × List Tr.Spec) := [(64, [F54S]), (82, [F55S]), (85, [F18S])]
def F50H : Hint := (.seq .leaf (.seq .leaf (.seq (.seq .leaf (.lp ⟨[(2, (.var Y106 (.pd Y106))), (3, (.map Y124 Y4)), (11, (.pd Y3))], [], [1, 9, 10], []⟩ [((.exit 0), ⟨[(2, (.var Y106 (.pd Y106)))], [], [1], []⟩), (.ret, ⟨[(2, (.var Y106 (.pd Y106)))], [], [], []⟩)] (.seq .leaf (.seq .leaf (.seq (.seq .leaf (.seq .leaf (.seq (.seq (.reg [(23, Y4)]) (.cnd none .leaf (.seq (.reg [(49, Y4)]) .leaf))) .leaf))) .leaf))))) .leaf)))
noncomputable def F50V (a0 : El Y31) : Option (El Y106) := evalF (mkE tyTab mapTab pkTab [] [] F50M 78 bdTab) (codeOf Tryz.f68) Tryz.f68.results F50H F50A F50R (fun y => y.2.1) (a0, ())
theorem F50_eq (a0 : El Y31) : F50V a0 = F50 a0 := by kernel_rfl
theorem F50_ok : FnOK Tryz.prog 68 F50S := fnOK_of (m := F50M) (fn := Tryz.f68) (hint := F50H) (pack := fun y => y.2.1) hmix tab_ok ⟨⟨F54_ok, trivial⟩, ⟨F55_ok, trivial⟩, ⟨F18_ok, trivial⟩, trivial⟩ fun x z h => (F50_eq x.1).trans h
noncomputable def F48 : (El Y31) → Option (El Y3 × El Y3 × El Y37) := fun a0 =>
 Option.bind (F98 a0.1) fun x0 =>
 Option.bind (F85 a0.2.1) fun x1 =>
 Option.bind (F54 (0 : Int) x0.1 x0.2) fun x2 =>
 Option.bind (F54 (1 : Int) x1.1 x1.2) fun x3 =>
 Option.bind (F52 [x2, x3]) fun x4 =>
 Option.bind (bif decide (x4.2.2.1 = (0 : Int)) then Option.bind (F51 a0) fun x5 => some x5 else some x4) fun x6 =>
 Option.bind (bif decide (x6.2.2.1 = (0 : Int)) then Option.bind (F49 a0) fun x7 => some x7 else some x6) fun x8 =>
 Option.bind
 (bif decide (x8.2.2.1 = (0 : Int)) then
 Option.bind (F56 a0.2.2.2.2.2.1) fun x9 =>
 Option.bind (F50 a0) fun x10 => Option.bind (F54 (5 : Int) x9.1 x9.2) fun x11 => Option.bind (F52 [x10, x11]) fun x12 => some x12
 else some x8)
 fun x13 => some (x13.1, x13.2.1, x13.2.2.1)
abbrev F48A : Pats := (.cons (.pd Y31) .nil)
abbrev F48R : Pats := (.cons (.pd Y3) (.cons (.pd Y3) (.cons (.pd Y37) .nil)))
noncomputable def F48S : Tr.Spec := { args := F48A, res := F48R, fns := [], α := El Y3 × El Y3 × El Y37, f := fun x => F48 x.1, unp := fun z => (((), ()), (z.1, z.2.1, z.2.2, ())) }
noncomputable def F48M : List (Nat × List Tr.Spec) := [(61, [F98S]), (62, [F85S]), (63, [F52S]), (64, [F54S]), (65, [F51S]), (66, [F49S]), (67, [F56S]), (68, [F50S])]
def F48H : Hint := (.seq .leaf (.seq .leaf (.seq .leaf (.seq .leaf (.seq (.seq .leaf (.cnd (some (⟨[], [], [1], []⟩, [(.normal, ⟨[(9, (.var Y106 (.pd Y106)))], [], [1], []⟩)])) .leaf .leaf)) (.seq (.seq .leaf (.cnd (some (⟨[], [], [1], []⟩, [(.normal, ⟨[(9, (.var Y106 (.pd Y106)))], [], [1], []⟩)])) .leaf .leaf)) (.seq (.seq .leaf (.cnd (some (⟨[], [], [], []⟩, [(.normal, ⟨[(9, (.var Y106 (.pd Y106)))], [], [], []⟩)])) .leaf .leaf)) .leaf)))))))
noncomputable def F48V (a0 : El Y31) : Option (El Y3 × El Y3 × El Y37) := evalF (mkE tyTab mapTab pkTab [] [] F48M 64 bdTab) (codeOf Tryz.f45) Tryz.f45.results F48H F48A F48R (fun y => (y.2.1, y.2.2.1, y.2.2.2.1)) (a0, ())
theorem F48_eq (a0 : El Y31) : F48V a0 = F48 a0 := by kernel_rfl
theorem F48_ok : FnOK Tryz.prog 45 F48S := fnOK_of (m := F48M) (fn := Tryz.f45) (hint := F48H) (pack := fun y => (y.2.1, y.2.2.1, y.2.2.2.1)) hmix tab_ok ⟨⟨F98_ok, trivial⟩, ⟨F85_ok, trivial⟩, ⟨F52_ok, trivial⟩, ⟨F54_ok, trivial⟩, ⟨F51_ok, trivial⟩, ⟨F49_ok, trivial⟩, ⟨F56_ok, trivial⟩, ⟨F50_ok, trivial⟩, trivial⟩ fun x z h => (F48_eq x.1).trans h
noncomputable def F8 : (El Y31) → (El Y90) → Option (El Y37) := fun a0 a1 =>
 Option.bind (F48 a0) fun x0 =>
 bif !decide (x0.2.2 = (0 : Int)) then some (21 : Int)
 else
 Option.bind
 (Tr.run
 (fun s1 =>
 bif decide (s1 < (↑(List.length a1) : Int)) then
 Option.bind (idx a1 s1) fun x2 =>
 Option.bind (bif decide (x2 < (0 : Int)) then some true else some (decide ((↑(List.length a0.1) : Int) ≤ x2))) fun x3 =>
 bif x3 then some (.inr (.inr (13 : Int))) else some (.inl (IntKind.wrap .i64 (s1 + (1 : Int))))
 else some (.inr (.inl ())))
 (0 : Int))
 fun x4 => Sum.elim (fun _ => some (0 : Int)) (fun y6 => some y6) x4
abbrev F8A : Pats := (.cons (.pd Y31) (.cons (.pd Y90) .nil))
abbrev F8R : Pats := (.cons (.pd Y37) .nil)
noncomputable def F8S : Tr.Spec := { args := F8A, res := F8R, fns := [], α := El Y37, f := fun x => F8 x.1 x.2.1, unp := fun z => (((), (), ()), (z, ())) }
noncomputable def F8M : List (Nat × List Tr.Spec) := [(45, [F48S])]
def F8H : Hint := (.seq .leaf (.seq .leaf (.seq (.seq .leaf (.lp ⟨[(20, (.pd Y3))], [], [2, 18, 19], []⟩ [((.exit 0), ⟨[], [], [], []⟩), (.ret, ⟨[(4, (.pd Y37))], [], [], []⟩)] (.seq .leaf (.seq .leaf (.seq (.seq .leaf (.seq (.reg [(32, Y4)]) .leaf)) .leaf))))) .leaf)))
noncomputable def F8V (a0 : El Y31) (a1 : El Y90) : Option (El Y37) := evalF (mkE tyTab mapTab pkTab [] [] F8M 34 bdTab) (codeOf Tryz.f27) Tryz.f27.results F8H F8A F8R (fun y => y.2.1) (a0, a1, ())
theorem F8_eq (a0 : El Y31) (a1 : El Y90) : F8V a0 a1 = F8 a0 a1 := by kernel_rfl
theorem F8_ok : FnOK Tryz.prog 27 F8S := fnOK_of (m := F8M) (fn := Tryz.f27) (hint := F8H) (pack := fun y => y.2.1) hmix tab_ok ⟨⟨F48_ok, trivial⟩, trivial⟩ fun x z h => (F8_eq x.1 x.2.1).trans h
noncomputable def F9 : (El Y51) → (El Y51) → Option (El Y3) := fun a0 a1 =>
 Option.bind (F15 a0.2.2.1 a1.2.2.1) fun x0 =>
 Option.bind (F15 a0.1 a1.1) fun x1 => Option.bind (F15 a0.2.1 a1.2.1) fun x2 => Option.bind (F16 [x0, x1, x2]) fun x3 => some x3
abbrev F9A : Pats := (.cons (.pd Y51) (.cons (.pd Y51) .nil))
abbrev F9R : Pats := (.cons (.pd Y3) .nil)
noncomputable def F9S : Tr.Spec := { args := F9A, res := F9R, fns := [], α := El Y3, f := fun x => F9 x.1 x.2.1, unp := fun z => (((), (), ()), (z, ())) }
noncomputable def F9M : List (Nat × List Tr.Spec) := [(48, [F16S]), (49, [F15S])]
def F9H : Hint := .leaf
noncomputable def F9V (a0 : El Y51) (a1 : El Y51) : Option (El Y3) := evalF (mkE tyTab mapTab pkTab [] [] F9M 22 bdTab) (codeOf Tryz.f47) Tryz.f47.results F9H F9A F9R (fun y => y.2.1) (a0, a1, ())
theorem F9_eq (a0 : El Y51) (a1 : El Y51) : F9V a0 a1 = F9 a0 a1 := by kernel_rfl
theorem F9_ok : FnOK Tryz.prog 47 F9S := fnOK_of (m := F9M) (fn := Tryz.f47) (hint := F9H) (pack := fun y => y.2.1) hmix tab_ok ⟨⟨F16_ok, trivial⟩, ⟨F15_ok, trivial⟩, trivial⟩ fun x z h => (F9_eq x.1 x.2.1).trans h
noncomputable def F97 (a0 : List (El Y51)) (_ : Unit) : Option (List (El Y51)) := Tr.sortF F9 a0
abbrev F97A : Pats := (.cons (.own Y51 true) (.cons (.fn 47 .nil) .nil))
abbrev F97R : Pats := .nil
noncomputable def F97S : Tr.Spec := { args := F97A, res := F97R, fns := [47], α := List (El Y51), f := fun x => F97 x.1 x.2.1, unp := fun z => ((z, (), ()), ()) }
theorem F97_ok : FnOK Tryz.prog 46 F97S := Tr.sortFunc_ok (ρ := Tryz.sort46_ren) Tryz.sort46 rfl Tryz.isAgg51 Tryz.sizeOf51 F9_ok
noncomputable def F3 : (El Y52) → (El Y3) → (El Y3) → (El Y3) → Option (El Y3 × El Y4) := fun a0 a1 a2 a3 =>
 Option.bind (idx a0 a1) fun x0 =>
 Option.bind
 (bif x0.2.2.2.1 then
 bif decide (IntKind.wrap .i64 (a1 + (1 : Int)) < (↑(List.length a0) : Int)) then
 bif decide (a2 ≤ x0.2.2.1) then some (x0.2.2.1, decide (x0.2.2.1 < a3)) else some (x0.2.2.1, false)
 else some (x0.2.2.1, false)
 else some (x0.2.2.1, false))
 fun x1 => some (x1.1, x1.2)
abbrev F3A : Pats := (.cons (.pd Y52) (.cons (.pd Y3) (.cons (.ro Y3) (.cons (.ro Y3) .nil))))
abbrev F3R : Pats := (.cons (.pd Y3) (.cons (.pd Y4) .nil))
noncomputable def F3S : Tr.Spec := { args := F3A, res := F3R, fns := [], α := El Y3 × El Y4, f := fun x => F3 x.1 x.2.1 x.2.2.1 x.2.2.2.1, unp := fun z => (((), (), (), (), ()), (z.1, z.2, ())) }
noncomputable def F3M : List (Nat × List Tr.Spec) := []
def F3H : Hint := (.seq .leaf (.seq .leaf (.seq (.reg [(6, Y3), (7, Y4)]) .leaf)))
noncomputable def F3V (a0 : El Y52) (a1 : El Y3) (a2 : El Y3) (a3 : El Y3) : Option (El Y3 × El Y4) := evalF (mkE tyTab mapTab pkTab [] [] F3M 36 bdTab) (codeOf Tryz.f29) Tryz.f29.results F3H F3A F3R (fun y => (y.2.1, y.2.2.1)) (a0, a1, a2, a3, ())
theorem F3_eq (a0 : El Y52) (a1 : El Y3) (a2 : El Y3) (a3 : El Y3) : F3V a0 a1 a2 a3 = F3 a0 a1 a2 a3 := by kernel_rfl
theorem F3_ok : FnOK Tryz.prog 29 F3S := fnOK_of (m := F3M) (fn := Tryz.f29) (hint := F3H) (pack := fun y => (y.2.1, y.2.2.1)) hmix tab_ok trivial fun x z h => (F3_eq x.1 x.2.1 x.2.2.1 x.2.2.2.1).trans h
noncomputable def F11 : (El Y31) → (El Y3) → ((El Y3 × El Y3 × Unit)) → Option (El Y36) := fun a0 a1 a2 =>
 Option.bind
 (Tr.run
 (fun s0 =>
 bif decide (s0.2 < (↑(List.length a0.2.2.1) : Int)) then
 Option.bind (idx a0.2.2.1 s0.2) fun x1 =>
 bif x1.2.2.2.2.2.2.1 then some (.inl (s0.1, IntKind.wrap .i64 (s0.2 + (1 : Int))))
 else
 Option.bind
 (Tr.run
 (fun s2 =>
 bif decide (s2.2 < (↑(List.length x1.2.2.2.2.2.2.2.1) : Int)) then
 Option.bind (idx x1.2.2.2.2.2.2.2.1 s2.2) fun x3 =>
 bif !decide (x3.1 = a1) then some (.inl (s2.1, IntKind.wrap .i64 (s2.2 + (1 : Int))))
 else
 Option.bind (F3 x1.2.2.2.2.2.2.2.1 s2.2 a2.1 a2.2.1) fun x4 =>
 bif x4.2 then
 Option.bind (guardB (decide (List.length s2.1 + List.length [(s0.2, s2.2, x4.1, ())] ≤ maxApp))) fun _ =>
 some (.inl (s2.1 ++ [(s0.2, s2.2, x4.1, ())], IntKind.wrap .i64 (s2.2 + (1 : Int))))
 else some (.inl (s2.1, IntKind.wrap .i64 (s2.2 + (1 : Int))))
 else some (.inr s2.1))
 (s0.1, (0 : Int)))
 fun x6 => some (.inl (x6, IntKind.wrap .i64 (s0.2 + (1 : Int))))
 else some (.inr s0.1))
 ([], (0 : Int)))
 fun x7 => Option.bind (F97 x7 ()) fun x8 => some x8
abbrev F11A : Pats := (.cons (.pd Y31) (.cons (.pd Y3) (.cons (.fn 29 (.cons (.ro Y3) (.cons (.ro Y3) .nil))) .nil)))
abbrev F11R : Pats := (.cons (.pd Y36) .nil)
noncomputable def F11S : Tr.Spec := { args := F11A, res := F11R, fns := [29], α := El Y36, f := fun x => F11 x.1 x.2.1 x.2.2.1, unp := fun z => (((), (), ((), (), ()), ()), (z, ())) }
noncomputable def F11M : List (Nat × List Tr.Spec) := [(29, [F3S]), (46, [F97S]), (47, [F9S])]
def F11H : Hint := (.seq .leaf (.seq .leaf (.seq .leaf (.seq (.seq .leaf (.lp ⟨[(7, (.own Y51 false)), (17, (.pd Y3))], [], [1, 2, 15, 16], []⟩ [((.exit 0), ⟨[(7, (.own Y51 false))], [], [2], []⟩)] (.seq .leaf (.seq .leaf (.seq (.seq .leaf (.seq .leaf (.seq .leaf (.lp ⟨[(7, (.own Y51 false)), (27, (.pd Y3))], [], [1, 2, 8, 9, 15, 16, 17, 25, 26], []⟩ [((.exit 2), ⟨[(7, (.own Y51 false))], [], [1, 2, 15, 16, 17], []⟩)] .leaf)))) .leaf))))) .leaf))))
noncomputable def F11V (a0 : El Y31) (a1 : El Y3) (a2 : (El Y3 × El Y3 × Unit)) : Option (El Y36) := evalF (mkE tyTab mapTab pkTab [] [] F11M 57 bdTab) (codeOf Tryz.f28) Tryz.f28.results F11H F11A F11R (fun y => y.2.1) (a0, a1, a2, ())
theorem F11_eq (a0 : El Y31) (a1 : El Y3) (a2 : (El Y3 × El Y3 × Unit)) : F11V a0 a1 a2 = F11 a0 a1 a2 := by kernel_rfl
theorem F11_ok : FnOK Tryz.prog 28 F11S := fnOK_of (m := F11M) (fn := Tryz.f28) (hint := F11H) (pack := fun y => y.2.1) hmix tab_ok ⟨⟨F3_ok, trivial⟩, ⟨F97_ok, trivial⟩, ⟨F9_ok, trivial⟩, trivial⟩ fun x z h => (F11_eq x.1 x.2.1 x.2.2.1).trans h
noncomputable def F2 : (El Y31) → (El Y3) → (El Y3) → (El Y3) → Option (El Y36 × El Y37) := fun a0 a1 a2 a3 =>
 Option.bind (F8 a0 [a1]) fun x0 =>
 bif !decide (x0 = (0 : Int)) then some ([], x0) else Option.bind (F11 a0 a1 (a2, a3, ())) fun x1 => some (x1, (0 : Int))
abbrev F2A : Pats := (.cons (.pd Y31) (.cons (.pd Y3) (.cons (.pd Y3) (.cons (.pd Y3) .nil))))
abbrev F2R : Pats := (.cons (.pd Y36) (.cons (.pd Y37) .nil))
noncomputable def F2S : Tr.Spec := { args := F2A, res := F2R, fns := [], α := El Y36 × El Y37, f := fun x => F2 x.1 x.2.1 x.2.2.1 x.2.2.2.1, unp := fun z => (((), (), (), (), ()), (z.1, z.2, ())) }
noncomputable def F2M : List (Nat × List Tr.Spec) := [(27, [F8S]), (28, [F11S]), (29, [F3S])]
def F2H : Hint := .leaf
noncomputable def F2V (a0 : El Y31) (a1 : El Y3) (a2 : El Y3) (a3 : El Y3) : Option (El Y36 × El Y37) := evalF (mkE tyTab mapTab pkTab [] [] F2M 22 bdTab) (codeOf Tryz.f12) Tryz.f12.results F2H F2A F2R (fun y => (y.2.1, y.2.2.1)) (a0, a1, a2, a3, ())
theorem F2_eq (a0 : El Y31) (a1 : El Y3) (a2 : El Y3) (a3 : El Y3) : F2V a0 a1 a2 a3 = F2 a0 a1 a2 a3 := by kernel_rfl
theorem F2_ok : FnOK Tryz.prog 12 F2S := fnOK_of (m := F2M) (fn := Tryz.f12) (hint := F2H) (pack := fun y => (y.2.1, y.2.2.1)) hmix tab_ok ⟨⟨F8_ok, trivial⟩, ⟨F11_ok, trivial⟩, ⟨F3_ok, trivial⟩, trivial⟩ fun x z h => (F2_eq x.1 x.2.1 x.2.2.1 x.2.2.2.1).trans h
noncomputable def F79 : (El Y36) → (El Y36) → Option (El Y4) := fun a0 a1 =>
 bif !decide ((↑(List.length a0) : Int) = (↑(List.length a1) : Int)) then some false
 else
 Option.bind
 (Tr.run
 (fun s0 =>
 bif decide (s0 < (↑(List.length a0) : Int)) then
 Option.bind (idx a0 s0) fun x1 =>
 Option.bind (idx a1 s0) fun x2 =>
 bif !(decide (x1.1 = x2.1) && (decide (x1.2.1 = x2.2.1) && decide (x1.2.2.1 = x2.2.2.1))) then
 some (.inr (.inr false))
 else some (.inl (IntKind.wrap .i64 (s0 + (1 : Int))))
 else some (.inr (.inl ())))
 (0 : Int))
 fun x3 => Sum.elim (fun _ => some true) (fun y5 => some y5) x3
abbrev F79A : Pats := (.cons (.pd Y36) (.cons (.pd Y36) .nil))
abbrev F79R : Pats := (.cons (.pd Y4) .nil)
noncomputable def F79S : Tr.Spec := { args := F79A, res := F79R, fns := [], α := El Y4, f := fun x => F79 x.1 x.2.1, unp := fun z => (((), (), ()), (z, ())) }
noncomputable def F79M : List (Nat × List Tr.Spec) := []
def F79H : Hint := (.seq .leaf (.seq .leaf (.seq (.seq .leaf (.lp ⟨[(5, (.pd Y3))], [], [0, 1], []⟩ [((.exit 0), ⟨[], [], [], []⟩), (.ret, ⟨[(4, (.pd Y4))], [], [], []⟩)] .leaf)) .leaf)))
noncomputable def F79V (a0 : El Y36) (a1 : El Y36) : Option (El Y4) := evalF (mkE tyTab mapTab pkTab [] [] F79M 26 bdTab) (codeOf Tryz.f14) Tryz.f14.results F79H F79A F79R (fun y => y.2.1) (a0, a1, ())
theorem F79_eq (a0 : El Y36) (a1 : El Y36) : F79V a0 a1 = F79 a0 a1 := by kernel_rfl
theorem F79_ok : FnOK Tryz.prog 14 F79S := fnOK_of (m := F79M) (fn := Tryz.f14) (hint := F79H) (pack := fun y => y.2.1) hmix tab_ok trivial fun x z h => (F79_eq x.1 x.2.1).trans h
noncomputable def F1 : (El Y52) → (El Y3) → (El Y3) → (El Y3) → Option (El Y3 × El Y4) := fun a0 a1 a2 a3 =>
 Option.bind (idx a0 a1) fun x0 =>
 Option.bind
 (bif x0.2.2.2.2.1 then
 bif decide ((0 : Int) < a1) then bif decide (a2 ≤ x0.2.1) then some (x0.2.1, decide (x0.2.1 < a3)) else some (x0.2.1, false)
 else some (x0.2.1, false)
 else some (x0.2.1, false))
 fun x1 => some (x1.1, x1.2)
abbrev F1A : Pats := (.cons (.pd Y52) (.cons (.pd Y3) (.cons (.ro Y3) (.cons (.ro Y3) .nil))))
abbrev F1R : Pats := (.cons (.pd Y3) (.cons (.pd Y4) .nil))
noncomputable def F1S : Tr.Spec := { args := F1A, res := F1R, fns := [], α := El Y3 × El Y4, f := fun x => F1 x.1 x.2.1 x.2.2.1 x.2.2.2.1, unp := fun z => (((), (), (), (), ()), (z.1, z.2, ())) }
noncomputable def F1M : List (Nat × List Tr.Spec) := []
def F1H : Hint := (.seq .leaf (.seq .leaf (.seq (.reg [(6, Y3), (7, Y4)]) .leaf)))
noncomputable def F1V (a0 : El Y52) (a1 : El Y3) (a2 : El Y3) (a3 : El Y3) : Option (El Y3 × El Y4) := evalF (mkE tyTab mapTab pkTab [] [] F1M 33 bdTab) (codeOf Tryz.f33) Tryz.f33.results F1H F1A F1R (fun y => (y.2.1, y.2.2.1)) (a0, a1, a2, a3, ())
theorem F1_eq (a0 : El Y52) (a1 : El Y3) (a2 : El Y3) (a3 : El Y3) : F1V a0 a1 a2 a3 = F1 a0 a1 a2 a3 := by kernel_rfl
theorem F1_ok : FnOK Tryz.prog 33 F1S := fnOK_of (m := F1M) (fn := Tryz.f33) (hint := F1H) (pack := fun y => (y.2.1, y.2.2.1)) hmix tab_ok trivial fun x z h => (F1_eq x.1 x.2.1 x.2.2.1 x.2.2.2.1).trans h
noncomputable def F10 : (El Y31) → (El Y3) → ((El Y3 × El Y3 × Unit)) → Option (El Y36) := fun a0 a1 a2 =>
 Option.bind
 (Tr.run
 (fun s0 =>
 bif decide (s0.2 < (↑(List.length a0.2.2.1) : Int)) then
 Option.bind (idx a0.2.2.1 s0.2) fun x1 =>
 bif x1.2.2.2.2.2.2.1 then some (.inl (s0.1, IntKind.wrap .i64 (s0.2 + (1 : Int))))
 else
 Option.bind
 (Tr.run
 (fun s2 =>
 bif decide (s2.2 < (↑(List.length x1.2.2.2.2.2.2.2.1) : Int)) then
 Option.bind (idx x1.2.2.2.2.2.2.2.1 s2.2) fun x3 =>
 bif !decide (x3.1 = a1) then some (.inl (s2.1, IntKind.wrap .i64 (s2.2 + (1 : Int))))
 else
 Option.bind (F1 x1.2.2.2.2.2.2.2.1 s2.2 a2.1 a2.2.1) fun x4 =>
 bif x4.2 then
 Option.bind (guardB (decide (List.length s2.1 + List.length [(s0.2, s2.2, x4.1, ())] ≤ maxApp))) fun _ =>
 some (.inl (s2.1 ++ [(s0.2, s2.2, x4.1, ())], IntKind.wrap .i64 (s2.2 + (1 : Int))))
 else some (.inl (s2.1, IntKind.wrap .i64 (s2.2 + (1 : Int))))
 else some (.inr s2.1))
 (s0.1, (0 : Int)))
 fun x6 => some (.inl (x6, IntKind.wrap .i64 (s0.2 + (1 : Int))))
 else some (.inr s0.1))
 ([], (0 : Int)))
 fun x7 => Option.bind (F97 x7 ()) fun x8 => some x8
abbrev F10A : Pats := (.cons (.pd Y31) (.cons (.pd Y3) (.cons (.fn 33 (.cons (.ro Y3) (.cons (.ro Y3) .nil))) .nil)))
abbrev F10R : Pats := (.cons (.pd Y36) .nil)
noncomputable def F10S : Tr.Spec := { args := F10A, res := F10R, fns := [33], α := El Y36, f := fun x => F10 x.1 x.2.1 x.2.2.1, unp := fun z => (((), (), ((), (), ()), ()), (z, ())) }
noncomputable def F10M : List (Nat × List Tr.Spec) := [(33, [F1S]), (46, [F97S]), (47, [F9S])]
def F10H : Hint := (.seq .leaf (.seq .leaf (.seq .leaf (.seq (.seq .leaf (.lp ⟨[(7, (.own Y51 false)), (17, (.pd Y3))], [], [1, 2, 15, 16], []⟩ [((.exit 0), ⟨[(7, (.own Y51 false))], [], [2], []⟩)] (.seq .leaf (.seq .leaf (.seq (.seq .leaf (.seq .leaf (.seq .leaf (.lp ⟨[(7, (.own Y51 false)), (27, (.pd Y3))], [], [1, 2, 8, 9, 15, 16, 17, 25, 26], []⟩ [((.exit 2), ⟨[(7, (.own Y51 false))], [], [1, 2, 15, 16, 17], []⟩)] .leaf)))) .leaf))))) .leaf))))
noncomputable def F10V (a0 : El Y31) (a1 : El Y3) (a2 : (El Y3 × El Y3 × Unit)) : Option (El Y36) := evalF (mkE tyTab mapTab pkTab [] [] F10M 57 bdTab) (codeOf Tryz.f28) Tryz.f28.results F10H F10A F10R (fun y => y.2.1) (a0, a1, a2, ())
theorem F10_eq (a0 : El Y31) (a1 : El Y3) (a2 : (El Y3 × El Y3 × Unit)) : F10V a0 a1 a2 = F10 a0 a1 a2 := by kernel_rfl
theorem F10_ok : FnOK Tryz.prog 28 F10S := fnOK_of (m := F10M) (fn := Tryz.f28) (hint := F10H) (pack := fun y => y.2.1) hmix tab_ok ⟨⟨F1_ok, trivial⟩, ⟨F97_ok, trivial⟩, ⟨F9_ok, trivial⟩, trivial⟩ fun x z h => (F10_eq x.1 x.2.1 x.2.2.1).trans h
noncomputable def F0 : (El Y31) → (El Y3) → (El Y3) → (El Y3) → Option (El Y36 × El Y37) := fun a0 a1 a2 a3 =>
 Option.bind (F8 a0 [a1]) fun x0 =>
 bif !decide (x0 = (0 : Int)) then some ([], x0) else Option.bind (F10 a0 a1 (a2, a3, ())) fun x1 => some (x1, (0 : Int))
abbrev F0A : Pats := (.cons (.pd Y31) (.cons (.pd Y3) (.cons (.pd Y3) (.cons (.pd Y3) .nil))))
abbrev F0R : Pats := (.cons (.pd Y36) (.cons (.pd Y37) .nil))
noncomputable def F0S : Tr.Spec := { args := F0A, res := F0R, fns := [], α := El Y36 × El Y37, f := fun x => F0 x.1 x.2.1 x.2.2.1 x.2.2.2.1, unp := fun z => (((), (), (), (), ()), (z.1, z.2, ())) }
noncomputable def F0M : List (Nat × List Tr.Spec) := [(27, [F8S]), (28, [F11S, F10S]), (33, [F1S])]
def F0H : Hint := .leaf
noncomputable def F0V (a0 : El Y31) (a1 : El Y3) (a2 : El Y3) (a3 : El Y3) : Option (El Y36 × El Y37) := evalF (mkE tyTab mapTab pkTab [] [] F0M 22 bdTab) (codeOf Tryz.f15) Tryz.f15.results F0H F0A F0R (fun y => (y.2.1, y.2.2.1)) (a0, a1, a2, a3, ())
theorem F0_eq (a0 : El Y31) (a1 : El Y3) (a2 : El Y3) (a3 : El Y3) : F0V a0 a1 a2 a3 = F0 a0 a1 a2 a3 := by kernel_rfl
theorem F0_ok : FnOK Tryz.prog 15 F0S := fnOK_of (m := F0M) (fn := Tryz.f15) (hint := F0H) (pack := fun y => (y.2.1, y.2.2.1)) hmix tab_ok ⟨⟨F8_ok, trivial⟩, ⟨F11_ok, F10_ok, trivial⟩, ⟨F1_ok, trivial⟩, trivial⟩ fun x z h => (F0_eq x.1 x.2.1 x.2.2.1 x.2.2.2.1).trans h
noncomputable def F6 : (El Y56) → (El Y3) → Option (El Y4) := fun a0 a1 => Option.bind (bif decide (a0.1 = a1) then some a0.2.2.2.2.1 else some false) fun x0 => some x0
abbrev F6A : Pats := (.cons (.pd Y56) (.cons (.ro Y3) .nil))
abbrev F6R : Pats := (.cons (.pd Y4) .nil)
noncomputable def F6S : Tr.Spec := { args := F6A, res := F6R, fns := [], α := El Y4, f := fun x => F6 x.1 x.2.1, unp := fun z => (((), (), ()), (z, ())) }
noncomputable def F6M : List (Nat × List Tr.Spec) := []
def F6H : Hint := (.seq .leaf (.seq (.reg [(3, Y4)]) .leaf))
noncomputable def F6V (a0 : El Y56) (a1 : El Y3) : Option (El Y4) := evalF (mkE tyTab mapTab pkTab [] [] F6M 12 bdTab) (codeOf Tryz.f37) Tryz.f37.results F6H F6A F6R (fun y => y.2.1) (a0, a1, ())
theorem F6_eq (a0 : El Y56) (a1 : El Y3) : F6V a0 a1 = F6 a0 a1 := by kernel_rfl
theorem F6_ok : FnOK Tryz.prog 37 F6S := fnOK_of (m := F6M) (fn := Tryz.f37) (hint := F6H) (pack := fun y => y.2.1) hmix tab_ok trivial fun x z h => (F6_eq x.1 x.2.1).trans h
noncomputable def F95 : (El Y52) → ((El Y3 × Unit)) → Option (El Y3) := fun a0 a1 =>
 Option.bind
 (Tr.run
 (fun s0 =>
 bif decide (s0 < (↑(List.length a0) : Int)) then
 Option.bind (idx a0 s0) fun x1 =>
 Option.bind (F6 x1 a1.1) fun x2 => bif x2 then some (.inr (.inr s0)) else some (.inl (IntKind.wrap .i64 (s0 + (1 : Int))))
 else some (.inr (.inl ())))
 (0 : Int))
 fun x3 => Sum.elim (fun _ => some (-1 : Int)) (fun y5 => some y5) x3
abbrev F95A : Pats := (.cons (.pd Y52) (.cons (.fn 37 (.cons (.ro Y3) .nil)) .nil))
abbrev F95R : Pats := (.cons (.pd Y3) .nil)
noncomputable def F95S : Tr.Spec := { args := F95A, res := F95R, fns := [37], α := El Y3, f := fun x => F95 x.1 x.2.1, unp := fun z => (((), ((), ()), ()), (z, ())) }
noncomputable def F95M : List (Nat × List Tr.Spec) := [(37, [F6S])]
def F95H : Hint := (.seq .leaf (.seq (.seq .leaf (.lp ⟨[(8, (.pd Y3))], [], [0, 1, 7], []⟩ [((.exit 0), ⟨[], [], [1], []⟩), (.ret, ⟨[(4, (.pd Y3))], [], [1], []⟩)] .leaf)) .leaf))
noncomputable def F95V (a0 : El Y52) (a1 : (El Y3 × Unit)) : Option (El Y3) := evalF (mkE tyTab mapTab pkTab [] [] F95M 19 bdTab) (codeOf Tryz.f51) Tryz.f51.results F95H F95A F95R (fun y => y.2.1) (a0, a1, ())
theorem F95_eq (a0 : El Y52) (a1 : (El Y3 × Unit)) : F95V a0 a1 = F95 a0 a1 := by kernel_rfl
theorem F95_ok : FnOK Tryz.prog 51 F95S := fnOK_of (m := F95M) (fn := Tryz.f51) (hint := F95H) (pack := fun y => y.2.1) hmix tab_ok ⟨⟨F6_ok, trivial⟩, trivial⟩ fun x z h => (F95_eq x.1 x.2.1).trans h
noncomputable def F94 : (El Y52) → ((El Y3 × Unit)) → Option (El Y4) := fun a0 a1 => Option.bind (F95 a0 (a1.1, ())) fun x0 => some (decide ((0 : Int) ≤ x0))
abbrev F94A : Pats := (.cons (.pd Y52) (.cons (.fn 37 (.cons (.ro Y3) .nil)) .nil))
abbrev F94R : Pats := (.cons (.pd Y4) .nil)
noncomputable def F94S : Tr.Spec := { args := F94A, res := F94R, fns := [37], α := El Y4, f := fun x => F94 x.1 x.2.1, unp := fun z => (((), ((), ()), ()), (z, ())) }
noncomputable def F94M : List (Nat × List Tr.Spec) := [(37, [F6S]), (51, [F95S])]
def F94H : Hint := .leaf
noncomputable def F94V (a0 : El Y52) (a1 : (El Y3 × Unit)) : Option (El Y4) := evalF (mkE tyTab mapTab pkTab [] [] F94M 9 bdTab) (codeOf Tryz.f36) Tryz.f36.results F94H F94A F94R (fun y => y.2.1) (a0, a1, ())
theorem F94_eq (a0 : El Y52) (a1 : (El Y3 × Unit)) : F94V a0 a1 = F94 a0 a1 := by kernel_rfl
theorem F94_ok : FnOK Tryz.prog 36 F94S := fnOK_of (m := F94M) (fn := Tryz.f36) (hint := F94H) (pack := fun y => y.2.1) hmix tab_ok ⟨⟨F6_ok, trivial⟩, ⟨F95_ok, trivial⟩, trivial⟩ fun x z h => (F94_eq x.1 x.2.1).trans h
noncomputable def F5 : (El Y52) → (El Y3) → (El Y3) → (El Y3) → Option (El Y3 × El Y4) := fun a0 a1 a2 a3 =>
 Option.bind (idx a0 a1) fun x0 =>
 Option.bind (sliceB (List.length a0) (List.length a0) (some (IntKind.wrap .i64 (a1 + (1 : Int)))) none) fun x1 =>
 Option.bind (F94 (List.take (x1.2 - x1.1) (List.drop x1.1 a0)) (a2, ())) fun x2 =>
 Option.bind
 (bif x0.2.2.2.1 then bif decide (a3 ≤ x0.2.2.1) then some (x0.2.2.1, x2) else some (x0.2.2.1, false)
 else some (x0.2.2.1, false))
 fun x3 => some (x3.1, x3.2)
abbrev F5A : Pats := (.cons (.pd Y52) (.cons (.pd Y3) (.cons (.ro Y3) (.cons (.ro Y3) .nil))))
abbrev F5R : Pats := (.cons (.pd Y3) (.cons (.pd Y4) .nil))
noncomputable def F5S : Tr.Spec := { args := F5A, res := F5R, fns := [], α := El Y3 × El Y4, f := fun x => F5 x.1 x.2.1 x.2.2.1 x.2.2.2.1, unp := fun z => (((), (), (), (), ()), (z.1, z.2, ())) }
noncomputable def F5M : List (Nat × List Tr.Spec) := [(36, [F94S]), (37, [F6S])]
def F5H : Hint := (.seq .leaf (.seq .leaf (.seq .leaf (.seq (.reg [(6, Y3), (7, Y4)]) .leaf))))
noncomputable def F5V (a0 : El Y52) (a1 : El Y3) (a2 : El Y3) (a3 : El Y3) : Option (El Y3 × El Y4) := evalF (mkE tyTab mapTab pkTab [] [] F5M 33 bdTab) (codeOf Tryz.f35) Tryz.f35.results F5H F5A F5R (fun y => (y.2.1, y.2.2.1)) (a0, a1, a2, a3, ())
theorem F5_eq (a0 : El Y52) (a1 : El Y3) (a2 : El Y3) (a3 : El Y3) : F5V a0 a1 a2 a3 = F5 a0 a1 a2 a3 := by kernel_rfl
theorem F5_ok : FnOK Tryz.prog 35 F5S := fnOK_of (m := F5M) (fn := Tryz.f35) (hint := F5H) (pack := fun y => (y.2.1, y.2.2.1)) hmix tab_ok ⟨⟨F94_ok, trivial⟩, ⟨F6_ok, trivial⟩, trivial⟩ fun x z h => (F5_eq x.1 x.2.1 x.2.2.1 x.2.2.2.1).trans h
noncomputable def F12 : (El Y31) → (El Y3) → ((El Y3 × El Y3 × Unit)) → Option (El Y36) := fun a0 a1 a2 =>
 Option.bind
 (Tr.run
 (fun s0 =>
 bif decide (s0.2 < (↑(List.length a0.2.2.1) : Int)) then
 Option.bind (idx a0.2.2.1 s0.2) fun x1 =>
 bif x1.2.2.2.2.2.2.1 then some (.inl (s0.1, IntKind.wrap .i64 (s0.2 + (1 : Int))))
 else
 Option.bind
 (Tr.run
 (fun s2 =>
 bif decide (s2.2 < (↑(List.length x1.2.2.2.2.2.2.2.1) : Int)) then
 Option.bind (idx x1.2.2.2.2.2.2.2.1 s2.2) fun x3 =>
 bif !decide (x3.1 = a1) then some (.inl (s2.1, IntKind.wrap .i64 (s2.2 + (1 : Int))))
 else
 Option.bind (F5 x1.2.2.2.2.2.2.2.1 s2.2 a2.1 a2.2.1) fun x4 =>
 bif x4.2 then
 Option.bind (guardB (decide (List.length s2.1 + List.length [(s0.2, s2.2, x4.1, ())] ≤ maxApp))) fun _ =>
 some (.inl (s2.1 ++ [(s0.2, s2.2, x4.1, ())], IntKind.wrap .i64 (s2.2 + (1 : Int))))
 else some (.inl (s2.1, IntKind.wrap .i64 (s2.2 + (1 : Int))))
 else some (.inr s2.1))
 (s0.1, (0 : Int)))
 fun x6 => some (.inl (x6, IntKind.wrap .i64 (s0.2 + (1 : Int))))
 else some (.inr s0.1))
 ([], (0 : Int)))
 fun x7 => Option.bind (F97 x7 ()) fun x8 => some x8
abbrev F12A : Pats := (.cons (.pd Y31) (.cons (.pd Y3) (.cons (.fn 35 (.cons (.ro Y3) (.cons (.ro Y3) .nil))) .nil)))
abbrev F12R : Pats := (.cons (.pd Y36) .nil)
noncomputable def F12S : Tr.Spec := { args := F12A, res := F12R, fns := [35], α := El Y36, f := fun x => F12 x.1 x.2.1 x.2.2.1, unp := fun z => (((), (), ((), (), ()), ()), (z, ())) }
noncomputable def F12M : List (Nat × List Tr.Spec) := [(35, [F5S]), (46, [F97S]), (47, [F9S])]
def F12H : Hint := (.seq .leaf (.seq .leaf (.seq .leaf (.seq (.seq .leaf (.lp ⟨[(7, (.own Y51 false)), (17, (.pd Y3))], [], [1, 2, 15, 16], []⟩ [((.exit 0), ⟨[(7, (.own Y51 false))], [], [2], []⟩)] (.seq .leaf (.seq .leaf (.seq (.seq .leaf (.seq .leaf (.seq .leaf (.lp ⟨[(7, (.own Y51 false)), (27, (.pd Y3))], [], [1, 2, 8, 9, 15, 16, 17, 25, 26], []⟩ [((.exit 2), ⟨[(7, (.own Y51 false))], [], [1, 2, 15, 16, 17], []⟩)] .leaf)))) .leaf))))) .leaf))))
noncomputable def F12V (a0 : El Y31) (a1 : El Y3) (a2 : (El Y3 × El Y3 × Unit)) : Option (El Y36) := evalF (mkE tyTab mapTab pkTab [] [] F12M 57 bdTab) (codeOf Tryz.f28) Tryz.f28.results F12H F12A F12R (fun y => y.2.1) (a0, a1, a2, ())
theorem F12_eq (a0 : El Y31) (a1 : El Y3) (a2 : (El Y3 × El Y3 × Unit)) : F12V a0 a1 a2 = F12 a0 a1 a2 := by kernel_rfl
theorem F12_ok : FnOK Tryz.prog 28 F12S := fnOK_of (m := F12M) (fn := Tryz.f28) (hint := F12H) (pack := fun y => y.2.1) hmix tab_ok ⟨⟨F5_ok, trivial⟩, ⟨F97_ok, trivial⟩, ⟨F9_ok, trivial⟩, trivial⟩ fun x z h => (F12_eq x.1 x.2.1 x.2.2.1).trans h
noncomputable def F4 : (El Y31) → (El Y3) → (El Y3) → (El Y3) → Option (El Y36 × El Y37) := fun a0 a1 a2 a3 =>
 Option.bind (F8 a0 [a1, a2]) fun x0 =>
 bif !decide (x0 = (0 : Int)) then some ([], x0) else Option.bind (F12 a0 a1 (a2, a3, ())) fun x1 => some (x1, (0 : Int))
abbrev F4A : Pats := (.cons (.pd Y31) (.cons (.pd Y3) (.cons (.pd Y3) (.cons (.pd Y3) .nil))))
abbrev F4R : Pats := (.cons (.pd Y36) (.cons (.pd Y37) .nil))
noncomputable def F4S : Tr.Spec := { args := F4A, res := F4R, fns := [], α := El Y36 × El Y37, f := fun x => F4 x.1 x.2.1 x.2.2.1 x.2.2.2.1, unp := fun z => (((), (), (), (), ()), (z.1, z.2, ())) }
noncomputable def F4M : List (Nat × List Tr.Spec) := [(27, [F8S]), (28, [F11S, F10S, F12S]), (35, [F5S])]
def F4H : Hint := .leaf
noncomputable def F4V (a0 : El Y31) (a1 : El Y3) (a2 : El Y3) (a3 : El Y3) : Option (El Y36 × El Y37) := evalF (mkE tyTab mapTab pkTab [] [] F4M 23 bdTab) (codeOf Tryz.f17) Tryz.f17.results F4H F4A F4R (fun y => (y.2.1, y.2.2.1)) (a0, a1, a2, a3, ())
theorem F4_eq (a0 : El Y31) (a1 : El Y3) (a2 : El Y3) (a3 : El Y3) : F4V a0 a1 a2 a3 = F4 a0 a1 a2 a3 := by kernel_rfl
theorem F4_ok : FnOK Tryz.prog 17 F4S := fnOK_of (m := F4M) (fn := Tryz.f17) (hint := F4H) (pack := fun y => (y.2.1, y.2.2.1)) hmix tab_ok ⟨⟨F8_ok, trivial⟩, ⟨F11_ok, F10_ok, F12_ok, trivial⟩, ⟨F5_ok, trivial⟩, trivial⟩ fun x z h => (F4_eq x.1 x.2.1 x.2.2.1 x.2.2.2.1).trans h
def F101 (a0 : List UInt8) (a1 : El Y9) : Option (List UInt8) := Tr.bldW a0 a1
abbrev F101A : Pats := (.cons (.bld 76 5 true) (.cons (.pd Y9) .nil))
abbrev F101R : Pats := (.cons .any (.cons .any .nil))
noncomputable def F101S : Tr.Spec := { args := F101A, res := F101R, fns := [], α := List UInt8, f := fun x => F101 x.1 x.2.1, unp := fun z => ((z, (), ()), ((), (), ())), pl := false }
theorem F101_ok : FnOK Tryz.prog 39 F101S := Tr.writeString_ok (ρ := Tryz.lays166_ren) Tryz.lays166 Tryz.Builder_Extra_166 ⟨_, Tryz.func39, rfl, rfl⟩
def F99 (a0 : El Y3) : Option (El Y9) := Tr.itoaF a0
abbrev F99A : Pats := (.cons (.pd Y3) .nil)
abbrev F99R : Pats := (.cons (.pd Y9) .nil)
noncomputable def F99S : Tr.Spec := { args := F99A, res := F99R, fns := [], α := El Y9, f := fun x => F99 x.1, unp := fun z => (((), ()), (z, ())), pl := false }
theorem F99_ok : FnOK Tryz.prog 40 F99S := Tr.itoa_ok (ρ := Tryz.laysM171_ren) Tryz.laysM171 ⟨_, Tryz.func40, rfl, rfl⟩ (by kernel_rfl)
def F100 (a0 : List UInt8) : Option (El Y9) := some a0
abbrev F100A : Pats := (.cons (.bld 76 5 false) .nil)
abbrev F100R : Pats := (.cons (.pd Y9) .nil)
noncomputable def F100S : Tr.Spec := { args := F100A, res := F100R, fns := [], α := El Y9, f := fun x => F100 x.1, unp := fun z => (((), ()), (z, ())), pl := false }
theorem F100_ok : FnOK Tryz.prog 41 F100S := Tr.builderString_ok (ρ := Tryz.lays169_ren) Tryz.lays169 Tryz.Builder_Extra_169 ⟨_, Tryz.func41, rfl, rfl⟩
noncomputable def F7 : (El Y31) → (El Y36) → Option (El Y9 × El Y37) := fun a0 a1 =>
 Option.bind (F8 a0 []) fun x0 =>
 bif !decide (x0 = (0 : Int)) then some ([], x0)
 else
 Option.bind
 (Tr.run
 (fun s1 =>
 bif decide (s1.2 < (↑(List.length a1) : Int)) then
 Option.bind (idx a1 s1.2) fun x2 =>
 Option.bind
 (bif decide (x2.1 < (0 : Int)) then some true
 else
 bif decide ((↑(List.length a0.2.2.1) : Int) ≤ x2.1) then some true
 else
 bif decide (x2.2.1 < (0 : Int)) then some true
 else Option.bind (idx a0.2.2.1 x2.1) fun x3 => some (decide ((↑(List.length x3.2.2.2.2.2.2.2.1) : Int) ≤ x2.2.1)))
 fun x4 =>
 bif x4 then some (.inr (.inr ([], (9 : Int))))
 else
 Option.bind (idx a0.2.2.1 x2.1) fun x5 =>
 Option.bind (idx x5.2.2.2.2.2.2.2.1 (IntKind.wrap .i64 ((↑(List.length x5.2.2.2.2.2.2.2.1) : Int) - (1 : Int)))) fun x6 =>
 Option.bind (F99 x2.2.2.1) fun x7 =>
 Option.bind (F101 s1.1 x7) fun x8 =>
 Option.bind (Tr.catStr [(32 : UInt8)] x5.2.2.2.1) fun x9 =>
 Option.bind (Tr.catStr x9 [(64 : UInt8)]) fun x10 =>
 Option.bind (F99 x5.2.1) fun x11 =>
 Option.bind (Tr.catStr x10 x11) fun x12 =>
 Option.bind (Tr.catStr x12 [(35 : UInt8)]) fun x13 =>
 Option.bind (F99 x5.2.2.1) fun x14 =>
 Option.bind (Tr.catStr x13 x14) fun x15 =>
 Option.bind (F101 x8 x15) fun x16 =>
 Option.bind (idx a0.2.1 x5.2.2.2.2.1) fun x17 =>
 Option.bind (Tr.catStr [(32 : UInt8)] x17.1) fun x18 =>
 Option.bind (Tr.catStr x18 [(32 : UInt8)]) fun x19 =>
 Option.bind (idx x5.2.2.2.2.2.2.2.1 x2.2.1) fun x20 =>
 Option.bind (idx a0.1 x20.1) fun x21 =>
 Option.bind (Tr.catStr x19 x21.1) fun x22 =>
 Option.bind (Tr.catStr x22 [(32 : UInt8)]) fun x23 =>
 Option.bind (idx a0.1 x6.1) fun x24 =>
 Option.bind (Tr.catStr x23 x24.1) fun x25 =>
 Option.bind (Tr.catStr x25 [(10 : UInt8)]) fun x26 =>
 Option.bind (F101 x16 x26) fun x27 =>
 some (.inl (x27, IntKind.wrap .i64 (s1.2 + (1 : Int))))
 else some (.inr (.inl s1.1)))
 ([], (0 : Int)))
 fun x28 => Sum.elim (fun y29 => Option.bind (F100 y29) fun x30 => some (x30, (0 : Int))) (fun y31 => some (y31.1, y31.2)) x28
abbrev F7A : Pats := (.cons (.pd Y31) (.cons (.pd Y36) .nil))
abbrev F7R : Pats := (.cons (.pd Y9) (.cons (.pd Y37) .nil))
noncomputable def F7S : Tr.Spec := { args := F7A, res := F7R, fns := [], α := El Y9 × El Y37, f := fun x => F7 x.1 x.2.1, unp := fun z => (((), (), ()), (z.1, z.2, ())), pl := false }
noncomputable def F7M : List (Nat × List Tr.Spec) := [(27, [F8S]), (39, [F101S]), (40, [F99S]), (41, [F100S])]
def F7H : Hint := (.seq .leaf (.seq .leaf (.seq .leaf (.seq (.seq .leaf (.lp ⟨[(7, (.bld 76 5 true)), (19, (.pd Y3))], [], [2, 17, 18], []⟩ [((.exit 0), ⟨[(7, (.bld 76 5 true))], [], [], []⟩), (.ret, ⟨[(4, (.pd Y9)), (5, (.pd Y37))], [], [], []⟩)] (.seq .leaf (.seq .leaf (.seq (.seq .leaf (.seq (.seq (.reg [(51, Y4)]) .leaf) .leaf)) .leaf))))) .leaf))))
noncomputable def F7V (a0 : El Y31) (a1 : El Y36) : Option (El Y9 × El Y37) := evalF (mkE tyTab mapTab pkTab [] [] F7M 119 bdTab) (codeOf Tryz.f19) Tryz.f19.results F7H F7A F7R (fun y => (y.2.1, y.2.2.1)) (a0, a1, ())
theorem F7_eq (a0 : El Y31) (a1 : El Y36) : F7V a0 a1 = F7 a0 a1 := by kernel_rfl
theorem F7_ok : FnOK Tryz.prog 19 F7S := fnOK_of (m := F7M) (fn := Tryz.f19) (hint := F7H) (pack := fun y => (y.2.1, y.2.2.1)) hmix tab_ok ⟨⟨F8_ok, trivial⟩, ⟨F101_ok, trivial⟩, ⟨F99_ok, trivial⟩, ⟨F100_ok, trivial⟩, trivial⟩ fun x z h => (F7_eq x.1 x.2.1).trans h
noncomputable def F42 : (El Y3) → (El Y3) → (El Y3) → Option (El Y56) := fun a0 a1 a2 => some (a0, a1, a2, true, true, ())
abbrev F42A : Pats := (.cons (.pd Y3) (.cons (.pd Y3) (.cons (.pd Y3) .nil)))
abbrev F42R : Pats := (.cons (.pd Y56) .nil)
noncomputable def F42S : Tr.Spec := { args := F42A, res := F42R, fns := [], α := El Y56, f := fun x => F42 x.1 x.2.1 x.2.2.1, unp := fun z => (((), (), (), ()), (z, ())) }
noncomputable def F42M : List (Nat × List Tr.Spec) := []
def F42H : Hint := .leaf
noncomputable def F42V (a0 : El Y3) (a1 : El Y3) (a2 : El Y3) : Option (El Y56) := evalF (mkE tyTab mapTab pkTab [] [] F42M 11 bdTab) (codeOf Tryz.f44) Tryz.f44.results F42H F42A F42R (fun y => y.2.1) (a0, a1, a2, ())
theorem F42_eq (a0 : El Y3) (a1 : El Y3) (a2 : El Y3) : F42V a0 a1 a2 = F42 a0 a1 a2 := by kernel_rfl
theorem F42_ok : FnOK Tryz.prog 44 F42S := fnOK_of (m := F42M) (fn := Tryz.f44) (hint := F42H) (pack := fun y => y.2.1) hmix tab_ok trivial fun x z h => (F42_eq x.1 x.2.1 x.2.2.1).trans h
noncomputable def F44 : Option (El Y31) := Option.bind (F42 (0 : Int) (100 : Int) (100 : Int)) fun x0 =>
 Option.bind (F42 (1 : Int) (200 : Int) (230 : Int)) fun x1 =>
 Option.bind (F42 (2 : Int) (300 : Int) (300 : Int)) fun x2 =>
 Option.bind (F42 (1 : Int) (150 : Int) (150 : Int)) fun x3 =>
 Option.bind (F42 (0 : Int) (210 : Int) (210 : Int)) fun x4 =>
 some
 ([([(65 : UInt8)], (0 : Int), false, (0 : Int), ()), ([(66 : UInt8)], (0 : Int), false, (0 : Int), ()),
 ([(67 : UInt8)], (0 : Int), false, (0 : Int), ())],
 [([(82 : UInt8)], (0 : Int), false, ())],
 [((0 : Int), (0 : Int), (0 : Int), [(116 : UInt8), (48 : UInt8)], (0 : Int), false, false, [x0, x1, x2], ()),
 ((1 : Int), (0 : Int), (0 : Int), [(116 : UInt8), (49 : UInt8)], (0 : Int), false, false, [x3, x4], ())],
 ([] : List (El Y121)), ([] : List (El Y124)), (([] : List (El Y127)), (0 : Int), (0 : Int), (0 : Int), ()), ())
abbrev F44A : Pats := .nil
abbrev F44R : Pats := (.cons (.pd Y31) .nil)
noncomputable def F44S : Tr.Spec := { args := F44A, res := F44R, fns := [], α := El Y31, f := fun _ => F44, unp := fun z => ((), (z, ())) }
noncomputable def F44M : List (Nat × List Tr.Spec) := [(44, [F42S])]
def F44H : Hint := .leaf
noncomputable def F44V : Option (El Y31) := evalF (mkE tyTab mapTab pkTab [] [] F44M 21 bdTab) (codeOf Tryz.f26) Tryz.f26.results F44H F44A F44R (fun y => y.2.1) (())
theorem F44_eq  : F44V  = F44  := by kernel_rfl
theorem F44_ok : FnOK Tryz.prog 26 F44S := fnOK_of (m := F44M) (fn := Tryz.f26) (hint := F44H) (pack := fun y => y.2.1) hmix tab_ok ⟨⟨F42_ok, trivial⟩, trivial⟩ fun _ z h => (F44_eq ).trans h
noncomputable def F45 : Option (El Y4) := Option.bind F44 fun x0 =>
 Option.bind (F2 x0 (1 : Int) (0 : Int) (1000 : Int)) fun x1 =>
 Option.bind (F2 x0 (1 : Int) (150 : Int) (230 : Int)) fun x2 =>
 Option.bind (F0 x0 (0 : Int) (0 : Int) (1000 : Int)) fun x3 =>
 Option.bind (F4 x0 (0 : Int) (2 : Int) (100 : Int)) fun x4 =>
 Option.bind (F4 x0 (0 : Int) (2 : Int) (101 : Int)) fun x5 =>
 Option.bind (F7 x0 [((0 : Int), (1 : Int), (230 : Int), ())]) fun x6 =>
 Option.bind (F2 x0 (3 : Int) (0 : Int) (1000 : Int)) fun x7 =>
 Option.bind (F79 x1.1 [((1 : Int), (0 : Int), (150 : Int), ()), ((0 : Int), (1 : Int), (230 : Int), ())]) fun x8 =>
 bif x8 then
 bif decide (x1.2 = (0 : Int)) then
 Option.bind (F79 x2.1 [((1 : Int), (0 : Int), (150 : Int), ())]) fun x9 =>
 bif x9 then
 bif decide (x2.2 = (0 : Int)) then
 Option.bind (F79 x3.1 [((1 : Int), (1 : Int), (210 : Int), ())]) fun x10 =>
 bif x10 then
 bif decide (x3.2 = (0 : Int)) then
 Option.bind (F79 x4.1 [((0 : Int), (0 : Int), (100 : Int), ())]) fun x11 =>
 bif x11 then
 bif decide (x4.2 = (0 : Int)) then
 bif decide ((↑(List.length x5.1) : Int) = (0 : Int)) then
 bif decide (x5.2 = (0 : Int)) then
 bif
 decide
 (x6.1 =
 [(50 : UInt8), (51 : UInt8), (48 : UInt8), (32 : UInt8), (116 : UInt8), (48 : UInt8), (64 : UInt8), (48 : UInt8), (35 : UInt8), (48 : UInt8),
 (32 : UInt8), (82 : UInt8), (32 : UInt8), (66 : UInt8), (32 : UInt8), (67 : UInt8), (10 : UInt8)]) then
 bif decide (x6.2 = (0 : Int)) then some (decide (x7.2 = (13 : Int))) else some false
 else some false
 else some false
 else some false
 else some false
 else some false
 else some false
 else some false
 else some false
 else some false
 else some false
 else some false
abbrev F45A : Pats := .nil
abbrev F45R : Pats := (.cons (.pd Y4) .nil)
noncomputable def F45S : Tr.Spec := { args := F45A, res := F45R, fns := [], α := El Y4, f := fun _ => F45, unp := fun z => ((), (z, ())), pl := false }
noncomputable def F45M : List (Nat × List Tr.Spec) := [(12, [F2S]), (14, [F79S]), (15, [F0S]), (17, [F4S]), (19, [F7S]), (26, [F44S])]
def F45H : Hint := .leaf
noncomputable def F45V : Option (El Y4) := evalF (mkE tyTab mapTab pkTab [] [] F45M 114 bdTab) (codeOf Tryz.f11) Tryz.f11.results F45H F45A F45R (fun y => y.2.1) (())
theorem F45_eq  : F45V  = F45  := by kernel_rfl
theorem F45_ok : FnOK Tryz.prog 11 F45S := fnOK_of (m := F45M) (fn := Tryz.f11) (hint := F45H) (pack := fun y => y.2.1) hmix tab_ok ⟨⟨F2_ok, trivial⟩, ⟨F79_ok, trivial⟩, ⟨F0_ok, trivial⟩, ⟨F4_ok, trivial⟩, ⟨F7_ok, trivial⟩, ⟨F44_ok, trivial⟩, trivial⟩ fun _ z h => (F45_eq ).trans h
noncomputable def F66 : (El Y9) → Option (El Y4) := fun a0 =>
 Option.bind (bif decide ((↑(List.length a0) : Int) < (1 : Int)) then some true else some (decide ((32 : Int) < (↑(List.length a0) : Int)))) fun x0 =>
 bif x0 then some false
 else
 Option.bind
 (Tr.run
 (fun s1 =>
 bif decide (s1 < (↑(List.length a0) : Int)) then
 Option.bind (idx a0 s1) fun x2 =>
 Option.bind
 (bif decide ((97 : Int) ≤ (↑(UInt8.toNat x2) : Int)) then
 bif decide ((↑(UInt8.toNat x2) : Int) ≤ (122 : Int)) then some true
 else
 bif decide ((65 : Int) ≤ (↑(UInt8.toNat x2) : Int)) then
 bif decide ((↑(UInt8.toNat x2) : Int) ≤ (90 : Int)) then some true
 else bif decide ((48 : Int) ≤ (↑(UInt8.toNat x2) : Int)) then some (decide ((↑(UInt8.toNat x2) : Int) ≤ (57 : Int))) else some false
 else bif decide ((48 : Int) ≤ (↑(UInt8.toNat x2) : Int)) then some (decide ((↑(UInt8.toNat x2) : Int) ≤ (57 : Int))) else some false
 else
 bif decide ((65 : Int) ≤ (↑(UInt8.toNat x2) : Int)) then
 bif decide ((↑(UInt8.toNat x2) : Int) ≤ (90 : Int)) then some true
 else bif decide ((48 : Int) ≤ (↑(UInt8.toNat x2) : Int)) then some (decide ((↑(UInt8.toNat x2) : Int) ≤ (57 : Int))) else some false
 else bif decide ((48 : Int) ≤ (↑(UInt8.toNat x2) : Int)) then some (decide ((↑(UInt8.toNat x2) : Int) ≤ (57 : Int))) else some false)
 fun x3 =>
 Option.bind
 (bif !x3 then
 bif !decide ((↑(UInt8.toNat x2) : Int) = (45 : Int)) then
 bif !decide ((↑(UInt8.toNat x2) : Int) = (95 : Int)) then some !decide ((↑(UInt8.toNat x2) : Int) = (46 : Int)) else some false
 else some false
 else some false)
 fun x4 => bif x4 then some (.inr (.inr false)) else some (.inl (IntKind.wrap .i64 (s1 + (1 : Int))))
 else some (.inr (.inl ())))
 (0 : Int))
 fun x5 => Sum.elim (fun _ => some true) (fun y7 => some y7) x5
abbrev F66A : Pats := (.cons (.pd Y9) .nil)
abbrev F66R : Pats := (.cons (.pd Y4) .nil)
noncomputable def F66S : Tr.Spec := { args := F66A, res := F66R, fns := [], α := El Y4, f := fun x => F66 x.1, unp := fun z => (((), ()), (z, ())) }
noncomputable def F66M : List (Nat × List Tr.Spec) := []
def F66H : Hint := (.seq .leaf (.seq (.seq (.reg [(13, Y4)]) .leaf) (.seq (.seq .leaf (.lp ⟨[(3, (.pd Y3))], [], [0], []⟩ [((.exit 0), ⟨[], [], [], []⟩), (.ret, ⟨[(2, (.pd Y4))], [], [], []⟩)] (.seq .leaf (.seq (.seq .leaf (.seq (.reg [(5, Y4)]) (.seq (.reg [(58, Y4)]) .leaf))) .leaf)))) .leaf)))
noncomputable def F66V (a0 : El Y9) : Option (El Y4) := evalF (mkE tyTab mapTab pkTab [] [] F66M 59 bdTab) (codeOf Tryz.f74) Tryz.f74.results F66H F66A F66R (fun y => y.2.1) (a0, ())
theorem F66_eq (a0 : El Y9) : F66V a0 = F66 a0 := by kernel_rfl
theorem F66_ok : FnOK Tryz.prog 74 F66S := fnOK_of (m := F66M) (fn := Tryz.f74) (hint := F66H) (pack := fun y => y.2.1) hmix tab_ok trivial fun x z h => (F66_eq x.1).trans h
noncomputable def F67 : (El Y3) → (El Y3) → (El Y3) → Option (El Y4) := fun a0 a1 a2 => Option.bind (bif decide (a1 ≤ a0) then some (decide (a0 ≤ a2)) else some false) fun x0 => some x0
abbrev F67A : Pats := (.cons (.pd Y3) (.cons (.pd Y3) (.cons (.pd Y3) .nil)))
abbrev F67R : Pats := (.cons (.pd Y4) .nil)
noncomputable def F67S : Tr.Spec := { args := F67A, res := F67R, fns := [], α := El Y4, f := fun x => F67 x.1 x.2.1 x.2.2.1, unp := fun z => (((), (), (), ()), (z, ())) }
noncomputable def F67M : List (Nat × List Tr.Spec) := []
def F67H : Hint := (.seq .leaf (.seq (.reg [(6, Y4)]) .leaf))
noncomputable def F67V (a0 : El Y3) (a1 : El Y3) (a2 : El Y3) : Option (El Y4) := evalF (mkE tyTab mapTab pkTab [] [] F67M 15 bdTab) (codeOf Tryz.f75) Tryz.f75.results F67H F67A F67R (fun y => y.2.1) (a0, a1, a2, ())
theorem F67_eq (a0 : El Y3) (a1 : El Y3) (a2 : El Y3) : F67V a0 a1 a2 = F67 a0 a1 a2 := by kernel_rfl
theorem F67_ok : FnOK Tryz.prog 75 F67S := fnOK_of (m := F67M) (fn := Tryz.f75) (hint := F67H) (pack := fun y => y.2.1) hmix tab_ok trivial fun x z h => (F67_eq x.1 x.2.1 x.2.2.1).trans h
noncomputable def F73 : (El Y22) → Option (El Y3 × El Y37) := fun a0 =>
 bif decide ((64 : Int) < (↑(List.length a0) : Int)) then some ((0 : Int), (5 : Int))
 else
 Option.bind
 (Tr.run
 (fun s0 =>
 bif decide (s0 < (↑(List.length a0) : Int)) then
 Option.bind (idx a0 s0) fun x1 =>
 Option.bind (F66 x1.1) fun x2 =>
 bif !x2 then some (.inr (.inr (s0, (12 : Int))))
 else
 Option.bind
 (Tr.run
 (fun s3 =>
 bif decide (s3 < s0) then
 Option.bind (idx a0 s3) fun x4 =>
 Option.bind (idx a0 s0) fun x5 =>
 bif decide (x4.1 = x5.1) then some (.inr (.inr (s0, (6 : Int)))) else some (.inl (IntKind.wrap .i64 (s3 + (1 : Int))))
 else some (.inr (.inl ())))
 (0 : Int))
 fun x6 =>
 Sum.elim
 (fun _ =>
 Option.bind
 (Option.bind (idx a0 s0) fun x8 =>
 Option.bind (F67 x8.2.1 (0 : Int) (15 : Int)) fun x9 =>
 bif !x9 then some true
 else Option.bind (idx a0 s0) fun x10 => Option.bind (F67 x10.2.2.2.1 (0 : Int) (3600 : Int)) fun x11 => some !x11)
 fun x12 => bif x12 then some (.inr (.inr (s0, (2 : Int)))) else some (.inl (IntKind.wrap .i64 (s0 + (1 : Int)))))
 (fun y13 => some (.inr (.inr (y13.1, y13.2)))) x6
 else some (.inr (.inl ())))
 (0 : Int))
 fun x14 => Sum.elim (fun _ => some ((0 : Int), (0 : Int))) (fun y16 => some (y16.1, y16.2)) x14
abbrev F73A : Pats := (.cons (.pd Y22) .nil)
abbrev F73R : Pats := (.cons (.pd Y3) (.cons (.pd Y37) .nil))
noncomputable def F73S : Tr.Spec := { args := F73A, res := F73R, fns := [], α := El Y3 × El Y37, f := fun x => F73 x.1, unp := fun z => (((), ()), (z.1, z.2, ())) }
noncomputable def F73M : List (Nat × List Tr.Spec) := [(74, [F66S]), (75, [F67S])]
def F73H : Hint := (.seq .leaf (.seq .leaf (.seq (.seq .leaf (.lp ⟨[(4, (.pd Y3))], [], [0], []⟩ [((.exit 0), ⟨[], [], [], []⟩), (.ret, ⟨[(2, (.pd Y3)), (3, (.pd Y37))], [], [], []⟩)] (.seq .leaf (.seq (.seq .leaf (.seq (.seq .leaf (.lp ⟨[(5, (.pd Y3))], [], [0, 4], []⟩ [((.exit 2), ⟨[], [], [0, 4], []⟩), (.ret, ⟨[(2, (.pd Y3)), (3, (.pd Y37))], [], [], []⟩)] .leaf)) (.seq (.reg [(55, Y4)]) .leaf))) .leaf)))) .leaf)))
noncomputable def F73V (a0 : El Y22) : Option (El Y3 × El Y37) := evalF (mkE tyTab mapTab pkTab [] [] F73M 57 bdTab) (codeOf Tryz.f55) Tryz.f55.results F73H F73A F73R (fun y => (y.2.1, y.2.2.1)) (a0, ())
theorem F73_eq (a0 : El Y22) : F73V a0 = F73 a0 := by kernel_rfl
theorem F73_ok : FnOK Tryz.prog 55 F73S := fnOK_of (m := F73M) (fn := Tryz.f55) (hint := F73H) (pack := fun y => (y.2.1, y.2.2.1)) hmix tab_ok ⟨⟨F66_ok, trivial⟩, ⟨F67_ok, trivial⟩, trivial⟩ fun x z h => (F73_eq x.1).trans h
noncomputable def F71 : (El Y23) → Option (El Y3 × El Y37) := fun a0 =>
 bif decide ((64 : Int) < (↑(List.length a0) : Int)) then some ((0 : Int), (5 : Int))
 else
 Option.bind
 (Tr.run
 (fun s0 =>
 bif decide (s0 < (↑(List.length a0) : Int)) then
 Option.bind (idx a0 s0) fun x1 =>
 Option.bind (F66 x1.1) fun x2 =>
 bif !x2 then some (.inr (.inr (s0, (12 : Int))))
 else
 Option.bind
 (Tr.run
 (fun s3 =>
 bif decide (s3 < s0) then
 Option.bind (idx a0 s3) fun x4 =>
 Option.bind (idx a0 s0) fun x5 =>
 bif decide (x4.1 = x5.1) then some (.inr (.inr (s0, (6 : Int)))) else some (.inl (IntKind.wrap .i64 (s3 + (1 : Int))))
 else some (.inr (.inl ())))
 (0 : Int))
 fun x6 =>
 Sum.elim
 (fun _ =>
 Option.bind (idx a0 s0) fun x8 =>
 Option.bind (F67 x8.2.1 (0 : Int) (7 : Int)) fun x9 =>
 bif !x9 then some (.inr (.inr (s0, (2 : Int)))) else some (.inl (IntKind.wrap .i64 (s0 + (1 : Int)))))
 (fun y10 => some (.inr (.inr (y10.1, y10.2)))) x6
 else some (.inr (.inl ())))
 (0 : Int))
 fun x11 => Sum.elim (fun _ => some ((0 : Int), (0 : Int))) (fun y13 => some (y13.1, y13.2)) x11
abbrev F71A : Pats := (.cons (.pd Y23) .nil)
abbrev F71R : Pats := (.cons (.pd Y3) (.cons (.pd Y37) .nil))
noncomputable def F71S : Tr.Spec := { args := F71A, res := F71R, fns := [], α := El Y3 × El Y37, f := fun x => F71 x.1, unp := fun z => (((), ()), (z.1, z.2, ())) }
noncomputable def F71M : List (Nat × List Tr.Spec) := [(74, [F66S]), (75, [F67S])]
def F71H : Hint := (.seq .leaf (.seq .leaf (.seq (.seq .leaf (.lp ⟨[(4, (.pd Y3))], [], [0], []⟩ [((.exit 0), ⟨[], [], [], []⟩), (.ret, ⟨[(2, (.pd Y3)), (3, (.pd Y37))], [], [], []⟩)] (.seq .leaf (.seq (.seq .leaf (.seq (.seq .leaf (.lp ⟨[(5, (.pd Y3))], [], [0, 4], []⟩ [((.exit 2), ⟨[], [], [0, 4], []⟩), (.ret, ⟨[(2, (.pd Y3)), (3, (.pd Y37))], [], [], []⟩)] .leaf)) .leaf)) .leaf)))) .leaf)))
noncomputable def F71V (a0 : El Y23) : Option (El Y3 × El Y37) := evalF (mkE tyTab mapTab pkTab [] [] F71M 48 bdTab) (codeOf Tryz.f56) Tryz.f56.results F71H F71A F71R (fun y => (y.2.1, y.2.2.1)) (a0, ())
theorem F71_eq (a0 : El Y23) : F71V a0 = F71 a0 := by kernel_rfl
theorem F71_ok : FnOK Tryz.prog 56 F71S := fnOK_of (m := F71M) (fn := Tryz.f56) (hint := F71H) (pack := fun y => (y.2.1, y.2.2.1)) hmix tab_ok ⟨⟨F66_ok, trivial⟩, ⟨F67_ok, trivial⟩, trivial⟩ fun x z h => (F71_eq x.1).trans h
noncomputable def F60 : (El Y52) → (El Y3) → (El Y3) → (El Y3) → Option (El Y37) := fun a0 a1 a2 a3 =>
 Option.bind (bif decide ((↑(List.length a0) : Int) < (2 : Int)) then some true else some (decide ((32 : Int) < (↑(List.length a0) : Int)))) fun x0 =>
 bif x0 then some (5 : Int)
 else
 Option.bind
 (Tr.run
 (fun s1 =>
 bif decide (s1 < (↑(List.length a0) : Int)) then
 Option.bind (idx a0 s1) fun x2 =>
 Option.bind (bif decide (x2.1 < (0 : Int)) then some true else some (decide (a1 ≤ x2.1))) fun x3 =>
 bif x3 then some (.inr (.inr (9 : Int)))
 else
 Option.bind
 (bif decide ((0 : Int) < s1) then Option.bind (idx a0 (IntKind.wrap .i64 (s1 - (1 : Int)))) fun x4 => some (decide (x4.1 = x2.1))
 else some false)
 fun x5 =>
 bif x5 then some (.inr (.inr (13 : Int)))
 else
 Option.bind
 (bif decide (x2.2.1 < a2) then some true
 else
 bif decide (x2.2.2.1 < x2.2.1) then some true
 else
 bif decide (a3 < x2.2.2.1) then some true
 else
 bif decide ((0 : Int) < s1) then
 Option.bind (idx a0 (IntKind.wrap .i64 (s1 - (1 : Int)))) fun x6 => some (decide (x2.2.1 < x6.2.2.1))
 else some false)
 fun x7 => bif x7 then some (.inr (.inr (10 : Int))) else some (.inl (IntKind.wrap .i64 (s1 + (1 : Int))))
 else some (.inr (.inl ())))
 (0 : Int))
 fun x8 => Sum.elim (fun _ => some (0 : Int)) (fun y10 => some y10) x8
abbrev F60A : Pats := (.cons (.pd Y52) (.cons (.pd Y3) (.cons (.pd Y3) (.cons (.pd Y3) .nil))))
abbrev F60R : Pats := (.cons (.pd Y37) .nil)
noncomputable def F60S : Tr.Spec := { args := F60A, res := F60R, fns := [], α := El Y37, f := fun x => F60 x.1 x.2.1 x.2.2.1 x.2.2.2.1, unp := fun z => (((), (), (), (), ()), (z, ())) }
noncomputable def F60M : List (Nat × List Tr.Spec) := []
def F60H : Hint := (.seq .leaf (.seq (.seq (.reg [(18, Y4)]) .leaf) (.seq (.seq .leaf (.lp ⟨[(9, (.pd Y3))], [], [0, 1, 2, 3], []⟩ [((.exit 0), ⟨[], [], [], []⟩), (.ret, ⟨[(8, (.pd Y37))], [], [], []⟩)] (.seq .leaf (.seq (.seq .leaf (.seq (.seq (.reg [(37, Y4)]) .leaf) (.seq (.seq (.reg [(50, Y4)]) .leaf) (.seq (.reg [(82, Y4)]) .leaf)))) .leaf)))) .leaf)))
noncomputable def F60V (a0 : El Y52) (a1 : El Y3) (a2 : El Y3) (a3 : El Y3) : Option (El Y37) := evalF (mkE tyTab mapTab pkTab [] [] F60M 83 bdTab) (codeOf Tryz.f76) Tryz.f76.results F60H F60A F60R (fun y => y.2.1) (a0, a1, a2, a3, ())
theorem F60_eq (a0 : El Y52) (a1 : El Y3) (a2 : El Y3) (a3 : El Y3) : F60V a0 a1 a2 a3 = F60 a0 a1 a2 a3 := by kernel_rfl
theorem F60_ok : FnOK Tryz.prog 76 F60S := fnOK_of (m := F60M) (fn := Tryz.f76) (hint := F60H) (pack := fun y => y.2.1) hmix tab_ok trivial fun x z h => (F60_eq x.1 x.2.1 x.2.2.1 x.2.2.2.1).trans h
noncomputable def F72 : (El Y31) → (El Y3) → Option (El Y37) := fun a0 a1 =>
 Option.bind (idx a0.2.2.1 a1) fun x0 =>
 Option.bind (F66 x0.2.2.2.1) fun x1 =>
 bif !x1 then some (12 : Int)
 else
 Option.bind (bif decide (x0.1 < (-1 : Int)) then some true else some (decide (x0.2.2.1 < (0 : Int)))) fun x2 =>
 bif x2 then some (2 : Int)
 else
 Option.bind (F67 x0.2.1 (0 : Int) (36524 : Int)) fun x3 =>
 bif !x3 then some (11 : Int)
 else
 Option.bind
 (bif decide (x0.2.2.2.2.1 < (0 : Int)) then some true
 else some (decide ((↑(List.length a0.2.1) : Int) ≤ x0.2.2.2.2.1)))
 fun x4 =>
 bif x4 then some (9 : Int)
 else
 Option.bind (F60 x0.2.2.2.2.2.2.2.1 (↑(List.length a0.1) : Int) (0 : Int) (3155932800 : Int)) fun x5 =>
 bif !decide (x5 = (0 : Int)) then some x5
 else
 Option.bind
 (Tr.run
 (fun s6 =>
 bif decide (s6 < a1) then
 Option.bind (idx a0.2.2.1 s6) fun x7 =>
 Option.bind
 (bif decide (x7.2.2.2.1 = x0.2.2.2.1) then
 bif decide (x7.2.1 = x0.2.1) then some (decide (x7.2.2.1 = x0.2.2.1)) else some false
 else some false)
 fun x8 => bif x8 then some (.inr (.inr (6 : Int))) else some (.inl (IntKind.wrap .i64 (s6 + (1 : Int))))
 else some (.inr (.inl ())))
 (0 : Int))
 fun x9 => Sum.elim (fun _ => some (0 : Int)) (fun y11 => some y11) x9
abbrev F72A : Pats := (.cons (.pd Y31) (.cons (.pd Y3) .nil))
abbrev F72R : Pats := (.cons (.pd Y37) .nil)
noncomputable def F72S : Tr.Spec := { args := F72A, res := F72R, fns := [], α := El Y37, f := fun x => F72 x.1 x.2.1, unp := fun z => (((), (), ()), (z, ())) }
noncomputable def F72M : List (Nat × List Tr.Spec) := [(74, [F66S]), (75, [F67S]), (76, [F60S])]
def F72H : Hint := (.seq .leaf (.seq .leaf (.seq .leaf (.seq (.seq (.reg [(25, Y4)]) .leaf) (.seq .leaf (.seq (.seq (.reg [(40, Y4)]) .leaf) (.seq .leaf (.seq .leaf (.seq (.seq .leaf (.lp ⟨[(7, (.pd Y3))], [], [1, 2, 5], []⟩ [((.exit 0), ⟨[], [], [], []⟩), (.ret, ⟨[(4, (.pd Y37))], [], [], []⟩)] (.seq .leaf (.seq (.seq .leaf (.seq (.reg [(78, Y4)]) .leaf)) .leaf)))) .leaf)))))))))
noncomputable def F72V (a0 : El Y31) (a1 : El Y3) : Option (El Y37) := evalF (mkE tyTab mapTab pkTab [] [] F72M 79 bdTab) (codeOf Tryz.f57) Tryz.f57.results F72H F72A F72R (fun y => y.2.1) (a0, a1, ())
theorem F72_eq (a0 : El Y31) (a1 : El Y3) : F72V a0 a1 = F72 a0 a1 := by kernel_rfl
theorem F72_ok : FnOK Tryz.prog 57 F72S := fnOK_of (m := F72M) (fn := Tryz.f57) (hint := F72H) (pack := fun y => y.2.1) hmix tab_ok ⟨⟨F66_ok, trivial⟩, ⟨F67_ok, trivial⟩, ⟨F60_ok, trivial⟩, trivial⟩ fun x z h => (F72_eq x.1 x.2.1).trans h
noncomputable def F68 : (El Y31) → (El Y3) → (El Y3) → (El Y3) → Option (El Y4) := fun a0 a1 a2 a3 =>
 Option.bind
 (Tr.run
 (fun s0 =>
 bif decide (s0.2 ≤ a1) then
 Option.bind
 (Tr.run
 (fun s1 =>
 bif decide (s1.2 < a1) then
 Option.bind
 (Option.bind (idx a0.2.2.2.1 s1.2) fun x2 =>
 bif x2.2.2.2.2.1 then Option.bind (idx a0.2.2.2.1 s1.2) fun x3 => some (decide (x3.1 = s0.1)) else some false)
 fun x4 =>
 bif x4 then Option.bind (idx a0.2.2.2.1 s1.2) fun x5 => some (.inl (x5.2.2.1, IntKind.wrap .i64 (s1.2 + (1 : Int))))
 else some (.inl (s1.1, IntKind.wrap .i64 (s1.2 + (1 : Int))))
 else some (.inr s1.1))
 ((-1 : Int), (0 : Int)))
 fun x6 => bif decide (x6 = a3) then some (.inr (.inr true)) else some (.inl (x6, IntKind.wrap .i64 (s0.2 + (1 : Int))))
 else some (.inr (.inl ())))
 (a2, (0 : Int)))
 fun x7 => Sum.elim (fun _ => some false) (fun y9 => some y9) x7
abbrev F68A : Pats := (.cons (.pd Y31) (.cons (.pd Y3) (.cons (.pd Y3) (.cons (.pd Y3) .nil))))
abbrev F68R : Pats := (.cons (.pd Y4) .nil)
noncomputable def F68S : Tr.Spec := { args := F68A, res := F68R, fns := [], α := El Y4, f := fun x => F68 x.1 x.2.1 x.2.2.1 x.2.2.2.1, unp := fun z => (((), (), (), (), ()), (z, ())) }
noncomputable def F68M : List (Nat × List Tr.Spec) := []
def F68H : Hint := (.seq .leaf (.seq (.seq .leaf (.lp ⟨[(2, (.pd Y3)), (9, (.pd Y3))], [], [1, 3, 4], []⟩ [((.exit 0), ⟨[], [], [], []⟩), (.ret, ⟨[(8, (.pd Y4))], [], [], []⟩)] (.seq .leaf (.seq (.seq .leaf (.seq (.seq .leaf (.lp ⟨[(10, (.pd Y3)), (11, (.pd Y3))], [], [1, 2, 3, 4, 9], []⟩ [((.exit 2), ⟨[(10, (.pd Y3))], [], [1, 3, 4, 9], []⟩)] (.seq .leaf (.seq (.seq (.reg [(37, Y4)]) .leaf) .leaf)))) .leaf)) .leaf)))) .leaf))
noncomputable def F68V (a0 : El Y31) (a1 : El Y3) (a2 : El Y3) (a3 : El Y3) : Option (El Y4) := evalF (mkE tyTab mapTab pkTab [] [] F68M 48 bdTab) (codeOf Tryz.f77) Tryz.f77.results F68H F68A F68R (fun y => y.2.1) (a0, a1, a2, a3, ())
theorem F68_eq (a0 : El Y31) (a1 : El Y3) (a2 : El Y3) (a3 : El Y3) : F68V a0 a1 a2 a3 = F68 a0 a1 a2 a3 := by kernel_rfl
theorem F68_ok : FnOK Tryz.prog 77 F68S := fnOK_of (m := F68M) (fn := Tryz.f77) (hint := F68H) (pack := fun y => y.2.1) hmix tab_ok trivial fun x z h => (F68_eq x.1 x.2.1 x.2.2.1 x.2.2.2.1).trans h
noncomputable def F69 : (El Y31) → (El Y3) → Option (El Y37) := fun a0 a1 =>
 Option.bind (idx a0.2.2.2.1 a1) fun x0 =>
 Option.bind
 (Option.bind (F67 x0.1 (0 : Int) (IntKind.wrap .i64 ((↑(List.length a0.2.2.1) : Int) - (1 : Int)))) fun x1 =>
 bif !x1 then some true
 else
 Option.bind (F67 x0.2.2.1 (0 : Int) (IntKind.wrap .i64 ((↑(List.length a0.2.2.1) : Int) - (1 : Int)))) fun x2 =>
 bif !x2 then some true else some (decide (x0.1 = x0.2.2.1)))
 fun x3 =>
 bif x3 then some (9 : Int)
 else
 Option.bind (idx a0.2.2.1 x0.1) fun x4 =>
 Option.bind (idx a0.2.2.1 x0.2.2.1) fun x5 =>
 Option.bind
 (Option.bind (F67 x0.2.1 (0 : Int) (IntKind.wrap .i64 ((↑(List.length x4.2.2.2.2.2.2.2.1) : Int) - (1 : Int)))) fun x6 =>
 bif !x6 then some true
 else
 Option.bind (F67 x0.2.2.2.1 (0 : Int) (IntKind.wrap .i64 ((↑(List.length x5.2.2.2.2.2.2.2.1) : Int) - (1 : Int)))) fun x7 =>
 some !x7)
 fun x8 =>
 bif x8 then some (9 : Int)
 else
 Option.bind (idx x4.2.2.2.2.2.2.2.1 x0.2.1) fun x9 =>
 Option.bind (idx x5.2.2.2.2.2.2.2.1 x0.2.2.2.1) fun x10 =>
 bif !decide (x9.1 = x10.1) then some (13 : Int)
 else
 Option.bind
 (bif x0.2.2.2.2.1 then
 bif !decide (x0.2.1 = IntKind.wrap .i64 ((↑(List.length x4.2.2.2.2.2.2.2.1) : Int) - (1 : Int))) then some true
 else some !decide (x0.2.2.2.1 = (0 : Int))
 else some false)
 fun x11 =>
 bif x11 then some (19 : Int)
 else
 Option.bind
 (Tr.run
 (fun s12 =>
 bif decide (s12 < a1) then
 Option.bind (idx a0.2.2.2.1 s12) fun x13 =>
 Option.bind
 (bif x0.2.2.2.2.1 then
 bif x13.2.2.2.2.1 then
 bif decide (x13.1 = x0.1) then some true else some (decide (x13.2.2.1 = x0.2.2.1))
 else some false
 else some false)
 fun x14 => bif x14 then some (.inr (.inr (19 : Int))) else some (.inl (IntKind.wrap .i64 (s12 + (1 : Int))))
 else some (.inr (.inl ())))
 (0 : Int))
 fun x15 =>
 Sum.elim
 (fun _ =>
 Option.bind (bif x0.2.2.2.2.1 then Option.bind (F68 a0 a1 x0.2.2.1 x0.1) fun x17 => some x17 else some false) fun x18 =>
 bif x18 then some (19 : Int)
 else
 Option.bind
 (Tr.run
 (fun s19 =>
 bif decide (s19 < a1) then
 Option.bind (idx a0.2.2.2.1 s19) fun x20 =>
 Option.bind
 (bif decide (x20.1 = x0.1) then
 bif decide (x20.2.1 = x0.2.1) then
 bif decide (x20.2.2.1 = x0.2.2.1) then some (decide (x20.2.2.2.1 = x0.2.2.2.1))
 else some false
 else some false
 else some false)
 fun x21 => bif x21 then some (.inr (.inr (6 : Int))) else some (.inl (IntKind.wrap .i64 (s19 + (1 : Int))))
 else some (.inr (.inl ())))
 (0 : Int))
 fun x22 => Sum.elim (fun _ => some (0 : Int)) (fun y24 => some y24) x22)
 (fun y25 => some y25) x15
abbrev F69A : Pats := (.cons (.pd Y31) (.cons (.pd Y3) .nil))
abbrev F69R : Pats := (.cons (.pd Y37) .nil)
noncomputable def F69S : Tr.Spec := { args := F69A, res := F69R, fns := [], α := El Y37, f := fun x => F69 x.1 x.2.1, unp := fun z => (((), (), ()), (z, ())) }
noncomputable def F69M : List (Nat × List Tr.Spec) := [(75, [F67S]), (77, [F68S])]
def F69H : Hint := (.seq .leaf (.seq .leaf (.seq (.seq (.reg [(41, Y4)]) .leaf) (.seq .leaf (.seq (.seq (.reg [(71, Y4)]) .leaf) (.seq .leaf (.seq (.seq (.reg [(99, Y4)]) .leaf) (.seq (.seq .leaf (.lp ⟨[(8, (.pd Y3))], [], [1, 2, 5], []⟩ [((.exit 0), ⟨[], [], [1, 2, 5], []⟩), (.ret, ⟨[(4, (.pd Y37))], [], [], []⟩)] (.seq .leaf (.seq (.seq .leaf (.seq (.reg [(129, Y4)]) .leaf)) .leaf)))) (.seq (.seq (.reg [(140, Y4)]) .leaf) (.seq (.seq .leaf (.lp ⟨[(10, (.pd Y3))], [], [1, 2, 5], []⟩ [((.exit 2), ⟨[], [], [], []⟩), (.ret, ⟨[(4, (.pd Y37))], [], [], []⟩)] (.seq .leaf (.seq (.seq .leaf (.seq (.reg [(176, Y4)]) .leaf)) .leaf)))) .leaf))))))))))
noncomputable def F69V (a0 : El Y31) (a1 : El Y3) : Option (El Y37) := evalF (mkE tyTab mapTab pkTab [] [] F69M 177 bdTab) (codeOf Tryz.f58) Tryz.f58.results F69H F69A F69R (fun y => y.2.1) (a0, a1, ())
theorem F69_eq (a0 : El Y31) (a1 : El Y3) : F69V a0 a1 = F69 a0 a1 := by kernel_rfl
theorem F69_ok : FnOK Tryz.prog 58 F69S := fnOK_of (m := F69M) (fn := Tryz.f58) (hint := F69H) (pack := fun y => y.2.1) hmix tab_ok ⟨⟨F67_ok, trivial⟩, ⟨F68_ok, trivial⟩, trivial⟩ fun x z h => (F69_eq x.1 x.2.1).trans h
end Q
