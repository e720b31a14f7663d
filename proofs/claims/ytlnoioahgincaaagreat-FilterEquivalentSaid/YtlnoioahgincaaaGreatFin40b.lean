/- The functions of the program as functions of Lean, and that the program computes them; printed by a program of mine. Conditions: none. -/
import Derived.Test.YtlnoioahgincaaaGreatFin40a
open Tr Go Go.Proofs
namespace Q
noncomputable def F68 : (El Y31) → Option (El Y3 × El Y36) := fun a0 =>
 Option.bind
 (Tr.run
 (fun s0 =>
 bif decide (s0 < (↑(List.length a0.2.2.2.2.1) : Int)) then
 Option.bind (idx a0.2.2.2.2.1 s0) fun x1 =>
 Option.bind
 (Option.bind (F65 x1.1 (0 : Int) (IntKind.wrap .i64 ((↑(List.length a0.1) : Int) - (1 : Int)))) fun x2 =>
 bif !x2 then some true
 else
 Option.bind (F65 x1.2.1 (0 : Int) (IntKind.wrap .i64 ((↑(List.length a0.1) : Int) - (1 : Int)))) fun x3 =>
 bif !x3 then some true else some (decide (x1.1 = x1.2.1)))
 fun x4 =>
 bif x4 then some (.inr (.inr (s0, (9 : Int))))
 else
 Option.bind (F65 x1.2.2.1 (1 : Int) (14400 : Int)) fun x5 =>
 bif !x5 then some (.inr (.inr (s0, (2 : Int))))
 else
 Option.bind
 (Tr.run
 (fun s6 =>
 bif decide (s6 < s0) then
 Option.bind (idx a0.2.2.2.2.1 s6) fun x7 =>
 Option.bind
 (bif decide (x7.1 = x1.1) then
 bif decide (x7.2.1 = x1.2.1) then some (x7.2.2.2.1 == x1.2.2.2.1) else some false
 else some false)
 fun x8 => bif x8 then some (.inr (.inr (s0, (6 : Int)))) else some (.inl (IntKind.wrap .i64 (s6 + (1 : Int))))
 else some (.inr (.inl ())))
 (0 : Int))
 fun x9 => Sum.elim (fun _ => some (.inl (IntKind.wrap .i64 (s0 + (1 : Int))))) (fun y11 => some (.inr (.inr (y11.1, y11.2)))) x9
 else some (.inr (.inl ())))
 (0 : Int))
 fun x12 =>
 Sum.elim
 (fun _ =>
 Option.bind (F56 a0.2.2.2.2.1 (↑(List.length a0.1) : Int)) fun x14 =>
 bif !decide ((↑(List.length x14) : Int) = (↑(List.length a0.2.2.2.2.1) : Int)) then some ((0 : Int), (18 : Int))
 else
 Option.bind
 (Tr.run
 (fun s15 =>
 bif decide (s15 < (↑(List.length x14) : Int)) then
 Option.bind (idx x14 s15) fun x16 =>
 Option.bind (idx a0.2.2.2.2.1 s15) fun x17 =>
 bif
 !(decide (x16.1 = x17.1) &&
 (decide (x16.2.1 = x17.2.1) && (decide (x16.2.2.1 = x17.2.2.1) && x16.2.2.2.1 == x17.2.2.2.1))) then
 some (.inr (.inr ((0 : Int), (18 : Int))))
 else some (.inl (IntKind.wrap .i64 (s15 + (1 : Int))))
 else some (.inr (.inl ())))
 (0 : Int))
 fun x18 => Sum.elim (fun _ => some ((0 : Int), (0 : Int))) (fun y20 => some (y20.1, y20.2)) x18)
 (fun y21 => some (y21.1, y21.2)) x12
abbrev F68A : Pats := (.cons (.pd Y31) .nil)
abbrev F68R : Pats := (.cons (.pd Y3) (.cons (.pd Y36) .nil))
noncomputable def F68S : Tr.Spec := { args := F68A, res := F68R, fns := [], α := El Y3 × El Y36, f := fun x => F68 x.1, unp := fun z => (((), ()), (z.1, z.2, ())) }
noncomputable def F68M : List (Nat × List Tr.Spec) := [(70, [F65S]), (73, [F56S])]
def F68H : Hint := (.seq .leaf (.seq (.seq .leaf (.lp ⟨[(4, (.pd Y3))], [], [1], []⟩ [((.exit 0), ⟨[], [], [1], []⟩), (.ret, ⟨[(2, (.pd Y3)), (3, (.pd Y36))], [], [], []⟩)] (.seq .leaf (.seq (.seq .leaf (.seq (.seq (.reg [(46, Y4)]) .leaf) (.seq .leaf (.seq .leaf (.lp ⟨[(6, (.pd Y3))], [], [1, 4, 5], []⟩ [((.exit 2), ⟨[], [], [1, 4], []⟩), (.ret, ⟨[(2, (.pd Y3)), (3, (.pd Y36))], [], [], []⟩)] (.seq .leaf (.seq (.seq .leaf (.seq (.reg [(81, Y4)]) .leaf)) .leaf))))))) .leaf)))) (.seq .leaf (.seq .leaf (.seq (.seq .leaf (.lp ⟨[(9, (.pd Y3))], [], [1, 8], []⟩ [((.exit 4), ⟨[], [], [], []⟩), (.ret, ⟨[(2, (.pd Y3)), (3, (.pd Y36))], [], [], []⟩)] .leaf)) .leaf)))))
noncomputable def F68V (a0 : El Y31) : Option (El Y3 × El Y36) := evalF (mkE tyTab mapTab pkTab [] [] F68M 111 bdTab) (codeOf Tryz.f57) Tryz.f57.results F68H F68A F68R (fun y => (y.2.1, y.2.2.1)) (a0, ())
theorem F68_eq (a0 : El Y31) : F68V a0 = F68 a0 := by kernel_rfl
theorem F68_ok : FnOK Tryz.prog 57 F68S := fnOK_of (m := F68M) (fn := Tryz.f57) (hint := F68H) (pack := fun y => (y.2.1, y.2.2.1)) hmix tab_ok ⟨⟨F65_ok, trivial⟩, ⟨F56_ok, trivial⟩, trivial⟩ fun x z h => (F68_eq x.1).trans h
noncomputable def F58 : (El Y29) → Option (El Y3 × El Y36) := fun a0 =>
 Option.bind
 (Option.bind (F65 a0.2.1 (0 : Int) (1000000 : Int)) fun x0 =>
 bif !x0 then some true
 else
 Option.bind (F65 a0.2.2.1 (0 : Int) (86400 : Int)) fun x1 =>
 bif !x1 then some true else Option.bind (F65 a0.2.2.2.1 (0 : Int) (1000000 : Int)) fun x2 => some !x2)
 fun x3 =>
 bif x3 then some ((-1 : Int), (2 : Int))
 else
 bif decide ((16 : Int) < (↑(List.length a0.1) : Int)) then some ((0 : Int), (5 : Int))
 else
 Option.bind
 (Tr.run
 (fun s4 =>
 bif decide (s4 < (↑(List.length a0.1) : Int)) then
 Option.bind (idx a0.1 s4) fun x5 =>
 Option.bind (F64 x5.1) fun x6 =>
 bif !x6 then some (.inr (.inr (s4, (12 : Int))))
 else
 Option.bind
 (Tr.run
 (fun s7 =>
 bif decide (s7 < s4) then
 Option.bind (idx a0.1 s7) fun x8 =>
 bif decide (x8.1 = x5.1) then some (.inr (.inr (s4, (6 : Int)))) else some (.inl (IntKind.wrap .i64 (s7 + (1 : Int))))
 else some (.inr (.inl ())))
 (0 : Int))
 fun x9 =>
 Sum.elim
 (fun _ =>
 Option.bind
 (Option.bind (F65 x5.2.1 (0 : Int) (1000000 : Int)) fun x11 =>
 bif !x11 then some true
 else
 Option.bind (F65 x5.2.2.1 (1 : Int) (8 : Int)) fun x12 =>
 bif !x12 then some true
 else
 Option.bind (F65 x5.2.2.2.1 (1 : Int) (16 : Int)) fun x13 =>
 bif !x13 then some true
 else
 Option.bind (F65 x5.2.2.2.2.1 (0 : Int) (86400 : Int)) fun x14 =>
 bif !x14 then some true else Option.bind (F65 x5.2.2.2.2.2.1 (1 : Int) (255 : Int)) fun x15 => some !x15)
 fun x16 => bif x16 then some (.inr (.inr (s4, (2 : Int)))) else some (.inl (IntKind.wrap .i64 (s4 + (1 : Int)))))
 (fun y17 => some (.inr (.inr (y17.1, y17.2)))) x9
 else some (.inr (.inl ())))
 (0 : Int))
 fun x18 => Sum.elim (fun _ => some ((0 : Int), (0 : Int))) (fun y20 => some (y20.1, y20.2)) x18
abbrev F58A : Pats := (.cons (.pd Y29) .nil)
abbrev F58R : Pats := (.cons (.pd Y3) (.cons (.pd Y36) .nil))
noncomputable def F58S : Tr.Spec := { args := F58A, res := F58R, fns := [], α := El Y3 × El Y36, f := fun x => F58 x.1, unp := fun z => (((), ()), (z.1, z.2, ())) }
noncomputable def F58M : List (Nat × List Tr.Spec) := [(69, [F64S]), (70, [F65S])]
def F58H : Hint := (.seq .leaf (.seq (.seq (.reg [(22, Y4)]) .leaf) (.seq .leaf (.seq (.seq .leaf (.lp ⟨[(4, (.pd Y3))], [], [1], []⟩ [((.exit 0), ⟨[], [], [], []⟩), (.ret, ⟨[(2, (.pd Y3)), (3, (.pd Y36))], [], [], []⟩)] (.seq .leaf (.seq (.seq .leaf (.seq .leaf (.seq (.seq .leaf (.lp ⟨[(6, (.pd Y3))], [], [1, 4, 5], []⟩ [((.exit 2), ⟨[], [], [1, 4, 5], []⟩), (.ret, ⟨[(2, (.pd Y3)), (3, (.pd Y36))], [], [], []⟩)] .leaf)) (.seq (.reg [(86, Y4)]) .leaf)))) .leaf)))) .leaf))))
noncomputable def F58V (a0 : El Y29) : Option (El Y3 × El Y36) := evalF (mkE tyTab mapTab pkTab [] [] F58M 88 bdTab) (codeOf Tryz.f58) Tryz.f58.results F58H F58A F58R (fun y => (y.2.1, y.2.2.1)) (a0, ())
theorem F58_eq (a0 : El Y29) : F58V a0 = F58 a0 := by kernel_rfl
theorem F58_ok : FnOK Tryz.prog 58 F58S := fnOK_of (m := F58M) (fn := Tryz.f58) (hint := F58H) (pack := fun y => (y.2.1, y.2.2.1)) hmix tab_ok ⟨⟨F64_ok, trivial⟩, ⟨F65_ok, trivial⟩, trivial⟩ fun x z h => (F58_eq x.1).trans h
noncomputable def F55 : (El Y31) → Option (El Y3 × El Y3 × El Y36) := fun a0 =>
 Option.bind (F71 a0.1) fun x0 =>
 bif !decide (x0.2 = (0 : Int)) then some ((0 : Int), x0.1, x0.2)
 else
 Option.bind (F69 a0.2.1) fun x1 =>
 bif !decide (x1.2 = (0 : Int)) then some ((1 : Int), x1.1, x1.2)
 else
 bif decide ((1024 : Int) < (↑(List.length a0.2.2.1) : Int)) then some ((2 : Int), (0 : Int), (5 : Int))
 else
 Option.bind
 (Tr.run
 (fun s2 =>
 bif decide (s2 < (↑(List.length a0.2.2.1) : Int)) then
 Option.bind (F70 a0 s2) fun x3 =>
 bif !decide (x3 = (0 : Int)) then some (.inr (.inr ((2 : Int), s2, x3))) else some (.inl (IntKind.wrap .i64 (s2 + (1 : Int))))
 else some (.inr (.inl ())))
 (0 : Int))
 fun x4 =>
 Sum.elim
 (fun _ =>
 bif decide ((1024 : Int) < (↑(List.length a0.2.2.2.1) : Int)) then some ((3 : Int), (0 : Int), (5 : Int))
 else
 Option.bind
 (Tr.run
 (fun s6 =>
 bif decide (s6 < (↑(List.length a0.2.2.2.1) : Int)) then
 Option.bind (F67 a0 s6) fun x7 =>
 bif !decide (x7 = (0 : Int)) then some (.inr (.inr ((3 : Int), s6, x7)))
 else some (.inl (IntKind.wrap .i64 (s6 + (1 : Int))))
 else some (.inr (.inl ())))
 (0 : Int))
 fun x8 =>
 Sum.elim
 (fun _ =>
 Option.bind (F68 a0) fun x10 =>
 bif !decide (x10.2 = (0 : Int)) then some ((4 : Int), x10.1, x10.2)
 else
 Option.bind (F58 a0.2.2.2.2.2.1) fun x11 =>
 bif !decide (x11.2 = (0 : Int)) then some ((5 : Int), x11.1, x11.2) else some ((0 : Int), (0 : Int), (0 : Int)))
 (fun y12 => some (y12.1, y12.2.1, y12.2.2)) x8)
 (fun y13 => some (y13.1, y13.2.1, y13.2.2)) x4
abbrev F55A : Pats := (.cons (.pd Y31) .nil)
abbrev F55R : Pats := (.cons (.pd Y3) (.cons (.pd Y3) (.cons (.pd Y36) .nil)))
noncomputable def F55S : Tr.Spec := { args := F55A, res := F55R, fns := [], α := El Y3 × El Y3 × El Y36, f := fun x => F55 x.1, unp := fun z => (((), ()), (z.1, z.2.1, z.2.2, ())) }
noncomputable def F55M : List (Nat × List Tr.Spec) := [(53, [F71S]), (54, [F69S]), (55, [F70S]), (56, [F67S]), (57, [F68S]), (58, [F58S])]
def F55H : Hint := (.seq .leaf (.seq .leaf (.seq .leaf (.seq .leaf (.seq .leaf (.seq .leaf (.seq (.seq .leaf (.lp ⟨[(7, (.pd Y3))], [], [1], []⟩ [((.exit 0), ⟨[], [], [1], []⟩), (.ret, ⟨[(2, (.pd Y3)), (3, (.pd Y3)), (4, (.pd Y36))], [], [], []⟩)] .leaf)) (.seq .leaf (.seq (.seq .leaf (.lp ⟨[(8, (.pd Y3))], [], [1], []⟩ [((.exit 2), ⟨[], [], [1], []⟩), (.ret, ⟨[(2, (.pd Y3)), (3, (.pd Y3)), (4, (.pd Y36))], [], [], []⟩)] .leaf)) .leaf)))))))))
noncomputable def F55V (a0 : El Y31) : Option (El Y3 × El Y3 × El Y36) := evalF (mkE tyTab mapTab pkTab [] [] F55M 84 bdTab) (codeOf Tryz.f35) Tryz.f35.results F55H F55A F55R (fun y => (y.2.1, y.2.2.1, y.2.2.2.1)) (a0, ())
theorem F55_eq (a0 : El Y31) : F55V a0 = F55 a0 := by kernel_rfl
theorem F55_ok : FnOK Tryz.prog 35 F55S := fnOK_of (m := F55M) (fn := Tryz.f35) (hint := F55H) (pack := fun y => (y.2.1, y.2.2.1, y.2.2.2.1)) hmix tab_ok ⟨⟨F71_ok, trivial⟩, ⟨F69_ok, trivial⟩, ⟨F70_ok, trivial⟩, ⟨F67_ok, trivial⟩, ⟨F68_ok, trivial⟩, ⟨F58_ok, trivial⟩, trivial⟩ fun x z h => (F55_eq x.1).trans h
noncomputable def F63 : (El Y31) → Option (El Y4) := fun a0 => Option.bind (F55 a0) fun x0 => some (decide (x0.2.2 = (0 : Int)))
abbrev F63A : Pats := (.cons (.pd Y31) .nil)
abbrev F63R : Pats := (.cons (.pd Y4) .nil)
noncomputable def F63S : Tr.Spec := { args := F63A, res := F63R, fns := [], α := El Y4, f := fun x => F63 x.1, unp := fun z => (((), ()), (z, ())) }
noncomputable def F63M : List (Nat × List Tr.Spec) := [(35, [F55S])]
def F63H : Hint := .leaf
noncomputable def F63V (a0 : El Y31) : Option (El Y4) := evalF (mkE tyTab mapTab pkTab [] [] F63M 14 bdTab) (codeOf Tryz.f19) Tryz.f19.results F63H F63A F63R (fun y => y.2.1) (a0, ())
theorem F63_eq (a0 : El Y31) : F63V a0 = F63 a0 := by kernel_rfl
theorem F63_ok : FnOK Tryz.prog 19 F63S := fnOK_of (m := F63M) (fn := Tryz.f19) (hint := F63H) (pack := fun y => y.2.1) hmix tab_ok ⟨⟨F55_ok, trivial⟩, trivial⟩ fun x z h => (F63_eq x.1).trans h
noncomputable def F92 : (El Y3) → (El Y3) → (El Y3) → Option (El Y4) := fun a0 a1 a2 => Option.bind (bif decide (a1 ≤ a0) then some (decide (a0 ≤ a2)) else some false) fun x0 => some x0
abbrev F92A : Pats := (.cons (.pd Y3) (.cons (.pd Y3) (.cons (.pd Y3) .nil)))
abbrev F92R : Pats := (.cons (.pd Y4) .nil)
noncomputable def F92S : Tr.Spec := { args := F92A, res := F92R, fns := [], α := El Y4, f := fun x => F92 x.1 x.2.1 x.2.2.1, unp := fun z => (((), (), (), ()), (z, ())) }
noncomputable def F92M : List (Nat × List Tr.Spec) := []
def F92H : Hint := (.seq .leaf (.seq (.reg [(6, Y4)]) .leaf))
noncomputable def F92V (a0 : El Y3) (a1 : El Y3) (a2 : El Y3) : Option (El Y4) := evalF (mkE tyTab mapTab pkTab [] [] F92M 15 bdTab) (codeOf Tryz.f51) Tryz.f51.results F92H F92A F92R (fun y => y.2.1) (a0, a1, a2, ())
theorem F92_eq (a0 : El Y3) (a1 : El Y3) (a2 : El Y3) : F92V a0 a1 a2 = F92 a0 a1 a2 := by kernel_rfl
theorem F92_ok : FnOK Tryz.prog 51 F92S := fnOK_of (m := F92M) (fn := Tryz.f51) (hint := F92H) (pack := fun y => y.2.1) hmix tab_ok trivial fun x z h => (F92_eq x.1 x.2.1 x.2.2.1).trans h
noncomputable def F87 : (El Y3) → (El Y33) → Option (El Y4) := fun a0 a1 =>
 Option.bind
 (Option.bind (F92 a1.1 (0 : Int) (IntKind.wrap .i64 (a0 - (1 : Int)))) fun x0 =>
 bif x0 then
 Option.bind (F92 a1.2.1 (0 : Int) (IntKind.wrap .i64 (a0 - (1 : Int)))) fun x1 =>
 bif x1 then
 Option.bind (F92 a1.2.2.1 (0 : Int) (3155932800 : Int)) fun x2 =>
 bif x2 then
 Option.bind (F92 a1.2.2.2.2.1 (0 : Int) (8 : Int)) fun x3 =>
 bif x3 then
 Option.bind (F92 a1.2.2.2.2.2.1 (0 : Int) (86400 : Int)) fun x4 =>
 bif x4 then
 Option.bind (F92 a1.2.2.2.2.2.2.2.2.1 (0 : Int) (255 : Int)) fun x5 =>
 bif x5 then bif a1.2.2.2.2.2.2.2.2.2.1 then some !a1.2.2.2.1 else some !false else some false
 else some false
 else some false
 else some false
 else some false
 else some false)
 fun x6 => some x6
abbrev F87A : Pats := (.cons (.pd Y3) (.cons (.pd Y33) .nil))
abbrev F87R : Pats := (.cons (.pd Y4) .nil)
noncomputable def F87S : Tr.Spec := { args := F87A, res := F87R, fns := [], α := El Y4, f := fun x => F87 x.1 x.2.1, unp := fun z => (((), (), ()), (z, ())) }
noncomputable def F87M : List (Nat × List Tr.Spec) := [(51, [F92S])]
def F87H : Hint := (.seq .leaf (.seq (.reg [(4, Y4)]) .leaf))
noncomputable def F87V (a0 : El Y3) (a1 : El Y33) : Option (El Y4) := evalF (mkE tyTab mapTab pkTab [] [] F87M 46 bdTab) (codeOf Tryz.f28) Tryz.f28.results F87H F87A F87R (fun y => y.2.1) (a0, a1, ())
theorem F87_eq (a0 : El Y3) (a1 : El Y33) : F87V a0 a1 = F87 a0 a1 := by kernel_rfl
theorem F87_ok : FnOK Tryz.prog 28 F87S := fnOK_of (m := F87M) (fn := Tryz.f28) (hint := F87H) (pack := fun y => y.2.1) hmix tab_ok ⟨⟨F92_ok, trivial⟩, trivial⟩ fun x z h => (F87_eq x.1 x.2.1).trans h
noncomputable def F84 : (El Y31) → (El Y33) → Option (El Y36) := fun a0 a1 =>
 Option.bind (F63 a0) fun x0 =>
 bif !x0 then some (21 : Int) else Option.bind (F87 (↑(List.length a0.1) : Int) a1) fun x1 => bif !x1 then some (22 : Int) else some (0 : Int)
abbrev F84A : Pats := (.cons (.pd Y31) (.cons (.pd Y33) .nil))
abbrev F84R : Pats := (.cons (.pd Y36) .nil)
noncomputable def F84S : Tr.Spec := { args := F84A, res := F84R, fns := [], α := El Y36, f := fun x => F84 x.1 x.2.1, unp := fun z => (((), (), ()), (z, ())) }
noncomputable def F84M : List (Nat × List Tr.Spec) := [(19, [F63S]), (28, [F87S])]
def F84H : Hint := .leaf
noncomputable def F84V (a0 : El Y31) (a1 : El Y33) : Option (El Y36) := evalF (mkE tyTab mapTab pkTab [] [] F84M 14 bdTab) (codeOf Tryz.f11) Tryz.f11.results F84H F84A F84R (fun y => y.2.1) (a0, a1, ())
theorem F84_eq (a0 : El Y31) (a1 : El Y33) : F84V a0 a1 = F84 a0 a1 := by kernel_rfl
theorem F84_ok : FnOK Tryz.prog 11 F84S := fnOK_of (m := F84M) (fn := Tryz.f11) (hint := F84H) (pack := fun y => y.2.1) hmix tab_ok ⟨⟨F63_ok, trivial⟩, ⟨F87_ok, trivial⟩, trivial⟩ fun x z h => (F84_eq x.1 x.2.1).trans h
noncomputable def F59 : (El Y54) → (El Y54) → Option (El Y4) := fun a0 a1 =>
 bif !decide ((↑(List.length a0) : Int) = (↑(List.length a1) : Int)) then some false
 else
 Option.bind
 (Tr.run
 (fun s0 =>
 bif decide (s0 < (↑(List.length a0) : Int)) then
 Option.bind (idx a0 s0) fun x1 =>
 Option.bind (idx a1 s0) fun x2 =>
 bif
 !(decide (x1.1 = x2.1) &&
 (decide (x1.2.1 = x2.2.1) &&
 (decide (x1.2.2.1 = x2.2.2.1) && (x1.2.2.2.1 == x2.2.2.2.1 && x1.2.2.2.2.1 == x2.2.2.2.2.1)))) then
 some (.inr (.inr false))
 else some (.inl (IntKind.wrap .i64 (s0 + (1 : Int))))
 else some (.inr (.inl ())))
 (0 : Int))
 fun x3 => Sum.elim (fun _ => some true) (fun y5 => some y5) x3
abbrev F59A : Pats := (.cons (.pd Y54) (.cons (.pd Y54) .nil))
abbrev F59R : Pats := (.cons (.pd Y4) .nil)
noncomputable def F59S : Tr.Spec := { args := F59A, res := F59R, fns := [], α := El Y4, f := fun x => F59 x.1 x.2.1, unp := fun z => (((), (), ()), (z, ())) }
noncomputable def F59M : List (Nat × List Tr.Spec) := []
def F59H : Hint := (.seq .leaf (.seq .leaf (.seq (.seq .leaf (.lp ⟨[(5, (.pd Y3))], [], [0, 1], []⟩ [((.exit 0), ⟨[], [], [], []⟩), (.ret, ⟨[(4, (.pd Y4))], [], [], []⟩)] .leaf)) .leaf)))
noncomputable def F59V (a0 : El Y54) (a1 : El Y54) : Option (El Y4) := evalF (mkE tyTab mapTab pkTab [] [] F59M 26 bdTab) (codeOf Tryz.f52) Tryz.f52.results F59H F59A F59R (fun y => y.2.1) (a0, a1, ())
theorem F59_eq (a0 : El Y54) (a1 : El Y54) : F59V a0 a1 = F59 a0 a1 := by kernel_rfl
theorem F59_ok : FnOK Tryz.prog 52 F59S := fnOK_of (m := F59M) (fn := Tryz.f52) (hint := F59H) (pack := fun y => y.2.1) hmix tab_ok trivial fun x z h => (F59_eq x.1 x.2.1).trans h
noncomputable def F61 : (El Y24) → (El Y24) → Option (El Y4) := fun a0 a1 =>
 bif !decide ((↑(List.length a0) : Int) = (↑(List.length a1) : Int)) then some false
 else
 Option.bind
 (Tr.run
 (fun s0 =>
 bif decide (s0 < (↑(List.length a0) : Int)) then
 Option.bind (idx a0 s0) fun x1 =>
 Option.bind (idx a1 s0) fun x2 =>
 Option.bind
 (bif !decide (x1.1 = x2.1) then some true
 else
 bif !decide (x1.2.1 = x2.2.1) then some true
 else
 bif !decide (x1.2.2.1 = x2.2.2.1) then some true
 else
 bif !decide (x1.2.2.2.1 = x2.2.2.2.1) then some true
 else
 bif !decide (x1.2.2.2.2.1 = x2.2.2.2.2.1) then some true
 else
 bif !x1.2.2.2.2.2.1 == x2.2.2.2.2.2.1 then some true
 else
 bif !x1.2.2.2.2.2.2.1 == x2.2.2.2.2.2.2.1 then some true
 else Option.bind (F59 x1.2.2.2.2.2.2.2.1 x2.2.2.2.2.2.2.2.1) fun x3 => some !x3)
 fun x4 => bif x4 then some (.inr (.inr false)) else some (.inl (IntKind.wrap .i64 (s0 + (1 : Int))))
 else some (.inr (.inl ())))
 (0 : Int))
 fun x5 => Sum.elim (fun _ => some true) (fun y7 => some y7) x5
abbrev F61A : Pats := (.cons (.pd Y24) (.cons (.pd Y24) .nil))
abbrev F61R : Pats := (.cons (.pd Y4) .nil)
noncomputable def F61S : Tr.Spec := { args := F61A, res := F61R, fns := [], α := El Y4, f := fun x => F61 x.1 x.2.1, unp := fun z => (((), (), ()), (z, ())) }
noncomputable def F61M : List (Nat × List Tr.Spec) := [(52, [F59S])]
def F61H : Hint := (.seq .leaf (.seq .leaf (.seq (.seq .leaf (.lp ⟨[(5, (.pd Y3))], [], [0, 1], []⟩ [((.exit 0), ⟨[], [], [], []⟩), (.ret, ⟨[(4, (.pd Y4))], [], [], []⟩)] (.seq .leaf (.seq (.seq .leaf (.seq (.reg [(81, Y4)]) .leaf)) .leaf)))) .leaf)))
noncomputable def F61V (a0 : El Y24) (a1 : El Y24) : Option (El Y4) := evalF (mkE tyTab mapTab pkTab [] [] F61M 82 bdTab) (codeOf Tryz.f29) Tryz.f29.results F61H F61A F61R (fun y => y.2.1) (a0, a1, ())
theorem F61_eq (a0 : El Y24) (a1 : El Y24) : F61V a0 a1 = F61 a0 a1 := by kernel_rfl
theorem F61_ok : FnOK Tryz.prog 29 F61S := fnOK_of (m := F61M) (fn := Tryz.f29) (hint := F61H) (pack := fun y => y.2.1) hmix tab_ok ⟨⟨F59_ok, trivial⟩, trivial⟩ fun x z h => (F61_eq x.1 x.2.1).trans h
noncomputable def F60 : (El Y29) → (El Y29) → Option (El Y4) := fun a0 a1 =>
 Option.bind
 (bif !decide ((↑(List.length a0.1) : Int) = (↑(List.length a1.1) : Int)) then some true
 else
 bif !decide (a0.2.1 = a1.2.1) then some true
 else bif !decide (a0.2.2.1 = a1.2.2.1) then some true else some !decide (a0.2.2.2.1 = a1.2.2.2.1))
 fun x0 =>
 bif x0 then some false
 else
 Option.bind
 (Tr.run
 (fun s1 =>
 bif decide (s1 < (↑(List.length a0.1) : Int)) then
 Option.bind (idx a0.1 s1) fun x2 =>
 Option.bind (idx a1.1 s1) fun x3 =>
 bif
 !(decide (x2.1 = x3.1) &&
 (decide (x2.2.1 = x3.2.1) &&
 (decide (x2.2.2.1 = x3.2.2.1) &&
 (decide (x2.2.2.2.1 = x3.2.2.2.1) &&
 (decide (x2.2.2.2.2.1 = x3.2.2.2.2.1) && decide (x2.2.2.2.2.2.1 = x3.2.2.2.2.2.1)))))) then
 some (.inr (.inr false))
 else some (.inl (IntKind.wrap .i64 (s1 + (1 : Int))))
 else some (.inr (.inl ())))
 (0 : Int))
 fun x4 => Sum.elim (fun _ => some true) (fun y6 => some y6) x4
abbrev F60A : Pats := (.cons (.pd Y29) (.cons (.pd Y29) .nil))
abbrev F60R : Pats := (.cons (.pd Y4) .nil)
noncomputable def F60S : Tr.Spec := { args := F60A, res := F60R, fns := [], α := El Y4, f := fun x => F60 x.1 x.2.1, unp := fun z => (((), (), ()), (z, ())) }
noncomputable def F60M : List (Nat × List Tr.Spec) := []
def F60H : Hint := (.seq .leaf (.seq (.seq (.reg [(33, Y4)]) .leaf) (.seq (.seq .leaf (.lp ⟨[(5, (.pd Y3))], [], [2, 3], []⟩ [((.exit 0), ⟨[], [], [], []⟩), (.ret, ⟨[(4, (.pd Y4))], [], [], []⟩)] .leaf)) .leaf)))
noncomputable def F60V (a0 : El Y29) (a1 : El Y29) : Option (El Y4) := evalF (mkE tyTab mapTab pkTab [] [] F60M 52 bdTab) (codeOf Tryz.f30) Tryz.f30.results F60H F60A F60R (fun y => y.2.1) (a0, a1, ())
theorem F60_eq (a0 : El Y29) (a1 : El Y29) : F60V a0 a1 = F60 a0 a1 := by kernel_rfl
theorem F60_ok : FnOK Tryz.prog 30 F60S := fnOK_of (m := F60M) (fn := Tryz.f30) (hint := F60H) (pack := fun y => y.2.1) hmix tab_ok trivial fun x z h => (F60_eq x.1 x.2.1).trans h
noncomputable def F57 : (El Y31) → (El Y31) → Option (El Y4) := fun a0 a1 =>
 Option.bind
 (bif !decide ((↑(List.length a0.1) : Int) = (↑(List.length a1.1) : Int)) then some true
 else
 bif !decide ((↑(List.length a0.2.1) : Int) = (↑(List.length a1.2.1) : Int)) then some true
 else
 bif !decide ((↑(List.length a0.2.2.2.1) : Int) = (↑(List.length a1.2.2.2.1) : Int)) then some true
 else some !decide ((↑(List.length a0.2.2.2.2.1) : Int) = (↑(List.length a1.2.2.2.2.1) : Int)))
 fun x0 =>
 bif x0 then some false
 else
 Option.bind
 (Tr.run
 (fun s1 =>
 bif decide (s1 < (↑(List.length a0.1) : Int)) then
 Option.bind (idx a0.1 s1) fun x2 =>
 Option.bind (idx a1.1 s1) fun x3 =>
 bif
 !(decide (x2.1 = x3.1) &&
 (decide (x2.2.1 = x3.2.1) && (x2.2.2.1 == x3.2.2.1 && decide (x2.2.2.2.1 = x3.2.2.2.1)))) then
 some (.inr (.inr false))
 else some (.inl (IntKind.wrap .i64 (s1 + (1 : Int))))
 else some (.inr (.inl ())))
 (0 : Int))
 fun x4 =>
 Sum.elim
 (fun _ =>
 Option.bind
 (Tr.run
 (fun s6 =>
 bif decide (s6 < (↑(List.length a0.2.1) : Int)) then
 Option.bind (idx a0.2.1 s6) fun x7 =>
 Option.bind (idx a1.2.1 s6) fun x8 =>
 bif !(decide (x7.1 = x8.1) && (decide (x7.2.1 = x8.2.1) && x7.2.2.1 == x8.2.2.1)) then some (.inr (.inr false))
 else some (.inl (IntKind.wrap .i64 (s6 + (1 : Int))))
 else some (.inr (.inl ())))
 (0 : Int))
 fun x9 =>
 Sum.elim
 (fun _ =>
 Option.bind
 (Tr.run
 (fun s11 =>
 bif decide (s11 < (↑(List.length a0.2.2.2.1) : Int)) then
 Option.bind (idx a0.2.2.2.1 s11) fun x12 =>
 Option.bind (idx a1.2.2.2.1 s11) fun x13 =>
 bif
 !(decide (x12.1 = x13.1) &&
 (decide (x12.2.1 = x13.2.1) &&
 (decide (x12.2.2.1 = x13.2.2.1) &&
 (decide (x12.2.2.2.1 = x13.2.2.2.1) && x12.2.2.2.2.1 == x13.2.2.2.2.1)))) then
 some (.inr (.inr false))
 else some (.inl (IntKind.wrap .i64 (s11 + (1 : Int))))
 else some (.inr (.inl ())))
 (0 : Int))
 fun x14 =>
 Sum.elim
 (fun _ =>
 Option.bind
 (Tr.run
 (fun s16 =>
 bif decide (s16 < (↑(List.length a0.2.2.2.2.1) : Int)) then
 Option.bind (idx a0.2.2.2.2.1 s16) fun x17 =>
 Option.bind (idx a1.2.2.2.2.1 s16) fun x18 =>
 bif
 !(decide (x17.1 = x18.1) &&
 (decide (x17.2.1 = x18.2.1) && (decide (x17.2.2.1 = x18.2.2.1) && x17.2.2.2.1 == x18.2.2.2.1))) then
 some (.inr (.inr false))
 else some (.inl (IntKind.wrap .i64 (s16 + (1 : Int))))
 else some (.inr (.inl ())))
 (0 : Int))
 fun x19 =>
 Sum.elim
 (fun _ =>
 Option.bind
 (Option.bind (F61 a0.2.2.1 a1.2.2.1) fun x21 =>
 bif x21 then Option.bind (F60 a0.2.2.2.2.2.1 a1.2.2.2.2.2.1) fun x22 => some x22 else some false)
 fun x23 => some x23)
 (fun y24 => some y24) x19)
 (fun y25 => some y25) x14)
 (fun y26 => some y26) x9)
 (fun y27 => some y27) x4
abbrev F57A : Pats := (.cons (.pd Y31) (.cons (.pd Y31) .nil))
abbrev F57R : Pats := (.cons (.pd Y4) .nil)
noncomputable def F57S : Tr.Spec := { args := F57A, res := F57R, fns := [], α := El Y4, f := fun x => F57 x.1 x.2.1, unp := fun z => (((), (), ()), (z, ())) }
noncomputable def F57M : List (Nat × List Tr.Spec) := [(29, [F61S]), (30, [F60S])]
def F57H : Hint := (.seq .leaf (.seq (.seq (.reg [(42, Y4)]) .leaf) (.seq (.seq .leaf (.lp ⟨[(5, (.pd Y3))], [], [2, 3], []⟩ [((.exit 0), ⟨[], [], [2, 3], []⟩), (.ret, ⟨[(4, (.pd Y4))], [], [], []⟩)] .leaf)) (.seq (.seq .leaf (.lp ⟨[(6, (.pd Y3))], [], [2, 3], []⟩ [((.exit 2), ⟨[], [], [2, 3], []⟩), (.ret, ⟨[(4, (.pd Y4))], [], [], []⟩)] .leaf)) (.seq (.seq .leaf (.lp ⟨[(7, (.pd Y3))], [], [2, 3], []⟩ [((.exit 4), ⟨[], [], [2, 3], []⟩), (.ret, ⟨[(4, (.pd Y4))], [], [], []⟩)] .leaf)) (.seq (.seq .leaf (.lp ⟨[(8, (.pd Y3))], [], [2, 3], []⟩ [((.exit 6), ⟨[], [], [2, 3], []⟩), (.ret, ⟨[(4, (.pd Y4))], [], [], []⟩)] .leaf)) (.seq (.reg [(4, Y4)]) .leaf)))))))
noncomputable def F57V (a0 : El Y31) (a1 : El Y31) : Option (El Y4) := evalF (mkE tyTab mapTab pkTab [] [] F57M 127 bdTab) (codeOf Tryz.f12) Tryz.f12.results F57H F57A F57R (fun y => y.2.1) (a0, a1, ())
theorem F57_eq (a0 : El Y31) (a1 : El Y31) : F57V a0 a1 = F57 a0 a1 := by kernel_rfl
theorem F57_ok : FnOK Tryz.prog 12 F57S := fnOK_of (m := F57M) (fn := Tryz.f12) (hint := F57H) (pack := fun y => y.2.1) hmix tab_ok ⟨⟨F61_ok, trivial⟩, ⟨F60_ok, trivial⟩, trivial⟩ fun x z h => (F57_eq x.1 x.2.1).trans h
noncomputable def F103 : (El Y31) → (El Y33) → (El Y3) → Option (El Y4) := fun a0 a1 a2 =>
 Option.bind (idx a0.2.2.1 a2) fun x0 =>
 Option.bind (idx a0.2.1 x0.2.2.2.2.1) fun x1 =>
 Option.bind
 (bif !x0.2.2.2.2.2.2.1 then
 bif !a1.2.2.2.2.2.2.1 then
 bif !a1.2.2.2.2.2.2.2.1 then
 bif decide (a1.2.2.2.2.2.2.2.2.1 = (0 : Int)) then some true
 else Option.bind (Tr.qshr .i64 a1.2.2.2.2.2.2.2.2.1 x1.2.1) fun x2 => some (decide (Tr.qand .i64 x2 (1 : Int) = (1 : Int)))
 else
 bif x1.2.2.1 then
 bif decide (a1.2.2.2.2.2.2.2.2.1 = (0 : Int)) then some true
 else Option.bind (Tr.qshr .i64 a1.2.2.2.2.2.2.2.2.1 x1.2.1) fun x3 => some (decide (Tr.qand .i64 x3 (1 : Int) = (1 : Int)))
 else some false
 else
 bif x0.2.2.2.2.2.1 then
 bif !a1.2.2.2.2.2.2.2.1 then
 bif decide (a1.2.2.2.2.2.2.2.2.1 = (0 : Int)) then some true
 else Option.bind (Tr.qshr .i64 a1.2.2.2.2.2.2.2.2.1 x1.2.1) fun x4 => some (decide (Tr.qand .i64 x4 (1 : Int) = (1 : Int)))
 else
 bif x1.2.2.1 then
 bif decide (a1.2.2.2.2.2.2.2.2.1 = (0 : Int)) then some true
 else Option.bind (Tr.qshr .i64 a1.2.2.2.2.2.2.2.2.1 x1.2.1) fun x5 => some (decide (Tr.qand .i64 x5 (1 : Int) = (1 : Int)))
 else some false
 else some false
 else some false)
 fun x6 => some x6
abbrev F103A : Pats := (.cons (.pd Y31) (.cons (.pd Y33) (.cons (.pd Y3) .nil)))
abbrev F103R : Pats := (.cons (.pd Y4) .nil)
noncomputable def F103S : Tr.Spec := { args := F103A, res := F103R, fns := [], α := El Y4, f := fun x => F103 x.1 x.2.1 x.2.2.1, unp := fun z => (((), (), (), ()), (z, ())) }
noncomputable def F103M : List (Nat × List Tr.Spec) := []
def F103H : Hint := (.seq .leaf (.seq .leaf (.seq .leaf (.seq (.reg [(6, Y4)]) .leaf))))
noncomputable def F103V (a0 : El Y31) (a1 : El Y33) (a2 : El Y3) : Option (El Y4) := evalF (mkE tyTab mapTab pkTab [] [] F103M 55 bdTab) (codeOf Tryz.f31) Tryz.f31.results F103H F103A F103R (fun y => y.2.1) (a0, a1, a2, ())
theorem F103_eq (a0 : El Y31) (a1 : El Y33) (a2 : El Y3) : F103V a0 a1 a2 = F103 a0 a1 a2 := by kernel_rfl
theorem F103_ok : FnOK Tryz.prog 31 F103S := fnOK_of (m := F103M) (fn := Tryz.f31) (hint := F103H) (pack := fun y => y.2.1) hmix tab_ok trivial fun x z h => (F103_eq x.1 x.2.1 x.2.2.1).trans h
noncomputable def F99 : (El Y31) → (El Y33) → (El Y3) → Option (El Y4) := fun a0 a1 a2 => Option.bind (bif !a1.2.2.2.2.2.2.1 then some true else Option.bind (idx a0.1 a2) fun x0 => some x0.2.2.1) fun x1 => some x1
abbrev F99A : Pats := (.cons (.pd Y31) (.cons (.pd Y33) (.cons (.pd Y3) .nil)))
abbrev F99R : Pats := (.cons (.pd Y4) .nil)
noncomputable def F99S : Tr.Spec := { args := F99A, res := F99R, fns := [], α := El Y4, f := fun x => F99 x.1 x.2.1 x.2.2.1, unp := fun z => (((), (), (), ()), (z, ())) }
noncomputable def F99M : List (Nat × List Tr.Spec) := []
def F99H : Hint := (.seq .leaf (.seq (.reg [(6, Y4)]) .leaf))
noncomputable def F99V (a0 : El Y31) (a1 : El Y33) (a2 : El Y3) : Option (El Y4) := evalF (mkE tyTab mapTab pkTab [] [] F99M 18 bdTab) (codeOf Tryz.f34) Tryz.f34.results F99H F99A F99R (fun y => y.2.1) (a0, a1, a2, ())
theorem F99_eq (a0 : El Y31) (a1 : El Y33) (a2 : El Y3) : F99V a0 a1 a2 = F99 a0 a1 a2 := by kernel_rfl
theorem F99_ok : FnOK Tryz.prog 34 F99S := fnOK_of (m := F99M) (fn := Tryz.f34) (hint := F99H) (pack := fun y => y.2.1) hmix tab_ok trivial fun x z h => (F99_eq x.1 x.2.1 x.2.2.1).trans h
noncomputable def F105 : (El Y31) → (El Y33) → (El Y54) → Option (El Y54) := fun a0 a1 a2 =>
 Option.bind
 (Tr.run
 (fun s0 =>
 bif decide (s0.2 < (↑(List.length a2) : Int)) then
 Option.bind (idx a2 s0.2) fun x1 =>
 Option.bind (F99 a0 a1 x1.1) fun x2 =>
 Option.bind (bif !x2 then some (x1.1, x1.2.1, x1.2.2.1, false, false, x1.2.2.2.2.2) else some x1) fun x3 =>
 Option.bind (guardB (decide (List.length s0.1 + List.length [x3] ≤ maxApp))) fun _ =>
 some (.inl (s0.1 ++ [x3], IntKind.wrap .i64 (s0.2 + (1 : Int))))
 else some (.inr s0.1))
 ([], (0 : Int)))
 fun x5 => some x5
abbrev F105A : Pats := (.cons (.pd Y31) (.cons (.pd Y33) (.cons (.pd Y54) .nil)))
abbrev F105R : Pats := (.cons (.pd Y54) .nil)
noncomputable def F105S : Tr.Spec := { args := F105A, res := F105R, fns := [], α := El Y54, f := fun x => F105 x.1 x.2.1 x.2.2.1, unp := fun z => (((), (), (), ()), (z, ())) }
noncomputable def F105M : List (Nat × List Tr.Spec) := [(34, [F99S])]
def F105H : Hint := (.seq .leaf (.seq .leaf (.seq (.seq .leaf (.lp ⟨[(7, (.own Y59 false)), (8, (.pd Y3))], [], [2, 3, 4], []⟩ [((.exit 0), ⟨[(7, (.own Y59 false))], [], [], []⟩)] (.seq .leaf (.seq (.seq .leaf (.seq (.seq .leaf (.cnd (some (⟨[], [], [2, 3, 4, 7, 8], []⟩, [(.normal, ⟨[(9, (.var Y59 (.pd Y59)))], [], [2, 3, 4, 7, 8], []⟩)])) .leaf .leaf)) .leaf)) .leaf)))) .leaf)))
noncomputable def F105V (a0 : El Y31) (a1 : El Y33) (a2 : El Y54) : Option (El Y54) := evalF (mkE tyTab mapTab pkTab [] [] F105M 33 bdTab) (codeOf Tryz.f32) Tryz.f32.results F105H F105A F105R (fun y => y.2.1) (a0, a1, a2, ())
theorem F105_eq (a0 : El Y31) (a1 : El Y33) (a2 : El Y54) : F105V a0 a1 a2 = F105 a0 a1 a2 := by kernel_rfl
theorem F105_ok : FnOK Tryz.prog 32 F105S := fnOK_of (m := F105M) (fn := Tryz.f32) (hint := F105H) (pack := fun y => y.2.1) hmix tab_ok ⟨⟨F99_ok, trivial⟩, trivial⟩ fun x z h => (F105_eq x.1 x.2.1 x.2.2.1).trans h
noncomputable def F97 : (El Y31) → (El Y33) → Option (El Y31) := fun a0 a1 =>
 Option.bind
 (Tr.run
 (fun s0 =>
 bif decide (s0.2 < (↑(List.length a0.2.2.1) : Int)) then
 Option.bind (idx a0.2.2.1 s0.2) fun x1 =>
 Option.bind (F103 a0 a1 s0.2) fun x2 =>
 Option.bind (F105 a0 a1 x1.2.2.2.2.2.2.2.1) fun x3 =>
 Option.bind
 (guardB
 (decide
 (List.length s0.1.2.2.1 +
 List.length [(x1.1, x1.2.1, x1.2.2.1, x1.2.2.2.1, x1.2.2.2.2.1, x1.2.2.2.2.2.1, !x2, x3, x1.2.2.2.2.2.2.2.2)] ≤
 maxApp)))
 fun _ =>
 some
 (.inl
 ((s0.1.1, s0.1.2.1,
 s0.1.2.2.1 ++
 [(x1.1, x1.2.1, x1.2.2.1, x1.2.2.2.1, x1.2.2.2.2.1, x1.2.2.2.2.2.1, !x2, x3, x1.2.2.2.2.2.2.2.2)],
 s0.1.2.2.2.1, s0.1.2.2.2.2.1, s0.1.2.2.2.2.2.1, ()),
 IntKind.wrap .i64 (s0.2 + (1 : Int))))
 else some (.inr (s0.1.1, s0.1.2.1, s0.1.2.2.1, s0.1.2.2.2.1, s0.1.2.2.2.2.1, s0.1.2.2.2.2.2.1, ())))
 ((a0.1, a0.2.1, ([] : List (El Y56)), a0.2.2.2.1, ([] : List (El Y64)), a0.2.2.2.2.2.1, ()), (0 : Int)))
 fun x5 =>
 Option.bind
 (Tr.run
 (fun s6 =>
 bif decide (s6.2 < (↑(List.length a0.2.2.2.2.1) : Int)) then
 Option.bind (bif !a1.2.2.2.2.2.2.1 then some true else Option.bind (idx a0.2.2.2.2.1 s6.2) fun x7 => some x7.2.2.2.1) fun x8 =>
 bif x8 then
 Option.bind (idx a0.2.2.2.2.1 s6.2) fun x9 =>
 Option.bind (guardB (decide (List.length s6.1.2.2.2.2.1 + List.length [x9] ≤ maxApp))) fun _ =>
 some
 (.inl
 ((s6.1.1, s6.1.2.1, s6.1.2.2.1, s6.1.2.2.2.1, s6.1.2.2.2.2.1 ++ [x9], s6.1.2.2.2.2.2.1, ()),
 IntKind.wrap .i64 (s6.2 + (1 : Int))))
 else
 some
 (.inl
 ((s6.1.1, s6.1.2.1, s6.1.2.2.1, s6.1.2.2.2.1, s6.1.2.2.2.2.1, s6.1.2.2.2.2.2.1, ()),
 IntKind.wrap .i64 (s6.2 + (1 : Int))))
 else some (.inr (s6.1.1, s6.1.2.1, s6.1.2.2.1, s6.1.2.2.2.1, s6.1.2.2.2.2.1, s6.1.2.2.2.2.2.1, ())))
 ((x5.1, x5.2.1, x5.2.2.1, x5.2.2.2.1, x5.2.2.2.2.1, x5.2.2.2.2.2.1, ()), (0 : Int)))
 fun x11 => some (x11.1, x11.2.1, x11.2.2.1, x11.2.2.2.1, x11.2.2.2.2.1, x11.2.2.2.2.2.1, ())
abbrev F97A : Pats := (.cons (.pd Y31) (.cons (.pd Y33) .nil))
abbrev F97R : Pats := (.cons (.pd Y31) .nil)
noncomputable def F97S : Tr.Spec := { args := F97A, res := F97R, fns := [], α := El Y31, f := fun x => F97 x.1 x.2.1, unp := fun z => (((), (), ()), (z, ())) }
noncomputable def F97M : List (Nat × List Tr.Spec) := [(31, [F103S]), (32, [F105S])]
def F97H : Hint := (.seq .leaf (.seq .leaf (.seq .leaf (.seq (.seq .leaf (.lp ⟨[(5, (.var Y31 (.agg (.cons (.pd Y22) (.cons (.pd Y23) (.cons (.own Y56 false) (.cons (.pd Y25) (.cons (.own Y64 false) (.cons (.pd Y29) .nil))))))))), (6, (.pd Y3))], [], [2, 3, 4], []⟩ [((.exit 0), ⟨[(5, (.var Y31 (.agg (.cons (.pd Y22) (.cons (.pd Y23) (.cons (.own Y56 false) (.cons (.pd Y25) (.cons (.own Y64 false) (.cons (.pd Y29) .nil)))))))))], [], [2, 3, 4], []⟩)] .leaf)) (.seq (.seq .leaf (.lp ⟨[(5, (.var Y31 (.agg (.cons (.pd Y22) (.cons (.pd Y23) (.cons (.own Y56 false) (.cons (.pd Y25) (.cons (.own Y64 false) (.cons (.pd Y29) .nil))))))))), (8, (.pd Y3))], [], [2, 3, 4], []⟩ [((.exit 2), ⟨[(5, (.var Y31 (.agg (.cons (.pd Y22) (.cons (.pd Y23) (.cons (.own Y56 false) (.cons (.pd Y25) (.cons (.own Y64 false) (.cons (.pd Y29) .nil)))))))))], [], [4], []⟩)] (.seq .leaf (.seq (.seq (.reg [(59, Y4)]) .leaf) .leaf)))) .leaf)))))
noncomputable def F97V (a0 : El Y31) (a1 : El Y33) : Option (El Y31) := evalF (mkE tyTab mapTab pkTab [] [] F97M 71 bdTab) (codeOf Tryz.f13) Tryz.f13.results F97H F97A F97R (fun y => y.2.1) (a0, a1, ())
theorem F97_eq (a0 : El Y31) (a1 : El Y33) : F97V a0 a1 = F97 a0 a1 := by kernel_rfl
theorem F97_ok : FnOK Tryz.prog 13 F97S := fnOK_of (m := F97M) (fn := Tryz.f13) (hint := F97H) (pack := fun y => y.2.1) hmix tab_ok ⟨⟨F103_ok, trivial⟩, ⟨F105_ok, trivial⟩, trivial⟩ fun x z h => (F97_eq x.1 x.2.1).trans h
noncomputable def F28 : (El Y31) → (El Y33) → Option (El Y4) := fun a0 a1 =>
 Option.bind (F34 a0) fun x0 =>
 bif !x0 then Option.bind F33 fun x1 => some x1
 else
 Option.bind (F7 a0 a1) fun x2 =>
 Option.bind (F84 a0 a1) fun x3 =>
 bif !decide (x2.2 = x3) then some false
 else
 bif !decide (x2.2 = (0 : Int)) then
 Option.bind
 (Option.bind (F57 x2.1 (([] : List (El Y67)), ([] : List (El Y69)), ([] : List (El Y56)), ([] : List (El Y71)), ([] : List (El Y64)), (([] : List (El Y80)), (0 : Int), (0 : Int), (0 : Int), ()), ())) fun x4 =>
 bif x4 then Option.bind F33 fun x5 => some x5 else some false)
 fun x6 => some x6
 else
 Option.bind
 (Option.bind (F97 a0 a1) fun x7 =>
 Option.bind (F57 x2.1 x7) fun x8 => bif x8 then Option.bind F33 fun x9 => some x9 else some false)
 fun x10 => some x10
abbrev F28A : Pats := (.cons (.pd Y31) (.cons (.pd Y33) .nil))
abbrev F28R : Pats := (.cons (.pd Y4) .nil)
noncomputable def F28S : Tr.Spec := { args := F28A, res := F28R, fns := [], α := El Y4, f := fun x => F28 x.1 x.2.1, unp := fun z => (((), (), ()), (z, ())) }
noncomputable def F28M : List (Nat × List Tr.Spec) := [(8, [F34S]), (9, [F33S]), (10, [F7S]), (11, [F84S]), (12, [F57S]), (13, [F97S])]
def F28H : Hint := (.seq .leaf (.seq .leaf (.seq .leaf (.seq .leaf (.seq (.seq .leaf (.cnd none (.seq (.reg [(4, Y4)]) .leaf) .leaf)) (.seq (.reg [(4, Y4)]) .leaf))))))
noncomputable def F28V (a0 : El Y31) (a1 : El Y33) : Option (El Y4) := evalF (mkE tyTab mapTab pkTab [] [] F28M 38 bdTab) (codeOf Tryz.f3) Tryz.f3.results F28H F28A F28R (fun y => y.2.1) (a0, a1, ())
theorem F28_eq (a0 : El Y31) (a1 : El Y33) : F28V a0 a1 = F28 a0 a1 := by kernel_rfl
theorem F28_ok : FnOK Tryz.prog 3 F28S := fnOK_of (m := F28M) (fn := Tryz.f3) (hint := F28H) (pack := fun y => y.2.1) hmix tab_ok ⟨⟨F34_ok, trivial⟩, ⟨F33_ok, trivial⟩, ⟨F7_ok, trivial⟩, ⟨F84_ok, trivial⟩, ⟨F57_ok, trivial⟩, ⟨F97_ok, trivial⟩, trivial⟩ fun x z h => (F28_eq x.1 x.2.1).trans h
noncomputable def F100 : (El Y31) → (El Y33) → Option (El Y43) := fun a0 a1 =>
 Option.bind
 (Tr.run
 (fun s0 =>
 bif decide (s0.2 < (↑(List.length a0.2.2.1) : Int)) then
 Option.bind (F103 a0 a1 s0.2) fun x1 =>
 bif x1 then
 Option.bind (guardB (decide (List.length s0.1 + List.length [s0.2] ≤ maxApp))) fun _ =>
 some (.inl (s0.1 ++ [s0.2], IntKind.wrap .i64 (s0.2 + (1 : Int))))
 else some (.inl (s0.1, IntKind.wrap .i64 (s0.2 + (1 : Int))))
 else some (.inr s0.1))
 ([], (0 : Int)))
 fun x3 => some x3
abbrev F100A : Pats := (.cons (.pd Y31) (.cons (.pd Y33) .nil))
abbrev F100R : Pats := (.cons (.pd Y43) .nil)
noncomputable def F100S : Tr.Spec := { args := F100A, res := F100R, fns := [], α := El Y43, f := fun x => F100 x.1 x.2.1, unp := fun z => (((), (), ()), (z, ())) }
noncomputable def F100M : List (Nat × List Tr.Spec) := [(31, [F103S])]
def F100H : Hint := (.seq .leaf (.seq .leaf (.seq (.seq .leaf (.lp ⟨[(5, (.own Y3 false)), (6, (.pd Y3))], [], [2, 3], []⟩ [((.exit 0), ⟨[(5, (.own Y3 false))], [], [], []⟩)] .leaf)) .leaf)))
noncomputable def F100V (a0 : El Y31) (a1 : El Y33) : Option (El Y43) := evalF (mkE tyTab mapTab pkTab [] [] F100M 23 bdTab) (codeOf Tryz.f17) Tryz.f17.results F100H F100A F100R (fun y => y.2.1) (a0, a1, ())
theorem F100_eq (a0 : El Y31) (a1 : El Y33) : F100V a0 a1 = F100 a0 a1 := by kernel_rfl
theorem F100_ok : FnOK Tryz.prog 17 F100S := fnOK_of (m := F100M) (fn := Tryz.f17) (hint := F100H) (pack := fun y => y.2.1) hmix tab_ok ⟨⟨F103_ok, trivial⟩, trivial⟩ fun x z h => (F100_eq x.1 x.2.1).trans h
noncomputable def F102 : (El Y31) → (El Y33) → Option (El Y43) := fun a0 a1 =>
 Option.bind
 (Tr.run
 (fun s0 =>
 bif decide (s0.2 < (↑(List.length a0.1) : Int)) then
 Option.bind (F99 a0 a1 s0.2) fun x1 =>
 bif x1 then
 Option.bind (guardB (decide (List.length s0.1 + List.length [s0.2] ≤ maxApp))) fun _ =>
 some (.inl (s0.1 ++ [s0.2], IntKind.wrap .i64 (s0.2 + (1 : Int))))
 else some (.inl (s0.1, IntKind.wrap .i64 (s0.2 + (1 : Int))))
 else some (.inr s0.1))
 ([], (0 : Int)))
 fun x3 => some x3
abbrev F102A : Pats := (.cons (.pd Y31) (.cons (.pd Y33) .nil))
abbrev F102R : Pats := (.cons (.pd Y43) .nil)
noncomputable def F102S : Tr.Spec := { args := F102A, res := F102R, fns := [], α := El Y43, f := fun x => F102 x.1 x.2.1, unp := fun z => (((), (), ()), (z, ())) }
noncomputable def F102M : List (Nat × List Tr.Spec) := [(34, [F99S])]
def F102H : Hint := (.seq .leaf (.seq .leaf (.seq (.seq .leaf (.lp ⟨[(5, (.own Y3 false)), (6, (.pd Y3))], [], [2, 3], []⟩ [((.exit 0), ⟨[(5, (.own Y3 false))], [], [], []⟩)] .leaf)) .leaf)))
noncomputable def F102V (a0 : El Y31) (a1 : El Y33) : Option (El Y43) := evalF (mkE tyTab mapTab pkTab [] [] F102M 23 bdTab) (codeOf Tryz.f18) Tryz.f18.results F102H F102A F102R (fun y => y.2.1) (a0, a1, ())
theorem F102_eq (a0 : El Y31) (a1 : El Y33) : F102V a0 a1 = F102 a0 a1 := by kernel_rfl
theorem F102_ok : FnOK Tryz.prog 18 F102S := fnOK_of (m := F102M) (fn := Tryz.f18) (hint := F102H) (pack := fun y => y.2.1) hmix tab_ok ⟨⟨F99_ok, trivial⟩, trivial⟩ fun x z h => (F102_eq x.1 x.2.1).trans h
noncomputable def F30 : (El Y31) → (El Y33) → Option (El Y4) := fun a0 a1 =>
 Option.bind (F34 a0) fun x0 =>
 bif !x0 then Option.bind F33 fun x1 => some x1
 else
 Option.bind (F8 a0 a1) fun x2 =>
 Option.bind (F9 a0 a1) fun x3 =>
 Option.bind (F84 a0 a1) fun x4 =>
 Option.bind (bif !decide (x2.2 = x4) then some true else some !decide (x3.2 = x4)) fun x5 =>
 bif x5 then some false
 else
 bif !decide (x4 = (0 : Int)) then
 Option.bind
 (bif decide ((↑(List.length x2.1) : Int) = (0 : Int)) then
 bif decide ((↑(List.length x3.1) : Int) = (0 : Int)) then Option.bind F33 fun x6 => some x6 else some false
 else some false)
 fun x7 => some x7
 else
 Option.bind
 (Option.bind (F100 a0 a1) fun x8 =>
 Option.bind (F101 x2.1 x8) fun x9 =>
 bif x9 then
 Option.bind (F102 a0 a1) fun x10 =>
 Option.bind (F101 x3.1 x10) fun x11 => bif x11 then Option.bind F33 fun x12 => some x12 else some false
 else some false)
 fun x13 => some x13
abbrev F30A : Pats := (.cons (.pd Y31) (.cons (.pd Y33) .nil))
abbrev F30R : Pats := (.cons (.pd Y4) .nil)
noncomputable def F30S : Tr.Spec := { args := F30A, res := F30R, fns := [], α := El Y4, f := fun x => F30 x.1 x.2.1, unp := fun z => (((), (), ()), (z, ())) }
noncomputable def F30M : List (Nat × List Tr.Spec) := [(8, [F34S]), (9, [F33S]), (11, [F84S]), (14, [F8S]), (15, [F9S]), (16, [F101S]), (17, [F100S]), (18, [F102S])]
def F30H : Hint := (.seq .leaf (.seq .leaf (.seq .leaf (.seq .leaf (.seq .leaf (.seq (.seq (.reg [(36, Y4)]) .leaf) (.seq (.seq .leaf (.cnd none (.seq (.reg [(4, Y4)]) .leaf) .leaf)) (.seq (.reg [(4, Y4)]) .leaf))))))))
noncomputable def F30V (a0 : El Y31) (a1 : El Y33) : Option (El Y4) := evalF (mkE tyTab mapTab pkTab [] [] F30M 65 bdTab) (codeOf Tryz.f4) Tryz.f4.results F30H F30A F30R (fun y => y.2.1) (a0, a1, ())
theorem F30_eq (a0 : El Y31) (a1 : El Y33) : F30V a0 a1 = F30 a0 a1 := by kernel_rfl
theorem F30_ok : FnOK Tryz.prog 4 F30S := fnOK_of (m := F30M) (fn := Tryz.f4) (hint := F30H) (pack := fun y => y.2.1) hmix tab_ok ⟨⟨F34_ok, trivial⟩, ⟨F33_ok, trivial⟩, ⟨F84_ok, trivial⟩, ⟨F8_ok, trivial⟩, ⟨F9_ok, trivial⟩, ⟨F101_ok, trivial⟩, ⟨F100_ok, trivial⟩, ⟨F102_ok, trivial⟩, trivial⟩ fun x z h => (F30_eq x.1 x.2.1).trans h
noncomputable def F75 : (El Y31) → (El Y110) → Option (El Y4) := fun a0 a1 =>
 Option.bind (bif decide (a1.2.1 < (0 : Int)) then some true else some (decide ((↑(List.length a0.2.2.1) : Int) ≤ a1.2.1))) fun x0 =>
 bif x0 then some false
 else
 Option.bind
 (bif decide ((0 : Int) ≤ a1.2.2.1) then
 bif decide (a1.2.2.1 < a1.2.2.2.1) then
 Option.bind (idx a0.2.2.1 a1.2.1) fun x1 => some (decide (a1.2.2.2.1 < (↑(List.length x1.2.2.2.2.2.2.2.1) : Int)))
 else some false
 else some false)
 fun x2 => some x2
abbrev F75A : Pats := (.cons (.pd Y31) (.cons (.pd Y110) .nil))
abbrev F75R : Pats := (.cons (.pd Y4) .nil)
noncomputable def F75S : Tr.Spec := { args := F75A, res := F75R, fns := [], α := El Y4, f := fun x => F75 x.1 x.2.1, unp := fun z => (((), (), ()), (z, ())) }
noncomputable def F75M : List (Nat × List Tr.Spec) := []
def F75H : Hint := (.seq .leaf (.seq (.seq (.reg [(15, Y4)]) .leaf) (.seq (.reg [(4, Y4)]) .leaf)))
noncomputable def F75V (a0 : El Y31) (a1 : El Y110) : Option (El Y4) := evalF (mkE tyTab mapTab pkTab [] [] F75M 39 bdTab) (codeOf Tryz.f88) Tryz.f88.results F75H F75A F75R (fun y => y.2.1) (a0, a1, ())
theorem F75_eq (a0 : El Y31) (a1 : El Y110) : F75V a0 a1 = F75 a0 a1 := by kernel_rfl
theorem F75_ok : FnOK Tryz.prog 88 F75S := fnOK_of (m := F75M) (fn := Tryz.f88) (hint := F75H) (pack := fun y => y.2.1) hmix tab_ok trivial fun x z h => (F75_eq x.1 x.2.1).trans h
noncomputable def F86 : (El Y31) → (El Y33) → (El Y3) → Option (El Y4) := fun a0 a1 a2 => Option.bind (bif !a1.2.2.2.2.2.2.1 then some true else Option.bind (idx a0.1 a2) fun x0 => some x0.2.2.1) fun x1 => some x1
abbrev F86A : Pats := (.cons (.pd Y31) (.cons (.pd Y33) (.cons (.pd Y3) .nil)))
abbrev F86R : Pats := (.cons (.pd Y4) .nil)
noncomputable def F86S : Tr.Spec := { args := F86A, res := F86R, fns := [], α := El Y4, f := fun x => F86 x.1 x.2.1 x.2.2.1, unp := fun z => (((), (), (), ()), (z, ())) }
noncomputable def F86M : List (Nat × List Tr.Spec) := []
def F86H : Hint := (.seq .leaf (.seq (.reg [(6, Y4)]) .leaf))
noncomputable def F86V (a0 : El Y31) (a1 : El Y33) (a2 : El Y3) : Option (El Y4) := evalF (mkE tyTab mapTab pkTab [] [] F86M 18 bdTab) (codeOf Tryz.f77) Tryz.f77.results F86H F86A F86R (fun y => y.2.1) (a0, a1, a2, ())
theorem F86_eq (a0 : El Y31) (a1 : El Y33) (a2 : El Y3) : F86V a0 a1 a2 = F86 a0 a1 a2 := by kernel_rfl
theorem F86_ok : FnOK Tryz.prog 77 F86S := fnOK_of (m := F86M) (fn := Tryz.f77) (hint := F86H) (pack := fun y => y.2.1) hmix tab_ok trivial fun x z h => (F86_eq x.1 x.2.1 x.2.2.1).trans h
noncomputable def F95 : (El Y31) → (El Y33) → (El Y110) → Option (El Y36) := fun a0 a1 a2 =>
 Option.bind (idx a0.2.2.1 a2.2.1) fun x0 =>
 Option.bind (idx x0.2.2.2.2.2.2.2.1 a2.2.2.1) fun x1 =>
 Option.bind (idx x0.2.2.2.2.2.2.2.1 a2.2.2.2.1) fun x2 =>
 Option.bind (idx a0.2.1 x0.2.2.2.2.1) fun x3 =>
 Option.bind (bif !decide (x1.1 = a2.2.2.2.2.1) then some true else some !decide (x2.1 = a2.2.2.2.2.2.1)) fun x4 =>
 bif x4 then some (24 : Int)
 else
 Option.bind
 (bif !decide (x1.2.2.1 = a2.2.2.2.2.2.2.1) then some true
 else some !decide (x2.2.1 = a2.2.2.2.2.2.2.2.1))
 fun x5 =>
 bif x5 then some (10 : Int)
 else
 bif x0.2.2.2.2.2.2.1 then some (27 : Int)
 else
 Option.bind (bif a1.2.2.2.2.2.2.1 then some !x0.2.2.2.2.2.1 else some false) fun x6 =>
 bif x6 then some (29 : Int)
 else
 Option.bind (bif a1.2.2.2.2.2.2.2.1 then some !x3.2.2.1 else some false) fun x7 =>
 bif x7 then some (30 : Int)
 else
 Option.bind
 (bif !decide (a1.2.2.2.2.2.2.2.2.1 = (0 : Int)) then
 Option.bind (Tr.qshr .i64 a1.2.2.2.2.2.2.2.2.1 x3.2.1) fun x8 =>
 some (decide (Tr.qand .i64 x8 (1 : Int) = (0 : Int)))
 else some false)
 fun x9 =>
 bif x9 then some (31 : Int)
 else
 Option.bind (bif !a2.2.2.2.2.2.2.2.2.1 then some !x1.2.2.2.1 else some false) fun x10 =>
 bif x10 then some (25 : Int)
 else
 Option.bind
 (bif !a2.2.2.2.2.2.2.2.2.1 then Option.bind (F86 a0 a1 a2.2.2.2.2.1) fun x11 => some !x11 else some false)
 fun x12 => bif x12 then some (29 : Int) else some (0 : Int)
abbrev F95A : Pats := (.cons (.pd Y31) (.cons (.pd Y33) (.cons (.pd Y110) .nil)))
abbrev F95R : Pats := (.cons (.pd Y36) .nil)
noncomputable def F95S : Tr.Spec := { args := F95A, res := F95R, fns := [], α := El Y36, f := fun x => F95 x.1 x.2.1 x.2.2.1, unp := fun z => (((), (), (), ()), (z, ())) }
noncomputable def F95M : List (Nat × List Tr.Spec) := [(77, [F86S])]
def F95H : Hint := (.seq .leaf (.seq .leaf (.seq .leaf (.seq .leaf (.seq (.seq (.reg [(46, Y4)]) .leaf) (.seq (.seq (.reg [(58, Y4)]) .leaf) (.seq .leaf (.seq (.seq (.reg [(67, Y4)]) .leaf) (.seq (.seq (.reg [(74, Y4)]) .leaf) (.seq (.seq (.reg [(86, Y4)]) .leaf) (.seq (.seq (.reg [(94, Y4)]) .leaf) (.seq (.seq (.reg [(105, Y4)]) .leaf) .leaf))))))))))))
noncomputable def F95V (a0 : El Y31) (a1 : El Y33) (a2 : El Y110) : Option (El Y36) := evalF (mkE tyTab mapTab pkTab [] [] F95M 106 bdTab) (codeOf Tryz.f89) Tryz.f89.results F95H F95A F95R (fun y => y.2.1) (a0, a1, a2, ())
theorem F95_eq (a0 : El Y31) (a1 : El Y33) (a2 : El Y110) : F95V a0 a1 a2 = F95 a0 a1 a2 := by kernel_rfl
theorem F95_ok : FnOK Tryz.prog 89 F95S := fnOK_of (m := F95M) (fn := Tryz.f89) (hint := F95H) (pack := fun y => y.2.1) hmix tab_ok ⟨⟨F86_ok, trivial⟩, trivial⟩ fun x z h => (F95_eq x.1 x.2.1 x.2.2.1).trans h
noncomputable def F96 : (El Y31) → (El Y33) → (El Y110) → Option (El Y36) := fun a0 a1 a2 =>
 Option.bind
 (Tr.run
 (fun s0 =>
 bif decide (s0.2 < (↑(List.length a0.2.2.2.2.1) : Int)) then
 Option.bind (idx a0.2.2.2.2.1 s0.2) fun x1 =>
 Option.bind
 (bif !decide (x1.1 = a2.2.2.2.2.1) then some true
 else
 bif !decide (x1.2.1 = a2.2.2.2.2.2.1) then some true
 else some !decide (x1.2.2.1 = IntKind.wrap .i64 (a2.2.2.2.2.2.2.2.1 - a2.2.2.2.2.2.2.1)))
 fun x2 =>
 bif x2 then some (.inl (s0.1, IntKind.wrap .i64 (s0.2 + (1 : Int))))
 else
 Option.bind (bif x1.2.2.2.1 then some true else some !a1.2.2.2.2.2.2.1) fun x3 =>
 bif x3 then some (.inr (.inr (0 : Int))) else some (.inl ((29 : Int), IntKind.wrap .i64 (s0.2 + (1 : Int))))
 else some (.inr (.inl s0.1)))
 ((18 : Int), (0 : Int)))
 fun x4 => Sum.elim (fun y5 => some y5) (fun y6 => some y6) x4
abbrev F96A : Pats := (.cons (.pd Y31) (.cons (.pd Y33) (.cons (.pd Y110) .nil)))
abbrev F96R : Pats := (.cons (.pd Y36) .nil)
noncomputable def F96S : Tr.Spec := { args := F96A, res := F96R, fns := [], α := El Y36, f := fun x => F96 x.1 x.2.1 x.2.2.1, unp := fun z => (((), (), (), ()), (z, ())) }
noncomputable def F96M : List (Nat × List Tr.Spec) := []
def F96H : Hint := (.seq .leaf (.seq .leaf (.seq (.seq .leaf (.lp ⟨[(7, (.pd Y36)), (8, (.pd Y3))], [], [3, 4, 5], []⟩ [((.exit 0), ⟨[(7, (.pd Y36))], [], [], []⟩), (.ret, ⟨[(6, (.pd Y36))], [], [], []⟩)] (.seq .leaf (.seq (.seq .leaf (.seq (.seq (.reg [(43, Y4)]) .leaf) (.seq (.seq (.reg [(50, Y4)]) .leaf) .leaf))) .leaf)))) .leaf)))
noncomputable def F96V (a0 : El Y31) (a1 : El Y33) (a2 : El Y110) : Option (El Y36) := evalF (mkE tyTab mapTab pkTab [] [] F96M 52 bdTab) (codeOf Tryz.f90) Tryz.f90.results F96H F96A F96R (fun y => y.2.1) (a0, a1, a2, ())
theorem F96_eq (a0 : El Y31) (a1 : El Y33) (a2 : El Y110) : F96V a0 a1 a2 = F96 a0 a1 a2 := by kernel_rfl
theorem F96_ok : FnOK Tryz.prog 90 F96S := fnOK_of (m := F96M) (fn := Tryz.f90) (hint := F96H) (pack := fun y => y.2.1) hmix tab_ok trivial fun x z h => (F96_eq x.1 x.2.1 x.2.2.1).trans h
noncomputable def F93 : (El Y31) → (El Y33) → (El Y110) → Option (El Y36) := fun a0 a1 a2 =>
 Option.bind
 (Option.bind (F92 a2.2.2.2.2.1 (0 : Int) (IntKind.wrap .i64 ((↑(List.length a0.1) : Int) - (1 : Int)))) fun x0 =>
 bif !x0 then some true
 else Option.bind (F92 a2.2.2.2.2.2.1 (0 : Int) (IntKind.wrap .i64 ((↑(List.length a0.1) : Int) - (1 : Int)))) fun x1 => some !x1)
 fun x2 =>
 bif x2 then some (9 : Int)
 else
 Option.bind
 (bif a2.1 then
 Option.bind (F75 a0 a2) fun x3 =>
 bif !x3 then some true
 else
 bif !a2.1 then
 bif !decide (a2.2.1 = (0 : Int)) then some true
 else
 bif !decide (a2.2.2.1 = (0 : Int)) then some true
 else bif !decide (a2.2.2.2.1 = (0 : Int)) then some true else some a2.2.2.2.2.2.2.2.2.1
 else some false
 else
 bif !a2.1 then
 bif !decide (a2.2.1 = (0 : Int)) then some true
 else
 bif !decide (a2.2.2.1 = (0 : Int)) then some true
 else bif !decide (a2.2.2.2.1 = (0 : Int)) then some true else some a2.2.2.2.2.2.2.2.2.1
 else some false)
 fun x4 =>
 bif x4 then some (9 : Int)
 else
 Option.bind
 (Option.bind (F92 a2.2.2.2.2.2.2.1 (0 : Int) (3155932800 : Int)) fun x5 =>
 bif !x5 then some true else Option.bind (F92 a2.2.2.2.2.2.2.2.1 (0 : Int) (3155932800 : Int)) fun x6 => some !x6)
 fun x7 =>
 bif x7 then some (10 : Int) else bif a2.1 then Option.bind (F95 a0 a1 a2) fun x8 => some x8 else Option.bind (F96 a0 a1 a2) fun x9 => some x9
abbrev F93A : Pats := (.cons (.pd Y31) (.cons (.pd Y33) (.cons (.pd Y110) .nil)))
abbrev F93R : Pats := (.cons (.pd Y36) .nil)
noncomputable def F93S : Tr.Spec := { args := F93A, res := F93R, fns := [], α := El Y36, f := fun x => F93 x.1 x.2.1 x.2.2.1, unp := fun z => (((), (), (), ()), (z, ())) }
noncomputable def F93M : List (Nat × List Tr.Spec) := [(51, [F92S]), (88, [F75S]), (89, [F95S]), (90, [F96S])]
def F93H : Hint := (.seq .leaf (.seq (.seq (.reg [(24, Y4)]) .leaf) (.seq (.seq (.reg [(56, Y4)]) .leaf) (.seq (.seq (.reg [(66, Y4)]) .leaf) .leaf))))
noncomputable def F93V (a0 : El Y31) (a1 : El Y33) (a2 : El Y110) : Option (El Y36) := evalF (mkE tyTab mapTab pkTab [] [] F93M 77 bdTab) (codeOf Tryz.f74) Tryz.f74.results F93H F93A F93R (fun y => y.2.1) (a0, a1, a2, ())
theorem F93_eq (a0 : El Y31) (a1 : El Y33) (a2 : El Y110) : F93V a0 a1 a2 = F93 a0 a1 a2 := by kernel_rfl
theorem F93_ok : FnOK Tryz.prog 74 F93S := fnOK_of (m := F93M) (fn := Tryz.f74) (hint := F93H) (pack := fun y => y.2.1) hmix tab_ok ⟨⟨F92_ok, trivial⟩, ⟨F75_ok, trivial⟩, ⟨F95_ok, trivial⟩, ⟨F96_ok, trivial⟩, trivial⟩ fun x z h => (F93_eq x.1 x.2.1 x.2.2.1).trans h
noncomputable def F90 : (El Y31) → (El Y33) → (El Y50) → Option (El Y36) := fun a0 a1 a2 =>
 Option.bind (idx a2.1 (0 : Int)) fun x0 =>
 bif !decide (x0.2.2.2.2.1 = a1.1) then some (24 : Int)
 else
 bif x0.2.2.2.2.2.2.2.2.1 then some (19 : Int)
 else
 Option.bind
 (bif !x0.1 then
 bif decide ((1 : Int) < (↑(List.length a2.1) : Int)) then
 Option.bind (idx a2.1 (1 : Int)) fun x1 =>
 bif x1.1 then Option.bind (idx a2.1 (1 : Int)) fun x2 => some !decide (x2.2.2.2.2.2.2.1 = x0.2.2.2.2.2.2.2.1)
 else some false
 else some false
 else some false)
 fun x3 =>
 bif x3 then some (10 : Int)
 else
 Option.bind
 (bif !x0.1 then
 bif decide ((↑(List.length a2.1) : Int) = (1 : Int)) then
 bif a1.2.2.2.1 then
 bif !decide (x0.2.2.2.2.2.2.2.1 = a1.2.2.1) then some true
 else bif !a1.2.2.2.1 then some !decide (x0.2.2.2.2.2.2.1 = a1.2.2.1) else some false
 else bif !a1.2.2.2.1 then some !decide (x0.2.2.2.2.2.2.1 = a1.2.2.1) else some false
 else some false
 else some false)
 fun x4 =>
 bif x4 then some (10 : Int)
 else
 Option.bind (bif !a1.2.2.2.1 then some (decide (x0.2.2.2.2.2.2.1 < a1.2.2.1)) else some false) fun x5 =>
 bif x5 then some (10 : Int)
 else
 Option.bind
 (bif a1.2.2.2.2.2.2.2.2.2.1 then
 bif x0.1 then
 Option.bind (idx a0.1 a1.1) fun x6 =>
 some (decide (x0.2.2.2.2.2.2.1 < IntKind.wrap .i64 (a1.2.2.1 + x6.2.2.2.1)))
 else some false
 else some false)
 fun x7 => bif x7 then some (28 : Int) else some (0 : Int)
abbrev F90A : Pats := (.cons (.pd Y31) (.cons (.pd Y33) (.cons (.pd Y50) .nil)))
abbrev F90R : Pats := (.cons (.pd Y36) .nil)
noncomputable def F90S : Tr.Spec := { args := F90A, res := F90R, fns := [], α := El Y36, f := fun x => F90 x.1 x.2.1 x.2.2.1, unp := fun z => (((), (), (), ()), (z, ())) }
noncomputable def F90M : List (Nat × List Tr.Spec) := []
def F90H : Hint := (.seq .leaf (.seq .leaf (.seq .leaf (.seq .leaf (.seq (.seq (.reg [(44, Y4)]) .leaf) (.seq (.seq (.reg [(76, Y4)]) .leaf) (.seq (.seq (.reg [(86, Y4)]) .leaf) (.seq (.seq (.reg [(107, Y4)]) .leaf) .leaf))))))))
noncomputable def F90V (a0 : El Y31) (a1 : El Y33) (a2 : El Y50) : Option (El Y36) := evalF (mkE tyTab mapTab pkTab [] [] F90M 108 bdTab) (codeOf Tryz.f75) Tryz.f75.results F90H F90A F90R (fun y => y.2.1) (a0, a1, a2, ())
theorem F90_eq (a0 : El Y31) (a1 : El Y33) (a2 : El Y50) : F90V a0 a1 a2 = F90 a0 a1 a2 := by kernel_rfl
theorem F90_ok : FnOK Tryz.prog 75 F90S := fnOK_of (m := F90M) (fn := Tryz.f75) (hint := F90H) (pack := fun y => y.2.1) hmix tab_ok trivial fun x z h => (F90_eq x.1 x.2.1 x.2.2.1).trans h
noncomputable def F94 : (El Y31) → (El Y110) → (El Y110) → (El Y4) → Option (El Y4) := fun a0 a1 a2 a3 =>
 Option.bind
 (Tr.run
 (fun s0 =>
 bif decide (s0 < (↑(List.length a0.2.2.2.1) : Int)) then
 Option.bind (idx a0.2.2.2.1 s0) fun x1 =>
 Option.bind
 (bif decide (x1.1 = a1.2.1) then
 bif decide (x1.2.1 = a1.2.2.2.1) then
 bif decide (x1.2.2.1 = a2.2.1) then
 bif decide (x1.2.2.2.1 = a2.2.2.1) then some (x1.2.2.2.2.1 == a3) else some false
 else some false
 else some false
 else some false)
 fun x2 => bif x2 then some (.inr (.inr true)) else some (.inl (IntKind.wrap .i64 (s0 + (1 : Int))))
 else some (.inr (.inl ())))
 (0 : Int))
 fun x3 => Sum.elim (fun _ => some false) (fun y5 => some y5) x3
abbrev F94A : Pats := (.cons (.pd Y31) (.cons (.pd Y110) (.cons (.pd Y110) (.cons (.pd Y4) .nil))))
abbrev F94R : Pats := (.cons (.pd Y4) .nil)
noncomputable def F94S : Tr.Spec := { args := F94A, res := F94R, fns := [], α := El Y4, f := fun x => F94 x.1 x.2.1 x.2.2.1 x.2.2.2.1, unp := fun z => (((), (), (), (), ()), (z, ())) }
noncomputable def F94M : List (Nat × List Tr.Spec) := []
def F94H : Hint := (.seq .leaf (.seq (.seq .leaf (.lp ⟨[(9, (.pd Y3))], [], [3, 4, 5, 6], []⟩ [((.exit 0), ⟨[], [], [], []⟩), (.ret, ⟨[(8, (.pd Y4))], [], [], []⟩)] (.seq .leaf (.seq (.seq .leaf (.seq (.reg [(54, Y4)]) .leaf)) .leaf)))) .leaf))
noncomputable def F94V (a0 : El Y31) (a1 : El Y110) (a2 : El Y110) (a3 : El Y4) : Option (El Y4) := evalF (mkE tyTab mapTab pkTab [] [] F94M 55 bdTab) (codeOf Tryz.f91) Tryz.f91.results F94H F94A F94R (fun y => y.2.1) (a0, a1, a2, a3, ())
theorem F94_eq (a0 : El Y31) (a1 : El Y110) (a2 : El Y110) (a3 : El Y4) : F94V a0 a1 a2 a3 = F94 a0 a1 a2 a3 := by kernel_rfl
theorem F94_ok : FnOK Tryz.prog 91 F94S := fnOK_of (m := F94M) (fn := Tryz.f91) (hint := F94H) (pack := fun y => y.2.1) hmix tab_ok trivial fun x z h => (F94_eq x.1 x.2.1 x.2.2.1 x.2.2.2.1).trans h
noncomputable def F91 : (El Y31) → (El Y110) → (El Y110) → Option (El Y36) := fun a0 a1 a2 =>
 bif !decide (a1.2.2.2.2.2.1 = a2.2.2.2.2.1) then some (24 : Int)
 else
 Option.bind (bif !a1.1 then some !a2.1 else some false) fun x0 =>
 bif x0 then some (32 : Int)
 else
 bif a2.2.2.2.2.2.2.2.2.1 then
 Option.bind (bif !a1.1 then some true else Option.bind (F94 a0 a1 a2 true) fun x1 => some !x1) fun x2 =>
 bif x2 then some (19 : Int) else bif decide (a2.2.2.2.2.2.2.1 < a1.2.2.2.2.2.2.2.1) then some (10 : Int) else some (0 : Int)
 else
 bif !a2.1 then bif !decide (a2.2.2.2.2.2.2.1 = a1.2.2.2.2.2.2.2.1) then some (10 : Int) else some (0 : Int)
 else
 bif !a1.1 then bif decide (a2.2.2.2.2.2.2.1 < a1.2.2.2.2.2.2.2.1) then some (28 : Int) else some (0 : Int)
 else
 Option.bind
 (Option.bind (idx a0.1 a1.2.2.2.2.2.1) fun x3 =>
 bif decide (IntKind.wrap .i64 (a1.2.2.2.2.2.2.2.1 + x3.2.2.2.1) ≤ a2.2.2.2.2.2.2.1) then some true
 else
 Option.bind (F94 a0 a1 a2 false) fun x4 =>
 bif x4 then some (decide (a1.2.2.2.2.2.2.2.1 ≤ a2.2.2.2.2.2.2.1)) else some false)
 fun x5 => bif x5 then some (0 : Int) else some (28 : Int)
abbrev F91A : Pats := (.cons (.pd Y31) (.cons (.pd Y110) (.cons (.pd Y110) .nil)))
abbrev F91R : Pats := (.cons (.pd Y36) .nil)
noncomputable def F91S : Tr.Spec := { args := F91A, res := F91R, fns := [], α := El Y36, f := fun x => F91 x.1 x.2.1 x.2.2.1, unp := fun z => (((), (), (), ()), (z, ())) }
noncomputable def F91M : List (Nat × List Tr.Spec) := [(91, [F94S])]
def F91H : Hint := (.seq .leaf (.seq .leaf (.seq (.seq (.reg [(19, Y4)]) .leaf) (.seq (.seq .leaf (.cnd none (.seq (.seq (.reg [(31, Y4)]) .leaf) .leaf) .leaf)) (.seq .leaf (.seq .leaf (.seq (.seq (.reg [(78, Y4)]) .leaf) .leaf)))))))
noncomputable def F91V (a0 : El Y31) (a1 : El Y110) (a2 : El Y110) : Option (El Y36) := evalF (mkE tyTab mapTab pkTab [] [] F91M 79 bdTab) (codeOf Tryz.f76) Tryz.f76.results F91H F91A F91R (fun y => y.2.1) (a0, a1, a2, ())
theorem F91_eq (a0 : El Y31) (a1 : El Y110) (a2 : El Y110) : F91V a0 a1 a2 = F91 a0 a1 a2 := by kernel_rfl
theorem F91_ok : FnOK Tryz.prog 76 F91S := fnOK_of (m := F91M) (fn := Tryz.f76) (hint := F91H) (pack := fun y => y.2.1) hmix tab_ok ⟨⟨F94_ok, trivial⟩, trivial⟩ fun x z h => (F91_eq x.1 x.2.1 x.2.2.1).trans h
noncomputable def F88 : (El Y31) → (El Y33) → (El Y50) → (El Y3) → Option (El Y36) := fun a0 a1 a2 a3 =>
 Option.bind (idx a2.1 a3) fun x0 =>
 Option.bind (F93 a0 a1 x0) fun x1 =>
 bif !decide (x1 = (0 : Int)) then some x1
 else
 Option.bind
 (bif decide (a3 = (0 : Int)) then Option.bind (F90 a0 a1 a2) fun x2 => some x2
 else Option.bind (idx a2.1 (IntKind.wrap .i64 (a3 - (1 : Int)))) fun x3 => Option.bind (F91 a0 x3 x0) fun x4 => some x4)
 fun x5 =>
 bif !decide (x5 = (0 : Int)) then some x5
 else
 Option.bind
 (bif x0.1 then
 bif decide (IntKind.wrap .i64 (a3 + (1 : Int)) = (↑(List.length a2.1) : Int)) then some true
 else Option.bind (idx a2.1 (IntKind.wrap .i64 (a3 + (1 : Int)))) fun x6 => some !x6.2.2.2.2.2.2.2.2.1
 else some false)
 fun x7 =>
 bif x7 then
 Option.bind (idx a0.2.2.1 x0.2.1) fun x8 =>
 Option.bind (idx x8.2.2.2.2.2.2.2.1 x0.2.2.2.1) fun x9 =>
 bif !x9.2.2.2.2.1 then some (26 : Int)
 else Option.bind (F86 a0 a1 x0.2.2.2.2.2.1) fun x10 => bif !x10 then some (29 : Int) else some (0 : Int)
 else some (0 : Int)
abbrev F88A : Pats := (.cons (.pd Y31) (.cons (.pd Y33) (.cons (.pd Y50) (.cons (.pd Y3) .nil))))
abbrev F88R : Pats := (.cons (.pd Y36) .nil)
noncomputable def F88S : Tr.Spec := { args := F88A, res := F88R, fns := [], α := El Y36, f := fun x => F88 x.1 x.2.1 x.2.2.1 x.2.2.2.1, unp := fun z => (((), (), (), (), ()), (z, ())) }
noncomputable def F88M : List (Nat × List Tr.Spec) := [(74, [F93S]), (75, [F90S]), (76, [F91S]), (77, [F86S])]
def F88H : Hint := (.seq .leaf (.seq .leaf (.seq .leaf (.seq .leaf (.seq (.seq .leaf (.cnd (some (⟨[], [], [3, 4, 5, 6, 9], []⟩, [(.normal, ⟨[(10, (.pd Y36))], [], [3, 4, 5, 6, 9], []⟩)])) .leaf .leaf)) (.seq .leaf (.seq (.seq (.reg [(60, Y4)]) .leaf) .leaf)))))))
noncomputable def F88V (a0 : El Y31) (a1 : El Y33) (a2 : El Y50) (a3 : El Y3) : Option (El Y36) := evalF (mkE tyTab mapTab pkTab [] [] F88M 80 bdTab) (codeOf Tryz.f59) Tryz.f59.results F88H F88A F88R (fun y => y.2.1) (a0, a1, a2, a3, ())
theorem F88_eq (a0 : El Y31) (a1 : El Y33) (a2 : El Y50) (a3 : El Y3) : F88V a0 a1 a2 a3 = F88 a0 a1 a2 a3 := by kernel_rfl
theorem F88_ok : FnOK Tryz.prog 59 F88S := fnOK_of (m := F88M) (fn := Tryz.f59) (hint := F88H) (pack := fun y => y.2.1) hmix tab_ok ⟨⟨F93_ok, trivial⟩, ⟨F90_ok, trivial⟩, ⟨F91_ok, trivial⟩, ⟨F86_ok, trivial⟩, trivial⟩ fun x z h => (F88_eq x.1 x.2.1 x.2.2.1 x.2.2.2.1).trans h
noncomputable def F79 : (El Y50) → Option (El Y3) := fun a0 =>
 Option.bind
 (Tr.run
 (fun s0 =>
 bif decide (s0.2 < (↑(List.length a0.1) : Int)) then
 Option.bind (idx a0.1 s0.2) fun x1 =>
 Option.bind
 (bif !x1.1 then
 bif decide ((0 : Int) ≤ x1.2.2.2.2.2.2.1) then
 bif decide (x1.2.2.2.2.2.2.1 ≤ x1.2.2.2.2.2.2.2.1) then
 some (decide (IntKind.wrap .i64 (x1.2.2.2.2.2.2.2.1 - x1.2.2.2.2.2.2.1) ≤ (14400 : Int)))
 else some false
 else some false
 else some false)
 fun x2 =>
 bif x2 then
 some
 (.inl
 (IntKind.wrap .i64 (IntKind.wrap .i64 (s0.1 + x1.2.2.2.2.2.2.2.1) - x1.2.2.2.2.2.2.1),
 IntKind.wrap .i64 (s0.2 + (1 : Int))))
 else some (.inl (s0.1, IntKind.wrap .i64 (s0.2 + (1 : Int))))
 else some (.inr s0.1))
 ((0 : Int), (0 : Int)))
 fun x3 => some x3
abbrev F79A : Pats := (.cons (.pd Y50) .nil)
abbrev F79R : Pats := (.cons (.pd Y3) .nil)
noncomputable def F79S : Tr.Spec := { args := F79A, res := F79R, fns := [], α := El Y3, f := fun x => F79 x.1, unp := fun z => (((), ()), (z, ())) }
noncomputable def F79M : List (Nat × List Tr.Spec) := []
def F79H : Hint := (.seq .leaf (.seq .leaf (.seq (.seq .leaf (.lp ⟨[(3, (.pd Y3)), (4, (.pd Y3))], [], [1], []⟩ [((.exit 0), ⟨[(3, (.pd Y3))], [], [], []⟩)] (.seq .leaf (.seq (.seq .leaf (.seq (.reg [(40, Y4)]) .leaf)) .leaf)))) .leaf)))
noncomputable def F79V (a0 : El Y50) : Option (El Y3) := evalF (mkE tyTab mapTab pkTab [] [] F79M 49 bdTab) (codeOf Tryz.f78) Tryz.f78.results F79H F79A F79R (fun y => y.2.1) (a0, ())
theorem F79_eq (a0 : El Y50) : F79V a0 = F79 a0 := by kernel_rfl
theorem F79_ok : FnOK Tryz.prog 78 F79S := fnOK_of (m := F79M) (fn := Tryz.f78) (hint := F79H) (pack := fun y => y.2.1) hmix tab_ok trivial fun x z h => (F79_eq x.1).trans h
noncomputable def F82 : (El Y31) → (El Y110) → Option (El Y3) := fun a0 a1 =>
 Option.bind (idx a0.2.2.1 a1.2.1) fun x0 =>
 Option.bind
 (Tr.run
 (fun s1 =>
 bif decide (s1.2 ≤ a1.2.2.2.1) then
 Option.bind (idx x0.2.2.2.2.2.2.2.1 s1.2) fun x2 =>
 Option.bind (idx a0.1 x2.1) fun x3 =>
 Option.bind (Tr.qshl .i64 (1 : Int) x3.2.1) fun x4 => some (.inl (Tr.qor .i64 s1.1 x4, IntKind.wrap .i64 (s1.2 + (1 : Int))))
 else some (.inr s1.1))
 ((0 : Int), a1.2.2.1))
 fun x5 => some x5
abbrev F82A : Pats := (.cons (.pd Y31) (.cons (.pd Y110) .nil))
abbrev F82R : Pats := (.cons (.pd Y3) .nil)
noncomputable def F82S : Tr.Spec := { args := F82A, res := F82R, fns := [], α := El Y3, f := fun x => F82 x.1 x.2.1, unp := fun z => (((), (), ()), (z, ())) }
noncomputable def F82M : List (Nat × List Tr.Spec) := []
def F82H : Hint := (.seq .leaf (.seq .leaf (.seq .leaf (.seq (.seq .leaf (.lp ⟨[(5, (.pd Y3)), (7, (.pd Y3))], [], [2, 3, 6], []⟩ [((.exit 0), ⟨[(5, (.pd Y3))], [], [], []⟩)] .leaf)) .leaf))))
noncomputable def F82V (a0 : El Y31) (a1 : El Y110) : Option (El Y3) := evalF (mkE tyTab mapTab pkTab [] [] F82M 37 bdTab) (codeOf Tryz.f98) Tryz.f98.results F82H F82A F82R (fun y => y.2.1) (a0, a1, ())
theorem F82_eq (a0 : El Y31) (a1 : El Y110) : F82V a0 a1 = F82 a0 a1 := by kernel_rfl
theorem F82_ok : FnOK Tryz.prog 98 F82S := fnOK_of (m := F82M) (fn := Tryz.f98) (hint := F82H) (pack := fun y => y.2.1) hmix tab_ok trivial fun x z h => (F82_eq x.1 x.2.1).trans h
noncomputable def F77 : (El Y31) → (El Y50) → Option (El Y139 × El Y36) := fun a0 a1 =>
 Option.bind (F63 a0) fun x0 =>
 bif !x0 then some ([], (21 : Int))
 else
 Option.bind
 (Tr.run
 (fun s1 =>
 bif decide (s1.2 < (↑(List.length a1.1) : Int)) then
 Option.bind (idx a1.1 s1.2) fun x2 =>
 Option.bind (bif x2.1 then Option.bind (F75 a0 x2) fun x3 => some !x3 else some false) fun x4 =>
 bif x4 then some (.inr (.inr ([], (9 : Int))))
 else
 Option.bind
 (bif x2.2.2.2.2.2.2.2.2.1 then
 bif !x2.1 then some true
 else
 bif decide (s1.2 = (0 : Int)) then some true
 else Option.bind (idx a1.1 (IntKind.wrap .i64 (s1.2 - (1 : Int)))) fun x5 => some !x5.1
 else some false)
 fun x6 =>
 bif x6 then some (.inr (.inr ([], (19 : Int))))
 else
 bif !x2.1 then some (.inl (s1.1, IntKind.wrap .i64 (s1.2 + (1 : Int))))
 else
 Option.bind (idx a0.2.2.1 x2.2.1) fun x7 =>
 Option.bind (idx a0.2.1 x7.2.2.2.2.1) fun x8 =>
 Option.bind (Tr.qshl .i64 (1 : Int) x8.2.1) fun x9 =>
 bif x2.2.2.2.2.2.2.2.2.1 then
 Option.bind (inb (IntKind.wrap .i64 ((↑(List.length s1.1) : Int) - (1 : Int))) (List.length s1.1)) fun x10 =>
 Option.bind s1.1[x10]? fun x11 =>
 Option.bind
 (inb (IntKind.wrap .i64 ((↑(List.length s1.1) : Int) - (1 : Int)))
 (List.length (List.set s1.1 x10 (x11.1, x2.2.2.2.2.2.2.2.1, x11.2.2))))
 fun x12 =>
 Option.bind (List.set s1.1 x10 (x11.1, x2.2.2.2.2.2.2.2.1, x11.2.2))[x12]? fun x13 =>
 Option.bind (F82 a0 x2) fun x14 =>
 Option.bind
 (inb (IntKind.wrap .i64 ((↑(List.length s1.1) : Int) - (1 : Int)))
 (List.length (List.set s1.1 x10 (x11.1, x2.2.2.2.2.2.2.2.1, x11.2.2))))
 fun x15 =>
 Option.bind (List.set s1.1 x10 (x11.1, x2.2.2.2.2.2.2.2.1, x11.2.2))[x15]? fun x16 =>
 Option.bind
 (inb (IntKind.wrap .i64 ((↑(List.length s1.1) : Int) - (1 : Int)))
 (List.length
 (List.set (List.set s1.1 x10 (x11.1, x2.2.2.2.2.2.2.2.1, x11.2.2)) x15
 (x16.1, x16.2.1, Tr.qor .i64 x13.2.2.1 x14, x16.2.2.2))))
 fun x17 =>
 Option.bind
 (List.set (List.set s1.1 x10 (x11.1, x2.2.2.2.2.2.2.2.1, x11.2.2)) x15
 (x16.1, x16.2.1, Tr.qor .i64 x13.2.2.1 x14, x16.2.2.2))[x17]?
 fun x18 =>
 Option.bind
 (inb (IntKind.wrap .i64 ((↑(List.length s1.1) : Int) - (1 : Int)))
 (List.length
 (List.set (List.set s1.1 x10 (x11.1, x2.2.2.2.2.2.2.2.1, x11.2.2)) x15
 (x16.1, x16.2.1, Tr.qor .i64 x13.2.2.1 x14, x16.2.2.2))))
 fun x19 =>
 Option.bind
 (List.set (List.set s1.1 x10 (x11.1, x2.2.2.2.2.2.2.2.1, x11.2.2)) x15
 (x16.1, x16.2.1, Tr.qor .i64 x13.2.2.1 x14, x16.2.2.2))[x19]?
 fun x20 =>
 some
 (.inl
 (List.set
 (List.set (List.set s1.1 x10 (x11.1, x2.2.2.2.2.2.2.2.1, x11.2.2)) x15
 (x16.1, x16.2.1, Tr.qor .i64 x13.2.2.1 x14, x16.2.2.2))
 x19 (x20.1, x20.2.1, x20.2.2.1, Tr.qor .i64 x18.2.2.2.1 x9, x20.2.2.2.2),
 IntKind.wrap .i64 (s1.2 + (1 : Int))))
 else
 Option.bind (F82 a0 x2) fun x21 =>
 Option.bind
 (guardB (decide (List.length s1.1 + List.length [(x2.2.2.2.2.2.2.1, x2.2.2.2.2.2.2.2.1, x21, x9, ())] ≤ maxApp)))
 fun _ =>
 some
 (.inl (s1.1 ++ [(x2.2.2.2.2.2.2.1, x2.2.2.2.2.2.2.2.1, x21, x9, ())], IntKind.wrap .i64 (s1.2 + (1 : Int))))
 else some (.inr (.inl s1.1)))
 ([], (0 : Int)))
 fun x23 => Sum.elim (fun y24 => some (y24, (0 : Int))) (fun y25 => some (y25.1, y25.2)) x23
abbrev F77A : Pats := (.cons (.pd Y31) (.cons (.pd Y50) .nil))
abbrev F77R : Pats := (.cons (.pd Y139) (.cons (.pd Y36) .nil))
noncomputable def F77S : Tr.Spec := { args := F77A, res := F77R, fns := [], α := El Y139 × El Y36, f := fun x => F77 x.1 x.2.1, unp := fun z => (((), (), ()), (z.1, z.2, ())) }
noncomputable def F77M : List (Nat × List Tr.Spec) := [(19, [F63S]), (88, [F75S]), (98, [F82S])]
def F77H : Hint := (.seq .leaf (.seq .leaf (.seq .leaf (.seq (.seq .leaf (.lp ⟨[(6, (.own Y148 false)), (7, (.pd Y3))], [], [2, 3], []⟩ [((.exit 0), ⟨[(6, (.own Y148 false))], [], [], []⟩), (.ret, ⟨[(4, (.pd Y139)), (5, (.pd Y36))], [], [], []⟩)] (.seq .leaf (.seq (.seq .leaf (.seq (.seq (.reg [(34, Y4)]) .leaf) (.seq (.seq (.reg [(55, Y4)]) .leaf) .leaf))) .leaf)))) .leaf))))
noncomputable def F77V (a0 : El Y31) (a1 : El Y50) : Option (El Y139 × El Y36) := evalF (mkE tyTab mapTab pkTab [] [] F77M 120 bdTab) (codeOf Tryz.f92) Tryz.f92.results F77H F77A F77R (fun y => (y.2.1, y.2.2.1)) (a0, a1, ())
theorem F77_eq (a0 : El Y31) (a1 : El Y50) : F77V a0 a1 = F77 a0 a1 := by kernel_rfl
theorem F77_ok : FnOK Tryz.prog 92 F77S := fnOK_of (m := F77M) (fn := Tryz.f92) (hint := F77H) (pack := fun y => (y.2.1, y.2.2.1)) hmix tab_ok ⟨⟨F63_ok, trivial⟩, ⟨F75_ok, trivial⟩, ⟨F82_ok, trivial⟩, trivial⟩ fun x z h => (F77_eq x.1 x.2.1).trans h
noncomputable def F80 : (El Y3) → Option (El Y3) := fun a0 =>
 Option.bind
 (Tr.run
 (fun s0 =>
 bif decide (s0.2 < (62 : Int)) then
 Option.bind (Tr.qshr .i64 a0 s0.2) fun x1 =>
 bif decide (Tr.qand .i64 x1 (1 : Int) = (1 : Int)) then
 some (.inl (IntKind.wrap .i64 (s0.1 + (1 : Int)), IntKind.wrap .i64 (s0.2 + (1 : Int))))
 else some (.inl (s0.1, IntKind.wrap .i64 (s0.2 + (1 : Int))))
 else some (.inr s0.1))
 ((0 : Int), (0 : Int)))
 fun x2 => some x2
abbrev F80A : Pats := (.cons (.pd Y3) .nil)
abbrev F80R : Pats := (.cons (.pd Y3) .nil)
noncomputable def F80S : Tr.Spec := { args := F80A, res := F80R, fns := [], α := El Y3, f := fun x => F80 x.1, unp := fun z => (((), ()), (z, ())) }
noncomputable def F80M : List (Nat × List Tr.Spec) := []
def F80H : Hint := (.seq .leaf (.seq .leaf (.seq (.seq .leaf (.lp ⟨[(3, (.pd Y3)), (4, (.pd Y3))], [], [0], []⟩ [((.exit 0), ⟨[(3, (.pd Y3))], [], [], []⟩)] .leaf)) .leaf)))
noncomputable def F80V (a0 : El Y3) : Option (El Y3) := evalF (mkE tyTab mapTab pkTab [] [] F80M 17 bdTab) (codeOf Tryz.f107) Tryz.f107.results F80H F80A F80R (fun y => y.2.1) (a0, ())
theorem F80_eq (a0 : El Y3) : F80V a0 = F80 a0 := by kernel_rfl
theorem F80_ok : FnOK Tryz.prog 107 F80S := fnOK_of (m := F80M) (fn := Tryz.f107) (hint := F80H) (pack := fun y => y.2.1) hmix tab_ok trivial fun x z h => (F80_eq x.1).trans h
noncomputable def F81 : (El Y3) → (El Y3) → (El Y3) → Option (El Y4) := fun a0 a1 a2 =>
 bif decide (a1 ≤ a0) then some true
 else some (decide (IntKind.wrap .u64 (IntKind.wrap .u64 a1 - IntKind.wrap .u64 a0) ≤ IntKind.wrap .u64 a2))
abbrev F81A : Pats := (.cons (.pd Y3) (.cons (.pd Y3) (.cons (.pd Y3) .nil)))
abbrev F81R : Pats := (.cons (.pd Y4) .nil)
noncomputable def F81S : Tr.Spec := { args := F81A, res := F81R, fns := [], α := El Y4, f := fun x => F81 x.1 x.2.1 x.2.2.1, unp := fun z => (((), (), (), ()), (z, ())) }
noncomputable def F81M : List (Nat × List Tr.Spec) := []
def F81H : Hint := .leaf
noncomputable def F81V (a0 : El Y3) (a1 : El Y3) (a2 : El Y3) : Option (El Y4) := evalF (mkE tyTab mapTab pkTab [] [] F81M 18 bdTab) (codeOf Tryz.f108) Tryz.f108.results F81H F81A F81R (fun y => y.2.1) (a0, a1, a2, ())
theorem F81_eq (a0 : El Y3) (a1 : El Y3) (a2 : El Y3) : F81V a0 a1 a2 = F81 a0 a1 a2 := by kernel_rfl
theorem F81_ok : FnOK Tryz.prog 108 F81S := fnOK_of (m := F81M) (fn := Tryz.f108) (hint := F81H) (pack := fun y => y.2.1) hmix tab_ok trivial fun x z h => (F81_eq x.1 x.2.1 x.2.2.1).trans h
noncomputable def F74 : (El Y80) → (El Y139) → (El Y3) → (El Y3) → Option (El Y4) := fun a0 a1 a2 a3 =>
 Option.bind
 (Tr.run
 (fun s0 =>
 bif decide (s0.2.2 ≤ a3) then
 Option.bind (idx a1 s0.2.2) fun x1 =>
 Option.bind (idx a1 s0.2.2) fun x2 =>
 some (.inl (Tr.qor .i64 s0.1 x1.2.2.1, Tr.qor .i64 s0.2.1 x2.2.2.2.1, IntKind.wrap .i64 (s0.2.2 + (1 : Int))))
 else some (.inr (s0.1, s0.2.1)))
 ((0 : Int), (0 : Int), a2))
 fun x3 =>
 Option.bind
 (bif decide (IntKind.wrap .i64 (IntKind.wrap .i64 (a3 - a2) + (1 : Int)) ≤ a0.2.2.1) then
 Option.bind (F80 x3.1) fun x4 =>
 bif decide (x4 ≤ a0.2.2.2.1) then
 Option.bind (idx a1 a2) fun x5 =>
 Option.bind (idx a1 a3) fun x6 =>
 Option.bind (F81 x5.1 x6.1 a0.2.2.2.2.1) fun x7 =>
 bif x7 then some (decide (Tr.qandNot .i64 x3.2 a0.2.2.2.2.2.1 = (0 : Int))) else some false
 else some false
 else some false)
 fun x8 => some x8
abbrev F74A : Pats := (.cons (.pd Y80) (.cons (.pd Y139) (.cons (.pd Y3) (.cons (.pd Y3) .nil))))
abbrev F74R : Pats := (.cons (.pd Y4) .nil)
noncomputable def F74S : Tr.Spec := { args := F74A, res := F74R, fns := [], α := El Y4, f := fun x => F74 x.1 x.2.1 x.2.2.1 x.2.2.2.1, unp := fun z => (((), (), (), (), ()), (z, ())) }
noncomputable def F74M : List (Nat × List Tr.Spec) := [(107, [F80S]), (108, [F81S])]
def F74H : Hint := (.seq .leaf (.seq .leaf (.seq (.seq .leaf (.lp ⟨[(9, (.pd Y3)), (10, (.pd Y3)), (11, (.pd Y3))], [], [1, 2, 3, 4], []⟩ [((.exit 0), ⟨[(9, (.pd Y3)), (10, (.pd Y3))], [], [1, 2, 3, 4], []⟩)] .leaf)) (.seq (.reg [(8, Y4)]) .leaf))))
noncomputable def F74V (a0 : El Y80) (a1 : El Y139) (a2 : El Y3) (a3 : El Y3) : Option (El Y4) := evalF (mkE tyTab mapTab pkTab [] [] F74M 68 bdTab) (codeOf Tryz.f99) Tryz.f99.results F74H F74A F74R (fun y => y.2.1) (a0, a1, a2, a3, ())
theorem F74_eq (a0 : El Y80) (a1 : El Y139) (a2 : El Y3) (a3 : El Y3) : F74V a0 a1 a2 a3 = F74 a0 a1 a2 a3 := by kernel_rfl
theorem F74_ok : FnOK Tryz.prog 99 F74S := fnOK_of (m := F74M) (fn := Tryz.f99) (hint := F74H) (pack := fun y => y.2.1) hmix tab_ok ⟨⟨F80_ok, trivial⟩, ⟨F81_ok, trivial⟩, trivial⟩ fun x z h => (F74_eq x.1 x.2.1 x.2.2.1 x.2.2.2.1).trans h
noncomputable def F78 : (El Y29) → (El Y80) → (El Y139) → (El Y3) → Option (El Y3) := fun a0 a1 a2 a3 =>
 Option.bind
 (bif decide ((0 : Int) < a3) then
 Option.bind (idx a2 (IntKind.wrap .i64 (a3 - (1 : Int)))) fun x0 =>
 Option.bind (idx a2 a3) fun x1 => Option.bind (F81 x0.2.1 x1.1 a0.2.2.1) fun x2 => some x2
 else some false)
 fun x3 => bif x3 then some (Tr.imax (0 : Int) (IntKind.wrap .i64 (a1.2.1 - a0.2.1))) else some a1.2.1
abbrev F78A : Pats := (.cons (.pd Y29) (.cons (.pd Y80) (.cons (.pd Y139) (.cons (.pd Y3) .nil))))
abbrev F78R : Pats := (.cons (.pd Y3) .nil)
noncomputable def F78S : Tr.Spec := { args := F78A, res := F78R, fns := [], α := El Y3, f := fun x => F78 x.1 x.2.1 x.2.2.1 x.2.2.2.1, unp := fun z => (((), (), (), (), ()), (z, ())) }
noncomputable def F78M : List (Nat × List Tr.Spec) := [(108, [F81S])]
def F78H : Hint := (.seq .leaf (.seq (.seq (.reg [(26, Y4)]) .leaf) .leaf))
noncomputable def F78V (a0 : El Y29) (a1 : El Y80) (a2 : El Y139) (a3 : El Y3) : Option (El Y3) := evalF (mkE tyTab mapTab pkTab [] [] F78M 35 bdTab) (codeOf Tryz.f100) Tryz.f100.results F78H F78A F78R (fun y => y.2.1) (a0, a1, a2, a3, ())
theorem F78_eq (a0 : El Y29) (a1 : El Y80) (a2 : El Y139) (a3 : El Y3) : F78V a0 a1 a2 a3 = F78 a0 a1 a2 a3 := by kernel_rfl
theorem F78_ok : FnOK Tryz.prog 100 F78S := fnOK_of (m := F78M) (fn := Tryz.f100) (hint := F78H) (pack := fun y => y.2.1) hmix tab_ok ⟨⟨F81_ok, trivial⟩, trivial⟩ fun x z h => (F78_eq x.1 x.2.1 x.2.2.1 x.2.2.2.1).trans h
noncomputable def F76 : (El Y29) → (El Y139) → Option (El Y3 × El Y116 × El Y4) := fun a0 a1 =>
 Option.bind
 (guardB
 (decide
 ((0 : Tr.El (Tr.Ty.int .i64)) ≤ IntKind.wrap .i64 ((↑(List.length a1) : Int) + (1 : Int)) ∧
 IntKind.wrap .i64 ((↑(List.length a1) : Int) + (1 : Int)) ≤ IntKind.wrap .i64 ((↑(List.length a1) : Int) + (1 : Int)) ∧
 IntKind.wrap .i64 ((↑(List.length a1) : Int) + (1 : Int)) ≤ (↑maxApp : Tr.El (Tr.Ty.int .i64)))))
 fun _ =>
 Option.bind (inb (↑(List.length a1) : Int) (List.length (List.replicate (Int.toNat (IntKind.wrap .i64 ((↑(List.length a1) : Int) + (1 : Int)))) ((false, (0 : Int), ([] : List (El Y156)), ()))))) fun x1 =>
 Option.bind (List.replicate (Int.toNat (IntKind.wrap .i64 ((↑(List.length a1) : Int) + (1 : Int)))) ((false, (0 : Int), ([] : List (El Y156)), ())))[x1]? fun x2 =>
 Option.bind
 (Tr.run
 (fun s3 =>
 bif decide ((0 : Int) ≤ s3.2) then
 Option.bind
 (Tr.run
 (fun s4 =>
 bif decide (s4.2 < (↑(List.length a1) : Int)) then
 Option.bind (inb (IntKind.wrap .i64 (s4.2 + (1 : Int))) (List.length s4.1)) fun x5 =>
 Option.bind s4.1[x5]? fun x6 =>
 bif !x6.1 then some (.inl (s4.1, IntKind.wrap .i64 (s4.2 + (1 : Int))))
 else
 Option.bind
 (Tr.run
 (fun s7 =>
 bif decide (s7.2 < (↑(List.length a0.1) : Int)) then
 Option.bind (idx a0.1 s7.2) fun x8 =>
 Option.bind (F74 x8 a1 s3.2 s4.2) fun x9 =>
 bif !x9 then some (.inl (s7.1, IntKind.wrap .i64 (s7.2 + (1 : Int))))
 else
 Option.bind (idx a0.1 s7.2) fun x10 =>
 Option.bind (F78 a0 x10 a1 s3.2) fun x11 =>
 Option.bind (inb (IntKind.wrap .i64 (s4.2 + (1 : Int))) (List.length s7.1)) fun x12 =>
 Option.bind s7.1[x12]? fun x13 =>
 Option.bind
 (Option.bind (inb s3.2 (List.length s7.1)) fun x14 =>
 Option.bind s7.1[x14]? fun x15 =>
 bif x15.1 then
 Option.bind (inb s3.2 (List.length s7.1)) fun x16 =>
 Option.bind s7.1[x16]? fun x17 =>
 bif decide (x17.2.1 < IntKind.wrap .i64 (x11 + x13.2.1)) then some true
 else
 Option.bind (inb s3.2 (List.length s7.1)) fun x18 =>
 Option.bind s7.1[x18]? fun x19 =>
 bif decide (IntKind.wrap .i64 (x11 + x13.2.1) = x19.2.1) then
 Option.bind (inb (IntKind.wrap .i64 (s4.2 + (1 : Int))) (List.length s7.1)) fun x20 =>
 Option.bind s7.1[x20]? fun x21 =>
 Option.bind (inb s3.2 (List.length s7.1)) fun x22 =>
 Option.bind s7.1[x22]? fun x23 =>
 some
 (decide
 ((↑(List.length x23.2.2.1) : Int) ≤
 IntKind.wrap .i64 ((1 : Int) + (↑(List.length x21.2.2.1) : Int))))
 else some false
 else some false)
 fun x24 =>
 bif x24 then some (.inl (s7.1, IntKind.wrap .i64 (s7.2 + (1 : Int))))
 else
 Option.bind (inb (IntKind.wrap .i64 (s4.2 + (1 : Int))) (List.length s7.1)) fun x25 =>
 Option.bind s7.1[x25]? fun x26 =>
 Option.bind (guardB (decide (List.length [(s7.2, s3.2, s4.2, x11, ())] + List.length x26.2.2.1 ≤ maxApp)))
 fun _ =>
 Option.bind (inb s3.2 (List.length s7.1)) fun x28 =>
 Option.bind s7.1[x28]? fun _ =>
 some
 (.inl
 (List.set s7.1 x28
 (true, IntKind.wrap .i64 (x11 + x13.2.1), [(s7.2, s3.2, s4.2, x11, ())] ++ x26.2.2.1, ()),
 IntKind.wrap .i64 (s7.2 + (1 : Int))))
 else some (.inr s7.1))
 (s4.1, (0 : Int)))
 fun x30 => some (.inl (x30, IntKind.wrap .i64 (s4.2 + (1 : Int))))
 else some (.inr s4.1))
 (s3.1, s3.2))
 fun x31 => some (.inl (x31, IntKind.wrap .i64 (s3.2 - (1 : Int))))
 else some (.inr s3.1))
 (List.set (List.replicate (Int.toNat (IntKind.wrap .i64 ((↑(List.length a1) : Int) + (1 : Int)))) ((false, (0 : Int), ([] : List (El Y156)), ()))) x1 (true, x2.2),
 IntKind.wrap .i64 ((↑(List.length a1) : Int) - (1 : Int))))
 fun x32 =>
 Option.bind (inb (0 : Int) (List.length x32)) fun x33 =>
 Option.bind x32[x33]? fun x34 =>
 Option.bind (inb (0 : Int) (List.length x32)) fun x35 =>
 Option.bind x32[x35]? fun x36 => Option.bind (inb (0 : Int) (List.length x32)) fun x37 => Option.bind x32[x37]? fun x38 => some (x34.2.1, x36.2.2.1, x38.1)
abbrev F76A : Pats := (.cons (.pd Y29) (.cons (.pd Y139) .nil))
abbrev F76R : Pats := (.cons (.pd Y3) (.cons (.pd Y116) (.cons (.pd Y4) .nil)))
noncomputable def F76S : Tr.Spec := { args := F76A, res := F76R, fns := [], α := El Y3 × El Y116 × El Y4, f := fun x => F76 x.1 x.2.1, unp := fun z => (((), (), ()), (z.1, z.2.1, z.2.2, ())) }
noncomputable def F76M : List (Nat × List Tr.Spec) := [(99, [F74S]), (100, [F78S])]
def F76H : Hint := (.seq .leaf (.seq .leaf (.seq .leaf (.seq (.seq .leaf (.lp ⟨[(7, (.own Y152 false)), (8, (.pd Y3))], [], [1, 2], []⟩ [((.exit 0), ⟨[(7, (.own Y152 false))], [], [], []⟩)] (.seq .leaf (.seq (.seq .leaf (.lp ⟨[(7, (.own Y152 false)), (9, (.pd Y3))], [], [1, 2, 8], []⟩ [((.exit 2), ⟨[(7, (.own Y152 false))], [], [1, 2, 8], []⟩)] (.seq .leaf (.seq (.seq .leaf (.seq .leaf (.lp ⟨[(7, (.own Y152 false)), (10, (.pd Y3))], [], [1, 2, 8, 9], []⟩ [((.exit 4), ⟨[(7, (.own Y152 false))], [], [1, 2, 8, 9], []⟩)] (.seq .leaf (.seq (.seq .leaf (.seq .leaf (.seq .leaf (.seq (.seq (.reg [(117, Y4)]) .leaf) .leaf)))) .leaf))))) .leaf)))) .leaf)))) .leaf))))
noncomputable def F76V (a0 : El Y29) (a1 : El Y139) : Option (El Y3 × El Y116 × El Y4) := evalF (mkE tyTab mapTab pkTab [152] [] F76M 150 bdTab) (codeOf Tryz.f93) Tryz.f93.results F76H F76A F76R (fun y => (y.2.1, y.2.2.1, y.2.2.2.1)) (a0, a1, ())
theorem F76_eq (a0 : El Y29) (a1 : El Y139) : F76V a0 a1 = F76 a0 a1 := by kernel_rfl
theorem F76_ok : FnOK Tryz.prog 93 F76S := fnOK_of (m := F76M) (fn := Tryz.f93) (hint := F76H) (pack := fun y => (y.2.1, y.2.2.1, y.2.2.2.1)) hmix tab_ok ⟨⟨F74_ok, trivial⟩, ⟨F78_ok, trivial⟩, trivial⟩ fun x z h => (F76_eq x.1 x.2.1).trans h
noncomputable def F72 : (El Y29) → (El Y3) → Option (El Y3) := fun a0 a1 => bif decide ((0 : Int) < a0.2.2.2.1) then some (Tr.imin a0.2.2.2.1 a1) else some a1
abbrev F72A : Pats := (.cons (.pd Y29) (.cons (.pd Y3) .nil))
abbrev F72R : Pats := (.cons (.pd Y3) .nil)
noncomputable def F72S : Tr.Spec := { args := F72A, res := F72R, fns := [], α := El Y3, f := fun x => F72 x.1 x.2.1, unp := fun z => (((), (), ()), (z, ())) }
noncomputable def F72M : List (Nat × List Tr.Spec) := []
def F72H : Hint := .leaf
noncomputable def F72V (a0 : El Y29) (a1 : El Y3) : Option (El Y3) := evalF (mkE tyTab mapTab pkTab [] [] F72M 13 bdTab) (codeOf Tryz.f94) Tryz.f94.results F72H F72A F72R (fun y => y.2.1) (a0, a1, ())
theorem F72_eq (a0 : El Y29) (a1 : El Y3) : F72V a0 a1 = F72 a0 a1 := by kernel_rfl
theorem F72_ok : FnOK Tryz.prog 94 F72S := fnOK_of (m := F72M) (fn := Tryz.f94) (hint := F72H) (pack := fun y => y.2.1) hmix tab_ok trivial fun x z h => (F72_eq x.1 x.2.1).trans h
noncomputable def F73 : (El Y31) → (El Y33) → (El Y50) → Option (El Y115 × El Y116 × El Y36) := fun a0 a1 a2 =>
 Option.bind (F77 a0 a2) fun x0 =>
 bif !decide (x0.2 = (0 : Int)) then some (((0 : Int), (0 : Int), (0 : Int), (0 : Int), (0 : Int), ()), [], x0.2)
 else
 bif decide ((8 : Int) < (↑(List.length x0.1) : Int)) then some (((0 : Int), (0 : Int), (0 : Int), (0 : Int), (0 : Int), ()), [], (33 : Int))
 else
 Option.bind (F76 a0.2.2.2.2.2.1 x0.1) fun x1 =>
 bif !x1.2.2 then some (((0 : Int), (0 : Int), (0 : Int), (0 : Int), (0 : Int), ()), [], (34 : Int))
 else
 Option.bind (F72 a0.2.2.2.2.2.1 x1.1) fun x2 =>
 Option.bind (F79 a2) fun x3 =>
 Option.bind
 (bif decide ((0 : Int) < (↑(List.length a2.1) : Int)) then
 Option.bind (idx a2.1 (0 : Int)) fun x4 =>
 Option.bind (idx a2.1 (IntKind.wrap .i64 ((↑(List.length a2.1) : Int) - (1 : Int)))) fun x5 =>
 some (x4.2.2.2.2.2.2.1, x5.2.2.2.2.2.2.2.1, (↑(List.length x0.1) : Int), x2, x3, ())
 else some (a1.2.2.1, a1.2.2.1, (↑(List.length x0.1) : Int), x2, x3, ()))
 fun x6 => some (x6, x1.2.1, (0 : Int))
abbrev F73A : Pats := (.cons (.pd Y31) (.cons (.pd Y33) (.cons (.pd Y50) .nil)))
abbrev F73R : Pats := (.cons (.pd Y115) (.cons (.pd Y116) (.cons (.pd Y36) .nil)))
noncomputable def F73S : Tr.Spec := { args := F73A, res := F73R, fns := [], α := El Y115 × El Y116 × El Y36, f := fun x => F73 x.1 x.2.1 x.2.2.1, unp := fun z => (((), (), (), ()), (z.1, z.2.1, z.2.2, ())) }
noncomputable def F73M : List (Nat × List Tr.Spec) := [(78, [F79S]), (92, [F77S]), (93, [F76S]), (94, [F72S])]
def F73H : Hint := (.seq .leaf (.seq .leaf (.seq .leaf (.seq .leaf (.seq .leaf (.seq .leaf (.seq .leaf (.seq (.seq .leaf (.cnd (some (⟨[], [], [6, 12], []⟩, [(.normal, ⟨[(14, (.var Y115 (.pd Y115)))], [], [6, 12], []⟩)])) .leaf .leaf)) .leaf))))))))
noncomputable def F73V (a0 : El Y31) (a1 : El Y33) (a2 : El Y50) : Option (El Y115 × El Y116 × El Y36) := evalF (mkE tyTab mapTab pkTab [] [] F73M 75 bdTab) (codeOf Tryz.f79) Tryz.f79.results F73H F73A F73R (fun y => (y.2.1, y.2.2.1, y.2.2.2.1)) (a0, a1, a2, ())
theorem F73_eq (a0 : El Y31) (a1 : El Y33) (a2 : El Y50) : F73V a0 a1 a2 = F73 a0 a1 a2 := by kernel_rfl
theorem F73_ok : FnOK Tryz.prog 79 F73S := fnOK_of (m := F73M) (fn := Tryz.f79) (hint := F73H) (pack := fun y => (y.2.1, y.2.2.1, y.2.2.2.1)) hmix tab_ok ⟨⟨F79_ok, trivial⟩, ⟨F77_ok, trivial⟩, ⟨F76_ok, trivial⟩, ⟨F72_ok, trivial⟩, trivial⟩ fun x z h => (F73_eq x.1 x.2.1 x.2.2.1).trans h
noncomputable def F89 : (El Y31) → (El Y33) → (El Y50) → Option (El Y36) := fun a0 a1 a2 =>
 Option.bind (idx a2.1 (IntKind.wrap .i64 ((↑(List.length a2.1) : Int) - (1 : Int)))) fun x0 =>
 bif !decide (x0.2.2.2.2.2.1 = a1.2.1) then some (24 : Int)
 else
 Option.bind (bif a1.2.2.2.1 then some (decide (a1.2.2.1 < x0.2.2.2.2.2.2.2.1)) else some false) fun x1 =>
 bif x1 then some (10 : Int)
 else
 Option.bind
 (Tr.run
 (fun s2 =>
 bif decide (s2.2 < (↑(List.length a2.1) : Int)) then
 Option.bind
 (Option.bind (idx a2.1 s2.2) fun x3 =>
 bif x3.1 then Option.bind (idx a2.1 s2.2) fun x4 => some !x4.2.2.2.2.2.2.2.2.1 else some false)
 fun x5 =>
 bif x5 then some (.inl (IntKind.wrap .i64 (s2.1 + (1 : Int)), IntKind.wrap .i64 (s2.2 + (1 : Int))))
 else some (.inl (s2.1, IntKind.wrap .i64 (s2.2 + (1 : Int))))
 else some (.inr s2.1))
 ((0 : Int), (0 : Int)))
 fun x6 =>
 bif decide (a1.2.2.2.2.1 < x6) then some (33 : Int)
 else
 Option.bind (F79 a2) fun x7 =>
 bif decide (a1.2.2.2.2.2.1 < x7) then some (32 : Int) else Option.bind (F73 a0 a1 a2) fun x8 => some x8.2.2
abbrev F89A : Pats := (.cons (.pd Y31) (.cons (.pd Y33) (.cons (.pd Y50) .nil)))
abbrev F89R : Pats := (.cons (.pd Y36) .nil)
noncomputable def F89S : Tr.Spec := { args := F89A, res := F89R, fns := [], α := El Y36, f := fun x => F89 x.1 x.2.1 x.2.2.1, unp := fun z => (((), (), (), ()), (z, ())) }
noncomputable def F89M : List (Nat × List Tr.Spec) := [(78, [F79S]), (79, [F73S])]
def F89H : Hint := (.seq .leaf (.seq .leaf (.seq .leaf (.seq (.seq (.reg [(34, Y4)]) .leaf) (.seq .leaf (.seq (.seq .leaf (.lp ⟨[(8, (.pd Y3)), (9, (.pd Y3))], [], [3, 4, 5], []⟩ [((.exit 0), ⟨[(8, (.pd Y3))], [], [3, 4, 5], []⟩)] (.seq .leaf (.seq (.seq (.reg [(56, Y4)]) .leaf) .leaf)))) .leaf))))))
noncomputable def F89V (a0 : El Y31) (a1 : El Y33) (a2 : El Y50) : Option (El Y36) := evalF (mkE tyTab mapTab pkTab [] [] F89M 77 bdTab) (codeOf Tryz.f60) Tryz.f60.results F89H F89A F89R (fun y => y.2.1) (a0, a1, a2, ())
theorem F89_eq (a0 : El Y31) (a1 : El Y33) (a2 : El Y50) : F89V a0 a1 a2 = F89 a0 a1 a2 := by kernel_rfl
theorem F89_ok : FnOK Tryz.prog 60 F89S := fnOK_of (m := F89M) (fn := Tryz.f60) (hint := F89H) (pack := fun y => y.2.1) hmix tab_ok ⟨⟨F79_ok, trivial⟩, ⟨F73_ok, trivial⟩, trivial⟩ fun x z h => (F89_eq x.1 x.2.1 x.2.2.1).trans h
noncomputable def F83 : (El Y31) → (El Y33) → (El Y50) → Option (El Y3 × El Y36) := fun a0 a1 a2 =>
 Option.bind (F84 a0 a1) fun x0 =>
 bif !decide (x0 = (0 : Int)) then some ((0 : Int), x0)
 else
 bif decide ((↑(List.length a2.1) : Int) = (0 : Int)) then bif !decide (a1.1 = a1.2.1) then some ((0 : Int), (24 : Int)) else some ((0 : Int), (0 : Int))
 else
 Option.bind
 (Tr.run
 (fun s1 =>
 bif decide (s1 < (↑(List.length a2.1) : Int)) then
 Option.bind (F88 a0 a1 a2 s1) fun x2 =>
 bif !decide (x2 = (0 : Int)) then some (.inr (.inr (s1, x2))) else some (.inl (IntKind.wrap .i64 (s1 + (1 : Int))))
 else some (.inr (.inl ())))
 (0 : Int))
 fun x3 =>
 Sum.elim
 (fun _ =>
 Option.bind (F89 a0 a1 a2) fun x5 =>
 bif !decide (x5 = (0 : Int)) then some (IntKind.wrap .i64 ((↑(List.length a2.1) : Int) - (1 : Int)), x5) else some ((0 : Int), (0 : Int)))
 (fun y6 => some (y6.1, y6.2)) x3
abbrev F83A : Pats := (.cons (.pd Y31) (.cons (.pd Y33) (.cons (.pd Y50) .nil)))
abbrev F83R : Pats := (.cons (.pd Y3) (.cons (.pd Y36) .nil))
noncomputable def F83S : Tr.Spec := { args := F83A, res := F83R, fns := [], α := El Y3 × El Y36, f := fun x => F83 x.1 x.2.1 x.2.2.1, unp := fun z => (((), (), (), ()), (z.1, z.2, ())) }
noncomputable def F83M : List (Nat × List Tr.Spec) := [(11, [F84S]), (59, [F88S]), (60, [F89S])]
def F83H : Hint := (.seq .leaf (.seq .leaf (.seq .leaf (.seq .leaf (.seq (.seq .leaf (.lp ⟨[(9, (.pd Y3))], [], [3, 4, 5], []⟩ [((.exit 0), ⟨[], [], [3, 4, 5], []⟩), (.ret, ⟨[(6, (.pd Y3)), (7, (.pd Y36))], [], [], []⟩)] .leaf)) .leaf)))))
noncomputable def F83V (a0 : El Y31) (a1 : El Y33) (a2 : El Y50) : Option (El Y3 × El Y36) := evalF (mkE tyTab mapTab pkTab [] [] F83M 52 bdTab) (codeOf Tryz.f36) Tryz.f36.results F83H F83A F83R (fun y => (y.2.1, y.2.2.1)) (a0, a1, a2, ())
theorem F83_eq (a0 : El Y31) (a1 : El Y33) (a2 : El Y50) : F83V a0 a1 a2 = F83 a0 a1 a2 := by kernel_rfl
theorem F83_ok : FnOK Tryz.prog 36 F83S := fnOK_of (m := F83M) (fn := Tryz.f36) (hint := F83H) (pack := fun y => (y.2.1, y.2.2.1)) hmix tab_ok ⟨⟨F84_ok, trivial⟩, ⟨F88_ok, trivial⟩, ⟨F89_ok, trivial⟩, trivial⟩ fun x z h => (F83_eq x.1 x.2.1 x.2.2.1).trans h
noncomputable def F85 : (El Y31) → (El Y33) → (El Y50) → Option (El Y4) := fun a0 a1 a2 => Option.bind (F83 a0 a1 a2) fun x0 => some (decide (x0.2 = (0 : Int)))
abbrev F85A : Pats := (.cons (.pd Y31) (.cons (.pd Y33) (.cons (.pd Y50) .nil)))
abbrev F85R : Pats := (.cons (.pd Y4) .nil)
noncomputable def F85S : Tr.Spec := { args := F85A, res := F85R, fns := [], α := El Y4, f := fun x => F85 x.1 x.2.1 x.2.2.1, unp := fun z => (((), (), (), ()), (z, ())) }
noncomputable def F85M : List (Nat × List Tr.Spec) := [(36, [F83S])]
def F85H : Hint := .leaf
noncomputable def F85V (a0 : El Y31) (a1 : El Y33) (a2 : El Y50) : Option (El Y4) := evalF (mkE tyTab mapTab pkTab [] [] F85M 18 bdTab) (codeOf Tryz.f20) Tryz.f20.results F85H F85A F85R (fun y => y.2.1) (a0, a1, a2, ())
theorem F85_eq (a0 : El Y31) (a1 : El Y33) (a2 : El Y50) : F85V a0 a1 a2 = F85 a0 a1 a2 := by kernel_rfl
theorem F85_ok : FnOK Tryz.prog 20 F85S := fnOK_of (m := F85M) (fn := Tryz.f20) (hint := F85H) (pack := fun y => y.2.1) hmix tab_ok ⟨⟨F83_ok, trivial⟩, trivial⟩ fun x z h => (F85_eq x.1 x.2.1 x.2.2.1).trans h
noncomputable def F98 : (El Y33) → Option (El Y33) := fun a0 =>
 some (a0.1, a0.2.1, a0.2.2.1, a0.2.2.2.1, a0.2.2.2.2.1, a0.2.2.2.2.2.1, false, false, (0 : Int), a0.2.2.2.2.2.2.2.2.2)
abbrev F98A : Pats := (.cons (.pd Y33) .nil)
abbrev F98R : Pats := (.cons (.pd Y33) .nil)
noncomputable def F98S : Tr.Spec := { args := F98A, res := F98R, fns := [], α := El Y33, f := fun x => F98 x.1, unp := fun z => (((), ()), (z, ())) }
noncomputable def F98M : List (Nat × List Tr.Spec) := []
def F98H : Hint := .leaf
noncomputable def F98V (a0 : El Y33) : Option (El Y33) := evalF (mkE tyTab mapTab pkTab [] [] F98M 7 bdTab) (codeOf Tryz.f21) Tryz.f21.results F98H F98A F98R (fun y => y.2.1) (a0, ())
theorem F98_eq (a0 : El Y33) : F98V a0 = F98 a0 := by kernel_rfl
theorem F98_ok : FnOK Tryz.prog 21 F98S := fnOK_of (m := F98M) (fn := Tryz.f21) (hint := F98H) (pack := fun y => y.2.1) hmix tab_ok trivial fun x z h => (F98_eq x.1).trans h
noncomputable def F29 : (El Y31) → (El Y33) → (El Y50) → Option (El Y4) := fun a0 a1 a2 =>
 Option.bind
 (Option.bind (F34 a0) fun x0 =>
 bif !x0 then some true
 else
 bif decide ((20 : Int) < (↑(List.length a2.1) : Int)) then some true
 else Option.bind (F84 a0 a1) fun x1 => some !decide (x1 = (0 : Int)))
 fun x2 =>
 bif x2 then Option.bind F33 fun x3 => some x3
 else
 Option.bind (F7 a0 a1) fun x4 =>
 Option.bind
 (bif !decide (x4.2 = (0 : Int)) then some true
 else Option.bind (F34 x4.1) fun x5 => bif !x5 then some true else Option.bind (F63 x4.1) fun x6 => some !x6)
 fun x7 =>
 bif x7 then some false
 else
 Option.bind
 (Option.bind (F85 a0 a1 a2) fun x8 =>
 Option.bind (F98 a1) fun x9 =>
 Option.bind (F85 x4.1 x9 a2) fun x10 => bif x8 == x10 then Option.bind F33 fun x11 => some x11 else some false)
 fun x12 => some x12
abbrev F29A : Pats := (.cons (.pd Y31) (.cons (.pd Y33) (.cons (.pd Y50) .nil)))
abbrev F29R : Pats := (.cons (.pd Y4) .nil)
noncomputable def F29S : Tr.Spec := { args := F29A, res := F29R, fns := [], α := El Y4, f := fun x => F29 x.1 x.2.1 x.2.2.1, unp := fun z => (((), (), (), ()), (z, ())) }
noncomputable def F29M : List (Nat × List Tr.Spec) := [(8, [F34S]), (9, [F33S]), (10, [F7S]), (11, [F84S]), (19, [F63S]), (20, [F85S]), (21, [F98S])]
def F29H : Hint := (.seq .leaf (.seq (.seq (.reg [(23, Y4)]) .leaf) (.seq .leaf (.seq (.seq (.reg [(42, Y4)]) .leaf) (.seq (.reg [(6, Y4)]) .leaf)))))
noncomputable def F29V (a0 : El Y31) (a1 : El Y33) (a2 : El Y50) : Option (El Y4) := evalF (mkE tyTab mapTab pkTab [] [] F29M 56 bdTab) (codeOf Tryz.f5) Tryz.f5.results F29H F29A F29R (fun y => y.2.1) (a0, a1, a2, ())
theorem F29_eq (a0 : El Y31) (a1 : El Y33) (a2 : El Y50) : F29V a0 a1 a2 = F29 a0 a1 a2 := by kernel_rfl
theorem F29_ok : FnOK Tryz.prog 5 F29S := fnOK_of (m := F29M) (fn := Tryz.f5) (hint := F29H) (pack := fun y => y.2.1) hmix tab_ok ⟨⟨F34_ok, trivial⟩, ⟨F33_ok, trivial⟩, ⟨F7_ok, trivial⟩, ⟨F84_ok, trivial⟩, ⟨F63_ok, trivial⟩, ⟨F85_ok, trivial⟩, ⟨F98_ok, trivial⟩, trivial⟩ fun x z h => (F29_eq x.1 x.2.1 x.2.2.1).trans h
noncomputable def F32 : (El Y31) → (El Y33) → Option (El Y4) := fun a0 a1 =>
 Option.bind (Option.bind (F34 a0) fun x0 => bif !x0 then some true else Option.bind (F84 a0 a1) fun x1 => some !decide (x1 = (0 : Int))) fun x2 =>
 bif x2 then Option.bind F33 fun x3 => some x3
 else
 Option.bind (F7 a0 a1) fun x4 =>
 Option.bind (F7 x4.1 a1) fun x5 =>
 Option.bind (F98 a1) fun x6 =>
 Option.bind (F7 a0 x6) fun x7 =>
 Option.bind
 (bif decide (x4.2 = (0 : Int)) then
 bif decide (x5.2 = (0 : Int)) then
 bif decide (x7.2 = (0 : Int)) then
 Option.bind (F57 x4.1 x5.1) fun x8 =>
 bif x8 then Option.bind (F57 a0 x7.1) fun x9 => bif x9 then Option.bind F33 fun x10 => some x10 else some false
 else some false
 else some false
 else some false
 else some false)
 fun x11 => some x11
abbrev F32A : Pats := (.cons (.pd Y31) (.cons (.pd Y33) .nil))
abbrev F32R : Pats := (.cons (.pd Y4) .nil)
noncomputable def F32S : Tr.Spec := { args := F32A, res := F32R, fns := [], α := El Y4, f := fun x => F32 x.1 x.2.1, unp := fun z => (((), (), ()), (z, ())) }
noncomputable def F32M : List (Nat × List Tr.Spec) := [(8, [F34S]), (9, [F33S]), (10, [F7S]), (11, [F84S]), (12, [F57S]), (21, [F98S])]
def F32H : Hint := (.seq .leaf (.seq (.seq (.reg [(19, Y4)]) .leaf) (.seq .leaf (.seq .leaf (.seq .leaf (.seq (.reg [(4, Y4)]) .leaf))))))
noncomputable def F32V (a0 : El Y31) (a1 : El Y33) : Option (El Y4) := evalF (mkE tyTab mapTab pkTab [] [] F32M 63 bdTab) (codeOf Tryz.f6) Tryz.f6.results F32H F32A F32R (fun y => y.2.1) (a0, a1, ())
theorem F32_eq (a0 : El Y31) (a1 : El Y33) : F32V a0 a1 = F32 a0 a1 := by kernel_rfl
theorem F32_ok : FnOK Tryz.prog 6 F32S := fnOK_of (m := F32M) (fn := Tryz.f6) (hint := F32H) (pack := fun y => y.2.1) hmix tab_ok ⟨⟨F34_ok, trivial⟩, ⟨F33_ok, trivial⟩, ⟨F7_ok, trivial⟩, ⟨F84_ok, trivial⟩, ⟨F57_ok, trivial⟩, ⟨F98_ok, trivial⟩, trivial⟩ fun x z h => (F32_eq x.1 x.2.1).trans h
noncomputable def F104 : (El Y43) → (El Y43) → Option (El Y4) := fun a0 a1 =>
 Option.bind
 (Tr.run
 (fun s0 =>
 bif decide (s0.2 < (↑(List.length a0) : Int)) then
 Option.bind
 (Tr.run
 (fun s1 =>
 Option.bind
 (bif decide (s1 < (↑(List.length a1) : Int)) then Option.bind (idx a1 s1) fun x2 => Option.bind (idx a0 s0.2) fun x3 => some !decide (x2 = x3)
 else some false)
 fun x4 => bif x4 then some (.inl (IntKind.wrap .i64 (s1 + (1 : Int)))) else some (.inr s1))
 s0.1)
 fun x5 =>
 bif decide (x5 = (↑(List.length a1) : Int)) then some (.inr (.inr false)) else some (.inl (x5, IntKind.wrap .i64 (s0.2 + (1 : Int))))
 else some (.inr (.inl ())))
 ((0 : Int), (0 : Int)))
 fun x6 => Sum.elim (fun _ => some true) (fun y8 => some y8) x6
abbrev F104A : Pats := (.cons (.pd Y43) (.cons (.pd Y43) .nil))
abbrev F104R : Pats := (.cons (.pd Y4) .nil)
noncomputable def F104S : Tr.Spec := { args := F104A, res := F104R, fns := [], α := El Y4, f := fun x => F104 x.1 x.2.1, unp := fun z => (((), (), ()), (z, ())) }
noncomputable def F104M : List (Nat × List Tr.Spec) := []
def F104H : Hint := (.seq .leaf (.seq .leaf (.seq (.seq .leaf (.lp ⟨[(5, (.pd Y3)), (6, (.pd Y3))], [], [0, 1], []⟩ [((.exit 0), ⟨[], [], [], []⟩), (.ret, ⟨[(4, (.pd Y4))], [], [], []⟩)] (.seq .leaf (.seq (.seq (.lp ⟨[(5, (.pd Y3))], [], [0, 1, 6], []⟩ [((.exit 2), ⟨[(5, (.pd Y3))], [], [0, 1, 6], []⟩)] (.seq (.seq (.reg [(27, Y4)]) .leaf) .leaf)) .leaf) .leaf)))) .leaf)))
noncomputable def F104V (a0 : El Y43) (a1 : El Y43) : Option (El Y4) := evalF (mkE tyTab mapTab pkTab [] [] F104M 34 bdTab) (codeOf Tryz.f22) Tryz.f22.results F104H F104A F104R (fun y => y.2.1) (a0, a1, ())
theorem F104_eq (a0 : El Y43) (a1 : El Y43) : F104V a0 a1 = F104 a0 a1 := by kernel_rfl
theorem F104_ok : FnOK Tryz.prog 22 F104S := fnOK_of (m := F104M) (fn := Tryz.f22) (hint := F104H) (pack := fun y => y.2.1) hmix tab_ok trivial fun x z h => (F104_eq x.1 x.2.1).trans h
noncomputable def F31 : (El Y31) → (El Y33) → Option (El Y4) := fun a0 a1 =>
 Option.bind (Option.bind (F34 a0) fun x0 => bif !x0 then some true else Option.bind (F84 a0 a1) fun x1 => some !decide (x1 = (0 : Int))) fun x2 =>
 bif x2 then Option.bind F33 fun x3 => some x3
 else
 Option.bind (F8 a0 a1) fun x4 =>
 Option.bind (F9 a0 a1) fun x5 =>
 Option.bind (F98 a1) fun x6 =>
 Option.bind
 (Tr.run
 (fun s7 =>
 bif
 decide
 (s7 <
 (↑(List.length
 [(a1.1, a1.2.1, a1.2.2.1, a1.2.2.2.1, a1.2.2.2.2.1, a1.2.2.2.2.2.1, false, a1.2.2.2.2.2.2.2),
 (a1.1, a1.2.1, a1.2.2.1, a1.2.2.2.1, a1.2.2.2.2.1, a1.2.2.2.2.2.1, a1.2.2.2.2.2.2.1, false,
 a1.2.2.2.2.2.2.2.2),
 (a1.1, a1.2.1, a1.2.2.1, a1.2.2.2.1, a1.2.2.2.2.1, a1.2.2.2.2.2.1, a1.2.2.2.2.2.2.1,
 a1.2.2.2.2.2.2.2.1, (0 : Int), a1.2.2.2.2.2.2.2.2.2),
 x6]) :
 Int)) then
 Option.bind
 (inb s7
 (List.length
 [(a1.1, a1.2.1, a1.2.2.1, a1.2.2.2.1, a1.2.2.2.2.1, a1.2.2.2.2.2.1, false, a1.2.2.2.2.2.2.2),
 (a1.1, a1.2.1, a1.2.2.1, a1.2.2.2.1, a1.2.2.2.2.1, a1.2.2.2.2.2.1, a1.2.2.2.2.2.2.1, false,
 a1.2.2.2.2.2.2.2.2),
 (a1.1, a1.2.1, a1.2.2.1, a1.2.2.2.1, a1.2.2.2.2.1, a1.2.2.2.2.2.1, a1.2.2.2.2.2.2.1,
 a1.2.2.2.2.2.2.2.1, (0 : Int), a1.2.2.2.2.2.2.2.2.2),
 x6]))
 fun x8 =>
 Option.bind
 [(a1.1, a1.2.1, a1.2.2.1, a1.2.2.2.1, a1.2.2.2.2.1, a1.2.2.2.2.2.1, false, a1.2.2.2.2.2.2.2),
 (a1.1, a1.2.1, a1.2.2.1, a1.2.2.2.1, a1.2.2.2.2.1, a1.2.2.2.2.2.1, a1.2.2.2.2.2.2.1, false,
 a1.2.2.2.2.2.2.2.2),
 (a1.1, a1.2.1, a1.2.2.1, a1.2.2.2.1, a1.2.2.2.2.1, a1.2.2.2.2.2.1, a1.2.2.2.2.2.2.1,
 a1.2.2.2.2.2.2.2.1, (0 : Int), a1.2.2.2.2.2.2.2.2.2),
 x6][x8]?
 fun x9 =>
 Option.bind (F8 a0 x9) fun x10 =>
 Option.bind (F9 a0 x9) fun x11 =>
 Option.bind
 (bif !decide (x4.2 = (0 : Int)) then some true
 else
 bif !decide (x5.2 = (0 : Int)) then some true
 else
 bif !decide (x10.2 = (0 : Int)) then some true
 else
 bif !decide (x11.2 = (0 : Int)) then some true
 else
 Option.bind (F104 x4.1 x10.1) fun x12 =>
 bif !x12 then some true else Option.bind (F104 x5.1 x11.1) fun x13 => some !x13)
 fun x14 => bif x14 then some (.inr (.inr false)) else some (.inl (IntKind.wrap .i64 (s7 + (1 : Int))))
 else some (.inr (.inl ())))
 (0 : Int))
 fun x15 => Sum.elim (fun _ => Option.bind F33 fun x17 => some x17) (fun y18 => some y18) x15
abbrev F31A : Pats := (.cons (.pd Y31) (.cons (.pd Y33) .nil))
abbrev F31R : Pats := (.cons (.pd Y4) .nil)
noncomputable def F31S : Tr.Spec := { args := F31A, res := F31R, fns := [], α := El Y4, f := fun x => F31 x.1 x.2.1, unp := fun z => (((), (), ()), (z, ())) }
noncomputable def F31M : List (Nat × List Tr.Spec) := [(8, [F34S]), (9, [F33S]), (11, [F84S]), (14, [F8S]), (15, [F9S]), (21, [F98S]), (22, [F104S])]
def F31H : Hint := (.seq .leaf (.seq (.seq (.reg [(26, Y4)]) .leaf) (.seq .leaf (.seq .leaf (.seq .leaf (.seq .leaf (.seq (.seq .leaf (.lp ⟨[(53, (.pd Y3))], [], [2, 8, 9, 10, 11, 51, 52], []⟩ [((.exit 0), ⟨[], [], [], []⟩), (.ret, ⟨[(4, (.pd Y4))], [], [], []⟩)] (.seq .leaf (.seq .leaf (.seq (.seq .leaf (.seq .leaf (.seq .leaf (.seq (.reg [(94, Y4)]) .leaf)))) .leaf))))) .leaf)))))))
noncomputable def F31V (a0 : El Y31) (a1 : El Y33) : Option (El Y4) := evalF (mkE tyTab mapTab pkTab [] [] F31M 97 bdTab) (codeOf Tryz.f7) Tryz.f7.results F31H F31A F31R (fun y => y.2.1) (a0, a1, ())
theorem F31_eq (a0 : El Y31) (a1 : El Y33) : F31V a0 a1 = F31 a0 a1 := by kernel_rfl
theorem F31_ok : FnOK Tryz.prog 7 F31S := fnOK_of (m := F31M) (fn := Tryz.f7) (hint := F31H) (pack := fun y => y.2.1) hmix tab_ok ⟨⟨F34_ok, trivial⟩, ⟨F33_ok, trivial⟩, ⟨F84_ok, trivial⟩, ⟨F8_ok, trivial⟩, ⟨F9_ok, trivial⟩, ⟨F98_ok, trivial⟩, ⟨F104_ok, trivial⟩, trivial⟩ fun x z h => (F31_eq x.1 x.2.1).trans h
end Q
