/- The functions of the program as functions of Lean, and that the program computes them; printed by a program of mine. Conditions: none. -/
import Derived.Test.YtaeildkdonhmiaaGreatDoorFin27a
open Tr Go Go.Proofs
namespace Q
noncomputable def F64 : (El Y26) → (El Y3) → (El Y4) → Option (El Y157) := fun a0 a1 a2 =>
 Option.bind
 (Tr.run
 (fun s0 =>
 bif decide (s0.2 < a1) then
 Option.bind
 (Tr.run
 (fun s1 =>
 bif decide (s1.2.2 < a1) then
 Option.bind (guardB (decide (List.length s1.2.1 + List.length [(1099511627776 : Int)] ≤ maxApp))) fun _ =>
 some (.inl (s1.1, s1.2.1 ++ [(1099511627776 : Int)], IntKind.wrap .i64 (s1.2.2 + (1 : Int))))
 else some (.inr (s1.1, s1.2.1)))
 (s0.1, [], (0 : Int)))
 fun x3 =>
 Option.bind (guardB (decide (List.length x3.1 + List.length [x3.2] ≤ maxApp))) fun _ =>
 some (.inl (x3.1 ++ [x3.2], IntKind.wrap .i64 (s0.2 + (1 : Int))))
 else some (.inr s0.1))
 ([], (0 : Int)))
 fun x5 =>
 Option.bind
 (Tr.run
 (fun s6 =>
 bif decide (s6.2 < (↑(List.length a0) : Int)) then
 Option.bind (idx a0 s6.2) fun x7 =>
 Option.bind (bif x7.2.2.2.1 then some true else some !a2) fun x8 =>
 bif x8 then
 Option.bind (inb x7.1 (List.length s6.1)) fun x9 =>
 Option.bind s6.1[x9]? fun _ =>
 Option.bind (inb x7.1 (List.length s6.1)) fun x11 =>
 Option.bind s6.1[x11]? fun _ =>
 Option.bind (idx s6.1 (↑x11 : Int)) fun x13 =>
 Option.bind (inb x7.2.1 (List.length x13)) fun x14 =>
 Option.bind (idx s6.1 (↑x11 : Int)) fun x15 =>
 Option.bind x15[x14]? fun x16 =>
 Option.bind (idx s6.1 (↑x9 : Int)) fun x17 =>
 Option.bind (inb x7.2.1 (List.length x17)) fun x18 =>
 Option.bind (idx s6.1 (↑x9 : Int)) fun x19 =>
 Option.bind x19[x18]? fun _ =>
 some
 (.inl (List.set s6.1 (Int.toNat (↑x9 : Int)) (List.set x19 x18 (Tr.imin x16 x7.2.2.1)), IntKind.wrap .i64 (s6.2 + (1 : Int))))
 else some (.inl (s6.1, IntKind.wrap .i64 (s6.2 + (1 : Int))))
 else some (.inr s6.1))
 (x5, (0 : Int)))
 fun x21 =>
 Option.bind
 (Tr.run
 (fun s22 =>
 bif decide (s22.2 < a1) then
 Option.bind
 (Tr.run
 (fun s23 =>
 bif decide (s23.2 < a1) then
 Option.bind
 (Tr.run
 (fun s24 =>
 bif decide (s24.2 < a1) then
 Option.bind (inb s23.2 (List.length s24.1)) fun x25 =>
 Option.bind s24.1[x25]? fun _ =>
 Option.bind (inb s23.2 (List.length s24.1)) fun x27 =>
 Option.bind s24.1[x27]? fun _ =>
 Option.bind (idx s24.1 (↑x27 : Int)) fun x29 =>
 Option.bind (inb s24.2 (List.length x29)) fun x30 =>
 Option.bind (idx s24.1 (↑x27 : Int)) fun x31 =>
 Option.bind x31[x30]? fun x32 =>
 Option.bind (inb s23.2 (List.length s24.1)) fun x33 =>
 Option.bind s24.1[x33]? fun _ =>
 Option.bind (idx s24.1 (↑x33 : Int)) fun x35 =>
 Option.bind (inb s22.2 (List.length x35)) fun x36 =>
 Option.bind (idx s24.1 (↑x33 : Int)) fun x37 =>
 Option.bind x37[x36]? fun x38 =>
 Option.bind (inb s22.2 (List.length s24.1)) fun x39 =>
 Option.bind s24.1[x39]? fun _ =>
 Option.bind (idx s24.1 (↑x39 : Int)) fun x41 =>
 Option.bind (inb s24.2 (List.length x41)) fun x42 =>
 Option.bind (idx s24.1 (↑x39 : Int)) fun x43 =>
 Option.bind x43[x42]? fun x44 =>
 Option.bind (idx s24.1 (↑x25 : Int)) fun x45 =>
 Option.bind (inb s24.2 (List.length x45)) fun x46 =>
 Option.bind (idx s24.1 (↑x25 : Int)) fun x47 =>
 Option.bind x47[x46]? fun _ =>
 some
 (.inl
 (List.set s24.1 (Int.toNat (↑x25 : Int))
 (List.set x47 x46 (Tr.imin x32 (IntKind.wrap .i64 (x38 + x44)))),
 IntKind.wrap .i64 (s24.2 + (1 : Int))))
 else some (.inr s24.1))
 (s23.1, (0 : Int)))
 fun x49 => some (.inl (x49, IntKind.wrap .i64 (s23.2 + (1 : Int))))
 else some (.inr s23.1))
 (s22.1, (0 : Int)))
 fun x50 => some (.inl (x50, IntKind.wrap .i64 (s22.2 + (1 : Int))))
 else some (.inr s22.1))
 (x21, (0 : Int)))
 fun x51 => some x51
abbrev F64A : Pats := (.cons (.pd Y26) (.cons (.pd Y3) (.cons (.pd Y4) .nil)))
abbrev F64R : Pats := (.cons (.pd Y157) .nil)
noncomputable def F64S : Tr.Spec := { args := F64A, res := F64R, fns := [], α := El Y157, f := fun x => F64 x.1 x.2.1 x.2.2.1, unp := fun z => (((), (), (), ()), (z, ())) }
noncomputable def F64M : List (Nat × List Tr.Spec) := []
def F64H : Hint := (.seq .leaf (.seq .leaf (.seq (.seq .leaf (.lp ⟨[(7, (.rows Y3 false)), (8, (.pd Y3))], [], [0, 1, 2], []⟩ [((.exit 0), ⟨[(7, (.rows Y3 false))], [], [0, 1, 2], []⟩)] (.seq .leaf (.seq (.seq .leaf (.seq (.seq .leaf (.lp ⟨[(7, (.rows Y3 false)), (9, (.own Y3 false)), (10, (.pd Y3))], [], [0, 1, 2, 8], []⟩ [((.exit 2), ⟨[(7, (.rows Y3 false)), (9, (.own Y3 false))], [], [0, 1, 2, 8], []⟩)] .leaf)) .leaf)) .leaf)))) (.seq (.seq .leaf (.lp ⟨[(7, (.rows Y3 false)), (11, (.pd Y3))], [], [0, 1, 2], []⟩ [((.exit 4), ⟨[(7, (.rows Y3 false))], [], [1], []⟩)] (.seq .leaf (.seq (.seq .leaf (.seq (.reg [(50, Y4)]) .leaf)) .leaf)))) (.seq (.seq .leaf (.lp ⟨[(7, (.rows Y3 false)), (13, (.pd Y3))], [], [1], []⟩ [((.exit 6), ⟨[(7, (.rows Y3 false))], [], [], []⟩)] (.seq .leaf (.seq (.seq .leaf (.lp ⟨[(7, (.rows Y3 false)), (14, (.pd Y3))], [], [1, 13], []⟩ [((.exit 8), ⟨[(7, (.rows Y3 false))], [], [1, 13], []⟩)] (.seq .leaf (.seq (.seq .leaf (.lp ⟨[(7, (.rows Y3 false)), (15, (.pd Y3))], [], [1, 13, 14], []⟩ [((.exit 10), ⟨[(7, (.rows Y3 false))], [], [1, 13, 14], []⟩)] .leaf)) .leaf)))) .leaf)))) .leaf)))))
noncomputable def F64V (a0 : El Y26) (a1 : El Y3) (a2 : El Y4) : Option (El Y157) := evalF (mkE tyTab mapTab pkTab [157] [] F64M 116 bdTab) (codeOf Tryz.f100) Tryz.f100.results F64H F64A F64R (fun y => y.2.1) (a0, a1, a2, ())
theorem F64_eq (a0 : El Y26) (a1 : El Y3) (a2 : El Y4) : F64V a0 a1 a2 = F64 a0 a1 a2 := by kernel_rfl
theorem F64_ok : FnOK Tryz.prog 100 F64S := fnOK_of (m := F64M) (fn := Tryz.f100) (hint := F64H) (pack := fun y => y.2.1) hmix tab_ok trivial fun x z h => (F64_eq x.1 x.2.1 x.2.2.1).trans h
noncomputable def F62 : (El Y26) → (El Y3) → Option (El Y26) := fun a0 a1 =>
 Option.bind (F64 a0 a1 false) fun x0 =>
 Option.bind (F64 a0 a1 true) fun x1 =>
 Option.bind
 (Tr.run
 (fun s2 =>
 bif decide (s2.2 < a1) then
 Option.bind
 (Tr.run
 (fun s3 =>
 bif decide (s3.2 < a1) then
 Option.bind
 (bif decide (s2.2 = s3.2) then some true
 else Option.bind (idx x0 s2.2) fun x4 => Option.bind (idx x4 s3.2) fun x5 => some (decide ((14400 : Int) < x5)))
 fun x6 =>
 bif x6 then some (.inl (s3.1, IntKind.wrap .i64 (s3.2 + (1 : Int))))
 else
 Option.bind (idx x0 s2.2) fun x7 =>
 Option.bind (idx x7 s3.2) fun x8 =>
 Option.bind (idx x1 s2.2) fun x9 =>
 Option.bind (idx x9 s3.2) fun x10 =>
 Option.bind (idx x0 s2.2) fun x11 =>
 Option.bind (idx x11 s3.2) fun x12 =>
 Option.bind (guardB (decide (List.length s3.1 + List.length [(s2.2, s3.2, x8, decide (x10 = x12), ())] ≤ maxApp))) fun _ =>
 Option.bind
 (Option.bind (idx x1 s2.2) fun x14 =>
 Option.bind (idx x14 s3.2) fun x15 =>
 Option.bind (idx x0 s2.2) fun x16 =>
 Option.bind (idx x16 s3.2) fun x17 =>
 bif decide (x17 < x15) then
 Option.bind (idx x1 s2.2) fun x18 => Option.bind (idx x18 s3.2) fun x19 => some (decide (x19 ≤ (14400 : Int)))
 else some false)
 fun x20 =>
 bif x20 then
 Option.bind (idx x1 s2.2) fun x21 =>
 Option.bind (idx x21 s3.2) fun x22 =>
 Option.bind
 (guardB
 (decide
 (List.length (s3.1 ++ [(s2.2, s3.2, x8, decide (x10 = x12), ())]) + List.length [(s2.2, s3.2, x22, true, ())] ≤
 maxApp)))
 fun _ =>
 some
 (.inl
 (s3.1 ++ [(s2.2, s3.2, x8, decide (x10 = x12), ())] ++ [(s2.2, s3.2, x22, true, ())],
 IntKind.wrap .i64 (s3.2 + (1 : Int))))
 else some (.inl (s3.1 ++ [(s2.2, s3.2, x8, decide (x10 = x12), ())], IntKind.wrap .i64 (s3.2 + (1 : Int))))
 else some (.inr s3.1))
 (s2.1, (0 : Int)))
 fun x24 => some (.inl (x24, IntKind.wrap .i64 (s2.2 + (1 : Int))))
 else some (.inr s2.1))
 ([], (0 : Int)))
 fun x25 => some x25
abbrev F62A : Pats := (.cons (.pd Y26) (.cons (.pd Y3) .nil))
abbrev F62R : Pats := (.cons (.pd Y26) .nil)
noncomputable def F62S : Tr.Spec := { args := F62A, res := F62R, fns := [], α := El Y26, f := fun x => F62 x.1 x.2.1, unp := fun z => (((), (), ()), (z, ())) }
noncomputable def F62M : List (Nat × List Tr.Spec) := [(100, [F64S])]
def F62H : Hint := (.seq .leaf (.seq .leaf (.seq .leaf (.seq (.seq .leaf (.lp ⟨[(7, (.own Y124 false)), (8, (.pd Y3))], [], [1, 5, 6], []⟩ [((.exit 0), ⟨[(7, (.own Y124 false))], [], [], []⟩)] (.seq .leaf (.seq (.seq .leaf (.lp ⟨[(7, (.own Y124 false)), (9, (.pd Y3))], [], [1, 5, 6, 8], []⟩ [((.exit 2), ⟨[(7, (.own Y124 false))], [], [1, 5, 6, 8], []⟩)] (.seq .leaf (.seq (.seq (.seq (.reg [(39, Y4)]) .leaf) (.seq .leaf (.seq (.reg [(92, Y4)]) .leaf))) .leaf)))) .leaf)))) .leaf))))
noncomputable def F62V (a0 : El Y26) (a1 : El Y3) : Option (El Y26) := evalF (mkE tyTab mapTab pkTab [] [] F62M 107 bdTab) (codeOf Tryz.f78) Tryz.f78.results F62H F62A F62R (fun y => y.2.1) (a0, a1, ())
theorem F62_eq (a0 : El Y26) (a1 : El Y3) : F62V a0 a1 = F62 a0 a1 := by kernel_rfl
theorem F62_ok : FnOK Tryz.prog 78 F62S := fnOK_of (m := F62M) (fn := Tryz.f78) (hint := F62H) (pack := fun y => y.2.1) hmix tab_ok ⟨⟨F64_ok, trivial⟩, trivial⟩ fun x z h => (F62_eq x.1 x.2.1).trans h
noncomputable def F70 : (El Y31) → Option (El Y3 × El Y37) := fun a0 =>
 Option.bind
 (Tr.run
 (fun s0 =>
 bif decide (s0 < (↑(List.length a0.2.2.2.2.1) : Int)) then
 Option.bind (idx a0.2.2.2.2.1 s0) fun x1 =>
 Option.bind
 (Option.bind (F67 x1.1 (0 : Int) (IntKind.wrap .i64 ((↑(List.length a0.1) : Int) - (1 : Int)))) fun x2 =>
 bif !x2 then some true
 else
 Option.bind (F67 x1.2.1 (0 : Int) (IntKind.wrap .i64 ((↑(List.length a0.1) : Int) - (1 : Int)))) fun x3 =>
 bif !x3 then some true else some (decide (x1.1 = x1.2.1)))
 fun x4 =>
 bif x4 then some (.inr (.inr (s0, (9 : Int))))
 else
 Option.bind (F67 x1.2.2.1 (1 : Int) (14400 : Int)) fun x5 =>
 bif !x5 then some (.inr (.inr (s0, (2 : Int))))
 else
 Option.bind
 (Tr.run
 (fun s6 =>
 bif decide (s6 < s0) then
 Option.bind (idx a0.2.2.2.2.1 s6) fun x7 =>
 Option.bind
 (bif decide (x7.1 = x1.1) then
 bif decide (x7.2.1 = x1.2.1) then some (x7.2.2.2.1 == x1.2.2.2.1) else some false
 else some false)
 fun x8 => bif x8 then some (.inr (.inr (s0, (6 : Int)))) else some (.inl (IntKind.wrap .i64 (s6 + (1 : Int))))
 else some (.inr (.inl ())))
 (0 : Int))
 fun x9 => Sum.elim (fun _ => some (.inl (IntKind.wrap .i64 (s0 + (1 : Int))))) (fun y11 => some (.inr (.inr (y11.1, y11.2)))) x9
 else some (.inr (.inl ())))
 (0 : Int))
 fun x12 =>
 Sum.elim
 (fun _ =>
 Option.bind (F62 a0.2.2.2.2.1 (↑(List.length a0.1) : Int)) fun x14 =>
 bif !decide ((↑(List.length x14) : Int) = (↑(List.length a0.2.2.2.2.1) : Int)) then some ((0 : Int), (18 : Int))
 else
 Option.bind
 (Tr.run
 (fun s15 =>
 bif decide (s15 < (↑(List.length x14) : Int)) then
 Option.bind (idx x14 s15) fun x16 =>
 Option.bind (idx a0.2.2.2.2.1 s15) fun x17 =>
 bif
 !(decide (x16.1 = x17.1) &&
 (decide (x16.2.1 = x17.2.1) && (decide (x16.2.2.1 = x17.2.2.1) && x16.2.2.2.1 == x17.2.2.2.1))) then
 some (.inr (.inr ((0 : Int), (18 : Int))))
 else some (.inl (IntKind.wrap .i64 (s15 + (1 : Int))))
 else some (.inr (.inl ())))
 (0 : Int))
 fun x18 => Sum.elim (fun _ => some ((0 : Int), (0 : Int))) (fun y20 => some (y20.1, y20.2)) x18)
 (fun y21 => some (y21.1, y21.2)) x12
abbrev F70A : Pats := (.cons (.pd Y31) .nil)
abbrev F70R : Pats := (.cons (.pd Y3) (.cons (.pd Y37) .nil))
noncomputable def F70S : Tr.Spec := { args := F70A, res := F70R, fns := [], α := El Y3 × El Y37, f := fun x => F70 x.1, unp := fun z => (((), ()), (z.1, z.2, ())) }
noncomputable def F70M : List (Nat × List Tr.Spec) := [(75, [F67S]), (78, [F62S])]
def F70H : Hint := (.seq .leaf (.seq (.seq .leaf (.lp ⟨[(4, (.pd Y3))], [], [1], []⟩ [((.exit 0), ⟨[], [], [1], []⟩), (.ret, ⟨[(2, (.pd Y3)), (3, (.pd Y37))], [], [], []⟩)] (.seq .leaf (.seq (.seq .leaf (.seq (.seq (.reg [(46, Y4)]) .leaf) (.seq .leaf (.seq .leaf (.lp ⟨[(6, (.pd Y3))], [], [1, 4, 5], []⟩ [((.exit 2), ⟨[], [], [1, 4], []⟩), (.ret, ⟨[(2, (.pd Y3)), (3, (.pd Y37))], [], [], []⟩)] (.seq .leaf (.seq (.seq .leaf (.seq (.reg [(81, Y4)]) .leaf)) .leaf))))))) .leaf)))) (.seq .leaf (.seq .leaf (.seq (.seq .leaf (.lp ⟨[(9, (.pd Y3))], [], [1, 8], []⟩ [((.exit 4), ⟨[], [], [], []⟩), (.ret, ⟨[(2, (.pd Y3)), (3, (.pd Y37))], [], [], []⟩)] .leaf)) .leaf)))))
noncomputable def F70V (a0 : El Y31) : Option (El Y3 × El Y37) := evalF (mkE tyTab mapTab pkTab [] [] F70M 111 bdTab) (codeOf Tryz.f59) Tryz.f59.results F70H F70A F70R (fun y => (y.2.1, y.2.2.1)) (a0, ())
theorem F70_eq (a0 : El Y31) : F70V a0 = F70 a0 := by kernel_rfl
theorem F70_ok : FnOK Tryz.prog 59 F70S := fnOK_of (m := F70M) (fn := Tryz.f59) (hint := F70H) (pack := fun y => (y.2.1, y.2.2.1)) hmix tab_ok ⟨⟨F67_ok, trivial⟩, ⟨F62_ok, trivial⟩, trivial⟩ fun x z h => (F70_eq x.1).trans h
noncomputable def F63 : (El Y29) → Option (El Y3 × El Y37) := fun a0 =>
 Option.bind
 (Option.bind (F67 a0.2.1 (0 : Int) (1000000 : Int)) fun x0 =>
 bif !x0 then some true
 else
 Option.bind (F67 a0.2.2.1 (0 : Int) (86400 : Int)) fun x1 =>
 bif !x1 then some true else Option.bind (F67 a0.2.2.2.1 (0 : Int) (1000000 : Int)) fun x2 => some !x2)
 fun x3 =>
 bif x3 then some ((-1 : Int), (2 : Int))
 else
 bif decide ((16 : Int) < (↑(List.length a0.1) : Int)) then some ((0 : Int), (5 : Int))
 else
 Option.bind
 (Tr.run
 (fun s4 =>
 bif decide (s4 < (↑(List.length a0.1) : Int)) then
 Option.bind (idx a0.1 s4) fun x5 =>
 Option.bind (F66 x5.1) fun x6 =>
 bif !x6 then some (.inr (.inr (s4, (12 : Int))))
 else
 Option.bind
 (Tr.run
 (fun s7 =>
 bif decide (s7 < s4) then
 Option.bind (idx a0.1 s7) fun x8 =>
 bif decide (x8.1 = x5.1) then some (.inr (.inr (s4, (6 : Int)))) else some (.inl (IntKind.wrap .i64 (s7 + (1 : Int))))
 else some (.inr (.inl ())))
 (0 : Int))
 fun x9 =>
 Sum.elim
 (fun _ =>
 Option.bind
 (Option.bind (F67 x5.2.1 (0 : Int) (1000000 : Int)) fun x11 =>
 bif !x11 then some true
 else
 Option.bind (F67 x5.2.2.1 (1 : Int) (8 : Int)) fun x12 =>
 bif !x12 then some true
 else
 Option.bind (F67 x5.2.2.2.1 (1 : Int) (16 : Int)) fun x13 =>
 bif !x13 then some true
 else
 Option.bind (F67 x5.2.2.2.2.1 (0 : Int) (86400 : Int)) fun x14 =>
 bif !x14 then some true else Option.bind (F67 x5.2.2.2.2.2.1 (1 : Int) (255 : Int)) fun x15 => some !x15)
 fun x16 => bif x16 then some (.inr (.inr (s4, (2 : Int)))) else some (.inl (IntKind.wrap .i64 (s4 + (1 : Int)))))
 (fun y17 => some (.inr (.inr (y17.1, y17.2)))) x9
 else some (.inr (.inl ())))
 (0 : Int))
 fun x18 => Sum.elim (fun _ => some ((0 : Int), (0 : Int))) (fun y20 => some (y20.1, y20.2)) x18
abbrev F63A : Pats := (.cons (.pd Y29) .nil)
abbrev F63R : Pats := (.cons (.pd Y3) (.cons (.pd Y37) .nil))
noncomputable def F63S : Tr.Spec := { args := F63A, res := F63R, fns := [], α := El Y3 × El Y37, f := fun x => F63 x.1, unp := fun z => (((), ()), (z.1, z.2, ())) }
noncomputable def F63M : List (Nat × List Tr.Spec) := [(74, [F66S]), (75, [F67S])]
def F63H : Hint := (.seq .leaf (.seq (.seq (.reg [(22, Y4)]) .leaf) (.seq .leaf (.seq (.seq .leaf (.lp ⟨[(4, (.pd Y3))], [], [1], []⟩ [((.exit 0), ⟨[], [], [], []⟩), (.ret, ⟨[(2, (.pd Y3)), (3, (.pd Y37))], [], [], []⟩)] (.seq .leaf (.seq (.seq .leaf (.seq .leaf (.seq (.seq .leaf (.lp ⟨[(6, (.pd Y3))], [], [1, 4, 5], []⟩ [((.exit 2), ⟨[], [], [1, 4, 5], []⟩), (.ret, ⟨[(2, (.pd Y3)), (3, (.pd Y37))], [], [], []⟩)] .leaf)) (.seq (.reg [(86, Y4)]) .leaf)))) .leaf)))) .leaf))))
noncomputable def F63V (a0 : El Y29) : Option (El Y3 × El Y37) := evalF (mkE tyTab mapTab pkTab [] [] F63M 88 bdTab) (codeOf Tryz.f60) Tryz.f60.results F63H F63A F63R (fun y => (y.2.1, y.2.2.1)) (a0, ())
theorem F63_eq (a0 : El Y29) : F63V a0 = F63 a0 := by kernel_rfl
theorem F63_ok : FnOK Tryz.prog 60 F63S := fnOK_of (m := F63M) (fn := Tryz.f60) (hint := F63H) (pack := fun y => (y.2.1, y.2.2.1)) hmix tab_ok ⟨⟨F66_ok, trivial⟩, ⟨F67_ok, trivial⟩, trivial⟩ fun x z h => (F63_eq x.1).trans h
noncomputable def F61 : (El Y31) → Option (El Y3 × El Y3 × El Y37) := fun a0 =>
 Option.bind (F73 a0.1) fun x0 =>
 bif !decide (x0.2 = (0 : Int)) then some ((0 : Int), x0.1, x0.2)
 else
 Option.bind (F71 a0.2.1) fun x1 =>
 bif !decide (x1.2 = (0 : Int)) then some ((1 : Int), x1.1, x1.2)
 else
 bif decide ((1024 : Int) < (↑(List.length a0.2.2.1) : Int)) then some ((2 : Int), (0 : Int), (5 : Int))
 else
 Option.bind
 (Tr.run
 (fun s2 =>
 bif decide (s2 < (↑(List.length a0.2.2.1) : Int)) then
 Option.bind (F72 a0 s2) fun x3 =>
 bif !decide (x3 = (0 : Int)) then some (.inr (.inr ((2 : Int), s2, x3))) else some (.inl (IntKind.wrap .i64 (s2 + (1 : Int))))
 else some (.inr (.inl ())))
 (0 : Int))
 fun x4 =>
 Sum.elim
 (fun _ =>
 bif decide ((1024 : Int) < (↑(List.length a0.2.2.2.1) : Int)) then some ((3 : Int), (0 : Int), (5 : Int))
 else
 Option.bind
 (Tr.run
 (fun s6 =>
 bif decide (s6 < (↑(List.length a0.2.2.2.1) : Int)) then
 Option.bind (F69 a0 s6) fun x7 =>
 bif !decide (x7 = (0 : Int)) then some (.inr (.inr ((3 : Int), s6, x7)))
 else some (.inl (IntKind.wrap .i64 (s6 + (1 : Int))))
 else some (.inr (.inl ())))
 (0 : Int))
 fun x8 =>
 Sum.elim
 (fun _ =>
 Option.bind (F70 a0) fun x10 =>
 bif !decide (x10.2 = (0 : Int)) then some ((4 : Int), x10.1, x10.2)
 else
 Option.bind (F63 a0.2.2.2.2.2.1) fun x11 =>
 bif !decide (x11.2 = (0 : Int)) then some ((5 : Int), x11.1, x11.2) else some ((0 : Int), (0 : Int), (0 : Int)))
 (fun y12 => some (y12.1, y12.2.1, y12.2.2)) x8)
 (fun y13 => some (y13.1, y13.2.1, y13.2.2)) x4
abbrev F61A : Pats := (.cons (.pd Y31) .nil)
abbrev F61R : Pats := (.cons (.pd Y3) (.cons (.pd Y3) (.cons (.pd Y37) .nil)))
noncomputable def F61S : Tr.Spec := { args := F61A, res := F61R, fns := [], α := El Y3 × El Y3 × El Y37, f := fun x => F61 x.1, unp := fun z => (((), ()), (z.1, z.2.1, z.2.2, ())) }
noncomputable def F61M : List (Nat × List Tr.Spec) := [(55, [F73S]), (56, [F71S]), (57, [F72S]), (58, [F69S]), (59, [F70S]), (60, [F63S])]
def F61H : Hint := (.seq .leaf (.seq .leaf (.seq .leaf (.seq .leaf (.seq .leaf (.seq .leaf (.seq (.seq .leaf (.lp ⟨[(7, (.pd Y3))], [], [1], []⟩ [((.exit 0), ⟨[], [], [1], []⟩), (.ret, ⟨[(2, (.pd Y3)), (3, (.pd Y3)), (4, (.pd Y37))], [], [], []⟩)] .leaf)) (.seq .leaf (.seq (.seq .leaf (.lp ⟨[(8, (.pd Y3))], [], [1], []⟩ [((.exit 2), ⟨[], [], [1], []⟩), (.ret, ⟨[(2, (.pd Y3)), (3, (.pd Y3)), (4, (.pd Y37))], [], [], []⟩)] .leaf)) .leaf)))))))))
noncomputable def F61V (a0 : El Y31) : Option (El Y3 × El Y3 × El Y37) := evalF (mkE tyTab mapTab pkTab [] [] F61M 84 bdTab) (codeOf Tryz.f43) Tryz.f43.results F61H F61A F61R (fun y => (y.2.1, y.2.2.1, y.2.2.2.1)) (a0, ())
theorem F61_eq (a0 : El Y31) : F61V a0 = F61 a0 := by kernel_rfl
theorem F61_ok : FnOK Tryz.prog 43 F61S := fnOK_of (m := F61M) (fn := Tryz.f43) (hint := F61H) (pack := fun y => (y.2.1, y.2.2.1, y.2.2.2.1)) hmix tab_ok ⟨⟨F73_ok, trivial⟩, ⟨F71_ok, trivial⟩, ⟨F72_ok, trivial⟩, ⟨F69_ok, trivial⟩, ⟨F70_ok, trivial⟩, ⟨F63_ok, trivial⟩, trivial⟩ fun x z h => (F61_eq x.1).trans h
noncomputable def F65 : (El Y31) → Option (El Y4) := fun a0 => Option.bind (F61 a0) fun x0 => some (decide (x0.2.2 = (0 : Int)))
abbrev F65A : Pats := (.cons (.pd Y31) .nil)
abbrev F65R : Pats := (.cons (.pd Y4) .nil)
noncomputable def F65S : Tr.Spec := { args := F65A, res := F65R, fns := [], α := El Y4, f := fun x => F65 x.1, unp := fun z => (((), ()), (z, ())) }
noncomputable def F65M : List (Nat × List Tr.Spec) := [(43, [F61S])]
def F65H : Hint := .leaf
noncomputable def F65V (a0 : El Y31) : Option (El Y4) := evalF (mkE tyTab mapTab pkTab [] [] F65M 14 bdTab) (codeOf Tryz.f21) Tryz.f21.results F65H F65A F65R (fun y => y.2.1) (a0, ())
theorem F65_eq (a0 : El Y31) : F65V a0 = F65 a0 := by kernel_rfl
theorem F65_ok : FnOK Tryz.prog 21 F65S := fnOK_of (m := F65M) (fn := Tryz.f21) (hint := F65H) (pack := fun y => y.2.1) hmix tab_ok ⟨⟨F61_ok, trivial⟩, trivial⟩ fun x z h => (F65_eq x.1).trans h
noncomputable def F82 : (El Y31) → (El Y3) → Option (El Y3) := fun a0 a1 =>
 Option.bind (F65 a0) fun x0 =>
 bif !x0 then some (21 : Int)
 else
 Option.bind (bif decide (a1 < (0 : Int)) then some true else some (decide ((↑(List.length a0.1) : Int) ≤ a1))) fun x1 =>
 bif x1 then some (13 : Int) else some (0 : Int)
abbrev F82A : Pats := (.cons (.pd Y31) (.cons (.pd Y3) .nil))
abbrev F82R : Pats := (.cons (.pd Y3) .nil)
noncomputable def F82S : Tr.Spec := { args := F82A, res := F82R, fns := [], α := El Y3, f := fun x => F82 x.1 x.2.1, unp := fun z => (((), (), ()), (z, ())) }
noncomputable def F82M : List (Nat × List Tr.Spec) := [(21, [F65S])]
def F82H : Hint := (.seq .leaf (.seq .leaf (.seq (.seq (.reg [(16, Y4)]) .leaf) .leaf)))
noncomputable def F82V (a0 : El Y31) (a1 : El Y3) : Option (El Y3) := evalF (mkE tyTab mapTab pkTab [] [] F82M 17 bdTab) (codeOf Tryz.f30) Tryz.f30.results F82H F82A F82R (fun y => y.2.1) (a0, a1, ())
theorem F82_eq (a0 : El Y31) (a1 : El Y3) : F82V a0 a1 = F82 a0 a1 := by kernel_rfl
theorem F82_ok : FnOK Tryz.prog 30 F82S := fnOK_of (m := F82M) (fn := Tryz.f30) (hint := F82H) (pack := fun y => y.2.1) hmix tab_ok ⟨⟨F65_ok, trivial⟩, trivial⟩ fun x z h => (F82_eq x.1 x.2.1).trans h
noncomputable def F76 : (El Y54) → (El Y3) → Option (El Y4) := fun a0 a1 =>
 Option.bind
 (bif !a0.2.2.2.2.2.2.1 then
 Option.bind (idx a0.2.2.2.2.2.2.2.1 a1) fun x0 =>
 bif x0.2.2.2.1 then some (decide (a1 < IntKind.wrap .i64 ((↑(List.length a0.2.2.2.2.2.2.2.1) : Int) - (1 : Int))))
 else some false
 else some false)
 fun x1 => some x1
abbrev F76A : Pats := (.cons (.pd Y54) (.cons (.pd Y3) .nil))
abbrev F76R : Pats := (.cons (.pd Y4) .nil)
noncomputable def F76S : Tr.Spec := { args := F76A, res := F76R, fns := [], α := El Y4, f := fun x => F76 x.1 x.2.1, unp := fun z => (((), (), ()), (z, ())) }
noncomputable def F76M : List (Nat × List Tr.Spec) := []
def F76H : Hint := (.seq .leaf (.seq (.reg [(4, Y4)]) .leaf))
noncomputable def F76V (a0 : El Y54) (a1 : El Y3) : Option (El Y4) := evalF (mkE tyTab mapTab pkTab [] [] F76M 24 bdTab) (codeOf Tryz.f31) Tryz.f31.results F76H F76A F76R (fun y => y.2.1) (a0, a1, ())
theorem F76_eq (a0 : El Y54) (a1 : El Y3) : F76V a0 a1 = F76 a0 a1 := by kernel_rfl
theorem F76_ok : FnOK Tryz.prog 31 F76S := fnOK_of (m := F76M) (fn := Tryz.f31) (hint := F76H) (pack := fun y => y.2.1) hmix tab_ok trivial fun x z h => (F76_eq x.1 x.2.1).trans h
noncomputable def F81 : (El Y51) → (El Y51) → Option (El Y4) := fun a0 a1 =>
 bif !decide (a0.2.2.1 = a1.2.2.1) then some (decide (a0.2.2.1 < a1.2.2.1))
 else bif !decide (a0.1 = a1.1) then some (decide (a0.1 < a1.1)) else some (decide (a0.2.1 < a1.2.1))
abbrev F81A : Pats := (.cons (.pd Y51) (.cons (.pd Y51) .nil))
abbrev F81R : Pats := (.cons (.pd Y4) .nil)
noncomputable def F81S : Tr.Spec := { args := F81A, res := F81R, fns := [], α := El Y4, f := fun x => F81 x.1 x.2.1, unp := fun z => (((), (), ()), (z, ())) }
noncomputable def F81M : List (Nat × List Tr.Spec) := []
def F81H : Hint := .leaf
noncomputable def F81V (a0 : El Y51) (a1 : El Y51) : Option (El Y4) := evalF (mkE tyTab mapTab pkTab [] [] F81M 30 bdTab) (codeOf Tryz.f50) Tryz.f50.results F81H F81A F81R (fun y => y.2.1) (a0, a1, ())
theorem F81_eq (a0 : El Y51) (a1 : El Y51) : F81V a0 a1 = F81 a0 a1 := by kernel_rfl
theorem F81_ok : FnOK Tryz.prog 50 F81S := fnOK_of (m := F81M) (fn := Tryz.f50) (hint := F81H) (pack := fun y => y.2.1) hmix tab_ok trivial fun x z h => (F81_eq x.1 x.2.1).trans h
noncomputable def F83 : (List (El Y51)) → (El Y51) → Option (List (El Y51)) := fun a0 a1 =>
 Option.bind
 (Tr.run
 (fun s0 =>
 Option.bind
 (bif decide (s0 < (↑(List.length a0) : Int)) then
 Option.bind (inb s0 (List.length a0)) fun x1 => Option.bind a0[x1]? fun x2 => Option.bind (F81 x2 a1) fun x3 => some x3
 else some false)
 fun x4 => bif x4 then some (.inl (IntKind.wrap .i64 (s0 + (1 : Int)))) else some (.inr s0))
 (0 : Int))
 fun x5 =>
 Option.bind (sliceB (List.length a0) (List.length a0) none (some x5)) fun x6 =>
 Option.bind (guardB (decide (List.length ([] : List Unit) + List.length (List.take x6.2 (List.drop (0 : Nat) a0)) ≤ maxApp))) fun _ =>
 Option.bind (guardB (decide (List.length ([] ++ List.take x6.2 (List.drop (0 : Nat) a0)) + List.length [a1] ≤ maxApp))) fun _ =>
 Option.bind (sliceB (List.length a0) (List.length a0) (some x5) none) fun x9 =>
 Option.bind
 (guardB (decide (List.length ([] ++ List.take x6.2 (List.drop (0 : Nat) a0) ++ [a1]) + List.length (List.take (x9.2 - x9.1) (List.drop x9.1 a0)) ≤ maxApp)))
 fun _ => some ([] ++ List.take x6.2 (List.drop (0 : Nat) a0) ++ [a1] ++ List.take (x9.2 - x9.1) (List.drop x9.1 a0))
abbrev F83A : Pats := (.cons (.own Y51 false) (.cons (.pd Y51) .nil))
abbrev F83R : Pats := (.cons (.own Y51 false) .nil)
noncomputable def F83S : Tr.Spec := { args := F83A, res := F83R, fns := [], α := List (El Y51), f := fun x => F83 x.1 x.2.1, unp := fun z => (((), (), ()), (z, ())) }
noncomputable def F83M : List (Nat × List Tr.Spec) := [(50, [F81S])]
def F83H : Hint := (.seq .leaf (.seq .leaf (.seq (.lp ⟨[(5, (.pd Y3))], [], [0, 3], []⟩ [((.exit 0), ⟨[(5, (.pd Y3))], [], [0, 3], []⟩)] (.seq (.seq (.reg [(18, Y4)]) .leaf) .leaf)) .leaf)))
noncomputable def F83V (a0 : List (El Y51)) (a1 : El Y51) : Option (List (El Y51)) := evalF (mkE tyTab mapTab pkTab [] [] F83M 35 bdTab) (codeOf Tryz.f32) Tryz.f32.results F83H F83A F83R (fun y => y.2.1) (a0, a1, ())
theorem F83_eq (a0 : List (El Y51)) (a1 : El Y51) : F83V a0 a1 = F83 a0 a1 := by kernel_rfl
theorem F83_ok : FnOK Tryz.prog 32 F83S := fnOK_of (m := F83M) (fn := Tryz.f32) (hint := F83H) (pack := fun y => y.2.1) hmix tab_ok ⟨⟨F81_ok, trivial⟩, trivial⟩ fun x z h => (F83_eq x.1 x.2.1).trans h
noncomputable def F77 : (El Y31) → (El Y3) → (El Y3) → (El Y3) → Option (El Y36 × El Y3) := fun a0 a1 a2 a3 =>
 Option.bind (F82 a0 a1) fun x0 =>
 bif !decide (x0 = (0 : Int)) then some ([], x0)
 else
 Option.bind
 (Tr.run
 (fun s1 =>
 bif decide (s1.2 < (↑(List.length a0.2.2.1) : Int)) then
 Option.bind
 (Tr.run
 (fun s2 =>
 Option.bind (idx a0.2.2.1 s1.2) fun x3 =>
 bif decide (s2.2 < (↑(List.length x3.2.2.2.2.2.2.2.1) : Int)) then
 Option.bind (idx a0.2.2.1 s1.2) fun x4 =>
 Option.bind (idx x4.2.2.2.2.2.2.2.1 s2.2) fun x5 =>
 Option.bind
 (bif decide (x5.1 = a1) then
 Option.bind (idx a0.2.2.1 s1.2) fun x6 =>
 Option.bind (F76 x6 s2.2) fun x7 =>
 bif x7 then bif decide (a2 ≤ x5.2.2.1) then some (decide (x5.2.2.1 < a3)) else some false
 else some false
 else some false)
 fun x8 =>
 bif x8 then
 Option.bind (F83 s2.1 (s1.2, s2.2, x5.2.2.1, ())) fun x9 => some (.inl (x9, IntKind.wrap .i64 (s2.2 + (1 : Int))))
 else some (.inl (s2.1, IntKind.wrap .i64 (s2.2 + (1 : Int))))
 else some (.inr s2.1))
 (s1.1, (0 : Int)))
 fun x10 => some (.inl (x10, IntKind.wrap .i64 (s1.2 + (1 : Int))))
 else some (.inr s1.1))
 ([], (0 : Int)))
 fun x11 => some (x11, (0 : Int))
abbrev F77A : Pats := (.cons (.pd Y31) (.cons (.pd Y3) (.cons (.pd Y3) (.cons (.pd Y3) .nil))))
abbrev F77R : Pats := (.cons (.pd Y36) (.cons (.pd Y3) .nil))
noncomputable def F77S : Tr.Spec := { args := F77A, res := F77R, fns := [], α := El Y36 × El Y3, f := fun x => F77 x.1 x.2.1 x.2.2.1 x.2.2.2.1, unp := fun z => (((), (), (), (), ()), (z.1, z.2, ())) }
noncomputable def F77M : List (Nat × List Tr.Spec) := [(30, [F82S]), (31, [F76S]), (32, [F83S])]
def F77H : Hint := (.seq .leaf (.seq .leaf (.seq .leaf (.seq .leaf (.seq (.seq .leaf (.lp ⟨[(11, (.own Y51 false)), (12, (.pd Y3))], [], [1, 2, 3, 4], []⟩ [((.exit 0), ⟨[(11, (.own Y51 false))], [], [], []⟩)] (.seq .leaf (.seq (.seq .leaf (.lp ⟨[(11, (.own Y51 false)), (13, (.pd Y3))], [], [1, 2, 3, 4, 12], []⟩ [((.exit 2), ⟨[(11, (.own Y51 false))], [], [1, 2, 3, 4, 12], []⟩)] (.seq .leaf (.seq (.seq .leaf (.seq (.reg [(72, Y4)]) .leaf)) .leaf)))) .leaf)))) .leaf)))))
noncomputable def F77V (a0 : El Y31) (a1 : El Y3) (a2 : El Y3) (a3 : El Y3) : Option (El Y36 × El Y3) := evalF (mkE tyTab mapTab pkTab [] [] F77M 81 bdTab) (codeOf Tryz.f13) Tryz.f13.results F77H F77A F77R (fun y => (y.2.1, y.2.2.1)) (a0, a1, a2, a3, ())
theorem F77_eq (a0 : El Y31) (a1 : El Y3) (a2 : El Y3) (a3 : El Y3) : F77V a0 a1 a2 a3 = F77 a0 a1 a2 a3 := by kernel_rfl
theorem F77_ok : FnOK Tryz.prog 13 F77S := fnOK_of (m := F77M) (fn := Tryz.f13) (hint := F77H) (pack := fun y => (y.2.1, y.2.2.1)) hmix tab_ok ⟨⟨F82_ok, trivial⟩, ⟨F76_ok, trivial⟩, ⟨F83_ok, trivial⟩, trivial⟩ fun x z h => (F77_eq x.1 x.2.1 x.2.2.1 x.2.2.2.1).trans h
noncomputable def F35 : (El Y31) → (El Y3) → (El Y33) → Option (El Y4) := fun a0 a1 a2 =>
 Option.bind (F47 a0) fun x0 =>
 bif !x0 then Option.bind F45 fun x1 => some x1
 else
 Option.bind (F2 a0 a1 a2.1 a2.2.1) fun x2 =>
 Option.bind (F77 a0 a1 a2.1 a2.2.1) fun x3 =>
 Option.bind
 (Option.bind (F79 x2.1 x3.1) fun x4 =>
 bif x4 then bif decide (x2.2 = x3.2) then Option.bind F45 fun x5 => some x5 else some false else some false)
 fun x6 => some x6
abbrev F35A : Pats := (.cons (.pd Y31) (.cons (.pd Y3) (.cons (.pd Y33) .nil)))
abbrev F35R : Pats := (.cons (.pd Y4) .nil)
noncomputable def F35S : Tr.Spec := { args := F35A, res := F35R, fns := [], α := El Y4, f := fun x => F35 x.1 x.2.1 x.2.2.1, unp := fun z => (((), (), (), ()), (z, ())), pl := false }
noncomputable def F35M : List (Nat × List Tr.Spec) := [(10, [F47S]), (11, [F45S]), (12, [F2S]), (13, [F77S]), (14, [F79S])]
def F35H : Hint := (.seq .leaf (.seq .leaf (.seq .leaf (.seq .leaf (.seq (.reg [(6, Y4)]) .leaf)))))
noncomputable def F35V (a0 : El Y31) (a1 : El Y3) (a2 : El Y33) : Option (El Y4) := evalF (mkE tyTab mapTab pkTab [] [] F35M 46 bdTab) (codeOf Tryz.f3) Tryz.f3.results F35H F35A F35R (fun y => y.2.1) (a0, a1, a2, ())
theorem F35_eq (a0 : El Y31) (a1 : El Y3) (a2 : El Y33) : F35V a0 a1 a2 = F35 a0 a1 a2 := by kernel_rfl
theorem F35_ok : FnOK Tryz.prog 3 F35S := fnOK_of (m := F35M) (fn := Tryz.f3) (hint := F35H) (pack := fun y => y.2.1) hmix tab_ok ⟨⟨F47_ok, trivial⟩, ⟨F45_ok, trivial⟩, ⟨F2_ok, trivial⟩, ⟨F77_ok, trivial⟩, ⟨F79_ok, trivial⟩, trivial⟩ fun x z h => (F35_eq x.1 x.2.1 x.2.2.1).trans h
noncomputable def F74 : (El Y54) → (El Y3) → Option (El Y4) := fun a0 a1 =>
 Option.bind
 (bif !a0.2.2.2.2.2.2.1 then
 Option.bind (idx a0.2.2.2.2.2.2.2.1 a1) fun x0 => bif x0.2.2.2.2.1 then some (decide ((0 : Int) < a1)) else some false
 else some false)
 fun x1 => some x1
abbrev F74A : Pats := (.cons (.pd Y54) (.cons (.pd Y3) .nil))
abbrev F74R : Pats := (.cons (.pd Y4) .nil)
noncomputable def F74S : Tr.Spec := { args := F74A, res := F74R, fns := [], α := El Y4, f := fun x => F74 x.1 x.2.1, unp := fun z => (((), (), ()), (z, ())) }
noncomputable def F74M : List (Nat × List Tr.Spec) := []
def F74H : Hint := (.seq .leaf (.seq (.reg [(4, Y4)]) .leaf))
noncomputable def F74V (a0 : El Y54) (a1 : El Y3) : Option (El Y4) := evalF (mkE tyTab mapTab pkTab [] [] F74M 20 bdTab) (codeOf Tryz.f34) Tryz.f34.results F74H F74A F74R (fun y => y.2.1) (a0, a1, ())
theorem F74_eq (a0 : El Y54) (a1 : El Y3) : F74V a0 a1 = F74 a0 a1 := by kernel_rfl
theorem F74_ok : FnOK Tryz.prog 34 F74S := fnOK_of (m := F74M) (fn := Tryz.f34) (hint := F74H) (pack := fun y => y.2.1) hmix tab_ok trivial fun x z h => (F74_eq x.1 x.2.1).trans h
noncomputable def F75 : (El Y31) → (El Y3) → (El Y3) → (El Y3) → Option (El Y36 × El Y3) := fun a0 a1 a2 a3 =>
 Option.bind (F82 a0 a1) fun x0 =>
 bif !decide (x0 = (0 : Int)) then some ([], x0)
 else
 Option.bind
 (Tr.run
 (fun s1 =>
 bif decide (s1.2 < (↑(List.length a0.2.2.1) : Int)) then
 Option.bind
 (Tr.run
 (fun s2 =>
 Option.bind (idx a0.2.2.1 s1.2) fun x3 =>
 bif decide (s2.2 < (↑(List.length x3.2.2.2.2.2.2.2.1) : Int)) then
 Option.bind (idx a0.2.2.1 s1.2) fun x4 =>
 Option.bind (idx x4.2.2.2.2.2.2.2.1 s2.2) fun x5 =>
 Option.bind
 (bif decide (x5.1 = a1) then
 Option.bind (idx a0.2.2.1 s1.2) fun x6 =>
 Option.bind (F74 x6 s2.2) fun x7 =>
 bif x7 then bif decide (a2 ≤ x5.2.1) then some (decide (x5.2.1 < a3)) else some false else some false
 else some false)
 fun x8 =>
 bif x8 then Option.bind (F83 s2.1 (s1.2, s2.2, x5.2.1, ())) fun x9 => some (.inl (x9, IntKind.wrap .i64 (s2.2 + (1 : Int))))
 else some (.inl (s2.1, IntKind.wrap .i64 (s2.2 + (1 : Int))))
 else some (.inr s2.1))
 (s1.1, (0 : Int)))
 fun x10 => some (.inl (x10, IntKind.wrap .i64 (s1.2 + (1 : Int))))
 else some (.inr s1.1))
 ([], (0 : Int)))
 fun x11 => some (x11, (0 : Int))
abbrev F75A : Pats := (.cons (.pd Y31) (.cons (.pd Y3) (.cons (.pd Y3) (.cons (.pd Y3) .nil))))
abbrev F75R : Pats := (.cons (.pd Y36) (.cons (.pd Y3) .nil))
noncomputable def F75S : Tr.Spec := { args := F75A, res := F75R, fns := [], α := El Y36 × El Y3, f := fun x => F75 x.1 x.2.1 x.2.2.1 x.2.2.2.1, unp := fun z => (((), (), (), (), ()), (z.1, z.2, ())) }
noncomputable def F75M : List (Nat × List Tr.Spec) := [(30, [F82S]), (32, [F83S]), (34, [F74S])]
def F75H : Hint := (.seq .leaf (.seq .leaf (.seq .leaf (.seq .leaf (.seq (.seq .leaf (.lp ⟨[(11, (.own Y51 false)), (12, (.pd Y3))], [], [1, 2, 3, 4], []⟩ [((.exit 0), ⟨[(11, (.own Y51 false))], [], [], []⟩)] (.seq .leaf (.seq (.seq .leaf (.lp ⟨[(11, (.own Y51 false)), (13, (.pd Y3))], [], [1, 2, 3, 4, 12], []⟩ [((.exit 2), ⟨[(11, (.own Y51 false))], [], [1, 2, 3, 4, 12], []⟩)] (.seq .leaf (.seq (.seq .leaf (.seq (.reg [(72, Y4)]) .leaf)) .leaf)))) .leaf)))) .leaf)))))
noncomputable def F75V (a0 : El Y31) (a1 : El Y3) (a2 : El Y3) (a3 : El Y3) : Option (El Y36 × El Y3) := evalF (mkE tyTab mapTab pkTab [] [] F75M 81 bdTab) (codeOf Tryz.f16) Tryz.f16.results F75H F75A F75R (fun y => (y.2.1, y.2.2.1)) (a0, a1, a2, a3, ())
theorem F75_eq (a0 : El Y31) (a1 : El Y3) (a2 : El Y3) (a3 : El Y3) : F75V a0 a1 a2 a3 = F75 a0 a1 a2 a3 := by kernel_rfl
theorem F75_ok : FnOK Tryz.prog 16 F75S := fnOK_of (m := F75M) (fn := Tryz.f16) (hint := F75H) (pack := fun y => (y.2.1, y.2.2.1)) hmix tab_ok ⟨⟨F82_ok, trivial⟩, ⟨F83_ok, trivial⟩, ⟨F74_ok, trivial⟩, trivial⟩ fun x z h => (F75_eq x.1 x.2.1 x.2.2.1 x.2.2.2.1).trans h
noncomputable def F33 : (El Y31) → (El Y3) → (El Y33) → Option (El Y4) := fun a0 a1 a2 =>
 Option.bind (F47 a0) fun x0 =>
 bif !x0 then Option.bind F45 fun x1 => some x1
 else
 Option.bind (F0 a0 a1 a2.1 a2.2.1) fun x2 =>
 Option.bind (F75 a0 a1 a2.1 a2.2.1) fun x3 =>
 Option.bind
 (Option.bind (F79 x2.1 x3.1) fun x4 =>
 bif x4 then bif decide (x2.2 = x3.2) then Option.bind F45 fun x5 => some x5 else some false else some false)
 fun x6 => some x6
abbrev F33A : Pats := (.cons (.pd Y31) (.cons (.pd Y3) (.cons (.pd Y33) .nil)))
abbrev F33R : Pats := (.cons (.pd Y4) .nil)
noncomputable def F33S : Tr.Spec := { args := F33A, res := F33R, fns := [], α := El Y4, f := fun x => F33 x.1 x.2.1 x.2.2.1, unp := fun z => (((), (), (), ()), (z, ())), pl := false }
noncomputable def F33M : List (Nat × List Tr.Spec) := [(10, [F47S]), (11, [F45S]), (14, [F79S]), (15, [F0S]), (16, [F75S])]
def F33H : Hint := (.seq .leaf (.seq .leaf (.seq .leaf (.seq .leaf (.seq (.reg [(6, Y4)]) .leaf)))))
noncomputable def F33V (a0 : El Y31) (a1 : El Y3) (a2 : El Y33) : Option (El Y4) := evalF (mkE tyTab mapTab pkTab [] [] F33M 46 bdTab) (codeOf Tryz.f4) Tryz.f4.results F33H F33A F33R (fun y => y.2.1) (a0, a1, a2, ())
theorem F33_eq (a0 : El Y31) (a1 : El Y3) (a2 : El Y33) : F33V a0 a1 a2 = F33 a0 a1 a2 := by kernel_rfl
theorem F33_ok : FnOK Tryz.prog 4 F33S := fnOK_of (m := F33M) (fn := Tryz.f4) (hint := F33H) (pack := fun y => y.2.1) hmix tab_ok ⟨⟨F47_ok, trivial⟩, ⟨F45_ok, trivial⟩, ⟨F79_ok, trivial⟩, ⟨F0_ok, trivial⟩, ⟨F75_ok, trivial⟩, trivial⟩ fun x z h => (F33_eq x.1 x.2.1 x.2.2.1).trans h
noncomputable def F84 : (El Y54) → (El Y3) → (El Y3) → Option (El Y4) := fun a0 a1 a2 =>
 Option.bind
 (Tr.run
 (fun s0 =>
 bif decide (s0 < (↑(List.length a0.2.2.2.2.2.2.2.1) : Int)) then
 Option.bind
 (Option.bind (idx a0.2.2.2.2.2.2.2.1 s0) fun x1 =>
 bif decide (x1.1 = a2) then Option.bind (idx a0.2.2.2.2.2.2.2.1 s0) fun x2 => some x2.2.2.2.2.1 else some false)
 fun x3 => bif x3 then some (.inr (.inr true)) else some (.inl (IntKind.wrap .i64 (s0 + (1 : Int))))
 else some (.inr (.inl ())))
 (IntKind.wrap .i64 (a1 + (1 : Int))))
 fun x4 => Sum.elim (fun _ => some false) (fun y6 => some y6) x4
abbrev F84A : Pats := (.cons (.pd Y54) (.cons (.pd Y3) (.cons (.pd Y3) .nil)))
abbrev F84R : Pats := (.cons (.pd Y4) .nil)
noncomputable def F84S : Tr.Spec := { args := F84A, res := F84R, fns := [], α := El Y4, f := fun x => F84 x.1 x.2.1 x.2.2.1, unp := fun z => (((), (), (), ()), (z, ())) }
noncomputable def F84M : List (Nat × List Tr.Spec) := []
def F84H : Hint := (.seq .leaf (.seq (.seq .leaf (.lp ⟨[(7, (.pd Y3))], [], [2, 3], []⟩ [((.exit 0), ⟨[], [], [], []⟩), (.ret, ⟨[(6, (.pd Y4))], [], [], []⟩)] (.seq .leaf (.seq (.seq (.reg [(32, Y4)]) .leaf) .leaf)))) .leaf))
noncomputable def F84V (a0 : El Y54) (a1 : El Y3) (a2 : El Y3) : Option (El Y4) := evalF (mkE tyTab mapTab pkTab [] [] F84M 33 bdTab) (codeOf Tryz.f38) Tryz.f38.results F84H F84A F84R (fun y => y.2.1) (a0, a1, a2, ())
theorem F84_eq (a0 : El Y54) (a1 : El Y3) (a2 : El Y3) : F84V a0 a1 a2 = F84 a0 a1 a2 := by kernel_rfl
theorem F84_ok : FnOK Tryz.prog 38 F84S := fnOK_of (m := F84M) (fn := Tryz.f38) (hint := F84H) (pack := fun y => y.2.1) hmix tab_ok trivial fun x z h => (F84_eq x.1 x.2.1 x.2.2.1).trans h
noncomputable def F78 : (El Y31) → (El Y3) → (El Y3) → (El Y3) → Option (El Y36 × El Y3) := fun a0 a1 a2 a3 =>
 Option.bind (F82 a0 a1) fun x0 =>
 Option.bind (bif decide (x0 = (0 : Int)) then Option.bind (F82 a0 a2) fun x1 => some x1 else some x0) fun x2 =>
 bif !decide (x2 = (0 : Int)) then some ([], x2)
 else
 Option.bind
 (Tr.run
 (fun s3 =>
 bif decide (s3.2 < (↑(List.length a0.2.2.1) : Int)) then
 Option.bind
 (Tr.run
 (fun s4 =>
 Option.bind (idx a0.2.2.1 s3.2) fun x5 =>
 bif decide (s4.2 < (↑(List.length x5.2.2.2.2.2.2.2.1) : Int)) then
 Option.bind (idx a0.2.2.1 s3.2) fun x6 =>
 Option.bind (idx x6.2.2.2.2.2.2.2.1 s4.2) fun x7 =>
 Option.bind
 (bif decide (x7.1 = a1) then
 Option.bind (idx a0.2.2.1 s3.2) fun x8 =>
 Option.bind (F76 x8 s4.2) fun x9 =>
 bif x9 then
 bif decide (a3 ≤ x7.2.2.1) then
 Option.bind (idx a0.2.2.1 s3.2) fun x10 => Option.bind (F84 x10 s4.2 a2) fun x11 => some x11
 else some false
 else some false
 else some false)
 fun x12 =>
 bif x12 then
 Option.bind (F83 s4.1 (s3.2, s4.2, x7.2.2.1, ())) fun x13 => some (.inl (x13, IntKind.wrap .i64 (s4.2 + (1 : Int))))
 else some (.inl (s4.1, IntKind.wrap .i64 (s4.2 + (1 : Int))))
 else some (.inr s4.1))
 (s3.1, (0 : Int)))
 fun x14 => some (.inl (x14, IntKind.wrap .i64 (s3.2 + (1 : Int))))
 else some (.inr s3.1))
 ([], (0 : Int)))
 fun x15 => some (x15, (0 : Int))
abbrev F78A : Pats := (.cons (.pd Y31) (.cons (.pd Y3) (.cons (.pd Y3) (.cons (.pd Y3) .nil))))
abbrev F78R : Pats := (.cons (.pd Y36) (.cons (.pd Y3) .nil))
noncomputable def F78S : Tr.Spec := { args := F78A, res := F78R, fns := [], α := El Y36 × El Y3, f := fun x => F78 x.1 x.2.1 x.2.2.1 x.2.2.2.1, unp := fun z => (((), (), (), (), ()), (z.1, z.2, ())) }
noncomputable def F78M : List (Nat × List Tr.Spec) := [(30, [F82S]), (31, [F76S]), (32, [F83S]), (38, [F84S])]
def F78H : Hint := (.seq .leaf (.seq .leaf (.seq (.seq .leaf (.cnd (some (⟨[], [], [1, 2, 3, 4], []⟩, [(.normal, ⟨[(10, (.pd Y3))], [], [1, 2, 3, 4], []⟩)])) .leaf .leaf)) (.seq .leaf (.seq .leaf (.seq (.seq .leaf (.lp ⟨[(11, (.own Y51 false)), (12, (.pd Y3))], [], [1, 2, 3, 4], []⟩ [((.exit 0), ⟨[(11, (.own Y51 false))], [], [], []⟩)] (.seq .leaf (.seq (.seq .leaf (.lp ⟨[(11, (.own Y51 false)), (13, (.pd Y3))], [], [1, 2, 3, 4, 12], []⟩ [((.exit 2), ⟨[(11, (.own Y51 false))], [], [1, 2, 3, 4, 12], []⟩)] (.seq .leaf (.seq (.seq .leaf (.seq (.reg [(81, Y4)]) .leaf)) .leaf)))) .leaf)))) .leaf))))))
noncomputable def F78V (a0 : El Y31) (a1 : El Y3) (a2 : El Y3) (a3 : El Y3) : Option (El Y36 × El Y3) := evalF (mkE tyTab mapTab pkTab [] [] F78M 90 bdTab) (codeOf Tryz.f18) Tryz.f18.results F78H F78A F78R (fun y => (y.2.1, y.2.2.1)) (a0, a1, a2, a3, ())
theorem F78_eq (a0 : El Y31) (a1 : El Y3) (a2 : El Y3) (a3 : El Y3) : F78V a0 a1 a2 a3 = F78 a0 a1 a2 a3 := by kernel_rfl
theorem F78_ok : FnOK Tryz.prog 18 F78S := fnOK_of (m := F78M) (fn := Tryz.f18) (hint := F78H) (pack := fun y => (y.2.1, y.2.2.1)) hmix tab_ok ⟨⟨F82_ok, trivial⟩, ⟨F76_ok, trivial⟩, ⟨F83_ok, trivial⟩, ⟨F84_ok, trivial⟩, trivial⟩ fun x z h => (F78_eq x.1 x.2.1 x.2.2.1 x.2.2.2.1).trans h
noncomputable def F36 : (El Y31) → (El Y33) → (El Y3) → Option (El Y4) := fun a0 a1 a2 =>
 Option.bind (F47 a0) fun x0 =>
 bif !x0 then Option.bind F45 fun x1 => some x1
 else
 Option.bind (F4 a0 a1.1 a1.2.1 a2) fun x2 =>
 Option.bind (F78 a0 a1.1 a1.2.1 a2) fun x3 =>
 Option.bind
 (Option.bind (F79 x2.1 x3.1) fun x4 =>
 bif x4 then bif decide (x2.2 = x3.2) then Option.bind F45 fun x5 => some x5 else some false else some false)
 fun x6 => some x6
abbrev F36A : Pats := (.cons (.pd Y31) (.cons (.pd Y33) (.cons (.pd Y3) .nil)))
abbrev F36R : Pats := (.cons (.pd Y4) .nil)
noncomputable def F36S : Tr.Spec := { args := F36A, res := F36R, fns := [], α := El Y4, f := fun x => F36 x.1 x.2.1 x.2.2.1, unp := fun z => (((), (), (), ()), (z, ())), pl := false }
noncomputable def F36M : List (Nat × List Tr.Spec) := [(10, [F47S]), (11, [F45S]), (14, [F79S]), (17, [F4S]), (18, [F78S])]
def F36H : Hint := (.seq .leaf (.seq .leaf (.seq .leaf (.seq .leaf (.seq (.reg [(6, Y4)]) .leaf)))))
noncomputable def F36V (a0 : El Y31) (a1 : El Y33) (a2 : El Y3) : Option (El Y4) := evalF (mkE tyTab mapTab pkTab [] [] F36M 46 bdTab) (codeOf Tryz.f5) Tryz.f5.results F36H F36A F36R (fun y => y.2.1) (a0, a1, a2, ())
theorem F36_eq (a0 : El Y31) (a1 : El Y33) (a2 : El Y3) : F36V a0 a1 a2 = F36 a0 a1 a2 := by kernel_rfl
theorem F36_ok : FnOK Tryz.prog 5 F36S := fnOK_of (m := F36M) (fn := Tryz.f5) (hint := F36H) (pack := fun y => y.2.1) hmix tab_ok ⟨⟨F47_ok, trivial⟩, ⟨F45_ok, trivial⟩, ⟨F79_ok, trivial⟩, ⟨F4_ok, trivial⟩, ⟨F78_ok, trivial⟩, trivial⟩ fun x z h => (F36_eq x.1 x.2.1 x.2.2.1).trans h
noncomputable def F59 : (El Y3) → Option (El Y9) := fun a0 =>
 Option.bind
 (sliceB (List.length [(48 : UInt8), (49 : UInt8), (50 : UInt8), (51 : UInt8), (52 : UInt8), (53 : UInt8), (54 : UInt8), (55 : UInt8), (56 : UInt8), (57 : UInt8)])
 (List.length [(48 : UInt8), (49 : UInt8), (50 : UInt8), (51 : UInt8), (52 : UInt8), (53 : UInt8), (54 : UInt8), (55 : UInt8), (56 : UInt8), (57 : UInt8)]) (some a0)
 (some (IntKind.wrap .i64 (a0 + (1 : Int)))))
 fun x0 =>
 some
 (List.take (x0.2 - x0.1) (List.drop x0.1 [(48 : UInt8), (49 : UInt8), (50 : UInt8), (51 : UInt8), (52 : UInt8), (53 : UInt8), (54 : UInt8), (55 : UInt8), (56 : UInt8), (57 : UInt8)]))
abbrev F59A : Pats := (.cons (.pd Y3) .nil)
abbrev F59R : Pats := (.cons (.pd Y9) .nil)
noncomputable def F59S : Tr.Spec := { args := F59A, res := F59R, fns := [], α := El Y9, f := fun x => F59 x.1, unp := fun z => (((), ()), (z, ())) }
noncomputable def F59M : List (Nat × List Tr.Spec) := []
def F59H : Hint := .leaf
noncomputable def F59V (a0 : El Y3) : Option (El Y9) := evalF (mkE tyTab mapTab pkTab [] [] F59M 7 bdTab) (codeOf Tryz.f54) Tryz.f54.results F59H F59A F59R (fun y => y.2.1) (a0, ())
theorem F59_eq (a0 : El Y3) : F59V a0 = F59 a0 := by kernel_rfl
theorem F59_ok : FnOK Tryz.prog 54 F59S := fnOK_of (m := F59M) (fn := Tryz.f54) (hint := F59H) (pack := fun y => y.2.1) hmix tab_ok trivial fun x z h => (F59_eq x.1).trans h
noncomputable def F58 : (El Y3) → Option (El Y9) := fun a0 =>
 bif decide (a0 < (0 : Int)) then
 Option.bind
 (Tr.run
 (fun s0 =>
 bif decide (s0.1 < (0 : Int)) then
 Option.bind (F59 (IntKind.wrap .i64 ((0 : Int) - Int.tmod s0.1 (10 : Int)))) fun x1 =>
 Option.bind (Tr.catStr x1 s0.2) fun x2 => some (.inl (IntKind.wrap .i64 (Int.tdiv s0.1 (10 : Int)), x2))
 else some (.inr s0.2))
 (a0, []))
 fun x3 => Option.bind (Tr.catStr [(45 : UInt8)] x3) fun x4 => some x4
 else
 Option.bind (F59 (Int.tmod a0 (10 : Int))) fun x5 =>
 Option.bind
 (Tr.run
 (fun s6 =>
 bif decide ((9 : Int) < s6.1) then
 Option.bind (F59 (Int.tmod (IntKind.wrap .i64 (Int.tdiv s6.1 (10 : Int))) (10 : Int))) fun x7 =>
 Option.bind (Tr.catStr x7 s6.2) fun x8 => some (.inl (IntKind.wrap .i64 (Int.tdiv s6.1 (10 : Int)), x8))
 else some (.inr s6.2))
 (a0, x5))
 fun x9 => some x9
abbrev F58A : Pats := (.cons (.pd Y3) .nil)
abbrev F58R : Pats := (.cons (.pd Y9) .nil)
noncomputable def F58S : Tr.Spec := { args := F58A, res := F58R, fns := [], α := El Y9, f := fun x => F58 x.1, unp := fun z => (((), ()), (z, ())) }
noncomputable def F58M : List (Nat × List Tr.Spec) := [(54, [F59S])]
def F58H : Hint := (.seq .leaf (.seq (.seq .leaf (.cnd none (.seq .leaf (.seq (.lp ⟨[(0, (.pd Y3)), (3, (.pd Y9))], [], [], []⟩ [((.exit 0), ⟨[(3, (.pd Y9))], [], [], []⟩)] .leaf) .leaf)) .leaf)) (.seq .leaf (.seq (.lp ⟨[(0, (.pd Y3)), (4, (.pd Y9))], [], [], []⟩ [((.exit 2), ⟨[(4, (.pd Y9))], [], [], []⟩)] .leaf) .leaf))))
noncomputable def F58V (a0 : El Y3) : Option (El Y9) := evalF (mkE tyTab mapTab pkTab [] [] F58M 32 bdTab) (codeOf Tryz.f42) Tryz.f42.results F58H F58A F58R (fun y => y.2.1) (a0, ())
theorem F58_eq (a0 : El Y3) : F58V a0 = F58 a0 := by kernel_rfl
theorem F58_ok : FnOK Tryz.prog 42 F58S := fnOK_of (m := F58M) (fn := Tryz.f42) (hint := F58H) (pack := fun y => y.2.1) hmix tab_ok ⟨⟨F59_ok, trivial⟩, trivial⟩ fun x z h => (F58_eq x.1).trans h
noncomputable def F80 : (El Y31) → (El Y36) → Option (El Y9 × El Y3) := fun a0 a1 =>
 Option.bind (F65 a0) fun x0 =>
 bif !x0 then some ([], (21 : Int))
 else
 Option.bind
 (Tr.run
 (fun s1 =>
 bif decide (s1.2 < (↑(List.length a1) : Int)) then
 Option.bind
 (Option.bind (idx a1 s1.2) fun x2 =>
 bif decide (x2.1 < (0 : Int)) then some true
 else
 Option.bind (idx a1 s1.2) fun x3 =>
 bif decide ((↑(List.length a0.2.2.1) : Int) ≤ x3.1) then some true
 else
 Option.bind (idx a1 s1.2) fun x4 =>
 bif decide (x4.2.1 < (0 : Int)) then some true
 else
 Option.bind (idx a1 s1.2) fun x5 =>
 Option.bind (idx a1 s1.2) fun x6 =>
 Option.bind (idx a0.2.2.1 x6.1) fun x7 => some (decide ((↑(List.length x7.2.2.2.2.2.2.2.1) : Int) ≤ x5.2.1)))
 fun x8 =>
 bif x8 then some (.inr (.inr ([], (9 : Int))))
 else
 Option.bind (idx a1 s1.2) fun x9 =>
 Option.bind (idx a0.2.2.1 x9.1) fun x10 =>
 Option.bind (idx a1 s1.2) fun x11 =>
 Option.bind (F58 x11.2.2.1) fun x12 =>
 Option.bind (Tr.catStr x12 [(32 : UInt8)]) fun x13 =>
 Option.bind (Tr.catStr x13 x10.2.2.2.1) fun x14 =>
 Option.bind (Tr.catStr x14 [(64 : UInt8)]) fun x15 =>
 Option.bind (F58 x10.2.1) fun x16 =>
 Option.bind (Tr.catStr x15 x16) fun x17 =>
 Option.bind (Tr.catStr x17 [(35 : UInt8)]) fun x18 =>
 Option.bind (F58 x10.2.2.1) fun x19 =>
 Option.bind (Tr.catStr x18 x19) fun x20 =>
 Option.bind (Tr.catStr x20 [(32 : UInt8)]) fun x21 =>
 Option.bind (idx a0.2.1 x10.2.2.2.2.1) fun x22 =>
 Option.bind (Tr.catStr x21 x22.1) fun x23 =>
 Option.bind (Tr.catStr x23 [(32 : UInt8)]) fun x24 =>
 Option.bind (idx a1 s1.2) fun x25 =>
 Option.bind (idx x10.2.2.2.2.2.2.2.1 x25.2.1) fun x26 =>
 Option.bind (idx a0.1 x26.1) fun x27 =>
 Option.bind (Tr.catStr x24 x27.1) fun x28 =>
 Option.bind (Tr.catStr x28 [(32 : UInt8)]) fun x29 =>
 Option.bind
 (idx x10.2.2.2.2.2.2.2.1
 (IntKind.wrap .i64 ((↑(List.length x10.2.2.2.2.2.2.2.1) : Int) - (1 : Int))))
 fun x30 =>
 Option.bind (idx a0.1 x30.1) fun x31 =>
 Option.bind (Tr.catStr x29 x31.1) fun x32 =>
 Option.bind (Tr.catStr x32 [(10 : UInt8)]) fun x33 =>
 Option.bind (Tr.catStr s1.1 x33) fun x34 => some (.inl (x34, IntKind.wrap .i64 (s1.2 + (1 : Int))))
 else some (.inr (.inl s1.1)))
 ([], (0 : Int)))
 fun x35 => Sum.elim (fun y36 => some (y36, (0 : Int))) (fun y37 => some (y37.1, y37.2)) x35
abbrev F80A : Pats := (.cons (.pd Y31) (.cons (.pd Y36) .nil))
abbrev F80R : Pats := (.cons (.pd Y9) (.cons (.pd Y3) .nil))
noncomputable def F80S : Tr.Spec := { args := F80A, res := F80R, fns := [], α := El Y9 × El Y3, f := fun x => F80 x.1 x.2.1, unp := fun z => (((), (), ()), (z.1, z.2, ())) }
noncomputable def F80M : List (Nat × List Tr.Spec) := [(21, [F65S]), (42, [F58S])]
def F80H : Hint := (.seq .leaf (.seq .leaf (.seq .leaf (.seq (.seq .leaf (.lp ⟨[(6, (.pd Y9)), (7, (.pd Y3))], [], [1, 2], []⟩ [((.exit 0), ⟨[(6, (.pd Y9))], [], [], []⟩), (.ret, ⟨[(4, (.pd Y9)), (5, (.pd Y3))], [], [], []⟩)] (.seq .leaf (.seq (.seq (.seq (.reg [(61, Y4)]) .leaf) .leaf) .leaf)))) .leaf))))
noncomputable def F80V (a0 : El Y31) (a1 : El Y36) : Option (El Y9 × El Y3) := evalF (mkE tyTab mapTab pkTab [] [] F80M 137 bdTab) (codeOf Tryz.f20) Tryz.f20.results F80H F80A F80R (fun y => (y.2.1, y.2.2.1)) (a0, a1, ())
theorem F80_eq (a0 : El Y31) (a1 : El Y36) : F80V a0 a1 = F80 a0 a1 := by kernel_rfl
theorem F80_ok : FnOK Tryz.prog 20 F80S := fnOK_of (m := F80M) (fn := Tryz.f20) (hint := F80H) (pack := fun y => (y.2.1, y.2.2.1)) hmix tab_ok ⟨⟨F65_ok, trivial⟩, ⟨F58_ok, trivial⟩, trivial⟩ fun x z h => (F80_eq x.1 x.2.1).trans h
noncomputable def F39 : (El Y31) → (El Y36) → Option (El Y4) := fun a0 a1 =>
 Option.bind (Option.bind (F47 a0) fun x0 => bif !x0 then some true else some (decide ((40 : Int) < (↑(List.length a1) : Int)))) fun x1 =>
 bif x1 then Option.bind F45 fun x2 => some x2
 else
 Option.bind (F7 a0 a1) fun x3 =>
 Option.bind (F80 a0 a1) fun x4 =>
 Option.bind
 (bif decide (x3.1 = x4.1) then bif decide (x3.2 = x4.2) then Option.bind F45 fun x5 => some x5 else some false
 else some false)
 fun x6 => some x6
abbrev F39A : Pats := (.cons (.pd Y31) (.cons (.pd Y36) .nil))
abbrev F39R : Pats := (.cons (.pd Y4) .nil)
noncomputable def F39S : Tr.Spec := { args := F39A, res := F39R, fns := [], α := El Y4, f := fun x => F39 x.1 x.2.1, unp := fun z => (((), (), ()), (z, ())), pl := false }
noncomputable def F39M : List (Nat × List Tr.Spec) := [(10, [F47S]), (11, [F45S]), (19, [F7S]), (20, [F80S])]
def F39H : Hint := (.seq .leaf (.seq (.seq (.reg [(16, Y4)]) .leaf) (.seq .leaf (.seq .leaf (.seq (.reg [(4, Y4)]) .leaf)))))
noncomputable def F39V (a0 : El Y31) (a1 : El Y36) : Option (El Y4) := evalF (mkE tyTab mapTab pkTab [] [] F39M 41 bdTab) (codeOf Tryz.f6) Tryz.f6.results F39H F39A F39R (fun y => y.2.1) (a0, a1, ())
theorem F39_eq (a0 : El Y31) (a1 : El Y36) : F39V a0 a1 = F39 a0 a1 := by kernel_rfl
theorem F39_ok : FnOK Tryz.prog 6 F39S := fnOK_of (m := F39M) (fn := Tryz.f6) (hint := F39H) (pack := fun y => y.2.1) hmix tab_ok ⟨⟨F47_ok, trivial⟩, ⟨F45_ok, trivial⟩, ⟨F7_ok, trivial⟩, ⟨F80_ok, trivial⟩, trivial⟩ fun x z h => (F39_eq x.1 x.2.1).trans h
noncomputable def F43 : (El Y31) → (El Y3) → (El Y33) → Option (El Y3) := fun a0 a1 a2 =>
 Option.bind
 (Tr.run
 (fun s0 =>
 bif decide (s0.2 < (↑(List.length a0.2.2.1) : Int)) then
 Option.bind (idx a0.2.2.1 s0.2) fun x1 =>
 Option.bind
 (Tr.run
 (fun s2 =>
 bif decide (IntKind.wrap .i64 (s2.2 + (1 : Int)) < (↑(List.length x1.2.2.2.2.2.2.2.1) : Int)) then
 Option.bind
 (bif !x1.2.2.2.2.2.2.1 then
 Option.bind (idx x1.2.2.2.2.2.2.2.1 s2.2) fun x3 =>
 bif x3.2.2.2.1 then
 Option.bind (idx x1.2.2.2.2.2.2.2.1 s2.2) fun x4 =>
 bif decide (x4.1 = a1) then
 Option.bind (idx x1.2.2.2.2.2.2.2.1 s2.2) fun x5 =>
 bif decide (a2.1 ≤ x5.2.2.1) then
 Option.bind (idx x1.2.2.2.2.2.2.2.1 s2.2) fun x6 => some (decide (x6.2.2.1 < a2.2.1))
 else some false
 else some false
 else some false
 else some false)
 fun x7 =>
 bif x7 then some (.inl (IntKind.wrap .i64 (s2.1 + (1 : Int)), IntKind.wrap .i64 (s2.2 + (1 : Int))))
 else some (.inl (s2.1, IntKind.wrap .i64 (s2.2 + (1 : Int))))
 else some (.inr s2.1))
 (s0.1, (0 : Int)))
 fun x8 => some (.inl (x8, IntKind.wrap .i64 (s0.2 + (1 : Int))))
 else some (.inr s0.1))
 ((0 : Int), (0 : Int)))
 fun x9 => some x9
abbrev F43A : Pats := (.cons (.pd Y31) (.cons (.pd Y3) (.cons (.pd Y33) .nil)))
abbrev F43R : Pats := (.cons (.pd Y3) .nil)
noncomputable def F43S : Tr.Spec := { args := F43A, res := F43R, fns := [], α := El Y3, f := fun x => F43 x.1 x.2.1 x.2.2.1, unp := fun z => (((), (), (), ()), (z, ())) }
noncomputable def F43M : List (Nat × List Tr.Spec) := []
def F43H : Hint := (.seq .leaf (.seq .leaf (.seq (.seq .leaf (.lp ⟨[(7, (.pd Y3)), (8, (.pd Y3))], [], [1, 3, 5], []⟩ [((.exit 0), ⟨[(7, (.pd Y3))], [], [], []⟩)] (.seq .leaf (.seq (.seq .leaf (.seq .leaf (.lp ⟨[(7, (.pd Y3)), (10, (.pd Y3))], [], [1, 3, 5, 8, 9], []⟩ [((.exit 2), ⟨[(7, (.pd Y3))], [], [1, 3, 5, 8], []⟩)] (.seq .leaf (.seq (.seq (.reg [(73, Y4)]) .leaf) .leaf))))) .leaf)))) .leaf)))
noncomputable def F43V (a0 : El Y31) (a1 : El Y3) (a2 : El Y33) : Option (El Y3) := evalF (mkE tyTab mapTab pkTab [] [] F43M 77 bdTab) (codeOf Tryz.f22) Tryz.f22.results F43H F43A F43R (fun y => y.2.1) (a0, a1, a2, ())
theorem F43_eq (a0 : El Y31) (a1 : El Y3) (a2 : El Y33) : F43V a0 a1 a2 = F43 a0 a1 a2 := by kernel_rfl
theorem F43_ok : FnOK Tryz.prog 22 F43S := fnOK_of (m := F43M) (fn := Tryz.f22) (hint := F43H) (pack := fun y => y.2.1) hmix tab_ok trivial fun x z h => (F43_eq x.1 x.2.1 x.2.2.1).trans h
noncomputable def F34 : (El Y31) → (El Y3) → (El Y33) → Option (El Y4) := fun a0 a1 a2 =>
 Option.bind
 (Option.bind (F47 a0) fun x0 =>
 bif !x0 then some true
 else
 Option.bind (F65 a0) fun x1 =>
 bif !x1 then some true else bif decide (a1 < (0 : Int)) then some true else some (decide ((↑(List.length a0.1) : Int) ≤ a1)))
 fun x2 =>
 bif x2 then Option.bind F45 fun x3 => some x3
 else
 Option.bind (F2 a0 a1 a2.1 a2.2.1) fun x4 =>
 bif !decide (x4.2 = (0 : Int)) then some false
 else
 Option.bind
 (Tr.run
 (fun s5 =>
 bif decide (s5 < (↑(List.length x4.1) : Int)) then
 Option.bind (idx x4.1 s5) fun x6 =>
 Option.bind
 (bif decide (x6.1 < (0 : Int)) then some true
 else
 bif decide ((↑(List.length a0.2.2.1) : Int) ≤ x6.1) then some true
 else
 bif decide (x6.2.1 < (0 : Int)) then some true
 else
 Option.bind (idx a0.2.2.1 x6.1) fun x7 =>
 some (decide (IntKind.wrap .i64 ((↑(List.length x7.2.2.2.2.2.2.2.1) : Int) - (1 : Int)) ≤ x6.2.1)))
 fun x8 =>
 bif x8 then some (.inr (.inr false))
 else
 Option.bind (idx a0.2.2.1 x6.1) fun x9 =>
 Option.bind (idx x9.2.2.2.2.2.2.2.1 x6.2.1) fun x10 =>
 Option.bind
 (Option.bind (idx a0.2.2.1 x6.1) fun x11 =>
 bif x11.2.2.2.2.2.2.1 then some true
 else
 bif !x10.2.2.2.1 then some true
 else
 bif !decide (x10.1 = a1) then some true
 else
 bif !decide (x10.2.2.1 = x6.2.2.1) then some true
 else bif decide (x6.2.2.1 < a2.1) then some true else some (decide (a2.2.1 ≤ x6.2.2.1)))
 fun x12 =>
 bif x12 then some (.inr (.inr false))
 else
 Option.bind
 (bif decide ((0 : Int) < s5) then
 Option.bind (idx x4.1 (IntKind.wrap .i64 (s5 - (1 : Int)))) fun x13 =>
 bif decide (x6.2.2.1 < x13.2.2.1) then some true
 else
 Option.bind (idx x4.1 (IntKind.wrap .i64 (s5 - (1 : Int)))) fun x14 =>
 bif decide (x14.2.2.1 = x6.2.2.1) then
 Option.bind (idx x4.1 (IntKind.wrap .i64 (s5 - (1 : Int)))) fun x15 =>
 bif decide (x6.1 < x15.1) then some true
 else
 Option.bind (idx x4.1 (IntKind.wrap .i64 (s5 - (1 : Int)))) fun x16 =>
 bif decide (x16.1 = x6.1) then
 Option.bind (idx x4.1 (IntKind.wrap .i64 (s5 - (1 : Int)))) fun x17 => some (decide (x6.2.1 ≤ x17.2.1))
 else some false
 else some false
 else some false)
 fun x18 => bif x18 then some (.inr (.inr false)) else some (.inl (IntKind.wrap .i64 (s5 + (1 : Int))))
 else some (.inr (.inl ())))
 (0 : Int))
 fun x19 =>
 Sum.elim
 (fun _ =>
 Option.bind
 (Option.bind (F43 a0 a1 a2) fun x21 =>
 bif decide ((↑(List.length x4.1) : Int) = x21) then Option.bind F45 fun x22 => some x22 else some false)
 fun x23 => some x23)
 (fun y24 => some y24) x19
abbrev F34A : Pats := (.cons (.pd Y31) (.cons (.pd Y3) (.cons (.pd Y33) .nil)))
abbrev F34R : Pats := (.cons (.pd Y4) .nil)
noncomputable def F34S : Tr.Spec := { args := F34A, res := F34R, fns := [], α := El Y4, f := fun x => F34 x.1 x.2.1 x.2.2.1, unp := fun z => (((), (), (), ()), (z, ())), pl := false }
noncomputable def F34M : List (Nat × List Tr.Spec) := [(10, [F47S]), (11, [F45S]), (12, [F2S]), (21, [F65S]), (22, [F43S])]
def F34H : Hint := (.seq .leaf (.seq (.seq (.reg [(30, Y4)]) .leaf) (.seq .leaf (.seq .leaf (.seq (.seq .leaf (.lp ⟨[(9, (.pd Y3))], [], [1, 3, 5, 7], []⟩ [((.exit 0), ⟨[], [], [1, 3, 5, 7], []⟩), (.ret, ⟨[(6, (.pd Y4))], [], [], []⟩)] (.seq .leaf (.seq (.seq .leaf (.seq (.seq (.reg [(83, Y4)]) .leaf) (.seq .leaf (.seq (.seq (.reg [(133, Y4)]) .leaf) (.seq (.reg [(190, Y4)]) .leaf))))) .leaf)))) (.seq (.reg [(6, Y4)]) .leaf))))))
noncomputable def F34V (a0 : El Y31) (a1 : El Y3) (a2 : El Y33) : Option (El Y4) := evalF (mkE tyTab mapTab pkTab [] [] F34M 201 bdTab) (codeOf Tryz.f7) Tryz.f7.results F34H F34A F34R (fun y => y.2.1) (a0, a1, a2, ())
theorem F34_eq (a0 : El Y31) (a1 : El Y3) (a2 : El Y33) : F34V a0 a1 a2 = F34 a0 a1 a2 := by kernel_rfl
theorem F34_ok : FnOK Tryz.prog 7 F34S := fnOK_of (m := F34M) (fn := Tryz.f7) (hint := F34H) (pack := fun y => y.2.1) hmix tab_ok ⟨⟨F47_ok, trivial⟩, ⟨F45_ok, trivial⟩, ⟨F2_ok, trivial⟩, ⟨F65_ok, trivial⟩, ⟨F43_ok, trivial⟩, trivial⟩ fun x z h => (F34_eq x.1 x.2.1 x.2.2.1).trans h
noncomputable def F46 : (El Y36) → (El Y36) → Option (El Y36) := fun a0 a1 =>
 Option.bind (guardB (decide (List.length ([] : List Unit) + List.length a0 ≤ maxApp))) fun _ =>
 Option.bind (guardB (decide (List.length ([] ++ a0) + List.length a1 ≤ maxApp))) fun _ => some ([] ++ a0 ++ a1)
abbrev F46A : Pats := (.cons (.pd Y36) (.cons (.pd Y36) .nil))
abbrev F46R : Pats := (.cons (.pd Y36) .nil)
noncomputable def F46S : Tr.Spec := { args := F46A, res := F46R, fns := [], α := El Y36, f := fun x => F46 x.1 x.2.1, unp := fun z => (((), (), ()), (z, ())) }
noncomputable def F46M : List (Nat × List Tr.Spec) := []
def F46H : Hint := .leaf
noncomputable def F46V (a0 : El Y36) (a1 : El Y36) : Option (El Y36) := evalF (mkE tyTab mapTab pkTab [] [] F46M 12 bdTab) (codeOf Tryz.f23) Tryz.f23.results F46H F46A F46R (fun y => y.2.1) (a0, a1, ())
theorem F46_eq (a0 : El Y36) (a1 : El Y36) : F46V a0 a1 = F46 a0 a1 := by kernel_rfl
theorem F46_ok : FnOK Tryz.prog 23 F46S := fnOK_of (m := F46M) (fn := Tryz.f23) (hint := F46H) (pack := fun y => y.2.1) hmix tab_ok trivial fun x z h => (F46_eq x.1 x.2.1).trans h
noncomputable def F38 : (El Y31) → (El Y3) → (El Y59) → Option (El Y4) := fun a0 a1 a2 =>
 Option.bind
 (Option.bind (F47 a0) fun x0 =>
 bif !x0 then some true
 else
 Option.bind (F65 a0) fun x1 =>
 bif !x1 then some true else bif decide (a2.2.1 < a2.1) then some true else some (decide (a2.2.2.1 < a2.2.1)))
 fun x2 =>
 bif x2 then Option.bind F45 fun x3 => some x3
 else
 Option.bind (F2 a0 a1 a2.1 a2.2.1) fun x4 =>
 Option.bind (F2 a0 a1 a2.2.1 a2.2.2.1) fun x5 =>
 Option.bind (F2 a0 a1 a2.1 a2.2.2.1) fun x6 =>
 Option.bind
 (bif !decide (x4.2 = x5.2) then some true
 else
 bif !decide (x4.2 = x6.2) then some true
 else Option.bind (F46 x4.1 x5.1) fun x7 => Option.bind (F79 x7 x6.1) fun x8 => some !x8)
 fun x9 =>
 bif x9 then some false
 else
 Option.bind (F0 a0 a1 a2.1 a2.2.1) fun x10 =>
 Option.bind (F0 a0 a1 a2.2.1 a2.2.2.1) fun x11 =>
 Option.bind (F0 a0 a1 a2.1 a2.2.2.1) fun x12 =>
 Option.bind
 (bif decide (x10.2 = x11.2) then
 bif decide (x10.2 = x12.2) then
 Option.bind (F46 x10.1 x11.1) fun x13 =>
 Option.bind (F79 x13 x12.1) fun x14 => bif x14 then Option.bind F45 fun x15 => some x15 else some false
 else some false
 else some false)
 fun x16 => some x16
abbrev F38A : Pats := (.cons (.pd Y31) (.cons (.pd Y3) (.cons (.pd Y59) .nil)))
abbrev F38R : Pats := (.cons (.pd Y4) .nil)
noncomputable def F38S : Tr.Spec := { args := F38A, res := F38R, fns := [], α := El Y4, f := fun x => F38 x.1 x.2.1 x.2.2.1, unp := fun z => (((), (), (), ()), (z, ())), pl := false }
noncomputable def F38M : List (Nat × List Tr.Spec) := [(10, [F47S]), (11, [F45S]), (12, [F2S]), (14, [F79S]), (15, [F0S]), (21, [F65S]), (23, [F46S])]
def F38H : Hint := (.seq .leaf (.seq (.seq (.reg [(34, Y4)]) .leaf) (.seq .leaf (.seq .leaf (.seq .leaf (.seq (.seq (.reg [(81, Y4)]) .leaf) (.seq .leaf (.seq .leaf (.seq .leaf (.seq (.reg [(6, Y4)]) .leaf))))))))))
noncomputable def F38V (a0 : El Y31) (a1 : El Y3) (a2 : El Y59) : Option (El Y4) := evalF (mkE tyTab mapTab pkTab [] [] F38M 130 bdTab) (codeOf Tryz.f8) Tryz.f8.results F38H F38A F38R (fun y => y.2.1) (a0, a1, a2, ())
theorem F38_eq (a0 : El Y31) (a1 : El Y3) (a2 : El Y59) : F38V a0 a1 a2 = F38 a0 a1 a2 := by kernel_rfl
theorem F38_ok : FnOK Tryz.prog 8 F38S := fnOK_of (m := F38M) (fn := Tryz.f8) (hint := F38H) (pack := fun y => y.2.1) hmix tab_ok ⟨⟨F47_ok, trivial⟩, ⟨F45_ok, trivial⟩, ⟨F2_ok, trivial⟩, ⟨F79_ok, trivial⟩, ⟨F0_ok, trivial⟩, ⟨F65_ok, trivial⟩, ⟨F46_ok, trivial⟩, trivial⟩ fun x z h => (F38_eq x.1 x.2.1 x.2.2.1).trans h
noncomputable def F40 : (El Y36) → (El Y51) → Option (El Y4) := fun a0 a1 =>
 Option.bind
 (Tr.run
 (fun s0 =>
 bif decide (s0 < (↑(List.length a0) : Int)) then
 Option.bind (idx a0 s0) fun x1 =>
 bif decide (x1.1 = a1.1) && (decide (x1.2.1 = a1.2.1) && decide (x1.2.2.1 = a1.2.2.1)) then some (.inr (.inr true))
 else some (.inl (IntKind.wrap .i64 (s0 + (1 : Int))))
 else some (.inr (.inl ())))
 (0 : Int))
 fun x2 => Sum.elim (fun _ => some false) (fun y4 => some y4) x2
abbrev F40A : Pats := (.cons (.pd Y36) (.cons (.pd Y51) .nil))
abbrev F40R : Pats := (.cons (.pd Y4) .nil)
noncomputable def F40S : Tr.Spec := { args := F40A, res := F40R, fns := [], α := El Y4, f := fun x => F40 x.1 x.2.1, unp := fun z => (((), (), ()), (z, ())) }
noncomputable def F40M : List (Nat × List Tr.Spec) := []
def F40H : Hint := (.seq .leaf (.seq (.seq .leaf (.lp ⟨[(5, (.pd Y3))], [], [0, 3], []⟩ [((.exit 0), ⟨[], [], [], []⟩), (.ret, ⟨[(4, (.pd Y4))], [], [], []⟩)] .leaf)) .leaf))
noncomputable def F40V (a0 : El Y36) (a1 : El Y51) : Option (El Y4) := evalF (mkE tyTab mapTab pkTab [] [] F40M 18 bdTab) (codeOf Tryz.f24) Tryz.f24.results F40H F40A F40R (fun y => y.2.1) (a0, a1, ())
theorem F40_eq (a0 : El Y36) (a1 : El Y51) : F40V a0 a1 = F40 a0 a1 := by kernel_rfl
theorem F40_ok : FnOK Tryz.prog 24 F40S := fnOK_of (m := F40M) (fn := Tryz.f24) (hint := F40H) (pack := fun y => y.2.1) hmix tab_ok trivial fun x z h => (F40_eq x.1 x.2.1).trans h
noncomputable def F41 : (El Y36) → (El Y51) → Option (El Y4) := fun a0 a1 =>
 Option.bind
 (Tr.run
 (fun s0 =>
 bif decide (s0 < (↑(List.length a0) : Int)) then
 Option.bind
 (Option.bind (idx a0 s0) fun x1 =>
 bif decide (x1.1 = a1.1) then
 Option.bind (idx a0 s0) fun x2 =>
 bif decide (a1.2.1 < x2.2.1) then Option.bind (idx a0 s0) fun x3 => some (decide (a1.2.2.1 ≤ x3.2.2.1)) else some false
 else some false)
 fun x4 => bif x4 then some (.inr (.inr true)) else some (.inl (IntKind.wrap .i64 (s0 + (1 : Int))))
 else some (.inr (.inl ())))
 (0 : Int))
 fun x5 => Sum.elim (fun _ => some false) (fun y7 => some y7) x5
abbrev F41A : Pats := (.cons (.pd Y36) (.cons (.pd Y51) .nil))
abbrev F41R : Pats := (.cons (.pd Y4) .nil)
noncomputable def F41S : Tr.Spec := { args := F41A, res := F41R, fns := [], α := El Y4, f := fun x => F41 x.1 x.2.1, unp := fun z => (((), (), ()), (z, ())) }
noncomputable def F41M : List (Nat × List Tr.Spec) := []
def F41H : Hint := (.seq .leaf (.seq (.seq .leaf (.lp ⟨[(5, (.pd Y3))], [], [0, 3], []⟩ [((.exit 0), ⟨[], [], [], []⟩), (.ret, ⟨[(4, (.pd Y4))], [], [], []⟩)] (.seq .leaf (.seq (.seq (.reg [(39, Y4)]) .leaf) .leaf)))) .leaf))
noncomputable def F41V (a0 : El Y36) (a1 : El Y51) : Option (El Y4) := evalF (mkE tyTab mapTab pkTab [] [] F41M 40 bdTab) (codeOf Tryz.f25) Tryz.f25.results F41H F41A F41R (fun y => y.2.1) (a0, a1, ())
theorem F41_eq (a0 : El Y36) (a1 : El Y51) : F41V a0 a1 = F41 a0 a1 := by kernel_rfl
theorem F41_ok : FnOK Tryz.prog 25 F41S := fnOK_of (m := F41M) (fn := Tryz.f25) (hint := F41H) (pack := fun y => y.2.1) hmix tab_ok trivial fun x z h => (F41_eq x.1 x.2.1).trans h
noncomputable def F37 : (El Y31) → (El Y33) → (El Y3) → Option (El Y4) := fun a0 a1 a2 =>
 Option.bind
 (Option.bind (F47 a0) fun x0 =>
 bif !x0 then some true else Option.bind (F65 a0) fun x1 => bif !x1 then some true else some (decide (a2 < (0 : Int))))
 fun x2 =>
 bif x2 then Option.bind F45 fun x3 => some x3
 else
 Option.bind (F4 a0 a1.1 a1.2.1 a2) fun x4 =>
 bif !decide (x4.2 = (0 : Int)) then
 Option.bind (bif decide ((↑(List.length x4.1) : Int) = (0 : Int)) then Option.bind F45 fun x5 => some x5 else some false) fun x6 =>
 some x6
 else
 Option.bind (F2 a0 a1.1 a2 (1099511627776 : Int)) fun x7 =>
 Option.bind (F0 a0 a1.2.1 a2 (1099511627776 : Int)) fun x8 =>
 Option.bind (bif !decide (x7.2 = (0 : Int)) then some true else some !decide (x8.2 = (0 : Int))) fun x9 =>
 bif x9 then some false
 else
 Option.bind
 (Tr.run
 (fun s10 =>
 bif decide (s10 < (↑(List.length x4.1) : Int)) then
 Option.bind
 (Option.bind (idx x4.1 s10) fun x11 =>
 Option.bind (F40 x7.1 x11) fun x12 =>
 bif !x12 then some true else Option.bind (idx x4.1 s10) fun x13 => Option.bind (F41 x8.1 x13) fun x14 => some !x14)
 fun x15 => bif x15 then some (.inr (.inr false)) else some (.inl (IntKind.wrap .i64 (s10 + (1 : Int))))
 else some (.inr (.inl ())))
 (0 : Int))
 fun x16 => Sum.elim (fun _ => Option.bind F45 fun x18 => some x18) (fun y19 => some y19) x16
abbrev F37A : Pats := (.cons (.pd Y31) (.cons (.pd Y33) (.cons (.pd Y3) .nil)))
abbrev F37R : Pats := (.cons (.pd Y4) .nil)
noncomputable def F37S : Tr.Spec := { args := F37A, res := F37R, fns := [], α := El Y4, f := fun x => F37 x.1 x.2.1 x.2.2.1, unp := fun z => (((), (), (), ()), (z, ())), pl := false }
noncomputable def F37M : List (Nat × List Tr.Spec) := [(10, [F47S]), (11, [F45S]), (12, [F2S]), (15, [F0S]), (17, [F4S]), (21, [F65S]), (24, [F40S]), (25, [F41S])]
def F37H : Hint := (.seq .leaf (.seq (.seq (.reg [(25, Y4)]) .leaf) (.seq .leaf (.seq (.seq .leaf (.cnd none (.seq (.reg [(6, Y4)]) .leaf) .leaf)) (.seq .leaf (.seq .leaf (.seq (.seq (.reg [(66, Y4)]) .leaf) (.seq (.seq .leaf (.lp ⟨[(13, (.pd Y3))], [], [7, 9, 11], []⟩ [((.exit 0), ⟨[], [], [], []⟩), (.ret, ⟨[(6, (.pd Y4))], [], [], []⟩)] (.seq .leaf (.seq (.seq (.reg [(88, Y4)]) .leaf) .leaf)))) .leaf))))))))
noncomputable def F37V (a0 : El Y31) (a1 : El Y33) (a2 : El Y3) : Option (El Y4) := evalF (mkE tyTab mapTab pkTab [] [] F37M 90 bdTab) (codeOf Tryz.f9) Tryz.f9.results F37H F37A F37R (fun y => y.2.1) (a0, a1, a2, ())
theorem F37_eq (a0 : El Y31) (a1 : El Y33) (a2 : El Y3) : F37V a0 a1 a2 = F37 a0 a1 a2 := by kernel_rfl
theorem F37_ok : FnOK Tryz.prog 9 F37S := fnOK_of (m := F37M) (fn := Tryz.f9) (hint := F37H) (pack := fun y => y.2.1) hmix tab_ok ⟨⟨F47_ok, trivial⟩, ⟨F45_ok, trivial⟩, ⟨F2_ok, trivial⟩, ⟨F0_ok, trivial⟩, ⟨F4_ok, trivial⟩, ⟨F65_ok, trivial⟩, ⟨F40_ok, trivial⟩, ⟨F41_ok, trivial⟩, trivial⟩ fun x z h => (F37_eq x.1 x.2.1 x.2.2.1).trans h
end Q
