/- The functions of the program as functions of Lean, and that the program computes them; printed by a program of mine. Conditions: none. -/
import Derived.Test.YtbjnllepfnbaoaaGreatFin38za
open Tr Go Go.Proofs
namespace Q
noncomputable def F_ref26_Shortest : (El Y26) → (El Y3) → (El Y4) → Option (El Y147) := fun a0 a1 a2 =>
 Option.bind
 (Tr.run
 (fun s0 =>
 bif decide (s0.2 < a1) then
 Option.bind
 (Tr.run
 (fun s1 =>
 bif decide (s1.2.2 < a1) then
 Option.bind (guardB (decide (List.length s1.2.1 + List.length [(1099511627776 : Int)] ≤ maxApp))) fun _ =>
 some (.inl (s1.1, s1.2.1 ++ [(1099511627776 : Int)], IntKind.wrap .i64 (s1.2.2 + (1 : Int))))
 else some (.inr (s1.1, s1.2.1)))
 (s0.1, [], (0 : Int)))
 fun x3 =>
 Option.bind (guardB (decide (List.length x3.1 + List.length [x3.2] ≤ maxApp))) fun _ =>
 some (.inl (x3.1 ++ [x3.2], IntKind.wrap .i64 (s0.2 + (1 : Int))))
 else some (.inr s0.1))
 ([], (0 : Int)))
 fun x5 =>
 Option.bind
 (Tr.run
 (fun s6 =>
 bif decide (s6.2 < (↑(List.length a0) : Int)) then
 Option.bind (idx a0 s6.2) fun x7 =>
 Option.bind (bif x7.2.2.2.1 then some true else some !a2) fun x8 =>
 bif x8 then
 Option.bind (inb x7.1 (List.length s6.1)) fun x9 =>
 Option.bind s6.1[x9]? fun _ =>
 Option.bind (inb x7.1 (List.length s6.1)) fun x11 =>
 Option.bind s6.1[x11]? fun _ =>
 Option.bind (idx s6.1 (↑x11 : Int)) fun x13 =>
 Option.bind (inb x7.2.1 (List.length x13)) fun x14 =>
 Option.bind (idx s6.1 (↑x11 : Int)) fun x15 =>
 Option.bind x15[x14]? fun x16 =>
 Option.bind (idx s6.1 (↑x9 : Int)) fun x17 =>
 Option.bind (inb x7.2.1 (List.length x17)) fun x18 =>
 Option.bind (idx s6.1 (↑x9 : Int)) fun x19 =>
 Option.bind x19[x18]? fun _ =>
 some
 (.inl (List.set s6.1 (Int.toNat (↑x9 : Int)) (List.set x19 x18 (Tr.imin x16 x7.2.2.1)), IntKind.wrap .i64 (s6.2 + (1 : Int))))
 else some (.inl (s6.1, IntKind.wrap .i64 (s6.2 + (1 : Int))))
 else some (.inr s6.1))
 (x5, (0 : Int)))
 fun x21 =>
 Option.bind
 (Tr.run
 (fun s22 =>
 bif decide (s22.2 < a1) then
 Option.bind
 (Tr.run
 (fun s23 =>
 bif decide (s23.2 < a1) then
 Option.bind
 (Tr.run
 (fun s24 =>
 bif decide (s24.2 < a1) then
 Option.bind (inb s23.2 (List.length s24.1)) fun x25 =>
 Option.bind s24.1[x25]? fun _ =>
 Option.bind (inb s23.2 (List.length s24.1)) fun x27 =>
 Option.bind s24.1[x27]? fun _ =>
 Option.bind (idx s24.1 (↑x27 : Int)) fun x29 =>
 Option.bind (inb s24.2 (List.length x29)) fun x30 =>
 Option.bind (idx s24.1 (↑x27 : Int)) fun x31 =>
 Option.bind x31[x30]? fun x32 =>
 Option.bind (inb s23.2 (List.length s24.1)) fun x33 =>
 Option.bind s24.1[x33]? fun _ =>
 Option.bind (idx s24.1 (↑x33 : Int)) fun x35 =>
 Option.bind (inb s22.2 (List.length x35)) fun x36 =>
 Option.bind (idx s24.1 (↑x33 : Int)) fun x37 =>
 Option.bind x37[x36]? fun x38 =>
 Option.bind (inb s22.2 (List.length s24.1)) fun x39 =>
 Option.bind s24.1[x39]? fun _ =>
 Option.bind (idx s24.1 (↑x39 : Int)) fun x41 =>
 Option.bind (inb s24.2 (List.length x41)) fun x42 =>
 Option.bind (idx s24.1 (↑x39 : Int)) fun x43 =>
 Option.bind x43[x42]? fun x44 =>
 Option.bind (idx s24.1 (↑x25 : Int)) fun x45 =>
 Option.bind (inb s24.2 (List.length x45)) fun x46 =>
 Option.bind (idx s24.1 (↑x25 : Int)) fun x47 =>
 Option.bind x47[x46]? fun _ =>
 some
 (.inl
 (List.set s24.1 (Int.toNat (↑x25 : Int))
 (List.set x47 x46 (Tr.imin x32 (IntKind.wrap .i64 (x38 + x44)))),
 IntKind.wrap .i64 (s24.2 + (1 : Int))))
 else some (.inr s24.1))
 (s23.1, (0 : Int)))
 fun x49 => some (.inl (x49, IntKind.wrap .i64 (s23.2 + (1 : Int))))
 else some (.inr s23.1))
 (s22.1, (0 : Int)))
 fun x50 => some (.inl (x50, IntKind.wrap .i64 (s22.2 + (1 : Int))))
 else some (.inr s22.1))
 (x21, (0 : Int)))
 fun x51 => some x51
abbrev F_ref26_ShortestA : Pats := (.cons (.pd Y26) (.cons (.pd Y3) (.cons (.pd Y4) .nil)))
abbrev F_ref26_ShortestR : Pats := (.cons (.pd Y147) .nil)
noncomputable def F_ref26_ShortestS : Tr.Spec := { args := F_ref26_ShortestA, res := F_ref26_ShortestR, fns := [], α := El Y147, f := fun x => F_ref26_Shortest x.1 x.2.1 x.2.2.1, unp := fun z => (((), (), (), ()), (z, ())) }
noncomputable def F_ref26_ShortestM : List (Nat × List Tr.Spec) := []
def F_ref26_ShortestH : Hint := (.seq .leaf (.seq .leaf (.seq (.seq .leaf (.lp ⟨[(7, (.rows Y3 false)), (8, (.pd Y3))], [], [0, 1, 2], []⟩ [((.exit 0), ⟨[(7, (.rows Y3 false))], [], [0, 1, 2], []⟩)] (.seq .leaf (.seq (.seq .leaf (.seq (.seq .leaf (.lp ⟨[(7, (.rows Y3 false)), (9, (.own Y3 false)), (10, (.pd Y3))], [], [0, 1, 2, 8], []⟩ [((.exit 2), ⟨[(7, (.rows Y3 false)), (9, (.own Y3 false))], [], [0, 1, 2, 8], []⟩)] .leaf)) .leaf)) .leaf)))) (.seq (.seq .leaf (.lp ⟨[(7, (.rows Y3 false)), (11, (.pd Y3))], [], [0, 1, 2], []⟩ [((.exit 4), ⟨[(7, (.rows Y3 false))], [], [1], []⟩)] (.seq .leaf (.seq (.seq .leaf (.seq (.reg [(50, Y4)]) .leaf)) .leaf)))) (.seq (.seq .leaf (.lp ⟨[(7, (.rows Y3 false)), (13, (.pd Y3))], [], [1], []⟩ [((.exit 6), ⟨[(7, (.rows Y3 false))], [], [], []⟩)] (.seq .leaf (.seq (.seq .leaf (.lp ⟨[(7, (.rows Y3 false)), (14, (.pd Y3))], [], [1, 13], []⟩ [((.exit 8), ⟨[(7, (.rows Y3 false))], [], [1, 13], []⟩)] (.seq .leaf (.seq (.seq .leaf (.lp ⟨[(7, (.rows Y3 false)), (15, (.pd Y3))], [], [1, 13, 14], []⟩ [((.exit 10), ⟨[(7, (.rows Y3 false))], [], [1, 13, 14], []⟩)] .leaf)) .leaf)))) .leaf)))) .leaf)))))
noncomputable def F_ref26_ShortestV (a0 : El Y26) (a1 : El Y3) (a2 : El Y4) : Option (El Y147) := evalF (mkE tyTab mapTab pkTab [147] [] F_ref26_ShortestM 116) (codeOf Tryz.f81) Tryz.f81.results F_ref26_ShortestH F_ref26_ShortestA F_ref26_ShortestR (fun y => y.2.1) (a0, a1, a2, ())
theorem F_ref26_Shortest_eq (a0 : El Y26) (a1 : El Y3) (a2 : El Y4) : F_ref26_ShortestV a0 a1 a2 = F_ref26_Shortest a0 a1 a2 := by kernel_rfl
theorem F_ref26_Shortest_ok : FnOK Tryz.prog 81 F_ref26_ShortestS := fnOK_of (m := F_ref26_ShortestM) (fn := Tryz.f81) (hint := F_ref26_ShortestH) (pack := fun y => y.2.1) hmix tab_ok trivial fun x z h => (F_ref26_Shortest_eq x.1 x.2.1 x.2.2.1).trans h
noncomputable def F_ref26_Closed : (El Y26) → (El Y3) → Option (El Y26) := fun a0 a1 =>
 Option.bind (F_ref26_Shortest a0 a1 false) fun x0 =>
 Option.bind (F_ref26_Shortest a0 a1 true) fun x1 =>
 Option.bind
 (Tr.run
 (fun s2 =>
 bif decide (s2.2 < a1) then
 Option.bind
 (Tr.run
 (fun s3 =>
 bif decide (s3.2 < a1) then
 Option.bind
 (bif decide (s2.2 = s3.2) then some true
 else Option.bind (idx x0 s2.2) fun x4 => Option.bind (idx x4 s3.2) fun x5 => some (decide ((14400 : Int) < x5)))
 fun x6 =>
 bif x6 then some (.inl (s3.1, IntKind.wrap .i64 (s3.2 + (1 : Int))))
 else
 Option.bind (idx x0 s2.2) fun x7 =>
 Option.bind (idx x7 s3.2) fun x8 =>
 Option.bind (idx x1 s2.2) fun x9 =>
 Option.bind (idx x9 s3.2) fun x10 =>
 Option.bind (idx x0 s2.2) fun x11 =>
 Option.bind (idx x11 s3.2) fun x12 =>
 Option.bind (guardB (decide (List.length s3.1 + List.length [(s2.2, s3.2, x8, decide (x10 = x12), ())] ≤ maxApp))) fun _ =>
 Option.bind
 (Option.bind (idx x1 s2.2) fun x14 =>
 Option.bind (idx x14 s3.2) fun x15 =>
 Option.bind (idx x0 s2.2) fun x16 =>
 Option.bind (idx x16 s3.2) fun x17 =>
 bif decide (x17 < x15) then
 Option.bind (idx x1 s2.2) fun x18 => Option.bind (idx x18 s3.2) fun x19 => some (decide (x19 ≤ (14400 : Int)))
 else some false)
 fun x20 =>
 bif x20 then
 Option.bind (idx x1 s2.2) fun x21 =>
 Option.bind (idx x21 s3.2) fun x22 =>
 Option.bind
 (guardB
 (decide
 (List.length (s3.1 ++ [(s2.2, s3.2, x8, decide (x10 = x12), ())]) + List.length [(s2.2, s3.2, x22, true, ())] ≤
 maxApp)))
 fun _ =>
 some
 (.inl
 (s3.1 ++ [(s2.2, s3.2, x8, decide (x10 = x12), ())] ++ [(s2.2, s3.2, x22, true, ())],
 IntKind.wrap .i64 (s3.2 + (1 : Int))))
 else some (.inl (s3.1 ++ [(s2.2, s3.2, x8, decide (x10 = x12), ())], IntKind.wrap .i64 (s3.2 + (1 : Int))))
 else some (.inr s3.1))
 (s2.1, (0 : Int)))
 fun x24 => some (.inl (x24, IntKind.wrap .i64 (s2.2 + (1 : Int))))
 else some (.inr s2.1))
 ([], (0 : Int)))
 fun x25 => some x25
abbrev F_ref26_ClosedA : Pats := (.cons (.pd Y26) (.cons (.pd Y3) .nil))
abbrev F_ref26_ClosedR : Pats := (.cons (.pd Y26) .nil)
noncomputable def F_ref26_ClosedS : Tr.Spec := { args := F_ref26_ClosedA, res := F_ref26_ClosedR, fns := [], α := El Y26, f := fun x => F_ref26_Closed x.1 x.2.1, unp := fun z => (((), (), ()), (z, ())) }
noncomputable def F_ref26_ClosedM : List (Nat × List Tr.Spec) := [(81, [F_ref26_ShortestS])]
def F_ref26_ClosedH : Hint := (.seq .leaf (.seq .leaf (.seq .leaf (.seq (.seq .leaf (.lp ⟨[(7, (.own Y131 false)), (8, (.pd Y3))], [], [1, 5, 6], []⟩ [((.exit 0), ⟨[(7, (.own Y131 false))], [], [], []⟩)] (.seq .leaf (.seq (.seq .leaf (.lp ⟨[(7, (.own Y131 false)), (9, (.pd Y3))], [], [1, 5, 6, 8], []⟩ [((.exit 2), ⟨[(7, (.own Y131 false))], [], [1, 5, 6, 8], []⟩)] (.seq .leaf (.seq (.seq (.seq (.reg [(39, Y4)]) .leaf) (.seq .leaf (.seq (.reg [(92, Y4)]) .leaf))) .leaf)))) .leaf)))) .leaf))))
noncomputable def F_ref26_ClosedV (a0 : El Y26) (a1 : El Y3) : Option (El Y26) := evalF (mkE tyTab mapTab pkTab [] [] F_ref26_ClosedM 107) (codeOf Tryz.f74) Tryz.f74.results F_ref26_ClosedH F_ref26_ClosedA F_ref26_ClosedR (fun y => y.2.1) (a0, a1, ())
theorem F_ref26_Closed_eq (a0 : El Y26) (a1 : El Y3) : F_ref26_ClosedV a0 a1 = F_ref26_Closed a0 a1 := by kernel_rfl
theorem F_ref26_Closed_ok : FnOK Tryz.prog 74 F_ref26_ClosedS := fnOK_of (m := F_ref26_ClosedM) (fn := Tryz.f74) (hint := F_ref26_ClosedH) (pack := fun y => y.2.1) hmix tab_ok ⟨⟨F_ref26_Shortest_ok, trivial⟩, trivial⟩ fun x z h => (F_ref26_Closed_eq x.1 x.2.1).trans h
noncomputable def F_ref26_paths : (El Y31) → Option (El Y3 × El Y42) := fun a0 =>
 Option.bind
 (Tr.run
 (fun s0 =>
 bif decide (s0 < (↑(List.length a0.2.2.2.2.1) : Int)) then
 Option.bind (idx a0.2.2.2.2.1 s0) fun x1 =>
 Option.bind
 (Option.bind (F_ref26_in x1.1 (0 : Int) (IntKind.wrap .i64 ((↑(List.length a0.1) : Int) - (1 : Int)))) fun x2 =>
 bif !x2 then some true
 else
 Option.bind (F_ref26_in x1.2.1 (0 : Int) (IntKind.wrap .i64 ((↑(List.length a0.1) : Int) - (1 : Int)))) fun x3 =>
 bif !x3 then some true else some (decide (x1.1 = x1.2.1)))
 fun x4 =>
 bif x4 then some (.inr (.inr (s0, (9 : Int))))
 else
 Option.bind (F_ref26_in x1.2.2.1 (1 : Int) (14400 : Int)) fun x5 =>
 bif !x5 then some (.inr (.inr (s0, (2 : Int))))
 else
 Option.bind
 (Tr.run
 (fun s6 =>
 bif decide (s6 < s0) then
 Option.bind (idx a0.2.2.2.2.1 s6) fun x7 =>
 Option.bind
 (bif decide (x7.1 = x1.1) then
 bif decide (x7.2.1 = x1.2.1) then some (x7.2.2.2.1 == x1.2.2.2.1) else some false
 else some false)
 fun x8 => bif x8 then some (.inr (.inr (s0, (6 : Int)))) else some (.inl (IntKind.wrap .i64 (s6 + (1 : Int))))
 else some (.inr (.inl ())))
 (0 : Int))
 fun x9 => Sum.elim (fun _ => some (.inl (IntKind.wrap .i64 (s0 + (1 : Int))))) (fun y11 => some (.inr (.inr (y11.1, y11.2)))) x9
 else some (.inr (.inl ())))
 (0 : Int))
 fun x12 =>
 Sum.elim
 (fun _ =>
 Option.bind (F_ref26_Closed a0.2.2.2.2.1 (↑(List.length a0.1) : Int)) fun x14 =>
 bif !decide ((↑(List.length x14) : Int) = (↑(List.length a0.2.2.2.2.1) : Int)) then some ((0 : Int), (18 : Int))
 else
 Option.bind
 (Tr.run
 (fun s15 =>
 bif decide (s15 < (↑(List.length x14) : Int)) then
 Option.bind (idx x14 s15) fun x16 =>
 Option.bind (idx a0.2.2.2.2.1 s15) fun x17 =>
 bif
 !(decide (x16.1 = x17.1) &&
 (decide (x16.2.1 = x17.2.1) && (decide (x16.2.2.1 = x17.2.2.1) && x16.2.2.2.1 == x17.2.2.2.1))) then
 some (.inr (.inr ((0 : Int), (18 : Int))))
 else some (.inl (IntKind.wrap .i64 (s15 + (1 : Int))))
 else some (.inr (.inl ())))
 (0 : Int))
 fun x18 => Sum.elim (fun _ => some ((0 : Int), (0 : Int))) (fun y20 => some (y20.1, y20.2)) x18)
 (fun y21 => some (y21.1, y21.2)) x12
abbrev F_ref26_pathsA : Pats := (.cons (.pd Y31) .nil)
abbrev F_ref26_pathsR : Pats := (.cons (.pd Y3) (.cons (.pd Y42) .nil))
noncomputable def F_ref26_pathsS : Tr.Spec := { args := F_ref26_pathsA, res := F_ref26_pathsR, fns := [], α := El Y3 × El Y42, f := fun x => F_ref26_paths x.1, unp := fun z => (((), ()), (z.1, z.2, ())) }
noncomputable def F_ref26_pathsM : List (Nat × List Tr.Spec) := [(71, [F_ref26_inS]), (74, [F_ref26_ClosedS])]
def F_ref26_pathsH : Hint := (.seq .leaf (.seq (.seq .leaf (.lp ⟨[(4, (.pd Y3))], [], [1], []⟩ [((.exit 0), ⟨[], [], [1], []⟩), (.ret, ⟨[(2, (.pd Y3)), (3, (.pd Y42))], [], [], []⟩)] (.seq .leaf (.seq (.seq .leaf (.seq (.seq (.reg [(46, Y4)]) .leaf) (.seq .leaf (.seq .leaf (.lp ⟨[(6, (.pd Y3))], [], [1, 4, 5], []⟩ [((.exit 2), ⟨[], [], [1, 4], []⟩), (.ret, ⟨[(2, (.pd Y3)), (3, (.pd Y42))], [], [], []⟩)] (.seq .leaf (.seq (.seq .leaf (.seq (.reg [(81, Y4)]) .leaf)) .leaf))))))) .leaf)))) (.seq .leaf (.seq .leaf (.seq (.seq .leaf (.lp ⟨[(9, (.pd Y3))], [], [1, 8], []⟩ [((.exit 4), ⟨[], [], [], []⟩), (.ret, ⟨[(2, (.pd Y3)), (3, (.pd Y42))], [], [], []⟩)] .leaf)) .leaf)))))
noncomputable def F_ref26_pathsV (a0 : El Y31) : Option (El Y3 × El Y42) := evalF (mkE tyTab mapTab pkTab [] [] F_ref26_pathsM 111) (codeOf Tryz.f65) Tryz.f65.results F_ref26_pathsH F_ref26_pathsA F_ref26_pathsR (fun y => (y.2.1, y.2.2.1)) (a0, ())
theorem F_ref26_paths_eq (a0 : El Y31) : F_ref26_pathsV a0 = F_ref26_paths a0 := by kernel_rfl
theorem F_ref26_paths_ok : FnOK Tryz.prog 65 F_ref26_pathsS := fnOK_of (m := F_ref26_pathsM) (fn := Tryz.f65) (hint := F_ref26_pathsH) (pack := fun y => (y.2.1, y.2.2.1)) hmix tab_ok ⟨⟨F_ref26_in_ok, trivial⟩, ⟨F_ref26_Closed_ok, trivial⟩, trivial⟩ fun x z h => (F_ref26_paths_eq x.1).trans h
noncomputable def F_ref26_Fares : (El Y29) → Option (El Y3 × El Y42) := fun a0 =>
 Option.bind
 (Option.bind (F_ref26_in a0.2.1 (0 : Int) (1000000 : Int)) fun x0 =>
 bif !x0 then some true
 else
 Option.bind (F_ref26_in a0.2.2.1 (0 : Int) (86400 : Int)) fun x1 =>
 bif !x1 then some true else Option.bind (F_ref26_in a0.2.2.2.1 (0 : Int) (1000000 : Int)) fun x2 => some !x2)
 fun x3 =>
 bif x3 then some ((-1 : Int), (2 : Int))
 else
 bif decide ((16 : Int) < (↑(List.length a0.1) : Int)) then some ((0 : Int), (5 : Int))
 else
 Option.bind
 (Tr.run
 (fun s4 =>
 bif decide (s4 < (↑(List.length a0.1) : Int)) then
 Option.bind (idx a0.1 s4) fun x5 =>
 Option.bind (F_ref26_ValidID x5.1) fun x6 =>
 bif !x6 then some (.inr (.inr (s4, (12 : Int))))
 else
 Option.bind
 (Tr.run
 (fun s7 =>
 bif decide (s7 < s4) then
 Option.bind (idx a0.1 s7) fun x8 =>
 bif decide (x8.1 = x5.1) then some (.inr (.inr (s4, (6 : Int)))) else some (.inl (IntKind.wrap .i64 (s7 + (1 : Int))))
 else some (.inr (.inl ())))
 (0 : Int))
 fun x9 =>
 Sum.elim
 (fun _ =>
 Option.bind
 (Option.bind (F_ref26_in x5.2.1 (0 : Int) (1000000 : Int)) fun x11 =>
 bif !x11 then some true
 else
 Option.bind (F_ref26_in x5.2.2.1 (1 : Int) (8 : Int)) fun x12 =>
 bif !x12 then some true
 else
 Option.bind (F_ref26_in x5.2.2.2.1 (1 : Int) (16 : Int)) fun x13 =>
 bif !x13 then some true
 else
 Option.bind (F_ref26_in x5.2.2.2.2.1 (0 : Int) (86400 : Int)) fun x14 =>
 bif !x14 then some true else Option.bind (F_ref26_in x5.2.2.2.2.2.1 (1 : Int) (255 : Int)) fun x15 => some !x15)
 fun x16 => bif x16 then some (.inr (.inr (s4, (2 : Int)))) else some (.inl (IntKind.wrap .i64 (s4 + (1 : Int)))))
 (fun y17 => some (.inr (.inr (y17.1, y17.2)))) x9
 else some (.inr (.inl ())))
 (0 : Int))
 fun x18 => Sum.elim (fun _ => some ((0 : Int), (0 : Int))) (fun y20 => some (y20.1, y20.2)) x18
abbrev F_ref26_FaresA : Pats := (.cons (.pd Y29) .nil)
abbrev F_ref26_FaresR : Pats := (.cons (.pd Y3) (.cons (.pd Y42) .nil))
noncomputable def F_ref26_FaresS : Tr.Spec := { args := F_ref26_FaresA, res := F_ref26_FaresR, fns := [], α := El Y3 × El Y42, f := fun x => F_ref26_Fares x.1, unp := fun z => (((), ()), (z.1, z.2, ())) }
noncomputable def F_ref26_FaresM : List (Nat × List Tr.Spec) := [(70, [F_ref26_ValidIDS]), (71, [F_ref26_inS])]
def F_ref26_FaresH : Hint := (.seq .leaf (.seq (.seq (.reg [(22, Y4)]) .leaf) (.seq .leaf (.seq (.seq .leaf (.lp ⟨[(4, (.pd Y3))], [], [1], []⟩ [((.exit 0), ⟨[], [], [], []⟩), (.ret, ⟨[(2, (.pd Y3)), (3, (.pd Y42))], [], [], []⟩)] (.seq .leaf (.seq (.seq .leaf (.seq .leaf (.seq (.seq .leaf (.lp ⟨[(6, (.pd Y3))], [], [1, 4, 5], []⟩ [((.exit 2), ⟨[], [], [1, 4, 5], []⟩), (.ret, ⟨[(2, (.pd Y3)), (3, (.pd Y42))], [], [], []⟩)] .leaf)) (.seq (.reg [(86, Y4)]) .leaf)))) .leaf)))) .leaf))))
noncomputable def F_ref26_FaresV (a0 : El Y29) : Option (El Y3 × El Y42) := evalF (mkE tyTab mapTab pkTab [] [] F_ref26_FaresM 88) (codeOf Tryz.f66) Tryz.f66.results F_ref26_FaresH F_ref26_FaresA F_ref26_FaresR (fun y => (y.2.1, y.2.2.1)) (a0, ())
theorem F_ref26_Fares_eq (a0 : El Y29) : F_ref26_FaresV a0 = F_ref26_Fares a0 := by kernel_rfl
theorem F_ref26_Fares_ok : FnOK Tryz.prog 66 F_ref26_FaresS := fnOK_of (m := F_ref26_FaresM) (fn := Tryz.f66) (hint := F_ref26_FaresH) (pack := fun y => (y.2.1, y.2.2.1)) hmix tab_ok ⟨⟨F_ref26_ValidID_ok, trivial⟩, ⟨F_ref26_in_ok, trivial⟩, trivial⟩ fun x z h => (F_ref26_Fares_eq x.1).trans h
noncomputable def F_ref26_Check : (El Y31) → Option (El Y3 × El Y3 × El Y42) := fun a0 =>
 Option.bind (F_ref26_stops a0.1) fun x0 =>
 bif !decide (x0.2 = (0 : Int)) then some ((0 : Int), x0.1, x0.2)
 else
 Option.bind (F_ref26_routes a0.2.1) fun x1 =>
 bif !decide (x1.2 = (0 : Int)) then some ((1 : Int), x1.1, x1.2)
 else
 bif decide ((1024 : Int) < (↑(List.length a0.2.2.1) : Int)) then some ((2 : Int), (0 : Int), (5 : Int))
 else
 Option.bind
 (Tr.run
 (fun s2 =>
 bif decide (s2 < (↑(List.length a0.2.2.1) : Int)) then
 Option.bind (F_ref26_run a0 s2) fun x3 =>
 bif !decide (x3 = (0 : Int)) then some (.inr (.inr ((2 : Int), s2, x3))) else some (.inl (IntKind.wrap .i64 (s2 + (1 : Int))))
 else some (.inr (.inl ())))
 (0 : Int))
 fun x4 =>
 Sum.elim
 (fun _ =>
 bif decide ((1024 : Int) < (↑(List.length a0.2.2.2.1) : Int)) then some ((3 : Int), (0 : Int), (5 : Int))
 else
 Option.bind
 (Tr.run
 (fun s6 =>
 bif decide (s6 < (↑(List.length a0.2.2.2.1) : Int)) then
 Option.bind (F_ref26_link a0 s6) fun x7 =>
 bif !decide (x7 = (0 : Int)) then some (.inr (.inr ((3 : Int), s6, x7)))
 else some (.inl (IntKind.wrap .i64 (s6 + (1 : Int))))
 else some (.inr (.inl ())))
 (0 : Int))
 fun x8 =>
 Sum.elim
 (fun _ =>
 Option.bind (F_ref26_paths a0) fun x10 =>
 bif !decide (x10.2 = (0 : Int)) then some ((4 : Int), x10.1, x10.2)
 else
 Option.bind (F_ref26_Fares a0.2.2.2.2.2.1) fun x11 =>
 bif !decide (x11.2 = (0 : Int)) then some ((5 : Int), x11.1, x11.2) else some ((0 : Int), (0 : Int), (0 : Int)))
 (fun y12 => some (y12.1, y12.2.1, y12.2.2)) x8)
 (fun y13 => some (y13.1, y13.2.1, y13.2.2)) x4
abbrev F_ref26_CheckA : Pats := (.cons (.pd Y31) .nil)
abbrev F_ref26_CheckR : Pats := (.cons (.pd Y3) (.cons (.pd Y3) (.cons (.pd Y42) .nil)))
noncomputable def F_ref26_CheckS : Tr.Spec := { args := F_ref26_CheckA, res := F_ref26_CheckR, fns := [], α := El Y3 × El Y3 × El Y42, f := fun x => F_ref26_Check x.1, unp := fun z => (((), ()), (z.1, z.2.1, z.2.2, ())) }
noncomputable def F_ref26_CheckM : List (Nat × List Tr.Spec) := [(61, [F_ref26_stopsS]), (62, [F_ref26_routesS]), (63, [F_ref26_runS]), (64, [F_ref26_linkS]), (65, [F_ref26_pathsS]), (66, [F_ref26_FaresS])]
def F_ref26_CheckH : Hint := (.seq .leaf (.seq .leaf (.seq .leaf (.seq .leaf (.seq .leaf (.seq .leaf (.seq (.seq .leaf (.lp ⟨[(7, (.pd Y3))], [], [1], []⟩ [((.exit 0), ⟨[], [], [1], []⟩), (.ret, ⟨[(2, (.pd Y3)), (3, (.pd Y3)), (4, (.pd Y42))], [], [], []⟩)] .leaf)) (.seq .leaf (.seq (.seq .leaf (.lp ⟨[(8, (.pd Y3))], [], [1], []⟩ [((.exit 2), ⟨[], [], [1], []⟩), (.ret, ⟨[(2, (.pd Y3)), (3, (.pd Y3)), (4, (.pd Y42))], [], [], []⟩)] .leaf)) .leaf)))))))))
noncomputable def F_ref26_CheckV (a0 : El Y31) : Option (El Y3 × El Y3 × El Y42) := evalF (mkE tyTab mapTab pkTab [] [] F_ref26_CheckM 84) (codeOf Tryz.f45) Tryz.f45.results F_ref26_CheckH F_ref26_CheckA F_ref26_CheckR (fun y => (y.2.1, y.2.2.1, y.2.2.2.1)) (a0, ())
theorem F_ref26_Check_eq (a0 : El Y31) : F_ref26_CheckV a0 = F_ref26_Check a0 := by kernel_rfl
theorem F_ref26_Check_ok : FnOK Tryz.prog 45 F_ref26_CheckS := fnOK_of (m := F_ref26_CheckM) (fn := Tryz.f45) (hint := F_ref26_CheckH) (pack := fun y => (y.2.1, y.2.2.1, y.2.2.2.1)) hmix tab_ok ⟨⟨F_ref26_stops_ok, trivial⟩, ⟨F_ref26_routes_ok, trivial⟩, ⟨F_ref26_run_ok, trivial⟩, ⟨F_ref26_link_ok, trivial⟩, ⟨F_ref26_paths_ok, trivial⟩, ⟨F_ref26_Fares_ok, trivial⟩, trivial⟩ fun x z h => (F_ref26_Check_eq x.1).trans h
noncomputable def F_ref26_Valid : (El Y31) → Option (El Y4) := fun a0 => Option.bind (F_ref26_Check a0) fun x0 => some (decide (x0.2.2 = (0 : Int)))
abbrev F_ref26_ValidA : Pats := (.cons (.pd Y31) .nil)
abbrev F_ref26_ValidR : Pats := (.cons (.pd Y4) .nil)
noncomputable def F_ref26_ValidS : Tr.Spec := { args := F_ref26_ValidA, res := F_ref26_ValidR, fns := [], α := El Y4, f := fun x => F_ref26_Valid x.1, unp := fun z => (((), ()), (z, ())) }
noncomputable def F_ref26_ValidM : List (Nat × List Tr.Spec) := [(45, [F_ref26_CheckS])]
def F_ref26_ValidH : Hint := .leaf
noncomputable def F_ref26_ValidV (a0 : El Y31) : Option (El Y4) := evalF (mkE tyTab mapTab pkTab [] [] F_ref26_ValidM 14) (codeOf Tryz.f26) Tryz.f26.results F_ref26_ValidH F_ref26_ValidA F_ref26_ValidR (fun y => y.2.1) (a0, ())
theorem F_ref26_Valid_eq (a0 : El Y31) : F_ref26_ValidV a0 = F_ref26_Valid a0 := by kernel_rfl
theorem F_ref26_Valid_ok : FnOK Tryz.prog 26 F_ref26_ValidS := fnOK_of (m := F_ref26_ValidM) (fn := Tryz.f26) (hint := F_ref26_ValidH) (pack := fun y => y.2.1) hmix tab_ok ⟨⟨F_ref26_Check_ok, trivial⟩, trivial⟩ fun x z h => (F_ref26_Valid_eq x.1).trans h
noncomputable def F_ref38_Exists : (El Y31) → (El Y64) → Option (El Y4) := fun a0 a1 =>
 Option.bind (bif decide (a1.2.1 < (0 : Int)) then some true else some (decide ((↑(List.length a0.2.2.1) : Int) ≤ a1.2.1))) fun x0 =>
 bif x0 then some false
 else
 Option.bind
 (bif decide ((0 : Int) ≤ a1.2.2.1) then
 bif decide (a1.2.2.1 < a1.2.2.2.1) then
 Option.bind (idx a0.2.2.1 a1.2.1) fun x1 => some (decide (a1.2.2.2.1 < (↑(List.length x1.2.2.2.2.2.2.2.1) : Int)))
 else some false
 else some false)
 fun x2 => some x2
abbrev F_ref38_ExistsA : Pats := (.cons (.pd Y31) (.cons (.pd Y64) .nil))
abbrev F_ref38_ExistsR : Pats := (.cons (.pd Y4) .nil)
noncomputable def F_ref38_ExistsS : Tr.Spec := { args := F_ref38_ExistsA, res := F_ref38_ExistsR, fns := [], α := El Y4, f := fun x => F_ref38_Exists x.1 x.2.1, unp := fun z => (((), (), ()), (z, ())) }
noncomputable def F_ref38_ExistsM : List (Nat × List Tr.Spec) := []
def F_ref38_ExistsH : Hint := (.seq .leaf (.seq (.seq (.reg [(15, Y4)]) .leaf) (.seq (.reg [(4, Y4)]) .leaf)))
noncomputable def F_ref38_ExistsV (a0 : El Y31) (a1 : El Y64) : Option (El Y4) := evalF (mkE tyTab mapTab pkTab [] [] F_ref38_ExistsM 39) (codeOf Tryz.f27) Tryz.f27.results F_ref38_ExistsH F_ref38_ExistsA F_ref38_ExistsR (fun y => y.2.1) (a0, a1, ())
theorem F_ref38_Exists_eq (a0 : El Y31) (a1 : El Y64) : F_ref38_ExistsV a0 a1 = F_ref38_Exists a0 a1 := by kernel_rfl
theorem F_ref38_Exists_ok : FnOK Tryz.prog 27 F_ref38_ExistsS := fnOK_of (m := F_ref38_ExistsM) (fn := Tryz.f27) (hint := F_ref38_ExistsH) (pack := fun y => y.2.1) hmix tab_ok trivial fun x z h => (F_ref38_Exists_eq x.1 x.2.1).trans h
noncomputable def F_ref38_zones : (El Y31) → (El Y64) → Option (El Y3) := fun a0 a1 =>
 Option.bind (idx a0.2.2.1 a1.2.1) fun x0 =>
 Option.bind
 (Tr.run
 (fun s1 =>
 bif decide (s1.2 ≤ a1.2.2.2.1) then
 Option.bind (idx x0.2.2.2.2.2.2.2.1 s1.2) fun x2 =>
 Option.bind (idx a0.1 x2.1) fun x3 =>
 Option.bind (Tr.qshl .i64 (1 : Int) x3.2.1) fun x4 => some (.inl (Tr.qor .i64 s1.1 x4, IntKind.wrap .i64 (s1.2 + (1 : Int))))
 else some (.inr s1.1))
 ((0 : Int), a1.2.2.1))
 fun x5 => some x5
abbrev F_ref38_zonesA : Pats := (.cons (.pd Y31) (.cons (.pd Y64) .nil))
abbrev F_ref38_zonesR : Pats := (.cons (.pd Y3) .nil)
noncomputable def F_ref38_zonesS : Tr.Spec := { args := F_ref38_zonesA, res := F_ref38_zonesR, fns := [], α := El Y3, f := fun x => F_ref38_zones x.1 x.2.1, unp := fun z => (((), (), ()), (z, ())) }
noncomputable def F_ref38_zonesM : List (Nat × List Tr.Spec) := []
def F_ref38_zonesH : Hint := (.seq .leaf (.seq .leaf (.seq .leaf (.seq (.seq .leaf (.lp ⟨[(5, (.pd Y3)), (7, (.pd Y3))], [], [2, 3, 6], []⟩ [((.exit 0), ⟨[(5, (.pd Y3))], [], [], []⟩)] .leaf)) .leaf))))
noncomputable def F_ref38_zonesV (a0 : El Y31) (a1 : El Y64) : Option (El Y3) := evalF (mkE tyTab mapTab pkTab [] [] F_ref38_zonesM 37) (codeOf Tryz.f28) Tryz.f28.results F_ref38_zonesH F_ref38_zonesA F_ref38_zonesR (fun y => y.2.1) (a0, a1, ())
theorem F_ref38_zones_eq (a0 : El Y31) (a1 : El Y64) : F_ref38_zonesV a0 a1 = F_ref38_zones a0 a1 := by kernel_rfl
theorem F_ref38_zones_ok : FnOK Tryz.prog 28 F_ref38_zonesS := fnOK_of (m := F_ref38_zonesM) (fn := Tryz.f28) (hint := F_ref38_zonesH) (pack := fun y => y.2.1) hmix tab_ok trivial fun x z h => (F_ref38_zones_eq x.1 x.2.1).trans h
noncomputable def F_ref38_Rides : (El Y31) → (El Y36) → Option (El Y60 × El Y42) := fun a0 a1 =>
 Option.bind (F_ref26_Valid a0) fun x0 =>
 bif !x0 then some ([], (21 : Int))
 else
 Option.bind
 (Tr.run
 (fun s1 =>
 bif decide (s1.2 < (↑(List.length a1.1) : Int)) then
 Option.bind (idx a1.1 s1.2) fun x2 =>
 Option.bind (bif x2.1 then Option.bind (F_ref38_Exists a0 x2) fun x3 => some !x3 else some false) fun x4 =>
 bif x4 then some (.inr (.inr ([], (9 : Int))))
 else
 Option.bind
 (bif x2.2.2.2.2.2.2.2.2.1 then
 bif !x2.1 then some true
 else
 bif decide (s1.2 = (0 : Int)) then some true
 else Option.bind (idx a1.1 (IntKind.wrap .i64 (s1.2 - (1 : Int)))) fun x5 => some !x5.1
 else some false)
 fun x6 =>
 bif x6 then some (.inr (.inr ([], (19 : Int))))
 else
 bif !x2.1 then some (.inl (s1.1, IntKind.wrap .i64 (s1.2 + (1 : Int))))
 else
 Option.bind (idx a0.2.2.1 x2.2.1) fun x7 =>
 Option.bind (idx a0.2.1 x7.2.2.2.2.1) fun x8 =>
 Option.bind (Tr.qshl .i64 (1 : Int) x8.2.1) fun x9 =>
 bif x2.2.2.2.2.2.2.2.2.1 then
 Option.bind (inb (IntKind.wrap .i64 ((↑(List.length s1.1) : Int) - (1 : Int))) (List.length s1.1)) fun x10 =>
 Option.bind s1.1[x10]? fun x11 =>
 Option.bind
 (inb (IntKind.wrap .i64 ((↑(List.length s1.1) : Int) - (1 : Int)))
 (List.length (List.set s1.1 x10 (x11.1, x2.2.2.2.2.2.2.2.1, x11.2.2))))
 fun x12 =>
 Option.bind (List.set s1.1 x10 (x11.1, x2.2.2.2.2.2.2.2.1, x11.2.2))[x12]? fun x13 =>
 Option.bind (F_ref38_zones a0 x2) fun x14 =>
 Option.bind
 (inb (IntKind.wrap .i64 ((↑(List.length s1.1) : Int) - (1 : Int)))
 (List.length (List.set s1.1 x10 (x11.1, x2.2.2.2.2.2.2.2.1, x11.2.2))))
 fun x15 =>
 Option.bind (List.set s1.1 x10 (x11.1, x2.2.2.2.2.2.2.2.1, x11.2.2))[x15]? fun x16 =>
 Option.bind
 (inb (IntKind.wrap .i64 ((↑(List.length s1.1) : Int) - (1 : Int)))
 (List.length
 (List.set (List.set s1.1 x10 (x11.1, x2.2.2.2.2.2.2.2.1, x11.2.2)) x15
 (x16.1, x16.2.1, Tr.qor .i64 x13.2.2.1 x14, x16.2.2.2))))
 fun x17 =>
 Option.bind
 (List.set (List.set s1.1 x10 (x11.1, x2.2.2.2.2.2.2.2.1, x11.2.2)) x15
 (x16.1, x16.2.1, Tr.qor .i64 x13.2.2.1 x14, x16.2.2.2))[x17]?
 fun x18 =>
 Option.bind
 (inb (IntKind.wrap .i64 ((↑(List.length s1.1) : Int) - (1 : Int)))
 (List.length
 (List.set (List.set s1.1 x10 (x11.1, x2.2.2.2.2.2.2.2.1, x11.2.2)) x15
 (x16.1, x16.2.1, Tr.qor .i64 x13.2.2.1 x14, x16.2.2.2))))
 fun x19 =>
 Option.bind
 (List.set (List.set s1.1 x10 (x11.1, x2.2.2.2.2.2.2.2.1, x11.2.2)) x15
 (x16.1, x16.2.1, Tr.qor .i64 x13.2.2.1 x14, x16.2.2.2))[x19]?
 fun x20 =>
 some
 (.inl
 (List.set
 (List.set (List.set s1.1 x10 (x11.1, x2.2.2.2.2.2.2.2.1, x11.2.2)) x15
 (x16.1, x16.2.1, Tr.qor .i64 x13.2.2.1 x14, x16.2.2.2))
 x19 (x20.1, x20.2.1, x20.2.2.1, Tr.qor .i64 x18.2.2.2.1 x9, x20.2.2.2.2),
 IntKind.wrap .i64 (s1.2 + (1 : Int))))
 else
 Option.bind (F_ref38_zones a0 x2) fun x21 =>
 Option.bind
 (guardB (decide (List.length s1.1 + List.length [(x2.2.2.2.2.2.2.1, x2.2.2.2.2.2.2.2.1, x21, x9, ())] ≤ maxApp)))
 fun _ =>
 some
 (.inl (s1.1 ++ [(x2.2.2.2.2.2.2.1, x2.2.2.2.2.2.2.2.1, x21, x9, ())], IntKind.wrap .i64 (s1.2 + (1 : Int))))
 else some (.inr (.inl s1.1)))
 ([], (0 : Int)))
 fun x23 => Sum.elim (fun y24 => some (y24, (0 : Int))) (fun y25 => some (y25.1, y25.2)) x23
abbrev F_ref38_RidesA : Pats := (.cons (.pd Y31) (.cons (.pd Y36) .nil))
abbrev F_ref38_RidesR : Pats := (.cons (.pd Y60) (.cons (.pd Y42) .nil))
noncomputable def F_ref38_RidesS : Tr.Spec := { args := F_ref38_RidesA, res := F_ref38_RidesR, fns := [], α := El Y60 × El Y42, f := fun x => F_ref38_Rides x.1 x.2.1, unp := fun z => (((), (), ()), (z.1, z.2, ())) }
noncomputable def F_ref38_RidesM : List (Nat × List Tr.Spec) := [(26, [F_ref26_ValidS]), (27, [F_ref38_ExistsS]), (28, [F_ref38_zonesS])]
def F_ref38_RidesH : Hint := (.seq .leaf (.seq .leaf (.seq .leaf (.seq (.seq .leaf (.lp ⟨[(6, (.own Y67 false)), (7, (.pd Y3))], [], [2, 3], []⟩ [((.exit 0), ⟨[(6, (.own Y67 false))], [], [], []⟩), (.ret, ⟨[(4, (.pd Y60)), (5, (.pd Y42))], [], [], []⟩)] (.seq .leaf (.seq (.seq .leaf (.seq (.seq (.reg [(34, Y4)]) .leaf) (.seq (.seq (.reg [(55, Y4)]) .leaf) .leaf))) .leaf)))) .leaf))))
noncomputable def F_ref38_RidesV (a0 : El Y31) (a1 : El Y36) : Option (El Y60 × El Y42) := evalF (mkE tyTab mapTab pkTab [] [] F_ref38_RidesM 120) (codeOf Tryz.f14) Tryz.f14.results F_ref38_RidesH F_ref38_RidesA F_ref38_RidesR (fun y => (y.2.1, y.2.2.1)) (a0, a1, ())
theorem F_ref38_Rides_eq (a0 : El Y31) (a1 : El Y36) : F_ref38_RidesV a0 a1 = F_ref38_Rides a0 a1 := by kernel_rfl
theorem F_ref38_Rides_ok : FnOK Tryz.prog 14 F_ref38_RidesS := fnOK_of (m := F_ref38_RidesM) (fn := Tryz.f14) (hint := F_ref38_RidesH) (pack := fun y => (y.2.1, y.2.2.1)) hmix tab_ok ⟨⟨F_ref26_Valid_ok, trivial⟩, ⟨F_ref38_Exists_ok, trivial⟩, ⟨F_ref38_zones_ok, trivial⟩, trivial⟩ fun x z h => (F_ref38_Rides_eq x.1 x.2.1).trans h
noncomputable def F_ref38_bits : (El Y3) → Option (El Y3) := fun a0 =>
 Option.bind
 (Tr.run
 (fun s0 =>
 bif decide (s0.2 < (62 : Int)) then
 Option.bind (Tr.qshr .i64 a0 s0.2) fun x1 =>
 bif decide (Tr.qand .i64 x1 (1 : Int) = (1 : Int)) then
 some (.inl (IntKind.wrap .i64 (s0.1 + (1 : Int)), IntKind.wrap .i64 (s0.2 + (1 : Int))))
 else some (.inl (s0.1, IntKind.wrap .i64 (s0.2 + (1 : Int))))
 else some (.inr s0.1))
 ((0 : Int), (0 : Int)))
 fun x2 => some x2
abbrev F_ref38_bitsA : Pats := (.cons (.pd Y3) .nil)
abbrev F_ref38_bitsR : Pats := (.cons (.pd Y3) .nil)
noncomputable def F_ref38_bitsS : Tr.Spec := { args := F_ref38_bitsA, res := F_ref38_bitsR, fns := [], α := El Y3, f := fun x => F_ref38_bits x.1, unp := fun z => (((), ()), (z, ())) }
noncomputable def F_ref38_bitsM : List (Nat × List Tr.Spec) := []
def F_ref38_bitsH : Hint := (.seq .leaf (.seq .leaf (.seq (.seq .leaf (.lp ⟨[(3, (.pd Y3)), (4, (.pd Y3))], [], [0], []⟩ [((.exit 0), ⟨[(3, (.pd Y3))], [], [], []⟩)] .leaf)) .leaf)))
noncomputable def F_ref38_bitsV (a0 : El Y3) : Option (El Y3) := evalF (mkE tyTab mapTab pkTab [] [] F_ref38_bitsM 17) (codeOf Tryz.f46) Tryz.f46.results F_ref38_bitsH F_ref38_bitsA F_ref38_bitsR (fun y => y.2.1) (a0, ())
theorem F_ref38_bits_eq (a0 : El Y3) : F_ref38_bitsV a0 = F_ref38_bits a0 := by kernel_rfl
theorem F_ref38_bits_ok : FnOK Tryz.prog 46 F_ref38_bitsS := fnOK_of (m := F_ref38_bitsM) (fn := Tryz.f46) (hint := F_ref38_bitsH) (pack := fun y => y.2.1) hmix tab_ok trivial fun x z h => (F_ref38_bits_eq x.1).trans h
noncomputable def F_ref38_within : (El Y3) → (El Y3) → (El Y3) → Option (El Y4) := fun a0 a1 a2 =>
 bif decide (a1 ≤ a0) then some true
 else some (decide (IntKind.wrap .u64 (IntKind.wrap .u64 a1 - IntKind.wrap .u64 a0) ≤ IntKind.wrap .u64 a2))
abbrev F_ref38_withinA : Pats := (.cons (.pd Y3) (.cons (.pd Y3) (.cons (.pd Y3) .nil)))
abbrev F_ref38_withinR : Pats := (.cons (.pd Y4) .nil)
noncomputable def F_ref38_withinS : Tr.Spec := { args := F_ref38_withinA, res := F_ref38_withinR, fns := [], α := El Y4, f := fun x => F_ref38_within x.1 x.2.1 x.2.2.1, unp := fun z => (((), (), (), ()), (z, ())) }
noncomputable def F_ref38_withinM : List (Nat × List Tr.Spec) := []
def F_ref38_withinH : Hint := .leaf
noncomputable def F_ref38_withinV (a0 : El Y3) (a1 : El Y3) (a2 : El Y3) : Option (El Y4) := evalF (mkE tyTab mapTab pkTab [] [] F_ref38_withinM 18) (codeOf Tryz.f47) Tryz.f47.results F_ref38_withinH F_ref38_withinA F_ref38_withinR (fun y => y.2.1) (a0, a1, a2, ())
theorem F_ref38_within_eq (a0 : El Y3) (a1 : El Y3) (a2 : El Y3) : F_ref38_withinV a0 a1 a2 = F_ref38_within a0 a1 a2 := by kernel_rfl
theorem F_ref38_within_ok : FnOK Tryz.prog 47 F_ref38_withinS := fnOK_of (m := F_ref38_withinM) (fn := Tryz.f47) (hint := F_ref38_withinH) (pack := fun y => y.2.1) hmix tab_ok trivial fun x z h => (F_ref38_within_eq x.1 x.2.1 x.2.2.1).trans h
noncomputable def F_ref38_Covers : (El Y96) → (El Y60) → (El Y3) → (El Y3) → Option (El Y4) := fun a0 a1 a2 a3 =>
 Option.bind
 (Tr.run
 (fun s0 =>
 bif decide (s0.2.2 ≤ a3) then
 Option.bind (idx a1 s0.2.2) fun x1 =>
 Option.bind (idx a1 s0.2.2) fun x2 =>
 some (.inl (Tr.qor .i64 s0.1 x1.2.2.1, Tr.qor .i64 s0.2.1 x2.2.2.2.1, IntKind.wrap .i64 (s0.2.2 + (1 : Int))))
 else some (.inr (s0.1, s0.2.1)))
 ((0 : Int), (0 : Int), a2))
 fun x3 =>
 Option.bind
 (bif decide (IntKind.wrap .i64 (IntKind.wrap .i64 (a3 - a2) + (1 : Int)) ≤ a0.2.2.1) then
 Option.bind (F_ref38_bits x3.1) fun x4 =>
 bif decide (x4 ≤ a0.2.2.2.1) then
 Option.bind (idx a1 a2) fun x5 =>
 Option.bind (idx a1 a3) fun x6 =>
 Option.bind (F_ref38_within x5.1 x6.1 a0.2.2.2.2.1) fun x7 =>
 bif x7 then some (decide (Tr.qandNot .i64 x3.2 a0.2.2.2.2.2.1 = (0 : Int))) else some false
 else some false
 else some false)
 fun x8 => some x8
abbrev F_ref38_CoversA : Pats := (.cons (.pd Y96) (.cons (.pd Y60) (.cons (.pd Y3) (.cons (.pd Y3) .nil))))
abbrev F_ref38_CoversR : Pats := (.cons (.pd Y4) .nil)
noncomputable def F_ref38_CoversS : Tr.Spec := { args := F_ref38_CoversA, res := F_ref38_CoversR, fns := [], α := El Y4, f := fun x => F_ref38_Covers x.1 x.2.1 x.2.2.1 x.2.2.2.1, unp := fun z => (((), (), (), (), ()), (z, ())) }
noncomputable def F_ref38_CoversM : List (Nat × List Tr.Spec) := [(46, [F_ref38_bitsS]), (47, [F_ref38_withinS])]
def F_ref38_CoversH : Hint := (.seq .leaf (.seq .leaf (.seq (.seq .leaf (.lp ⟨[(9, (.pd Y3)), (10, (.pd Y3)), (11, (.pd Y3))], [], [1, 2, 3, 4], []⟩ [((.exit 0), ⟨[(9, (.pd Y3)), (10, (.pd Y3))], [], [1, 2, 3, 4], []⟩)] .leaf)) (.seq (.reg [(8, Y4)]) .leaf))))
noncomputable def F_ref38_CoversV (a0 : El Y96) (a1 : El Y60) (a2 : El Y3) (a3 : El Y3) : Option (El Y4) := evalF (mkE tyTab mapTab pkTab [] [] F_ref38_CoversM 68) (codeOf Tryz.f29) Tryz.f29.results F_ref38_CoversH F_ref38_CoversA F_ref38_CoversR (fun y => y.2.1) (a0, a1, a2, a3, ())
theorem F_ref38_Covers_eq (a0 : El Y96) (a1 : El Y60) (a2 : El Y3) (a3 : El Y3) : F_ref38_CoversV a0 a1 a2 a3 = F_ref38_Covers a0 a1 a2 a3 := by kernel_rfl
theorem F_ref38_Covers_ok : FnOK Tryz.prog 29 F_ref38_CoversS := fnOK_of (m := F_ref38_CoversM) (fn := Tryz.f29) (hint := F_ref38_CoversH) (pack := fun y => y.2.1) hmix tab_ok ⟨⟨F_ref38_bits_ok, trivial⟩, ⟨F_ref38_within_ok, trivial⟩, trivial⟩ fun x z h => (F_ref38_Covers_eq x.1 x.2.1 x.2.2.1 x.2.2.2.1).trans h
noncomputable def F_ref38_TicketPrice : (El Y29) → (El Y96) → (El Y60) → (El Y3) → Option (El Y3) := fun a0 a1 a2 a3 =>
 Option.bind
 (bif decide ((0 : Int) < a3) then
 Option.bind (idx a2 (IntKind.wrap .i64 (a3 - (1 : Int)))) fun x0 =>
 Option.bind (idx a2 a3) fun x1 => Option.bind (F_ref38_within x0.2.1 x1.1 a0.2.2.1) fun x2 => some x2
 else some false)
 fun x3 => bif x3 then some (Tr.imax (0 : Int) (IntKind.wrap .i64 (a1.2.1 - a0.2.1))) else some a1.2.1
abbrev F_ref38_TicketPriceA : Pats := (.cons (.pd Y29) (.cons (.pd Y96) (.cons (.pd Y60) (.cons (.pd Y3) .nil))))
abbrev F_ref38_TicketPriceR : Pats := (.cons (.pd Y3) .nil)
noncomputable def F_ref38_TicketPriceS : Tr.Spec := { args := F_ref38_TicketPriceA, res := F_ref38_TicketPriceR, fns := [], α := El Y3, f := fun x => F_ref38_TicketPrice x.1 x.2.1 x.2.2.1 x.2.2.2.1, unp := fun z => (((), (), (), (), ()), (z, ())) }
noncomputable def F_ref38_TicketPriceM : List (Nat × List Tr.Spec) := [(47, [F_ref38_withinS])]
def F_ref38_TicketPriceH : Hint := (.seq .leaf (.seq (.seq (.reg [(26, Y4)]) .leaf) .leaf))
noncomputable def F_ref38_TicketPriceV (a0 : El Y29) (a1 : El Y96) (a2 : El Y60) (a3 : El Y3) : Option (El Y3) := evalF (mkE tyTab mapTab pkTab [] [] F_ref38_TicketPriceM 35) (codeOf Tryz.f30) Tryz.f30.results F_ref38_TicketPriceH F_ref38_TicketPriceA F_ref38_TicketPriceR (fun y => y.2.1) (a0, a1, a2, a3, ())
theorem F_ref38_TicketPrice_eq (a0 : El Y29) (a1 : El Y96) (a2 : El Y60) (a3 : El Y3) : F_ref38_TicketPriceV a0 a1 a2 a3 = F_ref38_TicketPrice a0 a1 a2 a3 := by kernel_rfl
theorem F_ref38_TicketPrice_ok : FnOK Tryz.prog 30 F_ref38_TicketPriceS := fnOK_of (m := F_ref38_TicketPriceM) (fn := Tryz.f30) (hint := F_ref38_TicketPriceH) (pack := fun y => y.2.1) hmix tab_ok ⟨⟨F_ref38_within_ok, trivial⟩, trivial⟩ fun x z h => (F_ref38_TicketPrice_eq x.1 x.2.1 x.2.2.1 x.2.2.2.1).trans h
noncomputable def F_ref38_Price : (El Y29) → (El Y60) → Option (El Y3 × El Y41 × El Y4) := fun a0 a1 =>
 Option.bind
 (guardB
 (decide
 ((0 : Tr.El (Tr.Ty.int .i64)) ≤ IntKind.wrap .i64 ((↑(List.length a1) : Int) + (1 : Int)) ∧
 IntKind.wrap .i64 ((↑(List.length a1) : Int) + (1 : Int)) ≤ IntKind.wrap .i64 ((↑(List.length a1) : Int) + (1 : Int)) ∧
 IntKind.wrap .i64 ((↑(List.length a1) : Int) + (1 : Int)) ≤ (↑maxApp : Tr.El (Tr.Ty.int .i64)))))
 fun _ =>
 Option.bind (inb (↑(List.length a1) : Int) (List.length (List.replicate (Int.toNat (IntKind.wrap .i64 ((↑(List.length a1) : Int) + (1 : Int)))) ((false, (0 : Int), ([] : List (El Y74)), ()))))) fun x1 =>
 Option.bind (List.replicate (Int.toNat (IntKind.wrap .i64 ((↑(List.length a1) : Int) + (1 : Int)))) ((false, (0 : Int), ([] : List (El Y74)), ())))[x1]? fun x2 =>
 Option.bind
 (Tr.run
 (fun s3 =>
 bif decide ((0 : Int) ≤ s3.2) then
 Option.bind
 (Tr.run
 (fun s4 =>
 bif decide (s4.2 < (↑(List.length a1) : Int)) then
 Option.bind (inb (IntKind.wrap .i64 (s4.2 + (1 : Int))) (List.length s4.1)) fun x5 =>
 Option.bind s4.1[x5]? fun x6 =>
 bif !x6.1 then some (.inl (s4.1, IntKind.wrap .i64 (s4.2 + (1 : Int))))
 else
 Option.bind
 (Tr.run
 (fun s7 =>
 bif decide (s7.2 < (↑(List.length a0.1) : Int)) then
 Option.bind (idx a0.1 s7.2) fun x8 =>
 Option.bind (F_ref38_Covers x8 a1 s3.2 s4.2) fun x9 =>
 bif !x9 then some (.inl (s7.1, IntKind.wrap .i64 (s7.2 + (1 : Int))))
 else
 Option.bind (idx a0.1 s7.2) fun x10 =>
 Option.bind (F_ref38_TicketPrice a0 x10 a1 s3.2) fun x11 =>
 Option.bind (inb (IntKind.wrap .i64 (s4.2 + (1 : Int))) (List.length s7.1)) fun x12 =>
 Option.bind s7.1[x12]? fun x13 =>
 Option.bind
 (Option.bind (inb s3.2 (List.length s7.1)) fun x14 =>
 Option.bind s7.1[x14]? fun x15 =>
 bif x15.1 then
 Option.bind (inb s3.2 (List.length s7.1)) fun x16 =>
 Option.bind s7.1[x16]? fun x17 =>
 bif decide (x17.2.1 < IntKind.wrap .i64 (x11 + x13.2.1)) then some true
 else
 Option.bind (inb s3.2 (List.length s7.1)) fun x18 =>
 Option.bind s7.1[x18]? fun x19 =>
 bif decide (IntKind.wrap .i64 (x11 + x13.2.1) = x19.2.1) then
 Option.bind (inb (IntKind.wrap .i64 (s4.2 + (1 : Int))) (List.length s7.1)) fun x20 =>
 Option.bind s7.1[x20]? fun x21 =>
 Option.bind (inb s3.2 (List.length s7.1)) fun x22 =>
 Option.bind s7.1[x22]? fun x23 =>
 some
 (decide
 ((↑(List.length x23.2.2.1) : Int) ≤
 IntKind.wrap .i64 ((1 : Int) + (↑(List.length x21.2.2.1) : Int))))
 else some false
 else some false)
 fun x24 =>
 bif x24 then some (.inl (s7.1, IntKind.wrap .i64 (s7.2 + (1 : Int))))
 else
 Option.bind (inb (IntKind.wrap .i64 (s4.2 + (1 : Int))) (List.length s7.1)) fun x25 =>
 Option.bind s7.1[x25]? fun x26 =>
 Option.bind (guardB (decide (List.length [(s7.2, s3.2, s4.2, x11, ())] + List.length x26.2.2.1 ≤ maxApp)))
 fun _ =>
 Option.bind (inb s3.2 (List.length s7.1)) fun x28 =>
 Option.bind s7.1[x28]? fun _ =>
 some
 (.inl
 (List.set s7.1 x28
 (true, IntKind.wrap .i64 (x11 + x13.2.1), [(s7.2, s3.2, s4.2, x11, ())] ++ x26.2.2.1, ()),
 IntKind.wrap .i64 (s7.2 + (1 : Int))))
 else some (.inr s7.1))
 (s4.1, (0 : Int)))
 fun x30 => some (.inl (x30, IntKind.wrap .i64 (s4.2 + (1 : Int))))
 else some (.inr s4.1))
 (s3.1, s3.2))
 fun x31 => some (.inl (x31, IntKind.wrap .i64 (s3.2 - (1 : Int))))
 else some (.inr s3.1))
 (List.set (List.replicate (Int.toNat (IntKind.wrap .i64 ((↑(List.length a1) : Int) + (1 : Int)))) ((false, (0 : Int), ([] : List (El Y74)), ()))) x1 (true, x2.2),
 IntKind.wrap .i64 ((↑(List.length a1) : Int) - (1 : Int))))
 fun x32 =>
 Option.bind (inb (0 : Int) (List.length x32)) fun x33 =>
 Option.bind x32[x33]? fun x34 =>
 Option.bind (inb (0 : Int) (List.length x32)) fun x35 =>
 Option.bind x32[x35]? fun x36 => Option.bind (inb (0 : Int) (List.length x32)) fun x37 => Option.bind x32[x37]? fun x38 => some (x34.2.1, x36.2.2.1, x38.1)
abbrev F_ref38_PriceA : Pats := (.cons (.pd Y29) (.cons (.pd Y60) .nil))
abbrev F_ref38_PriceR : Pats := (.cons (.pd Y3) (.cons (.pd Y41) (.cons (.pd Y4) .nil)))
noncomputable def F_ref38_PriceS : Tr.Spec := { args := F_ref38_PriceA, res := F_ref38_PriceR, fns := [], α := El Y3 × El Y41 × El Y4, f := fun x => F_ref38_Price x.1 x.2.1, unp := fun z => (((), (), ()), (z.1, z.2.1, z.2.2, ())) }
noncomputable def F_ref38_PriceM : List (Nat × List Tr.Spec) := [(29, [F_ref38_CoversS]), (30, [F_ref38_TicketPriceS])]
def F_ref38_PriceH : Hint := (.seq .leaf (.seq .leaf (.seq .leaf (.seq (.seq .leaf (.lp ⟨[(7, (.own Y93 false)), (8, (.pd Y3))], [], [1, 2], []⟩ [((.exit 0), ⟨[(7, (.own Y93 false))], [], [], []⟩)] (.seq .leaf (.seq (.seq .leaf (.lp ⟨[(7, (.own Y93 false)), (9, (.pd Y3))], [], [1, 2, 8], []⟩ [((.exit 2), ⟨[(7, (.own Y93 false))], [], [1, 2, 8], []⟩)] (.seq .leaf (.seq (.seq .leaf (.seq .leaf (.lp ⟨[(7, (.own Y93 false)), (10, (.pd Y3))], [], [1, 2, 8, 9], []⟩ [((.exit 4), ⟨[(7, (.own Y93 false))], [], [1, 2, 8, 9], []⟩)] (.seq .leaf (.seq (.seq .leaf (.seq .leaf (.seq .leaf (.seq (.seq (.reg [(117, Y4)]) .leaf) .leaf)))) .leaf))))) .leaf)))) .leaf)))) .leaf))))
noncomputable def F_ref38_PriceV (a0 : El Y29) (a1 : El Y60) : Option (El Y3 × El Y41 × El Y4) := evalF (mkE tyTab mapTab pkTab [93] [] F_ref38_PriceM 150) (codeOf Tryz.f15) Tryz.f15.results F_ref38_PriceH F_ref38_PriceA F_ref38_PriceR (fun y => (y.2.1, y.2.2.1, y.2.2.2.1)) (a0, a1, ())
theorem F_ref38_Price_eq (a0 : El Y29) (a1 : El Y60) : F_ref38_PriceV a0 a1 = F_ref38_Price a0 a1 := by kernel_rfl
theorem F_ref38_Price_ok : FnOK Tryz.prog 15 F_ref38_PriceS := fnOK_of (m := F_ref38_PriceM) (fn := Tryz.f15) (hint := F_ref38_PriceH) (pack := fun y => (y.2.1, y.2.2.1, y.2.2.2.1)) hmix tab_ok ⟨⟨F_ref38_Covers_ok, trivial⟩, ⟨F_ref38_TicketPrice_ok, trivial⟩, trivial⟩ fun x z h => (F_ref38_Price_eq x.1 x.2.1).trans h
noncomputable def F_ref38_Capped : (El Y29) → (El Y3) → Option (El Y3) := fun a0 a1 => bif decide ((0 : Int) < a0.2.2.2.1) then some (Tr.imin a0.2.2.2.1 a1) else some a1
abbrev F_ref38_CappedA : Pats := (.cons (.pd Y29) (.cons (.pd Y3) .nil))
abbrev F_ref38_CappedR : Pats := (.cons (.pd Y3) .nil)
noncomputable def F_ref38_CappedS : Tr.Spec := { args := F_ref38_CappedA, res := F_ref38_CappedR, fns := [], α := El Y3, f := fun x => F_ref38_Capped x.1 x.2.1, unp := fun z => (((), (), ()), (z, ())) }
noncomputable def F_ref38_CappedM : List (Nat × List Tr.Spec) := []
def F_ref38_CappedH : Hint := .leaf
noncomputable def F_ref38_CappedV (a0 : El Y29) (a1 : El Y3) : Option (El Y3) := evalF (mkE tyTab mapTab pkTab [] [] F_ref38_CappedM 13) (codeOf Tryz.f16) Tryz.f16.results F_ref38_CappedH F_ref38_CappedA F_ref38_CappedR (fun y => y.2.1) (a0, a1, ())
theorem F_ref38_Capped_eq (a0 : El Y29) (a1 : El Y3) : F_ref38_CappedV a0 a1 = F_ref38_Capped a0 a1 := by kernel_rfl
theorem F_ref38_Capped_ok : FnOK Tryz.prog 16 F_ref38_CappedS := fnOK_of (m := F_ref38_CappedM) (fn := Tryz.f16) (hint := F_ref38_CappedH) (pack := fun y => y.2.1) hmix tab_ok trivial fun x z h => (F_ref38_Capped_eq x.1 x.2.1).trans h
noncomputable def F_ref38_Walk : (El Y36) → Option (El Y3) := fun a0 =>
 Option.bind
 (Tr.run
 (fun s0 =>
 bif decide (s0.2 < (↑(List.length a0.1) : Int)) then
 Option.bind (idx a0.1 s0.2) fun x1 =>
 Option.bind
 (bif !x1.1 then
 bif decide ((0 : Int) ≤ x1.2.2.2.2.2.2.1) then
 bif decide (x1.2.2.2.2.2.2.1 ≤ x1.2.2.2.2.2.2.2.1) then
 some (decide (IntKind.wrap .i64 (x1.2.2.2.2.2.2.2.1 - x1.2.2.2.2.2.2.1) ≤ (14400 : Int)))
 else some false
 else some false
 else some false)
 fun x2 =>
 bif x2 then
 some
 (.inl
 (IntKind.wrap .i64 (IntKind.wrap .i64 (s0.1 + x1.2.2.2.2.2.2.2.1) - x1.2.2.2.2.2.2.1),
 IntKind.wrap .i64 (s0.2 + (1 : Int))))
 else some (.inl (s0.1, IntKind.wrap .i64 (s0.2 + (1 : Int))))
 else some (.inr s0.1))
 ((0 : Int), (0 : Int)))
 fun x3 => some x3
abbrev F_ref38_WalkA : Pats := (.cons (.pd Y36) .nil)
abbrev F_ref38_WalkR : Pats := (.cons (.pd Y3) .nil)
noncomputable def F_ref38_WalkS : Tr.Spec := { args := F_ref38_WalkA, res := F_ref38_WalkR, fns := [], α := El Y3, f := fun x => F_ref38_Walk x.1, unp := fun z => (((), ()), (z, ())) }
noncomputable def F_ref38_WalkM : List (Nat × List Tr.Spec) := []
def F_ref38_WalkH : Hint := (.seq .leaf (.seq .leaf (.seq (.seq .leaf (.lp ⟨[(3, (.pd Y3)), (4, (.pd Y3))], [], [1], []⟩ [((.exit 0), ⟨[(3, (.pd Y3))], [], [], []⟩)] (.seq .leaf (.seq (.seq .leaf (.seq (.reg [(40, Y4)]) .leaf)) .leaf)))) .leaf)))
noncomputable def F_ref38_WalkV (a0 : El Y36) : Option (El Y3) := evalF (mkE tyTab mapTab pkTab [] [] F_ref38_WalkM 49) (codeOf Tryz.f17) Tryz.f17.results F_ref38_WalkH F_ref38_WalkA F_ref38_WalkR (fun y => y.2.1) (a0, ())
theorem F_ref38_Walk_eq (a0 : El Y36) : F_ref38_WalkV a0 = F_ref38_Walk a0 := by kernel_rfl
theorem F_ref38_Walk_ok : FnOK Tryz.prog 17 F_ref38_WalkS := fnOK_of (m := F_ref38_WalkM) (fn := Tryz.f17) (hint := F_ref38_WalkH) (pack := fun y => y.2.1) hmix tab_ok trivial fun x z h => (F_ref38_Walk_eq x.1).trans h
noncomputable def F_ref38_Cost : (El Y31) → (El Y33) → (El Y36) → Option (El Y40 × El Y41 × El Y42) := fun a0 a1 a2 =>
 Option.bind (F_ref38_Rides a0 a2) fun x0 =>
 bif !decide (x0.2 = (0 : Int)) then some (((0 : Int), (0 : Int), (0 : Int), (0 : Int), (0 : Int), ()), [], x0.2)
 else
 bif decide ((8 : Int) < (↑(List.length x0.1) : Int)) then some (((0 : Int), (0 : Int), (0 : Int), (0 : Int), (0 : Int), ()), [], (33 : Int))
 else
 Option.bind (F_ref38_Price a0.2.2.2.2.2.1 x0.1) fun x1 =>
 bif !x1.2.2 then some (((0 : Int), (0 : Int), (0 : Int), (0 : Int), (0 : Int), ()), [], (34 : Int))
 else
 Option.bind (F_ref38_Capped a0.2.2.2.2.2.1 x1.1) fun x2 =>
 Option.bind (F_ref38_Walk a2) fun x3 =>
 Option.bind
 (bif decide ((0 : Int) < (↑(List.length a2.1) : Int)) then
 Option.bind (idx a2.1 (0 : Int)) fun x4 =>
 Option.bind (idx a2.1 (IntKind.wrap .i64 ((↑(List.length a2.1) : Int) - (1 : Int)))) fun x5 =>
 some (x4.2.2.2.2.2.2.1, x5.2.2.2.2.2.2.2.1, (↑(List.length x0.1) : Int), x2, x3, ())
 else some (a1.2.2.1, a1.2.2.1, (↑(List.length x0.1) : Int), x2, x3, ()))
 fun x6 => some (x6, x1.2.1, (0 : Int))
abbrev F_ref38_CostA : Pats := (.cons (.pd Y31) (.cons (.pd Y33) (.cons (.pd Y36) .nil)))
abbrev F_ref38_CostR : Pats := (.cons (.pd Y40) (.cons (.pd Y41) (.cons (.pd Y42) .nil)))
noncomputable def F_ref38_CostS : Tr.Spec := { args := F_ref38_CostA, res := F_ref38_CostR, fns := [], α := El Y40 × El Y41 × El Y42, f := fun x => F_ref38_Cost x.1 x.2.1 x.2.2.1, unp := fun z => (((), (), (), ()), (z.1, z.2.1, z.2.2, ())) }
noncomputable def F_ref38_CostM : List (Nat × List Tr.Spec) := [(14, [F_ref38_RidesS]), (15, [F_ref38_PriceS]), (16, [F_ref38_CappedS]), (17, [F_ref38_WalkS])]
def F_ref38_CostH : Hint := (.seq .leaf (.seq .leaf (.seq .leaf (.seq .leaf (.seq .leaf (.seq .leaf (.seq .leaf (.seq (.seq .leaf (.cnd (some (⟨[], [], [6, 12], []⟩, [(.normal, ⟨[(14, (.var Y40 (.pd Y40)))], [], [6, 12], []⟩)])) .leaf .leaf)) .leaf))))))))
noncomputable def F_ref38_CostV (a0 : El Y31) (a1 : El Y33) (a2 : El Y36) : Option (El Y40 × El Y41 × El Y42) := evalF (mkE tyTab mapTab pkTab [] [] F_ref38_CostM 75) (codeOf Tryz.f7) Tryz.f7.results F_ref38_CostH F_ref38_CostA F_ref38_CostR (fun y => (y.2.1, y.2.2.1, y.2.2.2.1)) (a0, a1, a2, ())
theorem F_ref38_Cost_eq (a0 : El Y31) (a1 : El Y33) (a2 : El Y36) : F_ref38_CostV a0 a1 a2 = F_ref38_Cost a0 a1 a2 := by kernel_rfl
theorem F_ref38_Cost_ok : FnOK Tryz.prog 7 F_ref38_CostS := fnOK_of (m := F_ref38_CostM) (fn := Tryz.f7) (hint := F_ref38_CostH) (pack := fun y => (y.2.1, y.2.2.1, y.2.2.2.1)) hmix tab_ok ⟨⟨F_ref38_Rides_ok, trivial⟩, ⟨F_ref38_Price_ok, trivial⟩, ⟨F_ref38_Capped_ok, trivial⟩, ⟨F_ref38_Walk_ok, trivial⟩, trivial⟩ fun x z h => (F_ref38_Cost_eq x.1 x.2.1 x.2.2.1).trans h
noncomputable def F_ref38_SameTickets : (El Y41) → (El Y41) → Option (El Y4) := fun a0 a1 =>
 bif !decide ((↑(List.length a0) : Int) = (↑(List.length a1) : Int)) then some false
 else
 Option.bind
 (Tr.run
 (fun s0 =>
 bif decide (s0 < (↑(List.length a0) : Int)) then
 Option.bind (idx a0 s0) fun x1 =>
 Option.bind (idx a1 s0) fun x2 =>
 bif
 !(decide (x1.1 = x2.1) &&
 (decide (x1.2.1 = x2.2.1) && (decide (x1.2.2.1 = x2.2.2.1) && decide (x1.2.2.2.1 = x2.2.2.2.1)))) then
 some (.inr (.inr false))
 else some (.inl (IntKind.wrap .i64 (s0 + (1 : Int))))
 else some (.inr (.inl ())))
 (0 : Int))
 fun x3 => Sum.elim (fun _ => some true) (fun y5 => some y5) x3
abbrev F_ref38_SameTicketsA : Pats := (.cons (.pd Y41) (.cons (.pd Y41) .nil))
abbrev F_ref38_SameTicketsR : Pats := (.cons (.pd Y4) .nil)
noncomputable def F_ref38_SameTicketsS : Tr.Spec := { args := F_ref38_SameTicketsA, res := F_ref38_SameTicketsR, fns := [], α := El Y4, f := fun x => F_ref38_SameTickets x.1 x.2.1, unp := fun z => (((), (), ()), (z, ())) }
noncomputable def F_ref38_SameTicketsM : List (Nat × List Tr.Spec) := []
def F_ref38_SameTicketsH : Hint := (.seq .leaf (.seq .leaf (.seq (.seq .leaf (.lp ⟨[(5, (.pd Y3))], [], [0, 1], []⟩ [((.exit 0), ⟨[], [], [], []⟩), (.ret, ⟨[(4, (.pd Y4))], [], [], []⟩)] .leaf)) .leaf)))
noncomputable def F_ref38_SameTicketsV (a0 : El Y41) (a1 : El Y41) : Option (El Y4) := evalF (mkE tyTab mapTab pkTab [] [] F_ref38_SameTicketsM 26) (codeOf Tryz.f8) Tryz.f8.results F_ref38_SameTicketsH F_ref38_SameTicketsA F_ref38_SameTicketsR (fun y => y.2.1) (a0, a1, ())
theorem F_ref38_SameTickets_eq (a0 : El Y41) (a1 : El Y41) : F_ref38_SameTicketsV a0 a1 = F_ref38_SameTickets a0 a1 := by kernel_rfl
theorem F_ref38_SameTickets_ok : FnOK Tryz.prog 8 F_ref38_SameTicketsS := fnOK_of (m := F_ref38_SameTicketsM) (fn := Tryz.f8) (hint := F_ref38_SameTicketsH) (pack := fun y => y.2.1) hmix tab_ok trivial fun x z h => (F_ref38_SameTickets_eq x.1 x.2.1).trans h
noncomputable def F_journey_Vector : (El Y33) → (El Y40) → Option (El Y47) := fun a0 a1 =>
 bif a0.2.2.2.1 then
 some (List.set [a1.2.1, a1.2.2.1, a1.2.2.2.1, a1.2.2.2.2.1] (Int.toNat (0 : Int)) (IntKind.wrap .i64 ((0 : Int) - a1.1)))
 else some [a1.2.1, a1.2.2.1, a1.2.2.2.1, a1.2.2.2.2.1]
abbrev F_journey_VectorA : Pats := (.cons (.pd Y33) (.cons (.pd Y40) .nil))
abbrev F_journey_VectorR : Pats := (.cons (.pd Y47) .nil)
noncomputable def F_journey_VectorS : Tr.Spec := { args := F_journey_VectorA, res := F_journey_VectorR, fns := [], α := El Y47, f := fun x => F_journey_Vector x.1 x.2.1, unp := fun z => (((), (), ()), (z, ())) }
noncomputable def F_journey_VectorM : List (Nat × List Tr.Spec) := []
def F_journey_VectorH : Hint := .leaf
noncomputable def F_journey_VectorV (a0 : El Y33) (a1 : El Y40) : Option (El Y47) := evalF (mkE tyTab mapTab pkTab [] [] F_journey_VectorM 22) (codeOf Tryz.f9) Tryz.f9.results F_journey_VectorH F_journey_VectorA F_journey_VectorR (fun y => y.2.1) (a0, a1, ())
theorem F_journey_Vector_eq (a0 : El Y33) (a1 : El Y40) : F_journey_VectorV a0 a1 = F_journey_Vector a0 a1 := by kernel_rfl
theorem F_journey_Vector_ok : FnOK Tryz.prog 9 F_journey_VectorS := fnOK_of (m := F_journey_VectorM) (fn := Tryz.f9) (hint := F_journey_VectorH) (pack := fun y => y.2.1) hmix tab_ok trivial fun x z h => (F_journey_Vector_eq x.1 x.2.1).trans h
noncomputable def F_ref38_Vector : (El Y33) → (El Y40) → Option (El Y46) := fun a0 a1 =>
 bif a0.2.2.2.1 then some [IntKind.wrap .i64 ((0 : Int) - a1.1), a1.2.2.1, a1.2.2.2.1, a1.2.2.2.2.1]
 else some [a1.2.1, a1.2.2.1, a1.2.2.2.1, a1.2.2.2.2.1]
abbrev F_ref38_VectorA : Pats := (.cons (.pd Y33) (.cons (.pd Y40) .nil))
abbrev F_ref38_VectorR : Pats := (.cons (.pd Y46) .nil)
noncomputable def F_ref38_VectorS : Tr.Spec := { args := F_ref38_VectorA, res := F_ref38_VectorR, fns := [], α := El Y46, f := fun x => F_ref38_Vector x.1 x.2.1, unp := fun z => (((), (), ()), (z, ())) }
noncomputable def F_ref38_VectorM : List (Nat × List Tr.Spec) := []
def F_ref38_VectorH : Hint := .leaf
noncomputable def F_ref38_VectorV (a0 : El Y33) (a1 : El Y40) : Option (El Y46) := evalF (mkE tyTab mapTab pkTab [] [] F_ref38_VectorM 26) (codeOf Tryz.f10) Tryz.f10.results F_ref38_VectorH F_ref38_VectorA F_ref38_VectorR (fun y => y.2.1) (a0, a1, ())
theorem F_ref38_Vector_eq (a0 : El Y33) (a1 : El Y40) : F_ref38_VectorV a0 a1 = F_ref38_Vector a0 a1 := by kernel_rfl
theorem F_ref38_Vector_ok : FnOK Tryz.prog 10 F_ref38_VectorS := fnOK_of (m := F_ref38_VectorM) (fn := Tryz.f10) (hint := F_ref38_VectorH) (pack := fun y => y.2.1) hmix tab_ok trivial fun x z h => (F_ref38_Vector_eq x.1 x.2.1).trans h
noncomputable def F_law38_JourneyCost : (El Y31) → (El Y33) → (El Y36) → Option (El Y4) := fun a0 a1 a2 =>
 Option.bind (F_law38_light a0 a2) fun x0 =>
 bif !x0 then Option.bind F_law38_exampleHolds fun x1 => some x1
 else
 Option.bind (F_journey_Cost a0 a1 a2) fun x2 =>
 Option.bind (F_ref38_Cost a0 a1 a2) fun x3 =>
 Option.bind
 (bif
 decide (x2.1.1 = x3.1.1) &&
 (decide (x2.1.2.1 = x3.1.2.1) &&
 (decide (x2.1.2.2.1 = x3.1.2.2.1) &&
 (decide (x2.1.2.2.2.1 = x3.1.2.2.2.1) && decide (x2.1.2.2.2.2.1 = x3.1.2.2.2.2.1)))) then
 Option.bind (F_ref38_SameTickets x2.2.1 x3.2.1) fun x4 =>
 bif x4 then
 bif decide (x2.2.2 = x3.2.2) then
 Option.bind (F_journey_Vector a1 x2.1) fun x5 =>
 Option.bind (F_ref38_Vector a1 x2.1) fun x6 =>
 Option.bind (Tr.eqEl.eqs (Tr.eqEl (Tr.Ty.int .i64)) x5 x6) fun x7 =>
 bif x7 then Option.bind F_law38_exampleHolds fun x8 => some x8 else some false
 else some false
 else some false
 else some false)
 fun x9 => some x9
abbrev F_law38_JourneyCostA : Pats := (.cons (.pd Y31) (.cons (.pd Y33) (.cons (.pd Y36) .nil)))
abbrev F_law38_JourneyCostR : Pats := (.cons (.pd Y4) .nil)
noncomputable def F_law38_JourneyCostS : Tr.Spec := { args := F_law38_JourneyCostA, res := F_law38_JourneyCostR, fns := [], α := El Y4, f := fun x => F_law38_JourneyCost x.1 x.2.1 x.2.2.1, unp := fun z => (((), (), (), ()), (z, ())) }
noncomputable def F_law38_JourneyCostM : List (Nat × List Tr.Spec) := [(4, [F_law38_lightS]), (5, [F_law38_exampleHoldsS]), (6, [F_journey_CostS]), (7, [F_ref38_CostS]), (8, [F_ref38_SameTicketsS]), (9, [F_journey_VectorS]), (10, [F_ref38_VectorS])]
def F_law38_JourneyCostH : Hint := (.seq .leaf (.seq .leaf (.seq .leaf (.seq .leaf (.seq (.reg [(6, Y4)]) .leaf)))))
noncomputable def F_law38_JourneyCostV (a0 : El Y31) (a1 : El Y33) (a2 : El Y36) : Option (El Y4) := evalF (mkE tyTab mapTab pkTab [] [] F_law38_JourneyCostM 59) (codeOf Tryz.f3) Tryz.f3.results F_law38_JourneyCostH F_law38_JourneyCostA F_law38_JourneyCostR (fun y => y.2.1) (a0, a1, a2, ())
theorem F_law38_JourneyCost_eq (a0 : El Y31) (a1 : El Y33) (a2 : El Y36) : F_law38_JourneyCostV a0 a1 a2 = F_law38_JourneyCost a0 a1 a2 := by kernel_rfl
theorem F_law38_JourneyCost_ok : FnOK Tryz.prog 3 F_law38_JourneyCostS := fnOK_of (m := F_law38_JourneyCostM) (fn := Tryz.f3) (hint := F_law38_JourneyCostH) (pack := fun y => y.2.1) hmix tab_ok ⟨⟨F_law38_light_ok, trivial⟩, ⟨F_law38_exampleHolds_ok, trivial⟩, ⟨F_journey_Cost_ok, trivial⟩, ⟨F_ref38_Cost_ok, trivial⟩, ⟨F_ref38_SameTickets_ok, trivial⟩, ⟨F_journey_Vector_ok, trivial⟩, ⟨F_ref38_Vector_ok, trivial⟩, trivial⟩ fun x z h => (F_law38_JourneyCost_eq x.1 x.2.1 x.2.2.1).trans h
end Q
