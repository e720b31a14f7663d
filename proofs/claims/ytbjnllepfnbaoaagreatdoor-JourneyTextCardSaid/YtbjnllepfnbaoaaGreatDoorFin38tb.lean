/- The functions of the program as functions of Lean, and that the program computes them; printed by a program of mine. Conditions: none. -/
import Derived.Test.YtbjnllepfnbaoaaGreatDoorFin38ta
open Tr Go Go.Proofs
namespace Q
noncomputable def F48 : (El Y31) → Option (El Y4) := fun a0 => Option.bind (F44 a0) fun x0 => some (decide (x0.2.2 = (0 : Int)))
abbrev F48A : Pats := (.cons (.pd Y31) .nil)
abbrev F48R : Pats := (.cons (.pd Y4) .nil)
noncomputable def F48S : Tr.Spec := { args := F48A, res := F48R, fns := [], α := El Y4, f := fun x => F48 x.1, unp := fun z => (((), ()), (z, ())) }
noncomputable def F48M : List (Nat × List Tr.Spec) := [(36, [F44S])]
def F48H : Hint := .leaf
noncomputable def F48V (a0 : El Y31) : Option (El Y4) := evalF (mkE tyTab mapTab pkTab [] [] F48M 14 bdTab) (codeOf Tryz.f17) Tryz.f17.results F48H F48A F48R (fun y => y.2.1) (a0, ())
theorem F48_eq (a0 : El Y31) : F48V a0 = F48 a0 := by kernel_rfl
theorem F48_ok : FnOK Tryz.prog 17 F48S := fnOK_of (m := F48M) (fn := Tryz.f17) (hint := F48H) (pack := fun y => y.2.1) hmix tab_ok ⟨⟨F44_ok, trivial⟩, trivial⟩ fun x z h => (F48_eq x.1).trans h
noncomputable def F57 : (El Y31) → (El Y53) → Option (El Y4) := fun a0 a1 =>
 Option.bind (bif decide (a1.2.1 < (0 : Int)) then some true else some (decide ((↑(List.length a0.2.2.1) : Int) ≤ a1.2.1))) fun x0 =>
 bif x0 then some false
 else
 Option.bind
 (bif decide ((0 : Int) ≤ a1.2.2.1) then
 bif decide (a1.2.2.1 < a1.2.2.2.1) then
 Option.bind (idx a0.2.2.1 a1.2.1) fun x1 => some (decide (a1.2.2.2.1 < (↑(List.length x1.2.2.2.2.2.2.2.1) : Int)))
 else some false
 else some false)
 fun x2 => some x2
abbrev F57A : Pats := (.cons (.pd Y31) (.cons (.pd Y53) .nil))
abbrev F57R : Pats := (.cons (.pd Y4) .nil)
noncomputable def F57S : Tr.Spec := { args := F57A, res := F57R, fns := [], α := El Y4, f := fun x => F57 x.1 x.2.1, unp := fun z => (((), (), ()), (z, ())) }
noncomputable def F57M : List (Nat × List Tr.Spec) := []
def F57H : Hint := (.seq .leaf (.seq (.seq (.reg [(15, Y4)]) .leaf) (.seq (.reg [(4, Y4)]) .leaf)))
noncomputable def F57V (a0 : El Y31) (a1 : El Y53) : Option (El Y4) := evalF (mkE tyTab mapTab pkTab [] [] F57M 39 bdTab) (codeOf Tryz.f18) Tryz.f18.results F57H F57A F57R (fun y => y.2.1) (a0, a1, ())
theorem F57_eq (a0 : El Y31) (a1 : El Y53) : F57V a0 a1 = F57 a0 a1 := by kernel_rfl
theorem F57_ok : FnOK Tryz.prog 18 F57S := fnOK_of (m := F57M) (fn := Tryz.f18) (hint := F57H) (pack := fun y => y.2.1) hmix tab_ok trivial fun x z h => (F57_eq x.1 x.2.1).trans h
noncomputable def F60 : (El Y3) → Option (El Y9) := fun a0 =>
 Option.bind
 (Tr.run
 (fun s0 =>
 bif decide ((10 : Int) ≤ s0.1) then
 Option.bind
 (Tr.catStr (Tr.bytesOf [IntKind.wrap .u8 (IntKind.wrap .i64 ((48 : Int) + Int.tmod (IntKind.wrap .i64 (Int.tdiv s0.1 (10 : Int))) (10 : Int)))])
 s0.2)
 fun x1 => some (.inl (IntKind.wrap .i64 (Int.tdiv s0.1 (10 : Int)), x1))
 else some (.inr s0.2))
 (a0, Tr.bytesOf [IntKind.wrap .u8 (IntKind.wrap .i64 ((48 : Int) + Int.tmod a0 (10 : Int)))]))
 fun x2 => some x2
abbrev F60A : Pats := (.cons (.pd Y3) .nil)
abbrev F60R : Pats := (.cons (.pd Y9) .nil)
noncomputable def F60S : Tr.Spec := { args := F60A, res := F60R, fns := [], α := El Y9, f := fun x => F60 x.1, unp := fun z => (((), ()), (z, ())) }
noncomputable def F60M : List (Nat × List Tr.Spec) := []
def F60H : Hint := (.seq .leaf (.seq .leaf (.seq (.lp ⟨[(0, (.pd Y3)), (3, (.pd Y9))], [], [], []⟩ [((.exit 0), ⟨[(3, (.pd Y9))], [], [], []⟩)] .leaf) .leaf)))
noncomputable def F60V (a0 : El Y3) : Option (El Y9) := evalF (mkE tyTab mapTab pkTab [] [] F60M 23 bdTab) (codeOf Tryz.f37) Tryz.f37.results F60H F60A F60R (fun y => y.2.1) (a0, ())
theorem F60_eq (a0 : El Y3) : F60V a0 = F60 a0 := by kernel_rfl
theorem F60_ok : FnOK Tryz.prog 37 F60S := fnOK_of (m := F60M) (fn := Tryz.f37) (hint := F60H) (pack := fun y => y.2.1) hmix tab_ok trivial fun x z h => (F60_eq x.1).trans h
noncomputable def F58 : (El Y3) → Option (El Y9) := fun a0 =>
 bif decide (a0 = (-9223372036854775808 : Int)) then
 some
 [(45 : UInt8), (57 : UInt8), (50 : UInt8), (50 : UInt8), (51 : UInt8), (51 : UInt8), (55 : UInt8), (50 : UInt8), (48 : UInt8), (51 : UInt8), (54 : UInt8), (56 : UInt8), (53 : UInt8),
 (52 : UInt8), (55 : UInt8), (55 : UInt8), (53 : UInt8), (56 : UInt8), (48 : UInt8), (56 : UInt8)]
 else
 bif decide (a0 < (0 : Int)) then
 Option.bind (F60 (IntKind.wrap .i64 ((0 : Int) - a0))) fun x0 => Option.bind (Tr.catStr [(45 : UInt8)] x0) fun x1 => some x1
 else Option.bind (F60 a0) fun x2 => some x2
abbrev F58A : Pats := (.cons (.pd Y3) .nil)
abbrev F58R : Pats := (.cons (.pd Y9) .nil)
noncomputable def F58S : Tr.Spec := { args := F58A, res := F58R, fns := [], α := El Y9, f := fun x => F58 x.1, unp := fun z => (((), ()), (z, ())) }
noncomputable def F58M : List (Nat × List Tr.Spec) := [(37, [F60S])]
def F58H : Hint := .leaf
noncomputable def F58V (a0 : El Y3) : Option (El Y9) := evalF (mkE tyTab mapTab pkTab [] [] F58M 13 bdTab) (codeOf Tryz.f19) Tryz.f19.results F58H F58A F58R (fun y => y.2.1) (a0, ())
theorem F58_eq (a0 : El Y3) : F58V a0 = F58 a0 := by kernel_rfl
theorem F58_ok : FnOK Tryz.prog 19 F58S := fnOK_of (m := F58M) (fn := Tryz.f19) (hint := F58H) (pack := fun y => y.2.1) hmix tab_ok ⟨⟨F60_ok, trivial⟩, trivial⟩ fun x z h => (F58_eq x.1).trans h
noncomputable def F59 : (El Y31) → (El Y34) → Option (El Y9 × El Y37) := fun a0 a1 =>
 Option.bind (F48 a0) fun x0 =>
 bif !x0 then some ([], (21 : Int))
 else
 Option.bind
 (Tr.run
 (fun s1 =>
 bif decide (s1.2 < (↑(List.length a1.1) : Int)) then
 Option.bind (idx a1.1 s1.2) fun x2 =>
 Option.bind
 (bif decide (x2.2.2.2.2.1 < (0 : Int)) then some true
 else
 bif decide ((↑(List.length a0.1) : Int) ≤ x2.2.2.2.2.1) then some true
 else
 bif decide (x2.2.2.2.2.2.1 < (0 : Int)) then some true
 else
 bif decide ((↑(List.length a0.1) : Int) ≤ x2.2.2.2.2.2.1) then some true
 else bif x2.1 then Option.bind (F57 a0 x2) fun x3 => some !x3 else some false)
 fun x4 =>
 bif x4 then some (.inr (.inr ([], (9 : Int))))
 else
 Option.bind (idx a0.1 x2.2.2.2.2.1) fun x5 =>
 Option.bind (Tr.catStr s1.1 x5.1) fun x6 =>
 Option.bind (Tr.catStr x6 [(32 : UInt8)]) fun x7 =>
 Option.bind (F58 x2.2.2.2.2.2.2.1) fun x8 =>
 Option.bind (Tr.catStr x7 x8) fun x9 =>
 Option.bind (Tr.catStr x9 [(32 : UInt8)]) fun x10 =>
 Option.bind
 (bif x2.1 then
 Option.bind (idx a0.2.2.1 x2.2.1) fun x11 =>
 Option.bind (Tr.catStr x10 x11.2.2.2.1) fun x12 =>
 Option.bind (Tr.catStr x12 [(64 : UInt8)]) fun x13 =>
 Option.bind (F58 x11.2.1) fun x14 =>
 Option.bind (Tr.catStr x13 x14) fun x15 =>
 Option.bind (Tr.catStr x15 [(35 : UInt8)]) fun x16 =>
 Option.bind (F58 x11.2.2.1) fun x17 => Option.bind (Tr.catStr x16 x17) fun x18 => some x18
 else Option.bind (Tr.catStr x10 [(119 : UInt8), (97 : UInt8), (108 : UInt8), (107 : UInt8)]) fun x19 => some x19)
 fun x20 =>
 Option.bind
 (bif x2.2.2.2.2.2.2.2.2.1 then
 Option.bind (Tr.catStr x20 [(32 : UInt8), (115 : UInt8), (116 : UInt8), (97 : UInt8), (121 : UInt8)]) fun x21 => some x21
 else some x20)
 fun x22 =>
 Option.bind (Tr.catStr x22 [(32 : UInt8)]) fun x23 =>
 Option.bind (idx a0.1 x2.2.2.2.2.2.1) fun x24 =>
 Option.bind (Tr.catStr x23 x24.1) fun x25 =>
 Option.bind (Tr.catStr x25 [(32 : UInt8)]) fun x26 =>
 Option.bind (F58 x2.2.2.2.2.2.2.2.1) fun x27 =>
 Option.bind (Tr.catStr x26 x27) fun x28 =>
 Option.bind (Tr.catStr x28 [(10 : UInt8)]) fun x29 => some (.inl (x29, IntKind.wrap .i64 (s1.2 + (1 : Int))))
 else some (.inr (.inl s1.1)))
 ([], (0 : Int)))
 fun x30 => Sum.elim (fun y31 => some (y31, (0 : Int))) (fun y32 => some (y32.1, y32.2)) x30
abbrev F59A : Pats := (.cons (.pd Y31) (.cons (.pd Y34) .nil))
abbrev F59R : Pats := (.cons (.pd Y9) (.cons (.pd Y37) .nil))
noncomputable def F59S : Tr.Spec := { args := F59A, res := F59R, fns := [], α := El Y9 × El Y37, f := fun x => F59 x.1 x.2.1, unp := fun z => (((), (), ()), (z.1, z.2, ())) }
noncomputable def F59M : List (Nat × List Tr.Spec) := [(17, [F48S]), (18, [F57S]), (19, [F58S])]
def F59H : Hint := (.seq .leaf (.seq .leaf (.seq .leaf (.seq (.seq .leaf (.lp ⟨[(6, (.pd Y9)), (7, (.pd Y3))], [], [2, 3], []⟩ [((.exit 0), ⟨[(6, (.pd Y9))], [], [], []⟩), (.ret, ⟨[(4, (.pd Y9)), (5, (.pd Y37))], [], [], []⟩)] (.seq .leaf (.seq (.seq .leaf (.seq (.seq (.reg [(58, Y4)]) .leaf) (.seq .leaf (.seq (.seq .leaf (.cnd (some (⟨[], [], [2, 3, 7, 8], []⟩, [(.normal, ⟨[(6, (.pd Y9))], [], [2, 3, 7, 8], []⟩)])) .leaf .leaf)) (.seq (.seq .leaf (.cnd (some (⟨[], [], [2, 3, 7, 8], []⟩, [(.normal, ⟨[(6, (.pd Y9))], [], [2, 3, 7, 8], []⟩)])) .leaf .leaf)) .leaf))))) .leaf)))) .leaf))))
noncomputable def F59V (a0 : El Y31) (a1 : El Y34) : Option (El Y9 × El Y37) := evalF (mkE tyTab mapTab pkTab [] [] F59M 119 bdTab) (codeOf Tryz.f7) Tryz.f7.results F59H F59A F59R (fun y => (y.2.1, y.2.2.1)) (a0, a1, ())
theorem F59_eq (a0 : El Y31) (a1 : El Y34) : F59V a0 a1 = F59 a0 a1 := by kernel_rfl
theorem F59_ok : FnOK Tryz.prog 7 F59S := fnOK_of (m := F59M) (fn := Tryz.f7) (hint := F59H) (pack := fun y => (y.2.1, y.2.2.1)) hmix tab_ok ⟨⟨F48_ok, trivial⟩, ⟨F57_ok, trivial⟩, ⟨F58_ok, trivial⟩, trivial⟩ fun x z h => (F59_eq x.1 x.2.1).trans h
noncomputable def F30 : (El Y31) → (El Y34) → Option (El Y4) := fun a0 a1 =>
 Option.bind (F32 a0 a1) fun x0 =>
 bif !x0 then Option.bind F31 fun x1 => some x1
 else
 Option.bind (F26 a0 a1) fun x2 =>
 Option.bind (F59 a0 a1) fun x3 =>
 Option.bind
 (bif decide (x2.1 = x3.1) then bif decide (x2.2 = x3.2) then Option.bind F31 fun x4 => some x4 else some false
 else some false)
 fun x5 => some x5
abbrev F30A : Pats := (.cons (.pd Y31) (.cons (.pd Y34) .nil))
abbrev F30R : Pats := (.cons (.pd Y4) .nil)
noncomputable def F30S : Tr.Spec := { args := F30A, res := F30R, fns := [], α := El Y4, f := fun x => F30 x.1 x.2.1, unp := fun z => (((), (), ()), (z, ())), pl := false }
noncomputable def F30M : List (Nat × List Tr.Spec) := [(4, [F32S]), (5, [F31S]), (6, [F26S]), (7, [F59S])]
def F30H : Hint := (.seq .leaf (.seq .leaf (.seq .leaf (.seq .leaf (.seq (.reg [(4, Y4)]) .leaf)))))
noncomputable def F30V (a0 : El Y31) (a1 : El Y34) : Option (El Y4) := evalF (mkE tyTab mapTab pkTab [] [] F30M 37 bdTab) (codeOf Tryz.f3) Tryz.f3.results F30H F30A F30R (fun y => y.2.1) (a0, a1, ())
theorem F30_eq (a0 : El Y31) (a1 : El Y34) : F30V a0 a1 = F30 a0 a1 := by kernel_rfl
theorem F30_ok : FnOK Tryz.prog 3 F30S := fnOK_of (m := F30M) (fn := Tryz.f3) (hint := F30H) (pack := fun y => y.2.1) hmix tab_ok ⟨⟨F32_ok, trivial⟩, ⟨F31_ok, trivial⟩, ⟨F26_ok, trivial⟩, ⟨F59_ok, trivial⟩, trivial⟩ fun x z h => (F30_eq x.1 x.2.1).trans h
end Q
