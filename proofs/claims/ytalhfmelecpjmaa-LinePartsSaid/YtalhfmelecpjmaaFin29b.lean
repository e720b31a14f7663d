/- The functions of the program as functions of Lean, and that the program computes them; printed by a program of mine. Conditions: none. -/
import Derived.Test.YtalhfmelecpjmaaFin29a
open Tr Go Go.Proofs
namespace Q
noncomputable def F_line_Leave_1 : (El Y3) → (El Y31) → (El Y3) → (El Y3) → Option (El Y4) := fun a0 a1 a2 a3 => Option.bind (idx a1.2.2.1 a0) fun x0 => Option.bind (idx x0.2.2.2.2.2.2.2.1 a2) fun x1 => some (decide (x1.2.1 ≤ a3))
abbrev F_line_Leave_1A : Pats := (.cons (.pd Y3) (.cons (.ro Y31) (.cons (.ro Y3) (.cons (.ro Y3) .nil))))
abbrev F_line_Leave_1R : Pats := (.cons (.pd Y4) .nil)
noncomputable def F_line_Leave_1S : Tr.Spec := { args := F_line_Leave_1A, res := F_line_Leave_1R, fns := [], α := El Y4, f := fun x => F_line_Leave_1 x.1 x.2.1 x.2.2.1 x.2.2.2.1, unp := fun z => (((), (), (), (), ()), (z, ())) }
noncomputable def F_line_Leave_1M : List (Nat × List Tr.Spec) := []
def F_line_Leave_1H : Hint := .leaf
noncomputable def F_line_Leave_1V (a0 : El Y3) (a1 : El Y31) (a2 : El Y3) (a3 : El Y3) : Option (El Y4) := evalF (mkE tyTab mapTab pkTab [] [] F_line_Leave_1M 18) (codeOf Try.f34) Try.f34.results F_line_Leave_1H F_line_Leave_1A F_line_Leave_1R (fun y => y.2.1) (a0, a1, a2, a3, ())
theorem F_line_Leave_1_eq (a0 : El Y3) (a1 : El Y31) (a2 : El Y3) (a3 : El Y3) : F_line_Leave_1V a0 a1 a2 a3 = F_line_Leave_1 a0 a1 a2 a3 := by kernel_rfl
theorem F_line_Leave_1_ok : FnOK Try.prog 34 F_line_Leave_1S := fnOK_of (m := F_line_Leave_1M) (fn := Try.f34) (hint := F_line_Leave_1H) (pack := fun y => y.2.1) hmix tab_ok trivial fun x z h => (F_line_Leave_1_eq x.1 x.2.1 x.2.2.1 x.2.2.2.1).trans h
noncomputable def F_line_find_int_X_line_Leave_1 : (El Y40) → ((El Y31 × El Y3 × El Y3 × Unit)) → Option (El Y3) := fun a0 a1 =>
 Option.bind
 (Tr.run
 (fun s0 =>
 bif decide (s0.1 < s0.2) then
 Option.bind (idx a0 (IntKind.wrap .i64 (s0.1 + IntKind.wrap .i64 (Int.tdiv (IntKind.wrap .i64 (s0.2 - s0.1)) (2 : Int))))) fun x1 =>
 Option.bind (F_line_Leave_1 x1 a1.1 a1.2.1 a1.2.2.1) fun x2 =>
 bif x2 then
 some
 (.inl
 (IntKind.wrap .i64
 (IntKind.wrap .i64 (s0.1 + IntKind.wrap .i64 (Int.tdiv (IntKind.wrap .i64 (s0.2 - s0.1)) (2 : Int))) + (1 : Int)),
 s0.2))
 else some (.inl (s0.1, IntKind.wrap .i64 (s0.1 + IntKind.wrap .i64 (Int.tdiv (IntKind.wrap .i64 (s0.2 - s0.1)) (2 : Int)))))
 else some (.inr s0.1))
 ((0 : Int), (↑(List.length a0) : Int)))
 fun x3 => some x3
abbrev F_line_find_int_X_line_Leave_1A : Pats := (.cons (.pd Y40) (.cons (.fn 34 (.cons (.ro Y31) (.cons (.ro Y3) (.cons (.ro Y3) .nil)))) .nil))
abbrev F_line_find_int_X_line_Leave_1R : Pats := (.cons (.pd Y3) .nil)
noncomputable def F_line_find_int_X_line_Leave_1S : Tr.Spec := { args := F_line_find_int_X_line_Leave_1A, res := F_line_find_int_X_line_Leave_1R, fns := [34], α := El Y3, f := fun x => F_line_find_int_X_line_Leave_1 x.1 x.2.1, unp := fun z => (((), ((), (), (), ()), ()), (z, ())) }
noncomputable def F_line_find_int_X_line_Leave_1M : List (Nat × List Tr.Spec) := [(34, [F_line_Leave_1S])]
def F_line_find_int_X_line_Leave_1H : Hint := (.seq .leaf (.seq .leaf (.seq (.lp ⟨[(5, (.pd Y3)), (6, (.pd Y3))], [], [0, 1], []⟩ [((.exit 0), ⟨[(5, (.pd Y3))], [], [1], []⟩)] .leaf) .leaf)))
noncomputable def F_line_find_int_X_line_Leave_1V (a0 : El Y40) (a1 : (El Y31 × El Y3 × El Y3 × Unit)) : Option (El Y3) := evalF (mkE tyTab mapTab pkTab [] [] F_line_find_int_X_line_Leave_1M 29) (codeOf Try.f32) Try.f32.results F_line_find_int_X_line_Leave_1H F_line_find_int_X_line_Leave_1A F_line_find_int_X_line_Leave_1R (fun y => y.2.1) (a0, a1, ())
theorem F_line_find_int_X_line_Leave_1_eq (a0 : El Y40) (a1 : (El Y31 × El Y3 × El Y3 × Unit)) : F_line_find_int_X_line_Leave_1V a0 a1 = F_line_find_int_X_line_Leave_1 a0 a1 := by kernel_rfl
theorem F_line_find_int_X_line_Leave_1_ok : FnOK Try.prog 32 F_line_find_int_X_line_Leave_1S := fnOK_of (m := F_line_find_int_X_line_Leave_1M) (fn := Try.f32) (hint := F_line_find_int_X_line_Leave_1H) (pack := fun y => y.2.1) hmix tab_ok ⟨⟨F_line_Leave_1_ok, trivial⟩, trivial⟩ fun x z h => (F_line_find_int_X_line_Leave_1_eq x.1 x.2.1).trans h
noncomputable def F_line_Leave : (El Y31) → (El Y40) → (El Y3) → (El Y3) → Option (El Y3 × El Y4) := fun a0 a1 a2 a3 =>
 Option.bind (F_line_usable a0 a1 a2) fun x0 =>
 bif !x0 then some ((0 : Int), false)
 else
 Option.bind (F_line_find_int_X_line_Leave_1 a1 (a0, a2, a3, ())) fun x1 =>
 bif decide (x1 = (0 : Int)) then some ((0 : Int), false)
 else Option.bind (idx a1 (IntKind.wrap .i64 (x1 - (1 : Int)))) fun x2 => some (x2, true)
abbrev F_line_LeaveA : Pats := (.cons (.pd Y31) (.cons (.pd Y40) (.cons (.pd Y3) (.cons (.pd Y3) .nil))))
abbrev F_line_LeaveR : Pats := (.cons (.pd Y3) (.cons (.pd Y4) .nil))
noncomputable def F_line_LeaveS : Tr.Spec := { args := F_line_LeaveA, res := F_line_LeaveR, fns := [], α := El Y3 × El Y4, f := fun x => F_line_Leave x.1 x.2.1 x.2.2.1 x.2.2.2.1, unp := fun z => (((), (), (), (), ()), (z.1, z.2, ())) }
noncomputable def F_line_LeaveM : List (Nat × List Tr.Spec) := [(31, [F_line_usableS]), (32, [F_line_find_int_X_line_ordered_1S, F_line_find_int_X_line_Catch_1S, F_line_find_int_X_line_Leave_1S]), (34, [F_line_Leave_1S])]
def F_line_LeaveH : Hint := .leaf
noncomputable def F_line_LeaveV (a0 : El Y31) (a1 : El Y40) (a2 : El Y3) (a3 : El Y3) : Option (El Y3 × El Y4) := evalF (mkE tyTab mapTab pkTab [] [] F_line_LeaveM 26) (codeOf Try.f19) Try.f19.results F_line_LeaveH F_line_LeaveA F_line_LeaveR (fun y => (y.2.1, y.2.2.1)) (a0, a1, a2, a3, ())
theorem F_line_Leave_eq (a0 : El Y31) (a1 : El Y40) (a2 : El Y3) (a3 : El Y3) : F_line_LeaveV a0 a1 a2 a3 = F_line_Leave a0 a1 a2 a3 := by kernel_rfl
theorem F_line_Leave_ok : FnOK Try.prog 19 F_line_LeaveS := fnOK_of (m := F_line_LeaveM) (fn := Try.f19) (hint := F_line_LeaveH) (pack := fun y => (y.2.1, y.2.2.1)) hmix tab_ok ⟨⟨F_line_usable_ok, trivial⟩, ⟨F_line_find_int_X_line_ordered_1_ok, F_line_find_int_X_line_Catch_1_ok, F_line_find_int_X_line_Leave_1_ok, trivial⟩, ⟨F_line_Leave_1_ok, trivial⟩, trivial⟩ fun x z h => (F_line_Leave_eq x.1 x.2.1 x.2.2.1 x.2.2.2.1).trans h
noncomputable def F_law29_run : (El Y9) → (El Y3) → (El Y3) → Option (El Y49) := fun a0 a1 a2 =>
 some
 ((0 : Int), (0 : Int), (0 : Int), a0, (0 : Int), false, false, [((0 : Int), a1, a1, true, false, ()), ((1 : Int), a2, a2, false, true, ())], ())
abbrev F_law29_runA : Pats := (.cons (.pd Y9) (.cons (.pd Y3) (.cons (.pd Y3) .nil)))
abbrev F_law29_runR : Pats := (.cons (.pd Y49) .nil)
noncomputable def F_law29_runS : Tr.Spec := { args := F_law29_runA, res := F_law29_runR, fns := [], α := El Y49, f := fun x => F_law29_run x.1 x.2.1 x.2.2.1, unp := fun z => (((), (), (), ()), (z, ())) }
noncomputable def F_law29_runM : List (Nat × List Tr.Spec) := []
def F_law29_runH : Hint := .leaf
noncomputable def F_law29_runV (a0 : El Y9) (a1 : El Y3) (a2 : El Y3) : Option (El Y49) := evalF (mkE tyTab mapTab pkTab [] [] F_law29_runM 16) (codeOf Try.f24) Try.f24.results F_law29_runH F_law29_runA F_law29_runR (fun y => y.2.1) (a0, a1, a2, ())
theorem F_law29_run_eq (a0 : El Y9) (a1 : El Y3) (a2 : El Y3) : F_law29_runV a0 a1 a2 = F_law29_run a0 a1 a2 := by kernel_rfl
theorem F_law29_run_ok : FnOK Try.prog 24 F_law29_runS := fnOK_of (m := F_law29_runM) (fn := Try.f24) (hint := F_law29_runH) (pack := fun y => y.2.1) hmix tab_ok trivial fun x z h => (F_law29_run_eq x.1 x.2.1 x.2.2.1).trans h
noncomputable def F_law29_exampleHolds : Option (El Y4) := Option.bind (F_law29_run [(97 : UInt8)] (100 : Int) (180 : Int)) fun x0 =>
 Option.bind (F_law29_run [(98 : UInt8)] (200 : Int) (250 : Int)) fun x1 =>
 Option.bind (F_law29_run [(99 : UInt8)] (150 : Int) (260 : Int)) fun x2 =>
 Option.bind
 (F_line_Lines
 ([([(65 : UInt8)], (0 : Int), false, (0 : Int), ()), ([(66 : UInt8)], (0 : Int), false, (0 : Int), ())], [([(82 : UInt8)], (0 : Int), false, ())],
 [x0, x1, x2], ([] : List (El Y85)), ([] : List (El Y88)), (([] : List (El Y91)), (0 : Int), (0 : Int), (0 : Int), ()), ()))
 fun x3 =>
 bif !decide (x3.2 = (0 : Int)) then some false
 else
 bif !decide ((↑(List.length x3.1) : Int) = (2 : Int)) then some false
 else
 Option.bind (idx x3.1 (0 : Int)) fun x4 =>
 Option.bind (F_ref29_Same x4 [(0 : Int), (2 : Int)]) fun x5 =>
 bif !x5 then some false
 else
 Option.bind (idx x3.1 (1 : Int)) fun x6 =>
 Option.bind (F_ref29_Same x6 [(1 : Int)]) fun x7 =>
 bif !x7 then some false
 else
 Option.bind
 (F_line_Catch
 ([([(65 : UInt8)], (0 : Int), false, (0 : Int), ()), ([(66 : UInt8)], (0 : Int), false, (0 : Int), ())],
 [([(82 : UInt8)], (0 : Int), false, ())], [x0, x1, x2], ([] : List (El Y85)), ([] : List (El Y88)), (([] : List (El Y91)), (0 : Int), (0 : Int), (0 : Int), ()), ())
 [(0 : Int), (2 : Int)] (0 : Int) (101 : Int))
 fun x8 =>
 Option.bind
 (F_line_Leave
 ([([(65 : UInt8)], (0 : Int), false, (0 : Int), ()), ([(66 : UInt8)], (0 : Int), false, (0 : Int), ())],
 [([(82 : UInt8)], (0 : Int), false, ())], [x0, x1, x2], ([] : List (El Y85)), ([] : List (El Y88)), (([] : List (El Y91)), (0 : Int), (0 : Int), (0 : Int), ()), ())
 [(0 : Int), (2 : Int)] (1 : Int) (259 : Int))
 fun x9 =>
 Option.bind
 (F_line_Lines
 (([] : List (El Y54)), ([] : List (El Y56)), [((0 : Int), (0 : Int), (0 : Int), ([] : List UInt8), (0 : Int), false, false, ([] : List (El Y65)), ())], ([] : List (El Y85)),
 ([] : List (El Y88)), (([] : List (El Y91)), (0 : Int), (0 : Int), (0 : Int), ()), ()))
 fun x10 =>
 bif decide (x8.1 = (2 : Int)) then
 bif x8.2 then
 bif decide (x9.1 = (0 : Int)) then
 bif x9.2 then
 Option.bind
 (F_line_IsLine
 ([([(65 : UInt8)], (0 : Int), false, (0 : Int), ()), ([(66 : UInt8)], (0 : Int), false, (0 : Int), ())],
 [([(82 : UInt8)], (0 : Int), false, ())], [x0, x1, x2], ([] : List (El Y85)), ([] : List (El Y88)), (([] : List (El Y91)), (0 : Int), (0 : Int), (0 : Int), ()), ())
 [(0 : Int), (2 : Int)])
 fun x11 =>
 bif x11 then
 Option.bind
 (F_line_IsLine
 ([([(65 : UInt8)], (0 : Int), false, (0 : Int), ()), ([(66 : UInt8)], (0 : Int), false, (0 : Int), ())],
 [([(82 : UInt8)], (0 : Int), false, ())], [x0, x1, x2], ([] : List (El Y85)), ([] : List (El Y88)), (([] : List (El Y91)), (0 : Int), (0 : Int), (0 : Int), ()), ())
 [(2 : Int), (1 : Int)])
 fun x12 => bif !x12 then some (decide (x10.2 = (21 : Int))) else some false
 else some false
 else some false
 else some false
 else some false
 else some false
abbrev F_law29_exampleHoldsA : Pats := .nil
abbrev F_law29_exampleHoldsR : Pats := (.cons (.pd Y4) .nil)
noncomputable def F_law29_exampleHoldsS : Tr.Spec := { args := F_law29_exampleHoldsA, res := F_law29_exampleHoldsR, fns := [], α := El Y4, f := fun x => F_law29_exampleHolds, unp := fun z => ((), (z, ())) }
noncomputable def F_law29_exampleHoldsM : List (Nat × List Tr.Spec) := [(12, [F_line_LinesS]), (15, [F_ref29_SameS]), (16, [F_line_CatchS]), (19, [F_line_LeaveS]), (21, [F_line_IsLineS]), (24, [F_law29_runS])]
def F_law29_exampleHoldsH : Hint := .leaf
noncomputable def F_law29_exampleHoldsV : Option (El Y4) := evalF (mkE tyTab mapTab pkTab [] [] F_law29_exampleHoldsM 94) (codeOf Try.f11) Try.f11.results F_law29_exampleHoldsH F_law29_exampleHoldsA F_law29_exampleHoldsR (fun y => y.2.1) (())
theorem F_law29_exampleHolds_eq  : F_law29_exampleHoldsV  = F_law29_exampleHolds  := by kernel_rfl
theorem F_law29_exampleHolds_ok : FnOK Try.prog 11 F_law29_exampleHoldsS := fnOK_of (m := F_law29_exampleHoldsM) (fn := Try.f11) (hint := F_law29_exampleHoldsH) (pack := fun y => y.2.1) hmix tab_ok ⟨⟨F_line_Lines_ok, trivial⟩, ⟨F_ref29_Same_ok, trivial⟩, ⟨F_line_Catch_ok, trivial⟩, ⟨F_line_Leave_ok, trivial⟩, ⟨F_line_IsLine_ok, trivial⟩, ⟨F_law29_run_ok, trivial⟩, trivial⟩ fun x z h => (F_law29_exampleHolds_eq ).trans h
noncomputable def F_ref26_ValidID : (El Y9) → Option (El Y4) := fun a0 =>
 Option.bind (bif decide ((↑(List.length a0) : Int) < (1 : Int)) then some true else some (decide ((32 : Int) < (↑(List.length a0) : Int)))) fun x0 =>
 bif x0 then some false
 else
 Option.bind
 (Tr.run
 (fun s1 =>
 bif decide (s1 < (↑(List.length a0) : Int)) then
 Option.bind (idx a0 s1) fun x2 =>
 Option.bind
 (bif decide ((97 : Int) ≤ (↑(UInt8.toNat x2) : Int)) then
 bif decide ((↑(UInt8.toNat x2) : Int) ≤ (122 : Int)) then some true
 else
 bif decide ((65 : Int) ≤ (↑(UInt8.toNat x2) : Int)) then
 bif decide ((↑(UInt8.toNat x2) : Int) ≤ (90 : Int)) then some true
 else bif decide ((48 : Int) ≤ (↑(UInt8.toNat x2) : Int)) then some (decide ((↑(UInt8.toNat x2) : Int) ≤ (57 : Int))) else some false
 else bif decide ((48 : Int) ≤ (↑(UInt8.toNat x2) : Int)) then some (decide ((↑(UInt8.toNat x2) : Int) ≤ (57 : Int))) else some false
 else
 bif decide ((65 : Int) ≤ (↑(UInt8.toNat x2) : Int)) then
 bif decide ((↑(UInt8.toNat x2) : Int) ≤ (90 : Int)) then some true
 else bif decide ((48 : Int) ≤ (↑(UInt8.toNat x2) : Int)) then some (decide ((↑(UInt8.toNat x2) : Int) ≤ (57 : Int))) else some false
 else bif decide ((48 : Int) ≤ (↑(UInt8.toNat x2) : Int)) then some (decide ((↑(UInt8.toNat x2) : Int) ≤ (57 : Int))) else some false)
 fun x3 =>
 Option.bind
 (bif !x3 then
 bif !decide ((↑(UInt8.toNat x2) : Int) = (45 : Int)) then
 bif !decide ((↑(UInt8.toNat x2) : Int) = (95 : Int)) then some !decide ((↑(UInt8.toNat x2) : Int) = (46 : Int)) else some false
 else some false
 else some false)
 fun x4 => bif x4 then some (.inr (.inr false)) else some (.inl (IntKind.wrap .i64 (s1 + (1 : Int))))
 else some (.inr (.inl ())))
 (0 : Int))
 fun x5 => Sum.elim (fun _ => some true) (fun y7 => some y7) x5
abbrev F_ref26_ValidIDA : Pats := (.cons (.pd Y9) .nil)
abbrev F_ref26_ValidIDR : Pats := (.cons (.pd Y4) .nil)
noncomputable def F_ref26_ValidIDS : Tr.Spec := { args := F_ref26_ValidIDA, res := F_ref26_ValidIDR, fns := [], α := El Y4, f := fun x => F_ref26_ValidID x.1, unp := fun z => (((), ()), (z, ())) }
noncomputable def F_ref26_ValidIDM : List (Nat × List Tr.Spec) := []
def F_ref26_ValidIDH : Hint := (.seq .leaf (.seq (.seq (.reg [(13, Y4)]) .leaf) (.seq (.seq .leaf (.lp ⟨[(3, (.pd Y3))], [], [0], []⟩ [((.exit 0), ⟨[], [], [], []⟩), (.ret, ⟨[(2, (.pd Y4))], [], [], []⟩)] (.seq .leaf (.seq (.seq .leaf (.seq (.reg [(5, Y4)]) (.seq (.reg [(58, Y4)]) .leaf))) .leaf)))) .leaf)))
noncomputable def F_ref26_ValidIDV (a0 : El Y9) : Option (El Y4) := evalF (mkE tyTab mapTab pkTab [] [] F_ref26_ValidIDM 59) (codeOf Try.f53) Try.f53.results F_ref26_ValidIDH F_ref26_ValidIDA F_ref26_ValidIDR (fun y => y.2.1) (a0, ())
theorem F_ref26_ValidID_eq (a0 : El Y9) : F_ref26_ValidIDV a0 = F_ref26_ValidID a0 := by kernel_rfl
theorem F_ref26_ValidID_ok : FnOK Try.prog 53 F_ref26_ValidIDS := fnOK_of (m := F_ref26_ValidIDM) (fn := Try.f53) (hint := F_ref26_ValidIDH) (pack := fun y => y.2.1) hmix tab_ok trivial fun x z h => (F_ref26_ValidID_eq x.1).trans h
noncomputable def F_ref26_in : (El Y3) → (El Y3) → (El Y3) → Option (El Y4) := fun a0 a1 a2 => Option.bind (bif decide (a1 ≤ a0) then some (decide (a0 ≤ a2)) else some false) fun x0 => some x0
abbrev F_ref26_inA : Pats := (.cons (.pd Y3) (.cons (.pd Y3) (.cons (.pd Y3) .nil)))
abbrev F_ref26_inR : Pats := (.cons (.pd Y4) .nil)
noncomputable def F_ref26_inS : Tr.Spec := { args := F_ref26_inA, res := F_ref26_inR, fns := [], α := El Y4, f := fun x => F_ref26_in x.1 x.2.1 x.2.2.1, unp := fun z => (((), (), (), ()), (z, ())) }
noncomputable def F_ref26_inM : List (Nat × List Tr.Spec) := []
def F_ref26_inH : Hint := (.seq .leaf (.seq (.reg [(6, Y4)]) .leaf))
noncomputable def F_ref26_inV (a0 : El Y3) (a1 : El Y3) (a2 : El Y3) : Option (El Y4) := evalF (mkE tyTab mapTab pkTab [] [] F_ref26_inM 15) (codeOf Try.f54) Try.f54.results F_ref26_inH F_ref26_inA F_ref26_inR (fun y => y.2.1) (a0, a1, a2, ())
theorem F_ref26_in_eq (a0 : El Y3) (a1 : El Y3) (a2 : El Y3) : F_ref26_inV a0 a1 a2 = F_ref26_in a0 a1 a2 := by kernel_rfl
theorem F_ref26_in_ok : FnOK Try.prog 54 F_ref26_inS := fnOK_of (m := F_ref26_inM) (fn := Try.f54) (hint := F_ref26_inH) (pack := fun y => y.2.1) hmix tab_ok trivial fun x z h => (F_ref26_in_eq x.1 x.2.1 x.2.2.1).trans h
noncomputable def F_ref26_stops : (El Y22) → Option (El Y3 × El Y35) := fun a0 =>
 bif decide ((64 : Int) < (↑(List.length a0) : Int)) then some ((0 : Int), (5 : Int))
 else
 Option.bind
 (Tr.run
 (fun s0 =>
 bif decide (s0 < (↑(List.length a0) : Int)) then
 Option.bind (idx a0 s0) fun x1 =>
 Option.bind (F_ref26_ValidID x1.1) fun x2 =>
 bif !x2 then some (.inr (.inr (s0, (12 : Int))))
 else
 Option.bind
 (Tr.run
 (fun s3 =>
 bif decide (s3 < s0) then
 Option.bind (idx a0 s3) fun x4 =>
 Option.bind (idx a0 s0) fun x5 =>
 bif decide (x4.1 = x5.1) then some (.inr (.inr (s0, (6 : Int)))) else some (.inl (IntKind.wrap .i64 (s3 + (1 : Int))))
 else some (.inr (.inl ())))
 (0 : Int))
 fun x6 =>
 Sum.elim
 (fun _ =>
 Option.bind
 (Option.bind (idx a0 s0) fun x8 =>
 Option.bind (F_ref26_in x8.2.1 (0 : Int) (15 : Int)) fun x9 =>
 bif !x9 then some true
 else Option.bind (idx a0 s0) fun x10 => Option.bind (F_ref26_in x10.2.2.2.1 (0 : Int) (3600 : Int)) fun x11 => some !x11)
 fun x12 => bif x12 then some (.inr (.inr (s0, (2 : Int)))) else some (.inl (IntKind.wrap .i64 (s0 + (1 : Int)))))
 (fun y13 => some (.inr (.inr (y13.1, y13.2)))) x6
 else some (.inr (.inl ())))
 (0 : Int))
 fun x14 => Sum.elim (fun _ => some ((0 : Int), (0 : Int))) (fun y16 => some (y16.1, y16.2)) x14
abbrev F_ref26_stopsA : Pats := (.cons (.pd Y22) .nil)
abbrev F_ref26_stopsR : Pats := (.cons (.pd Y3) (.cons (.pd Y35) .nil))
noncomputable def F_ref26_stopsS : Tr.Spec := { args := F_ref26_stopsA, res := F_ref26_stopsR, fns := [], α := El Y3 × El Y35, f := fun x => F_ref26_stops x.1, unp := fun z => (((), ()), (z.1, z.2, ())) }
noncomputable def F_ref26_stopsM : List (Nat × List Tr.Spec) := [(53, [F_ref26_ValidIDS]), (54, [F_ref26_inS])]
def F_ref26_stopsH : Hint := (.seq .leaf (.seq .leaf (.seq (.seq .leaf (.lp ⟨[(4, (.pd Y3))], [], [0], []⟩ [((.exit 0), ⟨[], [], [], []⟩), (.ret, ⟨[(2, (.pd Y3)), (3, (.pd Y35))], [], [], []⟩)] (.seq .leaf (.seq (.seq .leaf (.seq (.seq .leaf (.lp ⟨[(5, (.pd Y3))], [], [0, 4], []⟩ [((.exit 2), ⟨[], [], [0, 4], []⟩), (.ret, ⟨[(2, (.pd Y3)), (3, (.pd Y35))], [], [], []⟩)] .leaf)) (.seq (.reg [(55, Y4)]) .leaf))) .leaf)))) .leaf)))
noncomputable def F_ref26_stopsV (a0 : El Y22) : Option (El Y3 × El Y35) := evalF (mkE tyTab mapTab pkTab [] [] F_ref26_stopsM 57) (codeOf Try.f38) Try.f38.results F_ref26_stopsH F_ref26_stopsA F_ref26_stopsR (fun y => (y.2.1, y.2.2.1)) (a0, ())
theorem F_ref26_stops_eq (a0 : El Y22) : F_ref26_stopsV a0 = F_ref26_stops a0 := by kernel_rfl
theorem F_ref26_stops_ok : FnOK Try.prog 38 F_ref26_stopsS := fnOK_of (m := F_ref26_stopsM) (fn := Try.f38) (hint := F_ref26_stopsH) (pack := fun y => (y.2.1, y.2.2.1)) hmix tab_ok ⟨⟨F_ref26_ValidID_ok, trivial⟩, ⟨F_ref26_in_ok, trivial⟩, trivial⟩ fun x z h => (F_ref26_stops_eq x.1).trans h
noncomputable def F_ref26_routes : (El Y23) → Option (El Y3 × El Y35) := fun a0 =>
 bif decide ((64 : Int) < (↑(List.length a0) : Int)) then some ((0 : Int), (5 : Int))
 else
 Option.bind
 (Tr.run
 (fun s0 =>
 bif decide (s0 < (↑(List.length a0) : Int)) then
 Option.bind (idx a0 s0) fun x1 =>
 Option.bind (F_ref26_ValidID x1.1) fun x2 =>
 bif !x2 then some (.inr (.inr (s0, (12 : Int))))
 else
 Option.bind
 (Tr.run
 (fun s3 =>
 bif decide (s3 < s0) then
 Option.bind (idx a0 s3) fun x4 =>
 Option.bind (idx a0 s0) fun x5 =>
 bif decide (x4.1 = x5.1) then some (.inr (.inr (s0, (6 : Int)))) else some (.inl (IntKind.wrap .i64 (s3 + (1 : Int))))
 else some (.inr (.inl ())))
 (0 : Int))
 fun x6 =>
 Sum.elim
 (fun _ =>
 Option.bind (idx a0 s0) fun x8 =>
 Option.bind (F_ref26_in x8.2.1 (0 : Int) (7 : Int)) fun x9 =>
 bif !x9 then some (.inr (.inr (s0, (2 : Int)))) else some (.inl (IntKind.wrap .i64 (s0 + (1 : Int)))))
 (fun y10 => some (.inr (.inr (y10.1, y10.2)))) x6
 else some (.inr (.inl ())))
 (0 : Int))
 fun x11 => Sum.elim (fun _ => some ((0 : Int), (0 : Int))) (fun y13 => some (y13.1, y13.2)) x11
abbrev F_ref26_routesA : Pats := (.cons (.pd Y23) .nil)
abbrev F_ref26_routesR : Pats := (.cons (.pd Y3) (.cons (.pd Y35) .nil))
noncomputable def F_ref26_routesS : Tr.Spec := { args := F_ref26_routesA, res := F_ref26_routesR, fns := [], α := El Y3 × El Y35, f := fun x => F_ref26_routes x.1, unp := fun z => (((), ()), (z.1, z.2, ())) }
noncomputable def F_ref26_routesM : List (Nat × List Tr.Spec) := [(53, [F_ref26_ValidIDS]), (54, [F_ref26_inS])]
def F_ref26_routesH : Hint := (.seq .leaf (.seq .leaf (.seq (.seq .leaf (.lp ⟨[(4, (.pd Y3))], [], [0], []⟩ [((.exit 0), ⟨[], [], [], []⟩), (.ret, ⟨[(2, (.pd Y3)), (3, (.pd Y35))], [], [], []⟩)] (.seq .leaf (.seq (.seq .leaf (.seq (.seq .leaf (.lp ⟨[(5, (.pd Y3))], [], [0, 4], []⟩ [((.exit 2), ⟨[], [], [0, 4], []⟩), (.ret, ⟨[(2, (.pd Y3)), (3, (.pd Y35))], [], [], []⟩)] .leaf)) .leaf)) .leaf)))) .leaf)))
noncomputable def F_ref26_routesV (a0 : El Y23) : Option (El Y3 × El Y35) := evalF (mkE tyTab mapTab pkTab [] [] F_ref26_routesM 48) (codeOf Try.f39) Try.f39.results F_ref26_routesH F_ref26_routesA F_ref26_routesR (fun y => (y.2.1, y.2.2.1)) (a0, ())
theorem F_ref26_routes_eq (a0 : El Y23) : F_ref26_routesV a0 = F_ref26_routes a0 := by kernel_rfl
theorem F_ref26_routes_ok : FnOK Try.prog 39 F_ref26_routesS := fnOK_of (m := F_ref26_routesM) (fn := Try.f39) (hint := F_ref26_routesH) (pack := fun y => (y.2.1, y.2.2.1)) hmix tab_ok ⟨⟨F_ref26_ValidID_ok, trivial⟩, ⟨F_ref26_in_ok, trivial⟩, trivial⟩ fun x z h => (F_ref26_routes_eq x.1).trans h
noncomputable def F_ref26_Calls : (El Y47) → (El Y3) → (El Y3) → (El Y3) → Option (El Y35) := fun a0 a1 a2 a3 =>
 Option.bind (bif decide ((↑(List.length a0) : Int) < (2 : Int)) then some true else some (decide ((32 : Int) < (↑(List.length a0) : Int)))) fun x0 =>
 bif x0 then some (5 : Int)
 else
 Option.bind
 (Tr.run
 (fun s1 =>
 bif decide (s1 < (↑(List.length a0) : Int)) then
 Option.bind (idx a0 s1) fun x2 =>
 Option.bind (bif decide (x2.1 < (0 : Int)) then some true else some (decide (a1 ≤ x2.1))) fun x3 =>
 bif x3 then some (.inr (.inr (9 : Int)))
 else
 Option.bind
 (bif decide ((0 : Int) < s1) then Option.bind (idx a0 (IntKind.wrap .i64 (s1 - (1 : Int)))) fun x4 => some (decide (x4.1 = x2.1))
 else some false)
 fun x5 =>
 bif x5 then some (.inr (.inr (13 : Int)))
 else
 Option.bind
 (bif decide (x2.2.1 < a2) then some true
 else
 bif decide (x2.2.2.1 < x2.2.1) then some true
 else
 bif decide (a3 < x2.2.2.1) then some true
 else
 bif decide ((0 : Int) < s1) then
 Option.bind (idx a0 (IntKind.wrap .i64 (s1 - (1 : Int)))) fun x6 => some (decide (x2.2.1 < x6.2.2.1))
 else some false)
 fun x7 => bif x7 then some (.inr (.inr (10 : Int))) else some (.inl (IntKind.wrap .i64 (s1 + (1 : Int))))
 else some (.inr (.inl ())))
 (0 : Int))
 fun x8 => Sum.elim (fun _ => some (0 : Int)) (fun y10 => some y10) x8
abbrev F_ref26_CallsA : Pats := (.cons (.pd Y47) (.cons (.pd Y3) (.cons (.pd Y3) (.cons (.pd Y3) .nil))))
abbrev F_ref26_CallsR : Pats := (.cons (.pd Y35) .nil)
noncomputable def F_ref26_CallsS : Tr.Spec := { args := F_ref26_CallsA, res := F_ref26_CallsR, fns := [], α := El Y35, f := fun x => F_ref26_Calls x.1 x.2.1 x.2.2.1 x.2.2.2.1, unp := fun z => (((), (), (), (), ()), (z, ())) }
noncomputable def F_ref26_CallsM : List (Nat × List Tr.Spec) := []
def F_ref26_CallsH : Hint := (.seq .leaf (.seq (.seq (.reg [(18, Y4)]) .leaf) (.seq (.seq .leaf (.lp ⟨[(9, (.pd Y3))], [], [0, 1, 2, 3], []⟩ [((.exit 0), ⟨[], [], [], []⟩), (.ret, ⟨[(8, (.pd Y35))], [], [], []⟩)] (.seq .leaf (.seq (.seq .leaf (.seq (.seq (.reg [(37, Y4)]) .leaf) (.seq (.seq (.reg [(50, Y4)]) .leaf) (.seq (.reg [(82, Y4)]) .leaf)))) .leaf)))) .leaf)))
noncomputable def F_ref26_CallsV (a0 : El Y47) (a1 : El Y3) (a2 : El Y3) (a3 : El Y3) : Option (El Y35) := evalF (mkE tyTab mapTab pkTab [] [] F_ref26_CallsM 83) (codeOf Try.f55) Try.f55.results F_ref26_CallsH F_ref26_CallsA F_ref26_CallsR (fun y => y.2.1) (a0, a1, a2, a3, ())
theorem F_ref26_Calls_eq (a0 : El Y47) (a1 : El Y3) (a2 : El Y3) (a3 : El Y3) : F_ref26_CallsV a0 a1 a2 a3 = F_ref26_Calls a0 a1 a2 a3 := by kernel_rfl
theorem F_ref26_Calls_ok : FnOK Try.prog 55 F_ref26_CallsS := fnOK_of (m := F_ref26_CallsM) (fn := Try.f55) (hint := F_ref26_CallsH) (pack := fun y => y.2.1) hmix tab_ok trivial fun x z h => (F_ref26_Calls_eq x.1 x.2.1 x.2.2.1 x.2.2.2.1).trans h
noncomputable def F_ref26_run : (El Y31) → (El Y3) → Option (El Y35) := fun a0 a1 =>
 Option.bind (idx a0.2.2.1 a1) fun x0 =>
 Option.bind (F_ref26_ValidID x0.2.2.2.1) fun x1 =>
 bif !x1 then some (12 : Int)
 else
 Option.bind (bif decide (x0.1 < (-1 : Int)) then some true else some (decide (x0.2.2.1 < (0 : Int)))) fun x2 =>
 bif x2 then some (2 : Int)
 else
 Option.bind (F_ref26_in x0.2.1 (0 : Int) (36524 : Int)) fun x3 =>
 bif !x3 then some (11 : Int)
 else
 Option.bind
 (bif decide (x0.2.2.2.2.1 < (0 : Int)) then some true
 else some (decide ((↑(List.length a0.2.1) : Int) ≤ x0.2.2.2.2.1)))
 fun x4 =>
 bif x4 then some (9 : Int)
 else
 Option.bind (F_ref26_Calls x0.2.2.2.2.2.2.2.1 (↑(List.length a0.1) : Int) (0 : Int) (3155932800 : Int)) fun x5 =>
 bif !decide (x5 = (0 : Int)) then some x5
 else
 Option.bind
 (Tr.run
 (fun s6 =>
 bif decide (s6 < a1) then
 Option.bind (idx a0.2.2.1 s6) fun x7 =>
 Option.bind
 (bif decide (x7.2.2.2.1 = x0.2.2.2.1) then
 bif decide (x7.2.1 = x0.2.1) then some (decide (x7.2.2.1 = x0.2.2.1)) else some false
 else some false)
 fun x8 => bif x8 then some (.inr (.inr (6 : Int))) else some (.inl (IntKind.wrap .i64 (s6 + (1 : Int))))
 else some (.inr (.inl ())))
 (0 : Int))
 fun x9 => Sum.elim (fun _ => some (0 : Int)) (fun y11 => some y11) x9
abbrev F_ref26_runA : Pats := (.cons (.pd Y31) (.cons (.pd Y3) .nil))
abbrev F_ref26_runR : Pats := (.cons (.pd Y35) .nil)
noncomputable def F_ref26_runS : Tr.Spec := { args := F_ref26_runA, res := F_ref26_runR, fns := [], α := El Y35, f := fun x => F_ref26_run x.1 x.2.1, unp := fun z => (((), (), ()), (z, ())) }
noncomputable def F_ref26_runM : List (Nat × List Tr.Spec) := [(53, [F_ref26_ValidIDS]), (54, [F_ref26_inS]), (55, [F_ref26_CallsS])]
def F_ref26_runH : Hint := (.seq .leaf (.seq .leaf (.seq .leaf (.seq (.seq (.reg [(25, Y4)]) .leaf) (.seq .leaf (.seq (.seq (.reg [(40, Y4)]) .leaf) (.seq .leaf (.seq .leaf (.seq (.seq .leaf (.lp ⟨[(7, (.pd Y3))], [], [1, 2, 5], []⟩ [((.exit 0), ⟨[], [], [], []⟩), (.ret, ⟨[(4, (.pd Y35))], [], [], []⟩)] (.seq .leaf (.seq (.seq .leaf (.seq (.reg [(78, Y4)]) .leaf)) .leaf)))) .leaf)))))))))
noncomputable def F_ref26_runV (a0 : El Y31) (a1 : El Y3) : Option (El Y35) := evalF (mkE tyTab mapTab pkTab [] [] F_ref26_runM 79) (codeOf Try.f40) Try.f40.results F_ref26_runH F_ref26_runA F_ref26_runR (fun y => y.2.1) (a0, a1, ())
theorem F_ref26_run_eq (a0 : El Y31) (a1 : El Y3) : F_ref26_runV a0 a1 = F_ref26_run a0 a1 := by kernel_rfl
theorem F_ref26_run_ok : FnOK Try.prog 40 F_ref26_runS := fnOK_of (m := F_ref26_runM) (fn := Try.f40) (hint := F_ref26_runH) (pack := fun y => y.2.1) hmix tab_ok ⟨⟨F_ref26_ValidID_ok, trivial⟩, ⟨F_ref26_in_ok, trivial⟩, ⟨F_ref26_Calls_ok, trivial⟩, trivial⟩ fun x z h => (F_ref26_run_eq x.1 x.2.1).trans h
noncomputable def F_ref26_leads : (El Y31) → (El Y3) → (El Y3) → (El Y3) → Option (El Y4) := fun a0 a1 a2 a3 =>
 Option.bind
 (Tr.run
 (fun s0 =>
 bif decide (s0.2 ≤ a1) then
 Option.bind
 (Tr.run
 (fun s1 =>
 bif decide (s1.2 < a1) then
 Option.bind
 (Option.bind (idx a0.2.2.2.1 s1.2) fun x2 =>
 bif x2.2.2.2.2.1 then Option.bind (idx a0.2.2.2.1 s1.2) fun x3 => some (decide (x3.1 = s0.1)) else some false)
 fun x4 =>
 bif x4 then Option.bind (idx a0.2.2.2.1 s1.2) fun x5 => some (.inl (x5.2.2.1, IntKind.wrap .i64 (s1.2 + (1 : Int))))
 else some (.inl (s1.1, IntKind.wrap .i64 (s1.2 + (1 : Int))))
 else some (.inr s1.1))
 ((-1 : Int), (0 : Int)))
 fun x6 => bif decide (x6 = a3) then some (.inr (.inr true)) else some (.inl (x6, IntKind.wrap .i64 (s0.2 + (1 : Int))))
 else some (.inr (.inl ())))
 (a2, (0 : Int)))
 fun x7 => Sum.elim (fun _ => some false) (fun y9 => some y9) x7
abbrev F_ref26_leadsA : Pats := (.cons (.pd Y31) (.cons (.pd Y3) (.cons (.pd Y3) (.cons (.pd Y3) .nil))))
abbrev F_ref26_leadsR : Pats := (.cons (.pd Y4) .nil)
noncomputable def F_ref26_leadsS : Tr.Spec := { args := F_ref26_leadsA, res := F_ref26_leadsR, fns := [], α := El Y4, f := fun x => F_ref26_leads x.1 x.2.1 x.2.2.1 x.2.2.2.1, unp := fun z => (((), (), (), (), ()), (z, ())) }
noncomputable def F_ref26_leadsM : List (Nat × List Tr.Spec) := []
def F_ref26_leadsH : Hint := (.seq .leaf (.seq (.seq .leaf (.lp ⟨[(2, (.pd Y3)), (9, (.pd Y3))], [], [1, 3, 4], []⟩ [((.exit 0), ⟨[], [], [], []⟩), (.ret, ⟨[(8, (.pd Y4))], [], [], []⟩)] (.seq .leaf (.seq (.seq .leaf (.seq (.seq .leaf (.lp ⟨[(10, (.pd Y3)), (11, (.pd Y3))], [], [1, 2, 3, 4, 9], []⟩ [((.exit 2), ⟨[(10, (.pd Y3))], [], [1, 3, 4, 9], []⟩)] (.seq .leaf (.seq (.seq (.reg [(37, Y4)]) .leaf) .leaf)))) .leaf)) .leaf)))) .leaf))
noncomputable def F_ref26_leadsV (a0 : El Y31) (a1 : El Y3) (a2 : El Y3) (a3 : El Y3) : Option (El Y4) := evalF (mkE tyTab mapTab pkTab [] [] F_ref26_leadsM 48) (codeOf Try.f56) Try.f56.results F_ref26_leadsH F_ref26_leadsA F_ref26_leadsR (fun y => y.2.1) (a0, a1, a2, a3, ())
theorem F_ref26_leads_eq (a0 : El Y31) (a1 : El Y3) (a2 : El Y3) (a3 : El Y3) : F_ref26_leadsV a0 a1 a2 a3 = F_ref26_leads a0 a1 a2 a3 := by kernel_rfl
theorem F_ref26_leads_ok : FnOK Try.prog 56 F_ref26_leadsS := fnOK_of (m := F_ref26_leadsM) (fn := Try.f56) (hint := F_ref26_leadsH) (pack := fun y => y.2.1) hmix tab_ok trivial fun x z h => (F_ref26_leads_eq x.1 x.2.1 x.2.2.1 x.2.2.2.1).trans h
noncomputable def F_ref26_link : (El Y31) → (El Y3) → Option (El Y35) := fun a0 a1 =>
 Option.bind (idx a0.2.2.2.1 a1) fun x0 =>
 Option.bind
 (Option.bind (F_ref26_in x0.1 (0 : Int) (IntKind.wrap .i64 ((↑(List.length a0.2.2.1) : Int) - (1 : Int)))) fun x1 =>
 bif !x1 then some true
 else
 Option.bind (F_ref26_in x0.2.2.1 (0 : Int) (IntKind.wrap .i64 ((↑(List.length a0.2.2.1) : Int) - (1 : Int)))) fun x2 =>
 bif !x2 then some true else some (decide (x0.1 = x0.2.2.1)))
 fun x3 =>
 bif x3 then some (9 : Int)
 else
 Option.bind (idx a0.2.2.1 x0.1) fun x4 =>
 Option.bind (idx a0.2.2.1 x0.2.2.1) fun x5 =>
 Option.bind
 (Option.bind (F_ref26_in x0.2.1 (0 : Int) (IntKind.wrap .i64 ((↑(List.length x4.2.2.2.2.2.2.2.1) : Int) - (1 : Int)))) fun x6 =>
 bif !x6 then some true
 else
 Option.bind (F_ref26_in x0.2.2.2.1 (0 : Int) (IntKind.wrap .i64 ((↑(List.length x5.2.2.2.2.2.2.2.1) : Int) - (1 : Int)))) fun x7 =>
 some !x7)
 fun x8 =>
 bif x8 then some (9 : Int)
 else
 Option.bind (idx x4.2.2.2.2.2.2.2.1 x0.2.1) fun x9 =>
 Option.bind (idx x5.2.2.2.2.2.2.2.1 x0.2.2.2.1) fun x10 =>
 bif !decide (x9.1 = x10.1) then some (13 : Int)
 else
 Option.bind
 (bif x0.2.2.2.2.1 then
 bif !decide (x0.2.1 = IntKind.wrap .i64 ((↑(List.length x4.2.2.2.2.2.2.2.1) : Int) - (1 : Int))) then some true
 else some !decide (x0.2.2.2.1 = (0 : Int))
 else some false)
 fun x11 =>
 bif x11 then some (19 : Int)
 else
 Option.bind
 (Tr.run
 (fun s12 =>
 bif decide (s12 < a1) then
 Option.bind (idx a0.2.2.2.1 s12) fun x13 =>
 Option.bind
 (bif x0.2.2.2.2.1 then
 bif x13.2.2.2.2.1 then
 bif decide (x13.1 = x0.1) then some true else some (decide (x13.2.2.1 = x0.2.2.1))
 else some false
 else some false)
 fun x14 => bif x14 then some (.inr (.inr (19 : Int))) else some (.inl (IntKind.wrap .i64 (s12 + (1 : Int))))
 else some (.inr (.inl ())))
 (0 : Int))
 fun x15 =>
 Sum.elim
 (fun _ =>
 Option.bind (bif x0.2.2.2.2.1 then Option.bind (F_ref26_leads a0 a1 x0.2.2.1 x0.1) fun x17 => some x17 else some false) fun x18 =>
 bif x18 then some (19 : Int)
 else
 Option.bind
 (Tr.run
 (fun s19 =>
 bif decide (s19 < a1) then
 Option.bind (idx a0.2.2.2.1 s19) fun x20 =>
 Option.bind
 (bif decide (x20.1 = x0.1) then
 bif decide (x20.2.1 = x0.2.1) then
 bif decide (x20.2.2.1 = x0.2.2.1) then some (decide (x20.2.2.2.1 = x0.2.2.2.1))
 else some false
 else some false
 else some false)
 fun x21 => bif x21 then some (.inr (.inr (6 : Int))) else some (.inl (IntKind.wrap .i64 (s19 + (1 : Int))))
 else some (.inr (.inl ())))
 (0 : Int))
 fun x22 => Sum.elim (fun _ => some (0 : Int)) (fun y24 => some y24) x22)
 (fun y25 => some y25) x15
abbrev F_ref26_linkA : Pats := (.cons (.pd Y31) (.cons (.pd Y3) .nil))
abbrev F_ref26_linkR : Pats := (.cons (.pd Y35) .nil)
noncomputable def F_ref26_linkS : Tr.Spec := { args := F_ref26_linkA, res := F_ref26_linkR, fns := [], α := El Y35, f := fun x => F_ref26_link x.1 x.2.1, unp := fun z => (((), (), ()), (z, ())) }
noncomputable def F_ref26_linkM : List (Nat × List Tr.Spec) := [(54, [F_ref26_inS]), (56, [F_ref26_leadsS])]
def F_ref26_linkH : Hint := (.seq .leaf (.seq .leaf (.seq (.seq (.reg [(41, Y4)]) .leaf) (.seq .leaf (.seq (.seq (.reg [(71, Y4)]) .leaf) (.seq .leaf (.seq (.seq (.reg [(99, Y4)]) .leaf) (.seq (.seq .leaf (.lp ⟨[(8, (.pd Y3))], [], [1, 2, 5], []⟩ [((.exit 0), ⟨[], [], [1, 2, 5], []⟩), (.ret, ⟨[(4, (.pd Y35))], [], [], []⟩)] (.seq .leaf (.seq (.seq .leaf (.seq (.reg [(129, Y4)]) .leaf)) .leaf)))) (.seq (.seq (.reg [(140, Y4)]) .leaf) (.seq (.seq .leaf (.lp ⟨[(10, (.pd Y3))], [], [1, 2, 5], []⟩ [((.exit 2), ⟨[], [], [], []⟩), (.ret, ⟨[(4, (.pd Y35))], [], [], []⟩)] (.seq .leaf (.seq (.seq .leaf (.seq (.reg [(176, Y4)]) .leaf)) .leaf)))) .leaf))))))))))
noncomputable def F_ref26_linkV (a0 : El Y31) (a1 : El Y3) : Option (El Y35) := evalF (mkE tyTab mapTab pkTab [] [] F_ref26_linkM 177) (codeOf Try.f41) Try.f41.results F_ref26_linkH F_ref26_linkA F_ref26_linkR (fun y => y.2.1) (a0, a1, ())
theorem F_ref26_link_eq (a0 : El Y31) (a1 : El Y3) : F_ref26_linkV a0 a1 = F_ref26_link a0 a1 := by kernel_rfl
theorem F_ref26_link_ok : FnOK Try.prog 41 F_ref26_linkS := fnOK_of (m := F_ref26_linkM) (fn := Try.f41) (hint := F_ref26_linkH) (pack := fun y => y.2.1) hmix tab_ok ⟨⟨F_ref26_in_ok, trivial⟩, ⟨F_ref26_leads_ok, trivial⟩, trivial⟩ fun x z h => (F_ref26_link_eq x.1 x.2.1).trans h
noncomputable def F_ref26_Shortest : (El Y26) → (El Y3) → (El Y4) → Option (El Y34) := fun a0 a1 a2 =>
 Option.bind
 (Tr.run
 (fun s0 =>
 bif decide (s0.2 < a1) then
 Option.bind
 (Tr.run
 (fun s1 =>
 bif decide (s1.2.2 < a1) then
 Option.bind (guardB (decide (List.length s1.2.1 + List.length [(1099511627776 : Int)] ≤ maxApp))) fun _ =>
 some (.inl (s1.1, s1.2.1 ++ [(1099511627776 : Int)], IntKind.wrap .i64 (s1.2.2 + (1 : Int))))
 else some (.inr (s1.1, s1.2.1)))
 (s0.1, [], (0 : Int)))
 fun x3 =>
 Option.bind (guardB (decide (List.length x3.1 + List.length [x3.2] ≤ maxApp))) fun _ =>
 some (.inl (x3.1 ++ [x3.2], IntKind.wrap .i64 (s0.2 + (1 : Int))))
 else some (.inr s0.1))
 ([], (0 : Int)))
 fun x5 =>
 Option.bind
 (Tr.run
 (fun s6 =>
 bif decide (s6.2 < (↑(List.length a0) : Int)) then
 Option.bind (idx a0 s6.2) fun x7 =>
 Option.bind (bif x7.2.2.2.1 then some true else some !a2) fun x8 =>
 bif x8 then
 Option.bind (inb x7.1 (List.length s6.1)) fun x9 =>
 Option.bind s6.1[x9]? fun _ =>
 Option.bind (inb x7.1 (List.length s6.1)) fun x11 =>
 Option.bind s6.1[x11]? fun _ =>
 Option.bind (idx s6.1 (↑x11 : Int)) fun x13 =>
 Option.bind (inb x7.2.1 (List.length x13)) fun x14 =>
 Option.bind (idx s6.1 (↑x11 : Int)) fun x15 =>
 Option.bind x15[x14]? fun x16 =>
 Option.bind (idx s6.1 (↑x9 : Int)) fun x17 =>
 Option.bind (inb x7.2.1 (List.length x17)) fun x18 =>
 Option.bind (idx s6.1 (↑x9 : Int)) fun x19 =>
 Option.bind x19[x18]? fun _ =>
 some
 (.inl (List.set s6.1 (Int.toNat (↑x9 : Int)) (List.set x19 x18 (Tr.imin x16 x7.2.2.1)), IntKind.wrap .i64 (s6.2 + (1 : Int))))
 else some (.inl (s6.1, IntKind.wrap .i64 (s6.2 + (1 : Int))))
 else some (.inr s6.1))
 (x5, (0 : Int)))
 fun x21 =>
 Option.bind
 (Tr.run
 (fun s22 =>
 bif decide (s22.2 < a1) then
 Option.bind
 (Tr.run
 (fun s23 =>
 bif decide (s23.2 < a1) then
 Option.bind
 (Tr.run
 (fun s24 =>
 bif decide (s24.2 < a1) then
 Option.bind (inb s23.2 (List.length s24.1)) fun x25 =>
 Option.bind s24.1[x25]? fun _ =>
 Option.bind (inb s23.2 (List.length s24.1)) fun x27 =>
 Option.bind s24.1[x27]? fun _ =>
 Option.bind (idx s24.1 (↑x27 : Int)) fun x29 =>
 Option.bind (inb s24.2 (List.length x29)) fun x30 =>
 Option.bind (idx s24.1 (↑x27 : Int)) fun x31 =>
 Option.bind x31[x30]? fun x32 =>
 Option.bind (inb s23.2 (List.length s24.1)) fun x33 =>
 Option.bind s24.1[x33]? fun _ =>
 Option.bind (idx s24.1 (↑x33 : Int)) fun x35 =>
 Option.bind (inb s22.2 (List.length x35)) fun x36 =>
 Option.bind (idx s24.1 (↑x33 : Int)) fun x37 =>
 Option.bind x37[x36]? fun x38 =>
 Option.bind (inb s22.2 (List.length s24.1)) fun x39 =>
 Option.bind s24.1[x39]? fun _ =>
 Option.bind (idx s24.1 (↑x39 : Int)) fun x41 =>
 Option.bind (inb s24.2 (List.length x41)) fun x42 =>
 Option.bind (idx s24.1 (↑x39 : Int)) fun x43 =>
 Option.bind x43[x42]? fun x44 =>
 Option.bind (idx s24.1 (↑x25 : Int)) fun x45 =>
 Option.bind (inb s24.2 (List.length x45)) fun x46 =>
 Option.bind (idx s24.1 (↑x25 : Int)) fun x47 =>
 Option.bind x47[x46]? fun _ =>
 some
 (.inl
 (List.set s24.1 (Int.toNat (↑x25 : Int))
 (List.set x47 x46 (Tr.imin x32 (IntKind.wrap .i64 (x38 + x44)))),
 IntKind.wrap .i64 (s24.2 + (1 : Int))))
 else some (.inr s24.1))
 (s23.1, (0 : Int)))
 fun x49 => some (.inl (x49, IntKind.wrap .i64 (s23.2 + (1 : Int))))
 else some (.inr s23.1))
 (s22.1, (0 : Int)))
 fun x50 => some (.inl (x50, IntKind.wrap .i64 (s22.2 + (1 : Int))))
 else some (.inr s22.1))
 (x21, (0 : Int)))
 fun x51 => some x51
abbrev F_ref26_ShortestA : Pats := (.cons (.pd Y26) (.cons (.pd Y3) (.cons (.pd Y4) .nil)))
abbrev F_ref26_ShortestR : Pats := (.cons (.pd Y34) .nil)
noncomputable def F_ref26_ShortestS : Tr.Spec := { args := F_ref26_ShortestA, res := F_ref26_ShortestR, fns := [], α := El Y34, f := fun x => F_ref26_Shortest x.1 x.2.1 x.2.2.1, unp := fun z => (((), (), (), ()), (z, ())) }
noncomputable def F_ref26_ShortestM : List (Nat × List Tr.Spec) := []
def F_ref26_ShortestH : Hint := (.seq .leaf (.seq .leaf (.seq (.seq .leaf (.lp ⟨[(7, (.rows Y3 false)), (8, (.pd Y3))], [], [0, 1, 2], []⟩ [((.exit 0), ⟨[(7, (.rows Y3 false))], [], [0, 1, 2], []⟩)] (.seq .leaf (.seq (.seq .leaf (.seq (.seq .leaf (.lp ⟨[(7, (.rows Y3 false)), (9, (.own Y3 false)), (10, (.pd Y3))], [], [0, 1, 2, 8], []⟩ [((.exit 2), ⟨[(7, (.rows Y3 false)), (9, (.own Y3 false))], [], [0, 1, 2, 8], []⟩)] .leaf)) .leaf)) .leaf)))) (.seq (.seq .leaf (.lp ⟨[(7, (.rows Y3 false)), (11, (.pd Y3))], [], [0, 1, 2], []⟩ [((.exit 4), ⟨[(7, (.rows Y3 false))], [], [1], []⟩)] (.seq .leaf (.seq (.seq .leaf (.seq (.reg [(50, Y4)]) .leaf)) .leaf)))) (.seq (.seq .leaf (.lp ⟨[(7, (.rows Y3 false)), (13, (.pd Y3))], [], [1], []⟩ [((.exit 6), ⟨[(7, (.rows Y3 false))], [], [], []⟩)] (.seq .leaf (.seq (.seq .leaf (.lp ⟨[(7, (.rows Y3 false)), (14, (.pd Y3))], [], [1, 13], []⟩ [((.exit 8), ⟨[(7, (.rows Y3 false))], [], [1, 13], []⟩)] (.seq .leaf (.seq (.seq .leaf (.lp ⟨[(7, (.rows Y3 false)), (15, (.pd Y3))], [], [1, 13, 14], []⟩ [((.exit 10), ⟨[(7, (.rows Y3 false))], [], [1, 13, 14], []⟩)] .leaf)) .leaf)))) .leaf)))) .leaf)))))
noncomputable def F_ref26_ShortestV (a0 : El Y26) (a1 : El Y3) (a2 : El Y4) : Option (El Y34) := evalF (mkE tyTab mapTab pkTab [34] [] F_ref26_ShortestM 116) (codeOf Try.f65) Try.f65.results F_ref26_ShortestH F_ref26_ShortestA F_ref26_ShortestR (fun y => y.2.1) (a0, a1, a2, ())
theorem F_ref26_Shortest_eq (a0 : El Y26) (a1 : El Y3) (a2 : El Y4) : F_ref26_ShortestV a0 a1 a2 = F_ref26_Shortest a0 a1 a2 := by kernel_rfl
theorem F_ref26_Shortest_ok : FnOK Try.prog 65 F_ref26_ShortestS := fnOK_of (m := F_ref26_ShortestM) (fn := Try.f65) (hint := F_ref26_ShortestH) (pack := fun y => y.2.1) hmix tab_ok trivial fun x z h => (F_ref26_Shortest_eq x.1 x.2.1 x.2.2.1).trans h
noncomputable def F_ref26_Closed : (El Y26) → (El Y3) → Option (El Y26) := fun a0 a1 =>
 Option.bind (F_ref26_Shortest a0 a1 false) fun x0 =>
 Option.bind (F_ref26_Shortest a0 a1 true) fun x1 =>
 Option.bind
 (Tr.run
 (fun s2 =>
 bif decide (s2.2 < a1) then
 Option.bind
 (Tr.run
 (fun s3 =>
 bif decide (s3.2 < a1) then
 Option.bind
 (bif decide (s2.2 = s3.2) then some true
 else Option.bind (idx x0 s2.2) fun x4 => Option.bind (idx x4 s3.2) fun x5 => some (decide ((14400 : Int) < x5)))
 fun x6 =>
 bif x6 then some (.inl (s3.1, IntKind.wrap .i64 (s3.2 + (1 : Int))))
 else
 Option.bind (idx x0 s2.2) fun x7 =>
 Option.bind (idx x7 s3.2) fun x8 =>
 Option.bind (idx x1 s2.2) fun x9 =>
 Option.bind (idx x9 s3.2) fun x10 =>
 Option.bind (idx x0 s2.2) fun x11 =>
 Option.bind (idx x11 s3.2) fun x12 =>
 Option.bind (guardB (decide (List.length s3.1 + List.length [(s2.2, s3.2, x8, decide (x10 = x12), ())] ≤ maxApp))) fun _ =>
 Option.bind
 (Option.bind (idx x1 s2.2) fun x14 =>
 Option.bind (idx x14 s3.2) fun x15 =>
 Option.bind (idx x0 s2.2) fun x16 =>
 Option.bind (idx x16 s3.2) fun x17 =>
 bif decide (x17 < x15) then
 Option.bind (idx x1 s2.2) fun x18 => Option.bind (idx x18 s3.2) fun x19 => some (decide (x19 ≤ (14400 : Int)))
 else some false)
 fun x20 =>
 bif x20 then
 Option.bind (idx x1 s2.2) fun x21 =>
 Option.bind (idx x21 s3.2) fun x22 =>
 Option.bind
 (guardB
 (decide
 (List.length (s3.1 ++ [(s2.2, s3.2, x8, decide (x10 = x12), ())]) + List.length [(s2.2, s3.2, x22, true, ())] ≤
 maxApp)))
 fun _ =>
 some
 (.inl
 (s3.1 ++ [(s2.2, s3.2, x8, decide (x10 = x12), ())] ++ [(s2.2, s3.2, x22, true, ())],
 IntKind.wrap .i64 (s3.2 + (1 : Int))))
 else some (.inl (s3.1 ++ [(s2.2, s3.2, x8, decide (x10 = x12), ())], IntKind.wrap .i64 (s3.2 + (1 : Int))))
 else some (.inr s3.1))
 (s2.1, (0 : Int)))
 fun x24 => some (.inl (x24, IntKind.wrap .i64 (s2.2 + (1 : Int))))
 else some (.inr s2.1))
 ([], (0 : Int)))
 fun x25 => some x25
abbrev F_ref26_ClosedA : Pats := (.cons (.pd Y26) (.cons (.pd Y3) .nil))
abbrev F_ref26_ClosedR : Pats := (.cons (.pd Y26) .nil)
noncomputable def F_ref26_ClosedS : Tr.Spec := { args := F_ref26_ClosedA, res := F_ref26_ClosedR, fns := [], α := El Y26, f := fun x => F_ref26_Closed x.1 x.2.1, unp := fun z => (((), (), ()), (z, ())) }
noncomputable def F_ref26_ClosedM : List (Nat × List Tr.Spec) := [(65, [F_ref26_ShortestS])]
def F_ref26_ClosedH : Hint := (.seq .leaf (.seq .leaf (.seq .leaf (.seq (.seq .leaf (.lp ⟨[(7, (.own Y88 false)), (8, (.pd Y3))], [], [1, 5, 6], []⟩ [((.exit 0), ⟨[(7, (.own Y88 false))], [], [], []⟩)] (.seq .leaf (.seq (.seq .leaf (.lp ⟨[(7, (.own Y88 false)), (9, (.pd Y3))], [], [1, 5, 6, 8], []⟩ [((.exit 2), ⟨[(7, (.own Y88 false))], [], [1, 5, 6, 8], []⟩)] (.seq .leaf (.seq (.seq (.seq (.reg [(39, Y4)]) .leaf) (.seq .leaf (.seq (.reg [(92, Y4)]) .leaf))) .leaf)))) .leaf)))) .leaf))))
noncomputable def F_ref26_ClosedV (a0 : El Y26) (a1 : El Y3) : Option (El Y26) := evalF (mkE tyTab mapTab pkTab [] [] F_ref26_ClosedM 107) (codeOf Try.f57) Try.f57.results F_ref26_ClosedH F_ref26_ClosedA F_ref26_ClosedR (fun y => y.2.1) (a0, a1, ())
theorem F_ref26_Closed_eq (a0 : El Y26) (a1 : El Y3) : F_ref26_ClosedV a0 a1 = F_ref26_Closed a0 a1 := by kernel_rfl
theorem F_ref26_Closed_ok : FnOK Try.prog 57 F_ref26_ClosedS := fnOK_of (m := F_ref26_ClosedM) (fn := Try.f57) (hint := F_ref26_ClosedH) (pack := fun y => y.2.1) hmix tab_ok ⟨⟨F_ref26_Shortest_ok, trivial⟩, trivial⟩ fun x z h => (F_ref26_Closed_eq x.1 x.2.1).trans h
noncomputable def F_ref26_paths : (El Y31) → Option (El Y3 × El Y35) := fun a0 =>
 Option.bind
 (Tr.run
 (fun s0 =>
 bif decide (s0 < (↑(List.length a0.2.2.2.2.1) : Int)) then
 Option.bind (idx a0.2.2.2.2.1 s0) fun x1 =>
 Option.bind
 (Option.bind (F_ref26_in x1.1 (0 : Int) (IntKind.wrap .i64 ((↑(List.length a0.1) : Int) - (1 : Int)))) fun x2 =>
 bif !x2 then some true
 else
 Option.bind (F_ref26_in x1.2.1 (0 : Int) (IntKind.wrap .i64 ((↑(List.length a0.1) : Int) - (1 : Int)))) fun x3 =>
 bif !x3 then some true else some (decide (x1.1 = x1.2.1)))
 fun x4 =>
 bif x4 then some (.inr (.inr (s0, (9 : Int))))
 else
 Option.bind (F_ref26_in x1.2.2.1 (1 : Int) (14400 : Int)) fun x5 =>
 bif !x5 then some (.inr (.inr (s0, (2 : Int))))
 else
 Option.bind
 (Tr.run
 (fun s6 =>
 bif decide (s6 < s0) then
 Option.bind (idx a0.2.2.2.2.1 s6) fun x7 =>
 Option.bind
 (bif decide (x7.1 = x1.1) then
 bif decide (x7.2.1 = x1.2.1) then some (x7.2.2.2.1 == x1.2.2.2.1) else some false
 else some false)
 fun x8 => bif x8 then some (.inr (.inr (s0, (6 : Int)))) else some (.inl (IntKind.wrap .i64 (s6 + (1 : Int))))
 else some (.inr (.inl ())))
 (0 : Int))
 fun x9 => Sum.elim (fun _ => some (.inl (IntKind.wrap .i64 (s0 + (1 : Int))))) (fun y11 => some (.inr (.inr (y11.1, y11.2)))) x9
 else some (.inr (.inl ())))
 (0 : Int))
 fun x12 =>
 Sum.elim
 (fun _ =>
 Option.bind (F_ref26_Closed a0.2.2.2.2.1 (↑(List.length a0.1) : Int)) fun x14 =>
 bif !decide ((↑(List.length x14) : Int) = (↑(List.length a0.2.2.2.2.1) : Int)) then some ((0 : Int), (18 : Int))
 else
 Option.bind
 (Tr.run
 (fun s15 =>
 bif decide (s15 < (↑(List.length x14) : Int)) then
 Option.bind (idx x14 s15) fun x16 =>
 Option.bind (idx a0.2.2.2.2.1 s15) fun x17 =>
 bif
 !(decide (x16.1 = x17.1) &&
 (decide (x16.2.1 = x17.2.1) && (decide (x16.2.2.1 = x17.2.2.1) && x16.2.2.2.1 == x17.2.2.2.1))) then
 some (.inr (.inr ((0 : Int), (18 : Int))))
 else some (.inl (IntKind.wrap .i64 (s15 + (1 : Int))))
 else some (.inr (.inl ())))
 (0 : Int))
 fun x18 => Sum.elim (fun _ => some ((0 : Int), (0 : Int))) (fun y20 => some (y20.1, y20.2)) x18)
 (fun y21 => some (y21.1, y21.2)) x12
abbrev F_ref26_pathsA : Pats := (.cons (.pd Y31) .nil)
abbrev F_ref26_pathsR : Pats := (.cons (.pd Y3) (.cons (.pd Y35) .nil))
noncomputable def F_ref26_pathsS : Tr.Spec := { args := F_ref26_pathsA, res := F_ref26_pathsR, fns := [], α := El Y3 × El Y35, f := fun x => F_ref26_paths x.1, unp := fun z => (((), ()), (z.1, z.2, ())) }
noncomputable def F_ref26_pathsM : List (Nat × List Tr.Spec) := [(54, [F_ref26_inS]), (57, [F_ref26_ClosedS])]
def F_ref26_pathsH : Hint := (.seq .leaf (.seq (.seq .leaf (.lp ⟨[(4, (.pd Y3))], [], [1], []⟩ [((.exit 0), ⟨[], [], [1], []⟩), (.ret, ⟨[(2, (.pd Y3)), (3, (.pd Y35))], [], [], []⟩)] (.seq .leaf (.seq (.seq .leaf (.seq (.seq (.reg [(46, Y4)]) .leaf) (.seq .leaf (.seq .leaf (.lp ⟨[(6, (.pd Y3))], [], [1, 4, 5], []⟩ [((.exit 2), ⟨[], [], [1, 4], []⟩), (.ret, ⟨[(2, (.pd Y3)), (3, (.pd Y35))], [], [], []⟩)] (.seq .leaf (.seq (.seq .leaf (.seq (.reg [(81, Y4)]) .leaf)) .leaf))))))) .leaf)))) (.seq .leaf (.seq .leaf (.seq (.seq .leaf (.lp ⟨[(9, (.pd Y3))], [], [1, 8], []⟩ [((.exit 4), ⟨[], [], [], []⟩), (.ret, ⟨[(2, (.pd Y3)), (3, (.pd Y35))], [], [], []⟩)] .leaf)) .leaf)))))
noncomputable def F_ref26_pathsV (a0 : El Y31) : Option (El Y3 × El Y35) := evalF (mkE tyTab mapTab pkTab [] [] F_ref26_pathsM 111) (codeOf Try.f42) Try.f42.results F_ref26_pathsH F_ref26_pathsA F_ref26_pathsR (fun y => (y.2.1, y.2.2.1)) (a0, ())
theorem F_ref26_paths_eq (a0 : El Y31) : F_ref26_pathsV a0 = F_ref26_paths a0 := by kernel_rfl
theorem F_ref26_paths_ok : FnOK Try.prog 42 F_ref26_pathsS := fnOK_of (m := F_ref26_pathsM) (fn := Try.f42) (hint := F_ref26_pathsH) (pack := fun y => (y.2.1, y.2.2.1)) hmix tab_ok ⟨⟨F_ref26_in_ok, trivial⟩, ⟨F_ref26_Closed_ok, trivial⟩, trivial⟩ fun x z h => (F_ref26_paths_eq x.1).trans h
noncomputable def F_ref26_Fares : (El Y29) → Option (El Y3 × El Y35) := fun a0 =>
 Option.bind
 (Option.bind (F_ref26_in a0.2.1 (0 : Int) (1000000 : Int)) fun x0 =>
 bif !x0 then some true
 else
 Option.bind (F_ref26_in a0.2.2.1 (0 : Int) (86400 : Int)) fun x1 =>
 bif !x1 then some true else Option.bind (F_ref26_in a0.2.2.2.1 (0 : Int) (1000000 : Int)) fun x2 => some !x2)
 fun x3 =>
 bif x3 then some ((-1 : Int), (2 : Int))
 else
 bif decide ((16 : Int) < (↑(List.length a0.1) : Int)) then some ((0 : Int), (5 : Int))
 else
 Option.bind
 (Tr.run
 (fun s4 =>
 bif decide (s4 < (↑(List.length a0.1) : Int)) then
 Option.bind (idx a0.1 s4) fun x5 =>
 Option.bind (F_ref26_ValidID x5.1) fun x6 =>
 bif !x6 then some (.inr (.inr (s4, (12 : Int))))
 else
 Option.bind
 (Tr.run
 (fun s7 =>
 bif decide (s7 < s4) then
 Option.bind (idx a0.1 s7) fun x8 =>
 bif decide (x8.1 = x5.1) then some (.inr (.inr (s4, (6 : Int)))) else some (.inl (IntKind.wrap .i64 (s7 + (1 : Int))))
 else some (.inr (.inl ())))
 (0 : Int))
 fun x9 =>
 Sum.elim
 (fun _ =>
 Option.bind
 (Option.bind (F_ref26_in x5.2.1 (0 : Int) (1000000 : Int)) fun x11 =>
 bif !x11 then some true
 else
 Option.bind (F_ref26_in x5.2.2.1 (1 : Int) (8 : Int)) fun x12 =>
 bif !x12 then some true
 else
 Option.bind (F_ref26_in x5.2.2.2.1 (1 : Int) (16 : Int)) fun x13 =>
 bif !x13 then some true
 else
 Option.bind (F_ref26_in x5.2.2.2.2.1 (0 : Int) (86400 : Int)) fun x14 =>
 bif !x14 then some true else Option.bind (F_ref26_in x5.2.2.2.2.2.1 (1 : Int) (255 : Int)) fun x15 => some !x15)
 fun x16 => bif x16 then some (.inr (.inr (s4, (2 : Int)))) else some (.inl (IntKind.wrap .i64 (s4 + (1 : Int)))))
 (fun y17 => some (.inr (.inr (y17.1, y17.2)))) x9
 else some (.inr (.inl ())))
 (0 : Int))
 fun x18 => Sum.elim (fun _ => some ((0 : Int), (0 : Int))) (fun y20 => some (y20.1, y20.2)) x18
abbrev F_ref26_FaresA : Pats := (.cons (.pd Y29) .nil)
abbrev F_ref26_FaresR : Pats := (.cons (.pd Y3) (.cons (.pd Y35) .nil))
noncomputable def F_ref26_FaresS : Tr.Spec := { args := F_ref26_FaresA, res := F_ref26_FaresR, fns := [], α := El Y3 × El Y35, f := fun x => F_ref26_Fares x.1, unp := fun z => (((), ()), (z.1, z.2, ())) }
noncomputable def F_ref26_FaresM : List (Nat × List Tr.Spec) := [(53, [F_ref26_ValidIDS]), (54, [F_ref26_inS])]
def F_ref26_FaresH : Hint := (.seq .leaf (.seq (.seq (.reg [(22, Y4)]) .leaf) (.seq .leaf (.seq (.seq .leaf (.lp ⟨[(4, (.pd Y3))], [], [1], []⟩ [((.exit 0), ⟨[], [], [], []⟩), (.ret, ⟨[(2, (.pd Y3)), (3, (.pd Y35))], [], [], []⟩)] (.seq .leaf (.seq (.seq .leaf (.seq .leaf (.seq (.seq .leaf (.lp ⟨[(6, (.pd Y3))], [], [1, 4, 5], []⟩ [((.exit 2), ⟨[], [], [1, 4, 5], []⟩), (.ret, ⟨[(2, (.pd Y3)), (3, (.pd Y35))], [], [], []⟩)] .leaf)) (.seq (.reg [(86, Y4)]) .leaf)))) .leaf)))) .leaf))))
noncomputable def F_ref26_FaresV (a0 : El Y29) : Option (El Y3 × El Y35) := evalF (mkE tyTab mapTab pkTab [] [] F_ref26_FaresM 88) (codeOf Try.f43) Try.f43.results F_ref26_FaresH F_ref26_FaresA F_ref26_FaresR (fun y => (y.2.1, y.2.2.1)) (a0, ())
theorem F_ref26_Fares_eq (a0 : El Y29) : F_ref26_FaresV a0 = F_ref26_Fares a0 := by kernel_rfl
theorem F_ref26_Fares_ok : FnOK Try.prog 43 F_ref26_FaresS := fnOK_of (m := F_ref26_FaresM) (fn := Try.f43) (hint := F_ref26_FaresH) (pack := fun y => (y.2.1, y.2.2.1)) hmix tab_ok ⟨⟨F_ref26_ValidID_ok, trivial⟩, ⟨F_ref26_in_ok, trivial⟩, trivial⟩ fun x z h => (F_ref26_Fares_eq x.1).trans h
noncomputable def F_ref26_Check : (El Y31) → Option (El Y3 × El Y3 × El Y35) := fun a0 =>
 Option.bind (F_ref26_stops a0.1) fun x0 =>
 bif !decide (x0.2 = (0 : Int)) then some ((0 : Int), x0.1, x0.2)
 else
 Option.bind (F_ref26_routes a0.2.1) fun x1 =>
 bif !decide (x1.2 = (0 : Int)) then some ((1 : Int), x1.1, x1.2)
 else
 bif decide ((1024 : Int) < (↑(List.length a0.2.2.1) : Int)) then some ((2 : Int), (0 : Int), (5 : Int))
 else
 Option.bind
 (Tr.run
 (fun s2 =>
 bif decide (s2 < (↑(List.length a0.2.2.1) : Int)) then
 Option.bind (F_ref26_run a0 s2) fun x3 =>
 bif !decide (x3 = (0 : Int)) then some (.inr (.inr ((2 : Int), s2, x3))) else some (.inl (IntKind.wrap .i64 (s2 + (1 : Int))))
 else some (.inr (.inl ())))
 (0 : Int))
 fun x4 =>
 Sum.elim
 (fun _ =>
 bif decide ((1024 : Int) < (↑(List.length a0.2.2.2.1) : Int)) then some ((3 : Int), (0 : Int), (5 : Int))
 else
 Option.bind
 (Tr.run
 (fun s6 =>
 bif decide (s6 < (↑(List.length a0.2.2.2.1) : Int)) then
 Option.bind (F_ref26_link a0 s6) fun x7 =>
 bif !decide (x7 = (0 : Int)) then some (.inr (.inr ((3 : Int), s6, x7)))
 else some (.inl (IntKind.wrap .i64 (s6 + (1 : Int))))
 else some (.inr (.inl ())))
 (0 : Int))
 fun x8 =>
 Sum.elim
 (fun _ =>
 Option.bind (F_ref26_paths a0) fun x10 =>
 bif !decide (x10.2 = (0 : Int)) then some ((4 : Int), x10.1, x10.2)
 else
 Option.bind (F_ref26_Fares a0.2.2.2.2.2.1) fun x11 =>
 bif !decide (x11.2 = (0 : Int)) then some ((5 : Int), x11.1, x11.2) else some ((0 : Int), (0 : Int), (0 : Int)))
 (fun y12 => some (y12.1, y12.2.1, y12.2.2)) x8)
 (fun y13 => some (y13.1, y13.2.1, y13.2.2)) x4
abbrev F_ref26_CheckA : Pats := (.cons (.pd Y31) .nil)
abbrev F_ref26_CheckR : Pats := (.cons (.pd Y3) (.cons (.pd Y3) (.cons (.pd Y35) .nil)))
noncomputable def F_ref26_CheckS : Tr.Spec := { args := F_ref26_CheckA, res := F_ref26_CheckR, fns := [], α := El Y3 × El Y3 × El Y35, f := fun x => F_ref26_Check x.1, unp := fun z => (((), ()), (z.1, z.2.1, z.2.2, ())) }
noncomputable def F_ref26_CheckM : List (Nat × List Tr.Spec) := [(38, [F_ref26_stopsS]), (39, [F_ref26_routesS]), (40, [F_ref26_runS]), (41, [F_ref26_linkS]), (42, [F_ref26_pathsS]), (43, [F_ref26_FaresS])]
def F_ref26_CheckH : Hint := (.seq .leaf (.seq .leaf (.seq .leaf (.seq .leaf (.seq .leaf (.seq .leaf (.seq (.seq .leaf (.lp ⟨[(7, (.pd Y3))], [], [1], []⟩ [((.exit 0), ⟨[], [], [1], []⟩), (.ret, ⟨[(2, (.pd Y3)), (3, (.pd Y3)), (4, (.pd Y35))], [], [], []⟩)] .leaf)) (.seq .leaf (.seq (.seq .leaf (.lp ⟨[(8, (.pd Y3))], [], [1], []⟩ [((.exit 2), ⟨[], [], [1], []⟩), (.ret, ⟨[(2, (.pd Y3)), (3, (.pd Y3)), (4, (.pd Y35))], [], [], []⟩)] .leaf)) .leaf)))))))))
noncomputable def F_ref26_CheckV (a0 : El Y31) : Option (El Y3 × El Y3 × El Y35) := evalF (mkE tyTab mapTab pkTab [] [] F_ref26_CheckM 84) (codeOf Try.f28) Try.f28.results F_ref26_CheckH F_ref26_CheckA F_ref26_CheckR (fun y => (y.2.1, y.2.2.1, y.2.2.2.1)) (a0, ())
theorem F_ref26_Check_eq (a0 : El Y31) : F_ref26_CheckV a0 = F_ref26_Check a0 := by kernel_rfl
theorem F_ref26_Check_ok : FnOK Try.prog 28 F_ref26_CheckS := fnOK_of (m := F_ref26_CheckM) (fn := Try.f28) (hint := F_ref26_CheckH) (pack := fun y => (y.2.1, y.2.2.1, y.2.2.2.1)) hmix tab_ok ⟨⟨F_ref26_stops_ok, trivial⟩, ⟨F_ref26_routes_ok, trivial⟩, ⟨F_ref26_run_ok, trivial⟩, ⟨F_ref26_link_ok, trivial⟩, ⟨F_ref26_paths_ok, trivial⟩, ⟨F_ref26_Fares_ok, trivial⟩, trivial⟩ fun x z h => (F_ref26_Check_eq x.1).trans h
noncomputable def F_ref26_Valid : (El Y31) → Option (El Y4) := fun a0 => Option.bind (F_ref26_Check a0) fun x0 => some (decide (x0.2.2 = (0 : Int)))
abbrev F_ref26_ValidA : Pats := (.cons (.pd Y31) .nil)
abbrev F_ref26_ValidR : Pats := (.cons (.pd Y4) .nil)
noncomputable def F_ref26_ValidS : Tr.Spec := { args := F_ref26_ValidA, res := F_ref26_ValidR, fns := [], α := El Y4, f := fun x => F_ref26_Valid x.1, unp := fun z => (((), ()), (z, ())) }
noncomputable def F_ref26_ValidM : List (Nat × List Tr.Spec) := [(28, [F_ref26_CheckS])]
def F_ref26_ValidH : Hint := .leaf
noncomputable def F_ref26_ValidV (a0 : El Y31) : Option (El Y4) := evalF (mkE tyTab mapTab pkTab [] [] F_ref26_ValidM 14) (codeOf Try.f13) Try.f13.results F_ref26_ValidH F_ref26_ValidA F_ref26_ValidR (fun y => y.2.1) (a0, ())
theorem F_ref26_Valid_eq (a0 : El Y31) : F_ref26_ValidV a0 = F_ref26_Valid a0 := by kernel_rfl
theorem F_ref26_Valid_ok : FnOK Try.prog 13 F_ref26_ValidS := fnOK_of (m := F_ref26_ValidM) (fn := Try.f13) (hint := F_ref26_ValidH) (pack := fun y => y.2.1) hmix tab_ok ⟨⟨F_ref26_Check_ok, trivial⟩, trivial⟩ fun x z h => (F_ref26_Valid_eq x.1).trans h
noncomputable def F_ref29_earlier : (El Y31) → (El Y3) → (El Y3) → Option (El Y4) := fun a0 a1 a2 =>
 Option.bind (idx a0.2.2.1 a1) fun x0 =>
 Option.bind (idx x0.2.2.2.2.2.2.2.1 (0 : Int)) fun x1 =>
 Option.bind (idx a0.2.2.1 a2) fun x2 =>
 Option.bind (idx x2.2.2.2.2.2.2.2.1 (0 : Int)) fun x3 =>
 Option.bind
 (bif decide (x1.2.2.1 < x3.2.2.1) then some true
 else bif decide (x1.2.2.1 = x3.2.2.1) then some (decide (a1 < a2)) else some false)
 fun x4 => some x4
abbrev F_ref29_earlierA : Pats := (.cons (.pd Y31) (.cons (.pd Y3) (.cons (.pd Y3) .nil)))
abbrev F_ref29_earlierR : Pats := (.cons (.pd Y4) .nil)
noncomputable def F_ref29_earlierS : Tr.Spec := { args := F_ref29_earlierA, res := F_ref29_earlierR, fns := [], α := El Y4, f := fun x => F_ref29_earlier x.1 x.2.1 x.2.2.1, unp := fun z => (((), (), (), ()), (z, ())) }
noncomputable def F_ref29_earlierM : List (Nat × List Tr.Spec) := []
def F_ref29_earlierH : Hint := (.seq .leaf (.seq .leaf (.seq (.reg [(6, Y4)]) .leaf)))
noncomputable def F_ref29_earlierV (a0 : El Y31) (a1 : El Y3) (a2 : El Y3) : Option (El Y4) := evalF (mkE tyTab mapTab pkTab [] [] F_ref29_earlierM 40) (codeOf Try.f44) Try.f44.results F_ref29_earlierH F_ref29_earlierA F_ref29_earlierR (fun y => y.2.1) (a0, a1, a2, ())
theorem F_ref29_earlier_eq (a0 : El Y31) (a1 : El Y3) (a2 : El Y3) : F_ref29_earlierV a0 a1 a2 = F_ref29_earlier a0 a1 a2 := by kernel_rfl
theorem F_ref29_earlier_ok : FnOK Try.prog 44 F_ref29_earlierS := fnOK_of (m := F_ref29_earlierM) (fn := Try.f44) (hint := F_ref29_earlierH) (pack := fun y => y.2.1) hmix tab_ok trivial fun x z h => (F_ref29_earlier_eq x.1 x.2.1 x.2.2.1).trans h
noncomputable def F_ref29_order : (El Y31) → Option (El Y40) := fun a0 =>
 Option.bind
 (Tr.run
 (fun s0 =>
 bif decide (s0.2 < (↑(List.length a0.2.2.1) : Int)) then
 Option.bind (idx a0.2.2.1 s0.2) fun x1 =>
 bif x1.2.2.2.2.2.2.1 then some (.inl (s0.1, IntKind.wrap .i64 (s0.2 + (1 : Int))))
 else
 Option.bind (guardB (decide (List.length s0.1 + List.length [s0.2] ≤ maxApp))) fun _ =>
 Option.bind
 (Tr.run
 (fun s3 =>
 Option.bind
 (bif decide ((0 : Int) < s3.2) then
 Option.bind (inb (IntKind.wrap .i64 (s3.2 - (1 : Int))) (List.length s3.1)) fun x4 =>
 Option.bind s3.1[x4]? fun x5 => Option.bind (F_ref29_earlier a0 s0.2 x5) fun x6 => some x6
 else some false)
 fun x7 =>
 bif x7 then
 Option.bind (inb (IntKind.wrap .i64 (s3.2 - (1 : Int))) (List.length s3.1)) fun x8 =>
 Option.bind s3.1[x8]? fun x9 =>
 Option.bind (inb s3.2 (List.length s3.1)) fun x10 =>
 Option.bind s3.1[x10]? fun _ => some (.inl (List.set s3.1 x10 x9, IntKind.wrap .i64 (s3.2 - (1 : Int))))
 else some (.inr (s3.1, s3.2)))
 (s0.1 ++ [s0.2], (↑(List.length s0.1) : Int)))
 fun x12 =>
 Option.bind (inb x12.2 (List.length x12.1)) fun x13 =>
 Option.bind x12.1[x13]? fun _ => some (.inl (List.set x12.1 x13 s0.2, IntKind.wrap .i64 (s0.2 + (1 : Int))))
 else some (.inr s0.1))
 ([], (0 : Int)))
 fun x15 => some x15
abbrev F_ref29_orderA : Pats := (.cons (.pd Y31) .nil)
abbrev F_ref29_orderR : Pats := (.cons (.pd Y40) .nil)
noncomputable def F_ref29_orderS : Tr.Spec := { args := F_ref29_orderA, res := F_ref29_orderR, fns := [], α := El Y40, f := fun x => F_ref29_order x.1, unp := fun z => (((), ()), (z, ())) }
noncomputable def F_ref29_orderM : List (Nat × List Tr.Spec) := [(44, [F_ref29_earlierS])]
def F_ref29_orderH : Hint := (.seq .leaf (.seq .leaf (.seq (.seq .leaf (.lp ⟨[(3, (.own Y3 false)), (4, (.pd Y3))], [], [1], []⟩ [((.exit 0), ⟨[(3, (.own Y3 false))], [], [], []⟩)] (.seq .leaf (.seq (.seq .leaf (.seq .leaf (.seq .leaf (.seq (.lp ⟨[(3, (.own Y3 false)), (5, (.pd Y3))], [], [1, 4], []⟩ [((.exit 2), ⟨[(3, (.own Y3 false)), (5, (.pd Y3))], [], [1, 4], []⟩)] (.seq (.seq (.reg [(36, Y4)]) .leaf) .leaf)) .leaf)))) .leaf)))) .leaf)))
noncomputable def F_ref29_orderV (a0 : El Y31) : Option (El Y40) := evalF (mkE tyTab mapTab pkTab [] [] F_ref29_orderM 52) (codeOf Try.f29) Try.f29.results F_ref29_orderH F_ref29_orderA F_ref29_orderR (fun y => y.2.1) (a0, ())
theorem F_ref29_order_eq (a0 : El Y31) : F_ref29_orderV a0 = F_ref29_order a0 := by kernel_rfl
theorem F_ref29_order_ok : FnOK Try.prog 29 F_ref29_orderS := fnOK_of (m := F_ref29_orderM) (fn := Try.f29) (hint := F_ref29_orderH) (pack := fun y => y.2.1) hmix tab_ok ⟨⟨F_ref29_earlier_ok, trivial⟩, trivial⟩ fun x z h => (F_ref29_order_eq x.1).trans h
noncomputable def F_ref29_Follows : (El Y49) → (El Y49) → Option (El Y4) := fun a0 a1 =>
 Option.bind
 (bif !decide (a0.2.2.2.2.1 = a1.2.2.2.2.1) then some true
 else
 bif !a0.2.2.2.2.2.1 == a1.2.2.2.2.2.1 then some true
 else some !decide ((↑(List.length a0.2.2.2.2.2.2.2.1) : Int) = (↑(List.length a1.2.2.2.2.2.2.2.1) : Int)))
 fun x0 =>
 bif x0 then some false
 else
 Option.bind
 (Tr.run
 (fun s1 =>
 bif decide (s1 < (↑(List.length a0.2.2.2.2.2.2.2.1) : Int)) then
 Option.bind (idx a0.2.2.2.2.2.2.2.1 s1) fun x2 =>
 Option.bind (idx a1.2.2.2.2.2.2.2.1 s1) fun x3 =>
 Option.bind
 (bif !decide (x2.1 = x3.1) then some true
 else
 bif !x2.2.2.2.1 == x3.2.2.2.1 then some true
 else
 bif !x2.2.2.2.2.1 == x3.2.2.2.2.1 then some true
 else bif decide (x3.2.1 < x2.2.1) then some true else some (decide (x3.2.2.1 < x2.2.2.1)))
 fun x4 => bif x4 then some (.inr (.inr false)) else some (.inl (IntKind.wrap .i64 (s1 + (1 : Int))))
 else some (.inr (.inl ())))
 (0 : Int))
 fun x5 => Sum.elim (fun _ => some true) (fun y7 => some y7) x5
abbrev F_ref29_FollowsA : Pats := (.cons (.pd Y49) (.cons (.pd Y49) .nil))
abbrev F_ref29_FollowsR : Pats := (.cons (.pd Y4) .nil)
noncomputable def F_ref29_FollowsS : Tr.Spec := { args := F_ref29_FollowsA, res := F_ref29_FollowsR, fns := [], α := El Y4, f := fun x => F_ref29_Follows x.1 x.2.1, unp := fun z => (((), (), ()), (z, ())) }
noncomputable def F_ref29_FollowsM : List (Nat × List Tr.Spec) := []
def F_ref29_FollowsH : Hint := (.seq .leaf (.seq (.seq (.reg [(28, Y4)]) .leaf) (.seq (.seq .leaf (.lp ⟨[(5, (.pd Y3))], [], [2, 3], []⟩ [((.exit 0), ⟨[], [], [], []⟩), (.ret, ⟨[(4, (.pd Y4))], [], [], []⟩)] (.seq .leaf (.seq (.seq .leaf (.seq (.reg [(78, Y4)]) .leaf)) .leaf)))) .leaf)))
noncomputable def F_ref29_FollowsV (a0 : El Y49) (a1 : El Y49) : Option (El Y4) := evalF (mkE tyTab mapTab pkTab [] [] F_ref29_FollowsM 79) (codeOf Try.f30) Try.f30.results F_ref29_FollowsH F_ref29_FollowsA F_ref29_FollowsR (fun y => y.2.1) (a0, a1, ())
theorem F_ref29_Follows_eq (a0 : El Y49) (a1 : El Y49) : F_ref29_FollowsV a0 a1 = F_ref29_Follows a0 a1 := by kernel_rfl
theorem F_ref29_Follows_ok : FnOK Try.prog 30 F_ref29_FollowsS := fnOK_of (m := F_ref29_FollowsM) (fn := Try.f30) (hint := F_ref29_FollowsH) (pack := fun y => y.2.1) hmix tab_ok trivial fun x z h => (F_ref29_Follows_eq x.1 x.2.1).trans h
noncomputable def F_ref29_Lines : (El Y31) → Option (El Y34) := fun a0 =>
 Option.bind (F_ref29_order a0) fun x0 =>
 Option.bind
 (Tr.run
 (fun s1 =>
 bif decide (s1.2 < (↑(List.length x0) : Int)) then
 Option.bind
 (Tr.run
 (fun s2 =>
 Option.bind
 (bif decide (s2 < (↑(List.length s1.1) : Int)) then
 Option.bind (inb s2 (List.length s1.1)) fun x3 =>
 Option.bind s1.1[x3]? fun _ =>
 Option.bind (inb s2 (List.length s1.1)) fun x5 =>
 Option.bind s1.1[x5]? fun _ =>
 Option.bind (idx s1.1 (↑x5 : Int)) fun x7 =>
 Option.bind (idx s1.1 (↑x3 : Int)) fun x8 =>
 Option.bind (inb (IntKind.wrap .i64 ((↑(List.length x7) : Int) - (1 : Int))) (List.length x8)) fun x9 =>
 Option.bind (idx s1.1 (↑x3 : Int)) fun x10 =>
 Option.bind x10[x9]? fun x11 =>
 Option.bind (idx a0.2.2.1 x11) fun x12 =>
 Option.bind (idx x0 s1.2) fun x13 => Option.bind (idx a0.2.2.1 x13) fun x14 => Option.bind (F_ref29_Follows x12 x14) fun x15 => some !x15
 else some false)
 fun x16 => bif x16 then some (.inl (IntKind.wrap .i64 (s2 + (1 : Int)))) else some (.inr s2))
 (0 : Int))
 fun x17 =>
 Option.bind
 (bif decide (x17 = (↑(List.length s1.1) : Int)) then
 Option.bind (guardB (decide (List.length s1.1 + List.length ([[]] : List (List Unit)) ≤ maxApp))) fun _ => some (s1.1 ++ [[]])
 else some s1.1)
 fun x19 =>
 Option.bind (inb x17 (List.length x19)) fun x20 =>
 Option.bind x19[x20]? fun _ =>
 Option.bind (idx x0 s1.2) fun x22 =>
 Option.bind (idx x19 (↑x20 : Int)) fun x23 =>
 Option.bind (guardB (decide (List.length x23 + List.length [x22] ≤ maxApp))) fun _ =>
 Option.bind (inb x17 (List.length x19)) fun x25 =>
 Option.bind (guardB (Tr.holeIs (some (Int.toNat (↑x20 : Int))) x25)) fun _ =>
 Option.bind x19[x25]? fun _ => some (.inl (List.set x19 x25 (x23 ++ [x22]), IntKind.wrap .i64 (s1.2 + (1 : Int))))
 else some (.inr s1.1))
 ([], (0 : Int)))
 fun x28 => some x28
abbrev F_ref29_LinesA : Pats := (.cons (.pd Y31) .nil)
abbrev F_ref29_LinesR : Pats := (.cons (.pd Y34) .nil)
noncomputable def F_ref29_LinesS : Tr.Spec := { args := F_ref29_LinesA, res := F_ref29_LinesR, fns := [], α := El Y34, f := fun x => F_ref29_Lines x.1, unp := fun z => (((), ()), (z, ())) }
noncomputable def F_ref29_LinesM : List (Nat × List Tr.Spec) := [(29, [F_ref29_orderS]), (30, [F_ref29_FollowsS])]
def F_ref29_LinesH : Hint := (.seq .leaf (.seq .leaf (.seq .leaf (.seq (.seq .leaf (.lp ⟨[(3, (.rows Y3 false)), (5, (.pd Y3))], [], [1, 4], []⟩ [((.exit 0), ⟨[(3, (.rows Y3 false))], [], [], []⟩)] (.seq .leaf (.seq (.seq .leaf (.seq (.lp ⟨[(6, (.pd Y3))], [], [1, 3, 4, 5], []⟩ [((.exit 2), ⟨[(6, (.pd Y3))], [], [1, 3, 4, 5], []⟩)] (.seq (.seq (.reg [(46, Y4)]) .leaf) .leaf)) (.seq (.seq .leaf (.cnd (some (⟨[], [], [1, 4, 5, 6], []⟩, [(.normal, ⟨[(3, (.rows Y3 false))], [], [1, 4, 5, 6], []⟩)])) .leaf .leaf)) .leaf))) .leaf)))) .leaf))))
noncomputable def F_ref29_LinesV (a0 : El Y31) : Option (El Y34) := evalF (mkE tyTab mapTab pkTab [34] [] F_ref29_LinesM 70) (codeOf Try.f14) Try.f14.results F_ref29_LinesH F_ref29_LinesA F_ref29_LinesR (fun y => y.2.1) (a0, ())
theorem F_ref29_Lines_eq (a0 : El Y31) : F_ref29_LinesV a0 = F_ref29_Lines a0 := by kernel_rfl
theorem F_ref29_Lines_ok : FnOK Try.prog 14 F_ref29_LinesS := fnOK_of (m := F_ref29_LinesM) (fn := Try.f14) (hint := F_ref29_LinesH) (pack := fun y => y.2.1) hmix tab_ok ⟨⟨F_ref29_order_ok, trivial⟩, ⟨F_ref29_Follows_ok, trivial⟩, trivial⟩ fun x z h => (F_ref29_Lines_eq x.1).trans h
noncomputable def F_law29_LineLists : (El Y31) → Option (El Y4) := fun a0 =>
 Option.bind (F_law29_few a0) fun x0 =>
 bif !x0 then Option.bind F_law29_exampleHolds fun x1 => some x1
 else
 Option.bind (F_line_Lines a0) fun x2 =>
 Option.bind (F_ref26_Valid a0) fun x3 =>
 bif !x3 then
 Option.bind
 (bif decide (x2.2 = (21 : Int)) then
 bif decide ((↑(List.length x2.1) : Int) = (0 : Int)) then Option.bind F_law29_exampleHolds fun x4 => some x4 else some false
 else some false)
 fun x5 => some x5
 else
 Option.bind (F_ref29_Lines a0) fun x6 =>
 Option.bind (bif !decide (x2.2 = (0 : Int)) then some true else some !decide ((↑(List.length x2.1) : Int) = (↑(List.length x6) : Int)))
 fun x7 =>
 bif x7 then some false
 else
 Option.bind
 (Tr.run
 (fun s8 =>
 bif decide (s8 < (↑(List.length x2.1) : Int)) then
 Option.bind (idx x2.1 s8) fun x9 =>
 Option.bind (idx x6 s8) fun x10 =>
 Option.bind (F_ref29_Same x9 x10) fun x11 =>
 bif !x11 then some (.inr (.inr false)) else some (.inl (IntKind.wrap .i64 (s8 + (1 : Int))))
 else some (.inr (.inl ())))
 (0 : Int))
 fun x12 => Sum.elim (fun _ => Option.bind F_law29_exampleHolds fun x14 => some x14) (fun y15 => some y15) x12
abbrev F_law29_LineListsA : Pats := (.cons (.pd Y31) .nil)
abbrev F_law29_LineListsR : Pats := (.cons (.pd Y4) .nil)
noncomputable def F_law29_LineListsS : Tr.Spec := { args := F_law29_LineListsA, res := F_law29_LineListsR, fns := [], α := El Y4, f := fun x => F_law29_LineLists x.1, unp := fun z => (((), ()), (z, ())) }
noncomputable def F_law29_LineListsM : List (Nat × List Tr.Spec) := [(10, [F_law29_fewS]), (11, [F_law29_exampleHoldsS]), (12, [F_line_LinesS]), (13, [F_ref26_ValidS]), (14, [F_ref29_LinesS]), (15, [F_ref29_SameS])]
def F_law29_LineListsH : Hint := (.seq .leaf (.seq .leaf (.seq .leaf (.seq (.seq .leaf (.cnd none (.seq (.reg [(2, Y4)]) .leaf) .leaf)) (.seq .leaf (.seq (.seq (.reg [(39, Y4)]) .leaf) (.seq (.seq .leaf (.lp ⟨[(42, (.pd Y3))], [], [3, 5, 41], []⟩ [((.exit 0), ⟨[], [], [], []⟩), (.ret, ⟨[(2, (.pd Y4))], [], [], []⟩)] .leaf)) .leaf)))))))
noncomputable def F_law29_LineListsV (a0 : El Y31) : Option (El Y4) := evalF (mkE tyTab mapTab pkTab [] [] F_law29_LineListsM 57) (codeOf Try.f3) Try.f3.results F_law29_LineListsH F_law29_LineListsA F_law29_LineListsR (fun y => y.2.1) (a0, ())
theorem F_law29_LineLists_eq (a0 : El Y31) : F_law29_LineListsV a0 = F_law29_LineLists a0 := by kernel_rfl
theorem F_law29_LineLists_ok : FnOK Try.prog 3 F_law29_LineListsS := fnOK_of (m := F_law29_LineListsM) (fn := Try.f3) (hint := F_law29_LineListsH) (pack := fun y => y.2.1) hmix tab_ok ⟨⟨F_law29_few_ok, trivial⟩, ⟨F_law29_exampleHolds_ok, trivial⟩, ⟨F_line_Lines_ok, trivial⟩, ⟨F_ref26_Valid_ok, trivial⟩, ⟨F_ref29_Lines_ok, trivial⟩, ⟨F_ref29_Same_ok, trivial⟩, trivial⟩ fun x z h => (F_law29_LineLists_eq x.1).trans h
noncomputable def F_ref29_IsLine : (El Y31) → (El Y40) → Option (El Y4) := fun a0 a1 =>
 Option.bind
 (Tr.run
 (fun s0 =>
 bif decide (s0 < (↑(List.length a1) : Int)) then
 Option.bind
 (Option.bind (idx a1 s0) fun x1 =>
 bif decide (x1 < (0 : Int)) then some true
 else
 Option.bind (idx a1 s0) fun x2 =>
 bif decide ((↑(List.length a0.2.2.1) : Int) ≤ x2) then some true
 else Option.bind (idx a1 s0) fun x3 => Option.bind (idx a0.2.2.1 x3) fun x4 => some x4.2.2.2.2.2.2.1)
 fun x5 =>
 bif x5 then some (.inr (.inr false))
 else
 Option.bind
 (Tr.run
 (fun s6 =>
 bif decide (s6 < s0) then
 Option.bind (idx a1 s6) fun x7 =>
 Option.bind (idx a1 s0) fun x8 =>
 bif decide (x7 = x8) then some (.inr (.inr false)) else some (.inl (IntKind.wrap .i64 (s6 + (1 : Int))))
 else some (.inr (.inl ())))
 (0 : Int))
 fun x9 =>
 Sum.elim
 (fun _ =>
 Option.bind
 (bif decide ((0 : Int) < s0) then
 Option.bind (idx a1 (IntKind.wrap .i64 (s0 - (1 : Int)))) fun x11 =>
 Option.bind (idx a0.2.2.1 x11) fun x12 =>
 Option.bind (idx a1 s0) fun x13 => Option.bind (idx a0.2.2.1 x13) fun x14 => Option.bind (F_ref29_Follows x12 x14) fun x15 => some !x15
 else some false)
 fun x16 => bif x16 then some (.inr (.inr false)) else some (.inl (IntKind.wrap .i64 (s0 + (1 : Int)))))
 (fun y17 => some (.inr (.inr y17))) x9
 else some (.inr (.inl ())))
 (0 : Int))
 fun x18 => Sum.elim (fun _ => some (decide ((0 : Int) < (↑(List.length a1) : Int)))) (fun y20 => some y20) x18
abbrev F_ref29_IsLineA : Pats := (.cons (.pd Y31) (.cons (.pd Y40) .nil))
abbrev F_ref29_IsLineR : Pats := (.cons (.pd Y4) .nil)
noncomputable def F_ref29_IsLineS : Tr.Spec := { args := F_ref29_IsLineA, res := F_ref29_IsLineR, fns := [], α := El Y4, f := fun x => F_ref29_IsLine x.1 x.2.1, unp := fun z => (((), (), ()), (z, ())) }
noncomputable def F_ref29_IsLineM : List (Nat × List Tr.Spec) := [(30, [F_ref29_FollowsS])]
def F_ref29_IsLineH : Hint := (.seq .leaf (.seq (.seq .leaf (.lp ⟨[(5, (.pd Y3))], [], [1, 2], []⟩ [((.exit 0), ⟨[], [], [1], []⟩), (.ret, ⟨[(4, (.pd Y4))], [], [], []⟩)] (.seq .leaf (.seq (.seq (.seq (.reg [(38, Y4)]) .leaf) (.seq (.seq .leaf (.lp ⟨[(6, (.pd Y3))], [], [1, 2, 5], []⟩ [((.exit 2), ⟨[], [], [1, 2, 5], []⟩), (.ret, ⟨[(4, (.pd Y4))], [], [], []⟩)] .leaf)) (.seq (.reg [(75, Y4)]) .leaf))) .leaf)))) .leaf))
noncomputable def F_ref29_IsLineV (a0 : El Y31) (a1 : El Y40) : Option (El Y4) := evalF (mkE tyTab mapTab pkTab [] [] F_ref29_IsLineM 79) (codeOf Try.f17) Try.f17.results F_ref29_IsLineH F_ref29_IsLineA F_ref29_IsLineR (fun y => y.2.1) (a0, a1, ())
theorem F_ref29_IsLine_eq (a0 : El Y31) (a1 : El Y40) : F_ref29_IsLineV a0 a1 = F_ref29_IsLine a0 a1 := by kernel_rfl
theorem F_ref29_IsLine_ok : FnOK Try.prog 17 F_ref29_IsLineS := fnOK_of (m := F_ref29_IsLineM) (fn := Try.f17) (hint := F_ref29_IsLineH) (pack := fun y => y.2.1) hmix tab_ok ⟨⟨F_ref29_Follows_ok, trivial⟩, trivial⟩ fun x z h => (F_ref29_IsLine_eq x.1 x.2.1).trans h
noncomputable def F_ref29_Catch : (El Y31) → (El Y40) → (El Y3) → (El Y3) → Option (El Y3 × El Y4) := fun a0 a1 a2 a3 =>
 Option.bind
 (Tr.run
 (fun s0 =>
 bif decide (s0 < (↑(List.length a1) : Int)) then
 Option.bind (idx a1 s0) fun x1 =>
 Option.bind (idx a0.2.2.1 x1) fun x2 =>
 Option.bind
 (bif decide ((0 : Int) ≤ a2) then
 bif decide (a2 < (↑(List.length x2.2.2.2.2.2.2.2.1) : Int)) then
 Option.bind (idx x2.2.2.2.2.2.2.2.1 a2) fun x3 => some (decide (a3 ≤ x3.2.2.1))
 else some false
 else some false)
 fun x4 => bif x4 then Option.bind (idx a1 s0) fun x5 => some (.inr (.inr (x5, true))) else some (.inl (IntKind.wrap .i64 (s0 + (1 : Int))))
 else some (.inr (.inl ())))
 (0 : Int))
 fun x6 => Sum.elim (fun _ => some ((0 : Int), false)) (fun y8 => some (y8.1, y8.2)) x6
abbrev F_ref29_CatchA : Pats := (.cons (.pd Y31) (.cons (.pd Y40) (.cons (.pd Y3) (.cons (.pd Y3) .nil))))
abbrev F_ref29_CatchR : Pats := (.cons (.pd Y3) (.cons (.pd Y4) .nil))
noncomputable def F_ref29_CatchS : Tr.Spec := { args := F_ref29_CatchA, res := F_ref29_CatchR, fns := [], α := El Y3 × El Y4, f := fun x => F_ref29_Catch x.1 x.2.1 x.2.2.1 x.2.2.2.1, unp := fun z => (((), (), (), (), ()), (z.1, z.2, ())) }
noncomputable def F_ref29_CatchM : List (Nat × List Tr.Spec) := []
def F_ref29_CatchH : Hint := (.seq .leaf (.seq (.seq .leaf (.lp ⟨[(10, (.pd Y3))], [], [1, 2, 3, 4], []⟩ [((.exit 0), ⟨[], [], [], []⟩), (.ret, ⟨[(8, (.pd Y3)), (9, (.pd Y4))], [], [], []⟩)] (.seq .leaf (.seq (.seq .leaf (.seq (.reg [(43, Y4)]) .leaf)) .leaf)))) .leaf))
noncomputable def F_ref29_CatchV (a0 : El Y31) (a1 : El Y40) (a2 : El Y3) (a3 : El Y3) : Option (El Y3 × El Y4) := evalF (mkE tyTab mapTab pkTab [] [] F_ref29_CatchM 48) (codeOf Try.f18) Try.f18.results F_ref29_CatchH F_ref29_CatchA F_ref29_CatchR (fun y => (y.2.1, y.2.2.1)) (a0, a1, a2, a3, ())
theorem F_ref29_Catch_eq (a0 : El Y31) (a1 : El Y40) (a2 : El Y3) (a3 : El Y3) : F_ref29_CatchV a0 a1 a2 a3 = F_ref29_Catch a0 a1 a2 a3 := by kernel_rfl
theorem F_ref29_Catch_ok : FnOK Try.prog 18 F_ref29_CatchS := fnOK_of (m := F_ref29_CatchM) (fn := Try.f18) (hint := F_ref29_CatchH) (pack := fun y => (y.2.1, y.2.2.1)) hmix tab_ok trivial fun x z h => (F_ref29_Catch_eq x.1 x.2.1 x.2.2.1 x.2.2.2.1).trans h
noncomputable def F_law29_LineCatches : (El Y31) → (El Y42) → Option (El Y4) := fun a0 a1 =>
 Option.bind (Option.bind (F_law29_few a0) fun x0 => bif !x0 then some true else some (decide ((60 : Int) < (↑(List.length a1.1) : Int)))) fun x1 =>
 bif x1 then Option.bind F_law29_exampleHolds fun x2 => some x2
 else
 Option.bind (F_line_Catch a0 a1.1 a1.2.1 a1.2.2.1) fun x3 =>
 Option.bind (Option.bind (F_ref26_Valid a0) fun x4 => bif !x4 then some true else Option.bind (F_ref29_IsLine a0 a1.1) fun x5 => some !x5) fun x6 =>
 bif x6 then
 Option.bind
 (bif decide (x3.1 = (0 : Int)) then bif !x3.2 then Option.bind F_law29_exampleHolds fun x7 => some x7 else some false else some false)
 fun x8 => some x8
 else
 Option.bind (F_ref29_Catch a0 a1.1 a1.2.1 a1.2.2.1) fun x9 =>
 Option.bind
 (bif decide (x3.1 = x9.1) then bif x3.2 == x9.2 then Option.bind F_law29_exampleHolds fun x10 => some x10 else some false
 else some false)
 fun x11 => some x11
abbrev F_law29_LineCatchesA : Pats := (.cons (.pd Y31) (.cons (.pd Y42) .nil))
abbrev F_law29_LineCatchesR : Pats := (.cons (.pd Y4) .nil)
noncomputable def F_law29_LineCatchesS : Tr.Spec := { args := F_law29_LineCatchesA, res := F_law29_LineCatchesR, fns := [], α := El Y4, f := fun x => F_law29_LineCatches x.1 x.2.1, unp := fun z => (((), (), ()), (z, ())) }
noncomputable def F_law29_LineCatchesM : List (Nat × List Tr.Spec) := [(10, [F_law29_fewS]), (11, [F_law29_exampleHoldsS]), (13, [F_ref26_ValidS]), (16, [F_line_CatchS]), (17, [F_ref29_IsLineS]), (18, [F_ref29_CatchS])]
def F_law29_LineCatchesH : Hint := (.seq .leaf (.seq (.seq (.reg [(17, Y4)]) .leaf) (.seq .leaf (.seq (.seq (.reg [(39, Y4)]) (.cnd none (.seq (.reg [(4, Y4)]) .leaf) .leaf)) (.seq .leaf (.seq (.reg [(4, Y4)]) .leaf))))))
noncomputable def F_law29_LineCatchesV (a0 : El Y31) (a1 : El Y42) : Option (El Y4) := evalF (mkE tyTab mapTab pkTab [] [] F_law29_LineCatchesM 71) (codeOf Try.f4) Try.f4.results F_law29_LineCatchesH F_law29_LineCatchesA F_law29_LineCatchesR (fun y => y.2.1) (a0, a1, ())
theorem F_law29_LineCatches_eq (a0 : El Y31) (a1 : El Y42) : F_law29_LineCatchesV a0 a1 = F_law29_LineCatches a0 a1 := by kernel_rfl
theorem F_law29_LineCatches_ok : FnOK Try.prog 4 F_law29_LineCatchesS := fnOK_of (m := F_law29_LineCatchesM) (fn := Try.f4) (hint := F_law29_LineCatchesH) (pack := fun y => y.2.1) hmix tab_ok ⟨⟨F_law29_few_ok, trivial⟩, ⟨F_law29_exampleHolds_ok, trivial⟩, ⟨F_ref26_Valid_ok, trivial⟩, ⟨F_line_Catch_ok, trivial⟩, ⟨F_ref29_IsLine_ok, trivial⟩, ⟨F_ref29_Catch_ok, trivial⟩, trivial⟩ fun x z h => (F_law29_LineCatches_eq x.1 x.2.1).trans h
noncomputable def F_ref29_Leave : (El Y31) → (El Y40) → (El Y3) → (El Y3) → Option (El Y3 × El Y4) := fun a0 a1 a2 a3 =>
 Option.bind
 (Tr.run
 (fun s0 =>
 bif decide ((0 : Int) ≤ s0) then
 Option.bind (idx a1 s0) fun x1 =>
 Option.bind (idx a0.2.2.1 x1) fun x2 =>
 Option.bind
 (bif decide ((0 : Int) ≤ a2) then
 bif decide (a2 < (↑(List.length x2.2.2.2.2.2.2.2.1) : Int)) then
 Option.bind (idx x2.2.2.2.2.2.2.2.1 a2) fun x3 => some (decide (x3.2.1 ≤ a3))
 else some false
 else some false)
 fun x4 => bif x4 then Option.bind (idx a1 s0) fun x5 => some (.inr (.inr (x5, true))) else some (.inl (IntKind.wrap .i64 (s0 - (1 : Int))))
 else some (.inr (.inl ())))
 (IntKind.wrap .i64 ((↑(List.length a1) : Int) - (1 : Int))))
 fun x6 => Sum.elim (fun _ => some ((0 : Int), false)) (fun y8 => some (y8.1, y8.2)) x6
abbrev F_ref29_LeaveA : Pats := (.cons (.pd Y31) (.cons (.pd Y40) (.cons (.pd Y3) (.cons (.pd Y3) .nil))))
abbrev F_ref29_LeaveR : Pats := (.cons (.pd Y3) (.cons (.pd Y4) .nil))
noncomputable def F_ref29_LeaveS : Tr.Spec := { args := F_ref29_LeaveA, res := F_ref29_LeaveR, fns := [], α := El Y3 × El Y4, f := fun x => F_ref29_Leave x.1 x.2.1 x.2.2.1 x.2.2.2.1, unp := fun z => (((), (), (), (), ()), (z.1, z.2, ())) }
noncomputable def F_ref29_LeaveM : List (Nat × List Tr.Spec) := []
def F_ref29_LeaveH : Hint := (.seq .leaf (.seq (.seq .leaf (.lp ⟨[(10, (.pd Y3))], [], [1, 2, 3, 4], []⟩ [((.exit 0), ⟨[], [], [], []⟩), (.ret, ⟨[(8, (.pd Y3)), (9, (.pd Y4))], [], [], []⟩)] (.seq .leaf (.seq (.seq .leaf (.seq (.reg [(44, Y4)]) .leaf)) .leaf)))) .leaf))
noncomputable def F_ref29_LeaveV (a0 : El Y31) (a1 : El Y40) (a2 : El Y3) (a3 : El Y3) : Option (El Y3 × El Y4) := evalF (mkE tyTab mapTab pkTab [] [] F_ref29_LeaveM 49) (codeOf Try.f20) Try.f20.results F_ref29_LeaveH F_ref29_LeaveA F_ref29_LeaveR (fun y => (y.2.1, y.2.2.1)) (a0, a1, a2, a3, ())
theorem F_ref29_Leave_eq (a0 : El Y31) (a1 : El Y40) (a2 : El Y3) (a3 : El Y3) : F_ref29_LeaveV a0 a1 a2 a3 = F_ref29_Leave a0 a1 a2 a3 := by kernel_rfl
theorem F_ref29_Leave_ok : FnOK Try.prog 20 F_ref29_LeaveS := fnOK_of (m := F_ref29_LeaveM) (fn := Try.f20) (hint := F_ref29_LeaveH) (pack := fun y => (y.2.1, y.2.2.1)) hmix tab_ok trivial fun x z h => (F_ref29_Leave_eq x.1 x.2.1 x.2.2.1 x.2.2.2.1).trans h
noncomputable def F_law29_LineLeaves : (El Y31) → (El Y42) → Option (El Y4) := fun a0 a1 =>
 Option.bind (Option.bind (F_law29_few a0) fun x0 => bif !x0 then some true else some (decide ((60 : Int) < (↑(List.length a1.1) : Int)))) fun x1 =>
 bif x1 then Option.bind F_law29_exampleHolds fun x2 => some x2
 else
 Option.bind (F_line_Leave a0 a1.1 a1.2.1 a1.2.2.1) fun x3 =>
 Option.bind (Option.bind (F_ref26_Valid a0) fun x4 => bif !x4 then some true else Option.bind (F_ref29_IsLine a0 a1.1) fun x5 => some !x5) fun x6 =>
 bif x6 then
 Option.bind
 (bif decide (x3.1 = (0 : Int)) then bif !x3.2 then Option.bind F_law29_exampleHolds fun x7 => some x7 else some false else some false)
 fun x8 => some x8
 else
 Option.bind (F_ref29_Leave a0 a1.1 a1.2.1 a1.2.2.1) fun x9 =>
 Option.bind
 (bif decide (x3.1 = x9.1) then bif x3.2 == x9.2 then Option.bind F_law29_exampleHolds fun x10 => some x10 else some false
 else some false)
 fun x11 => some x11
abbrev F_law29_LineLeavesA : Pats := (.cons (.pd Y31) (.cons (.pd Y42) .nil))
abbrev F_law29_LineLeavesR : Pats := (.cons (.pd Y4) .nil)
noncomputable def F_law29_LineLeavesS : Tr.Spec := { args := F_law29_LineLeavesA, res := F_law29_LineLeavesR, fns := [], α := El Y4, f := fun x => F_law29_LineLeaves x.1 x.2.1, unp := fun z => (((), (), ()), (z, ())) }
noncomputable def F_law29_LineLeavesM : List (Nat × List Tr.Spec) := [(10, [F_law29_fewS]), (11, [F_law29_exampleHoldsS]), (13, [F_ref26_ValidS]), (17, [F_ref29_IsLineS]), (19, [F_line_LeaveS]), (20, [F_ref29_LeaveS])]
def F_law29_LineLeavesH : Hint := (.seq .leaf (.seq (.seq (.reg [(17, Y4)]) .leaf) (.seq .leaf (.seq (.seq (.reg [(39, Y4)]) (.cnd none (.seq (.reg [(4, Y4)]) .leaf) .leaf)) (.seq .leaf (.seq (.reg [(4, Y4)]) .leaf))))))
noncomputable def F_law29_LineLeavesV (a0 : El Y31) (a1 : El Y42) : Option (El Y4) := evalF (mkE tyTab mapTab pkTab [] [] F_law29_LineLeavesM 71) (codeOf Try.f5) Try.f5.results F_law29_LineLeavesH F_law29_LineLeavesA F_law29_LineLeavesR (fun y => y.2.1) (a0, a1, ())
theorem F_law29_LineLeaves_eq (a0 : El Y31) (a1 : El Y42) : F_law29_LineLeavesV a0 a1 = F_law29_LineLeaves a0 a1 := by kernel_rfl
theorem F_law29_LineLeaves_ok : FnOK Try.prog 5 F_law29_LineLeavesS := fnOK_of (m := F_law29_LineLeavesM) (fn := Try.f5) (hint := F_law29_LineLeavesH) (pack := fun y => y.2.1) hmix tab_ok ⟨⟨F_law29_few_ok, trivial⟩, ⟨F_law29_exampleHolds_ok, trivial⟩, ⟨F_ref26_Valid_ok, trivial⟩, ⟨F_ref29_IsLine_ok, trivial⟩, ⟨F_line_Leave_ok, trivial⟩, ⟨F_ref29_Leave_ok, trivial⟩, trivial⟩ fun x z h => (F_law29_LineLeaves_eq x.1 x.2.1).trans h
noncomputable def F_law29_LineChecks : (El Y31) → (El Y40) → Option (El Y4) := fun a0 a1 =>
 Option.bind (Option.bind (F_law29_few a0) fun x0 => bif !x0 then some true else some (decide ((60 : Int) < (↑(List.length a1) : Int)))) fun x1 =>
 bif x1 then Option.bind F_law29_exampleHolds fun x2 => some x2
 else
 Option.bind
 (Option.bind (F_line_IsLine a0 a1) fun x3 =>
 Option.bind (F_ref26_Valid a0) fun x4 =>
 bif x4 then Option.bind (F_ref29_IsLine a0 a1) fun x5 => bif x3 == x5 then Option.bind F_law29_exampleHolds fun x6 => some x6 else some false
 else bif x3 == false then Option.bind F_law29_exampleHolds fun x7 => some x7 else some false)
 fun x8 => some x8
abbrev F_law29_LineChecksA : Pats := (.cons (.pd Y31) (.cons (.pd Y40) .nil))
abbrev F_law29_LineChecksR : Pats := (.cons (.pd Y4) .nil)
noncomputable def F_law29_LineChecksS : Tr.Spec := { args := F_law29_LineChecksA, res := F_law29_LineChecksR, fns := [], α := El Y4, f := fun x => F_law29_LineChecks x.1 x.2.1, unp := fun z => (((), (), ()), (z, ())) }
noncomputable def F_law29_LineChecksM : List (Nat × List Tr.Spec) := [(10, [F_law29_fewS]), (11, [F_law29_exampleHoldsS]), (13, [F_ref26_ValidS]), (17, [F_ref29_IsLineS]), (21, [F_line_IsLineS])]
def F_law29_LineChecksH : Hint := (.seq .leaf (.seq (.seq (.reg [(12, Y4)]) .leaf) (.seq (.reg [(4, Y4)]) .leaf)))
noncomputable def F_law29_LineChecksV (a0 : El Y31) (a1 : El Y40) : Option (El Y4) := evalF (mkE tyTab mapTab pkTab [] [] F_law29_LineChecksM 28) (codeOf Try.f6) Try.f6.results F_law29_LineChecksH F_law29_LineChecksA F_law29_LineChecksR (fun y => y.2.1) (a0, a1, ())
theorem F_law29_LineChecks_eq (a0 : El Y31) (a1 : El Y40) : F_law29_LineChecksV a0 a1 = F_law29_LineChecks a0 a1 := by kernel_rfl
theorem F_law29_LineChecks_ok : FnOK Try.prog 6 F_law29_LineChecksS := fnOK_of (m := F_law29_LineChecksM) (fn := Try.f6) (hint := F_law29_LineChecksH) (pack := fun y => y.2.1) hmix tab_ok ⟨⟨F_law29_few_ok, trivial⟩, ⟨F_law29_exampleHolds_ok, trivial⟩, ⟨F_ref26_Valid_ok, trivial⟩, ⟨F_ref29_IsLine_ok, trivial⟩, ⟨F_line_IsLine_ok, trivial⟩, trivial⟩ fun x z h => (F_law29_LineChecks_eq x.1 x.2.1).trans h
noncomputable def F_law29_LineParts : (El Y31) → Option (El Y4) := fun a0 =>
 Option.bind (Option.bind (F_law29_few a0) fun x0 => bif !x0 then some true else Option.bind (F_ref26_Valid a0) fun x1 => some !x1) fun x2 =>
 bif x2 then Option.bind F_law29_exampleHolds fun x3 => some x3
 else
 Option.bind (F_line_Lines a0) fun x4 =>
 Option.bind (bif !decide (x4.2 = (0 : Int)) then some true else some (decide ((↑(List.length a0.2.2.1) : Int) < (↑(List.length x4.1) : Int))))
 fun x5 =>
 bif x5 then some false
 else
 Option.bind
 (guardB
 (decide
 ((0 : Tr.El (Tr.Ty.int .i64)) ≤ (↑(List.length a0.2.2.1) : Int) ∧
 (↑(List.length a0.2.2.1) : Int) ≤ (↑(List.length a0.2.2.1) : Int) ∧ (↑(List.length a0.2.2.1) : Int) ≤ (↑maxApp : Tr.El (Tr.Ty.int .i64)))))
 fun _ =>
 Option.bind
 (Tr.run
 (fun s7 =>
 bif decide (s7.2 < (↑(List.length x4.1) : Int)) then
 Option.bind (idx x4.1 s7.2) fun x8 =>
 Option.bind
 (bif decide ((↑(List.length a0.2.2.1) : Int) < (↑(List.length x8) : Int)) then some true
 else Option.bind (F_line_IsLine a0 x8) fun x9 => some !x9)
 fun x10 =>
 bif x10 then some (.inr (.inr false))
 else
 Option.bind
 (Tr.run
 (fun s11 =>
 bif decide (s11.2 < (↑(List.length x8) : Int)) then
 Option.bind (idx x8 s11.2) fun x12 =>
 Option.bind (bif decide (x12 < (0 : Int)) then some true else some (decide ((↑(List.length a0.2.2.1) : Int) ≤ x12)))
 fun x13 =>
 bif x13 then some (.inr (.inr false))
 else
 Option.bind (inb x12 (List.length s11.1)) fun x14 =>
 Option.bind s11.1[x14]? fun x15 =>
 Option.bind (inb x12 (List.length s11.1)) fun x16 =>
 Option.bind s11.1[x16]? fun _ =>
 some (.inl (List.set s11.1 x16 (IntKind.wrap .i64 (x15 + (1 : Int))), IntKind.wrap .i64 (s11.2 + (1 : Int))))
 else some (.inr (.inl s11.1)))
 (s7.1, (0 : Int)))
 fun x18 => Sum.elim (fun y19 => some (.inl (y19, IntKind.wrap .i64 (s7.2 + (1 : Int))))) (fun y20 => some (.inr (.inr y20))) x18
 else some (.inr (.inl s7.1)))
 (List.replicate (Int.toNat (↑(List.length a0.2.2.1) : Int)) ((0 : Int)), (0 : Int)))
 fun x21 =>
 Sum.elim
 (fun y22 =>
 Option.bind
 (Tr.run
 (fun s23 =>
 bif decide (s23 < (↑(List.length a0.2.2.1) : Int)) then
 Option.bind (idx a0.2.2.1 s23) fun x24 =>
 Option.bind
 (bif x24.2.2.2.2.2.2.1 then
 Option.bind (inb s23 (List.length y22)) fun x25 =>
 Option.bind y22[x25]? fun x26 =>
 bif !decide (x26 = (0 : Int)) then some true
 else
 bif !x24.2.2.2.2.2.2.1 then
 Option.bind (inb s23 (List.length y22)) fun x27 => Option.bind y22[x27]? fun x28 => some !decide (x28 = (1 : Int))
 else some false
 else
 bif !x24.2.2.2.2.2.2.1 then
 Option.bind (inb s23 (List.length y22)) fun x29 => Option.bind y22[x29]? fun x30 => some !decide (x30 = (1 : Int))
 else some false)
 fun x31 => bif x31 then some (.inr (.inr false)) else some (.inl (IntKind.wrap .i64 (s23 + (1 : Int))))
 else some (.inr (.inl ())))
 (0 : Int))
 fun x32 => Sum.elim (fun _ => Option.bind F_law29_exampleHolds fun x34 => some x34) (fun y35 => some y35) x32)
 (fun y36 => some y36) x21
abbrev F_law29_LinePartsA : Pats := (.cons (.pd Y31) .nil)
abbrev F_law29_LinePartsR : Pats := (.cons (.pd Y4) .nil)
noncomputable def F_law29_LinePartsS : Tr.Spec := { args := F_law29_LinePartsA, res := F_law29_LinePartsR, fns := [], α := El Y4, f := fun x => F_law29_LineParts x.1, unp := fun z => (((), ()), (z, ())) }
noncomputable def F_law29_LinePartsM : List (Nat × List Tr.Spec) := [(10, [F_law29_fewS]), (11, [F_law29_exampleHoldsS]), (12, [F_line_LinesS]), (13, [F_ref26_ValidS]), (21, [F_line_IsLineS])]
def F_law29_LinePartsH : Hint := (.seq .leaf (.seq (.seq (.reg [(19, Y4)]) .leaf) (.seq .leaf (.seq (.seq (.reg [(35, Y4)]) .leaf) (.seq .leaf (.seq (.seq .leaf (.lp ⟨[(5, (.own Y3 false)), (42, (.pd Y3))], [], [1, 40, 41], []⟩ [((.exit 0), ⟨[(5, (.own Y3 false))], [], [1], []⟩), (.ret, ⟨[(2, (.pd Y4))], [], [], []⟩)] (.seq .leaf (.seq .leaf (.seq (.seq .leaf (.seq (.seq (.reg [(57, Y4)]) .leaf) (.seq .leaf (.lp ⟨[(5, (.own Y3 false)), (60, (.pd Y3))], [], [1, 40, 41, 42, 58, 59], []⟩ [((.exit 2), ⟨[(5, (.own Y3 false))], [], [1, 40, 41, 42], []⟩), (.ret, ⟨[(2, (.pd Y4))], [], [], []⟩)] (.seq .leaf (.seq .leaf (.seq (.seq .leaf (.seq (.seq (.reg [(72, Y4)]) .leaf) .leaf)) .leaf))))))) .leaf))))) (.seq (.seq .leaf (.lp ⟨[(84, (.pd Y3))], [], [5, 82, 83], []⟩ [((.exit 4), ⟨[], [], [], []⟩), (.ret, ⟨[(2, (.pd Y4))], [], [], []⟩)] (.seq .leaf (.seq .leaf (.seq (.seq .leaf (.seq (.reg [(109, Y4)]) .leaf)) .leaf))))) .leaf)))))))
noncomputable def F_law29_LinePartsV (a0 : El Y31) : Option (El Y4) := evalF (mkE tyTab mapTab pkTab [] [] F_law29_LinePartsM 112) (codeOf Try.f7) Try.f7.results F_law29_LinePartsH F_law29_LinePartsA F_law29_LinePartsR (fun y => y.2.1) (a0, ())
theorem F_law29_LineParts_eq (a0 : El Y31) : F_law29_LinePartsV a0 = F_law29_LineParts a0 := by kernel_rfl
theorem F_law29_LineParts_ok : FnOK Try.prog 7 F_law29_LinePartsS := fnOK_of (m := F_law29_LinePartsM) (fn := Try.f7) (hint := F_law29_LinePartsH) (pack := fun y => y.2.1) hmix tab_ok ⟨⟨F_law29_few_ok, trivial⟩, ⟨F_law29_exampleHolds_ok, trivial⟩, ⟨F_line_Lines_ok, trivial⟩, ⟨F_ref26_Valid_ok, trivial⟩, ⟨F_line_IsLine_ok, trivial⟩, trivial⟩ fun x z h => (F_law29_LineParts_eq x.1).trans h
noncomputable def F_law29_overtaken : (El Y47) → (El Y47) → Option (El Y4) := fun a0 a1 =>
 Option.bind
 (Tr.run
 (fun s0 =>
 bif decide (s0.2.2 < (↑(List.length a0) : Int)) then
 Option.bind
 (bif s0.1 then some true
 else Option.bind (idx a0 s0.2.2) fun x1 => Option.bind (idx a1 s0.2.2) fun x2 => some (decide (x1.2.2.1 < x2.2.2.1)))
 fun x3 =>
 Option.bind
 (bif s0.2.1 then some true
 else Option.bind (idx a0 s0.2.2) fun x4 => Option.bind (idx a1 s0.2.2) fun x5 => some (decide (x5.2.1 < x4.2.1)))
 fun x6 => some (.inl (x3, x6, IntKind.wrap .i64 (s0.2.2 + (1 : Int))))
 else some (.inr (s0.1, s0.2.1)))
 (false, false, (0 : Int)))
 fun x7 => Option.bind (bif x7.1 then some x7.2 else some false) fun x8 => some x8
abbrev F_law29_overtakenA : Pats := (.cons (.pd Y47) (.cons (.pd Y47) .nil))
abbrev F_law29_overtakenR : Pats := (.cons (.pd Y4) .nil)
noncomputable def F_law29_overtakenS : Tr.Spec := { args := F_law29_overtakenA, res := F_law29_overtakenR, fns := [], α := El Y4, f := fun x => F_law29_overtaken x.1 x.2.1, unp := fun z => (((), (), ()), (z, ())) }
noncomputable def F_law29_overtakenM : List (Nat × List Tr.Spec) := []
def F_law29_overtakenH : Hint := (.seq .leaf (.seq .leaf (.seq (.seq .leaf (.lp ⟨[(5, (.pd Y4)), (6, (.pd Y4)), (10, (.pd Y3))], [], [0, 1, 9], []⟩ [((.exit 0), ⟨[(5, (.pd Y4)), (6, (.pd Y4))], [], [], []⟩)] (.seq .leaf (.seq .leaf (.seq (.seq .leaf (.seq (.reg [(5, Y4)]) (.reg [(6, Y4)]))) .leaf))))) (.seq (.reg [(4, Y4)]) .leaf))))
noncomputable def F_law29_overtakenV (a0 : El Y47) (a1 : El Y47) : Option (El Y4) := evalF (mkE tyTab mapTab pkTab [] [] F_law29_overtakenM 46) (codeOf Try.f22) Try.f22.results F_law29_overtakenH F_law29_overtakenA F_law29_overtakenR (fun y => y.2.1) (a0, a1, ())
theorem F_law29_overtaken_eq (a0 : El Y47) (a1 : El Y47) : F_law29_overtakenV a0 a1 = F_law29_overtaken a0 a1 := by kernel_rfl
theorem F_law29_overtaken_ok : FnOK Try.prog 22 F_law29_overtakenS := fnOK_of (m := F_law29_overtakenM) (fn := Try.f22) (hint := F_law29_overtakenH) (pack := fun y => y.2.1) hmix tab_ok trivial fun x z h => (F_law29_overtaken_eq x.1 x.2.1).trans h
noncomputable def F_law29_LineFifo : (El Y31) → (El Y40) → Option (El Y4) := fun a0 a1 =>
 Option.bind
 (Option.bind (F_law29_few a0) fun x0 =>
 bif !x0 then some true else bif decide ((60 : Int) < (↑(List.length a1) : Int)) then some true else Option.bind (F_line_IsLine a0 a1) fun x1 => some !x1)
 fun x2 =>
 bif x2 then Option.bind F_law29_exampleHolds fun x3 => some x3
 else
 Option.bind
 (Tr.run
 (fun s4 =>
 bif decide (s4 < (↑(List.length a1) : Int)) then
 Option.bind (idx a1 s4) fun x5 =>
 Option.bind
 (Tr.run
 (fun s6 =>
 bif decide (s6 < (↑(List.length a1) : Int)) then
 Option.bind (idx a1 s6) fun x7 =>
 Option.bind
 (bif decide (x5 < (0 : Int)) then some true
 else
 bif decide ((↑(List.length a0.2.2.1) : Int) ≤ x5) then some true
 else
 bif decide (x7 < (0 : Int)) then some true
 else
 bif decide ((↑(List.length a0.2.2.1) : Int) ≤ x7) then some true
 else
 Option.bind (idx a0.2.2.1 x5) fun x8 =>
 Option.bind (idx a0.2.2.1 x7) fun x9 =>
 some !decide ((↑(List.length x8.2.2.2.2.2.2.2.1) : Int) = (↑(List.length x9.2.2.2.2.2.2.2.1) : Int)))
 fun x10 =>
 bif x10 then some (.inr (.inr false))
 else
 Option.bind (idx a0.2.2.1 x5) fun x11 =>
 Option.bind (idx a0.2.2.1 x7) fun x12 =>
 Option.bind (F_law29_overtaken x11.2.2.2.2.2.2.2.1 x12.2.2.2.2.2.2.2.1) fun x13 =>
 bif x13 then some (.inr (.inr false)) else some (.inl (IntKind.wrap .i64 (s6 + (1 : Int))))
 else some (.inr (.inl ())))
 (0 : Int))
 fun x14 => Sum.elim (fun _ => some (.inl (IntKind.wrap .i64 (s4 + (1 : Int))))) (fun y16 => some (.inr (.inr y16))) x14
 else some (.inr (.inl ())))
 (0 : Int))
 fun x17 => Sum.elim (fun _ => Option.bind F_law29_exampleHolds fun x19 => some x19) (fun y20 => some y20) x17
abbrev F_law29_LineFifoA : Pats := (.cons (.pd Y31) (.cons (.pd Y40) .nil))
abbrev F_law29_LineFifoR : Pats := (.cons (.pd Y4) .nil)
noncomputable def F_law29_LineFifoS : Tr.Spec := { args := F_law29_LineFifoA, res := F_law29_LineFifoR, fns := [], α := El Y4, f := fun x => F_law29_LineFifo x.1 x.2.1, unp := fun z => (((), (), ()), (z, ())) }
noncomputable def F_law29_LineFifoM : List (Nat × List Tr.Spec) := [(10, [F_law29_fewS]), (11, [F_law29_exampleHoldsS]), (21, [F_line_IsLineS]), (22, [F_law29_overtakenS])]
def F_law29_LineFifoH : Hint := (.seq .leaf (.seq (.seq (.reg [(22, Y4)]) .leaf) (.seq (.seq .leaf (.lp ⟨[(26, (.pd Y3))], [], [1, 2, 24, 25], []⟩ [((.exit 0), ⟨[], [], [], []⟩), (.ret, ⟨[(4, (.pd Y4))], [], [], []⟩)] (.seq .leaf (.seq .leaf (.seq (.seq .leaf (.seq .leaf (.lp ⟨[(32, (.pd Y3))], [], [1, 2, 6, 24, 25, 26, 30, 31], []⟩ [((.exit 2), ⟨[], [], [1, 2, 24, 25, 26], []⟩), (.ret, ⟨[(4, (.pd Y4))], [], [], []⟩)] (.seq .leaf (.seq .leaf (.seq (.seq .leaf (.seq (.seq (.reg [(72, Y4)]) .leaf) .leaf)) .leaf)))))) .leaf))))) .leaf)))
noncomputable def F_law29_LineFifoV (a0 : El Y31) (a1 : El Y40) : Option (El Y4) := evalF (mkE tyTab mapTab pkTab [] [] F_law29_LineFifoM 89) (codeOf Try.f8) Try.f8.results F_law29_LineFifoH F_law29_LineFifoA F_law29_LineFifoR (fun y => y.2.1) (a0, a1, ())
theorem F_law29_LineFifo_eq (a0 : El Y31) (a1 : El Y40) : F_law29_LineFifoV a0 a1 = F_law29_LineFifo a0 a1 := by kernel_rfl
theorem F_law29_LineFifo_ok : FnOK Try.prog 8 F_law29_LineFifoS := fnOK_of (m := F_law29_LineFifoM) (fn := Try.f8) (hint := F_law29_LineFifoH) (pack := fun y => y.2.1) hmix tab_ok ⟨⟨F_law29_few_ok, trivial⟩, ⟨F_law29_exampleHolds_ok, trivial⟩, ⟨F_line_IsLine_ok, trivial⟩, ⟨F_law29_overtaken_ok, trivial⟩, trivial⟩ fun x z h => (F_law29_LineFifo_eq x.1 x.2.1).trans h
noncomputable def F_law29_place : (El Y40) → (El Y3) → Option (El Y3) := fun a0 a1 =>
 Option.bind
 (Tr.run
 (fun s0 =>
 bif decide (s0 < (↑(List.length a0) : Int)) then
 Option.bind (idx a0 s0) fun x1 => bif decide (x1 = a1) then some (.inr (.inr s0)) else some (.inl (IntKind.wrap .i64 (s0 + (1 : Int))))
 else some (.inr (.inl ())))
 (0 : Int))
 fun x2 => Sum.elim (fun _ => some (-1 : Int)) (fun y4 => some y4) x2
abbrev F_law29_placeA : Pats := (.cons (.pd Y40) (.cons (.pd Y3) .nil))
abbrev F_law29_placeR : Pats := (.cons (.pd Y3) .nil)
noncomputable def F_law29_placeS : Tr.Spec := { args := F_law29_placeA, res := F_law29_placeR, fns := [], α := El Y3, f := fun x => F_law29_place x.1 x.2.1, unp := fun z => (((), (), ()), (z, ())) }
noncomputable def F_law29_placeM : List (Nat × List Tr.Spec) := []
def F_law29_placeH : Hint := (.seq .leaf (.seq (.seq .leaf (.lp ⟨[(9, (.pd Y3))], [], [1, 7, 8], []⟩ [((.exit 0), ⟨[], [], [], []⟩), (.ret, ⟨[(4, (.pd Y3))], [], [], []⟩)] .leaf)) .leaf))
noncomputable def F_law29_placeV (a0 : El Y40) (a1 : El Y3) : Option (El Y3) := evalF (mkE tyTab mapTab pkTab [] [] F_law29_placeM 19) (codeOf Try.f23) Try.f23.results F_law29_placeH F_law29_placeA F_law29_placeR (fun y => y.2.1) (a0, a1, ())
theorem F_law29_place_eq (a0 : El Y40) (a1 : El Y3) : F_law29_placeV a0 a1 = F_law29_place a0 a1 := by kernel_rfl
theorem F_law29_place_ok : FnOK Try.prog 23 F_law29_placeS := fnOK_of (m := F_law29_placeM) (fn := Try.f23) (hint := F_law29_placeH) (pack := fun y => y.2.1) hmix tab_ok trivial fun x z h => (F_law29_place_eq x.1 x.2.1).trans h
noncomputable def F_law29_LineLater : (El Y31) → (El Y42) → (El Y3) → Option (El Y4) := fun a0 a1 a2 =>
 Option.bind
 (Option.bind (F_law29_few a0) fun x0 =>
 bif !x0 then some true
 else
 bif decide ((60 : Int) < (↑(List.length a1.1) : Int)) then some true
 else bif decide (a2 < a1.2.2.1) then some true else Option.bind (F_line_IsLine a0 a1.1) fun x1 => some !x1)
 fun x2 =>
 bif x2 then Option.bind F_law29_exampleHolds fun x3 => some x3
 else
 Option.bind (F_line_Catch a0 a1.1 a1.2.1 a1.2.2.1) fun x4 =>
 Option.bind (F_line_Catch a0 a1.1 a1.2.1 a2) fun x5 =>
 Option.bind
 (bif x5.2 then
 bif !x4.2 then some true
 else Option.bind (F_law29_place a1.1 x5.1) fun x6 => Option.bind (F_law29_place a1.1 x4.1) fun x7 => some (decide (x6 < x7))
 else some false)
 fun x8 =>
 bif x8 then some false
 else
 Option.bind (F_line_Leave a0 a1.1 a1.2.1 a1.2.2.1) fun x9 =>
 Option.bind (F_line_Leave a0 a1.1 a1.2.1 a2) fun x10 =>
 Option.bind
 (bif !x9.2 then Option.bind F_law29_exampleHolds fun x11 => some x11
 else
 bif x10.2 then
 Option.bind (F_law29_place a1.1 x10.1) fun x12 =>
 Option.bind (F_law29_place a1.1 x9.1) fun x13 =>
 bif decide (x13 ≤ x12) then Option.bind F_law29_exampleHolds fun x14 => some x14 else some false
 else some false)
 fun x15 => some x15
abbrev F_law29_LineLaterA : Pats := (.cons (.pd Y31) (.cons (.pd Y42) (.cons (.pd Y3) .nil)))
abbrev F_law29_LineLaterR : Pats := (.cons (.pd Y4) .nil)
noncomputable def F_law29_LineLaterS : Tr.Spec := { args := F_law29_LineLaterA, res := F_law29_LineLaterR, fns := [], α := El Y4, f := fun x => F_law29_LineLater x.1 x.2.1 x.2.2.1, unp := fun z => (((), (), (), ()), (z, ())) }
noncomputable def F_law29_LineLaterM : List (Nat × List Tr.Spec) := [(10, [F_law29_fewS]), (11, [F_law29_exampleHoldsS]), (16, [F_line_CatchS]), (19, [F_line_LeaveS]), (21, [F_line_IsLineS]), (23, [F_law29_placeS])]
def F_law29_LineLaterH : Hint := (.seq .leaf (.seq (.seq (.reg [(32, Y4)]) .leaf) (.seq .leaf (.seq .leaf (.seq (.seq (.reg [(70, Y4)]) .leaf) (.seq .leaf (.seq .leaf (.seq (.reg [(6, Y4)]) .leaf))))))))
noncomputable def F_law29_LineLaterV (a0 : El Y31) (a1 : El Y42) (a2 : El Y3) : Option (El Y4) := evalF (mkE tyTab mapTab pkTab [] [] F_law29_LineLaterM 111) (codeOf Try.f9) Try.f9.results F_law29_LineLaterH F_law29_LineLaterA F_law29_LineLaterR (fun y => y.2.1) (a0, a1, a2, ())
theorem F_law29_LineLater_eq (a0 : El Y31) (a1 : El Y42) (a2 : El Y3) : F_law29_LineLaterV a0 a1 a2 = F_law29_LineLater a0 a1 a2 := by kernel_rfl
theorem F_law29_LineLater_ok : FnOK Try.prog 9 F_law29_LineLaterS := fnOK_of (m := F_law29_LineLaterM) (fn := Try.f9) (hint := F_law29_LineLaterH) (pack := fun y => y.2.1) hmix tab_ok ⟨⟨F_law29_few_ok, trivial⟩, ⟨F_law29_exampleHolds_ok, trivial⟩, ⟨F_line_Catch_ok, trivial⟩, ⟨F_line_Leave_ok, trivial⟩, ⟨F_line_IsLine_ok, trivial⟩, ⟨F_law29_place_ok, trivial⟩, trivial⟩ fun x z h => (F_law29_LineLater_eq x.1 x.2.1 x.2.2.1).trans h
end Q
