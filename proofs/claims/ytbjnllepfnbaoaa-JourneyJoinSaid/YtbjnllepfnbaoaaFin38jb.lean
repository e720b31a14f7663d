/- The functions of the program as functions of Lean, and that the program computes them; printed by a program of mine. Conditions: none. -/
import Derived.Test.YtbjnllepfnbaoaaFin38ja
open Tr Go Go.Proofs
namespace Q
noncomputable def F_law38_sameRides : (El Y37) → (El Y37) → Option (El Y4) := fun a0 a1 =>
 bif !decide ((↑(List.length a0) : Int) = (↑(List.length a1) : Int)) then some false
 else
 Option.bind
 (Tr.run
 (fun s0 =>
 bif decide (s0 < (↑(List.length a0) : Int)) then
 Option.bind (idx a0 s0) fun x1 =>
 Option.bind (idx a1 s0) fun x2 =>
 bif
 !(decide (x1.1 = x2.1) &&
 (decide (x1.2.1 = x2.2.1) && (decide (x1.2.2.1 = x2.2.2.1) && decide (x1.2.2.2.1 = x2.2.2.2.1)))) then
 some (.inr (.inr false))
 else some (.inl (IntKind.wrap .i64 (s0 + (1 : Int))))
 else some (.inr (.inl ())))
 (0 : Int))
 fun x3 => Sum.elim (fun _ => some true) (fun y5 => some y5) x3
abbrev F_law38_sameRidesA : Pats := (.cons (.pd Y37) (.cons (.pd Y37) .nil))
abbrev F_law38_sameRidesR : Pats := (.cons (.pd Y4) .nil)
noncomputable def F_law38_sameRidesS : Tr.Spec := { args := F_law38_sameRidesA, res := F_law38_sameRidesR, fns := [], α := El Y4, f := fun x => F_law38_sameRides x.1 x.2.1, unp := fun z => (((), (), ()), (z, ())) }
noncomputable def F_law38_sameRidesM : List (Nat × List Tr.Spec) := []
def F_law38_sameRidesH : Hint := (.seq .leaf (.seq .leaf (.seq (.seq .leaf (.lp ⟨[(13, (.pd Y3))], [], [0, 1, 12], []⟩ [((.exit 0), ⟨[], [], [], []⟩), (.ret, ⟨[(4, (.pd Y4))], [], [], []⟩)] .leaf)) .leaf)))
noncomputable def F_law38_sameRidesV (a0 : El Y37) (a1 : El Y37) : Option (El Y4) := evalF (mkE tyTab mapTab pkTab [] [] F_law38_sameRidesM 26) (codeOf Try.f12) Try.f12.results F_law38_sameRidesH F_law38_sameRidesA F_law38_sameRidesR (fun y => y.2.1) (a0, a1, ())
theorem F_law38_sameRides_eq (a0 : El Y37) (a1 : El Y37) : F_law38_sameRidesV a0 a1 = F_law38_sameRides a0 a1 := by kernel_rfl
theorem F_law38_sameRides_ok : FnOK Try.prog 12 F_law38_sameRidesS := fnOK_of (m := F_law38_sameRidesM) (fn := Try.f12) (hint := F_law38_sameRidesH) (pack := fun y => y.2.1) hmix tab_ok trivial fun x z h => (F_law38_sameRides_eq x.1 x.2.1).trans h
noncomputable def F_law38_JourneyRides : (El Y31) → (El Y34) → Option (El Y4) := fun a0 a1 =>
 Option.bind (F_law38_light a0 a1) fun x0 =>
 bif !x0 then Option.bind F_law38_exampleHolds fun x1 => some x1
 else
 Option.bind (F_journey_Rides a0 a1) fun x2 =>
 Option.bind (F_ref38_Rides a0 a1) fun x3 =>
 Option.bind
 (Option.bind (F_law38_sameRides x2.1 x3.1) fun x4 =>
 bif x4 then bif decide (x2.2 = x3.2) then Option.bind F_law38_exampleHolds fun x5 => some x5 else some false else some false)
 fun x6 => some x6
abbrev F_law38_JourneyRidesA : Pats := (.cons (.pd Y31) (.cons (.pd Y34) .nil))
abbrev F_law38_JourneyRidesR : Pats := (.cons (.pd Y4) .nil)
noncomputable def F_law38_JourneyRidesS : Tr.Spec := { args := F_law38_JourneyRidesA, res := F_law38_JourneyRidesR, fns := [], α := El Y4, f := fun x => F_law38_JourneyRides x.1 x.2.1, unp := fun z => (((), (), ()), (z, ())) }
noncomputable def F_law38_JourneyRidesM : List (Nat × List Tr.Spec) := [(8, [F_law38_lightS]), (9, [F_law38_exampleHoldsS]), (10, [F_journey_RidesS]), (11, [F_ref38_RidesS]), (12, [F_law38_sameRidesS])]
def F_law38_JourneyRidesH : Hint := (.seq .leaf (.seq .leaf (.seq .leaf (.seq .leaf (.seq (.reg [(4, Y4)]) .leaf)))))
noncomputable def F_law38_JourneyRidesV (a0 : El Y31) (a1 : El Y34) : Option (El Y4) := evalF (mkE tyTab mapTab pkTab [] [] F_law38_JourneyRidesM 37) (codeOf Try.f3) Try.f3.results F_law38_JourneyRidesH F_law38_JourneyRidesA F_law38_JourneyRidesR (fun y => y.2.1) (a0, a1, ())
theorem F_law38_JourneyRides_eq (a0 : El Y31) (a1 : El Y34) : F_law38_JourneyRidesV a0 a1 = F_law38_JourneyRides a0 a1 := by kernel_rfl
theorem F_law38_JourneyRides_ok : FnOK Try.prog 3 F_law38_JourneyRidesS := fnOK_of (m := F_law38_JourneyRidesM) (fn := Try.f3) (hint := F_law38_JourneyRidesH) (pack := fun y => y.2.1) hmix tab_ok ⟨⟨F_law38_light_ok, trivial⟩, ⟨F_law38_exampleHolds_ok, trivial⟩, ⟨F_journey_Rides_ok, trivial⟩, ⟨F_ref38_Rides_ok, trivial⟩, ⟨F_law38_sameRides_ok, trivial⟩, trivial⟩ fun x z h => (F_law38_JourneyRides_eq x.1 x.2.1).trans h
noncomputable def F_slices_Grow_api_Leg_api_Leg : (Unit) → (El Y3) → Option (List (El Y44)) := fun _ a1 =>
 Option.bind (bif decide (a1 < (0 : Int)) then none else some ()) fun _ =>
 bif decide ((0 : Int) < IntKind.wrap .i64 (a1 - IntKind.wrap .i64 ((0 : Int) - (0 : Int)))) then
 Option.bind
 (guardB
 (decide
 ((1 : Int) ≤ IntKind.wrap .i64 (a1 - IntKind.wrap .i64 ((0 : Int) - (0 : Int))) ∧
 IntKind.wrap .i64 (a1 - IntKind.wrap .i64 ((0 : Int) - (0 : Int))) ≤ (↑maxApp : Int))))
 fun _ =>
 some (List.take (Int.toNat (0 : Int)) (List.replicate (Int.toNat (IntKind.wrap .i64 (a1 - IntKind.wrap .i64 ((0 : Int) - (0 : Int))))) ((false, (0 : Int), (0 : Int), (0 : Int), (0 : Int), (0 : Int), (0 : Int), (0 : Int), false, ()))))
 else some []
abbrev F_slices_Grow_api_Leg_api_LegA : Pats := (.cons .nils (.cons (.pd Y3) .nil))
abbrev F_slices_Grow_api_Leg_api_LegR : Pats := (.cons (.own Y44 false) .nil)
noncomputable def F_slices_Grow_api_Leg_api_LegS : Tr.Spec := { args := F_slices_Grow_api_Leg_api_LegA, res := F_slices_Grow_api_Leg_api_LegR, fns := [], α := List (El Y44), f := fun x => F_slices_Grow_api_Leg_api_Leg x.1 x.2.1, unp := fun z => (((), (), ()), (z, ())) }
noncomputable def F_slices_Grow_api_Leg_api_LegM : List (Nat × List Tr.Spec) := []
def F_slices_Grow_api_Leg_api_LegH : Hint := (.seq .leaf (.seq (.seq .leaf (.cnd (some (⟨[], [], [0, 1], []⟩, [(.normal, ⟨[], [], [0, 1], []⟩)])) .leaf .leaf)) .leaf))
noncomputable def F_slices_Grow_api_Leg_api_LegV (a0 : Unit) (a1 : El Y3) : Option (List (El Y44)) := evalF (mkE tyTab mapTab pkTab [] [] F_slices_Grow_api_Leg_api_LegM 27) (codeOf Try.f48) Try.f48.results F_slices_Grow_api_Leg_api_LegH F_slices_Grow_api_Leg_api_LegA F_slices_Grow_api_Leg_api_LegR (fun y => y.2.1) (a0, a1, ())
theorem F_slices_Grow_api_Leg_api_Leg_eq (a0 : Unit) (a1 : El Y3) : F_slices_Grow_api_Leg_api_LegV a0 a1 = F_slices_Grow_api_Leg_api_Leg a0 a1 := by kernel_rfl
theorem F_slices_Grow_api_Leg_api_Leg_ok : FnOK Try.prog 48 F_slices_Grow_api_Leg_api_LegS := fnOK_of (m := F_slices_Grow_api_Leg_api_LegM) (fn := Try.f48) (hint := F_slices_Grow_api_Leg_api_LegH) (pack := fun y => y.2.1) hmix tab_ok trivial fun x z h => (F_slices_Grow_api_Leg_api_Leg_eq x.1 x.2.1).trans h
noncomputable def F_slices_Concat_api_Leg_api_Leg : (El Y96) → Option (El Y32) := fun a0 =>
 Option.bind
 (Tr.run
 (fun s0 =>
 bif decide (s0.2 < (↑(List.length a0) : Int)) then
 Option.bind (idx a0 s0.2) fun x1 =>
 bif decide (IntKind.wrap .i64 (s0.1 + (↑(List.length x1) : Int)) < (0 : Int)) then none
 else some (.inl (IntKind.wrap .i64 (s0.1 + (↑(List.length x1) : Int)), IntKind.wrap .i64 (s0.2 + (1 : Int))))
 else some (.inr s0.1))
 ((0 : Int), (0 : Int)))
 fun x2 =>
 Option.bind (F_slices_Grow_api_Leg_api_Leg () x2) fun x3 =>
 Option.bind
 (Tr.run
 (fun s4 =>
 bif decide (s4.2 < (↑(List.length a0) : Int)) then
 Option.bind (idx a0 s4.2) fun x5 =>
 Option.bind (guardB (decide (List.length s4.1 + List.length x5 ≤ maxApp))) fun _ =>
 some (.inl (s4.1 ++ x5, IntKind.wrap .i64 (s4.2 + (1 : Int))))
 else some (.inr s4.1))
 (x3, (0 : Int)))
 fun x7 => some x7
abbrev F_slices_Concat_api_Leg_api_LegA : Pats := (.cons (.pd Y96) .nil)
abbrev F_slices_Concat_api_Leg_api_LegR : Pats := (.cons (.pd Y32) .nil)
noncomputable def F_slices_Concat_api_Leg_api_LegS : Tr.Spec := { args := F_slices_Concat_api_Leg_api_LegA, res := F_slices_Concat_api_Leg_api_LegR, fns := [], α := El Y32, f := fun x => F_slices_Concat_api_Leg_api_Leg x.1, unp := fun z => (((), ()), (z, ())) }
noncomputable def F_slices_Concat_api_Leg_api_LegM : List (Nat × List Tr.Spec) := [(48, [F_slices_Grow_api_Leg_api_LegS])]
def F_slices_Concat_api_Leg_api_LegH : Hint := (.seq .leaf (.seq .leaf (.seq (.seq .leaf (.lp ⟨[(3, (.pd Y3)), (11, (.pd Y3))], [], [0, 9, 10], []⟩ [((.exit 0), ⟨[(3, (.pd Y3))], [], [0], []⟩)] .leaf)) (.seq .leaf (.seq (.seq .leaf (.lp ⟨[(6, (.own Y44 false)), (27, (.pd Y3))], [], [25, 26], []⟩ [((.exit 2), ⟨[(6, (.own Y44 false))], [], [], []⟩)] .leaf)) .leaf)))))
noncomputable def F_slices_Concat_api_Leg_api_LegV (a0 : El Y96) : Option (El Y32) := evalF (mkE tyTab mapTab pkTab [] [] F_slices_Concat_api_Leg_api_LegM 36) (codeOf Try.f30) Try.f30.results F_slices_Concat_api_Leg_api_LegH F_slices_Concat_api_Leg_api_LegA F_slices_Concat_api_Leg_api_LegR (fun y => y.2.1) (a0, ())
theorem F_slices_Concat_api_Leg_api_Leg_eq (a0 : El Y96) : F_slices_Concat_api_Leg_api_LegV a0 = F_slices_Concat_api_Leg_api_Leg a0 := by kernel_rfl
theorem F_slices_Concat_api_Leg_api_Leg_ok : FnOK Try.prog 30 F_slices_Concat_api_Leg_api_LegS := fnOK_of (m := F_slices_Concat_api_Leg_api_LegM) (fn := Try.f30) (hint := F_slices_Concat_api_Leg_api_LegH) (pack := fun y => y.2.1) hmix tab_ok ⟨⟨F_slices_Grow_api_Leg_api_Leg_ok, trivial⟩, trivial⟩ fun x z h => (F_slices_Concat_api_Leg_api_Leg_eq x.1).trans h
noncomputable def F_journey_Join : (El Y34) → (El Y34) → Option (El Y34 × El Y4) := fun a0 a1 =>
 Option.bind (bif decide ((0 : Int) < (↑(List.length a0.1) : Int)) then some (decide ((0 : Int) < (↑(List.length a1.1) : Int))) else some false) fun x0 =>
 Option.bind
 (bif x0 then
 Option.bind (idx a0.1 (IntKind.wrap .i64 ((↑(List.length a0.1) : Int) - (1 : Int)))) fun x1 =>
 Option.bind (idx a1.1 (0 : Int)) fun x2 =>
 Option.bind
 (bif !decide (x1.2.2.2.2.2.1 = x2.2.2.2.2.1) then some true
 else
 bif decide (x2.2.2.2.2.2.2.1 < x1.2.2.2.2.2.2.2.1) then some true
 else bif !x1.1 then some !x2.1 else some false)
 fun x3 => bif x3 then some (.inr ((([] : List (El Y44)), ()), false)) else some (.inl ((([] : List (El Y44)), ())))
 else some (.inl ((([] : List (El Y44)), ()))))
 fun x4 => Sum.elim (fun _ => Option.bind (F_slices_Concat_api_Leg_api_Leg [a0.1, a1.1]) fun x6 => some ((x6, ()), true)) (fun y7 => some (y7.1, y7.2)) x4
abbrev F_journey_JoinA : Pats := (.cons (.pd Y34) (.cons (.pd Y34) .nil))
abbrev F_journey_JoinR : Pats := (.cons (.pd Y34) (.cons (.pd Y4) .nil))
noncomputable def F_journey_JoinS : Tr.Spec := { args := F_journey_JoinA, res := F_journey_JoinR, fns := [], α := El Y34 × El Y4, f := fun x => F_journey_Join x.1 x.2.1, unp := fun z => (((), (), ()), (z.1, z.2, ())) }
noncomputable def F_journey_JoinM : List (Nat × List Tr.Spec) := [(30, [F_slices_Concat_api_Leg_api_LegS])]
def F_journey_JoinH : Hint := (.seq .leaf (.seq (.seq (.reg [(17, Y4)]) (.cnd (some (⟨[], [], [2, 3], []⟩, [(.normal, ⟨[(4, (.var Y34 (.pd Y34)))], [], [2, 3], []⟩), (.ret, ⟨[(4, (.var Y34 (.pd Y34))), (5, (.pd Y4))], [], [], []⟩)])) (.seq .leaf (.seq (.reg [(51, Y4)]) .leaf)) .leaf)) .leaf))
noncomputable def F_journey_JoinV (a0 : El Y34) (a1 : El Y34) : Option (El Y34 × El Y4) := evalF (mkE tyTab mapTab pkTab [] [] F_journey_JoinM 60) (codeOf Try.f17) Try.f17.results F_journey_JoinH F_journey_JoinA F_journey_JoinR (fun y => (y.2.1, y.2.2.1)) (a0, a1, ())
theorem F_journey_Join_eq (a0 : El Y34) (a1 : El Y34) : F_journey_JoinV a0 a1 = F_journey_Join a0 a1 := by kernel_rfl
theorem F_journey_Join_ok : FnOK Try.prog 17 F_journey_JoinS := fnOK_of (m := F_journey_JoinM) (fn := Try.f17) (hint := F_journey_JoinH) (pack := fun y => (y.2.1, y.2.2.1)) hmix tab_ok ⟨⟨F_slices_Concat_api_Leg_api_Leg_ok, trivial⟩, trivial⟩ fun x z h => (F_journey_Join_eq x.1 x.2.1).trans h
noncomputable def F_ref38_Join : (El Y34) → (El Y34) → Option (El Y34 × El Y4) := fun a0 a1 =>
 Option.bind (bif decide ((0 : Int) < (↑(List.length a0.1) : Int)) then some (decide ((0 : Int) < (↑(List.length a1.1) : Int))) else some false) fun x0 =>
 Option.bind
 (bif x0 then
 Option.bind (idx a0.1 (IntKind.wrap .i64 ((↑(List.length a0.1) : Int) - (1 : Int)))) fun x1 =>
 Option.bind (idx a1.1 (0 : Int)) fun x2 =>
 Option.bind
 (bif !decide (x1.2.2.2.2.2.1 = x2.2.2.2.2.1) then some true
 else
 bif decide (x2.2.2.2.2.2.2.1 < x1.2.2.2.2.2.2.2.1) then some true
 else bif !x1.1 then some !x2.1 else some false)
 fun x3 => bif x3 then some (.inr ((([] : List (El Y44)), ()), false)) else some (.inl ((([] : List (El Y44)), ())))
 else some (.inl ((([] : List (El Y44)), ()))))
 fun x4 =>
 Sum.elim
 (fun _ =>
 Option.bind (guardB (decide (List.length ([] : List Unit) + List.length a0.1 ≤ maxApp))) fun _ =>
 Option.bind (guardB (decide (List.length ([] ++ a0.1) + List.length a1.1 ≤ maxApp))) fun _ => some (([] ++ a0.1 ++ a1.1, ()), true))
 (fun y8 => some (y8.1, y8.2)) x4
abbrev F_ref38_JoinA : Pats := (.cons (.pd Y34) (.cons (.pd Y34) .nil))
abbrev F_ref38_JoinR : Pats := (.cons (.pd Y34) (.cons (.pd Y4) .nil))
noncomputable def F_ref38_JoinS : Tr.Spec := { args := F_ref38_JoinA, res := F_ref38_JoinR, fns := [], α := El Y34 × El Y4, f := fun x => F_ref38_Join x.1 x.2.1, unp := fun z => (((), (), ()), (z.1, z.2, ())) }
noncomputable def F_ref38_JoinM : List (Nat × List Tr.Spec) := []
def F_ref38_JoinH : Hint := (.seq .leaf (.seq (.seq (.reg [(18, Y4)]) (.cnd (some (⟨[], [], [2, 3], []⟩, [(.normal, ⟨[(4, (.var Y34 (.pd Y34)))], [], [2, 3], []⟩), (.ret, ⟨[(4, (.var Y34 (.pd Y34))), (5, (.pd Y4))], [], [], []⟩)])) (.seq .leaf (.seq (.reg [(52, Y4)]) .leaf)) .leaf)) .leaf))
noncomputable def F_ref38_JoinV (a0 : El Y34) (a1 : El Y34) : Option (El Y34 × El Y4) := evalF (mkE tyTab mapTab pkTab [] [] F_ref38_JoinM 65) (codeOf Try.f18) Try.f18.results F_ref38_JoinH F_ref38_JoinA F_ref38_JoinR (fun y => (y.2.1, y.2.2.1)) (a0, a1, ())
theorem F_ref38_Join_eq (a0 : El Y34) (a1 : El Y34) : F_ref38_JoinV a0 a1 = F_ref38_Join a0 a1 := by kernel_rfl
theorem F_ref38_Join_ok : FnOK Try.prog 18 F_ref38_JoinS := fnOK_of (m := F_ref38_JoinM) (fn := Try.f18) (hint := F_ref38_JoinH) (pack := fun y => (y.2.1, y.2.2.1)) hmix tab_ok trivial fun x z h => (F_ref38_Join_eq x.1 x.2.1).trans h
noncomputable def F_journey_Equal : (El Y34) → (El Y34) → Option (El Y4) := fun a0 a1 =>
 bif !decide ((↑(List.length a0.1) : Int) = (↑(List.length a1.1) : Int)) then some false
 else
 Option.bind
 (Tr.run
 (fun s0 =>
 bif decide (s0 < (↑(List.length a0.1) : Int)) then
 Option.bind (idx a0.1 s0) fun x1 =>
 Option.bind (idx a1.1 s0) fun x2 =>
 bif
 !(x1.1 == x2.1 &&
 (decide (x1.2.1 = x2.2.1) &&
 (decide (x1.2.2.1 = x2.2.2.1) &&
 (decide (x1.2.2.2.1 = x2.2.2.2.1) &&
 (decide (x1.2.2.2.2.1 = x2.2.2.2.2.1) &&
 (decide (x1.2.2.2.2.2.1 = x2.2.2.2.2.2.1) &&
 (decide (x1.2.2.2.2.2.2.1 = x2.2.2.2.2.2.2.1) &&
 (decide (x1.2.2.2.2.2.2.2.1 = x2.2.2.2.2.2.2.2.1) &&
 x1.2.2.2.2.2.2.2.2.1 == x2.2.2.2.2.2.2.2.2.1)))))))) then
 some (.inr (.inr false))
 else some (.inl (IntKind.wrap .i64 (s0 + (1 : Int))))
 else some (.inr (.inl ())))
 (0 : Int))
 fun x3 => Sum.elim (fun _ => some true) (fun y5 => some y5) x3
abbrev F_journey_EqualA : Pats := (.cons (.pd Y34) (.cons (.pd Y34) .nil))
abbrev F_journey_EqualR : Pats := (.cons (.pd Y4) .nil)
noncomputable def F_journey_EqualS : Tr.Spec := { args := F_journey_EqualA, res := F_journey_EqualR, fns := [], α := El Y4, f := fun x => F_journey_Equal x.1 x.2.1, unp := fun z => (((), (), ()), (z, ())) }
noncomputable def F_journey_EqualM : List (Nat × List Tr.Spec) := []
def F_journey_EqualH : Hint := (.seq .leaf (.seq .leaf (.seq (.seq .leaf (.lp ⟨[(17, (.pd Y3))], [], [3, 15, 16], []⟩ [((.exit 0), ⟨[], [], [], []⟩), (.ret, ⟨[(4, (.pd Y4))], [], [], []⟩)] .leaf)) .leaf)))
noncomputable def F_journey_EqualV (a0 : El Y34) (a1 : El Y34) : Option (El Y4) := evalF (mkE tyTab mapTab pkTab [] [] F_journey_EqualM 30) (codeOf Try.f19) Try.f19.results F_journey_EqualH F_journey_EqualA F_journey_EqualR (fun y => y.2.1) (a0, a1, ())
theorem F_journey_Equal_eq (a0 : El Y34) (a1 : El Y34) : F_journey_EqualV a0 a1 = F_journey_Equal a0 a1 := by kernel_rfl
theorem F_journey_Equal_ok : FnOK Try.prog 19 F_journey_EqualS := fnOK_of (m := F_journey_EqualM) (fn := Try.f19) (hint := F_journey_EqualH) (pack := fun y => y.2.1) hmix tab_ok trivial fun x z h => (F_journey_Equal_eq x.1 x.2.1).trans h
noncomputable def F_ref38_Equal : (El Y34) → (El Y34) → Option (El Y4) := fun a0 a1 =>
 bif !decide ((↑(List.length a0.1) : Int) = (↑(List.length a1.1) : Int)) then some false
 else
 Option.bind
 (Tr.run
 (fun s0 =>
 bif decide (s0 < (↑(List.length a0.1) : Int)) then
 Option.bind (idx a0.1 s0) fun x1 =>
 Option.bind (idx a1.1 s0) fun x2 =>
 bif
 !(x1.1 == x2.1 &&
 (decide (x1.2.1 = x2.2.1) &&
 (decide (x1.2.2.1 = x2.2.2.1) &&
 (decide (x1.2.2.2.1 = x2.2.2.2.1) &&
 (decide (x1.2.2.2.2.1 = x2.2.2.2.2.1) &&
 (decide (x1.2.2.2.2.2.1 = x2.2.2.2.2.2.1) &&
 (decide (x1.2.2.2.2.2.2.1 = x2.2.2.2.2.2.2.1) &&
 (decide (x1.2.2.2.2.2.2.2.1 = x2.2.2.2.2.2.2.2.1) &&
 x1.2.2.2.2.2.2.2.2.1 == x2.2.2.2.2.2.2.2.2.1)))))))) then
 some (.inr (.inr false))
 else some (.inl (IntKind.wrap .i64 (s0 + (1 : Int))))
 else some (.inr (.inl ())))
 (0 : Int))
 fun x3 => Sum.elim (fun _ => some true) (fun y5 => some y5) x3
abbrev F_ref38_EqualA : Pats := (.cons (.pd Y34) (.cons (.pd Y34) .nil))
abbrev F_ref38_EqualR : Pats := (.cons (.pd Y4) .nil)
noncomputable def F_ref38_EqualS : Tr.Spec := { args := F_ref38_EqualA, res := F_ref38_EqualR, fns := [], α := El Y4, f := fun x => F_ref38_Equal x.1 x.2.1, unp := fun z => (((), (), ()), (z, ())) }
noncomputable def F_ref38_EqualM : List (Nat × List Tr.Spec) := []
def F_ref38_EqualH : Hint := (.seq .leaf (.seq .leaf (.seq (.seq .leaf (.lp ⟨[(5, (.pd Y3))], [], [2, 3], []⟩ [((.exit 0), ⟨[], [], [], []⟩), (.ret, ⟨[(4, (.pd Y4))], [], [], []⟩)] .leaf)) .leaf)))
noncomputable def F_ref38_EqualV (a0 : El Y34) (a1 : El Y34) : Option (El Y4) := evalF (mkE tyTab mapTab pkTab [] [] F_ref38_EqualM 31) (codeOf Try.f20) Try.f20.results F_ref38_EqualH F_ref38_EqualA F_ref38_EqualR (fun y => y.2.1) (a0, a1, ())
theorem F_ref38_Equal_eq (a0 : El Y34) (a1 : El Y34) : F_ref38_EqualV a0 a1 = F_ref38_Equal a0 a1 := by kernel_rfl
theorem F_ref38_Equal_ok : FnOK Try.prog 20 F_ref38_EqualS := fnOK_of (m := F_ref38_EqualM) (fn := Try.f20) (hint := F_ref38_EqualH) (pack := fun y => y.2.1) hmix tab_ok trivial fun x z h => (F_ref38_Equal_eq x.1 x.2.1).trans h
noncomputable def F_law38_JourneyEqual : (El Y34) → (El Y34) → Option (El Y4) := fun a0 a1 =>
 Option.bind (bif decide ((300 : Int) < (↑(List.length a0.1) : Int)) then some true else some (decide ((300 : Int) < (↑(List.length a1.1) : Int))))
 fun x0 =>
 bif x0 then Option.bind F_law38_exampleHolds fun x1 => some x1
 else
 Option.bind (F_journey_Join a0 a1) fun x2 =>
 Option.bind (F_ref38_Join a0 a1) fun x3 =>
 Option.bind
 (Option.bind (F_journey_Equal a0 a1) fun x4 =>
 Option.bind (F_ref38_Equal a0 a1) fun x5 =>
 bif x4 == x5 then
 Option.bind (F_journey_Equal a0 a0) fun x6 =>
 bif x6 then
 bif x2.2 == x3.2 then Option.bind (F_ref38_Equal x2.1 x3.1) fun x7 => bif x7 then Option.bind F_law38_exampleHolds fun x8 => some x8 else some false
 else some false
 else some false
 else some false)
 fun x9 => some x9
abbrev F_law38_JourneyEqualA : Pats := (.cons (.pd Y34) (.cons (.pd Y34) .nil))
abbrev F_law38_JourneyEqualR : Pats := (.cons (.pd Y4) .nil)
noncomputable def F_law38_JourneyEqualS : Tr.Spec := { args := F_law38_JourneyEqualA, res := F_law38_JourneyEqualR, fns := [], α := El Y4, f := fun x => F_law38_JourneyEqual x.1 x.2.1, unp := fun z => (((), (), ()), (z, ())) }
noncomputable def F_law38_JourneyEqualM : List (Nat × List Tr.Spec) := [(9, [F_law38_exampleHoldsS]), (17, [F_journey_JoinS]), (18, [F_ref38_JoinS]), (19, [F_journey_EqualS]), (20, [F_ref38_EqualS])]
def F_law38_JourneyEqualH : Hint := (.seq .leaf (.seq (.seq (.reg [(18, Y4)]) .leaf) (.seq .leaf (.seq .leaf (.seq (.reg [(4, Y4)]) .leaf)))))
noncomputable def F_law38_JourneyEqualV (a0 : El Y34) (a1 : El Y34) : Option (El Y4) := evalF (mkE tyTab mapTab pkTab [] [] F_law38_JourneyEqualM 57) (codeOf Try.f6) Try.f6.results F_law38_JourneyEqualH F_law38_JourneyEqualA F_law38_JourneyEqualR (fun y => y.2.1) (a0, a1, ())
theorem F_law38_JourneyEqual_eq (a0 : El Y34) (a1 : El Y34) : F_law38_JourneyEqualV a0 a1 = F_law38_JourneyEqual a0 a1 := by kernel_rfl
theorem F_law38_JourneyEqual_ok : FnOK Try.prog 6 F_law38_JourneyEqualS := fnOK_of (m := F_law38_JourneyEqualM) (fn := Try.f6) (hint := F_law38_JourneyEqualH) (pack := fun y => y.2.1) hmix tab_ok ⟨⟨F_law38_exampleHolds_ok, trivial⟩, ⟨F_journey_Join_ok, trivial⟩, ⟨F_ref38_Join_ok, trivial⟩, ⟨F_journey_Equal_ok, trivial⟩, ⟨F_ref38_Equal_ok, trivial⟩, trivial⟩ fun x z h => (F_law38_JourneyEqual_eq x.1 x.2.1).trans h
noncomputable def F_fare_valid : (El Y29) → (El Y37) → Option (El Y38) := fun a0 a1 =>
 Option.bind (F_product_Check a0) fun x0 =>
 bif !decide (x0.2 = (0 : Int)) then some (20 : Int) else bif decide ((8 : Int) < (↑(List.length a1) : Int)) then some (33 : Int) else some (0 : Int)
abbrev F_fare_validA : Pats := (.cons (.pd Y29) (.cons (.pd Y37) .nil))
abbrev F_fare_validR : Pats := (.cons (.pd Y38) .nil)
noncomputable def F_fare_validS : Tr.Spec := { args := F_fare_validA, res := F_fare_validR, fns := [], α := El Y38, f := fun x => F_fare_valid x.1 x.2.1, unp := fun z => (((), (), ()), (z, ())) }
noncomputable def F_fare_validM : List (Nat × List Tr.Spec) := [(38, [F_product_CheckS])]
def F_fare_validH : Hint := .leaf
noncomputable def F_fare_validV (a0 : El Y29) (a1 : El Y37) : Option (El Y38) := evalF (mkE tyTab mapTab pkTab [] [] F_fare_validM 17) (codeOf Try.f49) Try.f49.results F_fare_validH F_fare_validA F_fare_validR (fun y => y.2.1) (a0, a1, ())
theorem F_fare_valid_eq (a0 : El Y29) (a1 : El Y37) : F_fare_validV a0 a1 = F_fare_valid a0 a1 := by kernel_rfl
theorem F_fare_valid_ok : FnOK Try.prog 49 F_fare_validS := fnOK_of (m := F_fare_validM) (fn := Try.f49) (hint := F_fare_validH) (pack := fun y => y.2.1) hmix tab_ok ⟨⟨F_product_Check_ok, trivial⟩, trivial⟩ fun x z h => (F_fare_valid_eq x.1 x.2.1).trans h
noncomputable def F_product_later : (El Y3) → (El Y3) → (El Y3) → Option (El Y4) := fun a0 a1 a2 =>
 bif decide (a0 ≤ a1) then
 Option.bind
 (bif decide (a2 < (0 : Int)) then some true
 else some (decide (IntKind.wrap .u64 a2 < IntKind.wrap .u64 (IntKind.wrap .u64 a1 - IntKind.wrap .u64 a0))))
 fun x0 => some x0
 else
 Option.bind
 (bif decide (a2 < (0 : Int)) then
 some
 (decide
 (IntKind.wrap .u64 (IntKind.wrap .u64 a0 - IntKind.wrap .u64 a1) < IntKind.wrap .u64 ((0 : Int) - IntKind.wrap .u64 a2)))
 else some false)
 fun x1 => some x1
abbrev F_product_laterA : Pats := (.cons (.pd Y3) (.cons (.pd Y3) (.cons (.pd Y3) .nil)))
abbrev F_product_laterR : Pats := (.cons (.pd Y4) .nil)
noncomputable def F_product_laterS : Tr.Spec := { args := F_product_laterA, res := F_product_laterR, fns := [], α := El Y4, f := fun x => F_product_later x.1 x.2.1 x.2.2.1, unp := fun z => (((), (), (), ()), (z, ())) }
noncomputable def F_product_laterM : List (Nat × List Tr.Spec) := []
def F_product_laterH : Hint := (.seq .leaf (.seq (.seq .leaf (.cnd none (.seq (.reg [(6, Y4)]) .leaf) .leaf)) (.seq (.reg [(6, Y4)]) .leaf)))
noncomputable def F_product_laterV (a0 : El Y3) (a1 : El Y3) (a2 : El Y3) : Option (El Y4) := evalF (mkE tyTab mapTab pkTab [] [] F_product_laterM 35) (codeOf Try.f72) Try.f72.results F_product_laterH F_product_laterA F_product_laterR (fun y => y.2.1) (a0, a1, a2, ())
theorem F_product_later_eq (a0 : El Y3) (a1 : El Y3) (a2 : El Y3) : F_product_laterV a0 a1 a2 = F_product_later a0 a1 a2 := by kernel_rfl
theorem F_product_later_ok : FnOK Try.prog 72 F_product_laterS := fnOK_of (m := F_product_laterM) (fn := Try.f72) (hint := F_product_laterH) (pack := fun y => y.2.1) hmix tab_ok trivial fun x z h => (F_product_later_eq x.1 x.2.1 x.2.2.1).trans h
def F_bitset_Set_Len (a0 : Int) : Option Int := Tr.lenF a0
abbrev F_bitset_Set_LenA : Pats := (.cons (.pd Y74) .nil)
abbrev F_bitset_Set_LenR : Pats := (.cons (.pd Y3) .nil)
noncomputable def F_bitset_Set_LenS : Tr.Spec := { args := F_bitset_Set_LenA, res := F_bitset_Set_LenR, fns := [], α := El Y3, f := fun x => F_bitset_Set_Len x.1, unp := fun z => (((), ()), (z, ())) }
theorem F_bitset_Set_Len_ok : FnOK Try.prog 75 F_bitset_Set_LenS := Tr.len_ok
noncomputable def F_bitset_Set_Within : (El Y74) → (El Y74) → Option (El Y4) := fun a0 a1 => some (decide (Tr.qandNot .u64 a0 a1 = (0 : Int)))
abbrev F_bitset_Set_WithinA : Pats := (.cons (.pd Y74) (.cons (.pd Y74) .nil))
abbrev F_bitset_Set_WithinR : Pats := (.cons (.pd Y4) .nil)
noncomputable def F_bitset_Set_WithinS : Tr.Spec := { args := F_bitset_Set_WithinA, res := F_bitset_Set_WithinR, fns := [], α := El Y4, f := fun x => F_bitset_Set_Within x.1 x.2.1, unp := fun z => (((), (), ()), (z, ())) }
noncomputable def F_bitset_Set_WithinM : List (Nat × List Tr.Spec) := []
def F_bitset_Set_WithinH : Hint := .leaf
noncomputable def F_bitset_Set_WithinV (a0 : El Y74) (a1 : El Y74) : Option (El Y4) := evalF (mkE tyTab mapTab pkTab [] [] F_bitset_Set_WithinM 9) (codeOf Try.f76) Try.f76.results F_bitset_Set_WithinH F_bitset_Set_WithinA F_bitset_Set_WithinR (fun y => y.2.1) (a0, a1, ())
theorem F_bitset_Set_Within_eq (a0 : El Y74) (a1 : El Y74) : F_bitset_Set_WithinV a0 a1 = F_bitset_Set_Within a0 a1 := by kernel_rfl
theorem F_bitset_Set_Within_ok : FnOK Try.prog 76 F_bitset_Set_WithinS := fnOK_of (m := F_bitset_Set_WithinM) (fn := Try.f76) (hint := F_bitset_Set_WithinH) (pack := fun y => y.2.1) hmix tab_ok trivial fun x z h => (F_bitset_Set_Within_eq x.1 x.2.1).trans h
noncomputable def F_bitset_Set_Union : (El Y74) → (El Y74) → Option (El Y74) := fun a0 a1 => some (Tr.qor .u64 a0 a1)
abbrev F_bitset_Set_UnionA : Pats := (.cons (.pd Y74) (.cons (.pd Y74) .nil))
abbrev F_bitset_Set_UnionR : Pats := (.cons (.pd Y74) .nil)
noncomputable def F_bitset_Set_UnionS : Tr.Spec := { args := F_bitset_Set_UnionA, res := F_bitset_Set_UnionR, fns := [], α := El Y74, f := fun x => F_bitset_Set_Union x.1 x.2.1, unp := fun z => (((), (), ()), (z, ())) }
noncomputable def F_bitset_Set_UnionM : List (Nat × List Tr.Spec) := []
def F_bitset_Set_UnionH : Hint := .leaf
noncomputable def F_bitset_Set_UnionV (a0 : El Y74) (a1 : El Y74) : Option (El Y74) := evalF (mkE tyTab mapTab pkTab [] [] F_bitset_Set_UnionM 8) (codeOf Try.f74) Try.f74.results F_bitset_Set_UnionH F_bitset_Set_UnionA F_bitset_Set_UnionR (fun y => y.2.1) (a0, a1, ())
theorem F_bitset_Set_Union_eq (a0 : El Y74) (a1 : El Y74) : F_bitset_Set_UnionV a0 a1 = F_bitset_Set_Union a0 a1 := by kernel_rfl
theorem F_bitset_Set_Union_ok : FnOK Try.prog 74 F_bitset_Set_UnionS := fnOK_of (m := F_bitset_Set_UnionM) (fn := Try.f74) (hint := F_bitset_Set_UnionH) (pack := fun y => y.2.1) hmix tab_ok trivial fun x z h => (F_bitset_Set_Union_eq x.1 x.2.1).trans h
noncomputable def F_product_Covers_1 : (El Y46) → (El Y74) → (El Y74) → Option (El Y74 × El Y74) := fun a0 a1 a2 =>
 Option.bind (F_bitset_Set_Union a1 (IntKind.wrap .u64 a0.2.2.1)) fun x0 =>
 Option.bind (F_bitset_Set_Union a2 (IntKind.wrap .u64 a0.2.2.2.1)) fun x1 => some (x0, x1)
abbrev F_product_Covers_1A : Pats := (.cons (.pd Y46) (.cons (.var Y74 (.pd Y74)) (.cons (.var Y74 (.pd Y74)) .nil)))
abbrev F_product_Covers_1R : Pats := .nil
noncomputable def F_product_Covers_1S : Tr.Spec := { args := F_product_Covers_1A, res := F_product_Covers_1R, fns := [], α := El Y74 × El Y74, f := fun x => F_product_Covers_1 x.1 x.2.1 x.2.2.1, unp := fun z => (((), z.1, z.2, ()), ()) }
noncomputable def F_product_Covers_1M : List (Nat × List Tr.Spec) := [(74, [F_bitset_Set_UnionS])]
def F_product_Covers_1H : Hint := .leaf
noncomputable def F_product_Covers_1V (a0 : El Y46) (a1 : El Y74) (a2 : El Y74) : Option (El Y74 × El Y74) := evalF (mkE tyTab mapTab pkTab [] [] F_product_Covers_1M 14) (codeOf Try.f73) Try.f73.results F_product_Covers_1H F_product_Covers_1A F_product_Covers_1R (fun y => (y.1.2.1, y.1.2.2.1)) (a0, a1, a2, ())
theorem F_product_Covers_1_eq (a0 : El Y46) (a1 : El Y74) (a2 : El Y74) : F_product_Covers_1V a0 a1 a2 = F_product_Covers_1 a0 a1 a2 := by kernel_rfl
theorem F_product_Covers_1_ok : FnOK Try.prog 73 F_product_Covers_1S := fnOK_of (m := F_product_Covers_1M) (fn := Try.f73) (hint := F_product_Covers_1H) (pack := fun y => (y.1.2.1, y.1.2.2.1)) hmix tab_ok ⟨⟨F_bitset_Set_Union_ok, trivial⟩, trivial⟩ fun x z h => (F_product_Covers_1_eq x.1 x.2.1 x.2.2.1).trans h
noncomputable def F_product_Covers : (El Y125) → (El Y37) → Option (El Y4) := fun a0 a1 =>
 Option.bind
 (bif decide ((↑(List.length a1) : Int) = (0 : Int)) then some true
 else
 bif decide (a0.2.2.1 < (↑(List.length a1) : Int)) then some true
 else
 Option.bind (idx a1 (0 : Int)) fun x0 =>
 Option.bind (idx a1 (IntKind.wrap .i64 ((↑(List.length a1) : Int) - (1 : Int)))) fun x1 =>
 Option.bind (F_product_later x0.1 x1.1 a0.2.2.2.2.1) fun x2 => some x2)
 fun x3 =>
 bif x3 then some false
 else
 Option.bind
 (Tr.run
 (fun s4 =>
 bif decide (s4.2.2 < (↑(List.length a1) : Int)) then
 Option.bind (idx a1 s4.2.2) fun x5 =>
 Option.bind (F_product_Covers_1 x5 s4.1 s4.2.1) fun x6 => some (.inl (x6.1, x6.2, IntKind.wrap .i64 (s4.2.2 + (1 : Int))))
 else some (.inr (s4.1, s4.2.1)))
 ((0 : Int), (0 : Int), (0 : Int)))
 fun x7 =>
 Option.bind
 (Option.bind (F_bitset_Set_Len x7.1) fun x8 =>
 bif decide (x8 ≤ a0.2.2.2.1) then Option.bind (F_bitset_Set_Within x7.2 (IntKind.wrap .u64 a0.2.2.2.2.2.1)) fun x9 => some x9
 else some false)
 fun x10 => some x10
abbrev F_product_CoversA : Pats := (.cons (.pd Y125) (.cons (.pd Y37) .nil))
abbrev F_product_CoversR : Pats := (.cons (.pd Y4) .nil)
noncomputable def F_product_CoversS : Tr.Spec := { args := F_product_CoversA, res := F_product_CoversR, fns := [], α := El Y4, f := fun x => F_product_Covers x.1 x.2.1, unp := fun z => (((), (), ()), (z, ())) }
noncomputable def F_product_CoversM : List (Nat × List Tr.Spec) := [(72, [F_product_laterS]), (73, [F_product_Covers_1S]), (75, [F_bitset_Set_LenS]), (76, [F_bitset_Set_WithinS])]
def F_product_CoversH : Hint := (.seq .leaf (.seq .leaf (.seq (.seq (.reg [(35, Y4)]) .leaf) (.seq .leaf (.seq .leaf (.seq (.seq .leaf (.lp ⟨[(6, (.var Y74 (.pd Y74))), (7, (.var Y74 (.pd Y74))), (39, (.pd Y3))], [(8, 73, [6, 7])], [2, 37, 38], []⟩ [((.exit 0), ⟨[(6, (.var Y74 (.pd Y74))), (7, (.var Y74 (.pd Y74)))], [], [2], []⟩)] .leaf)) (.seq (.reg [(4, Y4)]) .leaf)))))))
noncomputable def F_product_CoversV (a0 : El Y125) (a1 : El Y37) : Option (El Y4) := evalF (mkE tyTab mapTab pkTab [] [] F_product_CoversM 59) (codeOf Try.f65) Try.f65.results F_product_CoversH F_product_CoversA F_product_CoversR (fun y => y.2.1) (a0, a1, ())
theorem F_product_Covers_eq (a0 : El Y125) (a1 : El Y37) : F_product_CoversV a0 a1 = F_product_Covers a0 a1 := by kernel_rfl
theorem F_product_Covers_ok : FnOK Try.prog 65 F_product_CoversS := fnOK_of (m := F_product_CoversM) (fn := Try.f65) (hint := F_product_CoversH) (pack := fun y => y.2.1) hmix tab_ok ⟨⟨F_product_later_ok, trivial⟩, ⟨F_product_Covers_1_ok, trivial⟩, ⟨F_bitset_Set_Len_ok, trivial⟩, ⟨F_bitset_Set_Within_ok, trivial⟩, trivial⟩ fun x z h => (F_product_Covers_eq x.1 x.2.1).trans h
noncomputable def F_fare_within : (El Y3) → (El Y3) → (El Y3) → Option (El Y4) := fun a0 a1 a2 =>
 Option.bind
 (bif decide (a1 ≤ a0) then some true
 else some (decide (IntKind.wrap .u64 (IntKind.wrap .u64 a1 - IntKind.wrap .u64 a0) ≤ IntKind.wrap .u64 a2)))
 fun x0 => some x0
abbrev F_fare_withinA : Pats := (.cons (.pd Y3) (.cons (.pd Y3) (.cons (.pd Y3) .nil)))
abbrev F_fare_withinR : Pats := (.cons (.pd Y4) .nil)
noncomputable def F_fare_withinS : Tr.Spec := { args := F_fare_withinA, res := F_fare_withinR, fns := [], α := El Y4, f := fun x => F_fare_within x.1 x.2.1 x.2.2.1, unp := fun z => (((), (), (), ()), (z, ())) }
noncomputable def F_fare_withinM : List (Nat × List Tr.Spec) := []
def F_fare_withinH : Hint := (.seq .leaf (.seq (.reg [(6, Y4)]) .leaf))
noncomputable def F_fare_withinV (a0 : El Y3) (a1 : El Y3) (a2 : El Y3) : Option (El Y4) := evalF (mkE tyTab mapTab pkTab [] [] F_fare_withinM 20) (codeOf Try.f77) Try.f77.results F_fare_withinH F_fare_withinA F_fare_withinR (fun y => y.2.1) (a0, a1, a2, ())
theorem F_fare_within_eq (a0 : El Y3) (a1 : El Y3) (a2 : El Y3) : F_fare_withinV a0 a1 a2 = F_fare_within a0 a1 a2 := by kernel_rfl
theorem F_fare_within_ok : FnOK Try.prog 77 F_fare_withinS := fnOK_of (m := F_fare_withinM) (fn := Try.f77) (hint := F_fare_withinH) (pack := fun y => y.2.1) hmix tab_ok trivial fun x z h => (F_fare_within_eq x.1 x.2.1 x.2.2.1).trans h
noncomputable def F_fare_ticketPrice : (El Y29) → (El Y125) → (El Y37) → (El Y3) → Option (El Y3) := fun a0 a1 a2 a3 =>
 Option.bind
 (bif decide ((0 : Int) < a3) then
 Option.bind (idx a2 (IntKind.wrap .i64 (a3 - (1 : Int)))) fun x0 =>
 Option.bind (idx a2 a3) fun x1 => Option.bind (F_fare_within x0.2.1 x1.1 a0.2.2.1) fun x2 => some x2
 else some false)
 fun x3 => bif x3 then some (Tr.imax (0 : Int) (IntKind.wrap .i64 (a1.2.1 - a0.2.1))) else some a1.2.1
abbrev F_fare_ticketPriceA : Pats := (.cons (.pd Y29) (.cons (.pd Y125) (.cons (.pd Y37) (.cons (.pd Y3) .nil))))
abbrev F_fare_ticketPriceR : Pats := (.cons (.pd Y3) .nil)
noncomputable def F_fare_ticketPriceS : Tr.Spec := { args := F_fare_ticketPriceA, res := F_fare_ticketPriceR, fns := [], α := El Y3, f := fun x => F_fare_ticketPrice x.1 x.2.1 x.2.2.1 x.2.2.2.1, unp := fun z => (((), (), (), (), ()), (z, ())) }
noncomputable def F_fare_ticketPriceM : List (Nat × List Tr.Spec) := [(77, [F_fare_withinS])]
def F_fare_ticketPriceH : Hint := (.seq .leaf (.seq (.seq (.reg [(26, Y4)]) .leaf) .leaf))
noncomputable def F_fare_ticketPriceV (a0 : El Y29) (a1 : El Y125) (a2 : El Y37) (a3 : El Y3) : Option (El Y3) := evalF (mkE tyTab mapTab pkTab [] [] F_fare_ticketPriceM 35) (codeOf Try.f66) Try.f66.results F_fare_ticketPriceH F_fare_ticketPriceA F_fare_ticketPriceR (fun y => y.2.1) (a0, a1, a2, a3, ())
theorem F_fare_ticketPrice_eq (a0 : El Y29) (a1 : El Y125) (a2 : El Y37) (a3 : El Y3) : F_fare_ticketPriceV a0 a1 a2 a3 = F_fare_ticketPrice a0 a1 a2 a3 := by kernel_rfl
theorem F_fare_ticketPrice_ok : FnOK Try.prog 66 F_fare_ticketPriceS := fnOK_of (m := F_fare_ticketPriceM) (fn := Try.f66) (hint := F_fare_ticketPriceH) (pack := fun y => y.2.1) hmix tab_ok ⟨⟨F_fare_within_ok, trivial⟩, trivial⟩ fun x z h => (F_fare_ticketPrice_eq x.1 x.2.1 x.2.2.1 x.2.2.2.1).trans h
noncomputable def F_fare_rest_better : (El Y102) → (El Y3) → (El Y3) → Option (El Y4) := fun a0 a1 a2 =>
 Option.bind
 (bif !a0.1 then some true
 else
 bif decide (a1 < a0.2.1) then some true
 else bif decide (a1 = a0.2.1) then some (decide (a2 < a0.2.2.1)) else some false)
 fun x0 => some x0
abbrev F_fare_rest_betterA : Pats := (.cons (.pd Y102) (.cons (.pd Y3) (.cons (.pd Y3) .nil)))
abbrev F_fare_rest_betterR : Pats := (.cons (.pd Y4) .nil)
noncomputable def F_fare_rest_betterS : Tr.Spec := { args := F_fare_rest_betterA, res := F_fare_rest_betterR, fns := [], α := El Y4, f := fun x => F_fare_rest_better x.1 x.2.1 x.2.2.1, unp := fun z => (((), (), (), ()), (z, ())) }
noncomputable def F_fare_rest_betterM : List (Nat × List Tr.Spec) := []
def F_fare_rest_betterH : Hint := (.seq .leaf (.seq (.reg [(6, Y4)]) .leaf))
noncomputable def F_fare_rest_betterV (a0 : El Y102) (a1 : El Y3) (a2 : El Y3) : Option (El Y4) := evalF (mkE tyTab mapTab pkTab [] [] F_fare_rest_betterM 28) (codeOf Try.f67) Try.f67.results F_fare_rest_betterH F_fare_rest_betterA F_fare_rest_betterR (fun y => y.2.1) (a0, a1, a2, ())
theorem F_fare_rest_better_eq (a0 : El Y102) (a1 : El Y3) (a2 : El Y3) : F_fare_rest_betterV a0 a1 a2 = F_fare_rest_better a0 a1 a2 := by kernel_rfl
theorem F_fare_rest_better_ok : FnOK Try.prog 67 F_fare_rest_betterS := fnOK_of (m := F_fare_rest_betterM) (fn := Try.f67) (hint := F_fare_rest_betterH) (pack := fun y => y.2.1) hmix tab_ok trivial fun x z h => (F_fare_rest_better_eq x.1 x.2.1 x.2.2.1).trans h
noncomputable def F_fare_divide_1 : (El Y3) → (El Y3) → (El Y3) → (El Y29) → (El Y37) → (El Y103) → Option (El Y103) := fun a0 a1 a2 a3 a4 a5 =>
 Option.bind (idx a3.1 a2) fun x0 =>
 Option.bind (sliceB (List.length a4) (List.length a4) (some a0) (some (IntKind.wrap .i64 (a1 + (1 : Int))))) fun x1 =>
 Option.bind (F_product_Covers x0 (List.take (x1.2 - x1.1) (List.drop x1.1 a4))) fun x2 =>
 bif !x2 then some a5
 else
 Option.bind (idx a3.1 a2) fun x3 =>
 Option.bind (F_fare_ticketPrice a3 x3 a4 a0) fun x4 =>
 Option.bind (inb (IntKind.wrap .i64 (a1 + (1 : Int))) (9 : Nat)) fun x5 =>
 Option.bind a5[x5]? fun x6 =>
 Option.bind (inb (IntKind.wrap .i64 (a1 + (1 : Int))) (9 : Nat)) fun x7 =>
 Option.bind a5[x7]? fun x8 =>
 Option.bind (inb a0 (9 : Nat)) fun x9 =>
 Option.bind a5[x9]? fun x10 =>
 Option.bind (F_fare_rest_better x10 (IntKind.wrap .i64 (x4 + x6.2.1)) (IntKind.wrap .i64 (x8.2.2.1 + (1 : Int)))) fun x11 =>
 bif x11 then
 Option.bind (inb a0 (9 : Nat)) fun x12 =>
 Option.bind a5[x12]? fun _ =>
 some
 (List.set a5 x12
 (true, IntKind.wrap .i64 (x4 + x6.2.1), IntKind.wrap .i64 (x8.2.2.1 + (1 : Int)), (a2, a0, a1, x4, ()), ()))
 else some a5
abbrev F_fare_divide_1A : Pats := (.cons (.pd Y3) (.cons (.pd Y3) (.cons (.pd Y3) (.cons (.ro Y29) (.cons (.ro Y37) (.cons (.var Y103 (.pd Y103)) .nil))))))
abbrev F_fare_divide_1R : Pats := .nil
noncomputable def F_fare_divide_1S : Tr.Spec := { args := F_fare_divide_1A, res := F_fare_divide_1R, fns := [], α := El Y103, f := fun x => F_fare_divide_1 x.1 x.2.1 x.2.2.1 x.2.2.2.1 x.2.2.2.2.1 x.2.2.2.2.2.1, unp := fun z => (((), (), (), (), (), z, ()), ()) }
noncomputable def F_fare_divide_1M : List (Nat × List Tr.Spec) := [(65, [F_product_CoversS]), (66, [F_fare_ticketPriceS]), (67, [F_fare_rest_betterS])]
def F_fare_divide_1H : Hint := .leaf
noncomputable def F_fare_divide_1V (a0 : El Y3) (a1 : El Y3) (a2 : El Y3) (a3 : El Y29) (a4 : El Y37) (a5 : El Y103) : Option (El Y103) := evalF (mkE tyTab mapTab pkTab [] [] F_fare_divide_1M 62) (codeOf Try.f64) Try.f64.results F_fare_divide_1H F_fare_divide_1A F_fare_divide_1R (fun y => y.1.2.2.2.2.2.1) (a0, a1, a2, a3, a4, a5, ())
theorem F_fare_divide_1_eq (a0 : El Y3) (a1 : El Y3) (a2 : El Y3) (a3 : El Y29) (a4 : El Y37) (a5 : El Y103) : F_fare_divide_1V a0 a1 a2 a3 a4 a5 = F_fare_divide_1 a0 a1 a2 a3 a4 a5 := by kernel_rfl
theorem F_fare_divide_1_ok : FnOK Try.prog 64 F_fare_divide_1S := fnOK_of (m := F_fare_divide_1M) (fn := Try.f64) (hint := F_fare_divide_1H) (pack := fun y => y.1.2.2.2.2.2.1) hmix tab_ok ⟨⟨F_product_Covers_ok, trivial⟩, ⟨F_fare_ticketPrice_ok, trivial⟩, ⟨F_fare_rest_better_ok, trivial⟩, trivial⟩ fun x z h => (F_fare_divide_1_eq x.1 x.2.1 x.2.2.1 x.2.2.2.1 x.2.2.2.2.1 x.2.2.2.2.2.1).trans h
noncomputable def F_fare_divide : (El Y29) → (El Y37) → Option (El Y103) := fun a0 a1 =>
 Option.bind (inb (↑(List.length a1) : Int) (9 : Nat)) fun x0 =>
 Option.bind (Tr.zeroEl Y103)[x0]? fun x1 =>
 Option.bind
 (Tr.run
 (fun s2 =>
 bif decide ((0 : Int) ≤ s2.2) then
 Option.bind
 (Tr.run
 (fun s3 =>
 bif decide (s3.2 < (↑(List.length a1) : Int)) then
 Option.bind
 (Tr.run
 (fun s4 =>
 bif decide (s4.2 < (↑(List.length a0.1) : Int)) then
 Option.bind (inb (IntKind.wrap .i64 (s3.2 + (1 : Int))) (9 : Nat)) fun x5 =>
 Option.bind s4.1[x5]? fun x6 =>
 bif x6.1 then
 Option.bind (F_fare_divide_1 s2.2 s3.2 s4.2 a0 a1 s4.1) fun x7 => some (.inl (x7, IntKind.wrap .i64 (s4.2 + (1 : Int))))
 else some (.inl (s4.1, IntKind.wrap .i64 (s4.2 + (1 : Int))))
 else some (.inr s4.1))
 (s3.1, (0 : Int)))
 fun x8 => some (.inl (x8, IntKind.wrap .i64 (s3.2 + (1 : Int))))
 else some (.inr s3.1))
 (s2.1, s2.2))
 fun x9 => some (.inl (x9, IntKind.wrap .i64 (s2.2 - (1 : Int))))
 else some (.inr s2.1))
 (List.set (Tr.zeroEl Y103) x0 (true, x1.2), IntKind.wrap .i64 ((↑(List.length a1) : Int) - (1 : Int))))
 fun x10 => some x10
abbrev F_fare_divideA : Pats := (.cons (.pd Y29) (.cons (.pd Y37) .nil))
abbrev F_fare_divideR : Pats := (.cons (.pd Y103) .nil)
noncomputable def F_fare_divideS : Tr.Spec := { args := F_fare_divideA, res := F_fare_divideR, fns := [], α := El Y103, f := fun x => F_fare_divide x.1 x.2.1, unp := fun z => (((), (), ()), (z, ())) }
noncomputable def F_fare_divideM : List (Nat × List Tr.Spec) := [(64, [F_fare_divide_1S])]
def F_fare_divideH : Hint := (.seq .leaf (.seq .leaf (.seq .leaf (.seq .leaf (.seq .leaf (.seq (.seq .leaf (.lp ⟨[(5, (.var Y103 (.pd Y103))), (8, (.pd Y3))], [(7, 64, [2, 3, 5])], [2, 3, 4, 6], []⟩ [((.exit 0), ⟨[(5, (.var Y103 (.pd Y103)))], [], [4], []⟩)] (.seq .leaf (.seq (.seq .leaf (.lp ⟨[(5, (.var Y103 (.pd Y103))), (9, (.pd Y3))], [(7, 64, [2, 3, 5])], [2, 3, 4, 6, 8], []⟩ [((.exit 2), ⟨[(5, (.var Y103 (.pd Y103)))], [(7, 64, [2, 3, 5])], [2, 3, 4, 6, 8], []⟩)] (.seq .leaf (.seq (.seq .leaf (.lp ⟨[(5, (.var Y103 (.pd Y103))), (32, (.pd Y3))], [(7, 64, [2, 3, 5])], [2, 3, 4, 6, 8, 9, 31], []⟩ [((.exit 4), ⟨[(5, (.var Y103 (.pd Y103)))], [(7, 64, [2, 3, 5])], [2, 3, 4, 6, 8, 9], []⟩)] .leaf)) .leaf)))) .leaf)))) .leaf))))))
noncomputable def F_fare_divideV (a0 : El Y29) (a1 : El Y37) : Option (El Y103) := evalF (mkE tyTab mapTab pkTab [] [] F_fare_divideM 47) (codeOf Try.f50) Try.f50.results F_fare_divideH F_fare_divideA F_fare_divideR (fun y => y.2.1) (a0, a1, ())
theorem F_fare_divide_eq (a0 : El Y29) (a1 : El Y37) : F_fare_divideV a0 a1 = F_fare_divide a0 a1 := by kernel_rfl
theorem F_fare_divide_ok : FnOK Try.prog 50 F_fare_divideS := fnOK_of (m := F_fare_divideM) (fn := Try.f50) (hint := F_fare_divideH) (pack := fun y => y.2.1) hmix tab_ok ⟨⟨F_fare_divide_1_ok, trivial⟩, trivial⟩ fun x z h => (F_fare_divide_eq x.1 x.2.1).trans h
noncomputable def F_fare_capped : (El Y29) → (El Y3) → Option (El Y3) := fun a0 a1 =>
 Option.bind (bif decide ((0 : Int) < a0.2.2.2.1) then some (decide (a0.2.2.2.1 < a1)) else some false) fun x0 =>
 bif x0 then some a0.2.2.2.1 else some a1
abbrev F_fare_cappedA : Pats := (.cons (.pd Y29) (.cons (.pd Y3) .nil))
abbrev F_fare_cappedR : Pats := (.cons (.pd Y3) .nil)
noncomputable def F_fare_cappedS : Tr.Spec := { args := F_fare_cappedA, res := F_fare_cappedR, fns := [], α := El Y3, f := fun x => F_fare_capped x.1 x.2.1, unp := fun z => (((), (), ()), (z, ())) }
noncomputable def F_fare_cappedM : List (Nat × List Tr.Spec) := []
def F_fare_cappedH : Hint := (.seq .leaf (.seq (.seq (.reg [(13, Y4)]) .leaf) .leaf))
noncomputable def F_fare_cappedV (a0 : El Y29) (a1 : El Y3) : Option (El Y3) := evalF (mkE tyTab mapTab pkTab [] [] F_fare_cappedM 17) (codeOf Try.f51) Try.f51.results F_fare_cappedH F_fare_cappedA F_fare_cappedR (fun y => y.2.1) (a0, a1, ())
theorem F_fare_capped_eq (a0 : El Y29) (a1 : El Y3) : F_fare_cappedV a0 a1 = F_fare_capped a0 a1 := by kernel_rfl
theorem F_fare_capped_ok : FnOK Try.prog 51 F_fare_cappedS := fnOK_of (m := F_fare_cappedM) (fn := Try.f51) (hint := F_fare_cappedH) (pack := fun y => y.2.1) hmix tab_ok trivial fun x z h => (F_fare_capped_eq x.1 x.2.1).trans h
noncomputable def F_fare_Price : (El Y29) → (El Y37) → Option (El Y3 × El Y56 × El Y38) := fun a0 a1 =>
 Option.bind (F_fare_valid a0 a1) fun x0 =>
 bif !decide (x0 = (0 : Int)) then some ((0 : Int), [], x0)
 else
 Option.bind (F_fare_divide a0 a1) fun x1 =>
 Option.bind x1[Int.toNat (0 : Int)]? fun x2 =>
 bif !x2.1 then some ((0 : Int), [], (34 : Int))
 else
 Option.bind
 (Tr.run
 (fun s3 =>
 bif decide (s3.2 < (↑(List.length a1) : Int)) then
 Option.bind (inb s3.2 (9 : Nat)) fun x4 =>
 Option.bind x1[x4]? fun x5 =>
 Option.bind (guardB (decide (List.length s3.1 + List.length [x5.2.2.2.1] ≤ maxApp))) fun _ =>
 Option.bind (inb s3.2 (9 : Nat)) fun x7 =>
 Option.bind x1[x7]? fun x8 => some (.inl (s3.1 ++ [x5.2.2.2.1], IntKind.wrap .i64 (x8.2.2.2.1.2.2.1 + (1 : Int))))
 else some (.inr s3.1))
 ([], (0 : Int)))
 fun x9 => Option.bind x1[Int.toNat (0 : Int)]? fun x10 => Option.bind (F_fare_capped a0 x10.2.1) fun x11 => some (x11, x9, (0 : Int))
abbrev F_fare_PriceA : Pats := (.cons (.pd Y29) (.cons (.pd Y37) .nil))
abbrev F_fare_PriceR : Pats := (.cons (.pd Y3) (.cons (.pd Y56) (.cons (.pd Y38) .nil)))
noncomputable def F_fare_PriceS : Tr.Spec := { args := F_fare_PriceA, res := F_fare_PriceR, fns := [], α := El Y3 × El Y56 × El Y38, f := fun x => F_fare_Price x.1 x.2.1, unp := fun z => (((), (), ()), (z.1, z.2.1, z.2.2, ())) }
noncomputable def F_fare_PriceM : List (Nat × List Tr.Spec) := [(49, [F_fare_validS]), (50, [F_fare_divideS]), (51, [F_fare_cappedS])]
def F_fare_PriceH : Hint := (.seq .leaf (.seq .leaf (.seq .leaf (.seq .leaf (.seq .leaf (.seq (.seq .leaf (.lp ⟨[(9, (.own Y100 false)), (10, (.pd Y3))], [], [1, 2, 8], []⟩ [((.exit 0), ⟨[(9, (.own Y100 false))], [], [2, 8], []⟩)] .leaf)) .leaf))))))
noncomputable def F_fare_PriceV (a0 : El Y29) (a1 : El Y37) : Option (El Y3 × El Y56 × El Y38) := evalF (mkE tyTab mapTab pkTab [] [] F_fare_PriceM 47) (codeOf Try.f31) Try.f31.results F_fare_PriceH F_fare_PriceA F_fare_PriceR (fun y => (y.2.1, y.2.2.1, y.2.2.2.1)) (a0, a1, ())
theorem F_fare_Price_eq (a0 : El Y29) (a1 : El Y37) : F_fare_PriceV a0 a1 = F_fare_Price a0 a1 := by kernel_rfl
theorem F_fare_Price_ok : FnOK Try.prog 31 F_fare_PriceS := fnOK_of (m := F_fare_PriceM) (fn := Try.f31) (hint := F_fare_PriceH) (pack := fun y => (y.2.1, y.2.2.1, y.2.2.2.1)) hmix tab_ok ⟨⟨F_fare_valid_ok, trivial⟩, ⟨F_fare_divide_ok, trivial⟩, ⟨F_fare_capped_ok, trivial⟩, trivial⟩ fun x z h => (F_fare_Price_eq x.1 x.2.1).trans h
noncomputable def F_journey_Cost : (El Y31) → (El Y60) → (El Y34) → Option (El Y55 × El Y56 × El Y38) := fun a0 a1 a2 =>
 Option.bind (F_journey_Rides a0 a2) fun x0 =>
 bif !decide (x0.2 = (0 : Int)) then some (((0 : Int), (0 : Int), (0 : Int), (0 : Int), (0 : Int), ()), [], x0.2)
 else
 Option.bind (F_fare_Price a0.2.2.2.2.2.1 x0.1) fun x1 =>
 bif !decide (x1.2.2 = (0 : Int)) then some (((0 : Int), (0 : Int), (0 : Int), (0 : Int), (0 : Int), ()), [], x1.2.2)
 else
 Option.bind (F_journey_Walk a2) fun x2 =>
 Option.bind
 (bif decide ((0 : Int) < (↑(List.length a2.1) : Int)) then
 Option.bind (idx a2.1 (0 : Int)) fun x3 =>
 Option.bind (idx a2.1 (IntKind.wrap .i64 ((↑(List.length a2.1) : Int) - (1 : Int)))) fun x4 =>
 some (x3.2.2.2.2.2.2.1, x4.2.2.2.2.2.2.2.1, (↑(List.length x0.1) : Int), x1.1, x2, ())
 else some (a1.2.2.1, a1.2.2.1, (↑(List.length x0.1) : Int), x1.1, x2, ()))
 fun x5 => some (x5, x1.2.1, (0 : Int))
abbrev F_journey_CostA : Pats := (.cons (.pd Y31) (.cons (.pd Y60) (.cons (.pd Y34) .nil)))
abbrev F_journey_CostR : Pats := (.cons (.pd Y55) (.cons (.pd Y56) (.cons (.pd Y38) .nil)))
noncomputable def F_journey_CostS : Tr.Spec := { args := F_journey_CostA, res := F_journey_CostR, fns := [], α := El Y55 × El Y56 × El Y38, f := fun x => F_journey_Cost x.1 x.2.1 x.2.2.1, unp := fun z => (((), (), (), ()), (z.1, z.2.1, z.2.2, ())) }
noncomputable def F_journey_CostM : List (Nat × List Tr.Spec) := [(10, [F_journey_RidesS]), (15, [F_journey_WalkS]), (31, [F_fare_PriceS])]
def F_journey_CostH : Hint := (.seq .leaf (.seq .leaf (.seq .leaf (.seq .leaf (.seq .leaf (.seq .leaf (.seq (.seq .leaf (.seq .leaf (.cnd (some (⟨[], [], [6, 12], []⟩, [(.normal, ⟨[(13, (.var Y55 (.pd Y55)))], [], [6, 12], []⟩)])) .leaf .leaf))) .leaf)))))))
noncomputable def F_journey_CostV (a0 : El Y31) (a1 : El Y60) (a2 : El Y34) : Option (El Y55 × El Y56 × El Y38) := evalF (mkE tyTab mapTab pkTab [] [] F_journey_CostM 68) (codeOf Try.f21) Try.f21.results F_journey_CostH F_journey_CostA F_journey_CostR (fun y => (y.2.1, y.2.2.1, y.2.2.2.1)) (a0, a1, a2, ())
theorem F_journey_Cost_eq (a0 : El Y31) (a1 : El Y60) (a2 : El Y34) : F_journey_CostV a0 a1 a2 = F_journey_Cost a0 a1 a2 := by kernel_rfl
theorem F_journey_Cost_ok : FnOK Try.prog 21 F_journey_CostS := fnOK_of (m := F_journey_CostM) (fn := Try.f21) (hint := F_journey_CostH) (pack := fun y => (y.2.1, y.2.2.1, y.2.2.2.1)) hmix tab_ok ⟨⟨F_journey_Rides_ok, trivial⟩, ⟨F_journey_Walk_ok, trivial⟩, ⟨F_fare_Price_ok, trivial⟩, trivial⟩ fun x z h => (F_journey_Cost_eq x.1 x.2.1 x.2.2.1).trans h
noncomputable def F_law38_JourneyJoin : (El Y31) → (El Y34) → (El Y34) → Option (El Y4) := fun a0 a1 a2 =>
 Option.bind
 (Option.bind (F_law38_light a0 a1) fun x0 =>
 bif !x0 then some true
 else
 Option.bind (F_law38_light a0 a2) fun x1 =>
 bif !x1 then some true
 else
 bif decide ((0 : Int) < (↑(List.length a2.1) : Int)) then Option.bind (idx a2.1 (0 : Int)) fun x2 => some x2.2.2.2.2.2.2.2.2.1
 else some false)
 fun x3 =>
 bif x3 then Option.bind F_law38_exampleHolds fun x4 => some x4
 else
 Option.bind (F_journey_Join a1 a2) fun x5 =>
 bif !x5.2 then
 Option.bind (bif decide ((↑(List.length x5.1.1) : Int) = (0 : Int)) then Option.bind F_law38_exampleHolds fun x6 => some x6 else some false) fun x7 =>
 some x7
 else
 Option.bind (F_journey_Walk x5.1) fun x8 =>
 Option.bind (F_journey_Walk a1) fun x9 =>
 Option.bind (F_journey_Walk a2) fun x10 =>
 bif !decide (x8 = IntKind.wrap .i64 (x9 + x10)) then some false
 else
 Option.bind (F_journey_Cost a0 ((0 : Int), (0 : Int), (0 : Int), false, (0 : Int), (0 : Int), false, false, (0 : Int), false, ()) a1)
 fun x11 =>
 Option.bind (F_journey_Cost a0 ((0 : Int), (0 : Int), (0 : Int), false, (0 : Int), (0 : Int), false, false, (0 : Int), false, ()) a2)
 fun x12 =>
 Option.bind
 (F_journey_Cost a0 ((0 : Int), (0 : Int), (0 : Int), false, (0 : Int), (0 : Int), false, false, (0 : Int), false, ()) x5.1)
 fun x13 =>
 Option.bind
 (bif !decide (x11.2.2 = (0 : Int)) then some true
 else
 bif !decide (x12.2.2 = (0 : Int)) then some true
 else some (decide ((8 : Int) < IntKind.wrap .i64 (x11.1.2.2.1 + x12.1.2.2.1))))
 fun x14 =>
 bif x14 then Option.bind F_law38_exampleHolds fun x15 => some x15
 else
 Option.bind
 (bif decide (x13.2.2 = (0 : Int)) then
 bif decide (x13.1.2.2.1 = IntKind.wrap .i64 (x11.1.2.2.1 + x12.1.2.2.1)) then
 bif decide (x13.1.2.2.2.1 ≤ IntKind.wrap .i64 (x11.1.2.2.2.1 + x12.1.2.2.2.1)) then
 Option.bind F_law38_exampleHolds fun x16 => some x16
 else some false
 else some false
 else some false)
 fun x17 => some x17
abbrev F_law38_JourneyJoinA : Pats := (.cons (.pd Y31) (.cons (.pd Y34) (.cons (.pd Y34) .nil)))
abbrev F_law38_JourneyJoinR : Pats := (.cons (.pd Y4) .nil)
noncomputable def F_law38_JourneyJoinS : Tr.Spec := { args := F_law38_JourneyJoinA, res := F_law38_JourneyJoinR, fns := [], α := El Y4, f := fun x => F_law38_JourneyJoin x.1 x.2.1 x.2.2.1, unp := fun z => (((), (), (), ()), (z, ())) }
noncomputable def F_law38_JourneyJoinM : List (Nat × List Tr.Spec) := [(8, [F_law38_lightS]), (9, [F_law38_exampleHoldsS]), (15, [F_journey_WalkS]), (17, [F_journey_JoinS]), (21, [F_journey_CostS])]
def F_law38_JourneyJoinH : Hint := (.seq .leaf (.seq (.seq (.reg [(40, Y4)]) .leaf) (.seq .leaf (.seq (.seq .leaf (.cnd none (.seq (.reg [(6, Y4)]) .leaf) .leaf)) (.seq .leaf (.seq .leaf (.seq .leaf (.seq .leaf (.seq (.seq (.reg [(102, Y4)]) .leaf) (.seq (.reg [(6, Y4)]) .leaf))))))))))
noncomputable def F_law38_JourneyJoinV (a0 : El Y31) (a1 : El Y34) (a2 : El Y34) : Option (El Y4) := evalF (mkE tyTab mapTab pkTab [] [] F_law38_JourneyJoinM 129) (codeOf Try.f7) Try.f7.results F_law38_JourneyJoinH F_law38_JourneyJoinA F_law38_JourneyJoinR (fun y => y.2.1) (a0, a1, a2, ())
theorem F_law38_JourneyJoin_eq (a0 : El Y31) (a1 : El Y34) (a2 : El Y34) : F_law38_JourneyJoinV a0 a1 a2 = F_law38_JourneyJoin a0 a1 a2 := by kernel_rfl
theorem F_law38_JourneyJoin_ok : FnOK Try.prog 7 F_law38_JourneyJoinS := fnOK_of (m := F_law38_JourneyJoinM) (fn := Try.f7) (hint := F_law38_JourneyJoinH) (pack := fun y => y.2.1) hmix tab_ok ⟨⟨F_law38_light_ok, trivial⟩, ⟨F_law38_exampleHolds_ok, trivial⟩, ⟨F_journey_Walk_ok, trivial⟩, ⟨F_journey_Join_ok, trivial⟩, ⟨F_journey_Cost_ok, trivial⟩, trivial⟩ fun x z h => (F_law38_JourneyJoin_eq x.1 x.2.1 x.2.2.1).trans h
end Q
