/- The functions of the program as functions of Lean, and that the program computes them; printed by a program of mine. Conditions: none. -/
import Derived.Test.YtbjnllepfnbaoaaFin38a
open Tr Go Go.Proofs
namespace Q
noncomputable def F_law38_JourneyRides : (El Y31) → (El Y34) → Option (El Y4) := fun a0 a1 =>
 Option.bind (F_law38_light a0 a1) fun x0 =>
 bif !x0 then Option.bind F_law38_exampleHolds fun x1 => some x1
 else
 Option.bind (F_journey_Rides a0 a1) fun x2 =>
 Option.bind (F_ref38_Rides a0 a1) fun x3 =>
 Option.bind
 (Option.bind (F_law38_sameRides x2.1 x3.1) fun x4 =>
 bif x4 then bif decide (x2.2 = x3.2) then Option.bind F_law38_exampleHolds fun x5 => some x5 else some false else some false)
 fun x6 => some x6
abbrev F_law38_JourneyRidesA : Pats := (.cons (.pd Y31) (.cons (.pd Y34) .nil))
abbrev F_law38_JourneyRidesR : Pats := (.cons (.pd Y4) .nil)
noncomputable def F_law38_JourneyRidesS : Tr.Spec := { args := F_law38_JourneyRidesA, res := F_law38_JourneyRidesR, fns := [], α := El Y4, f := fun x => F_law38_JourneyRides x.1 x.2.1, unp := fun z => (((), (), ()), (z, ())) }
noncomputable def F_law38_JourneyRidesM : List (Nat × List Tr.Spec) := [(8, [F_law38_lightS]), (9, [F_law38_exampleHoldsS]), (10, [F_journey_RidesS]), (11, [F_ref38_RidesS]), (12, [F_law38_sameRidesS])]
def F_law38_JourneyRidesH : Hint := (.seq .leaf (.seq .leaf (.seq .leaf (.seq .leaf (.seq (.reg [(4, Y4)]) .leaf)))))
noncomputable def F_law38_JourneyRidesV (a0 : El Y31) (a1 : El Y34) : Option (El Y4) := evalF (mkE tyTab mapTab pkTab [] [] F_law38_JourneyRidesM 37) (codeOf Try.f3) Try.f3.results F_law38_JourneyRidesH F_law38_JourneyRidesA F_law38_JourneyRidesR (fun y => y.2.1) (a0, a1, ())
theorem F_law38_JourneyRides_eq (a0 : El Y31) (a1 : El Y34) : F_law38_JourneyRidesV a0 a1 = F_law38_JourneyRides a0 a1 := by kernel_rfl
theorem F_law38_JourneyRides_ok : FnOK Try.prog 3 F_law38_JourneyRidesS := fnOK_of (m := F_law38_JourneyRidesM) (fn := Try.f3) (hint := F_law38_JourneyRidesH) (pack := fun y => y.2.1) hmix tab_ok ⟨⟨F_law38_light_ok, trivial⟩, ⟨F_law38_exampleHolds_ok, trivial⟩, ⟨F_journey_Rides_ok, trivial⟩, ⟨F_ref38_Rides_ok, trivial⟩, ⟨F_law38_sameRides_ok, trivial⟩, trivial⟩ fun x z h => (F_law38_JourneyRides_eq x.1 x.2.1).trans h
noncomputable def F_law38_JourneyStay : (El Y31) → (El Y34) → Option (El Y4) := fun a0 a1 =>
 Option.bind (Option.bind (F_law38_light a0 a1) fun x0 => bif !x0 then some true else Option.bind (F_ref26_Valid a0) fun x1 => some !x1) fun x2 =>
 bif x2 then Option.bind F_law38_exampleHolds fun x3 => some x3
 else
 Option.bind (F_journey_Rides a0 a1) fun x4 =>
 bif !decide (x4.2 = (0 : Int)) then
 Option.bind (bif decide ((↑(List.length x4.1) : Int) = (0 : Int)) then Option.bind F_law38_exampleHolds fun x5 => some x5 else some false) fun x6 =>
 some x6
 else
 Option.bind
 (Tr.run
 (fun s7 =>
 bif decide (s7.2.2 < (↑(List.length a1.1) : Int)) then
 Option.bind (idx a1.1 s7.2.2) fun x8 =>
 Option.bind
 (bif x8.2.2.2.2.2.2.2.2.1 then some ((s7.1.1, ()), IntKind.wrap .i64 (s7.2.1 + (1 : Int)))
 else some ((s7.1.1, ()), s7.2.1))
 fun x9 =>
 Option.bind
 (guardB
 (decide
 (List.length x9.1.1 +
 List.length
 [(x8.1, x8.2.1, x8.2.2.1, x8.2.2.2.1, x8.2.2.2.2.1, x8.2.2.2.2.2.1, x8.2.2.2.2.2.2.1,
 x8.2.2.2.2.2.2.2.1, false, x8.2.2.2.2.2.2.2.2.2)] ≤
 maxApp)))
 fun _ =>
 some
 (.inl
 ((x9.1.1 ++
 [(x8.1, x8.2.1, x8.2.2.1, x8.2.2.2.1, x8.2.2.2.2.1, x8.2.2.2.2.2.1, x8.2.2.2.2.2.2.1,
 x8.2.2.2.2.2.2.2.1, false, x8.2.2.2.2.2.2.2.2.2)],
 ()),
 x9.2, IntKind.wrap .i64 (s7.2.2 + (1 : Int))))
 else some (.inr ((s7.1.1, ()), s7.2.1)))
 (([], ()), (0 : Int), (0 : Int)))
 fun x11 =>
 Option.bind (F_journey_Rides a0 (x11.1.1, ())) fun x12 =>
 Option.bind
 (bif !decide (x12.2 = (0 : Int)) then some true
 else some !decide ((↑(List.length x12.1) : Int) = IntKind.wrap .i64 ((↑(List.length x4.1) : Int) + x11.2)))
 fun x13 =>
 bif x13 then some false
 else
 Option.bind
 (bif decide ((0 : Int) < (↑(List.length x4.1) : Int)) then
 Option.bind (idx x4.1 (0 : Int)) fun x14 =>
 Option.bind (idx x12.1 (0 : Int)) fun x15 =>
 bif !decide (x14.1 = x15.1) then some true
 else
 Option.bind (idx x4.1 (IntKind.wrap .i64 ((↑(List.length x4.1) : Int) - (1 : Int)))) fun x16 =>
 Option.bind (idx x12.1 (IntKind.wrap .i64 ((↑(List.length x12.1) : Int) - (1 : Int)))) fun x17 =>
 some !decide (x16.2.1 = x17.2.1)
 else some false)
 fun x18 => bif x18 then some false else Option.bind F_law38_exampleHolds fun x19 => some x19
abbrev F_law38_JourneyStayA : Pats := (.cons (.pd Y31) (.cons (.pd Y34) .nil))
abbrev F_law38_JourneyStayR : Pats := (.cons (.pd Y4) .nil)
noncomputable def F_law38_JourneyStayS : Tr.Spec := { args := F_law38_JourneyStayA, res := F_law38_JourneyStayR, fns := [], α := El Y4, f := fun x => F_law38_JourneyStay x.1 x.2.1, unp := fun z => (((), (), ()), (z, ())) }
noncomputable def F_law38_JourneyStayM : List (Nat × List Tr.Spec) := [(8, [F_law38_lightS]), (9, [F_law38_exampleHoldsS]), (10, [F_journey_RidesS]), (13, [F_ref26_ValidS])]
def F_law38_JourneyStayH : Hint := (.seq .leaf (.seq (.seq (.reg [(21, Y4)]) .leaf) (.seq .leaf (.seq (.seq .leaf (.cnd none (.seq (.reg [(4, Y4)]) .leaf) .leaf)) (.seq .leaf (.seq .leaf (.seq (.seq .leaf (.lp ⟨[(7, (.var Y34 (.agg (.cons (.own Y44 false) .nil)))), (8, (.pd Y3)), (41, (.pd Y3))], [], [2, 3, 5, 40], []⟩ [((.exit 0), ⟨[(7, (.var Y34 (.agg (.cons (.own Y44 false) .nil)))), (8, (.pd Y3))], [], [2, 5], []⟩)] (.seq .leaf (.seq .leaf (.seq (.seq .leaf (.seq .leaf (.seq (.seq .leaf (.cnd (some (⟨[], [], [2, 3, 5, 10, 40, 41], []⟩, [(.normal, ⟨[(7, (.var Y34 (.agg (.cons (.own Y44 false) .nil)))), (8, (.pd Y3))], [], [2, 3, 5, 10, 40, 41], []⟩)])) .leaf .leaf)) .leaf))) .leaf))))) (.seq .leaf (.seq (.seq (.reg [(77, Y4)]) .leaf) (.seq (.seq (.reg [(108, Y4)]) .leaf) .leaf))))))))))
noncomputable def F_law38_JourneyStayV (a0 : El Y31) (a1 : El Y34) : Option (El Y4) := evalF (mkE tyTab mapTab pkTab [] [34] F_law38_JourneyStayM 110) (codeOf Try.f4) Try.f4.results F_law38_JourneyStayH F_law38_JourneyStayA F_law38_JourneyStayR (fun y => y.2.1) (a0, a1, ())
theorem F_law38_JourneyStay_eq (a0 : El Y31) (a1 : El Y34) : F_law38_JourneyStayV a0 a1 = F_law38_JourneyStay a0 a1 := by kernel_rfl
theorem F_law38_JourneyStay_ok : FnOK Try.prog 4 F_law38_JourneyStayS := fnOK_of (m := F_law38_JourneyStayM) (fn := Try.f4) (hint := F_law38_JourneyStayH) (pack := fun y => y.2.1) hmix tab_ok ⟨⟨F_law38_light_ok, trivial⟩, ⟨F_law38_exampleHolds_ok, trivial⟩, ⟨F_journey_Rides_ok, trivial⟩, ⟨F_ref26_Valid_ok, trivial⟩, trivial⟩ fun x z h => (F_law38_JourneyStay_eq x.1 x.2.1).trans h
end Q
