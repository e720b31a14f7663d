/- JourneyWalk: Walk and Stops return what the chapter defines, whatever the journey. Conditions: none. -/
import Derived.Test.YtbjnllepfnbaoaaRows
import Derived.Test.YtbjnllepfnbaoaaLw38
import Derived.Test.YtbjnllepfnbaoaaTsG
namespace Go.Proofs.Ytbjnllepfnbaoaa.journeyWalk
open Go.ChangeShapes Go.WideShapes Go.ChangeAt Go.RowKit

theorem own : ownKnob Try.prog.godebug = none := by kernel_rfl

theorem lifted (os : Os) (started : os.Started) (H : Type) (enc : TypeId × Value → H) :
    ReturnsInHanded {} Try.checked os 5 .any (Rows.journeyWalkSpec.pre6 enc Try.prog Try.f5 Rows.journeyWalkRow.domain false) (Rows.journeyWalkSpec.post enc Try.prog Try.f5 false true false false) :=
  Tr.law_lifted (C := Try.checked) (S := Q.F_law38_JourneyWalkS) (θ := fun n => Q.tyTab.lookup n) own started (by kernel_rfl) Try.func5
    (ChangeSpec.witness6 (enc := enc) (C := Try.checked) false ⟨#[], #[.agg #[.slice none 0 0]], []⟩ 8 (by kernel_rfl) (by kernel_rfl) (by kernel_rfl) (by kernel_rfl))
    (by kernel_rfl) (by kernel_rfl) rfl (fun ds h => by
      match ds, h with
      | [d1], _ => rfl)
    (by kernel_rfl) (Try.underlying4) Q.F_law38_JourneyWalk_ok (Tr.typesOk_of (E := Q.F_law38_JourneyWalkE) Q.tab_ok rfl rfl rfl).ty (by kernel_rfl)
    (fun x hx => ⟨true, Q.walks x.1, fun w I js rv h => Tr.rv_bool h⟩)

theorem over : Rows.journeyWalkRow.holds Try.pinned (OpenSpec.ofChange Rows.journeyWalkSpec) :=
  OpenClaim.holds_of_wide 5 Try.f5 rfl rfl rfl rfl rfl rfl rfl ⟨rfl, rfl, rfl, rfl, rfl⟩ rfl rfl rfl rfl rfl (by kernel_rfl) Try.func5 (by kernel_rfl)
    (of_decide_eq_true (by kernel_rfl)) (by unfold Func.isWrapper; first | (rw [if_pos (by decide +kernel)]; kernel_rfl) | (rw [if_neg (by decide +kernel)]; exact ⟨rfl, rfl⟩))
    (fun os started H enc _ => lifted os started H enc)

theorem proved : Rows.JourneyWalkSaid := over
#print axioms proved
end Go.Proofs.Ytbjnllepfnbaoaa.journeyWalk
