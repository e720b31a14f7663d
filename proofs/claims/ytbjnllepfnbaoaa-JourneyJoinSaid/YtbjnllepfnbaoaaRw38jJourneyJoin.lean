/- The row of JourneyJoin: the law of the plain texts carried to the program. Conditions: none. -/
import Derived.Test.YtbjnllepfnbaoaaRows
import Derived.Test.YtbjnllepfnbaoaaLxK38j
import Derived.Test.YtbjnllepfnbaoaaTsG
namespace Go.Proofs.Ytbjnllepfnbaoaa.journeyJoin
open Go.ChangeShapes Go.WideShapes Go.ChangeAt Go.RowKit

theorem own : ownKnob Try.prog.godebug = none := by kernel_rfl

theorem lifted (os : Os) (started : os.Started) (H : Type) (enc : TypeId × Value → H) :
    ReturnsInHanded {} Try.checked os 7 .any (Rows.journeyJoinSpec.pre6 enc Try.prog Try.f7 Rows.journeyJoinRow.domain false) (Rows.journeyJoinSpec.post enc Try.prog Try.f7 false true false false) :=
  Tr.law_lifted (C := Try.checked) (S := Q.F_law38_JourneyJoinS) (θ := fun n => Q.tyTab.lookup n) own started (by kernel_rfl) Try.func7
    (ChangeSpec.witness6 (enc := enc) (C := Try.checked) false ⟨#[], #[.agg #[.slice none 0 0, .slice none 0 0, .slice none 0 0, .slice none 0 0, .slice none 0 0, .slice none 0 0, .int .i64 0, .int .i64 0, .int .i64 0], .agg #[.slice none 0 0], .agg #[.slice none 0 0]], []⟩ 8 (by kernel_rfl) (by kernel_rfl) (by kernel_rfl) (by kernel_rfl))
    (by kernel_rfl) (by kernel_rfl) rfl (fun ds h => by
      match ds, h with
      | [d1, d2, d3], _ => rfl)
    (by kernel_rfl) (Try.underlying4) Q.F_law38_JourneyJoin_ok (Tr.typesOk_of (E := Tr.mkE Q.tyTab Q.mapTab Q.pkTab [] [] [] 0) Q.tab_ok rfl rfl rfl).ty (by kernel_rfl)
    (fun x hx => ⟨true, Q.joinP x hx, fun w I js rv h => Tr.rv_bool h⟩)

theorem over : Rows.journeyJoinRow.holds Try.pinned (OpenSpec.ofChange Rows.journeyJoinSpec) :=
  OpenClaim.holds_of_wide 7 Try.f7 rfl rfl rfl rfl rfl rfl rfl ⟨rfl, rfl, rfl, rfl, rfl⟩ rfl rfl rfl rfl rfl (by kernel_rfl) Try.func7 (by kernel_rfl)
    (of_decide_eq_true (by kernel_rfl)) (by unfold Func.isWrapper; first | (rw [if_pos (by decide +kernel)]; kernel_rfl) | (rw [if_neg (by decide +kernel)]; exact ⟨rfl, rfl⟩))
    (fun os started H enc _ => lifted os started H enc)

theorem proved : Rows.JourneyJoinSaid := over
#print axioms proved
end Go.Proofs.Ytbjnllepfnbaoaa.journeyJoin
