/- The row of FootpathFree: the law of the plain texts carried to the program. Conditions: none. -/
import Derived.Test.YtnnjgdobngfdoaaRows
import Derived.Test.YtnnjgdobngfdoaaLxK20
import Derived.Test.YtnnjgdobngfdoaaTsG
namespace Go.Proofs.Ytnnjgdobngfdoaa.footpathFree
open Go.ChangeShapes Go.WideShapes Go.ChangeAt Go.RowKit

theorem own : ownKnob Try.prog.godebug = none := by kernel_rfl

theorem lifted (os : Os) (started : os.Started) (H : Type) (enc : TypeId × Value → H) :
    ReturnsInHanded {} Try.checked os 10 .any (Rows.footpathFreeSpec.pre6 enc Try.prog Try.f10 Rows.footpathFreeRow.domain false) (Rows.footpathFreeSpec.post enc Try.prog Try.f10 false true false false) :=
  Tr.law_lifted (C := Try.checked) (S := Q.F_law20_FootpathFreeS) (θ := fun n => Q.tyTab.lookup n) own started (by kernel_rfl) Try.func10
    (ChangeSpec.witness6 (enc := enc) (C := Try.checked) false ⟨#[], #[.slice none 0 0, .int .i64 0, .int .i64 0], []⟩ 8 (by kernel_rfl) (by kernel_rfl) (by kernel_rfl) (by kernel_rfl))
    (by kernel_rfl) (by kernel_rfl) rfl (fun ds h => by
      match ds, h with
      | [d1, d2, d3], _ => rfl)
    (by kernel_rfl) (Try.underlying4) Q.F_law20_FootpathFree_ok (Tr.typesOk_of (E := Tr.mkE Q.tyTab Q.mapTab Q.pkTab [] [] [] 0) Q.tab_ok rfl rfl rfl).ty (by kernel_rfl)
    (fun x hx => ⟨true, Q.freesP x hx, fun w I js rv h => Tr.rv_bool h⟩)

theorem over : Rows.footpathFreeRow.holds Try.pinned (OpenSpec.ofChange Rows.footpathFreeSpec) :=
  OpenClaim.holds_of_wide 10 Try.f10 rfl rfl rfl rfl rfl rfl rfl ⟨rfl, rfl, rfl, rfl, rfl⟩ rfl rfl rfl rfl rfl (by kernel_rfl) Try.func10 (by kernel_rfl)
    (of_decide_eq_true (by kernel_rfl)) (by unfold Func.isWrapper; first | (rw [if_pos (by decide +kernel)]; kernel_rfl) | (rw [if_neg (by decide +kernel)]; exact ⟨rfl, rfl⟩))
    (fun os started H enc _ => lifted os started H enc)

theorem proved : Rows.FootpathFreeSaid := over
#print axioms proved
end Go.Proofs.Ytnnjgdobngfdoaa.footpathFree
