/- ConnectionCompares: the order of any two connections is the reference's, whatever the connections. Conditions: none. -/
import Derived.Test.YtjnbpdkoeojgiaaRows
import Derived.Test.YtjnbpdkoeojgiaaLw28
import Derived.Test.YtjnbpdkoeojgiaaTsG
namespace Go.Proofs.Ytjnbpdkoeojgiaa.compares
open Go.ChangeShapes Go.WideShapes Go.ChangeAt Go.RowKit

theorem own : ownKnob Try.prog.godebug = none := by kernel_rfl

theorem lifted (os : Os) (started : os.Started) (H : Type) (enc : TypeId × Value → H) :
    ReturnsInHanded {} Try.checked os 3 .any (Rows.connectionComparesSpec.pre6 enc Try.prog Try.f3 Rows.connectionComparesRow.domain false) (Rows.connectionComparesSpec.post enc Try.prog Try.f3 false true false false) :=
  Tr.law_lifted (C := Try.checked) (S := Q.F3S) (θ := fun n => Q.tyTab.lookup n) own started (by kernel_rfl) Try.func3
    (ChangeSpec.witness6 (enc := enc) (C := Try.checked) false ⟨#[], #[.agg #[.int .i64 0, .int .i64 0, .int .i64 0, .int .i64 0, .int .i64 0, .int .i64 0], .agg #[.int .i64 0, .int .i64 0, .int .i64 0, .int .i64 0, .int .i64 0, .int .i64 0]], []⟩ 8 (by kernel_rfl) (by kernel_rfl) (by kernel_rfl) (by kernel_rfl))
    (by kernel_rfl) (by kernel_rfl) rfl (fun ds h => by
      match ds, h with
      | [d1, d2], _ => rfl)
    (by kernel_rfl) (Try.underlying4) Q.F3_ok (Tr.typesOk_of (E := Q.F3E) Q.tab_ok rfl rfl rfl).ty (by kernel_rfl)
    (fun x _ => ⟨true, Q.compares x.1 x.2.1, fun w I js rv h => Tr.rv_bool h⟩)

theorem over : Rows.connectionComparesRow.holds Try.pinned (OpenSpec.ofChange Rows.connectionComparesSpec) :=
  OpenClaim.holds_of_wide 3 Try.f3 rfl rfl rfl rfl rfl rfl rfl ⟨rfl, rfl, rfl, rfl, rfl⟩ rfl rfl rfl rfl rfl (by kernel_rfl) Try.func3 (by kernel_rfl)
    (of_decide_eq_true (by kernel_rfl)) (by unfold Func.isWrapper; first | (rw [if_pos (by decide +kernel)]; kernel_rfl) | (rw [if_neg (by decide +kernel)]; exact ⟨rfl, rfl⟩))
    (fun os started H enc _ => lifted os started H enc)

theorem proved : Rows.ConnectionComparesSaid := over
#print axioms proved
end Go.Proofs.Ytjnbpdkoeojgiaa.compares
