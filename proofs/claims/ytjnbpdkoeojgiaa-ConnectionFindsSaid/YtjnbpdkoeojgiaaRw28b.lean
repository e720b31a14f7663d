/- ConnectionFinds: From and Until are the reference's counts in ordered lists, and numbers within the list for all others, whatever the list and the moment. Conditions: none. -/
import Derived.Test.YtjnbpdkoeojgiaaRows
import Derived.Test.YtjnbpdkoeojgiaaLw28
import Derived.Test.YtjnbpdkoeojgiaaTsG
namespace Go.Proofs.Ytjnbpdkoeojgiaa.finds
open Go.ChangeShapes Go.WideShapes Go.ChangeAt Go.RowKit

theorem own : ownKnob Try.prog.godebug = none := by kernel_rfl

theorem lifted (os : Os) (started : os.Started) (H : Type) (enc : TypeId × Value → H) :
    ReturnsInHanded {} Try.checked os 4 .any (Rows.connectionFindsSpec.pre6 enc Try.prog Try.f4 Rows.connectionFindsRow.domain false) (Rows.connectionFindsSpec.post enc Try.prog Try.f4 false true false false) :=
  Tr.law_lifted (C := Try.checked) (S := Q.F4S) (θ := fun n => Q.tyTab.lookup n) own started (by kernel_rfl) Try.func4
    (ChangeSpec.witness6 (enc := enc) (C := Try.checked) false ⟨#[], #[.slice none 0 0, .int .i64 0], []⟩ 8 (by kernel_rfl) (by kernel_rfl) (by kernel_rfl) (by kernel_rfl))
    (by kernel_rfl) (by kernel_rfl) rfl (fun ds h => by
      match ds, h with
      | [d1, d2], _ => rfl)
    (by kernel_rfl) (Try.underlying4) Q.F4_ok (Tr.typesOk_of (E := Q.F4E) Q.tab_ok rfl rfl rfl).ty (by kernel_rfl)
    (fun x _ => ⟨true, Q.finds x.1 x.2.1, fun w I js rv h => Tr.rv_bool h⟩)

theorem over : Rows.connectionFindsRow.holds Try.pinned (OpenSpec.ofChange Rows.connectionFindsSpec) :=
  OpenClaim.holds_of_wide 4 Try.f4 rfl rfl rfl rfl rfl rfl rfl ⟨rfl, rfl, rfl, rfl, rfl⟩ rfl rfl rfl rfl rfl (by kernel_rfl) Try.func4 (by kernel_rfl)
    (of_decide_eq_true (by kernel_rfl)) (by unfold Func.isWrapper; first | (rw [if_pos (by decide +kernel)]; kernel_rfl) | (rw [if_neg (by decide +kernel)]; exact ⟨rfl, rfl⟩))
    (fun os started H enc _ => lifted os started H enc)

theorem proved : Rows.ConnectionFindsSaid := over
#print axioms proved
end Go.Proofs.Ytjnbpdkoeojgiaa.finds
