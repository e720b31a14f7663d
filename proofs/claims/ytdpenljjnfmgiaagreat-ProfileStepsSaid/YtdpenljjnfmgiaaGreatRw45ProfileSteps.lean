/- The row of ProfileSteps: the law of the plain texts carried to the program. Conditions: none. -/
import Derived.Test.YtdpenljjnfmgiaaGreatRows
import Derived.Test.YtdpenljjnfmgiaaGreatJLxKit
import Derived.Test.YtdpenljjnfmgiaaGreatTsG
namespace Go.Proofs.YtdpenljjnfmgiaaGreat.profileSteps
open Go.ChangeShapes Go.WideShapes Go.ChangeAt Go.RowKit
theorem own:ownKnob Tryz.prog.godebug=none:=by kernel_rfl
theorem lifted (os:Os) (started:os.Started) (H:Type) (enc:TypeId×Value→H):
  ReturnsInHanded {} Tryz.checked os 7 .any (Rows.profileStepsSpec.pre6 enc Tryz.prog Tryz.f7 Rows.profileStepsRow.domain false) (Rows.profileStepsSpec.post enc Tryz.prog Tryz.f7 false true false false):=
 Tr.law_lifted (C:=Tryz.checked) (S:=Q.F47S) (θ:=fun n=>Q.tyTab.lookup n) own started (by kernel_rfl) Tryz.func7
  (ChangeSpec.witness6 (enc:=enc) (C:=Tryz.checked) false ⟨#[], #[.slice none 0 0],[]⟩ 8 (by kernel_rfl) (by kernel_rfl) (by kernel_rfl) (by kernel_rfl))
  (by kernel_rfl) (by kernel_rfl) rfl (fun ds h=>by
   match ds,h with
   | [d1],_=>rfl)
  (by kernel_rfl) (Tryz.underlying4) Q.F47_ok (Tr.typesOk_of (E:=Tr.mkE Q.tyTab Q.mapTab Q.pkTab [] [] [] 0 Q.bdTab) Q.tab_ok rfl rfl rfl rfl fun _ h=>absurd (show false=true from h) (by decide)).ty (by kernel_rfl)
  rfl (fun x hx=>⟨true,Q.stepsP x hx,fun w I js rv h=>Tr.rv_bool h⟩)
theorem ZnH:joinedFacts Tryz.pinned.checked.prog 7 Tryz.f7 Rows.profileStepsSpec Rows.profileStepsRow=true:=by kernel_rfl
theorem over:Rows.profileStepsRow.holds Tryz.pinned (OpenSpec.ofChange Rows.profileStepsSpec):=
 OpenClaim.holds_of_wide 7 Tryz.f7 rfl rfl rfl rfl rfl rfl rfl ⟨rfl,rfl,rfl,rfl,rfl⟩ rfl rfl rfl rfl rfl (by kernel_rfl) Tryz.func7 ZnH
  (of_decide_eq_true (by kernel_rfl)) (by unfold Func.isWrapper;first| (rw[if_pos (by decide+kernel)];kernel_rfl) | (rw[if_neg (by decide+kernel)];exact⟨rfl,rfl⟩))
  (fun os started H enc _=>lifted os started H enc)
theorem proved:Rows.ProfileStepsSaid:=over
#print axioms proved
end Go.Proofs.YtdpenljjnfmgiaaGreat.profileSteps
