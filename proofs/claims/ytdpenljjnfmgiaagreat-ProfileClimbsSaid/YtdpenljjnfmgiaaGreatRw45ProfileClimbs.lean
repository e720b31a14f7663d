/- The row of ProfileClimbs: the law of the plain texts carried to the program. Conditions: none. -/
import Derived.Test.YtdpenljjnfmgiaaGreatRows
import Derived.Test.YtdpenljjnfmgiaaGreatJLxKit
import Derived.Test.YtdpenljjnfmgiaaGreatTsG
namespace Go.Proofs.YtdpenljjnfmgiaaGreat.profileClimbs
open Go.ChangeShapes Go.WideShapes Go.ChangeAt Go.RowKit
theorem own:ownKnob Tryz.prog.godebug=none:=by kernel_rfl
theorem lifted (os:Os) (started:os.Started) (H:Type) (enc:TypeId×Value→H):
  ReturnsInHanded {} Tryz.checked os 11 .any (Rows.profileClimbsSpec.pre6 enc Tryz.prog Tryz.f11 Rows.profileClimbsRow.domain false) (Rows.profileClimbsSpec.post enc Tryz.prog Tryz.f11 false true false false):=
 Tr.law_lifted (C:=Tryz.checked) (S:=Q.F47S) (θ:=fun n=>Q.tyTab.lookup n) own started (by kernel_rfl) Tryz.func11
  (ChangeSpec.witness6 (enc:=enc) (C:=Tryz.checked) false ⟨#[], #[.slice none 0 0, .int .i64 0],[]⟩ 8 (by kernel_rfl) (by kernel_rfl) (by kernel_rfl) (by kernel_rfl))
  (by kernel_rfl) (by kernel_rfl) rfl (fun ds h=>by
   match ds,h with
   | [d1,d2],_=>rfl)
  (by kernel_rfl) (Tryz.underlying4) Q.F47_ok (Tr.typesOk_of (E:=Tr.mkE Q.tyTab Q.mapTab Q.pkTab [] [] [] 0 Q.bdTab) Q.tab_ok rfl rfl rfl rfl fun _ h=>absurd (show false=true from h) (by decide)).ty (by kernel_rfl)
  rfl (fun x hx=>⟨true,Q.climbsP x hx,fun w I js rv h=>Tr.rv_bool h⟩)
theorem ZnC:joinedFacts Tryz.pinned.checked.prog 11 Tryz.f11 Rows.profileClimbsSpec Rows.profileClimbsRow=true:=by kernel_rfl
theorem over:Rows.profileClimbsRow.holds Tryz.pinned (OpenSpec.ofChange Rows.profileClimbsSpec):=
 OpenClaim.holds_of_wide 11 Tryz.f11 rfl rfl rfl rfl rfl rfl rfl ⟨rfl,rfl,rfl,rfl,rfl⟩ rfl rfl rfl rfl rfl (by kernel_rfl) Tryz.func11 ZnC
  (of_decide_eq_true (by kernel_rfl)) (by unfold Func.isWrapper;first| (rw[if_pos (by decide+kernel)];kernel_rfl) | (rw[if_neg (by decide+kernel)];exact⟨rfl,rfl⟩))
  (fun os started H enc _=>lifted os started H enc)
theorem proved:Rows.ProfileClimbsSaid:=over
#print axioms proved
end Go.Proofs.YtdpenljjnfmgiaaGreat.profileClimbs
