/- The row of ProfileWindow: the law of the plain texts carried to the program. Conditions: none. -/
import Derived.Test.YtdpenljjnfmgiaaGreatRows
import Derived.Test.YtdpenljjnfmgiaaGreatJLxAllHP
import Derived.Test.YtdpenljjnfmgiaaGreatETsF
namespace Go.Proofs.YtdpenljjnfmgiaaGreat.profileWindow
open Go.ChangeShapes Go.WideShapes Go.ChangeAt Go.RowKit
theorem own:ownKnob Tryz.prog.godebug=none:=by kernel_rfl
theorem lifted (os:Os) (started:os.Started) (H:Type) (enc:TypeId×Value→H):
 ReturnsInHanded {} Tryz.checked os 4 .any (Rows.profileWindowSpec.pre6 enc Tryz.prog Tryz.f4 Rows.profileWindowRow.domain false) (Rows.profileWindowSpec.post enc Tryz.prog Tryz.f4 false true false false):=
 Tr.law_lifted (C:=Tryz.checked) (S:=Q.F58S) (θ:=fun n=>Q.tyTabH.lookup n) own started (by kernel_rfl) Tryz.func4
  (ChangeSpec.witness6 (enc:=enc) (C:=Tryz.checked) false ⟨#[], #[.agg #[.slice none 0 0,.slice none 0 0,.slice none 0 0,.slice none 0 0,.slice none 0 0,.slice none 0 0,.int .i64 0,.int .i64 0,.int .i64 0],.agg #[.int .i64 0,.int .i64 0,.int .i64 0,.bool false,.int .i64 0,.int .i64 0,.bool false,.bool false,.int .i64 0,.bool false],.int .i64 0],[]⟩ 8 (by kernel_rfl) (by kernel_rfl) (by kernel_rfl) (by kernel_rfl))
  (by kernel_rfl) (by kernel_rfl) rfl (fun ds h=>by
    match ds,h with
    |[d1,d2,d3],_=>rfl)
  (by kernel_rfl) (Tryz.underlying4) Q.F58_ok (Tr.typesOk_of (E:=Tr.mkE Q.tyTabH Q.mapTabH Q.pkTabH [] [] [] 0 Q.bdTabH) Q.tab_okH rfl rfl rfl rfl fun _ h=>absurd (show false=true from h) (by decide)).ty (by kernel_rfl)
  rfl (fun x hx=>⟨true,Q.windowP x hx,fun w I js rv h=>Tr.rv_bool h⟩)
set_option maxHeartbeats 8000000 in
theorem ZtQ:joinedFacts Tryz.pinned.checked.prog 4 Tryz.f4 Rows.profileWindowSpec Rows.profileWindowRow=true:=by
 unfold joinedFacts
 simp only[Bool.and_eq_true]
 repeat' apply And.intro
 all_goals (as_aux_lemma=>kernel_rfl)
theorem over:Rows.profileWindowRow.holds Tryz.pinned (OpenSpec.ofChange Rows.profileWindowSpec):=
 OpenClaim.holds_of_wide 4 Tryz.f4 rfl rfl rfl rfl rfl rfl rfl ⟨rfl,rfl,rfl,rfl,rfl⟩ rfl rfl rfl rfl rfl (by kernel_rfl) Tryz.func4 ZtQ
  (of_decide_eq_true (by kernel_rfl)) (by unfold Func.isWrapper;first|(rw[if_pos (by decide+kernel)];kernel_rfl) |(rw[if_neg (by decide+kernel)];exact⟨rfl,rfl⟩))
  (fun os started H enc _=>lifted os started H enc)
theorem proved:Rows.ProfileWindowSaid:=over
#print axioms proved
end Go.Proofs.YtdpenljjnfmgiaaGreat.profileWindow
