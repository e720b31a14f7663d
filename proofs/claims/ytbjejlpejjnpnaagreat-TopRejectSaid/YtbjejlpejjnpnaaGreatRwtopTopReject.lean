/- The row of TopReject: the law of the plain texts carried to the program. Conditions: none. -/
import Derived.Test.YtbjejlpejjnpnaaGreatRows
import Derived.Test.YtbjejlpejjnpnaaGreatJLxSr4
import Derived.Test.YtbjejlpejjnpnaaGreatETsF
namespace Go.Proofs.YtbjejlpejjnpnaaGreat.topReject
open Go.ChangeShapes Go.WideShapes Go.ChangeAt Go.RowKit
theorem own:ownKnob Tryz.prog.godebug=none:=by kernel_rfl
theorem lifted (os:Os) (started:os.Started) (H:Type) (enc:TypeId×Value→H):
 ReturnsInHanded {} Tryz.checked os 4 .any (Rows.topRejectSpec.pre6 enc Tryz.prog Tryz.f4 Rows.topRejectRow.domain false) (Rows.topRejectSpec.post enc Tryz.prog Tryz.f4 false true false false):=
 Tr.law_lifted (C:=Tryz.checked) (S:=Q.F204S) (θ:=fun n=>Q.tyTab.lookup n) own started (by kernel_rfl) Tryz.func4
  (ChangeSpec.witness6 (enc:=enc) (C:=Tryz.checked) false ⟨#[], #[.agg #[.slice none 0 0,.slice none 0 0,.slice none 0 0,.slice none 0 0,.slice none 0 0,.slice none 0 0,.int .i64 0,.int .i64 0,.int .i64 0],.agg #[.int .i64 0,.int .i64 0,.int .i64 0,.bool false,.int .i64 0,.int .i64 0,.bool false,.bool false,.int .i64 0,.bool false],.agg #[.slice none 0 0]],[]⟩ 8 (by kernel_rfl) (by kernel_rfl) (by kernel_rfl) (by kernel_rfl))
  (by kernel_rfl) (by kernel_rfl) rfl (fun ds h=>by
    match ds,h with
    |[d1,d2,d3],_=>rfl)
  (by kernel_rfl) (Tryz.underlying4) Q.F204_ok (Tr.typesOk_of (E:=Tr.mkE Q.tyTab Q.mapTab Q.pkTab [] [] [] 0 Q.bdTab) Q.tab_ok rfl rfl rfl rfl fun _ h=>absurd (show false=true from h) (by decide)).ty (by kernel_rfl)
  rfl (fun x hx=>⟨true,Q.rejectP x hx,fun w I js rv h=>Tr.rv_bool h⟩)
set_option maxHeartbeats 8000000 in
theorem Zpw:joinedFacts Tryz.pinned.checked.prog 4 Tryz.f4 Rows.topRejectSpec Rows.topRejectRow=true:=by
 unfold joinedFacts
 simp only[Bool.and_eq_true]
 repeat' apply And.intro
 all_goals (as_aux_lemma=>kernel_rfl)
theorem over:Rows.topRejectRow.holds Tryz.pinned (OpenSpec.ofChange Rows.topRejectSpec):=
 OpenClaim.holds_of_wide 4 Tryz.f4 rfl rfl rfl rfl rfl rfl rfl ⟨rfl,rfl,rfl,rfl,rfl⟩ rfl rfl rfl rfl rfl (by kernel_rfl) Tryz.func4 Zpw
  (of_decide_eq_true (by kernel_rfl)) (by unfold Func.isWrapper;first|(rw[if_pos (by decide+kernel)];kernel_rfl) |(rw[if_neg (by decide+kernel)];exact⟨rfl,rfl⟩))
  (fun os started H enc _=>lifted os started H enc)
theorem proved:Rows.TopRejectSaid:=over
#print axioms proved
end Go.Proofs.YtbjejlpejjnpnaaGreat.topReject
