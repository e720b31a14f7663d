/- The row of TopFilter: the law of the plain texts carried to the program. Conditions: none. -/
import Derived.Test.YtbjejlpejjnpnaaGreatRows
import Derived.Test.YtbjejlpejjnpnaaGreatJLxWtop
import Derived.Test.YtbjejlpejjnpnaaGreatETsF
namespace Go.Proofs.YtbjejlpejjnpnaaGreat.topFilter
open Go.ChangeShapes Go.WideShapes Go.ChangeAt Go.RowKit
theorem own:ownKnob Tryz.prog.godebug=none:=by kernel_rfl
theorem lifted (os:Os) (started:os.Started) (H:Type) (enc:TypeId×Value→H):
 ReturnsInHanded {} Tryz.checked os 3 .any (Rows.topFilterSpec.pre6 enc Tryz.prog Tryz.f3 Rows.topFilterRow.domain false) (Rows.topFilterSpec.post enc Tryz.prog Tryz.f3 false true false false):=
 Tr.law_lifted (C:=Tryz.checked) (S:=Q.F186S) (θ:=fun n=>Q.tyTab.lookup n) own started (by kernel_rfl) Tryz.func3
  (ChangeSpec.witness6 (enc:=enc) (C:=Tryz.checked) false ⟨#[], #[.agg #[.slice none 0 0,.slice none 0 0,.slice none 0 0,.slice none 0 0,.slice none 0 0,.slice none 0 0,.int .i64 0,.int .i64 0,.int .i64 0],.agg #[.int .i64 0,.int .i64 0,.int .i64 0,.bool false,.int .i64 0,.int .i64 0,.bool false,.bool false,.int .i64 0,.bool false]],[]⟩ 8 (by kernel_rfl) (by kernel_rfl) (by kernel_rfl) (by kernel_rfl))
  (by kernel_rfl) (by kernel_rfl) rfl (fun ds h=>by
    match ds,h with
    |[d1,d2],_=>rfl)
  (by kernel_rfl) (Tryz.underlying4) Q.F186_ok (Tr.typesOk_of (E:=Tr.mkE Q.tyTab Q.mapTab Q.pkTab [] [] [] 0 Q.bdTab) Q.tab_ok rfl rfl rfl rfl fun _ h=>absurd (show false=true from h) (by decide)).ty (by kernel_rfl)
  rfl (fun x hx=>⟨true,Q.filterP x hx,fun w I js rv h=>Tr.rv_bool h⟩)
set_option maxHeartbeats 8000000 in
theorem ZpA:joinedFacts Tryz.pinned.checked.prog 3 Tryz.f3 Rows.topFilterSpec Rows.topFilterRow=true:=by
 unfold joinedFacts
 simp only[Bool.and_eq_true]
 repeat' apply And.intro
 all_goals (as_aux_lemma=>kernel_rfl)
theorem over:Rows.topFilterRow.holds Tryz.pinned (OpenSpec.ofChange Rows.topFilterSpec):=
 OpenClaim.holds_of_wide 3 Tryz.f3 rfl rfl rfl rfl rfl rfl rfl ⟨rfl,rfl,rfl,rfl,rfl⟩ rfl rfl rfl rfl rfl (by kernel_rfl) Tryz.func3 ZpA
  (of_decide_eq_true (by kernel_rfl)) (by unfold Func.isWrapper;first|(rw[if_pos (by decide+kernel)];kernel_rfl) |(rw[if_neg (by decide+kernel)];exact⟨rfl,rfl⟩))
  (fun os started H enc _=>lifted os started H enc)
theorem proved:Rows.TopFilterSaid:=over
#print axioms proved
end Go.Proofs.YtbjejlpejjnpnaaGreat.topFilter
