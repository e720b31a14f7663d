/- The row of RoundsFewest: the law of the plain texts carried to the program. Conditions: none. -/
import Derived.Test.YtibiblkamaajeaaGreatRows
import Derived.Test.YtibiblkamaajeaaGreatJLxLine41
import Derived.Test.YtibiblkamaajeaaGreatTsG
namespace Go.Proofs.YtibiblkamaajeaaGreat.roundsFewest
open Go.ChangeShapes Go.WideShapes Go.ChangeAt Go.RowKit
theorem own:ownKnob Tryz.prog.godebug=none:=by kernel_rfl
theorem lifted (os:Os) (started:os.Started) (H:Type) (enc:TypeId×Value→H):
  ReturnsInHanded {} Tryz.checked os 6 .any (Rows.roundsFewestSpec.pre6 enc Tryz.prog Tryz.f6 Rows.roundsFewestRow.domain false) (Rows.roundsFewestSpec.post enc Tryz.prog Tryz.f6 false true false false):=
 Tr.law_lifted (C:=Tryz.checked) (S:=Q.F26S) (θ:=fun n=>Q.tyTab.lookup n) own started (by kernel_rfl) Tryz.func6
  (ChangeSpec.witness6 (enc:=enc) (C:=Tryz.checked) false ⟨#[], #[.agg #[.slice none 0 0, .slice none 0 0, .slice none 0 0, .slice none 0 0, .slice none 0 0, .slice none 0 0, .int .i64 0, .int .i64 0, .int .i64 0], .agg #[.int .i64 0, .int .i64 0, .int .i64 0, .bool false, .int .i64 0, .int .i64 0, .bool false, .bool false, .int .i64 0, .bool false], .int .i64 0],[]⟩ 8 (by kernel_rfl) (by kernel_rfl) (by kernel_rfl) (by kernel_rfl))
  (by kernel_rfl) (by kernel_rfl) rfl (fun ds h=>by
   match ds,h with
   | [d1,d2,d3],_=>rfl)
  (by kernel_rfl) (Tryz.underlying4) Q.F26_ok (Tr.typesOk_of (E:=Tr.mkE Q.tyTab Q.mapTab Q.pkTab [] [] [] 0 Q.bdTab) Q.tab_ok rfl rfl rfl rfl).ty (by kernel_rfl)
  rfl (fun x hx=>⟨true,Q.fewest41P x hx,fun w I js rv h=>Tr.rv_bool h⟩)
theorem over:Rows.roundsFewestRow.holds Tryz.pinned (OpenSpec.ofChange Rows.roundsFewestSpec):=
 OpenClaim.holds_of_wide 6 Tryz.f6 rfl rfl rfl rfl rfl rfl rfl ⟨rfl,rfl,rfl,rfl,rfl⟩ rfl rfl rfl rfl rfl (by kernel_rfl) Tryz.func6 (by kernel_rfl)
  (of_decide_eq_true (by kernel_rfl)) (by unfold Func.isWrapper;first| (rw[if_pos (by decide+kernel)];kernel_rfl) | (rw[if_neg (by decide+kernel)];exact⟨rfl,rfl⟩))
  (fun os started H enc _=>lifted os started H enc)
theorem proved:Rows.RoundsFewestSaid:=over
#print axioms proved
end Go.Proofs.YtibiblkamaajeaaGreat.roundsFewest
