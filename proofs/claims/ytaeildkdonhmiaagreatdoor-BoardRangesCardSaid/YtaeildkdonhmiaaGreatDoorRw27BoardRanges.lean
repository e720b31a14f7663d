/- The row of BoardRanges: the law of the plain texts carried to the program. Conditions: none. -/
import Derived.Test.YtaeildkdonhmiaaGreatDoorRows
import Derived.Test.YtaeildkdonhmiaaGreatDoorCards
import Derived.Test.YtaeildkdonhmiaaGreatDoorTie
import Derived.Test.YtaeildkdonhmiaaGreatDoorLxJ27
import Derived.Test.YtaeildkdonhmiaaGreatDoorTsI
namespace Go.Proofs.YtaeildkdonhmiaaGreatDoor.boardRanges
open Go.ChangeShapes Go.WideShapes Go.ChangeAt Go.RowKit
theorem own : ownKnob Tryz.prog.godebug = none := by kernel_rfl
theorem plain (W : World) : laidMetH Tryz.prog Rows.boardRangesRow.laid W = laidMet Tryz.prog Rows.boardRangesRow.laid W := MakeChecks.laidMetH_plain _ _ _ (by kernel_rfl)
theorem tab (W : World) (h : laidMetH Tryz.prog Rows.boardRangesRow.laid W) : Lib.TabIs Tryz.prog W "internal/strconv.uint64pow10" .u64 Lib.pow10Tab := by
  rw [plain] at h
  have h : laidMet Tryz.prog [("math/bits.deBruijn32tab", Rows.laid_math_bits_deBruijn32tab), ("math/bits.deBruijn64tab", Rows.laid_math_bits_deBruijn64tab), ("internal/strconv.uint64pow10", Rows.laid_internal_strconv_uint64pow10)] W := h
  exact Tr.tab_of (t := 169) (e := 152) (by kernel_rfl) (Tryz.underlying169) (Tryz.underlying152) (by kernel_rfl) (by kernel_rfl) (by kernel_rfl) h.tail.tail
set_option maxRecDepth 100000 in
theorem lifted (os : Os) (started : os.Started) (H : Type) (enc : TypeId × Value → H) :
    ReturnsInHanded {} Tryz.checked os 8 .any (fun w args => (Rows.boardRangesSpec.pre enc Tryz.prog Tryz.f8 [] false w args ∧ laidMetH Tryz.prog Rows.boardRangesRow.laid w) ∧ sizedMet enc Tryz.prog Tryz.f8 (OpenSpec.ofChange Rows.boardRangesSpec) false w args)
      (Rows.boardRangesSpec.post enc Tryz.prog Tryz.f8 false true false false) :=
  Tr.law_lifted_laid (C := Tryz.checked) (S := Q.F38S) (θ := fun n => Q.tyTab.lookup n) Rows.boardRangesRow.laid own started (by kernel_rfl) Tryz.func8
    (ChangeSpec.witness_shaped (enc := enc) (C := Tryz.checked) (os := os) (X := fun w _ => laidMetH Tryz.prog Rows.boardRangesRow.laid w) false (World.laidAll Tryz.prog os Rows.boardRangesRow.laid) #[.agg #[.slice none 0 0, .slice none 0 0, .slice none 0 0, .slice none 0 0, .slice none 0 0, .slice none 0 0, .int .i64 0, .int .i64 0, .int .i64 0], .int .i64 0, .agg #[.int .i64 0, .int .i64 0, .int .i64 0]] 8 (World.laidAll_os _ _ _)
      (World.shaped_of_ZipB (by kernel_rfl) (by kernel_rfl)) (by kernel_rfl) (by kernel_rfl) (by kernel_rfl) (by rw [plain]; exact laidMet_laidAll _ (by kernel_rfl) (by kernel_rfl)))
    (by kernel_rfl) (by kernel_rfl) rfl (fun ds h => by
      match ds, h with
      | [d1, d2, d3], _ => rfl)
    (by kernel_rfl) (Tryz.underlying4) Q.F38_ok (Tr.typesOk_of (E := Tr.mkE Q.tyTab Q.mapTab Q.pkTab [] [] [] 0 Q.bdTab) Q.tab_ok rfl rfl rfl rfl).ty (by kernel_rfl)
    (fun W h _ _ => tab W h) (fun x hx => ⟨true, Q.rangesP x hx, fun w I js rv h => Tr.rv_bool h⟩)
theorem over : Rows.boardRangesRow.holds Tryz.pinned (OpenSpec.ofChange Rows.boardRangesSpec) :=
  OpenClaim.holds_of_wide 8 Tryz.f8 rfl rfl rfl rfl rfl rfl rfl ⟨rfl, rfl, rfl, rfl, rfl⟩ rfl rfl rfl rfl rfl (by kernel_rfl) Tryz.func8 (by kernel_rfl)
    (of_decide_eq_true (by kernel_rfl)) (by unfold Func.isWrapper; first | (rw [if_pos (by decide +kernel)]; kernel_rfl) | (rw [if_neg (by decide +kernel)]; exact ⟨rfl, rfl⟩))
    (fun os started H enc _ => lifted os started H enc)
theorem proved : Rows.BoardRangesCardSaid :=
  Claim7.holds_tied_plain_at .later [] [.data, .data, .data] true (true, "c522a24cbd7cec882e62b38bb701b2d1d7526c44bc181dbc9204072cf86a3109") false over (fun _ h => by cases h) (by kernel_rfl) (fun _ h => by cases h) boardRanges_row_tie rfl ⟨rfl, rfl⟩ (by kernel_rfl) rfl
    (fun f fn hf hfn => by
      obtain rfl : f = 8 := Option.some.inj ((show Tryz.prog.funcNamed "transit/transitlaw27.BoardRanges" = some 8 by kernel_rfl).symm.trans hf) |>.symm
      obtain rfl : fn = Tryz.f8 := (Option.some.inj (Tryz.func8.symm.trans hfn)).symm
      exact ⟨by kernel_rfl, fun j t ht => by
        rw [Tryz.params8] at ht
        have hm := Array.mem_of_getElem? ht
        have hall : (Tryz.f8.params.toList.all fun u => !Tryz.prog.wantsStandIn u) = true := by kernel_rfl
        have hm' : t ∈ Tryz.f8.params.toList := by rw [Tryz.params8]; simpa using hm
        exact (show Tryz.prog.wantsStandIn t = false by simpa using List.all_eq_true.1 hall t hm')⟩)
    (by kernel_rfl)
#print axioms proved
end Go.Proofs.YtaeildkdonhmiaaGreatDoor.boardRanges
