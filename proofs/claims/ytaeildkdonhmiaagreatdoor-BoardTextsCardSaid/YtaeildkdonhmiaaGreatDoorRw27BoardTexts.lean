/- The row of BoardTexts: the law of the plain texts carried to the program. Conditions: none. -/
import Derived.Test.YtaeildkdonhmiaaGreatDoorRows
import Derived.Test.YtaeildkdonhmiaaGreatDoorCards
import Derived.Test.YtaeildkdonhmiaaGreatDoorTie
import Derived.Test.YtaeildkdonhmiaaGreatDoorLx27t
import Derived.Test.YtaeildkdonhmiaaGreatDoorTsI
namespace Go.Proofs.YtaeildkdonhmiaaGreatDoor.boardTexts
open Go.ChangeShapes Go.WideShapes Go.ChangeAt Go.RowKit
theorem own : ownKnob Tryz.prog.godebug = none := by kernel_rfl
theorem plain (W : World) : laidMetH Tryz.prog Rows.boardTextsRow.laid W = laidMet Tryz.prog Rows.boardTextsRow.laid W := MakeChecks.laidMetH_plain _ _ _ (by kernel_rfl)
theorem tab (W : World) (h : laidMetH Tryz.prog Rows.boardTextsRow.laid W) : Lib.TabIs Tryz.prog W "internal/strconv.uint64pow10" .u64 Lib.pow10Tab := by
  rw [plain] at h
  have h : laidMet Tryz.prog [("math/bits.deBruijn32tab", Rows.laid_math_bits_deBruijn32tab), ("math/bits.deBruijn64tab", Rows.laid_math_bits_deBruijn64tab), ("internal/strconv.uint64pow10", Rows.laid_internal_strconv_uint64pow10)] W := h
  exact Tr.tab_of (t := 169) (e := 152) (by kernel_rfl) (Tryz.underlying169) (Tryz.underlying152) (by kernel_rfl) (by kernel_rfl) (by kernel_rfl) h.tail.tail
set_option maxRecDepth 100000 in
theorem lifted (os : Os) (started : os.Started) (H : Type) (enc : TypeId × Value → H) :
    ReturnsInHanded {} Tryz.checked os 6 .any (fun w args => (Rows.boardTextsSpec.pre enc Tryz.prog Tryz.f6 [] false w args ∧ laidMetH Tryz.prog Rows.boardTextsRow.laid w) ∧ sizedMet enc Tryz.prog Tryz.f6 (OpenSpec.ofChange Rows.boardTextsSpec) false w args)
      (Rows.boardTextsSpec.post enc Tryz.prog Tryz.f6 false true false false) :=
  Tr.law_lifted_laid (C := Tryz.checked) (S := Q.F39S) (θ := fun n => Q.tyTab.lookup n) Rows.boardTextsRow.laid own started (by kernel_rfl) Tryz.func6
    (ChangeSpec.witness_shaped (enc := enc) (C := Tryz.checked) (os := os) (X := fun w _ => laidMetH Tryz.prog Rows.boardTextsRow.laid w) false (World.laidAll Tryz.prog os Rows.boardTextsRow.laid) #[.agg #[.slice none 0 0, .slice none 0 0, .slice none 0 0, .slice none 0 0, .slice none 0 0, .slice none 0 0, .int .i64 0, .int .i64 0, .int .i64 0], .slice none 0 0] 8 (World.laidAll_os _ _ _)
      (World.shaped_of_ZipB (by kernel_rfl) (by kernel_rfl)) (by kernel_rfl) (by kernel_rfl) (by kernel_rfl) (by rw [plain]; exact laidMet_laidAll _ (by kernel_rfl) (by kernel_rfl)))
    (by kernel_rfl) (by kernel_rfl) rfl (fun ds h => by
      match ds, h with
      | [d1, d2], _ => rfl)
    (by kernel_rfl) (Tryz.underlying4) Q.F39_ok (Tr.typesOk_of (E := Tr.mkE Q.tyTab Q.mapTab Q.pkTab [] [] [] 0 Q.bdTab) Q.tab_ok rfl rfl rfl rfl).ty (by kernel_rfl)
    (fun W h _ _ => tab W h) (fun x hx => ⟨true, Q.textsP x hx, fun w I js rv h => Tr.rv_bool h⟩)
theorem over : Rows.boardTextsRow.holds Tryz.pinned (OpenSpec.ofChange Rows.boardTextsSpec) :=
  OpenClaim.holds_of_wide 6 Tryz.f6 rfl rfl rfl rfl rfl rfl rfl ⟨rfl, rfl, rfl, rfl, rfl⟩ rfl rfl rfl rfl rfl (by kernel_rfl) Tryz.func6 (by kernel_rfl)
    (of_decide_eq_true (by kernel_rfl)) (by unfold Func.isWrapper; first | (rw [if_pos (by decide +kernel)]; kernel_rfl) | (rw [if_neg (by decide +kernel)]; exact ⟨rfl, rfl⟩))
    (fun os started H enc _ => lifted os started H enc)
theorem proved : Rows.BoardTextsCardSaid :=
  Claim7.holds_tied_plain_at .later [] [.data, .data, .data] true (true, "c522a24cbd7cec882e62b38bb701b2d1d7526c44bc181dbc9204072cf86a3109") false over (fun _ h => by cases h) (by kernel_rfl) (fun _ h => by cases h) boardTexts_row_tie rfl ⟨rfl, rfl⟩ (by kernel_rfl) rfl
    (fun f fn hf hfn => by
      obtain rfl : f = 6 := Option.some.inj ((show Tryz.prog.funcNamed "transit/transitlaw27.BoardTexts" = some 6 by kernel_rfl).symm.trans hf) |>.symm
      obtain rfl : fn = Tryz.f6 := (Option.some.inj (Tryz.func6.symm.trans hfn)).symm
      exact ⟨by kernel_rfl, fun j t ht => by
        rw [Tryz.params6] at ht
        have hm := Array.mem_of_getElem? ht
        have hall : (Tryz.f6.params.toList.all fun u => !Tryz.prog.wantsStandIn u) = true := by kernel_rfl
        have hm' : t ∈ Tryz.f6.params.toList := by rw [Tryz.params6]; simpa using hm
        exact (show Tryz.prog.wantsStandIn t = false by simpa using List.all_eq_true.1 hall t hm')⟩)
    (by kernel_rfl)
#print axioms proved
end Go.Proofs.YtaeildkdonhmiaaGreatDoor.boardTexts
