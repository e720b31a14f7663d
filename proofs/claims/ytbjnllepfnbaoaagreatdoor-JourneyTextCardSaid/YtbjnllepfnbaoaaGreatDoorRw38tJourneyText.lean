/- The row of JourneyText: the law of the plain texts carried to the program. Conditions: none. -/
import Derived.Test.YtbjnllepfnbaoaaGreatDoorRows
import Derived.Test.YtbjnllepfnbaoaaGreatDoorCards
import Derived.Test.YtbjnllepfnbaoaaGreatDoorTie
import Derived.Test.YtbjnllepfnbaoaaGreatDoorLx38t
import Derived.Test.YtbjnllepfnbaoaaGreatDoorTsI
namespace Go.Proofs.YtbjnllepfnbaoaaGreatDoor.journeyText
open Go.ChangeShapes Go.WideShapes Go.ChangeAt Go.RowKit
theorem own : ownKnob Tryz.prog.godebug = none := by kernel_rfl
theorem plain (W : World) : laidMetH Tryz.prog Rows.journeyTextRow.laid W = laidMet Tryz.prog Rows.journeyTextRow.laid W := MakeChecks.laidMetH_plain _ _ _ (by kernel_rfl)
theorem tab (W : World) (h : laidMetH Tryz.prog Rows.journeyTextRow.laid W) : Lib.TabIs Tryz.prog W "internal/strconv.uint64pow10" .u64 Lib.pow10Tab := by
  rw [plain] at h
  have h : laidMet Tryz.prog [("math/bits.deBruijn32tab", Rows.laid_math_bits_deBruijn32tab), ("math/bits.deBruijn64tab", Rows.laid_math_bits_deBruijn64tab), ("internal/strconv.uint64pow10", Rows.laid_internal_strconv_uint64pow10)] W := h
  exact Tr.tab_of (t := 145) (e := 74) (by kernel_rfl) (Tryz.underlying145) (Tryz.underlying74) (by kernel_rfl) (by kernel_rfl) (by kernel_rfl) h.tail.tail
set_option maxRecDepth 100000 in
theorem lifted (os : Os) (started : os.Started) (H : Type) (enc : TypeId × Value → H) :
    ReturnsInHanded {} Tryz.checked os 3 .any (fun w args => (Rows.journeyTextSpec.pre enc Tryz.prog Tryz.f3 [] false w args ∧ laidMetH Tryz.prog Rows.journeyTextRow.laid w) ∧ sizedMet enc Tryz.prog Tryz.f3 (OpenSpec.ofChange Rows.journeyTextSpec) false w args)
      (Rows.journeyTextSpec.post enc Tryz.prog Tryz.f3 false true false false) :=
  Tr.law_lifted_laid (C := Tryz.checked) (S := Q.F30S) (θ := fun n => Q.tyTab.lookup n) Rows.journeyTextRow.laid own started (by kernel_rfl) Tryz.func3
    (ChangeSpec.witness_shaped (enc := enc) (C := Tryz.checked) (os := os) (X := fun w _ => laidMetH Tryz.prog Rows.journeyTextRow.laid w) false (World.laidAll Tryz.prog os Rows.journeyTextRow.laid) #[.agg #[.slice none 0 0, .slice none 0 0, .slice none 0 0, .slice none 0 0, .slice none 0 0, .slice none 0 0, .int .i64 0, .int .i64 0, .int .i64 0], .agg #[.slice none 0 0]] 8 (World.laidAll_os _ _ _)
      (World.shaped_of_ZipB (by kernel_rfl) (by kernel_rfl)) (by kernel_rfl) (by kernel_rfl) (by kernel_rfl) (by rw [plain]; exact laidMet_laidAll _ (by kernel_rfl) (by kernel_rfl)))
    (by kernel_rfl) (by kernel_rfl) rfl (fun ds h => by
      match ds, h with
      | [d1, d2], _ => rfl)
    (by kernel_rfl) (Tryz.underlying4) Q.F30_ok (Tr.typesOk_of (E := Tr.mkE Q.tyTab Q.mapTab Q.pkTab [] [] [] 0 Q.bdTab) Q.tab_ok rfl rfl rfl rfl).ty (by kernel_rfl)
    (fun W h _ _ => tab W h) (fun x hx => ⟨true, Q.textP x hx, fun w I js rv h => Tr.rv_bool h⟩)
theorem over : Rows.journeyTextRow.holds Tryz.pinned (OpenSpec.ofChange Rows.journeyTextSpec) :=
  OpenClaim.holds_of_wide 3 Tryz.f3 rfl rfl rfl rfl rfl rfl rfl ⟨rfl, rfl, rfl, rfl, rfl⟩ rfl rfl rfl rfl rfl (by kernel_rfl) Tryz.func3 (by kernel_rfl)
    (of_decide_eq_true (by kernel_rfl)) (by unfold Func.isWrapper; first | (rw [if_pos (by decide +kernel)]; kernel_rfl) | (rw [if_neg (by decide +kernel)]; exact ⟨rfl, rfl⟩))
    (fun os started H enc _ => lifted os started H enc)
theorem proved : Rows.JourneyTextCardSaid :=
  Claim7.holds_tied_plain_at .later [] [.data, .data, .data] true (true, "2d632201cb4667ff917c5bae349189d3e6b9d72b27b63c4c88052f257272fa47") false over (fun _ h => by cases h) (by kernel_rfl) (fun _ h => by cases h) journeyText_row_tie rfl ⟨rfl, rfl⟩ (by kernel_rfl) rfl
    (fun f fn hf hfn => by
      obtain rfl : f = 3 := Option.some.inj ((show Tryz.prog.funcNamed "transit/transitlaw38.JourneyText" = some 3 by kernel_rfl).symm.trans hf) |>.symm
      obtain rfl : fn = Tryz.f3 := (Option.some.inj (Tryz.func3.symm.trans hfn)).symm
      exact ⟨by kernel_rfl, fun j t ht => by
        rw [Tryz.params3] at ht
        have hm := Array.mem_of_getElem? ht
        have hall : (Tryz.f3.params.toList.all fun u => !Tryz.prog.wantsStandIn u) = true := by kernel_rfl
        have hm' : t ∈ Tryz.f3.params.toList := by rw [Tryz.params3]; simpa using hm
        exact (show Tryz.prog.wantsStandIn t = false by simpa using List.all_eq_true.1 hall t hm')⟩)
    (by kernel_rfl)
#print axioms proved
end Go.Proofs.YtbjnllepfnbaoaaGreatDoor.journeyText
