/- The functions of the program as functions of Lean, and that the program computes them; printed by a program of mine. Conditions: none. -/
import Derived.Test.YtbjnllepfnbaoaaFin38ra
open Tr Go Go.Proofs
namespace Q
noncomputable def F_slices_pdqsortCmpFunc_api_Footpath_X_footpath_closure_2 : (List (El Y128)) → (El Y3) → (El Y3) → (El Y3) → (Unit) → Option (List (El Y128)) := fun a0 a1 a2 a3 a4 =>
  Option.bind
    (Tr.run
      (fun s0 =>
        bif Decidable.decide (Go.IntKind.wrap Go.IntKind.i64 (s0.snd.snd.fst - s0.snd.fst) ≤ (12 : Int)) then
          Option.bind (F_slices_insertionSortCmpFunc_api_Footpath_X_footpath_closure_2 s0.fst s0.snd.fst s0.snd.snd.fst ()) fun x1 => Option.some (Sum.inr x1)
        else
          bif Decidable.decide (s0.snd.snd.snd.fst = (0 : Int)) then Option.none
          else
            Option.bind (bif !s0.snd.snd.snd.snd.fst then Option.none else Option.some s0.snd.snd.snd.fst) fun _ =>
              Option.bind (F_slices_choosePivotCmpFunc_api_Footpath_X_footpath_closure_2 s0.fst s0.snd.fst s0.snd.snd.fst ()) fun x3 =>
                Option.bind (bif Decidable.decide (x3.snd.snd = (2 : Int)) then Option.none else Option.some (x3.snd.fst, x3.snd.snd)) fun x4 =>
                  Option.bind
                    (bif s0.snd.snd.snd.snd.fst then bif s0.snd.snd.snd.snd.snd then Option.some (Decidable.decide (x4.snd = (1 : Int))) else Option.some Bool.false else Option.some Bool.false)
                    fun x5 =>
                    Option.bind
                      (bif x5 then
                        Option.bind (F_slices_partialInsertionSortCmpFunc_api_Footpath_X_footpath_closure_2 x3.fst s0.snd.fst s0.snd.snd.fst ()) fun x6 =>
                          bif x6.snd then Option.some (Sum.inr x6.fst) else Option.some (Sum.inl x6.fst)
                      else Option.some (Sum.inl x3.fst))
                      fun x7 =>
                      Sum.elim
                        (fun y8 =>
                          bif Decidable.decide ((0 : Int) < s0.snd.fst) then
                            Option.bind (Tr.inb (Go.IntKind.wrap Go.IntKind.i64 (s0.snd.fst - (1 : Int))) (List.length y8)) fun x9 =>
                              Option.bind y8[x9]? fun x10 =>
                                Option.bind (Tr.inb x4.fst (List.length y8)) fun x11 =>
                                  Option.bind y8[x11]? fun x12 => Option.bind (F_footpath_closure_2 x10 x12) fun x13 => bif !Decidable.decide (x13 < (0 : Int)) then Option.none else Option.none
                          else Option.none)
                        (fun y14 => Option.some (Sum.inr y14)) x7)
      (a0, a1, a2, a3, Bool.true, Bool.true))
    fun x15 => Option.some x15
abbrev F_slices_pdqsortCmpFunc_api_Footpath_X_footpath_closure_2A : Pats := (.cons (.own Y128 true) (.cons (.pd Y3) (.cons (.pd Y3) (.cons (.pd Y3) (.cons (.fn 81 .nil) .nil)))))
abbrev F_slices_pdqsortCmpFunc_api_Footpath_X_footpath_closure_2R : Pats := .nil
noncomputable def F_slices_pdqsortCmpFunc_api_Footpath_X_footpath_closure_2S : Tr.Spec := { args := F_slices_pdqsortCmpFunc_api_Footpath_X_footpath_closure_2A, res := F_slices_pdqsortCmpFunc_api_Footpath_X_footpath_closure_2R, fns := [81], α := List (El Y128), f := fun x => F_slices_pdqsortCmpFunc_api_Footpath_X_footpath_closure_2 x.1 x.2.1 x.2.2.1 x.2.2.2.1 x.2.2.2.2.1, unp := fun z => ((z, (), (), (), (), ()), ()) }
noncomputable def F_slices_pdqsortCmpFunc_api_Footpath_X_footpath_closure_2E : Env := { ty := fun n => tyTab.lookup n, mty := fun n => mapTab.lookup n, pk := fun n => (pkTab.lookup n).getD 0, rw := fun n => [].contains n, specs := fun n => (([(81, [F_footpath_closure_2S]), (92, [F_slices_insertionSortCmpFunc_api_Footpath_X_footpath_closure_2S]), (95, [F_slices_choosePivotCmpFunc_api_Footpath_X_footpath_closure_2S]), (97, [F_slices_partialInsertionSortCmpFunc_api_Footpath_X_footpath_closure_2S])] : List (Nat × List Tr.Spec)).lookup n).getD [], nt := 148, ks := [] }
noncomputable def F_slices_pdqsortCmpFunc_api_Footpath_X_footpath_closure_2B : Code := match Try.f85.body with | some b => b | none => .skip
def F_slices_pdqsortCmpFunc_api_Footpath_X_footpath_closure_2H : Hint := (.seq .leaf (.seq .leaf (.lp ⟨[(0, (.own Y128 false)), (1, (.pd Y3)), (2, (.pd Y3)), (3, (.pd Y3)), (10, (.pd Y4)), (11, (.pd Y4))], [], [4]⟩ [(.ret, ⟨[(0, (.own Y128 false))], [], []⟩)] (.seq .leaf (.seq .leaf (.seq .leaf (.seq (.seq .leaf (.cnd (some (⟨[], [], [0, 1, 2, 4, 10, 11, 12]⟩, [(.normal, ⟨[(3, (.pd Y3))], [], [0, 1, 2, 4, 10, 11, 12]⟩)])) .leaf .leaf)) (.seq .leaf (.seq (.seq .leaf (.cnd (some (⟨[], [], [0, 1, 2, 3, 4, 10, 11, 12]⟩, [(.normal, ⟨[(13, (.pd Y3)), (14, (.pd Y168))], [], [0, 1, 2, 3, 4, 10, 11, 12]⟩)])) .leaf .leaf)) (.seq (.seq (.reg [(75, Y4)]) (.cnd (some (⟨[], [], [1, 2, 3, 4, 10, 11, 12, 13]⟩, [(.normal, ⟨[(0, (.own Y128 false))], [], [1, 2, 3, 4, 10, 11, 12, 13]⟩), (.ret, ⟨[(0, (.own Y128 false))], [], []⟩)])) .leaf .leaf)) .leaf))))))))))
noncomputable def F_slices_pdqsortCmpFunc_api_Footpath_X_footpath_closure_2V (a0 : List (El Y128)) (a1 : El Y3) (a2 : El Y3) (a3 : El Y3) (a4 : Unit) : Option (List (El Y128)) := evalF F_slices_pdqsortCmpFunc_api_Footpath_X_footpath_closure_2E F_slices_pdqsortCmpFunc_api_Footpath_X_footpath_closure_2B Try.f85.results F_slices_pdqsortCmpFunc_api_Footpath_X_footpath_closure_2H F_slices_pdqsortCmpFunc_api_Footpath_X_footpath_closure_2A F_slices_pdqsortCmpFunc_api_Footpath_X_footpath_closure_2R (fun y => y.1.1) (a0, a1, a2, a3, a4, ())
theorem F_slices_pdqsortCmpFunc_api_Footpath_X_footpath_closure_2_eq (a0 : List (El Y128)) (a1 : El Y3) (a2 : El Y3) (a3 : El Y3) (a4 : Unit) : F_slices_pdqsortCmpFunc_api_Footpath_X_footpath_closure_2V a0 a1 a2 a3 a4 = F_slices_pdqsortCmpFunc_api_Footpath_X_footpath_closure_2 a0 a1 a2 a3 a4 := by kernel_rfl
theorem F_slices_pdqsortCmpFunc_api_Footpath_X_footpath_closure_2_ok : FnOK Try.prog 85 F_slices_pdqsortCmpFunc_api_Footpath_X_footpath_closure_2S := evalF_ok (E := F_slices_pdqsortCmpFunc_api_Footpath_X_footpath_closure_2E) (fn := Try.f85) (body := F_slices_pdqsortCmpFunc_api_Footpath_X_footpath_closure_2B) (hint := F_slices_pdqsortCmpFunc_api_Footpath_X_footpath_closure_2H) (pack := fun y => y.1.1) hmix (typesOk_of tab_ok rfl rfl rfl) (specsOk_of (m := [(81, [F_footpath_closure_2S]), (92, [F_slices_insertionSortCmpFunc_api_Footpath_X_footpath_closure_2S]), (95, [F_slices_choosePivotCmpFunc_api_Footpath_X_footpath_closure_2S]), (97, [F_slices_partialInsertionSortCmpFunc_api_Footpath_X_footpath_closure_2S])]) ⟨⟨F_footpath_closure_2_ok, trivial⟩, ⟨F_slices_insertionSortCmpFunc_api_Footpath_X_footpath_closure_2_ok, trivial⟩, ⟨F_slices_choosePivotCmpFunc_api_Footpath_X_footpath_closure_2_ok, trivial⟩, ⟨F_slices_partialInsertionSortCmpFunc_api_Footpath_X_footpath_closure_2_ok, trivial⟩, trivial⟩ rfl) (by kernel_rfl) (by kernel_rfl) (by kernel_rfl) (by kernel_rfl) (by kernel_rfl) (by kernel_rfl) (fun y => rfl)
  (fun x z h => (F_slices_pdqsortCmpFunc_api_Footpath_X_footpath_closure_2_eq x.1 x.2.1 x.2.2.1 x.2.2.2.1 x.2.2.2.2.1).trans h)
noncomputable def F_slices_SortFunc_api_Footpath_api_Footpath_X_footpath_closure_2 : (List (El Y128)) → (Unit) → Option (List (El Y128)) := fun a0 a1 =>
  Option.bind (F_math_bits_Len (Go.IntKind.wrap Go.IntKind.u64 (↑(List.length a0) : Int))) fun x0 =>
    Option.bind (F_slices_pdqsortCmpFunc_api_Footpath_X_footpath_closure_2 a0 (0 : Int) (↑(List.length a0) : Int) x0 ()) fun x1 => Option.some x1
abbrev F_slices_SortFunc_api_Footpath_api_Footpath_X_footpath_closure_2A : Pats := (.cons (.own Y128 true) (.cons (.fn 81 .nil) .nil))
abbrev F_slices_SortFunc_api_Footpath_api_Footpath_X_footpath_closure_2R : Pats := .nil
noncomputable def F_slices_SortFunc_api_Footpath_api_Footpath_X_footpath_closure_2S : Tr.Spec := { args := F_slices_SortFunc_api_Footpath_api_Footpath_X_footpath_closure_2A, res := F_slices_SortFunc_api_Footpath_api_Footpath_X_footpath_closure_2R, fns := [81], α := List (El Y128), f := fun x => F_slices_SortFunc_api_Footpath_api_Footpath_X_footpath_closure_2 x.1 x.2.1, unp := fun z => ((z, (), ()), ()) }
noncomputable def F_slices_SortFunc_api_Footpath_api_Footpath_X_footpath_closure_2E : Env := { ty := fun n => tyTab.lookup n, mty := fun n => mapTab.lookup n, pk := fun n => (pkTab.lookup n).getD 0, rw := fun n => [].contains n, specs := fun n => (([(81, [F_footpath_closure_2S]), (85, [F_slices_pdqsortCmpFunc_api_Footpath_X_footpath_closure_2S]), (86, [F_math_bits_LenS])] : List (Nat × List Tr.Spec)).lookup n).getD [], nt := 14, ks := [] }
noncomputable def F_slices_SortFunc_api_Footpath_api_Footpath_X_footpath_closure_2B : Code := match Try.f80.body with | some b => b | none => .skip
def F_slices_SortFunc_api_Footpath_api_Footpath_X_footpath_closure_2H : Hint := .leaf
noncomputable def F_slices_SortFunc_api_Footpath_api_Footpath_X_footpath_closure_2V (a0 : List (El Y128)) (a1 : Unit) : Option (List (El Y128)) := evalF F_slices_SortFunc_api_Footpath_api_Footpath_X_footpath_closure_2E F_slices_SortFunc_api_Footpath_api_Footpath_X_footpath_closure_2B Try.f80.results F_slices_SortFunc_api_Footpath_api_Footpath_X_footpath_closure_2H F_slices_SortFunc_api_Footpath_api_Footpath_X_footpath_closure_2A F_slices_SortFunc_api_Footpath_api_Footpath_X_footpath_closure_2R (fun y => y.1.1) (a0, a1, ())
theorem F_slices_SortFunc_api_Footpath_api_Footpath_X_footpath_closure_2_eq (a0 : List (El Y128)) (a1 : Unit) : F_slices_SortFunc_api_Footpath_api_Footpath_X_footpath_closure_2V a0 a1 = F_slices_SortFunc_api_Footpath_api_Footpath_X_footpath_closure_2 a0 a1 := by kernel_rfl
theorem F_slices_SortFunc_api_Footpath_api_Footpath_X_footpath_closure_2_ok : FnOK Try.prog 80 F_slices_SortFunc_api_Footpath_api_Footpath_X_footpath_closure_2S := evalF_ok (E := F_slices_SortFunc_api_Footpath_api_Footpath_X_footpath_closure_2E) (fn := Try.f80) (body := F_slices_SortFunc_api_Footpath_api_Footpath_X_footpath_closure_2B) (hint := F_slices_SortFunc_api_Footpath_api_Footpath_X_footpath_closure_2H) (pack := fun y => y.1.1) hmix (typesOk_of tab_ok rfl rfl rfl) (specsOk_of (m := [(81, [F_footpath_closure_2S]), (85, [F_slices_pdqsortCmpFunc_api_Footpath_X_footpath_closure_2S]), (86, [F_math_bits_LenS])]) ⟨⟨F_footpath_closure_2_ok, trivial⟩, ⟨F_slices_pdqsortCmpFunc_api_Footpath_X_footpath_closure_2_ok, trivial⟩, ⟨F_math_bits_Len_ok, trivial⟩, trivial⟩ rfl) (by kernel_rfl) (by kernel_rfl) (by kernel_rfl) (by kernel_rfl) (by kernel_rfl) (by kernel_rfl) (fun y => rfl)
  (fun x z h => (F_slices_SortFunc_api_Footpath_api_Footpath_X_footpath_closure_2_eq x.1 x.2.1).trans h)
noncomputable def F_footpath_closure_1 : (El Y3) → (El Y3) → (El Y3) → (El Y4) → (List (El Y128)) → Option (List (El Y128)) := fun a0 a1 a2 a3 a4 =>
  Option.bind (bif Decidable.decide ((0 : Int) < a2) then Option.some (Decidable.decide (a2 ≤ (14400 : Int))) else Option.some Bool.false) fun x0 =>
    bif x0 then Option.bind (Tr.guardB (Decidable.decide (List.length a4 + List.length [(a0, a1, a2, a3, ())] ≤ Tr.maxApp))) fun _ => Option.some (a4 ++ [(a0, a1, a2, a3, ())]) else Option.some a4
abbrev F_footpath_closure_1A : Pats := (.cons (.pd Y3) (.cons (.pd Y3) (.cons (.pd Y3) (.cons (.pd Y4) (.cons (.var Y26 (.own Y128 false)) .nil)))))
abbrev F_footpath_closure_1R : Pats := .nil
noncomputable def F_footpath_closure_1S : Tr.Spec := { args := F_footpath_closure_1A, res := F_footpath_closure_1R, fns := [], α := List (El Y128), f := fun x => F_footpath_closure_1 x.1 x.2.1 x.2.2.1 x.2.2.2.1 x.2.2.2.2.1, unp := fun z => (((), (), (), (), z, ()), ()) }
noncomputable def F_footpath_closure_1E : Env := { ty := fun n => tyTab.lookup n, mty := fun n => mapTab.lookup n, pk := fun n => (pkTab.lookup n).getD 0, rw := fun n => [].contains n, specs := fun n => (([] : List (Nat × List Tr.Spec)).lookup n).getD [], nt := 23, ks := [] }
noncomputable def F_footpath_closure_1B : Code := match Try.f79.body with | some b => b | none => .skip
def F_footpath_closure_1H : Hint := (.seq (.reg [(14, Y4)]) .leaf)
noncomputable def F_footpath_closure_1V (a0 : El Y3) (a1 : El Y3) (a2 : El Y3) (a3 : El Y4) (a4 : List (El Y128)) : Option (List (El Y128)) := evalF F_footpath_closure_1E F_footpath_closure_1B Try.f79.results F_footpath_closure_1H F_footpath_closure_1A F_footpath_closure_1R (fun y => y.1.2.2.2.2.1) (a0, a1, a2, a3, a4, ())
theorem F_footpath_closure_1_eq (a0 : El Y3) (a1 : El Y3) (a2 : El Y3) (a3 : El Y4) (a4 : List (El Y128)) : F_footpath_closure_1V a0 a1 a2 a3 a4 = F_footpath_closure_1 a0 a1 a2 a3 a4 := by kernel_rfl
theorem F_footpath_closure_1_ok : FnOK Try.prog 79 F_footpath_closure_1S := evalF_ok (E := F_footpath_closure_1E) (fn := Try.f79) (body := F_footpath_closure_1B) (hint := F_footpath_closure_1H) (pack := fun y => y.1.2.2.2.2.1) hmix (typesOk_of tab_ok rfl rfl rfl) (specsOk_of (m := []) trivial rfl) (by kernel_rfl) (by kernel_rfl) (by kernel_rfl) (by kernel_rfl) (by kernel_rfl) (by kernel_rfl) (fun y => rfl)
  (fun x z h => (F_footpath_closure_1_eq x.1 x.2.1 x.2.2.1 x.2.2.2.1 x.2.2.2.2.1).trans h)
noncomputable def F_footpath_closure : (El Y26) → (El Y3) → Option (El Y26) := fun a0 a1 =>
  Option.bind (F_footpath_distances a0 a1 Bool.false) fun x0 =>
    Option.bind (F_footpath_distances a0 a1 Bool.true) fun x1 =>
      Option.bind
        (Tr.run
          (fun s2 =>
            bif Decidable.decide (s2.snd < (↑(List.length x0) : Int)) then
              Option.bind (Tr.idx x0 s2.snd) fun x3 =>
                Option.bind
                  (Tr.run
                    (fun s4 =>
                      bif Decidable.decide (s4.snd < (↑(List.length x3) : Int)) then
                        Option.bind (Tr.idx x3 s4.snd) fun x5 =>
                          bif Decidable.decide (s2.snd = s4.snd) then Option.some (Sum.inl (s4.fst, Go.IntKind.wrap Go.IntKind.i64 (s4.snd + (1 : Int))))
                          else
                            Option.bind (Tr.idx x1 s2.snd) fun x6 =>
                              Option.bind (Tr.idx x6 s4.snd) fun x7 =>
                                Option.bind (F_footpath_closure_1 s2.snd s4.snd x5 (Decidable.decide (x7 = x5)) s4.fst) fun x8 =>
                                  bif !Decidable.decide (x7 = x5) then
                                    Option.bind (F_footpath_closure_1 s2.snd s4.snd x7 Bool.true x8) fun x9 => Option.some (Sum.inl (x9, Go.IntKind.wrap Go.IntKind.i64 (s4.snd + (1 : Int))))
                                  else Option.some (Sum.inl (x8, Go.IntKind.wrap Go.IntKind.i64 (s4.snd + (1 : Int))))
                      else Option.some (Sum.inr s4.fst))
                    (s2.fst, (0 : Int)))
                  fun x10 => Option.some (Sum.inl (x10, Go.IntKind.wrap Go.IntKind.i64 (s2.snd + (1 : Int))))
            else Option.some (Sum.inr s2.fst))
          ([], (0 : Int)))
        fun x11 => Option.bind (F_slices_SortFunc_api_Footpath_api_Footpath_X_footpath_closure_2 x11 ()) fun x12 => Option.some x12
abbrev F_footpath_closureA : Pats := (.cons (.pd Y26) (.cons (.pd Y3) .nil))
abbrev F_footpath_closureR : Pats := (.cons (.pd Y26) .nil)
noncomputable def F_footpath_closureS : Tr.Spec := { args := F_footpath_closureA, res := F_footpath_closureR, fns := [], α := El Y26, f := fun x => F_footpath_closure x.1 x.2.1, unp := fun z => (((), (), ()), (z, ())) }
noncomputable def F_footpath_closureE : Env := { ty := fun n => tyTab.lookup n, mty := fun n => mapTab.lookup n, pk := fun n => (pkTab.lookup n).getD 0, rw := fun n => [].contains n, specs := fun n => (([(78, [F_footpath_distancesS]), (79, [F_footpath_closure_1S]), (80, [F_slices_SortFunc_api_Footpath_api_Footpath_X_footpath_closure_2S]), (81, [F_footpath_closure_2S])] : List (Nat × List Tr.Spec)).lookup n).getD [], nt := 66, ks := [] }
noncomputable def F_footpath_closureB : Code := match Try.f70.body with | some b => b | none => .skip
def F_footpath_closureH : Hint := (.seq .leaf (.seq .leaf (.seq .leaf (.seq .leaf (.seq (.seq .leaf (.lp ⟨[(7, (.var Y26 (.own Y128 false))), (22, (.pd Y3))], [(8, 79, [7])], [5, 6, 21]⟩ [((.exit 0), ⟨[(7, (.var Y26 (.own Y128 false)))], [], []⟩)] (.seq .leaf (.seq .leaf (.seq (.seq .leaf (.seq .leaf (.lp ⟨[(7, (.var Y26 (.own Y128 false))), (30, (.pd Y3))], [(8, 79, [7])], [5, 6, 9, 21, 22, 28, 29]⟩ [((.exit 2), ⟨[(7, (.var Y26 (.own Y128 false)))], [(8, 79, [7])], [5, 6, 21, 22]⟩)] .leaf))) .leaf))))) .leaf)))))
noncomputable def F_footpath_closureV (a0 : El Y26) (a1 : El Y3) : Option (El Y26) := evalF F_footpath_closureE F_footpath_closureB Try.f70.results F_footpath_closureH F_footpath_closureA F_footpath_closureR (fun y => y.2.1) (a0, a1, ())
theorem F_footpath_closure_eq (a0 : El Y26) (a1 : El Y3) : F_footpath_closureV a0 a1 = F_footpath_closure a0 a1 := by kernel_rfl
theorem F_footpath_closure_ok : FnOK Try.prog 70 F_footpath_closureS := evalF_ok (E := F_footpath_closureE) (fn := Try.f70) (body := F_footpath_closureB) (hint := F_footpath_closureH) (pack := fun y => y.2.1) hmix (typesOk_of tab_ok rfl rfl rfl) (specsOk_of (m := [(78, [F_footpath_distancesS]), (79, [F_footpath_closure_1S]), (80, [F_slices_SortFunc_api_Footpath_api_Footpath_X_footpath_closure_2S]), (81, [F_footpath_closure_2S])]) ⟨⟨F_footpath_distances_ok, trivial⟩, ⟨F_footpath_closure_1_ok, trivial⟩, ⟨F_slices_SortFunc_api_Footpath_api_Footpath_X_footpath_closure_2_ok, trivial⟩, ⟨F_footpath_closure_2_ok, trivial⟩, trivial⟩ rfl) (by kernel_rfl) (by kernel_rfl) (by kernel_rfl) (by kernel_rfl) (by kernel_rfl) (by kernel_rfl) (fun y => rfl)
  (fun x z h => (F_footpath_closure_eq x.1 x.2.1).trans h)
noncomputable def F_footpath_IsClosed : (El Y26) → (El Y3) → Option (El Y4) := fun a0 a1 =>
  bif Decidable.decide ((64 : Int) < a1) then Option.some Bool.false
  else
    Option.bind (F_footpath_sound a0 a1) fun x0 =>
      bif !Decidable.decide (x0.snd = (0 : Int)) then Option.some Bool.false
      else
        Option.bind (F_footpath_closure a0 (Tr.imax a1 (0 : Int))) fun x1 =>
          bif !Decidable.decide ((↑(List.length x1) : Int) = (↑(List.length a0) : Int)) then Option.some Bool.false
          else
            Option.bind
              (Tr.run
                (fun s2 =>
                  bif Decidable.decide (s2 < (↑(List.length x1) : Int)) then
                    Option.bind (Tr.idx x1 s2) fun x3 =>
                      Option.bind (Tr.idx a0 s2) fun x4 =>
                        bif
                            !(Decidable.decide (x3.fst = x4.fst) &&
                                (Decidable.decide (x3.snd.fst = x4.snd.fst) && (Decidable.decide (x3.snd.snd.fst = x4.snd.snd.fst) && x3.snd.snd.snd.fst == x4.snd.snd.snd.fst))) then
                          Option.some (Sum.inr (Sum.inr Bool.false))
                        else Option.some (Sum.inl (Go.IntKind.wrap Go.IntKind.i64 (s2 + (1 : Int))))
                  else Option.some (Sum.inr (Sum.inl ())))
                (0 : Int))
              fun x5 => Sum.elim (fun _ => Option.some Bool.true) (fun y7 => Option.some y7) x5
abbrev F_footpath_IsClosedA : Pats := (.cons (.pd Y26) (.cons (.pd Y3) .nil))
abbrev F_footpath_IsClosedR : Pats := (.cons (.pd Y4) .nil)
noncomputable def F_footpath_IsClosedS : Tr.Spec := { args := F_footpath_IsClosedA, res := F_footpath_IsClosedR, fns := [], α := El Y4, f := fun x => F_footpath_IsClosed x.1 x.2.1, unp := fun z => (((), (), ()), (z, ())) }
noncomputable def F_footpath_IsClosedE : Env := { ty := fun n => tyTab.lookup n, mty := fun n => mapTab.lookup n, pk := fun n => (pkTab.lookup n).getD 0, rw := fun n => [].contains n, specs := fun n => (([(69, [F_footpath_soundS]), (70, [F_footpath_closureS])] : List (Nat × List Tr.Spec)).lookup n).getD [], nt := 43, ks := [] }
noncomputable def F_footpath_IsClosedB : Code := match Try.f58.body with | some b => b | none => .skip
def F_footpath_IsClosedH : Hint := (.seq .leaf (.seq .leaf (.seq .leaf (.seq .leaf (.seq .leaf (.seq (.seq .leaf (.lp ⟨[(30, (.pd Y3))], [], [0, 7, 29]⟩ [((.exit 0), ⟨[], [], []⟩), (.ret, ⟨[(4, (.pd Y4))], [], []⟩)] .leaf)) .leaf))))))
noncomputable def F_footpath_IsClosedV (a0 : El Y26) (a1 : El Y3) : Option (El Y4) := evalF F_footpath_IsClosedE F_footpath_IsClosedB Try.f58.results F_footpath_IsClosedH F_footpath_IsClosedA F_footpath_IsClosedR (fun y => y.2.1) (a0, a1, ())
theorem F_footpath_IsClosed_eq (a0 : El Y26) (a1 : El Y3) : F_footpath_IsClosedV a0 a1 = F_footpath_IsClosed a0 a1 := by kernel_rfl
theorem F_footpath_IsClosed_ok : FnOK Try.prog 58 F_footpath_IsClosedS := evalF_ok (E := F_footpath_IsClosedE) (fn := Try.f58) (body := F_footpath_IsClosedB) (hint := F_footpath_IsClosedH) (pack := fun y => y.2.1) hmix (typesOk_of tab_ok rfl rfl rfl) (specsOk_of (m := [(69, [F_footpath_soundS]), (70, [F_footpath_closureS])]) ⟨⟨F_footpath_sound_ok, trivial⟩, ⟨F_footpath_closure_ok, trivial⟩, trivial⟩ rfl) (by kernel_rfl) (by kernel_rfl) (by kernel_rfl) (by kernel_rfl) (by kernel_rfl) (by kernel_rfl) (fun y => rfl)
  (fun x z h => (F_footpath_IsClosed_eq x.1 x.2.1).trans h)
noncomputable def F_network_checkPaths : (El Y31) → Option (El Y88) := fun a0 =>
  Option.bind
    (Tr.run
      (fun s0 =>
        bif Decidable.decide (s0.snd.snd < (↑(List.length a0.snd.snd.snd.snd.fst) : Int)) then
          Option.bind (Tr.idx a0.snd.snd.snd.snd.fst s0.snd.snd) fun x1 =>
            Option.bind
              (Option.bind (F_network_within x1.fst (↑(List.length a0.fst) : Int)) fun x2 =>
                bif !x2 then Option.some Bool.true
                else Option.bind (F_network_within x1.snd.fst (↑(List.length a0.fst) : Int)) fun x3 => bif !x3 then Option.some Bool.true else Option.some (Decidable.decide (x1.fst = x1.snd.fst)))
              fun x4 =>
              bif x4 then Option.bind (F_network_of (4 : Int) s0.snd.snd (9 : Int)) fun x5 => Option.some (Sum.inr (Sum.inr x5))
              else
                Option.bind (bif Decidable.decide (x1.snd.snd.fst < (1 : Int)) then Option.some Bool.true else Option.some (Decidable.decide ((14400 : Int) < x1.snd.snd.fst))) fun x6 =>
                  bif x6 then Option.bind (F_network_of (4 : Int) s0.snd.snd (2 : Int)) fun x7 => Option.some (Sum.inr (Sum.inr x7))
                  else
                    bif Option.getD (Tr.amGet (Tr.keyEq Y128) (x1.fst, x1.snd.fst, (0 : Int), x1.snd.snd.snd.fst, ()) s0.snd.fst) (Bool.false) then
                      Option.bind (F_network_of (4 : Int) s0.snd.snd (6 : Int)) fun x8 => Option.some (Sum.inr (Sum.inr x8))
                    else
                      Option.some
                        (Sum.inl
                          (s0.fst, Tr.amSet (Tr.keyEq Y128) (x1.fst, x1.snd.fst, (0 : Int), x1.snd.snd.snd.fst, ()) Bool.true s0.snd.fst, Go.IntKind.wrap Go.IntKind.i64 (s0.snd.snd + (1 : Int))))
        else Option.some (Sum.inr (Sum.inl s0.fst)))
      (((0 : Int), (0 : Int), (0 : Int), ()), [], (0 : Int)))
    fun x9 =>
    Sum.elim
      (fun _ =>
        Option.bind (F_footpath_IsClosed a0.snd.snd.snd.snd.fst (↑(List.length a0.fst) : Int)) fun x11 =>
          bif !x11 then Option.bind (F_network_of (4 : Int) (0 : Int) (18 : Int)) fun x12 => Option.some x12 else Option.some ((0 : Int), (0 : Int), (0 : Int), ()))
      (fun y13 => Option.some y13) x9
abbrev F_network_checkPathsA : Pats := (.cons (.pd Y31) .nil)
abbrev F_network_checkPathsR : Pats := (.cons (.pd Y88) .nil)
noncomputable def F_network_checkPathsS : Tr.Spec := { args := F_network_checkPathsA, res := F_network_checkPathsR, fns := [], α := El Y88, f := fun x => F_network_checkPaths x.1, unp := fun z => (((), ()), (z, ())) }
noncomputable def F_network_checkPathsE : Env := { ty := fun n => tyTab.lookup n, mty := fun n => mapTab.lookup n, pk := fun n => (pkTab.lookup n).getD 0, rw := fun n => [].contains n, specs := fun n => (([(35, [F_network_ofS]), (55, [F_network_withinS]), (58, [F_footpath_IsClosedS])] : List (Nat × List Tr.Spec)).lookup n).getD [], nt := 78, ks := [] }
noncomputable def F_network_checkPathsB : Code := match Try.f39.body with | some b => b | none => .skip
def F_network_checkPathsH : Hint := (.seq .leaf (.seq .leaf (.seq (.seq .leaf (.lp ⟨[(2, (.var Y88 (.pd Y88))), (3, (.map Y128 Y4)), (11, (.pd Y3))], [], [1, 9, 10]⟩ [((.exit 0), ⟨[(2, (.var Y88 (.pd Y88)))], [], [1]⟩), (.ret, ⟨[(2, (.var Y88 (.pd Y88)))], [], []⟩)] (.seq .leaf (.seq .leaf (.seq (.seq .leaf (.seq .leaf (.seq (.seq (.reg [(23, Y4)]) (.cnd none .leaf (.seq (.reg [(49, Y4)]) .leaf))) .leaf))) .leaf))))) .leaf)))
noncomputable def F_network_checkPathsV (a0 : El Y31) : Option (El Y88) := evalF F_network_checkPathsE F_network_checkPathsB Try.f39.results F_network_checkPathsH F_network_checkPathsA F_network_checkPathsR (fun y => y.2.1) (a0, ())
theorem F_network_checkPaths_eq (a0 : El Y31) : F_network_checkPathsV a0 = F_network_checkPaths a0 := by kernel_rfl
theorem F_network_checkPaths_ok : FnOK Try.prog 39 F_network_checkPathsS := evalF_ok (E := F_network_checkPathsE) (fn := Try.f39) (body := F_network_checkPathsB) (hint := F_network_checkPathsH) (pack := fun y => y.2.1) hmix (typesOk_of tab_ok rfl rfl rfl) (specsOk_of (m := [(35, [F_network_ofS]), (55, [F_network_withinS]), (58, [F_footpath_IsClosedS])]) ⟨⟨F_network_of_ok, trivial⟩, ⟨F_network_within_ok, trivial⟩, ⟨F_footpath_IsClosed_ok, trivial⟩, trivial⟩ rfl) (by kernel_rfl) (by kernel_rfl) (by kernel_rfl) (by kernel_rfl) (by kernel_rfl) (by kernel_rfl) (fun y => rfl)
  (fun x z h => (F_network_checkPaths_eq x.1).trans h)
noncomputable def F_network_Check : (El Y31) → Option (El Y3 × El Y3 × El Y38) := fun a0 =>
  Option.bind (F_stop_Check a0.fst) fun x0 =>
    Option.bind (F_route_Check a0.snd.fst) fun x1 =>
      Option.bind (F_network_of (0 : Int) x0.fst x0.snd) fun x2 =>
        Option.bind (F_network_of (1 : Int) x1.fst x1.snd) fun x3 =>
          Option.bind (F_network_first [x2, x3]) fun x4 =>
            Option.bind (bif Decidable.decide (x4.snd.snd.fst = (0 : Int)) then Option.bind (F_network_checkRuns a0) fun x5 => Option.some x5 else Option.some x4) fun x6 =>
              Option.bind (bif Decidable.decide (x6.snd.snd.fst = (0 : Int)) then Option.bind (F_network_checkLinks a0) fun x7 => Option.some x7 else Option.some x6) fun x8 =>
                Option.bind
                  (bif Decidable.decide (x8.snd.snd.fst = (0 : Int)) then
                    Option.bind (F_product_Check a0.snd.snd.snd.snd.snd.fst) fun x9 =>
                      Option.bind (F_network_checkPaths a0) fun x10 => Option.bind (F_network_of (5 : Int) x9.fst x9.snd) fun x11 => Option.bind (F_network_first [x10, x11]) fun x12 => Option.some x12
                  else Option.some x8)
                  fun x13 => Option.some (x13.fst, x13.snd.fst, x13.snd.snd.fst)
abbrev F_network_CheckA : Pats := (.cons (.pd Y31) .nil)
abbrev F_network_CheckR : Pats := (.cons (.pd Y3) (.cons (.pd Y3) (.cons (.pd Y38) .nil)))
noncomputable def F_network_CheckS : Tr.Spec := { args := F_network_CheckA, res := F_network_CheckR, fns := [], α := El Y3 × El Y3 × El Y38, f := fun x => F_network_Check x.1, unp := fun z => (((), ()), (z.1, z.2.1, z.2.2, ())) }
noncomputable def F_network_CheckE : Env := { ty := fun n => tyTab.lookup n, mty := fun n => mapTab.lookup n, pk := fun n => (pkTab.lookup n).getD 0, rw := fun n => [].contains n, specs := fun n => (([(32, [F_stop_CheckS]), (33, [F_route_CheckS]), (34, [F_network_firstS]), (35, [F_network_ofS]), (36, [F_network_checkRunsS]), (37, [F_network_checkLinksS]), (38, [F_product_CheckS]), (39, [F_network_checkPathsS])] : List (Nat × List Tr.Spec)).lookup n).getD [], nt := 64, ks := [] }
noncomputable def F_network_CheckB : Code := match Try.f22.body with | some b => b | none => .skip
def F_network_CheckH : Hint := (.seq .leaf (.seq .leaf (.seq .leaf (.seq .leaf (.seq (.seq .leaf (.cnd (some (⟨[], [], [1]⟩, [(.normal, ⟨[(9, (.var Y88 (.pd Y88)))], [], [1]⟩)])) .leaf .leaf)) (.seq (.seq .leaf (.cnd (some (⟨[], [], [1]⟩, [(.normal, ⟨[(9, (.var Y88 (.pd Y88)))], [], [1]⟩)])) .leaf .leaf)) (.seq (.seq .leaf (.cnd (some (⟨[], [], []⟩, [(.normal, ⟨[(9, (.var Y88 (.pd Y88)))], [], []⟩)])) .leaf .leaf)) .leaf)))))))
noncomputable def F_network_CheckV (a0 : El Y31) : Option (El Y3 × El Y3 × El Y38) := evalF F_network_CheckE F_network_CheckB Try.f22.results F_network_CheckH F_network_CheckA F_network_CheckR (fun y => (y.2.1, y.2.2.1, y.2.2.2.1)) (a0, ())
theorem F_network_Check_eq (a0 : El Y31) : F_network_CheckV a0 = F_network_Check a0 := by kernel_rfl
theorem F_network_Check_ok : FnOK Try.prog 22 F_network_CheckS := evalF_ok (E := F_network_CheckE) (fn := Try.f22) (body := F_network_CheckB) (hint := F_network_CheckH) (pack := fun y => (y.2.1, y.2.2.1, y.2.2.2.1)) hmix (typesOk_of tab_ok rfl rfl rfl) (specsOk_of (m := [(32, [F_stop_CheckS]), (33, [F_route_CheckS]), (34, [F_network_firstS]), (35, [F_network_ofS]), (36, [F_network_checkRunsS]), (37, [F_network_checkLinksS]), (38, [F_product_CheckS]), (39, [F_network_checkPathsS])]) ⟨⟨F_stop_Check_ok, trivial⟩, ⟨F_route_Check_ok, trivial⟩, ⟨F_network_first_ok, trivial⟩, ⟨F_network_of_ok, trivial⟩, ⟨F_network_checkRuns_ok, trivial⟩, ⟨F_network_checkLinks_ok, trivial⟩, ⟨F_product_Check_ok, trivial⟩, ⟨F_network_checkPaths_ok, trivial⟩, trivial⟩ rfl) (by kernel_rfl) (by kernel_rfl) (by kernel_rfl) (by kernel_rfl) (by kernel_rfl) (by kernel_rfl) (fun y => rfl)
  (fun x z h => (F_network_Check_eq x.1).trans h)
noncomputable def F_journey_exists : (El Y31) → (El Y44) → Option (El Y4) := fun a0 a1 =>
  Option.bind
    (bif Decidable.decide ((0 : Int) ≤ a1.snd.fst) then
      bif Decidable.decide (a1.snd.fst < (↑(List.length a0.snd.snd.fst) : Int)) then
        bif Decidable.decide ((0 : Int) ≤ a1.snd.snd.fst) then
          bif Decidable.decide (a1.snd.snd.fst < a1.snd.snd.snd.fst) then
            Option.bind (Tr.idx a0.snd.snd.fst a1.snd.fst) fun x0 => Option.some (Decidable.decide (a1.snd.snd.snd.fst < (↑(List.length x0.snd.snd.snd.snd.snd.snd.snd.fst) : Int)))
          else Option.some Bool.false
        else Option.some Bool.false
      else Option.some Bool.false
    else Option.some Bool.false)
    fun x1 => Option.some x1
abbrev F_journey_existsA : Pats := (.cons (.pd Y31) (.cons (.pd Y44) .nil))
abbrev F_journey_existsR : Pats := (.cons (.pd Y4) .nil)
noncomputable def F_journey_existsS : Tr.Spec := { args := F_journey_existsA, res := F_journey_existsR, fns := [], α := El Y4, f := fun x => F_journey_exists x.1 x.2.1, unp := fun z => (((), (), ()), (z, ())) }
noncomputable def F_journey_existsE : Env := { ty := fun n => tyTab.lookup n, mty := fun n => mapTab.lookup n, pk := fun n => (pkTab.lookup n).getD 0, rw := fun n => [].contains n, specs := fun n => (([] : List (Nat × List Tr.Spec)).lookup n).getD [], nt := 41, ks := [] }
noncomputable def F_journey_existsB : Code := match Try.f26.body with | some b => b | none => .skip
def F_journey_existsH : Hint := (.seq .leaf (.seq (.reg [(4, Y4)]) .leaf))
noncomputable def F_journey_existsV (a0 : El Y31) (a1 : El Y44) : Option (El Y4) := evalF F_journey_existsE F_journey_existsB Try.f26.results F_journey_existsH F_journey_existsA F_journey_existsR (fun y => y.2.1) (a0, a1, ())
theorem F_journey_exists_eq (a0 : El Y31) (a1 : El Y44) : F_journey_existsV a0 a1 = F_journey_exists a0 a1 := by kernel_rfl
theorem F_journey_exists_ok : FnOK Try.prog 26 F_journey_existsS := evalF_ok (E := F_journey_existsE) (fn := Try.f26) (body := F_journey_existsB) (hint := F_journey_existsH) (pack := fun y => y.2.1) hmix (typesOk_of tab_ok rfl rfl rfl) (specsOk_of (m := []) trivial rfl) (by kernel_rfl) (by kernel_rfl) (by kernel_rfl) (by kernel_rfl) (by kernel_rfl) (by kernel_rfl) (fun y => rfl)
  (fun x z h => (F_journey_exists_eq x.1 x.2.1).trans h)
noncomputable def F_bitset_one : (El Y3) → Option (El Y74) := fun a0 =>
  Option.bind (bif Decidable.decide (a0 < (0 : Int)) then Option.some Bool.true else Option.some (Decidable.decide ((63 : Int) < a0))) fun x0 =>
    bif x0 then Option.some (0 : Int) else Option.bind (Tr.qshl Go.IntKind.u64 (1 : Int) a0) fun x1 => Option.some x1
abbrev F_bitset_oneA : Pats := (.cons (.pd Y3) .nil)
abbrev F_bitset_oneR : Pats := (.cons (.pd Y74) .nil)
noncomputable def F_bitset_oneS : Tr.Spec := { args := F_bitset_oneA, res := F_bitset_oneR, fns := [], α := El Y74, f := fun x => F_bitset_one x.1, unp := fun z => (((), ()), (z, ())) }
noncomputable def F_bitset_oneE : Env := { ty := fun n => tyTab.lookup n, mty := fun n => mapTab.lookup n, pk := fun n => (pkTab.lookup n).getD 0, rw := fun n => [].contains n, specs := fun n => (([] : List (Nat × List Tr.Spec)).lookup n).getD [], nt := 11, ks := [] }
noncomputable def F_bitset_oneB : Code := match Try.f41.body with | some b => b | none => .skip
def F_bitset_oneH : Hint := (.seq .leaf (.seq (.seq (.reg [(8, Y4)]) .leaf) .leaf))
noncomputable def F_bitset_oneV (a0 : El Y3) : Option (El Y74) := evalF F_bitset_oneE F_bitset_oneB Try.f41.results F_bitset_oneH F_bitset_oneA F_bitset_oneR (fun y => y.2.1) (a0, ())
theorem F_bitset_one_eq (a0 : El Y3) : F_bitset_oneV a0 = F_bitset_one a0 := by kernel_rfl
theorem F_bitset_one_ok : FnOK Try.prog 41 F_bitset_oneS := evalF_ok (E := F_bitset_oneE) (fn := Try.f41) (body := F_bitset_oneB) (hint := F_bitset_oneH) (pack := fun y => y.2.1) hmix (typesOk_of tab_ok rfl rfl rfl) (specsOk_of (m := []) trivial rfl) (by kernel_rfl) (by kernel_rfl) (by kernel_rfl) (by kernel_rfl) (by kernel_rfl) (by kernel_rfl) (fun y => rfl)
  (fun x z h => (F_bitset_one_eq x.1).trans h)
noncomputable def F_bitset_Set_With : (El Y74) → (El Y3) → Option (El Y74) := fun a0 a1 => Option.bind (F_bitset_one a1) fun x0 => Option.some (Tr.qor Go.IntKind.u64 a0 x0)
abbrev F_bitset_Set_WithA : Pats := (.cons (.pd Y74) (.cons (.pd Y3) .nil))
abbrev F_bitset_Set_WithR : Pats := (.cons (.pd Y74) .nil)
noncomputable def F_bitset_Set_WithS : Tr.Spec := { args := F_bitset_Set_WithA, res := F_bitset_Set_WithR, fns := [], α := El Y74, f := fun x => F_bitset_Set_With x.1 x.2.1, unp := fun z => (((), (), ()), (z, ())) }
noncomputable def F_bitset_Set_WithE : Env := { ty := fun n => tyTab.lookup n, mty := fun n => mapTab.lookup n, pk := fun n => (pkTab.lookup n).getD 0, rw := fun n => [].contains n, specs := fun n => (([(41, [F_bitset_oneS])] : List (Nat × List Tr.Spec)).lookup n).getD [], nt := 9, ks := [] }
noncomputable def F_bitset_Set_WithB : Code := match Try.f40.body with | some b => b | none => .skip
def F_bitset_Set_WithH : Hint := .leaf
noncomputable def F_bitset_Set_WithV (a0 : El Y74) (a1 : El Y3) : Option (El Y74) := evalF F_bitset_Set_WithE F_bitset_Set_WithB Try.f40.results F_bitset_Set_WithH F_bitset_Set_WithA F_bitset_Set_WithR (fun y => y.2.1) (a0, a1, ())
theorem F_bitset_Set_With_eq (a0 : El Y74) (a1 : El Y3) : F_bitset_Set_WithV a0 a1 = F_bitset_Set_With a0 a1 := by kernel_rfl
theorem F_bitset_Set_With_ok : FnOK Try.prog 40 F_bitset_Set_WithS := evalF_ok (E := F_bitset_Set_WithE) (fn := Try.f40) (body := F_bitset_Set_WithB) (hint := F_bitset_Set_WithH) (pack := fun y => y.2.1) hmix (typesOk_of tab_ok rfl rfl rfl) (specsOk_of (m := [(41, [F_bitset_oneS])]) ⟨⟨F_bitset_one_ok, trivial⟩, trivial⟩ rfl) (by kernel_rfl) (by kernel_rfl) (by kernel_rfl) (by kernel_rfl) (by kernel_rfl) (by kernel_rfl) (fun y => rfl)
  (fun x z h => (F_bitset_Set_With_eq x.1 x.2.1).trans h)
noncomputable def F_journey_zones : (El Y31) → (El Y44) → Option (El Y74) := fun a0 a1 =>
  Option.bind (Tr.idx a0.snd.snd.fst a1.snd.fst) fun x0 =>
    Option.bind
      (Tr.sliceB (List.length x0.snd.snd.snd.snd.snd.snd.snd.fst) (List.length x0.snd.snd.snd.snd.snd.snd.snd.fst) (Option.some a1.snd.snd.fst)
        (Option.some (Go.IntKind.wrap Go.IntKind.i64 (a1.snd.snd.snd.fst + (1 : Int)))))
      fun x1 =>
      Option.bind
        (Tr.run
          (fun s2 =>
            bif Decidable.decide (s2.snd < (↑(List.length (List.take (x1.snd - x1.fst) (List.drop x1.fst x0.snd.snd.snd.snd.snd.snd.snd.fst))) : Int)) then
              Option.bind (Tr.idx (List.take (x1.snd - x1.fst) (List.drop x1.fst x0.snd.snd.snd.snd.snd.snd.snd.fst)) s2.snd) fun x3 =>
                Option.bind (Tr.idx a0.fst x3.fst) fun x4 => Option.bind (F_bitset_Set_With s2.fst x4.snd.fst) fun x5 => Option.some (Sum.inl (x5, Go.IntKind.wrap Go.IntKind.i64 (s2.snd + (1 : Int))))
            else Option.some (Sum.inr s2.fst))
          ((0 : Int), (0 : Int)))
        fun x6 => Option.some x6
abbrev F_journey_zonesA : Pats := (.cons (.pd Y31) (.cons (.pd Y44) .nil))
abbrev F_journey_zonesR : Pats := (.cons (.pd Y74) .nil)
noncomputable def F_journey_zonesS : Tr.Spec := { args := F_journey_zonesA, res := F_journey_zonesR, fns := [], α := El Y74, f := fun x => F_journey_zones x.1 x.2.1, unp := fun z => (((), (), ()), (z, ())) }
noncomputable def F_journey_zonesE : Env := { ty := fun n => tyTab.lookup n, mty := fun n => mapTab.lookup n, pk := fun n => (pkTab.lookup n).getD 0, rw := fun n => [].contains n, specs := fun n => (([(40, [F_bitset_Set_WithS])] : List (Nat × List Tr.Spec)).lookup n).getD [], nt := 37, ks := [] }
noncomputable def F_journey_zonesB : Code := match Try.f24.body with | some b => b | none => .skip
def F_journey_zonesH : Hint := (.seq .leaf (.seq .leaf (.seq (.seq .leaf (.lp ⟨[(5, (.pd Y74)), (22, (.pd Y3))], [], [2, 20, 21]⟩ [((.exit 0), ⟨[(5, (.pd Y74))], [], []⟩)] .leaf)) .leaf)))
noncomputable def F_journey_zonesV (a0 : El Y31) (a1 : El Y44) : Option (El Y74) := evalF F_journey_zonesE F_journey_zonesB Try.f24.results F_journey_zonesH F_journey_zonesA F_journey_zonesR (fun y => y.2.1) (a0, a1, ())
theorem F_journey_zones_eq (a0 : El Y31) (a1 : El Y44) : F_journey_zonesV a0 a1 = F_journey_zones a0 a1 := by kernel_rfl
theorem F_journey_zones_ok : FnOK Try.prog 24 F_journey_zonesS := evalF_ok (E := F_journey_zonesE) (fn := Try.f24) (body := F_journey_zonesB) (hint := F_journey_zonesH) (pack := fun y => y.2.1) hmix (typesOk_of tab_ok rfl rfl rfl) (specsOk_of (m := [(40, [F_bitset_Set_WithS])]) ⟨⟨F_bitset_Set_With_ok, trivial⟩, trivial⟩ rfl) (by kernel_rfl) (by kernel_rfl) (by kernel_rfl) (by kernel_rfl) (by kernel_rfl) (by kernel_rfl) (fun y => rfl)
  (fun x z h => (F_journey_zones_eq x.1 x.2.1).trans h)
noncomputable def F_bitset_Of : (El Y47) → Option (El Y74) := fun a0 =>
  Option.bind
    (Tr.run
      (fun s0 =>
        bif Decidable.decide (s0.snd < (↑(List.length a0) : Int)) then
          Option.bind (Tr.idx a0 s0.snd) fun x1 => Option.bind (F_bitset_one x1) fun x2 => Option.some (Sum.inl (Tr.qor Go.IntKind.u64 s0.fst x2, Go.IntKind.wrap Go.IntKind.i64 (s0.snd + (1 : Int))))
        else Option.some (Sum.inr s0.fst))
      ((0 : Int), (0 : Int)))
    fun x3 => Option.some x3
abbrev F_bitset_OfA : Pats := (.cons (.pd Y47) .nil)
abbrev F_bitset_OfR : Pats := (.cons (.pd Y74) .nil)
noncomputable def F_bitset_OfS : Tr.Spec := { args := F_bitset_OfA, res := F_bitset_OfR, fns := [], α := El Y74, f := fun x => F_bitset_Of x.1, unp := fun z => (((), ()), (z, ())) }
noncomputable def F_bitset_OfE : Env := { ty := fun n => tyTab.lookup n, mty := fun n => mapTab.lookup n, pk := fun n => (pkTab.lookup n).getD 0, rw := fun n => [].contains n, specs := fun n => (([(41, [F_bitset_oneS])] : List (Nat × List Tr.Spec)).lookup n).getD [], nt := 18, ks := [] }
noncomputable def F_bitset_OfB : Code := match Try.f25.body with | some b => b | none => .skip
def F_bitset_OfH : Hint := (.seq .leaf (.seq .leaf (.seq (.seq .leaf (.lp ⟨[(3, (.pd Y74)), (8, (.pd Y3))], [], [6, 7]⟩ [((.exit 0), ⟨[(3, (.pd Y74))], [], []⟩)] .leaf)) .leaf)))
noncomputable def F_bitset_OfV (a0 : El Y47) : Option (El Y74) := evalF F_bitset_OfE F_bitset_OfB Try.f25.results F_bitset_OfH F_bitset_OfA F_bitset_OfR (fun y => y.2.1) (a0, ())
theorem F_bitset_Of_eq (a0 : El Y47) : F_bitset_OfV a0 = F_bitset_Of a0 := by kernel_rfl
theorem F_bitset_Of_ok : FnOK Try.prog 25 F_bitset_OfS := evalF_ok (E := F_bitset_OfE) (fn := Try.f25) (body := F_bitset_OfB) (hint := F_bitset_OfH) (pack := fun y => y.2.1) hmix (typesOk_of tab_ok rfl rfl rfl) (specsOk_of (m := [(41, [F_bitset_oneS])]) ⟨⟨F_bitset_one_ok, trivial⟩, trivial⟩ rfl) (by kernel_rfl) (by kernel_rfl) (by kernel_rfl) (by kernel_rfl) (by kernel_rfl) (by kernel_rfl) (fun y => rfl)
  (fun x z h => (F_bitset_Of_eq x.1).trans h)
noncomputable def F_journey_Rides_1 : (El Y44) → (El Y31) → (List (El Y46)) → Option (List (El Y46)) := fun a0 a1 a2 =>
  Option.bind (F_journey_zones a1 a0) fun x0 =>
    Option.bind (Tr.idx a1.snd.snd.fst a0.snd.fst) fun x1 =>
      Option.bind (Tr.idx a1.snd.fst x1.snd.snd.snd.snd.fst) fun x2 =>
        Option.bind (F_bitset_Of [x2.snd.fst]) fun x3 =>
          bif !a0.snd.snd.snd.snd.snd.snd.snd.snd.fst then
            Option.bind
              (Tr.guardB
                (Decidable.decide
                  (List.length a2 + List.length [(a0.snd.snd.snd.snd.snd.snd.fst, a0.snd.snd.snd.snd.snd.snd.snd.fst, Go.IntKind.wrap Go.IntKind.i64 x0, Go.IntKind.wrap Go.IntKind.i64 x3, ())] ≤
                    Tr.maxApp)))
              fun _ => Option.some (a2 ++ [(a0.snd.snd.snd.snd.snd.snd.fst, a0.snd.snd.snd.snd.snd.snd.snd.fst, Go.IntKind.wrap Go.IntKind.i64 x0, Go.IntKind.wrap Go.IntKind.i64 x3, ())])
          else
            Option.bind (Tr.inb (Go.IntKind.wrap Go.IntKind.i64 ((↑(List.length a2) : Int) - (1 : Int))) (List.length a2)) fun x5 =>
              Option.bind a2[x5]? fun x6 =>
                Option.bind (List.set a2 x5 (x6.fst, a0.snd.snd.snd.snd.snd.snd.snd.fst, x6.snd.snd))[x5]? fun x7 =>
                  Option.bind (List.set a2 x5 (x6.fst, a0.snd.snd.snd.snd.snd.snd.snd.fst, x6.snd.snd))[x5]? fun x8 =>
                    Option.bind
                      (List.set (List.set a2 x5 (x6.fst, a0.snd.snd.snd.snd.snd.snd.snd.fst, x6.snd.snd)) x5
                          (x8.fst, x8.snd.fst, Tr.qor Go.IntKind.i64 x7.snd.snd.fst (Go.IntKind.wrap Go.IntKind.i64 x0), x8.snd.snd.snd))[x5]?
                      fun x9 =>
                      Option.bind
                        (List.set (List.set a2 x5 (x6.fst, a0.snd.snd.snd.snd.snd.snd.snd.fst, x6.snd.snd)) x5
                            (x8.fst, x8.snd.fst, Tr.qor Go.IntKind.i64 x7.snd.snd.fst (Go.IntKind.wrap Go.IntKind.i64 x0), x8.snd.snd.snd))[x5]?
                        fun x10 =>
                        Option.some
                          (List.set
                            (List.set (List.set a2 x5 (x6.fst, a0.snd.snd.snd.snd.snd.snd.snd.fst, x6.snd.snd)) x5
                              (x8.fst, x8.snd.fst, Tr.qor Go.IntKind.i64 x7.snd.snd.fst (Go.IntKind.wrap Go.IntKind.i64 x0), x8.snd.snd.snd))
                            x5 (x10.fst, x10.snd.fst, x10.snd.snd.fst, Tr.qor Go.IntKind.i64 x9.snd.snd.snd.fst (Go.IntKind.wrap Go.IntKind.i64 x3), x10.snd.snd.snd.snd))
abbrev F_journey_Rides_1A : Pats := (.cons (.pd Y44) (.cons (.ro Y31) (.cons (.var Y37 (.own Y46 false)) .nil)))
abbrev F_journey_Rides_1R : Pats := .nil
noncomputable def F_journey_Rides_1S : Tr.Spec := { args := F_journey_Rides_1A, res := F_journey_Rides_1R, fns := [], α := List (El Y46), f := fun x => F_journey_Rides_1 x.1 x.2.1 x.2.2.1, unp := fun z => (((), (), z, ()), ()) }
noncomputable def F_journey_Rides_1E : Env := { ty := fun n => tyTab.lookup n, mty := fun n => mapTab.lookup n, pk := fun n => (pkTab.lookup n).getD 0, rw := fun n => [].contains n, specs := fun n => (([(24, [F_journey_zonesS]), (25, [F_bitset_OfS])] : List (Nat × List Tr.Spec)).lookup n).getD [], nt := 65, ks := [] }
noncomputable def F_journey_Rides_1B : Code := match Try.f23.body with | some b => b | none => .skip
def F_journey_Rides_1H : Hint := .leaf
noncomputable def F_journey_Rides_1V (a0 : El Y44) (a1 : El Y31) (a2 : List (El Y46)) : Option (List (El Y46)) := evalF F_journey_Rides_1E F_journey_Rides_1B Try.f23.results F_journey_Rides_1H F_journey_Rides_1A F_journey_Rides_1R (fun y => y.1.2.2.1) (a0, a1, a2, ())
theorem F_journey_Rides_1_eq (a0 : El Y44) (a1 : El Y31) (a2 : List (El Y46)) : F_journey_Rides_1V a0 a1 a2 = F_journey_Rides_1 a0 a1 a2 := by kernel_rfl
theorem F_journey_Rides_1_ok : FnOK Try.prog 23 F_journey_Rides_1S := evalF_ok (E := F_journey_Rides_1E) (fn := Try.f23) (body := F_journey_Rides_1B) (hint := F_journey_Rides_1H) (pack := fun y => y.1.2.2.1) hmix (typesOk_of tab_ok rfl rfl rfl) (specsOk_of (m := [(24, [F_journey_zonesS]), (25, [F_bitset_OfS])]) ⟨⟨F_journey_zones_ok, trivial⟩, ⟨F_bitset_Of_ok, trivial⟩, trivial⟩ rfl) (by kernel_rfl) (by kernel_rfl) (by kernel_rfl) (by kernel_rfl) (by kernel_rfl) (by kernel_rfl) (fun y => rfl)
  (fun x z h => (F_journey_Rides_1_eq x.1 x.2.1 x.2.2.1).trans h)
noncomputable def F_journey_Rides : (El Y31) → (El Y34) → Option (El Y37 × El Y38) := fun a0 a1 =>
  Option.bind (F_network_Check a0) fun x0 =>
    bif !Decidable.decide (x0.snd.snd = (0 : Int)) then Option.some ([], (21 : Int))
    else
      Option.bind
        (Tr.run
          (fun s1 =>
            bif Decidable.decide (s1.snd.snd < (↑(List.length a1.fst) : Int)) then
              Option.bind (Tr.idx a1.fst s1.snd.snd) fun x2 =>
                Option.bind (bif x2.fst then Option.bind (F_journey_exists a0 x2) fun x3 => Option.some !x3 else Option.some Bool.false) fun x4 =>
                  bif x4 then Option.some (Sum.inr (Sum.inr ([], (9 : Int))))
                  else
                    Option.bind (bif x2.snd.snd.snd.snd.snd.snd.snd.snd.fst then bif !x2.fst then Option.some Bool.true else Option.some !s1.snd.fst else Option.some Bool.false) fun x5 =>
                      bif x5 then Option.some (Sum.inr (Sum.inr ([], (19 : Int))))
                      else
                        Option.bind (bif x2.fst then Option.bind (F_journey_Rides_1 x2 a0 s1.fst) fun x6 => Option.some x6 else Option.some s1.fst) fun x7 =>
                          Option.some (Sum.inl (x7, x2.fst, Go.IntKind.wrap Go.IntKind.i64 (s1.snd.snd + (1 : Int))))
            else Option.some (Sum.inr (Sum.inl s1.fst)))
          ([], Bool.false, (0 : Int)))
        fun x8 => Sum.elim (fun y9 => Option.some (y9, (0 : Int))) (fun y10 => Option.some (y10.fst, y10.snd)) x8
abbrev F_journey_RidesA : Pats := (.cons (.pd Y31) (.cons (.pd Y34) .nil))
abbrev F_journey_RidesR : Pats := (.cons (.pd Y37) (.cons (.pd Y38) .nil))
noncomputable def F_journey_RidesS : Tr.Spec := { args := F_journey_RidesA, res := F_journey_RidesR, fns := [], α := El Y37 × El Y38, f := fun x => F_journey_Rides x.1 x.2.1, unp := fun z => (((), (), ()), (z.1, z.2, ())) }
noncomputable def F_journey_RidesE : Env := { ty := fun n => tyTab.lookup n, mty := fun n => mapTab.lookup n, pk := fun n => (pkTab.lookup n).getD 0, rw := fun n => [].contains n, specs := fun n => (([(22, [F_network_CheckS]), (23, [F_journey_Rides_1S]), (26, [F_journey_existsS])] : List (Nat × List Tr.Spec)).lookup n).getD [], nt := 58, ks := [] }
noncomputable def F_journey_RidesB : Code := match Try.f10.body with | some b => b | none => .skip
def F_journey_RidesH : Hint := (.seq .leaf (.seq .leaf (.seq .leaf (.seq .leaf (.seq .leaf (.seq (.seq .leaf (.lp ⟨[(9, (.var Y37 (.own Y46 false))), (11, (.pd Y4)), (26, (.pd Y3))], [(10, 23, [2, 9])], [2, 24, 25]⟩ [((.exit 0), ⟨[(9, (.var Y37 (.own Y46 false)))], [], []⟩), (.ret, ⟨[(4, (.pd Y37)), (5, (.pd Y38))], [], []⟩)] (.seq .leaf (.seq .leaf (.seq (.seq .leaf (.seq (.seq (.reg [(37, Y4)]) .leaf) (.seq (.seq (.reg [(48, Y4)]) .leaf) (.seq (.seq .leaf (.cnd (some (⟨[], [], [2, 13, 24, 25, 26]⟩, [(.normal, ⟨[(9, (.var Y37 (.own Y46 false)))], [(10, 23, [2, 9])], [2, 13, 24, 25, 26]⟩)])) .leaf .leaf)) .leaf)))) .leaf))))) .leaf))))))
noncomputable def F_journey_RidesV (a0 : El Y31) (a1 : El Y34) : Option (El Y37 × El Y38) := evalF F_journey_RidesE F_journey_RidesB Try.f10.results F_journey_RidesH F_journey_RidesA F_journey_RidesR (fun y => (y.2.1, y.2.2.1)) (a0, a1, ())
theorem F_journey_Rides_eq (a0 : El Y31) (a1 : El Y34) : F_journey_RidesV a0 a1 = F_journey_Rides a0 a1 := by kernel_rfl
theorem F_journey_Rides_ok : FnOK Try.prog 10 F_journey_RidesS := evalF_ok (E := F_journey_RidesE) (fn := Try.f10) (body := F_journey_RidesB) (hint := F_journey_RidesH) (pack := fun y => (y.2.1, y.2.2.1)) hmix (typesOk_of tab_ok rfl rfl rfl) (specsOk_of (m := [(22, [F_network_CheckS]), (23, [F_journey_Rides_1S]), (26, [F_journey_existsS])]) ⟨⟨F_network_Check_ok, trivial⟩, ⟨F_journey_Rides_1_ok, trivial⟩, ⟨F_journey_exists_ok, trivial⟩, trivial⟩ rfl) (by kernel_rfl) (by kernel_rfl) (by kernel_rfl) (by kernel_rfl) (by kernel_rfl) (by kernel_rfl) (fun y => rfl)
  (fun x z h => (F_journey_Rides_eq x.1 x.2.1).trans h)
noncomputable def F_journey_Walk : (El Y34) → Option (El Y3) := fun a0 =>
  Option.bind
    (Tr.run
      (fun s0 =>
        bif Decidable.decide (s0.snd < (↑(List.length a0.fst) : Int)) then
          Option.bind (Tr.idx a0.fst s0.snd) fun x1 =>
            Option.bind
              (bif x1.fst then Option.some Bool.true
              else
                bif Decidable.decide (x1.snd.snd.snd.snd.snd.snd.fst < (0 : Int)) then Option.some Bool.true
                else
                  bif Decidable.decide (x1.snd.snd.snd.snd.snd.snd.snd.fst < x1.snd.snd.snd.snd.snd.snd.fst) then Option.some Bool.true
                  else Option.some (Decidable.decide ((14400 : Int) < Go.IntKind.wrap Go.IntKind.i64 (x1.snd.snd.snd.snd.snd.snd.snd.fst - x1.snd.snd.snd.snd.snd.snd.fst))))
              fun x2 =>
              bif x2 then Option.some (Sum.inl (s0.fst, Go.IntKind.wrap Go.IntKind.i64 (s0.snd + (1 : Int))))
              else
                Option.some
                  (Sum.inl
                    (Go.IntKind.wrap Go.IntKind.i64 (s0.fst + Go.IntKind.wrap Go.IntKind.i64 (x1.snd.snd.snd.snd.snd.snd.snd.fst - x1.snd.snd.snd.snd.snd.snd.fst)),
                      Go.IntKind.wrap Go.IntKind.i64 (s0.snd + (1 : Int))))
        else Option.some (Sum.inr s0.fst))
      ((0 : Int), (0 : Int)))
    fun x3 => Option.some x3
abbrev F_journey_WalkA : Pats := (.cons (.pd Y34) .nil)
abbrev F_journey_WalkR : Pats := (.cons (.pd Y3) .nil)
noncomputable def F_journey_WalkS : Tr.Spec := { args := F_journey_WalkA, res := F_journey_WalkR, fns := [], α := El Y3, f := fun x => F_journey_Walk x.1, unp := fun z => (((), ()), (z, ())) }
noncomputable def F_journey_WalkE : Env := { ty := fun n => tyTab.lookup n, mty := fun n => mapTab.lookup n, pk := fun n => (pkTab.lookup n).getD 0, rw := fun n => [].contains n, specs := fun n => (([] : List (Nat × List Tr.Spec)).lookup n).getD [], nt := 44, ks := [] }
noncomputable def F_journey_WalkB : Code := match Try.f15.body with | some b => b | none => .skip
def F_journey_WalkH : Hint := (.seq .leaf (.seq .leaf (.seq (.seq .leaf (.lp ⟨[(3, (.pd Y3)), (9, (.pd Y3))], [], [7, 8]⟩ [((.exit 0), ⟨[(3, (.pd Y3))], [], []⟩)] (.seq .leaf (.seq .leaf (.seq (.seq .leaf (.seq (.seq (.reg [(34, Y4)]) .leaf) .leaf)) .leaf))))) .leaf)))
noncomputable def F_journey_WalkV (a0 : El Y34) : Option (El Y3) := evalF F_journey_WalkE F_journey_WalkB Try.f15.results F_journey_WalkH F_journey_WalkA F_journey_WalkR (fun y => y.2.1) (a0, ())
theorem F_journey_Walk_eq (a0 : El Y34) : F_journey_WalkV a0 = F_journey_Walk a0 := by kernel_rfl
theorem F_journey_Walk_ok : FnOK Try.prog 15 F_journey_WalkS := evalF_ok (E := F_journey_WalkE) (fn := Try.f15) (body := F_journey_WalkB) (hint := F_journey_WalkH) (pack := fun y => y.2.1) hmix (typesOk_of tab_ok rfl rfl rfl) (specsOk_of (m := []) trivial rfl) (by kernel_rfl) (by kernel_rfl) (by kernel_rfl) (by kernel_rfl) (by kernel_rfl) (by kernel_rfl) (fun y => rfl)
  (fun x z h => (F_journey_Walk_eq x.1).trans h)
noncomputable def F_law38_exampleHolds : Option (El Y4) := Option.bind
  (F_journey_Rides
    ([([(65 : UInt8)], (1 : Int), Bool.false, (0 : Int), ()), ([(66 : UInt8)], (1 : Int), Bool.false, (0 : Int), ()), ([(67 : UInt8)], (3 : Int), Bool.false, (0 : Int), ())],
      [([(82 : UInt8)], (3 : Int), Bool.false, ())],
      [((0 : Int), (0 : Int), (0 : Int), [(116 : UInt8)], (0 : Int), Bool.false, Bool.false,
          [((0 : Int), (1 : Int), (1 : Int), Bool.true, Bool.false, ()), ((1 : Int), (2 : Int), (2 : Int), Bool.false, Bool.false, ()),
            ((2 : Int), (3 : Int), (3 : Int), Bool.false, Bool.true, ())],
          ())],
      ([] : List (El Y118)), ([] : List (El Y128)), (([] : List (El Y125)), (0 : Int), (0 : Int), (0 : Int), ()), ())
    ([(Bool.true, (0 : Int), (0 : Int), (2 : Int), (0 : Int), (2 : Int), (1 : Int), (3 : Int), Bool.false, ())], ()))
  fun x0 =>
  Option.bind
    (F_journey_Walk
      ([(Bool.false, (0 : Int), (0 : Int), (0 : Int), (0 : Int), (1 : Int), (100 : Int), (160 : Int), Bool.false, ()),
          (Bool.false, (0 : Int), (0 : Int), (0 : Int), (0 : Int), (0 : Int), (200 : Int), (190 : Int), Bool.false, ())],
        ()))
    fun x1 =>
    Option.bind
      (bif Decidable.decide (x0.snd = (0 : Int)) then
        bif Decidable.decide ((↑(List.length x0.fst) : Int) = (1 : Int)) then
          Option.bind (Tr.idx x0.fst (0 : Int)) fun x2 =>
            bif
                Decidable.decide (x2.fst = (1 : Int)) &&
                  (Decidable.decide (x2.snd.fst = (3 : Int)) && (Decidable.decide (x2.snd.snd.fst = (10 : Int)) && Decidable.decide (x2.snd.snd.snd.fst = (8 : Int)))) then
              Option.some (Decidable.decide (x1 = (60 : Int)))
            else Option.some Bool.false
        else Option.some Bool.false
      else Option.some Bool.false)
      fun x3 => Option.some x3
abbrev F_law38_exampleHoldsA : Pats := .nil
abbrev F_law38_exampleHoldsR : Pats := (.cons (.pd Y4) .nil)
noncomputable def F_law38_exampleHoldsS : Tr.Spec := { args := F_law38_exampleHoldsA, res := F_law38_exampleHoldsR, fns := [], α := El Y4, f := fun x => F_law38_exampleHolds, unp := fun z => ((), (z, ())) }
noncomputable def F_law38_exampleHoldsE : Env := { ty := fun n => tyTab.lookup n, mty := fun n => mapTab.lookup n, pk := fun n => (pkTab.lookup n).getD 0, rw := fun n => [].contains n, specs := fun n => (([(10, [F_journey_RidesS]), (15, [F_journey_WalkS])] : List (Nat × List Tr.Spec)).lookup n).getD [], nt := 49, ks := [] }
noncomputable def F_law38_exampleHoldsB : Code := match Try.f9.body with | some b => b | none => .skip
def F_law38_exampleHoldsH : Hint := (.seq .leaf (.seq .leaf (.seq .leaf (.seq .leaf (.seq (.reg [(0, Y4)]) .leaf)))))
noncomputable def F_law38_exampleHoldsV : Option (El Y4) := evalF F_law38_exampleHoldsE F_law38_exampleHoldsB Try.f9.results F_law38_exampleHoldsH F_law38_exampleHoldsA F_law38_exampleHoldsR (fun y => y.2.1) (())
theorem F_law38_exampleHolds_eq  : F_law38_exampleHoldsV  = F_law38_exampleHolds  := by kernel_rfl
theorem F_law38_exampleHolds_ok : FnOK Try.prog 9 F_law38_exampleHoldsS := evalF_ok (E := F_law38_exampleHoldsE) (fn := Try.f9) (body := F_law38_exampleHoldsB) (hint := F_law38_exampleHoldsH) (pack := fun y => y.2.1) hmix (typesOk_of tab_ok rfl rfl rfl) (specsOk_of (m := [(10, [F_journey_RidesS]), (15, [F_journey_WalkS])]) ⟨⟨F_journey_Rides_ok, trivial⟩, ⟨F_journey_Walk_ok, trivial⟩, trivial⟩ rfl) (by kernel_rfl) (by kernel_rfl) (by kernel_rfl) (by kernel_rfl) (by kernel_rfl) (by kernel_rfl) (fun y => rfl)
  (fun x z h => (F_law38_exampleHolds_eq ).trans h)
noncomputable def F_ref26_ValidID : (El Y9) → Option (El Y4) := fun a0 =>
  Option.bind (bif Decidable.decide ((↑(List.length a0) : Int) < (1 : Int)) then Option.some Bool.true else Option.some (Decidable.decide ((32 : Int) < (↑(List.length a0) : Int)))) fun x0 =>
    bif x0 then Option.some Bool.false
    else
      Option.bind
        (Tr.run
          (fun s1 =>
            bif Decidable.decide (s1 < (↑(List.length a0) : Int)) then
              Option.bind (Tr.idx a0 s1) fun x2 =>
                Option.bind
                  (bif Decidable.decide ((97 : Int) ≤ (↑(UInt8.toNat x2) : Int)) then
                    bif Decidable.decide ((↑(UInt8.toNat x2) : Int) ≤ (122 : Int)) then Option.some Bool.true
                    else
                      bif Decidable.decide ((65 : Int) ≤ (↑(UInt8.toNat x2) : Int)) then
                        bif Decidable.decide ((↑(UInt8.toNat x2) : Int) ≤ (90 : Int)) then Option.some Bool.true
                        else bif Decidable.decide ((48 : Int) ≤ (↑(UInt8.toNat x2) : Int)) then Option.some (Decidable.decide ((↑(UInt8.toNat x2) : Int) ≤ (57 : Int))) else Option.some Bool.false
                      else bif Decidable.decide ((48 : Int) ≤ (↑(UInt8.toNat x2) : Int)) then Option.some (Decidable.decide ((↑(UInt8.toNat x2) : Int) ≤ (57 : Int))) else Option.some Bool.false
                  else
                    bif Decidable.decide ((65 : Int) ≤ (↑(UInt8.toNat x2) : Int)) then
                      bif Decidable.decide ((↑(UInt8.toNat x2) : Int) ≤ (90 : Int)) then Option.some Bool.true
                      else bif Decidable.decide ((48 : Int) ≤ (↑(UInt8.toNat x2) : Int)) then Option.some (Decidable.decide ((↑(UInt8.toNat x2) : Int) ≤ (57 : Int))) else Option.some Bool.false
                    else bif Decidable.decide ((48 : Int) ≤ (↑(UInt8.toNat x2) : Int)) then Option.some (Decidable.decide ((↑(UInt8.toNat x2) : Int) ≤ (57 : Int))) else Option.some Bool.false)
                  fun x3 =>
                  Option.bind
                    (bif !x3 then
                      bif !Decidable.decide ((↑(UInt8.toNat x2) : Int) = (45 : Int)) then
                        bif !Decidable.decide ((↑(UInt8.toNat x2) : Int) = (95 : Int)) then Option.some !Decidable.decide ((↑(UInt8.toNat x2) : Int) = (46 : Int)) else Option.some Bool.false
                      else Option.some Bool.false
                    else Option.some Bool.false)
                    fun x4 => bif x4 then Option.some (Sum.inr (Sum.inr Bool.false)) else Option.some (Sum.inl (Go.IntKind.wrap Go.IntKind.i64 (s1 + (1 : Int))))
            else Option.some (Sum.inr (Sum.inl ())))
          (0 : Int))
        fun x5 => Sum.elim (fun _ => Option.some Bool.true) (fun y7 => Option.some y7) x5
abbrev F_ref26_ValidIDA : Pats := (.cons (.pd Y9) .nil)
abbrev F_ref26_ValidIDR : Pats := (.cons (.pd Y4) .nil)
noncomputable def F_ref26_ValidIDS : Tr.Spec := { args := F_ref26_ValidIDA, res := F_ref26_ValidIDR, fns := [], α := El Y4, f := fun x => F_ref26_ValidID x.1, unp := fun z => (((), ()), (z, ())) }
noncomputable def F_ref26_ValidIDE : Env := { ty := fun n => tyTab.lookup n, mty := fun n => mapTab.lookup n, pk := fun n => (pkTab.lookup n).getD 0, rw := fun n => [].contains n, specs := fun n => (([] : List (Nat × List Tr.Spec)).lookup n).getD [], nt := 59, ks := [] }
noncomputable def F_ref26_ValidIDB : Code := match Try.f59.body with | some b => b | none => .skip
def F_ref26_ValidIDH : Hint := (.seq .leaf (.seq (.seq (.reg [(13, Y4)]) .leaf) (.seq (.seq .leaf (.lp ⟨[(3, (.pd Y3))], [], [0]⟩ [((.exit 0), ⟨[], [], []⟩), (.ret, ⟨[(2, (.pd Y4))], [], []⟩)] (.seq .leaf (.seq (.seq .leaf (.seq (.reg [(5, Y4)]) (.seq (.reg [(58, Y4)]) .leaf))) .leaf)))) .leaf)))
noncomputable def F_ref26_ValidIDV (a0 : El Y9) : Option (El Y4) := evalF F_ref26_ValidIDE F_ref26_ValidIDB Try.f59.results F_ref26_ValidIDH F_ref26_ValidIDA F_ref26_ValidIDR (fun y => y.2.1) (a0, ())
theorem F_ref26_ValidID_eq (a0 : El Y9) : F_ref26_ValidIDV a0 = F_ref26_ValidID a0 := by kernel_rfl
theorem F_ref26_ValidID_ok : FnOK Try.prog 59 F_ref26_ValidIDS := evalF_ok (E := F_ref26_ValidIDE) (fn := Try.f59) (body := F_ref26_ValidIDB) (hint := F_ref26_ValidIDH) (pack := fun y => y.2.1) hmix (typesOk_of tab_ok rfl rfl rfl) (specsOk_of (m := []) trivial rfl) (by kernel_rfl) (by kernel_rfl) (by kernel_rfl) (by kernel_rfl) (by kernel_rfl) (by kernel_rfl) (fun y => rfl)
  (fun x z h => (F_ref26_ValidID_eq x.1).trans h)
noncomputable def F_ref26_in : (El Y3) → (El Y3) → (El Y3) → Option (El Y4) := fun a0 a1 a2 => Option.bind (bif Decidable.decide (a1 ≤ a0) then Option.some (Decidable.decide (a0 ≤ a2)) else Option.some Bool.false) fun x0 => Option.some x0
abbrev F_ref26_inA : Pats := (.cons (.pd Y3) (.cons (.pd Y3) (.cons (.pd Y3) .nil)))
abbrev F_ref26_inR : Pats := (.cons (.pd Y4) .nil)
noncomputable def F_ref26_inS : Tr.Spec := { args := F_ref26_inA, res := F_ref26_inR, fns := [], α := El Y4, f := fun x => F_ref26_in x.1 x.2.1 x.2.2.1, unp := fun z => (((), (), (), ()), (z, ())) }
noncomputable def F_ref26_inE : Env := { ty := fun n => tyTab.lookup n, mty := fun n => mapTab.lookup n, pk := fun n => (pkTab.lookup n).getD 0, rw := fun n => [].contains n, specs := fun n => (([] : List (Nat × List Tr.Spec)).lookup n).getD [], nt := 15, ks := [] }
noncomputable def F_ref26_inB : Code := match Try.f60.body with | some b => b | none => .skip
def F_ref26_inH : Hint := (.seq .leaf (.seq (.reg [(6, Y4)]) .leaf))
noncomputable def F_ref26_inV (a0 : El Y3) (a1 : El Y3) (a2 : El Y3) : Option (El Y4) := evalF F_ref26_inE F_ref26_inB Try.f60.results F_ref26_inH F_ref26_inA F_ref26_inR (fun y => y.2.1) (a0, a1, a2, ())
theorem F_ref26_in_eq (a0 : El Y3) (a1 : El Y3) (a2 : El Y3) : F_ref26_inV a0 a1 a2 = F_ref26_in a0 a1 a2 := by kernel_rfl
theorem F_ref26_in_ok : FnOK Try.prog 60 F_ref26_inS := evalF_ok (E := F_ref26_inE) (fn := Try.f60) (body := F_ref26_inB) (hint := F_ref26_inH) (pack := fun y => y.2.1) hmix (typesOk_of tab_ok rfl rfl rfl) (specsOk_of (m := []) trivial rfl) (by kernel_rfl) (by kernel_rfl) (by kernel_rfl) (by kernel_rfl) (by kernel_rfl) (by kernel_rfl) (fun y => rfl)
  (fun x z h => (F_ref26_in_eq x.1 x.2.1 x.2.2.1).trans h)
noncomputable def F_ref26_stops : (El Y22) → Option (El Y3 × El Y38) := fun a0 =>
  bif Decidable.decide ((64 : Int) < (↑(List.length a0) : Int)) then Option.some ((0 : Int), (5 : Int))
  else
    Option.bind
      (Tr.run
        (fun s0 =>
          bif Decidable.decide (s0 < (↑(List.length a0) : Int)) then
            Option.bind (Tr.idx a0 s0) fun x1 =>
              Option.bind (F_ref26_ValidID x1.fst) fun x2 =>
                bif !x2 then Option.some (Sum.inr (Sum.inr (s0, (12 : Int))))
                else
                  Option.bind
                    (Tr.run
                      (fun s3 =>
                        bif Decidable.decide (s3 < s0) then
                          Option.bind (Tr.idx a0 s3) fun x4 =>
                            Option.bind (Tr.idx a0 s0) fun x5 =>
                              bif Decidable.decide (x4.fst = x5.fst) then Option.some (Sum.inr (Sum.inr (s0, (6 : Int)))) else Option.some (Sum.inl (Go.IntKind.wrap Go.IntKind.i64 (s3 + (1 : Int))))
                        else Option.some (Sum.inr (Sum.inl ())))
                      (0 : Int))
                    fun x6 =>
                    Sum.elim
                      (fun _ =>
                        Option.bind
                          (Option.bind (Tr.idx a0 s0) fun x8 =>
                            Option.bind (F_ref26_in x8.snd.fst (0 : Int) (15 : Int)) fun x9 =>
                              bif !x9 then Option.some Bool.true
                              else Option.bind (Tr.idx a0 s0) fun x10 => Option.bind (F_ref26_in x10.snd.snd.snd.fst (0 : Int) (3600 : Int)) fun x11 => Option.some !x11)
                          fun x12 => bif x12 then Option.some (Sum.inr (Sum.inr (s0, (2 : Int)))) else Option.some (Sum.inl (Go.IntKind.wrap Go.IntKind.i64 (s0 + (1 : Int)))))
                      (fun y13 => Option.some (Sum.inr (Sum.inr (y13.fst, y13.snd)))) x6
          else Option.some (Sum.inr (Sum.inl ())))
        (0 : Int))
      fun x14 => Sum.elim (fun _ => Option.some ((0 : Int), (0 : Int))) (fun y16 => Option.some (y16.fst, y16.snd)) x14
abbrev F_ref26_stopsA : Pats := (.cons (.pd Y22) .nil)
abbrev F_ref26_stopsR : Pats := (.cons (.pd Y3) (.cons (.pd Y38) .nil))
noncomputable def F_ref26_stopsS : Tr.Spec := { args := F_ref26_stopsA, res := F_ref26_stopsR, fns := [], α := El Y3 × El Y38, f := fun x => F_ref26_stops x.1, unp := fun z => (((), ()), (z.1, z.2, ())) }
noncomputable def F_ref26_stopsE : Env := { ty := fun n => tyTab.lookup n, mty := fun n => mapTab.lookup n, pk := fun n => (pkTab.lookup n).getD 0, rw := fun n => [].contains n, specs := fun n => (([(59, [F_ref26_ValidIDS]), (60, [F_ref26_inS])] : List (Nat × List Tr.Spec)).lookup n).getD [], nt := 57, ks := [] }
noncomputable def F_ref26_stopsB : Code := match Try.f42.body with | some b => b | none => .skip
def F_ref26_stopsH : Hint := (.seq .leaf (.seq .leaf (.seq (.seq .leaf (.lp ⟨[(4, (.pd Y3))], [], [0]⟩ [((.exit 0), ⟨[], [], []⟩), (.ret, ⟨[(2, (.pd Y3)), (3, (.pd Y38))], [], []⟩)] (.seq .leaf (.seq (.seq .leaf (.seq (.seq .leaf (.lp ⟨[(5, (.pd Y3))], [], [0, 4]⟩ [((.exit 2), ⟨[], [], [0, 4]⟩), (.ret, ⟨[(2, (.pd Y3)), (3, (.pd Y38))], [], []⟩)] .leaf)) (.seq (.reg [(55, Y4)]) .leaf))) .leaf)))) .leaf)))
noncomputable def F_ref26_stopsV (a0 : El Y22) : Option (El Y3 × El Y38) := evalF F_ref26_stopsE F_ref26_stopsB Try.f42.results F_ref26_stopsH F_ref26_stopsA F_ref26_stopsR (fun y => (y.2.1, y.2.2.1)) (a0, ())
theorem F_ref26_stops_eq (a0 : El Y22) : F_ref26_stopsV a0 = F_ref26_stops a0 := by kernel_rfl
theorem F_ref26_stops_ok : FnOK Try.prog 42 F_ref26_stopsS := evalF_ok (E := F_ref26_stopsE) (fn := Try.f42) (body := F_ref26_stopsB) (hint := F_ref26_stopsH) (pack := fun y => (y.2.1, y.2.2.1)) hmix (typesOk_of tab_ok rfl rfl rfl) (specsOk_of (m := [(59, [F_ref26_ValidIDS]), (60, [F_ref26_inS])]) ⟨⟨F_ref26_ValidID_ok, trivial⟩, ⟨F_ref26_in_ok, trivial⟩, trivial⟩ rfl) (by kernel_rfl) (by kernel_rfl) (by kernel_rfl) (by kernel_rfl) (by kernel_rfl) (by kernel_rfl) (fun y => rfl)
  (fun x z h => (F_ref26_stops_eq x.1).trans h)
noncomputable def F_ref26_routes : (El Y23) → Option (El Y3 × El Y38) := fun a0 =>
  bif Decidable.decide ((64 : Int) < (↑(List.length a0) : Int)) then Option.some ((0 : Int), (5 : Int))
  else
    Option.bind
      (Tr.run
        (fun s0 =>
          bif Decidable.decide (s0 < (↑(List.length a0) : Int)) then
            Option.bind (Tr.idx a0 s0) fun x1 =>
              Option.bind (F_ref26_ValidID x1.fst) fun x2 =>
                bif !x2 then Option.some (Sum.inr (Sum.inr (s0, (12 : Int))))
                else
                  Option.bind
                    (Tr.run
                      (fun s3 =>
                        bif Decidable.decide (s3 < s0) then
                          Option.bind (Tr.idx a0 s3) fun x4 =>
                            Option.bind (Tr.idx a0 s0) fun x5 =>
                              bif Decidable.decide (x4.fst = x5.fst) then Option.some (Sum.inr (Sum.inr (s0, (6 : Int)))) else Option.some (Sum.inl (Go.IntKind.wrap Go.IntKind.i64 (s3 + (1 : Int))))
                        else Option.some (Sum.inr (Sum.inl ())))
                      (0 : Int))
                    fun x6 =>
                    Sum.elim
                      (fun _ =>
                        Option.bind (Tr.idx a0 s0) fun x8 =>
                          Option.bind (F_ref26_in x8.snd.fst (0 : Int) (7 : Int)) fun x9 =>
                            bif !x9 then Option.some (Sum.inr (Sum.inr (s0, (2 : Int)))) else Option.some (Sum.inl (Go.IntKind.wrap Go.IntKind.i64 (s0 + (1 : Int)))))
                      (fun y10 => Option.some (Sum.inr (Sum.inr (y10.fst, y10.snd)))) x6
          else Option.some (Sum.inr (Sum.inl ())))
        (0 : Int))
      fun x11 => Sum.elim (fun _ => Option.some ((0 : Int), (0 : Int))) (fun y13 => Option.some (y13.fst, y13.snd)) x11
abbrev F_ref26_routesA : Pats := (.cons (.pd Y23) .nil)
abbrev F_ref26_routesR : Pats := (.cons (.pd Y3) (.cons (.pd Y38) .nil))
noncomputable def F_ref26_routesS : Tr.Spec := { args := F_ref26_routesA, res := F_ref26_routesR, fns := [], α := El Y3 × El Y38, f := fun x => F_ref26_routes x.1, unp := fun z => (((), ()), (z.1, z.2, ())) }
noncomputable def F_ref26_routesE : Env := { ty := fun n => tyTab.lookup n, mty := fun n => mapTab.lookup n, pk := fun n => (pkTab.lookup n).getD 0, rw := fun n => [].contains n, specs := fun n => (([(59, [F_ref26_ValidIDS]), (60, [F_ref26_inS])] : List (Nat × List Tr.Spec)).lookup n).getD [], nt := 48, ks := [] }
noncomputable def F_ref26_routesB : Code := match Try.f43.body with | some b => b | none => .skip
def F_ref26_routesH : Hint := (.seq .leaf (.seq .leaf (.seq (.seq .leaf (.lp ⟨[(4, (.pd Y3))], [], [0]⟩ [((.exit 0), ⟨[], [], []⟩), (.ret, ⟨[(2, (.pd Y3)), (3, (.pd Y38))], [], []⟩)] (.seq .leaf (.seq (.seq .leaf (.seq (.seq .leaf (.lp ⟨[(5, (.pd Y3))], [], [0, 4]⟩ [((.exit 2), ⟨[], [], [0, 4]⟩), (.ret, ⟨[(2, (.pd Y3)), (3, (.pd Y38))], [], []⟩)] .leaf)) .leaf)) .leaf)))) .leaf)))
noncomputable def F_ref26_routesV (a0 : El Y23) : Option (El Y3 × El Y38) := evalF F_ref26_routesE F_ref26_routesB Try.f43.results F_ref26_routesH F_ref26_routesA F_ref26_routesR (fun y => (y.2.1, y.2.2.1)) (a0, ())
theorem F_ref26_routes_eq (a0 : El Y23) : F_ref26_routesV a0 = F_ref26_routes a0 := by kernel_rfl
theorem F_ref26_routes_ok : FnOK Try.prog 43 F_ref26_routesS := evalF_ok (E := F_ref26_routesE) (fn := Try.f43) (body := F_ref26_routesB) (hint := F_ref26_routesH) (pack := fun y => (y.2.1, y.2.2.1)) hmix (typesOk_of tab_ok rfl rfl rfl) (specsOk_of (m := [(59, [F_ref26_ValidIDS]), (60, [F_ref26_inS])]) ⟨⟨F_ref26_ValidID_ok, trivial⟩, ⟨F_ref26_in_ok, trivial⟩, trivial⟩ rfl) (by kernel_rfl) (by kernel_rfl) (by kernel_rfl) (by kernel_rfl) (by kernel_rfl) (by kernel_rfl) (fun y => rfl)
  (fun x z h => (F_ref26_routes_eq x.1).trans h)
noncomputable def F_ref26_Calls : (El Y62) → (El Y3) → (El Y3) → (El Y3) → Option (El Y38) := fun a0 a1 a2 a3 =>
  Option.bind (bif Decidable.decide ((↑(List.length a0) : Int) < (2 : Int)) then Option.some Bool.true else Option.some (Decidable.decide ((32 : Int) < (↑(List.length a0) : Int)))) fun x0 =>
    bif x0 then Option.some (5 : Int)
    else
      Option.bind
        (Tr.run
          (fun s1 =>
            bif Decidable.decide (s1 < (↑(List.length a0) : Int)) then
              Option.bind (Tr.idx a0 s1) fun x2 =>
                Option.bind (bif Decidable.decide (x2.fst < (0 : Int)) then Option.some Bool.true else Option.some (Decidable.decide (a1 ≤ x2.fst))) fun x3 =>
                  bif x3 then Option.some (Sum.inr (Sum.inr (9 : Int)))
                  else
                    Option.bind
                      (bif Decidable.decide ((0 : Int) < s1) then Option.bind (Tr.idx a0 (Go.IntKind.wrap Go.IntKind.i64 (s1 - (1 : Int)))) fun x4 => Option.some (Decidable.decide (x4.fst = x2.fst))
                      else Option.some Bool.false)
                      fun x5 =>
                      bif x5 then Option.some (Sum.inr (Sum.inr (13 : Int)))
                      else
                        Option.bind
                          (bif Decidable.decide (x2.snd.fst < a2) then Option.some Bool.true
                          else
                            bif Decidable.decide (x2.snd.snd.fst < x2.snd.fst) then Option.some Bool.true
                            else
                              bif Decidable.decide (a3 < x2.snd.snd.fst) then Option.some Bool.true
                              else
                                bif Decidable.decide ((0 : Int) < s1) then
                                  Option.bind (Tr.idx a0 (Go.IntKind.wrap Go.IntKind.i64 (s1 - (1 : Int)))) fun x6 => Option.some (Decidable.decide (x2.snd.fst < x6.snd.snd.fst))
                                else Option.some Bool.false)
                          fun x7 => bif x7 then Option.some (Sum.inr (Sum.inr (10 : Int))) else Option.some (Sum.inl (Go.IntKind.wrap Go.IntKind.i64 (s1 + (1 : Int))))
            else Option.some (Sum.inr (Sum.inl ())))
          (0 : Int))
        fun x8 => Sum.elim (fun _ => Option.some (0 : Int)) (fun y10 => Option.some y10) x8
abbrev F_ref26_CallsA : Pats := (.cons (.pd Y62) (.cons (.pd Y3) (.cons (.pd Y3) (.cons (.pd Y3) .nil))))
abbrev F_ref26_CallsR : Pats := (.cons (.pd Y38) .nil)
noncomputable def F_ref26_CallsS : Tr.Spec := { args := F_ref26_CallsA, res := F_ref26_CallsR, fns := [], α := El Y38, f := fun x => F_ref26_Calls x.1 x.2.1 x.2.2.1 x.2.2.2.1, unp := fun z => (((), (), (), (), ()), (z, ())) }
noncomputable def F_ref26_CallsE : Env := { ty := fun n => tyTab.lookup n, mty := fun n => mapTab.lookup n, pk := fun n => (pkTab.lookup n).getD 0, rw := fun n => [].contains n, specs := fun n => (([] : List (Nat × List Tr.Spec)).lookup n).getD [], nt := 83, ks := [] }
noncomputable def F_ref26_CallsB : Code := match Try.f61.body with | some b => b | none => .skip
def F_ref26_CallsH : Hint := (.seq .leaf (.seq (.seq (.reg [(18, Y4)]) .leaf) (.seq (.seq .leaf (.lp ⟨[(9, (.pd Y3))], [], [0, 1, 2, 3]⟩ [((.exit 0), ⟨[], [], []⟩), (.ret, ⟨[(8, (.pd Y38))], [], []⟩)] (.seq .leaf (.seq (.seq .leaf (.seq (.seq (.reg [(37, Y4)]) .leaf) (.seq (.seq (.reg [(50, Y4)]) .leaf) (.seq (.reg [(82, Y4)]) .leaf)))) .leaf)))) .leaf)))
noncomputable def F_ref26_CallsV (a0 : El Y62) (a1 : El Y3) (a2 : El Y3) (a3 : El Y3) : Option (El Y38) := evalF F_ref26_CallsE F_ref26_CallsB Try.f61.results F_ref26_CallsH F_ref26_CallsA F_ref26_CallsR (fun y => y.2.1) (a0, a1, a2, a3, ())
theorem F_ref26_Calls_eq (a0 : El Y62) (a1 : El Y3) (a2 : El Y3) (a3 : El Y3) : F_ref26_CallsV a0 a1 a2 a3 = F_ref26_Calls a0 a1 a2 a3 := by kernel_rfl
theorem F_ref26_Calls_ok : FnOK Try.prog 61 F_ref26_CallsS := evalF_ok (E := F_ref26_CallsE) (fn := Try.f61) (body := F_ref26_CallsB) (hint := F_ref26_CallsH) (pack := fun y => y.2.1) hmix (typesOk_of tab_ok rfl rfl rfl) (specsOk_of (m := []) trivial rfl) (by kernel_rfl) (by kernel_rfl) (by kernel_rfl) (by kernel_rfl) (by kernel_rfl) (by kernel_rfl) (fun y => rfl)
  (fun x z h => (F_ref26_Calls_eq x.1 x.2.1 x.2.2.1 x.2.2.2.1).trans h)
noncomputable def F_ref26_run : (El Y31) → (El Y3) → Option (El Y38) := fun a0 a1 =>
  Option.bind (Tr.idx a0.snd.snd.fst a1) fun x0 =>
    Option.bind (F_ref26_ValidID x0.snd.snd.snd.fst) fun x1 =>
      bif !x1 then Option.some (12 : Int)
      else
        Option.bind (bif Decidable.decide (x0.fst < (-1 : Int)) then Option.some Bool.true else Option.some (Decidable.decide (x0.snd.snd.fst < (0 : Int)))) fun x2 =>
          bif x2 then Option.some (2 : Int)
          else
            Option.bind (F_ref26_in x0.snd.fst (0 : Int) (36524 : Int)) fun x3 =>
              bif !x3 then Option.some (11 : Int)
              else
                Option.bind
                  (bif Decidable.decide (x0.snd.snd.snd.snd.fst < (0 : Int)) then Option.some Bool.true
                  else Option.some (Decidable.decide ((↑(List.length a0.snd.fst) : Int) ≤ x0.snd.snd.snd.snd.fst)))
                  fun x4 =>
                  bif x4 then Option.some (9 : Int)
                  else
                    Option.bind (F_ref26_Calls x0.snd.snd.snd.snd.snd.snd.snd.fst (↑(List.length a0.fst) : Int) (0 : Int) (3155932800 : Int)) fun x5 =>
                      bif !Decidable.decide (x5 = (0 : Int)) then Option.some x5
                      else
                        Option.bind
                          (Tr.run
                            (fun s6 =>
                              bif Decidable.decide (s6 < a1) then
                                Option.bind (Tr.idx a0.snd.snd.fst s6) fun x7 =>
                                  Option.bind
                                    (bif Decidable.decide (x7.snd.snd.snd.fst = x0.snd.snd.snd.fst) then
                                      bif Decidable.decide (x7.snd.fst = x0.snd.fst) then Option.some (Decidable.decide (x7.snd.snd.fst = x0.snd.snd.fst)) else Option.some Bool.false
                                    else Option.some Bool.false)
                                    fun x8 => bif x8 then Option.some (Sum.inr (Sum.inr (6 : Int))) else Option.some (Sum.inl (Go.IntKind.wrap Go.IntKind.i64 (s6 + (1 : Int))))
                              else Option.some (Sum.inr (Sum.inl ())))
                            (0 : Int))
                          fun x9 => Sum.elim (fun _ => Option.some (0 : Int)) (fun y11 => Option.some y11) x9
abbrev F_ref26_runA : Pats := (.cons (.pd Y31) (.cons (.pd Y3) .nil))
abbrev F_ref26_runR : Pats := (.cons (.pd Y38) .nil)
noncomputable def F_ref26_runS : Tr.Spec := { args := F_ref26_runA, res := F_ref26_runR, fns := [], α := El Y38, f := fun x => F_ref26_run x.1 x.2.1, unp := fun z => (((), (), ()), (z, ())) }
noncomputable def F_ref26_runE : Env := { ty := fun n => tyTab.lookup n, mty := fun n => mapTab.lookup n, pk := fun n => (pkTab.lookup n).getD 0, rw := fun n => [].contains n, specs := fun n => (([(59, [F_ref26_ValidIDS]), (60, [F_ref26_inS]), (61, [F_ref26_CallsS])] : List (Nat × List Tr.Spec)).lookup n).getD [], nt := 79, ks := [] }
noncomputable def F_ref26_runB : Code := match Try.f44.body with | some b => b | none => .skip
def F_ref26_runH : Hint := (.seq .leaf (.seq .leaf (.seq .leaf (.seq (.seq (.reg [(25, Y4)]) .leaf) (.seq .leaf (.seq (.seq (.reg [(40, Y4)]) .leaf) (.seq .leaf (.seq .leaf (.seq (.seq .leaf (.lp ⟨[(7, (.pd Y3))], [], [1, 2, 5]⟩ [((.exit 0), ⟨[], [], []⟩), (.ret, ⟨[(4, (.pd Y38))], [], []⟩)] (.seq .leaf (.seq (.seq .leaf (.seq (.reg [(78, Y4)]) .leaf)) .leaf)))) .leaf)))))))))
noncomputable def F_ref26_runV (a0 : El Y31) (a1 : El Y3) : Option (El Y38) := evalF F_ref26_runE F_ref26_runB Try.f44.results F_ref26_runH F_ref26_runA F_ref26_runR (fun y => y.2.1) (a0, a1, ())
theorem F_ref26_run_eq (a0 : El Y31) (a1 : El Y3) : F_ref26_runV a0 a1 = F_ref26_run a0 a1 := by kernel_rfl
theorem F_ref26_run_ok : FnOK Try.prog 44 F_ref26_runS := evalF_ok (E := F_ref26_runE) (fn := Try.f44) (body := F_ref26_runB) (hint := F_ref26_runH) (pack := fun y => y.2.1) hmix (typesOk_of tab_ok rfl rfl rfl) (specsOk_of (m := [(59, [F_ref26_ValidIDS]), (60, [F_ref26_inS]), (61, [F_ref26_CallsS])]) ⟨⟨F_ref26_ValidID_ok, trivial⟩, ⟨F_ref26_in_ok, trivial⟩, ⟨F_ref26_Calls_ok, trivial⟩, trivial⟩ rfl) (by kernel_rfl) (by kernel_rfl) (by kernel_rfl) (by kernel_rfl) (by kernel_rfl) (by kernel_rfl) (fun y => rfl)
  (fun x z h => (F_ref26_run_eq x.1 x.2.1).trans h)
noncomputable def F_ref26_leads : (El Y31) → (El Y3) → (El Y3) → (El Y3) → Option (El Y4) := fun a0 a1 a2 a3 =>
  Option.bind
    (Tr.run
      (fun s0 =>
        bif Decidable.decide (s0.snd ≤ a1) then
          Option.bind
            (Tr.run
              (fun s1 =>
                bif Decidable.decide (s1.snd < a1) then
                  Option.bind
                    (Option.bind (Tr.idx a0.snd.snd.snd.fst s1.snd) fun x2 =>
                      bif x2.snd.snd.snd.snd.fst then Option.bind (Tr.idx a0.snd.snd.snd.fst s1.snd) fun x3 => Option.some (Decidable.decide (x3.fst = s0.fst)) else Option.some Bool.false)
                    fun x4 =>
                    bif x4 then Option.bind (Tr.idx a0.snd.snd.snd.fst s1.snd) fun x5 => Option.some (Sum.inl (x5.snd.snd.fst, Go.IntKind.wrap Go.IntKind.i64 (s1.snd + (1 : Int))))
                    else Option.some (Sum.inl (s1.fst, Go.IntKind.wrap Go.IntKind.i64 (s1.snd + (1 : Int))))
                else Option.some (Sum.inr s1.fst))
              ((-1 : Int), (0 : Int)))
            fun x6 => bif Decidable.decide (x6 = a3) then Option.some (Sum.inr (Sum.inr Bool.true)) else Option.some (Sum.inl (x6, Go.IntKind.wrap Go.IntKind.i64 (s0.snd + (1 : Int))))
        else Option.some (Sum.inr (Sum.inl ())))
      (a2, (0 : Int)))
    fun x7 => Sum.elim (fun _ => Option.some Bool.false) (fun y9 => Option.some y9) x7
abbrev F_ref26_leadsA : Pats := (.cons (.pd Y31) (.cons (.pd Y3) (.cons (.pd Y3) (.cons (.pd Y3) .nil))))
abbrev F_ref26_leadsR : Pats := (.cons (.pd Y4) .nil)
noncomputable def F_ref26_leadsS : Tr.Spec := { args := F_ref26_leadsA, res := F_ref26_leadsR, fns := [], α := El Y4, f := fun x => F_ref26_leads x.1 x.2.1 x.2.2.1 x.2.2.2.1, unp := fun z => (((), (), (), (), ()), (z, ())) }
noncomputable def F_ref26_leadsE : Env := { ty := fun n => tyTab.lookup n, mty := fun n => mapTab.lookup n, pk := fun n => (pkTab.lookup n).getD 0, rw := fun n => [].contains n, specs := fun n => (([] : List (Nat × List Tr.Spec)).lookup n).getD [], nt := 48, ks := [] }
noncomputable def F_ref26_leadsB : Code := match Try.f62.body with | some b => b | none => .skip
def F_ref26_leadsH : Hint := (.seq .leaf (.seq (.seq .leaf (.lp ⟨[(2, (.pd Y3)), (9, (.pd Y3))], [], [1, 3, 4]⟩ [((.exit 0), ⟨[], [], []⟩), (.ret, ⟨[(8, (.pd Y4))], [], []⟩)] (.seq .leaf (.seq (.seq .leaf (.seq (.seq .leaf (.lp ⟨[(10, (.pd Y3)), (11, (.pd Y3))], [], [1, 2, 3, 4, 9]⟩ [((.exit 2), ⟨[(10, (.pd Y3))], [], [1, 3, 4, 9]⟩)] (.seq .leaf (.seq (.seq (.reg [(37, Y4)]) .leaf) .leaf)))) .leaf)) .leaf)))) .leaf))
noncomputable def F_ref26_leadsV (a0 : El Y31) (a1 : El Y3) (a2 : El Y3) (a3 : El Y3) : Option (El Y4) := evalF F_ref26_leadsE F_ref26_leadsB Try.f62.results F_ref26_leadsH F_ref26_leadsA F_ref26_leadsR (fun y => y.2.1) (a0, a1, a2, a3, ())
theorem F_ref26_leads_eq (a0 : El Y31) (a1 : El Y3) (a2 : El Y3) (a3 : El Y3) : F_ref26_leadsV a0 a1 a2 a3 = F_ref26_leads a0 a1 a2 a3 := by kernel_rfl
theorem F_ref26_leads_ok : FnOK Try.prog 62 F_ref26_leadsS := evalF_ok (E := F_ref26_leadsE) (fn := Try.f62) (body := F_ref26_leadsB) (hint := F_ref26_leadsH) (pack := fun y => y.2.1) hmix (typesOk_of tab_ok rfl rfl rfl) (specsOk_of (m := []) trivial rfl) (by kernel_rfl) (by kernel_rfl) (by kernel_rfl) (by kernel_rfl) (by kernel_rfl) (by kernel_rfl) (fun y => rfl)
  (fun x z h => (F_ref26_leads_eq x.1 x.2.1 x.2.2.1 x.2.2.2.1).trans h)
noncomputable def F_ref26_link : (El Y31) → (El Y3) → Option (El Y38) := fun a0 a1 =>
  Option.bind (Tr.idx a0.snd.snd.snd.fst a1) fun x0 =>
    Option.bind
      (Option.bind (F_ref26_in x0.fst (0 : Int) (Go.IntKind.wrap Go.IntKind.i64 ((↑(List.length a0.snd.snd.fst) : Int) - (1 : Int)))) fun x1 =>
        bif !x1 then Option.some Bool.true
        else
          Option.bind (F_ref26_in x0.snd.snd.fst (0 : Int) (Go.IntKind.wrap Go.IntKind.i64 ((↑(List.length a0.snd.snd.fst) : Int) - (1 : Int)))) fun x2 =>
            bif !x2 then Option.some Bool.true else Option.some (Decidable.decide (x0.fst = x0.snd.snd.fst)))
      fun x3 =>
      bif x3 then Option.some (9 : Int)
      else
        Option.bind (Tr.idx a0.snd.snd.fst x0.fst) fun x4 =>
          Option.bind (Tr.idx a0.snd.snd.fst x0.snd.snd.fst) fun x5 =>
            Option.bind
              (Option.bind (F_ref26_in x0.snd.fst (0 : Int) (Go.IntKind.wrap Go.IntKind.i64 ((↑(List.length x4.snd.snd.snd.snd.snd.snd.snd.fst) : Int) - (1 : Int)))) fun x6 =>
                bif !x6 then Option.some Bool.true
                else
                  Option.bind (F_ref26_in x0.snd.snd.snd.fst (0 : Int) (Go.IntKind.wrap Go.IntKind.i64 ((↑(List.length x5.snd.snd.snd.snd.snd.snd.snd.fst) : Int) - (1 : Int)))) fun x7 =>
                    Option.some !x7)
              fun x8 =>
              bif x8 then Option.some (9 : Int)
              else
                Option.bind (Tr.idx x4.snd.snd.snd.snd.snd.snd.snd.fst x0.snd.fst) fun x9 =>
                  Option.bind (Tr.idx x5.snd.snd.snd.snd.snd.snd.snd.fst x0.snd.snd.snd.fst) fun x10 =>
                    bif !Decidable.decide (x9.fst = x10.fst) then Option.some (13 : Int)
                    else
                      Option.bind
                        (bif x0.snd.snd.snd.snd.fst then
                          bif !Decidable.decide (x0.snd.fst = Go.IntKind.wrap Go.IntKind.i64 ((↑(List.length x4.snd.snd.snd.snd.snd.snd.snd.fst) : Int) - (1 : Int))) then Option.some Bool.true
                          else Option.some !Decidable.decide (x0.snd.snd.snd.fst = (0 : Int))
                        else Option.some Bool.false)
                        fun x11 =>
                        bif x11 then Option.some (19 : Int)
                        else
                          Option.bind
                            (Tr.run
                              (fun s12 =>
                                bif Decidable.decide (s12 < a1) then
                                  Option.bind (Tr.idx a0.snd.snd.snd.fst s12) fun x13 =>
                                    Option.bind
                                      (bif x0.snd.snd.snd.snd.fst then
                                        bif x13.snd.snd.snd.snd.fst then
                                          bif Decidable.decide (x13.fst = x0.fst) then Option.some Bool.true else Option.some (Decidable.decide (x13.snd.snd.fst = x0.snd.snd.fst))
                                        else Option.some Bool.false
                                      else Option.some Bool.false)
                                      fun x14 => bif x14 then Option.some (Sum.inr (Sum.inr (19 : Int))) else Option.some (Sum.inl (Go.IntKind.wrap Go.IntKind.i64 (s12 + (1 : Int))))
                                else Option.some (Sum.inr (Sum.inl ())))
                              (0 : Int))
                            fun x15 =>
                            Sum.elim
                              (fun _ =>
                                Option.bind (bif x0.snd.snd.snd.snd.fst then Option.bind (F_ref26_leads a0 a1 x0.snd.snd.fst x0.fst) fun x17 => Option.some x17 else Option.some Bool.false) fun x18 =>
                                  bif x18 then Option.some (19 : Int)
                                  else
                                    Option.bind
                                      (Tr.run
                                        (fun s19 =>
                                          bif Decidable.decide (s19 < a1) then
                                            Option.bind (Tr.idx a0.snd.snd.snd.fst s19) fun x20 =>
                                              Option.bind
                                                (bif Decidable.decide (x20.fst = x0.fst) then
                                                  bif Decidable.decide (x20.snd.fst = x0.snd.fst) then
                                                    bif Decidable.decide (x20.snd.snd.fst = x0.snd.snd.fst) then Option.some (Decidable.decide (x20.snd.snd.snd.fst = x0.snd.snd.snd.fst))
                                                    else Option.some Bool.false
                                                  else Option.some Bool.false
                                                else Option.some Bool.false)
                                                fun x21 => bif x21 then Option.some (Sum.inr (Sum.inr (6 : Int))) else Option.some (Sum.inl (Go.IntKind.wrap Go.IntKind.i64 (s19 + (1 : Int))))
                                          else Option.some (Sum.inr (Sum.inl ())))
                                        (0 : Int))
                                      fun x22 => Sum.elim (fun _ => Option.some (0 : Int)) (fun y24 => Option.some y24) x22)
                              (fun y25 => Option.some y25) x15
abbrev F_ref26_linkA : Pats := (.cons (.pd Y31) (.cons (.pd Y3) .nil))
abbrev F_ref26_linkR : Pats := (.cons (.pd Y38) .nil)
noncomputable def F_ref26_linkS : Tr.Spec := { args := F_ref26_linkA, res := F_ref26_linkR, fns := [], α := El Y38, f := fun x => F_ref26_link x.1 x.2.1, unp := fun z => (((), (), ()), (z, ())) }
noncomputable def F_ref26_linkE : Env := { ty := fun n => tyTab.lookup n, mty := fun n => mapTab.lookup n, pk := fun n => (pkTab.lookup n).getD 0, rw := fun n => [].contains n, specs := fun n => (([(60, [F_ref26_inS]), (62, [F_ref26_leadsS])] : List (Nat × List Tr.Spec)).lookup n).getD [], nt := 177, ks := [] }
noncomputable def F_ref26_linkB : Code := match Try.f45.body with | some b => b | none => .skip
def F_ref26_linkH : Hint := (.seq .leaf (.seq .leaf (.seq (.seq (.reg [(41, Y4)]) .leaf) (.seq .leaf (.seq (.seq (.reg [(71, Y4)]) .leaf) (.seq .leaf (.seq (.seq (.reg [(99, Y4)]) .leaf) (.seq (.seq .leaf (.lp ⟨[(8, (.pd Y3))], [], [1, 2, 5]⟩ [((.exit 0), ⟨[], [], [1, 2, 5]⟩), (.ret, ⟨[(4, (.pd Y38))], [], []⟩)] (.seq .leaf (.seq (.seq .leaf (.seq (.reg [(129, Y4)]) .leaf)) .leaf)))) (.seq (.seq (.reg [(140, Y4)]) .leaf) (.seq (.seq .leaf (.lp ⟨[(10, (.pd Y3))], [], [1, 2, 5]⟩ [((.exit 2), ⟨[], [], []⟩), (.ret, ⟨[(4, (.pd Y38))], [], []⟩)] (.seq .leaf (.seq (.seq .leaf (.seq (.reg [(176, Y4)]) .leaf)) .leaf)))) .leaf))))))))))
noncomputable def F_ref26_linkV (a0 : El Y31) (a1 : El Y3) : Option (El Y38) := evalF F_ref26_linkE F_ref26_linkB Try.f45.results F_ref26_linkH F_ref26_linkA F_ref26_linkR (fun y => y.2.1) (a0, a1, ())
theorem F_ref26_link_eq (a0 : El Y31) (a1 : El Y3) : F_ref26_linkV a0 a1 = F_ref26_link a0 a1 := by kernel_rfl
theorem F_ref26_link_ok : FnOK Try.prog 45 F_ref26_linkS := evalF_ok (E := F_ref26_linkE) (fn := Try.f45) (body := F_ref26_linkB) (hint := F_ref26_linkH) (pack := fun y => y.2.1) hmix (typesOk_of tab_ok rfl rfl rfl) (specsOk_of (m := [(60, [F_ref26_inS]), (62, [F_ref26_leadsS])]) ⟨⟨F_ref26_in_ok, trivial⟩, ⟨F_ref26_leads_ok, trivial⟩, trivial⟩ rfl) (by kernel_rfl) (by kernel_rfl) (by kernel_rfl) (by kernel_rfl) (by kernel_rfl) (by kernel_rfl) (fun y => rfl)
  (fun x z h => (F_ref26_link_eq x.1 x.2.1).trans h)
noncomputable def F_ref26_Shortest : (El Y26) → (El Y3) → (El Y4) → Option (El Y138) := fun a0 a1 a2 =>
  Option.bind
    (Tr.run
      (fun s0 =>
        bif Decidable.decide (s0.snd < a1) then
          Option.bind
            (Tr.run
              (fun s1 =>
                bif Decidable.decide (s1.snd.snd < a1) then
                  Option.bind (Tr.guardB (Decidable.decide (List.length s1.snd.fst + List.length [(1099511627776 : Int)] ≤ Tr.maxApp))) fun _ =>
                    Option.some (Sum.inl (s1.fst, s1.snd.fst ++ [(1099511627776 : Int)], Go.IntKind.wrap Go.IntKind.i64 (s1.snd.snd + (1 : Int))))
                else Option.some (Sum.inr (s1.fst, s1.snd.fst)))
              (s0.fst, [], (0 : Int)))
            fun x3 =>
            Option.bind (Tr.guardB (Decidable.decide (List.length x3.fst + List.length [x3.snd] ≤ Tr.maxApp))) fun _ =>
              Option.some (Sum.inl (x3.fst ++ [x3.snd], Go.IntKind.wrap Go.IntKind.i64 (s0.snd + (1 : Int))))
        else Option.some (Sum.inr s0.fst))
      ([], (0 : Int)))
    fun x5 =>
    Option.bind
      (Tr.run
        (fun s6 =>
          bif Decidable.decide (s6.snd < (↑(List.length a0) : Int)) then
            Option.bind (Tr.idx a0 s6.snd) fun x7 =>
              Option.bind (bif x7.snd.snd.snd.fst then Option.some Bool.true else Option.some !a2) fun x8 =>
                bif x8 then
                  Option.bind (Tr.inb x7.fst (List.length s6.fst)) fun x9 =>
                    Option.bind s6.fst[x9]? fun _ =>
                      Option.bind (Tr.inb x7.fst (List.length s6.fst)) fun x11 =>
                        Option.bind s6.fst[x11]? fun _ =>
                          Option.bind (Tr.idx s6.fst (↑x11 : Int)) fun x13 =>
                            Option.bind (Tr.inb x7.snd.fst (List.length x13)) fun x14 =>
                              Option.bind (Tr.idx s6.fst (↑x11 : Int)) fun x15 =>
                                Option.bind x15[x14]? fun x16 =>
                                  Option.bind (Tr.idx s6.fst (↑x9 : Int)) fun x17 =>
                                    Option.bind (Tr.inb x7.snd.fst (List.length x17)) fun x18 =>
                                      Option.bind (Tr.idx s6.fst (↑x9 : Int)) fun x19 =>
                                        Option.bind x19[x18]? fun _ =>
                                          Option.some
                                            (Sum.inl (List.set s6.fst (Int.toNat (↑x9 : Int)) (List.set x19 x18 (Tr.imin x16 x7.snd.snd.fst)), Go.IntKind.wrap Go.IntKind.i64 (s6.snd + (1 : Int))))
                else Option.some (Sum.inl (s6.fst, Go.IntKind.wrap Go.IntKind.i64 (s6.snd + (1 : Int))))
          else Option.some (Sum.inr s6.fst))
        (x5, (0 : Int)))
      fun x21 =>
      Option.bind
        (Tr.run
          (fun s22 =>
            bif Decidable.decide (s22.snd < a1) then
              Option.bind
                (Tr.run
                  (fun s23 =>
                    bif Decidable.decide (s23.snd < a1) then
                      Option.bind
                        (Tr.run
                          (fun s24 =>
                            bif Decidable.decide (s24.snd < a1) then
                              Option.bind (Tr.inb s23.snd (List.length s24.fst)) fun x25 =>
                                Option.bind s24.fst[x25]? fun _ =>
                                  Option.bind (Tr.inb s23.snd (List.length s24.fst)) fun x27 =>
                                    Option.bind s24.fst[x27]? fun _ =>
                                      Option.bind (Tr.idx s24.fst (↑x27 : Int)) fun x29 =>
                                        Option.bind (Tr.inb s24.snd (List.length x29)) fun x30 =>
                                          Option.bind (Tr.idx s24.fst (↑x27 : Int)) fun x31 =>
                                            Option.bind x31[x30]? fun x32 =>
                                              Option.bind (Tr.inb s23.snd (List.length s24.fst)) fun x33 =>
                                                Option.bind s24.fst[x33]? fun _ =>
                                                  Option.bind (Tr.idx s24.fst (↑x33 : Int)) fun x35 =>
                                                    Option.bind (Tr.inb s22.snd (List.length x35)) fun x36 =>
                                                      Option.bind (Tr.idx s24.fst (↑x33 : Int)) fun x37 =>
                                                        Option.bind x37[x36]? fun x38 =>
                                                          Option.bind (Tr.inb s22.snd (List.length s24.fst)) fun x39 =>
                                                            Option.bind s24.fst[x39]? fun _ =>
                                                              Option.bind (Tr.idx s24.fst (↑x39 : Int)) fun x41 =>
                                                                Option.bind (Tr.inb s24.snd (List.length x41)) fun x42 =>
                                                                  Option.bind (Tr.idx s24.fst (↑x39 : Int)) fun x43 =>
                                                                    Option.bind x43[x42]? fun x44 =>
                                                                      Option.bind (Tr.idx s24.fst (↑x25 : Int)) fun x45 =>
                                                                        Option.bind (Tr.inb s24.snd (List.length x45)) fun x46 =>
                                                                          Option.bind (Tr.idx s24.fst (↑x25 : Int)) fun x47 =>
                                                                            Option.bind x47[x46]? fun _ =>
                                                                              Option.some
                                                                                (Sum.inl
                                                                                  (List.set s24.fst (Int.toNat (↑x25 : Int))
                                                                                      (List.set x47 x46 (Tr.imin x32 (Go.IntKind.wrap Go.IntKind.i64 (x38 + x44)))),
                                                                                    Go.IntKind.wrap Go.IntKind.i64 (s24.snd + (1 : Int))))
                            else Option.some (Sum.inr s24.fst))
                          (s23.fst, (0 : Int)))
                        fun x49 => Option.some (Sum.inl (x49, Go.IntKind.wrap Go.IntKind.i64 (s23.snd + (1 : Int))))
                    else Option.some (Sum.inr s23.fst))
                  (s22.fst, (0 : Int)))
                fun x50 => Option.some (Sum.inl (x50, Go.IntKind.wrap Go.IntKind.i64 (s22.snd + (1 : Int))))
            else Option.some (Sum.inr s22.fst))
          (x21, (0 : Int)))
        fun x51 => Option.some x51
abbrev F_ref26_ShortestA : Pats := (.cons (.pd Y26) (.cons (.pd Y3) (.cons (.pd Y4) .nil)))
abbrev F_ref26_ShortestR : Pats := (.cons (.pd Y138) .nil)
noncomputable def F_ref26_ShortestS : Tr.Spec := { args := F_ref26_ShortestA, res := F_ref26_ShortestR, fns := [], α := El Y138, f := fun x => F_ref26_Shortest x.1 x.2.1 x.2.2.1, unp := fun z => (((), (), (), ()), (z, ())) }
noncomputable def F_ref26_ShortestE : Env := { ty := fun n => tyTab.lookup n, mty := fun n => mapTab.lookup n, pk := fun n => (pkTab.lookup n).getD 0, rw := fun n => [138].contains n, specs := fun n => (([] : List (Nat × List Tr.Spec)).lookup n).getD [], nt := 116, ks := [] }
noncomputable def F_ref26_ShortestB : Code := match Try.f71.body with | some b => b | none => .skip
def F_ref26_ShortestH : Hint := (.seq .leaf (.seq .leaf (.seq (.seq .leaf (.lp ⟨[(7, (.rows Y3 false)), (8, (.pd Y3))], [], [0, 1, 2]⟩ [((.exit 0), ⟨[(7, (.rows Y3 false))], [], [0, 1, 2]⟩)] (.seq .leaf (.seq (.seq .leaf (.seq (.seq .leaf (.lp ⟨[(7, (.rows Y3 false)), (9, (.own Y3 false)), (10, (.pd Y3))], [], [0, 1, 2, 8]⟩ [((.exit 2), ⟨[(7, (.rows Y3 false)), (9, (.own Y3 false))], [], [0, 1, 2, 8]⟩)] .leaf)) .leaf)) .leaf)))) (.seq (.seq .leaf (.lp ⟨[(7, (.rows Y3 false)), (11, (.pd Y3))], [], [0, 1, 2]⟩ [((.exit 4), ⟨[(7, (.rows Y3 false))], [], [1]⟩)] (.seq .leaf (.seq (.seq .leaf (.seq (.reg [(50, Y4)]) .leaf)) .leaf)))) (.seq (.seq .leaf (.lp ⟨[(7, (.rows Y3 false)), (13, (.pd Y3))], [], [1]⟩ [((.exit 6), ⟨[(7, (.rows Y3 false))], [], []⟩)] (.seq .leaf (.seq (.seq .leaf (.lp ⟨[(7, (.rows Y3 false)), (14, (.pd Y3))], [], [1, 13]⟩ [((.exit 8), ⟨[(7, (.rows Y3 false))], [], [1, 13]⟩)] (.seq .leaf (.seq (.seq .leaf (.lp ⟨[(7, (.rows Y3 false)), (15, (.pd Y3))], [], [1, 13, 14]⟩ [((.exit 10), ⟨[(7, (.rows Y3 false))], [], [1, 13, 14]⟩)] .leaf)) .leaf)))) .leaf)))) .leaf)))))
noncomputable def F_ref26_ShortestV (a0 : El Y26) (a1 : El Y3) (a2 : El Y4) : Option (El Y138) := evalF F_ref26_ShortestE F_ref26_ShortestB Try.f71.results F_ref26_ShortestH F_ref26_ShortestA F_ref26_ShortestR (fun y => y.2.1) (a0, a1, a2, ())
theorem F_ref26_Shortest_eq (a0 : El Y26) (a1 : El Y3) (a2 : El Y4) : F_ref26_ShortestV a0 a1 a2 = F_ref26_Shortest a0 a1 a2 := by kernel_rfl
theorem F_ref26_Shortest_ok : FnOK Try.prog 71 F_ref26_ShortestS := evalF_ok (E := F_ref26_ShortestE) (fn := Try.f71) (body := F_ref26_ShortestB) (hint := F_ref26_ShortestH) (pack := fun y => y.2.1) hmix (typesOk_of tab_ok rfl rfl rfl) (specsOk_of (m := []) trivial rfl) (by kernel_rfl) (by kernel_rfl) (by kernel_rfl) (by kernel_rfl) (by kernel_rfl) (by kernel_rfl) (fun y => rfl)
  (fun x z h => (F_ref26_Shortest_eq x.1 x.2.1 x.2.2.1).trans h)
noncomputable def F_ref26_Closed : (El Y26) → (El Y3) → Option (El Y26) := fun a0 a1 =>
  Option.bind (F_ref26_Shortest a0 a1 Bool.false) fun x0 =>
    Option.bind (F_ref26_Shortest a0 a1 Bool.true) fun x1 =>
      Option.bind
        (Tr.run
          (fun s2 =>
            bif Decidable.decide (s2.snd < a1) then
              Option.bind
                (Tr.run
                  (fun s3 =>
                    bif Decidable.decide (s3.snd < a1) then
                      Option.bind
                        (bif Decidable.decide (s2.snd = s3.snd) then Option.some Bool.true
                        else Option.bind (Tr.idx x0 s2.snd) fun x4 => Option.bind (Tr.idx x4 s3.snd) fun x5 => Option.some (Decidable.decide ((14400 : Int) < x5)))
                        fun x6 =>
                        bif x6 then Option.some (Sum.inl (s3.fst, Go.IntKind.wrap Go.IntKind.i64 (s3.snd + (1 : Int))))
                        else
                          Option.bind (Tr.idx x0 s2.snd) fun x7 =>
                            Option.bind (Tr.idx x7 s3.snd) fun x8 =>
                              Option.bind (Tr.idx x1 s2.snd) fun x9 =>
                                Option.bind (Tr.idx x9 s3.snd) fun x10 =>
                                  Option.bind (Tr.idx x0 s2.snd) fun x11 =>
                                    Option.bind (Tr.idx x11 s3.snd) fun x12 =>
                                      Option.bind (Tr.guardB (Decidable.decide (List.length s3.fst + List.length [(s2.snd, s3.snd, x8, Decidable.decide (x10 = x12), ())] ≤ Tr.maxApp))) fun _ =>
                                        Option.bind
                                          (Option.bind (Tr.idx x1 s2.snd) fun x14 =>
                                            Option.bind (Tr.idx x14 s3.snd) fun x15 =>
                                              Option.bind (Tr.idx x0 s2.snd) fun x16 =>
                                                Option.bind (Tr.idx x16 s3.snd) fun x17 =>
                                                  bif Decidable.decide (x17 < x15) then
                                                    Option.bind (Tr.idx x1 s2.snd) fun x18 => Option.bind (Tr.idx x18 s3.snd) fun x19 => Option.some (Decidable.decide (x19 ≤ (14400 : Int)))
                                                  else Option.some Bool.false)
                                          fun x20 =>
                                          bif x20 then
                                            Option.bind (Tr.idx x1 s2.snd) fun x21 =>
                                              Option.bind (Tr.idx x21 s3.snd) fun x22 =>
                                                Option.bind
                                                  (Tr.guardB
                                                    (Decidable.decide
                                                      (List.length (s3.fst ++ [(s2.snd, s3.snd, x8, Decidable.decide (x10 = x12), ())]) + List.length [(s2.snd, s3.snd, x22, Bool.true, ())] ≤
                                                        Tr.maxApp)))
                                                  fun _ =>
                                                  Option.some
                                                    (Sum.inl
                                                      (s3.fst ++ [(s2.snd, s3.snd, x8, Decidable.decide (x10 = x12), ())] ++ [(s2.snd, s3.snd, x22, Bool.true, ())],
                                                        Go.IntKind.wrap Go.IntKind.i64 (s3.snd + (1 : Int))))
                                          else Option.some (Sum.inl (s3.fst ++ [(s2.snd, s3.snd, x8, Decidable.decide (x10 = x12), ())], Go.IntKind.wrap Go.IntKind.i64 (s3.snd + (1 : Int))))
                    else Option.some (Sum.inr s3.fst))
                  (s2.fst, (0 : Int)))
                fun x24 => Option.some (Sum.inl (x24, Go.IntKind.wrap Go.IntKind.i64 (s2.snd + (1 : Int))))
            else Option.some (Sum.inr s2.fst))
          ([], (0 : Int)))
        fun x25 => Option.some x25
abbrev F_ref26_ClosedA : Pats := (.cons (.pd Y26) (.cons (.pd Y3) .nil))
abbrev F_ref26_ClosedR : Pats := (.cons (.pd Y26) .nil)
noncomputable def F_ref26_ClosedS : Tr.Spec := { args := F_ref26_ClosedA, res := F_ref26_ClosedR, fns := [], α := El Y26, f := fun x => F_ref26_Closed x.1 x.2.1, unp := fun z => (((), (), ()), (z, ())) }
noncomputable def F_ref26_ClosedE : Env := { ty := fun n => tyTab.lookup n, mty := fun n => mapTab.lookup n, pk := fun n => (pkTab.lookup n).getD 0, rw := fun n => [].contains n, specs := fun n => (([(71, [F_ref26_ShortestS])] : List (Nat × List Tr.Spec)).lookup n).getD [], nt := 107, ks := [] }
noncomputable def F_ref26_ClosedB : Code := match Try.f63.body with | some b => b | none => .skip
def F_ref26_ClosedH : Hint := (.seq .leaf (.seq .leaf (.seq .leaf (.seq (.seq .leaf (.lp ⟨[(7, (.own Y128 false)), (8, (.pd Y3))], [], [1, 5, 6]⟩ [((.exit 0), ⟨[(7, (.own Y128 false))], [], []⟩)] (.seq .leaf (.seq (.seq .leaf (.lp ⟨[(7, (.own Y128 false)), (9, (.pd Y3))], [], [1, 5, 6, 8]⟩ [((.exit 2), ⟨[(7, (.own Y128 false))], [], [1, 5, 6, 8]⟩)] (.seq .leaf (.seq (.seq (.seq (.reg [(39, Y4)]) .leaf) (.seq .leaf (.seq (.reg [(92, Y4)]) .leaf))) .leaf)))) .leaf)))) .leaf))))
noncomputable def F_ref26_ClosedV (a0 : El Y26) (a1 : El Y3) : Option (El Y26) := evalF F_ref26_ClosedE F_ref26_ClosedB Try.f63.results F_ref26_ClosedH F_ref26_ClosedA F_ref26_ClosedR (fun y => y.2.1) (a0, a1, ())
theorem F_ref26_Closed_eq (a0 : El Y26) (a1 : El Y3) : F_ref26_ClosedV a0 a1 = F_ref26_Closed a0 a1 := by kernel_rfl
theorem F_ref26_Closed_ok : FnOK Try.prog 63 F_ref26_ClosedS := evalF_ok (E := F_ref26_ClosedE) (fn := Try.f63) (body := F_ref26_ClosedB) (hint := F_ref26_ClosedH) (pack := fun y => y.2.1) hmix (typesOk_of tab_ok rfl rfl rfl) (specsOk_of (m := [(71, [F_ref26_ShortestS])]) ⟨⟨F_ref26_Shortest_ok, trivial⟩, trivial⟩ rfl) (by kernel_rfl) (by kernel_rfl) (by kernel_rfl) (by kernel_rfl) (by kernel_rfl) (by kernel_rfl) (fun y => rfl)
  (fun x z h => (F_ref26_Closed_eq x.1 x.2.1).trans h)
noncomputable def F_ref26_paths : (El Y31) → Option (El Y3 × El Y38) := fun a0 =>
  Option.bind
    (Tr.run
      (fun s0 =>
        bif Decidable.decide (s0 < (↑(List.length a0.snd.snd.snd.snd.fst) : Int)) then
          Option.bind (Tr.idx a0.snd.snd.snd.snd.fst s0) fun x1 =>
            Option.bind
              (Option.bind (F_ref26_in x1.fst (0 : Int) (Go.IntKind.wrap Go.IntKind.i64 ((↑(List.length a0.fst) : Int) - (1 : Int)))) fun x2 =>
                bif !x2 then Option.some Bool.true
                else
                  Option.bind (F_ref26_in x1.snd.fst (0 : Int) (Go.IntKind.wrap Go.IntKind.i64 ((↑(List.length a0.fst) : Int) - (1 : Int)))) fun x3 =>
                    bif !x3 then Option.some Bool.true else Option.some (Decidable.decide (x1.fst = x1.snd.fst)))
              fun x4 =>
              bif x4 then Option.some (Sum.inr (Sum.inr (s0, (9 : Int))))
              else
                Option.bind (F_ref26_in x1.snd.snd.fst (1 : Int) (14400 : Int)) fun x5 =>
                  bif !x5 then Option.some (Sum.inr (Sum.inr (s0, (2 : Int))))
                  else
                    Option.bind
                      (Tr.run
                        (fun s6 =>
                          bif Decidable.decide (s6 < s0) then
                            Option.bind (Tr.idx a0.snd.snd.snd.snd.fst s6) fun x7 =>
                              Option.bind
                                (bif Decidable.decide (x7.fst = x1.fst) then
                                  bif Decidable.decide (x7.snd.fst = x1.snd.fst) then Option.some (x7.snd.snd.snd.fst == x1.snd.snd.snd.fst) else Option.some Bool.false
                                else Option.some Bool.false)
                                fun x8 => bif x8 then Option.some (Sum.inr (Sum.inr (s0, (6 : Int)))) else Option.some (Sum.inl (Go.IntKind.wrap Go.IntKind.i64 (s6 + (1 : Int))))
                          else Option.some (Sum.inr (Sum.inl ())))
                        (0 : Int))
                      fun x9 => Sum.elim (fun _ => Option.some (Sum.inl (Go.IntKind.wrap Go.IntKind.i64 (s0 + (1 : Int))))) (fun y11 => Option.some (Sum.inr (Sum.inr (y11.fst, y11.snd)))) x9
        else Option.some (Sum.inr (Sum.inl ())))
      (0 : Int))
    fun x12 =>
    Sum.elim
      (fun _ =>
        Option.bind (F_ref26_Closed a0.snd.snd.snd.snd.fst (↑(List.length a0.fst) : Int)) fun x14 =>
          bif !Decidable.decide ((↑(List.length x14) : Int) = (↑(List.length a0.snd.snd.snd.snd.fst) : Int)) then Option.some ((0 : Int), (18 : Int))
          else
            Option.bind
              (Tr.run
                (fun s15 =>
                  bif Decidable.decide (s15 < (↑(List.length x14) : Int)) then
                    Option.bind (Tr.idx x14 s15) fun x16 =>
                      Option.bind (Tr.idx a0.snd.snd.snd.snd.fst s15) fun x17 =>
                        bif
                            !(Decidable.decide (x16.fst = x17.fst) &&
                                (Decidable.decide (x16.snd.fst = x17.snd.fst) && (Decidable.decide (x16.snd.snd.fst = x17.snd.snd.fst) && x16.snd.snd.snd.fst == x17.snd.snd.snd.fst))) then
                          Option.some (Sum.inr (Sum.inr ((0 : Int), (18 : Int))))
                        else Option.some (Sum.inl (Go.IntKind.wrap Go.IntKind.i64 (s15 + (1 : Int))))
                  else Option.some (Sum.inr (Sum.inl ())))
                (0 : Int))
              fun x18 => Sum.elim (fun _ => Option.some ((0 : Int), (0 : Int))) (fun y20 => Option.some (y20.fst, y20.snd)) x18)
      (fun y21 => Option.some (y21.fst, y21.snd)) x12
abbrev F_ref26_pathsA : Pats := (.cons (.pd Y31) .nil)
abbrev F_ref26_pathsR : Pats := (.cons (.pd Y3) (.cons (.pd Y38) .nil))
noncomputable def F_ref26_pathsS : Tr.Spec := { args := F_ref26_pathsA, res := F_ref26_pathsR, fns := [], α := El Y3 × El Y38, f := fun x => F_ref26_paths x.1, unp := fun z => (((), ()), (z.1, z.2, ())) }
noncomputable def F_ref26_pathsE : Env := { ty := fun n => tyTab.lookup n, mty := fun n => mapTab.lookup n, pk := fun n => (pkTab.lookup n).getD 0, rw := fun n => [].contains n, specs := fun n => (([(60, [F_ref26_inS]), (63, [F_ref26_ClosedS])] : List (Nat × List Tr.Spec)).lookup n).getD [], nt := 111, ks := [] }
noncomputable def F_ref26_pathsB : Code := match Try.f46.body with | some b => b | none => .skip
def F_ref26_pathsH : Hint := (.seq .leaf (.seq (.seq .leaf (.lp ⟨[(4, (.pd Y3))], [], [1]⟩ [((.exit 0), ⟨[], [], [1]⟩), (.ret, ⟨[(2, (.pd Y3)), (3, (.pd Y38))], [], []⟩)] (.seq .leaf (.seq (.seq .leaf (.seq (.seq (.reg [(46, Y4)]) .leaf) (.seq .leaf (.seq .leaf (.lp ⟨[(6, (.pd Y3))], [], [1, 4, 5]⟩ [((.exit 2), ⟨[], [], [1, 4]⟩), (.ret, ⟨[(2, (.pd Y3)), (3, (.pd Y38))], [], []⟩)] (.seq .leaf (.seq (.seq .leaf (.seq (.reg [(81, Y4)]) .leaf)) .leaf))))))) .leaf)))) (.seq .leaf (.seq .leaf (.seq (.seq .leaf (.lp ⟨[(9, (.pd Y3))], [], [1, 8]⟩ [((.exit 4), ⟨[], [], []⟩), (.ret, ⟨[(2, (.pd Y3)), (3, (.pd Y38))], [], []⟩)] .leaf)) .leaf)))))
noncomputable def F_ref26_pathsV (a0 : El Y31) : Option (El Y3 × El Y38) := evalF F_ref26_pathsE F_ref26_pathsB Try.f46.results F_ref26_pathsH F_ref26_pathsA F_ref26_pathsR (fun y => (y.2.1, y.2.2.1)) (a0, ())
theorem F_ref26_paths_eq (a0 : El Y31) : F_ref26_pathsV a0 = F_ref26_paths a0 := by kernel_rfl
theorem F_ref26_paths_ok : FnOK Try.prog 46 F_ref26_pathsS := evalF_ok (E := F_ref26_pathsE) (fn := Try.f46) (body := F_ref26_pathsB) (hint := F_ref26_pathsH) (pack := fun y => (y.2.1, y.2.2.1)) hmix (typesOk_of tab_ok rfl rfl rfl) (specsOk_of (m := [(60, [F_ref26_inS]), (63, [F_ref26_ClosedS])]) ⟨⟨F_ref26_in_ok, trivial⟩, ⟨F_ref26_Closed_ok, trivial⟩, trivial⟩ rfl) (by kernel_rfl) (by kernel_rfl) (by kernel_rfl) (by kernel_rfl) (by kernel_rfl) (by kernel_rfl) (fun y => rfl)
  (fun x z h => (F_ref26_paths_eq x.1).trans h)
noncomputable def F_ref26_Fares : (El Y29) → Option (El Y3 × El Y38) := fun a0 =>
  Option.bind
    (Option.bind (F_ref26_in a0.snd.fst (0 : Int) (1000000 : Int)) fun x0 =>
      bif !x0 then Option.some Bool.true
      else
        Option.bind (F_ref26_in a0.snd.snd.fst (0 : Int) (86400 : Int)) fun x1 =>
          bif !x1 then Option.some Bool.true else Option.bind (F_ref26_in a0.snd.snd.snd.fst (0 : Int) (1000000 : Int)) fun x2 => Option.some !x2)
    fun x3 =>
    bif x3 then Option.some ((-1 : Int), (2 : Int))
    else
      bif Decidable.decide ((16 : Int) < (↑(List.length a0.fst) : Int)) then Option.some ((0 : Int), (5 : Int))
      else
        Option.bind
          (Tr.run
            (fun s4 =>
              bif Decidable.decide (s4 < (↑(List.length a0.fst) : Int)) then
                Option.bind (Tr.idx a0.fst s4) fun x5 =>
                  Option.bind (F_ref26_ValidID x5.fst) fun x6 =>
                    bif !x6 then Option.some (Sum.inr (Sum.inr (s4, (12 : Int))))
                    else
                      Option.bind
                        (Tr.run
                          (fun s7 =>
                            bif Decidable.decide (s7 < s4) then
                              Option.bind (Tr.idx a0.fst s7) fun x8 =>
                                bif Decidable.decide (x8.fst = x5.fst) then Option.some (Sum.inr (Sum.inr (s4, (6 : Int)))) else Option.some (Sum.inl (Go.IntKind.wrap Go.IntKind.i64 (s7 + (1 : Int))))
                            else Option.some (Sum.inr (Sum.inl ())))
                          (0 : Int))
                        fun x9 =>
                        Sum.elim
                          (fun _ =>
                            Option.bind
                              (Option.bind (F_ref26_in x5.snd.fst (0 : Int) (1000000 : Int)) fun x11 =>
                                bif !x11 then Option.some Bool.true
                                else
                                  Option.bind (F_ref26_in x5.snd.snd.fst (1 : Int) (8 : Int)) fun x12 =>
                                    bif !x12 then Option.some Bool.true
                                    else
                                      Option.bind (F_ref26_in x5.snd.snd.snd.fst (1 : Int) (16 : Int)) fun x13 =>
                                        bif !x13 then Option.some Bool.true
                                        else
                                          Option.bind (F_ref26_in x5.snd.snd.snd.snd.fst (0 : Int) (86400 : Int)) fun x14 =>
                                            bif !x14 then Option.some Bool.true else Option.bind (F_ref26_in x5.snd.snd.snd.snd.snd.fst (1 : Int) (255 : Int)) fun x15 => Option.some !x15)
                              fun x16 => bif x16 then Option.some (Sum.inr (Sum.inr (s4, (2 : Int)))) else Option.some (Sum.inl (Go.IntKind.wrap Go.IntKind.i64 (s4 + (1 : Int)))))
                          (fun y17 => Option.some (Sum.inr (Sum.inr (y17.fst, y17.snd)))) x9
              else Option.some (Sum.inr (Sum.inl ())))
            (0 : Int))
          fun x18 => Sum.elim (fun _ => Option.some ((0 : Int), (0 : Int))) (fun y20 => Option.some (y20.fst, y20.snd)) x18
abbrev F_ref26_FaresA : Pats := (.cons (.pd Y29) .nil)
abbrev F_ref26_FaresR : Pats := (.cons (.pd Y3) (.cons (.pd Y38) .nil))
noncomputable def F_ref26_FaresS : Tr.Spec := { args := F_ref26_FaresA, res := F_ref26_FaresR, fns := [], α := El Y3 × El Y38, f := fun x => F_ref26_Fares x.1, unp := fun z => (((), ()), (z.1, z.2, ())) }
noncomputable def F_ref26_FaresE : Env := { ty := fun n => tyTab.lookup n, mty := fun n => mapTab.lookup n, pk := fun n => (pkTab.lookup n).getD 0, rw := fun n => [].contains n, specs := fun n => (([(59, [F_ref26_ValidIDS]), (60, [F_ref26_inS])] : List (Nat × List Tr.Spec)).lookup n).getD [], nt := 88, ks := [] }
noncomputable def F_ref26_FaresB : Code := match Try.f47.body with | some b => b | none => .skip
def F_ref26_FaresH : Hint := (.seq .leaf (.seq (.seq (.reg [(22, Y4)]) .leaf) (.seq .leaf (.seq (.seq .leaf (.lp ⟨[(4, (.pd Y3))], [], [1]⟩ [((.exit 0), ⟨[], [], []⟩), (.ret, ⟨[(2, (.pd Y3)), (3, (.pd Y38))], [], []⟩)] (.seq .leaf (.seq (.seq .leaf (.seq .leaf (.seq (.seq .leaf (.lp ⟨[(6, (.pd Y3))], [], [1, 4, 5]⟩ [((.exit 2), ⟨[], [], [1, 4, 5]⟩), (.ret, ⟨[(2, (.pd Y3)), (3, (.pd Y38))], [], []⟩)] .leaf)) (.seq (.reg [(86, Y4)]) .leaf)))) .leaf)))) .leaf))))
noncomputable def F_ref26_FaresV (a0 : El Y29) : Option (El Y3 × El Y38) := evalF F_ref26_FaresE F_ref26_FaresB Try.f47.results F_ref26_FaresH F_ref26_FaresA F_ref26_FaresR (fun y => (y.2.1, y.2.2.1)) (a0, ())
theorem F_ref26_Fares_eq (a0 : El Y29) : F_ref26_FaresV a0 = F_ref26_Fares a0 := by kernel_rfl
theorem F_ref26_Fares_ok : FnOK Try.prog 47 F_ref26_FaresS := evalF_ok (E := F_ref26_FaresE) (fn := Try.f47) (body := F_ref26_FaresB) (hint := F_ref26_FaresH) (pack := fun y => (y.2.1, y.2.2.1)) hmix (typesOk_of tab_ok rfl rfl rfl) (specsOk_of (m := [(59, [F_ref26_ValidIDS]), (60, [F_ref26_inS])]) ⟨⟨F_ref26_ValidID_ok, trivial⟩, ⟨F_ref26_in_ok, trivial⟩, trivial⟩ rfl) (by kernel_rfl) (by kernel_rfl) (by kernel_rfl) (by kernel_rfl) (by kernel_rfl) (by kernel_rfl) (fun y => rfl)
  (fun x z h => (F_ref26_Fares_eq x.1).trans h)
noncomputable def F_ref26_Check : (El Y31) → Option (El Y3 × El Y3 × El Y38) := fun a0 =>
  Option.bind (F_ref26_stops a0.fst) fun x0 =>
    bif !Decidable.decide (x0.snd = (0 : Int)) then Option.some ((0 : Int), x0.fst, x0.snd)
    else
      Option.bind (F_ref26_routes a0.snd.fst) fun x1 =>
        bif !Decidable.decide (x1.snd = (0 : Int)) then Option.some ((1 : Int), x1.fst, x1.snd)
        else
          bif Decidable.decide ((1024 : Int) < (↑(List.length a0.snd.snd.fst) : Int)) then Option.some ((2 : Int), (0 : Int), (5 : Int))
          else
            Option.bind
              (Tr.run
                (fun s2 =>
                  bif Decidable.decide (s2 < (↑(List.length a0.snd.snd.fst) : Int)) then
                    Option.bind (F_ref26_run a0 s2) fun x3 =>
                      bif !Decidable.decide (x3 = (0 : Int)) then Option.some (Sum.inr (Sum.inr ((2 : Int), s2, x3))) else Option.some (Sum.inl (Go.IntKind.wrap Go.IntKind.i64 (s2 + (1 : Int))))
                  else Option.some (Sum.inr (Sum.inl ())))
                (0 : Int))
              fun x4 =>
              Sum.elim
                (fun _ =>
                  bif Decidable.decide ((1024 : Int) < (↑(List.length a0.snd.snd.snd.fst) : Int)) then Option.some ((3 : Int), (0 : Int), (5 : Int))
                  else
                    Option.bind
                      (Tr.run
                        (fun s6 =>
                          bif Decidable.decide (s6 < (↑(List.length a0.snd.snd.snd.fst) : Int)) then
                            Option.bind (F_ref26_link a0 s6) fun x7 =>
                              bif !Decidable.decide (x7 = (0 : Int)) then Option.some (Sum.inr (Sum.inr ((3 : Int), s6, x7)))
                              else Option.some (Sum.inl (Go.IntKind.wrap Go.IntKind.i64 (s6 + (1 : Int))))
                          else Option.some (Sum.inr (Sum.inl ())))
                        (0 : Int))
                      fun x8 =>
                      Sum.elim
                        (fun _ =>
                          Option.bind (F_ref26_paths a0) fun x10 =>
                            bif !Decidable.decide (x10.snd = (0 : Int)) then Option.some ((4 : Int), x10.fst, x10.snd)
                            else
                              Option.bind (F_ref26_Fares a0.snd.snd.snd.snd.snd.fst) fun x11 =>
                                bif !Decidable.decide (x11.snd = (0 : Int)) then Option.some ((5 : Int), x11.fst, x11.snd) else Option.some ((0 : Int), (0 : Int), (0 : Int)))
                        (fun y12 => Option.some (y12.fst, y12.snd.fst, y12.snd.snd)) x8)
                (fun y13 => Option.some (y13.fst, y13.snd.fst, y13.snd.snd)) x4
abbrev F_ref26_CheckA : Pats := (.cons (.pd Y31) .nil)
abbrev F_ref26_CheckR : Pats := (.cons (.pd Y3) (.cons (.pd Y3) (.cons (.pd Y38) .nil)))
noncomputable def F_ref26_CheckS : Tr.Spec := { args := F_ref26_CheckA, res := F_ref26_CheckR, fns := [], α := El Y3 × El Y3 × El Y38, f := fun x => F_ref26_Check x.1, unp := fun z => (((), ()), (z.1, z.2.1, z.2.2, ())) }
noncomputable def F_ref26_CheckE : Env := { ty := fun n => tyTab.lookup n, mty := fun n => mapTab.lookup n, pk := fun n => (pkTab.lookup n).getD 0, rw := fun n => [].contains n, specs := fun n => (([(42, [F_ref26_stopsS]), (43, [F_ref26_routesS]), (44, [F_ref26_runS]), (45, [F_ref26_linkS]), (46, [F_ref26_pathsS]), (47, [F_ref26_FaresS])] : List (Nat × List Tr.Spec)).lookup n).getD [], nt := 84, ks := [] }
noncomputable def F_ref26_CheckB : Code := match Try.f29.body with | some b => b | none => .skip
def F_ref26_CheckH : Hint := (.seq .leaf (.seq .leaf (.seq .leaf (.seq .leaf (.seq .leaf (.seq .leaf (.seq (.seq .leaf (.lp ⟨[(7, (.pd Y3))], [], [1]⟩ [((.exit 0), ⟨[], [], [1]⟩), (.ret, ⟨[(2, (.pd Y3)), (3, (.pd Y3)), (4, (.pd Y38))], [], []⟩)] .leaf)) (.seq .leaf (.seq (.seq .leaf (.lp ⟨[(8, (.pd Y3))], [], [1]⟩ [((.exit 2), ⟨[], [], [1]⟩), (.ret, ⟨[(2, (.pd Y3)), (3, (.pd Y3)), (4, (.pd Y38))], [], []⟩)] .leaf)) .leaf)))))))))
noncomputable def F_ref26_CheckV (a0 : El Y31) : Option (El Y3 × El Y3 × El Y38) := evalF F_ref26_CheckE F_ref26_CheckB Try.f29.results F_ref26_CheckH F_ref26_CheckA F_ref26_CheckR (fun y => (y.2.1, y.2.2.1, y.2.2.2.1)) (a0, ())
theorem F_ref26_Check_eq (a0 : El Y31) : F_ref26_CheckV a0 = F_ref26_Check a0 := by kernel_rfl
theorem F_ref26_Check_ok : FnOK Try.prog 29 F_ref26_CheckS := evalF_ok (E := F_ref26_CheckE) (fn := Try.f29) (body := F_ref26_CheckB) (hint := F_ref26_CheckH) (pack := fun y => (y.2.1, y.2.2.1, y.2.2.2.1)) hmix (typesOk_of tab_ok rfl rfl rfl) (specsOk_of (m := [(42, [F_ref26_stopsS]), (43, [F_ref26_routesS]), (44, [F_ref26_runS]), (45, [F_ref26_linkS]), (46, [F_ref26_pathsS]), (47, [F_ref26_FaresS])]) ⟨⟨F_ref26_stops_ok, trivial⟩, ⟨F_ref26_routes_ok, trivial⟩, ⟨F_ref26_run_ok, trivial⟩, ⟨F_ref26_link_ok, trivial⟩, ⟨F_ref26_paths_ok, trivial⟩, ⟨F_ref26_Fares_ok, trivial⟩, trivial⟩ rfl) (by kernel_rfl) (by kernel_rfl) (by kernel_rfl) (by kernel_rfl) (by kernel_rfl) (by kernel_rfl) (fun y => rfl)
  (fun x z h => (F_ref26_Check_eq x.1).trans h)
noncomputable def F_ref26_Valid : (El Y31) → Option (El Y4) := fun a0 => Option.bind (F_ref26_Check a0) fun x0 => Option.some (Decidable.decide (x0.snd.snd = (0 : Int)))
abbrev F_ref26_ValidA : Pats := (.cons (.pd Y31) .nil)
abbrev F_ref26_ValidR : Pats := (.cons (.pd Y4) .nil)
noncomputable def F_ref26_ValidS : Tr.Spec := { args := F_ref26_ValidA, res := F_ref26_ValidR, fns := [], α := El Y4, f := fun x => F_ref26_Valid x.1, unp := fun z => (((), ()), (z, ())) }
noncomputable def F_ref26_ValidE : Env := { ty := fun n => tyTab.lookup n, mty := fun n => mapTab.lookup n, pk := fun n => (pkTab.lookup n).getD 0, rw := fun n => [].contains n, specs := fun n => (([(29, [F_ref26_CheckS])] : List (Nat × List Tr.Spec)).lookup n).getD [], nt := 14, ks := [] }
noncomputable def F_ref26_ValidB : Code := match Try.f13.body with | some b => b | none => .skip
def F_ref26_ValidH : Hint := .leaf
noncomputable def F_ref26_ValidV (a0 : El Y31) : Option (El Y4) := evalF F_ref26_ValidE F_ref26_ValidB Try.f13.results F_ref26_ValidH F_ref26_ValidA F_ref26_ValidR (fun y => y.2.1) (a0, ())
theorem F_ref26_Valid_eq (a0 : El Y31) : F_ref26_ValidV a0 = F_ref26_Valid a0 := by kernel_rfl
theorem F_ref26_Valid_ok : FnOK Try.prog 13 F_ref26_ValidS := evalF_ok (E := F_ref26_ValidE) (fn := Try.f13) (body := F_ref26_ValidB) (hint := F_ref26_ValidH) (pack := fun y => y.2.1) hmix (typesOk_of tab_ok rfl rfl rfl) (specsOk_of (m := [(29, [F_ref26_CheckS])]) ⟨⟨F_ref26_Check_ok, trivial⟩, trivial⟩ rfl) (by kernel_rfl) (by kernel_rfl) (by kernel_rfl) (by kernel_rfl) (by kernel_rfl) (by kernel_rfl) (fun y => rfl)
  (fun x z h => (F_ref26_Valid_eq x.1).trans h)
noncomputable def F_ref38_Exists : (El Y31) → (El Y44) → Option (El Y4) := fun a0 a1 =>
  Option.bind (bif Decidable.decide (a1.snd.fst < (0 : Int)) then Option.some Bool.true else Option.some (Decidable.decide ((↑(List.length a0.snd.snd.fst) : Int) ≤ a1.snd.fst))) fun x0 =>
    bif x0 then Option.some Bool.false
    else
      Option.bind
        (bif Decidable.decide ((0 : Int) ≤ a1.snd.snd.fst) then
          bif Decidable.decide (a1.snd.snd.fst < a1.snd.snd.snd.fst) then
            Option.bind (Tr.idx a0.snd.snd.fst a1.snd.fst) fun x1 => Option.some (Decidable.decide (a1.snd.snd.snd.fst < (↑(List.length x1.snd.snd.snd.snd.snd.snd.snd.fst) : Int)))
          else Option.some Bool.false
        else Option.some Bool.false)
        fun x2 => Option.some x2
abbrev F_ref38_ExistsA : Pats := (.cons (.pd Y31) (.cons (.pd Y44) .nil))
abbrev F_ref38_ExistsR : Pats := (.cons (.pd Y4) .nil)
noncomputable def F_ref38_ExistsS : Tr.Spec := { args := F_ref38_ExistsA, res := F_ref38_ExistsR, fns := [], α := El Y4, f := fun x => F_ref38_Exists x.1 x.2.1, unp := fun z => (((), (), ()), (z, ())) }
noncomputable def F_ref38_ExistsE : Env := { ty := fun n => tyTab.lookup n, mty := fun n => mapTab.lookup n, pk := fun n => (pkTab.lookup n).getD 0, rw := fun n => [].contains n, specs := fun n => (([] : List (Nat × List Tr.Spec)).lookup n).getD [], nt := 39, ks := [] }
noncomputable def F_ref38_ExistsB : Code := match Try.f27.body with | some b => b | none => .skip
def F_ref38_ExistsH : Hint := (.seq .leaf (.seq (.seq (.reg [(15, Y4)]) .leaf) (.seq (.reg [(4, Y4)]) .leaf)))
noncomputable def F_ref38_ExistsV (a0 : El Y31) (a1 : El Y44) : Option (El Y4) := evalF F_ref38_ExistsE F_ref38_ExistsB Try.f27.results F_ref38_ExistsH F_ref38_ExistsA F_ref38_ExistsR (fun y => y.2.1) (a0, a1, ())
theorem F_ref38_Exists_eq (a0 : El Y31) (a1 : El Y44) : F_ref38_ExistsV a0 a1 = F_ref38_Exists a0 a1 := by kernel_rfl
theorem F_ref38_Exists_ok : FnOK Try.prog 27 F_ref38_ExistsS := evalF_ok (E := F_ref38_ExistsE) (fn := Try.f27) (body := F_ref38_ExistsB) (hint := F_ref38_ExistsH) (pack := fun y => y.2.1) hmix (typesOk_of tab_ok rfl rfl rfl) (specsOk_of (m := []) trivial rfl) (by kernel_rfl) (by kernel_rfl) (by kernel_rfl) (by kernel_rfl) (by kernel_rfl) (by kernel_rfl) (fun y => rfl)
  (fun x z h => (F_ref38_Exists_eq x.1 x.2.1).trans h)
noncomputable def F_ref38_zones : (El Y31) → (El Y44) → Option (El Y3) := fun a0 a1 =>
  Option.bind (Tr.idx a0.snd.snd.fst a1.snd.fst) fun x0 =>
    Option.bind
      (Tr.run
        (fun s1 =>
          bif Decidable.decide (s1.snd ≤ a1.snd.snd.snd.fst) then
            Option.bind (Tr.idx x0.snd.snd.snd.snd.snd.snd.snd.fst s1.snd) fun x2 =>
              Option.bind (Tr.idx a0.fst x2.fst) fun x3 =>
                Option.bind (Tr.qshl Go.IntKind.i64 (1 : Int) x3.snd.fst) fun x4 => Option.some (Sum.inl (Tr.qor Go.IntKind.i64 s1.fst x4, Go.IntKind.wrap Go.IntKind.i64 (s1.snd + (1 : Int))))
          else Option.some (Sum.inr s1.fst))
        ((0 : Int), a1.snd.snd.fst))
      fun x5 => Option.some x5
abbrev F_ref38_zonesA : Pats := (.cons (.pd Y31) (.cons (.pd Y44) .nil))
abbrev F_ref38_zonesR : Pats := (.cons (.pd Y3) .nil)
noncomputable def F_ref38_zonesS : Tr.Spec := { args := F_ref38_zonesA, res := F_ref38_zonesR, fns := [], α := El Y3, f := fun x => F_ref38_zones x.1 x.2.1, unp := fun z => (((), (), ()), (z, ())) }
noncomputable def F_ref38_zonesE : Env := { ty := fun n => tyTab.lookup n, mty := fun n => mapTab.lookup n, pk := fun n => (pkTab.lookup n).getD 0, rw := fun n => [].contains n, specs := fun n => (([] : List (Nat × List Tr.Spec)).lookup n).getD [], nt := 37, ks := [] }
noncomputable def F_ref38_zonesB : Code := match Try.f28.body with | some b => b | none => .skip
def F_ref38_zonesH : Hint := (.seq .leaf (.seq .leaf (.seq .leaf (.seq (.seq .leaf (.lp ⟨[(5, (.pd Y3)), (7, (.pd Y3))], [], [2, 3, 6]⟩ [((.exit 0), ⟨[(5, (.pd Y3))], [], []⟩)] .leaf)) .leaf))))
noncomputable def F_ref38_zonesV (a0 : El Y31) (a1 : El Y44) : Option (El Y3) := evalF F_ref38_zonesE F_ref38_zonesB Try.f28.results F_ref38_zonesH F_ref38_zonesA F_ref38_zonesR (fun y => y.2.1) (a0, a1, ())
theorem F_ref38_zones_eq (a0 : El Y31) (a1 : El Y44) : F_ref38_zonesV a0 a1 = F_ref38_zones a0 a1 := by kernel_rfl
theorem F_ref38_zones_ok : FnOK Try.prog 28 F_ref38_zonesS := evalF_ok (E := F_ref38_zonesE) (fn := Try.f28) (body := F_ref38_zonesB) (hint := F_ref38_zonesH) (pack := fun y => y.2.1) hmix (typesOk_of tab_ok rfl rfl rfl) (specsOk_of (m := []) trivial rfl) (by kernel_rfl) (by kernel_rfl) (by kernel_rfl) (by kernel_rfl) (by kernel_rfl) (by kernel_rfl) (fun y => rfl)
  (fun x z h => (F_ref38_zones_eq x.1 x.2.1).trans h)
noncomputable def F_ref38_Rides : (El Y31) → (El Y34) → Option (El Y37 × El Y38) := fun a0 a1 =>
  Option.bind (F_ref26_Valid a0) fun x0 =>
    bif !x0 then Option.some ([], (21 : Int))
    else
      Option.bind
        (Tr.run
          (fun s1 =>
            bif Decidable.decide (s1.snd < (↑(List.length a1.fst) : Int)) then
              Option.bind (Tr.idx a1.fst s1.snd) fun x2 =>
                Option.bind (bif x2.fst then Option.bind (F_ref38_Exists a0 x2) fun x3 => Option.some !x3 else Option.some Bool.false) fun x4 =>
                  bif x4 then Option.some (Sum.inr (Sum.inr ([], (9 : Int))))
                  else
                    Option.bind
                      (bif x2.snd.snd.snd.snd.snd.snd.snd.snd.fst then
                        bif !x2.fst then Option.some Bool.true
                        else
                          bif Decidable.decide (s1.snd = (0 : Int)) then Option.some Bool.true
                          else Option.bind (Tr.idx a1.fst (Go.IntKind.wrap Go.IntKind.i64 (s1.snd - (1 : Int)))) fun x5 => Option.some !x5.fst
                      else Option.some Bool.false)
                      fun x6 =>
                      bif x6 then Option.some (Sum.inr (Sum.inr ([], (19 : Int))))
                      else
                        bif !x2.fst then Option.some (Sum.inl (s1.fst, Go.IntKind.wrap Go.IntKind.i64 (s1.snd + (1 : Int))))
                        else
                          Option.bind (Tr.idx a0.snd.snd.fst x2.snd.fst) fun x7 =>
                            Option.bind (Tr.idx a0.snd.fst x7.snd.snd.snd.snd.fst) fun x8 =>
                              Option.bind (Tr.qshl Go.IntKind.i64 (1 : Int) x8.snd.fst) fun x9 =>
                                bif x2.snd.snd.snd.snd.snd.snd.snd.snd.fst then
                                  Option.bind (Tr.inb (Go.IntKind.wrap Go.IntKind.i64 ((↑(List.length s1.fst) : Int) - (1 : Int))) (List.length s1.fst)) fun x10 =>
                                    Option.bind s1.fst[x10]? fun x11 =>
                                      Option.bind
                                        (Tr.inb (Go.IntKind.wrap Go.IntKind.i64 ((↑(List.length s1.fst) : Int) - (1 : Int)))
                                          (List.length (List.set s1.fst x10 (x11.fst, x2.snd.snd.snd.snd.snd.snd.snd.fst, x11.snd.snd))))
                                        fun x12 =>
                                        Option.bind (List.set s1.fst x10 (x11.fst, x2.snd.snd.snd.snd.snd.snd.snd.fst, x11.snd.snd))[x12]? fun x13 =>
                                          Option.bind (F_ref38_zones a0 x2) fun x14 =>
                                            Option.bind
                                              (Tr.inb (Go.IntKind.wrap Go.IntKind.i64 ((↑(List.length s1.fst) : Int) - (1 : Int)))
                                                (List.length (List.set s1.fst x10 (x11.fst, x2.snd.snd.snd.snd.snd.snd.snd.fst, x11.snd.snd))))
                                              fun x15 =>
                                              Option.bind (List.set s1.fst x10 (x11.fst, x2.snd.snd.snd.snd.snd.snd.snd.fst, x11.snd.snd))[x15]? fun x16 =>
                                                Option.bind
                                                  (Tr.inb (Go.IntKind.wrap Go.IntKind.i64 ((↑(List.length s1.fst) : Int) - (1 : Int)))
                                                    (List.length
                                                      (List.set (List.set s1.fst x10 (x11.fst, x2.snd.snd.snd.snd.snd.snd.snd.fst, x11.snd.snd)) x15
                                                        (x16.fst, x16.snd.fst, Tr.qor Go.IntKind.i64 x13.snd.snd.fst x14, x16.snd.snd.snd))))
                                                  fun x17 =>
                                                  Option.bind
                                                    (List.set (List.set s1.fst x10 (x11.fst, x2.snd.snd.snd.snd.snd.snd.snd.fst, x11.snd.snd)) x15
                                                        (x16.fst, x16.snd.fst, Tr.qor Go.IntKind.i64 x13.snd.snd.fst x14, x16.snd.snd.snd))[x17]?
                                                    fun x18 =>
                                                    Option.bind
                                                      (Tr.inb (Go.IntKind.wrap Go.IntKind.i64 ((↑(List.length s1.fst) : Int) - (1 : Int)))
                                                        (List.length
                                                          (List.set (List.set s1.fst x10 (x11.fst, x2.snd.snd.snd.snd.snd.snd.snd.fst, x11.snd.snd)) x15
                                                            (x16.fst, x16.snd.fst, Tr.qor Go.IntKind.i64 x13.snd.snd.fst x14, x16.snd.snd.snd))))
                                                      fun x19 =>
                                                      Option.bind
                                                        (List.set (List.set s1.fst x10 (x11.fst, x2.snd.snd.snd.snd.snd.snd.snd.fst, x11.snd.snd)) x15
                                                            (x16.fst, x16.snd.fst, Tr.qor Go.IntKind.i64 x13.snd.snd.fst x14, x16.snd.snd.snd))[x19]?
                                                        fun x20 =>
                                                        Option.some
                                                          (Sum.inl
                                                            (List.set
                                                                (List.set (List.set s1.fst x10 (x11.fst, x2.snd.snd.snd.snd.snd.snd.snd.fst, x11.snd.snd)) x15
                                                                  (x16.fst, x16.snd.fst, Tr.qor Go.IntKind.i64 x13.snd.snd.fst x14, x16.snd.snd.snd))
                                                                x19 (x20.fst, x20.snd.fst, x20.snd.snd.fst, Tr.qor Go.IntKind.i64 x18.snd.snd.snd.fst x9, x20.snd.snd.snd.snd),
                                                              Go.IntKind.wrap Go.IntKind.i64 (s1.snd + (1 : Int))))
                                else
                                  Option.bind (F_ref38_zones a0 x2) fun x21 =>
                                    Option.bind
                                      (Tr.guardB (Decidable.decide (List.length s1.fst + List.length [(x2.snd.snd.snd.snd.snd.snd.fst, x2.snd.snd.snd.snd.snd.snd.snd.fst, x21, x9, ())] ≤ Tr.maxApp)))
                                      fun _ =>
                                      Option.some
                                        (Sum.inl (s1.fst ++ [(x2.snd.snd.snd.snd.snd.snd.fst, x2.snd.snd.snd.snd.snd.snd.snd.fst, x21, x9, ())], Go.IntKind.wrap Go.IntKind.i64 (s1.snd + (1 : Int))))
            else Option.some (Sum.inr (Sum.inl s1.fst)))
          ([], (0 : Int)))
        fun x23 => Sum.elim (fun y24 => Option.some (y24, (0 : Int))) (fun y25 => Option.some (y25.fst, y25.snd)) x23
abbrev F_ref38_RidesA : Pats := (.cons (.pd Y31) (.cons (.pd Y34) .nil))
abbrev F_ref38_RidesR : Pats := (.cons (.pd Y37) (.cons (.pd Y38) .nil))
noncomputable def F_ref38_RidesS : Tr.Spec := { args := F_ref38_RidesA, res := F_ref38_RidesR, fns := [], α := El Y37 × El Y38, f := fun x => F_ref38_Rides x.1 x.2.1, unp := fun z => (((), (), ()), (z.1, z.2, ())) }
noncomputable def F_ref38_RidesE : Env := { ty := fun n => tyTab.lookup n, mty := fun n => mapTab.lookup n, pk := fun n => (pkTab.lookup n).getD 0, rw := fun n => [].contains n, specs := fun n => (([(13, [F_ref26_ValidS]), (27, [F_ref38_ExistsS]), (28, [F_ref38_zonesS])] : List (Nat × List Tr.Spec)).lookup n).getD [], nt := 120, ks := [] }
noncomputable def F_ref38_RidesB : Code := match Try.f11.body with | some b => b | none => .skip
def F_ref38_RidesH : Hint := (.seq .leaf (.seq .leaf (.seq .leaf (.seq (.seq .leaf (.lp ⟨[(6, (.own Y46 false)), (7, (.pd Y3))], [], [2, 3]⟩ [((.exit 0), ⟨[(6, (.own Y46 false))], [], []⟩), (.ret, ⟨[(4, (.pd Y37)), (5, (.pd Y38))], [], []⟩)] (.seq .leaf (.seq (.seq .leaf (.seq (.seq (.reg [(34, Y4)]) .leaf) (.seq (.seq (.reg [(55, Y4)]) .leaf) .leaf))) .leaf)))) .leaf))))
noncomputable def F_ref38_RidesV (a0 : El Y31) (a1 : El Y34) : Option (El Y37 × El Y38) := evalF F_ref38_RidesE F_ref38_RidesB Try.f11.results F_ref38_RidesH F_ref38_RidesA F_ref38_RidesR (fun y => (y.2.1, y.2.2.1)) (a0, a1, ())
theorem F_ref38_Rides_eq (a0 : El Y31) (a1 : El Y34) : F_ref38_RidesV a0 a1 = F_ref38_Rides a0 a1 := by kernel_rfl
theorem F_ref38_Rides_ok : FnOK Try.prog 11 F_ref38_RidesS := evalF_ok (E := F_ref38_RidesE) (fn := Try.f11) (body := F_ref38_RidesB) (hint := F_ref38_RidesH) (pack := fun y => (y.2.1, y.2.2.1)) hmix (typesOk_of tab_ok rfl rfl rfl) (specsOk_of (m := [(13, [F_ref26_ValidS]), (27, [F_ref38_ExistsS]), (28, [F_ref38_zonesS])]) ⟨⟨F_ref26_Valid_ok, trivial⟩, ⟨F_ref38_Exists_ok, trivial⟩, ⟨F_ref38_zones_ok, trivial⟩, trivial⟩ rfl) (by kernel_rfl) (by kernel_rfl) (by kernel_rfl) (by kernel_rfl) (by kernel_rfl) (by kernel_rfl) (fun y => rfl)
  (fun x z h => (F_ref38_Rides_eq x.1 x.2.1).trans h)
noncomputable def F_law38_sameRides : (El Y37) → (El Y37) → Option (El Y4) := fun a0 a1 =>
  bif !Decidable.decide ((↑(List.length a0) : Int) = (↑(List.length a1) : Int)) then Option.some Bool.false
  else
    Option.bind
      (Tr.run
        (fun s0 =>
          bif Decidable.decide (s0 < (↑(List.length a0) : Int)) then
            Option.bind (Tr.idx a0 s0) fun x1 =>
              Option.bind (Tr.idx a1 s0) fun x2 =>
                bif
                    !(Decidable.decide (x1.fst = x2.fst) &&
                        (Decidable.decide (x1.snd.fst = x2.snd.fst) && (Decidable.decide (x1.snd.snd.fst = x2.snd.snd.fst) && Decidable.decide (x1.snd.snd.snd.fst = x2.snd.snd.snd.fst)))) then
                  Option.some (Sum.inr (Sum.inr Bool.false))
                else Option.some (Sum.inl (Go.IntKind.wrap Go.IntKind.i64 (s0 + (1 : Int))))
          else Option.some (Sum.inr (Sum.inl ())))
        (0 : Int))
      fun x3 => Sum.elim (fun _ => Option.some Bool.true) (fun y5 => Option.some y5) x3
abbrev F_law38_sameRidesA : Pats := (.cons (.pd Y37) (.cons (.pd Y37) .nil))
abbrev F_law38_sameRidesR : Pats := (.cons (.pd Y4) .nil)
noncomputable def F_law38_sameRidesS : Tr.Spec := { args := F_law38_sameRidesA, res := F_law38_sameRidesR, fns := [], α := El Y4, f := fun x => F_law38_sameRides x.1 x.2.1, unp := fun z => (((), (), ()), (z, ())) }
noncomputable def F_law38_sameRidesE : Env := { ty := fun n => tyTab.lookup n, mty := fun n => mapTab.lookup n, pk := fun n => (pkTab.lookup n).getD 0, rw := fun n => [].contains n, specs := fun n => (([] : List (Nat × List Tr.Spec)).lookup n).getD [], nt := 26, ks := [] }
noncomputable def F_law38_sameRidesB : Code := match Try.f12.body with | some b => b | none => .skip
def F_law38_sameRidesH : Hint := (.seq .leaf (.seq .leaf (.seq (.seq .leaf (.lp ⟨[(13, (.pd Y3))], [], [0, 1, 12]⟩ [((.exit 0), ⟨[], [], []⟩), (.ret, ⟨[(4, (.pd Y4))], [], []⟩)] .leaf)) .leaf)))
noncomputable def F_law38_sameRidesV (a0 : El Y37) (a1 : El Y37) : Option (El Y4) := evalF F_law38_sameRidesE F_law38_sameRidesB Try.f12.results F_law38_sameRidesH F_law38_sameRidesA F_law38_sameRidesR (fun y => y.2.1) (a0, a1, ())
theorem F_law38_sameRides_eq (a0 : El Y37) (a1 : El Y37) : F_law38_sameRidesV a0 a1 = F_law38_sameRides a0 a1 := by kernel_rfl
theorem F_law38_sameRides_ok : FnOK Try.prog 12 F_law38_sameRidesS := evalF_ok (E := F_law38_sameRidesE) (fn := Try.f12) (body := F_law38_sameRidesB) (hint := F_law38_sameRidesH) (pack := fun y => y.2.1) hmix (typesOk_of tab_ok rfl rfl rfl) (specsOk_of (m := []) trivial rfl) (by kernel_rfl) (by kernel_rfl) (by kernel_rfl) (by kernel_rfl) (by kernel_rfl) (by kernel_rfl) (fun y => rfl)
  (fun x z h => (F_law38_sameRides_eq x.1 x.2.1).trans h)
noncomputable def F_law38_JourneyRides : (El Y31) → (El Y34) → Option (El Y4) := fun a0 a1 =>
  Option.bind (F_law38_light a0 a1) fun x0 =>
    bif !x0 then Option.bind F_law38_exampleHolds fun x1 => Option.some x1
    else
      Option.bind (F_journey_Rides a0 a1) fun x2 =>
        Option.bind (F_ref38_Rides a0 a1) fun x3 =>
          Option.bind
            (Option.bind (F_law38_sameRides x2.fst x3.fst) fun x4 =>
              bif x4 then bif Decidable.decide (x2.snd = x3.snd) then Option.bind F_law38_exampleHolds fun x5 => Option.some x5 else Option.some Bool.false else Option.some Bool.false)
            fun x6 => Option.some x6
abbrev F_law38_JourneyRidesA : Pats := (.cons (.pd Y31) (.cons (.pd Y34) .nil))
abbrev F_law38_JourneyRidesR : Pats := (.cons (.pd Y4) .nil)
noncomputable def F_law38_JourneyRidesS : Tr.Spec := { args := F_law38_JourneyRidesA, res := F_law38_JourneyRidesR, fns := [], α := El Y4, f := fun x => F_law38_JourneyRides x.1 x.2.1, unp := fun z => (((), (), ()), (z, ())) }
noncomputable def F_law38_JourneyRidesE : Env := { ty := fun n => tyTab.lookup n, mty := fun n => mapTab.lookup n, pk := fun n => (pkTab.lookup n).getD 0, rw := fun n => [].contains n, specs := fun n => (([(8, [F_law38_lightS]), (9, [F_law38_exampleHoldsS]), (10, [F_journey_RidesS]), (11, [F_ref38_RidesS]), (12, [F_law38_sameRidesS])] : List (Nat × List Tr.Spec)).lookup n).getD [], nt := 37, ks := [] }
noncomputable def F_law38_JourneyRidesB : Code := match Try.f3.body with | some b => b | none => .skip
def F_law38_JourneyRidesH : Hint := (.seq .leaf (.seq .leaf (.seq .leaf (.seq .leaf (.seq (.reg [(4, Y4)]) .leaf)))))
noncomputable def F_law38_JourneyRidesV (a0 : El Y31) (a1 : El Y34) : Option (El Y4) := evalF F_law38_JourneyRidesE F_law38_JourneyRidesB Try.f3.results F_law38_JourneyRidesH F_law38_JourneyRidesA F_law38_JourneyRidesR (fun y => y.2.1) (a0, a1, ())
theorem F_law38_JourneyRides_eq (a0 : El Y31) (a1 : El Y34) : F_law38_JourneyRidesV a0 a1 = F_law38_JourneyRides a0 a1 := by kernel_rfl
theorem F_law38_JourneyRides_ok : FnOK Try.prog 3 F_law38_JourneyRidesS := evalF_ok (E := F_law38_JourneyRidesE) (fn := Try.f3) (body := F_law38_JourneyRidesB) (hint := F_law38_JourneyRidesH) (pack := fun y => y.2.1) hmix (typesOk_of tab_ok rfl rfl rfl) (specsOk_of (m := [(8, [F_law38_lightS]), (9, [F_law38_exampleHoldsS]), (10, [F_journey_RidesS]), (11, [F_ref38_RidesS]), (12, [F_law38_sameRidesS])]) ⟨⟨F_law38_light_ok, trivial⟩, ⟨F_law38_exampleHolds_ok, trivial⟩, ⟨F_journey_Rides_ok, trivial⟩, ⟨F_ref38_Rides_ok, trivial⟩, ⟨F_law38_sameRides_ok, trivial⟩, trivial⟩ rfl) (by kernel_rfl) (by kernel_rfl) (by kernel_rfl) (by kernel_rfl) (by kernel_rfl) (by kernel_rfl) (fun y => rfl)
  (fun x z h => (F_law38_JourneyRides_eq x.1 x.2.1).trans h)
noncomputable def F_law38_JourneyStay : (El Y31) → (El Y34) → Option (El Y4) := fun a0 a1 =>
  Option.bind (Option.bind (F_law38_light a0 a1) fun x0 => bif !x0 then Option.some Bool.true else Option.bind (F_ref26_Valid a0) fun x1 => Option.some !x1) fun x2 =>
    bif x2 then Option.bind F_law38_exampleHolds fun x3 => Option.some x3
    else
      Option.bind (F_journey_Rides a0 a1) fun x4 =>
        bif !Decidable.decide (x4.snd = (0 : Int)) then
          Option.bind (bif Decidable.decide ((↑(List.length x4.fst) : Int) = (0 : Int)) then Option.bind F_law38_exampleHolds fun x5 => Option.some x5 else Option.some Bool.false) fun x6 =>
            Option.some x6
        else Option.none
abbrev F_law38_JourneyStayA : Pats := (.cons (.pd Y31) (.cons (.pd Y34) .nil))
abbrev F_law38_JourneyStayR : Pats := (.cons (.pd Y4) .nil)
noncomputable def F_law38_JourneyStayS : Tr.Spec := { args := F_law38_JourneyStayA, res := F_law38_JourneyStayR, fns := [], α := El Y4, f := fun x => F_law38_JourneyStay x.1 x.2.1, unp := fun z => (((), (), ()), (z, ())) }
noncomputable def F_law38_JourneyStayE : Env := { ty := fun n => tyTab.lookup n, mty := fun n => mapTab.lookup n, pk := fun n => (pkTab.lookup n).getD 0, rw := fun n => [].contains n, specs := fun n => (([(8, [F_law38_lightS]), (9, [F_law38_exampleHoldsS]), (10, [F_journey_RidesS]), (13, [F_ref26_ValidS])] : List (Nat × List Tr.Spec)).lookup n).getD [], nt := 110, ks := [] }
noncomputable def F_law38_JourneyStayB : Code := match Try.f4.body with | some b => b | none => .skip
def F_law38_JourneyStayH : Hint := (.seq .leaf (.seq (.seq (.reg [(21, Y4)]) .leaf) (.seq .leaf (.seq (.seq .leaf (.cnd none (.seq (.reg [(4, Y4)]) .leaf) .leaf)) (.seq .leaf (.seq .leaf (.seq (.seq .leaf (.lp ⟨[(7, (.var Y34 (.agg (.cons (.own Y44 false) .nil)))), (8, (.pd Y3)), (41, (.pd Y3))], [], [2, 3, 5, 40]⟩ [((.exit 0), ⟨[(7, (.var Y34 (.agg (.cons (.own Y44 false) .nil)))), (8, (.pd Y3))], [], [2, 5]⟩)] (.seq .leaf (.seq .leaf (.seq (.seq .leaf (.seq .leaf (.seq (.seq .leaf (.cnd (some (⟨[], [], [2, 3, 5, 10, 40, 41]⟩, [(.normal, ⟨[(7, (.var Y34 (.agg (.cons (.own Y44 false) .nil)))), (8, (.pd Y3))], [], [2, 3, 5, 10, 40, 41]⟩)])) .leaf .leaf)) .leaf))) .leaf))))) (.seq .leaf (.seq (.seq (.reg [(77, Y4)]) .leaf) (.seq (.seq (.reg [(108, Y4)]) .leaf) .leaf))))))))))
noncomputable def F_law38_JourneyStayV (a0 : El Y31) (a1 : El Y34) : Option (El Y4) := evalF F_law38_JourneyStayE F_law38_JourneyStayB Try.f4.results F_law38_JourneyStayH F_law38_JourneyStayA F_law38_JourneyStayR (fun y => y.2.1) (a0, a1, ())
theorem F_law38_JourneyStay_eq (a0 : El Y31) (a1 : El Y34) : F_law38_JourneyStayV a0 a1 = F_law38_JourneyStay a0 a1 := by kernel_rfl
theorem F_law38_JourneyStay_ok : FnOK Try.prog 4 F_law38_JourneyStayS := evalF_ok (E := F_law38_JourneyStayE) (fn := Try.f4) (body := F_law38_JourneyStayB) (hint := F_law38_JourneyStayH) (pack := fun y => y.2.1) hmix (typesOk_of tab_ok rfl rfl rfl) (specsOk_of (m := [(8, [F_law38_lightS]), (9, [F_law38_exampleHoldsS]), (10, [F_journey_RidesS]), (13, [F_ref26_ValidS])]) ⟨⟨F_law38_light_ok, trivial⟩, ⟨F_law38_exampleHolds_ok, trivial⟩, ⟨F_journey_Rides_ok, trivial⟩, ⟨F_ref26_Valid_ok, trivial⟩, trivial⟩ rfl) (by kernel_rfl) (by kernel_rfl) (by kernel_rfl) (by kernel_rfl) (by kernel_rfl) (by kernel_rfl) (fun y => rfl)
  (fun x z h => (F_law38_JourneyStay_eq x.1 x.2.1).trans h)
end Q
