/- Plain laws of chapter 28: the two comparisons are one; binary search finds the count. -/
import Derived.Test.YtjnbpdkoeojgiaaFin28
import Derived.Test.YtjnbpdkoeojgiaaTsH
namespace Q
open Tr Go

theorem F9_true : F9 = some true := by kernel_rfl

/-- The order of two rows of four numbers. -/
def cmp4 (a b : El Y23) : Int :=
  if a.2.2.2.2.1 < b.2.2.2.2.1 then -1 else if b.2.2.2.2.1 < a.2.2.2.2.1 then 1 else
  if a.2.2.2.2.2.1 < b.2.2.2.2.2.1 then -1 else if b.2.2.2.2.2.1 < a.2.2.2.2.2.1 then 1 else
  if a.1 < b.1 then -1 else if b.1 < a.1 then 1 else
  if a.2.1 < b.2.1 then -1 else if b.2.1 < a.2.1 then 1 else 0

theorem wrap_lit1 : IntKind.wrap .i64 (0 + 1 : Int) = 1 := by decide
theorem wrap_lit2 : IntKind.wrap .i64 (1 + 1 : Int) = 2 := by decide
theorem wrap_lit3 : IntKind.wrap .i64 (2 + 1 : Int) = 3 := by decide
theorem wrap_lit4 : IntKind.wrap .i64 (3 + 1 : Int) = 4 := by decide

theorem dec_ite {α : Type} (p : Prop) [Decidable p] (x y : α) : (bif decide p then x else y) = if p then x else y := by
  by_cases h : p <;> simp [h]

theorem F7_val (a b : El Y23) : F7 a b = some (cmp4 a b) := by
  unfold F7 cmp4
  simp only [dec_ite]
  rw [run_unfold]
  simp only [show (0 : Int) < 4 by decide, if_true, idx, show (0 : Int) ≤ 0 by decide, Int.toNat_zero, List.getElem?_cons_zero, Option.bind_some, Int.toNat_one, List.getElem?_cons_succ, wrap_lit1]
  by_cases h1 : a.2.2.2.2.1 < b.2.2.2.2.1
  · simp [h1]
  by_cases h2 : b.2.2.2.2.1 < a.2.2.2.2.1
  · simp [h1, h2]
  simp only [h1, h2, if_false, Option.bind_some, Sum.elim_inl]
  rw [run_unfold]
  simp only [show (1 : Int) < 4 by decide, if_true, show (0 : Int) ≤ 1 by decide, Int.toNat_zero, List.getElem?_cons_zero, Option.bind_some, Int.toNat_one, List.getElem?_cons_succ, wrap_lit2]
  by_cases h3 : a.2.2.2.2.2.1 < b.2.2.2.2.2.1
  · simp [h3]
  by_cases h4 : b.2.2.2.2.2.1 < a.2.2.2.2.2.1
  · simp [h3, h4]
  simp only [h3, h4, if_false, Option.bind_some, Sum.elim_inl]
  rw [run_unfold]
  simp only [show (2 : Int) < 4 by decide, if_true, show (0 : Int) ≤ 2 by decide, Int.toNat_zero, List.getElem?_cons_zero, Option.bind_some, Int.toNat_one, show Int.toNat 2 = 2 by decide, List.getElem?_cons_succ, wrap_lit3]
  by_cases h5 : a.1 < b.1
  · simp [h5]
  by_cases h6 : b.1 < a.1
  · simp [h5, h6]
  simp only [h5, h6, if_false, Option.bind_some, Sum.elim_inl]
  rw [run_unfold]
  simp only [show (3 : Int) < 4 by decide, if_true, show (0 : Int) ≤ 3 by decide, Int.toNat_zero, List.getElem?_cons_zero, Option.bind_some, Int.toNat_one, show Int.toNat 3 = 3 by decide, List.getElem?_cons_succ, wrap_lit4]
  by_cases h7 : a.2.1 < b.2.1
  · simp [h7]
  by_cases h8 : b.2.1 < a.2.1
  · simp [h7, h8]
  simp only [h7, h8, if_false, Option.bind_some, Sum.elim_inl]
  rw [run_unfold]
  simp

theorem F8_val (a b : El Y23) : F8 a b = some (cmp4 a b) := by
  unfold F8 cmp4
  simp only [dec_ite]
  rw [run_unfold]
  simp only [show (0 : Int) < 4 by decide, if_true, show inb 0 4 = some 0 by decide, List.getElem?_cons_zero, Option.bind_some, List.getElem?_cons_succ, wrap_lit1]
  by_cases h1 : a.2.2.2.2.1 < b.2.2.2.2.1
  · simp [h1]
  by_cases h2 : b.2.2.2.2.1 < a.2.2.2.2.1
  · simp [h1, h2]
  simp only [h1, h2, if_false, Option.bind_some, Sum.elim_inl]
  rw [run_unfold]
  simp only [show (1 : Int) < 4 by decide, if_true, show inb 1 4 = some 1 by decide, List.getElem?_cons_zero, Option.bind_some, List.getElem?_cons_succ, wrap_lit2]
  by_cases h3 : a.2.2.2.2.2.1 < b.2.2.2.2.2.1
  · simp [h3]
  by_cases h4 : b.2.2.2.2.2.1 < a.2.2.2.2.2.1
  · simp [h3, h4]
  simp only [h3, h4, if_false, Option.bind_some, Sum.elim_inl]
  rw [run_unfold]
  simp only [show (2 : Int) < 4 by decide, if_true, show inb 2 4 = some 2 by decide, List.getElem?_cons_zero, Option.bind_some, List.getElem?_cons_succ, wrap_lit3]
  by_cases h5 : a.1 < b.1
  · simp [h5]
  by_cases h6 : b.1 < a.1
  · simp [h5, h6]
  simp only [h5, h6, if_false, Option.bind_some, Sum.elim_inl]
  rw [run_unfold]
  simp only [show (3 : Int) < 4 by decide, if_true, show inb 3 4 = some 3 by decide, List.getElem?_cons_zero, Option.bind_some, List.getElem?_cons_succ, wrap_lit4]
  by_cases h7 : a.2.1 < b.2.1
  · simp [h7]
  by_cases h8 : b.2.1 < a.2.1
  · simp [h7, h8]
  simp only [h7, h8, if_false, Option.bind_some, Sum.elim_inl]
  rw [run_unfold]
  simp

theorem compares (a b : El Y23) : F3 a b = some true := by
  unfold F3
  simp only [F7_val, F8_val, F9_true, Option.bind_some]
  simp

end Q
