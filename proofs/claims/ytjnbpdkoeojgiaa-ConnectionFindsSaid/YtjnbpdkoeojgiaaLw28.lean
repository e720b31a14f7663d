/- Plain laws of chapter 28: the two comparisons are one; binary search finds the count. -/
import Derived.Test.YtjnbpdkoeojgiaaFin28
import Derived.Test.YtjnbpdkoeojgiaaTsH
namespace Q
open Tr Go

theorem F9_true : F9 = some true := by kernel_rfl

/-- The order of two rows of four numbers. -/
def cmp4 (a b : El Y23) : Int :=
  if a.2.2.2.2.1 < b.2.2.2.2.1 then -1 else if b.2.2.2.2.1 < a.2.2.2.2.1 then 1 else
  if a.2.2.2.2.2.1 < b.2.2.2.2.2.1 then -1 else if b.2.2.2.2.2.1 < a.2.2.2.2.2.1 then 1 else
  if a.1 < b.1 then -1 else if b.1 < a.1 then 1 else
  if a.2.1 < b.2.1 then -1 else if b.2.1 < a.2.1 then 1 else 0

theorem wrap_lit1 : IntKind.wrap .i64 (0 + 1 : Int) = 1 := by decide
theorem wrap_lit2 : IntKind.wrap .i64 (1 + 1 : Int) = 2 := by decide
theorem wrap_lit3 : IntKind.wrap .i64 (2 + 1 : Int) = 3 := by decide
theorem wrap_lit4 : IntKind.wrap .i64 (3 + 1 : Int) = 4 := by decide

theorem dec_ite {α : Type} (p : Prop) [Decidable p] (x y : α) : (bif decide p then x else y) = if p then x else y := by
  by_cases h : p <;> simp [h]

theorem F7_val (a b : El Y23) : F7 a b = some (cmp4 a b) := by
  unfold F7 cmp4
  simp only [dec_ite]
  rw [run_unfold]
  simp only [show (0 : Int) < 4 by decide, if_true, idx, show (0 : Int) ≤ 0 by decide, Int.toNat_zero, List.getElem?_cons_zero, Option.bind_some, Int.toNat_one, List.getElem?_cons_succ, wrap_lit1]
  by_cases h1 : a.2.2.2.2.1 < b.2.2.2.2.1
  · simp [h1]
  by_cases h2 : b.2.2.2.2.1 < a.2.2.2.2.1
  · simp [h1, h2]
  simp only [h1, h2, if_false, Option.bind_some, Sum.elim_inl]
  rw [run_unfold]
  simp only [show (1 : Int) < 4 by decide, if_true, show (0 : Int) ≤ 1 by decide, List.getElem?_cons_zero, Option.bind_some, Int.toNat_one, List.getElem?_cons_succ, wrap_lit2]
  by_cases h3 : a.2.2.2.2.2.1 < b.2.2.2.2.2.1
  · simp [h3]
  by_cases h4 : b.2.2.2.2.2.1 < a.2.2.2.2.2.1
  · simp [h3, h4]
  simp only [h3, h4, if_false, Option.bind_some, Sum.elim_inl]
  rw [run_unfold]
  simp only [show (2 : Int) < 4 by decide, if_true, show (0 : Int) ≤ 2 by decide, List.getElem?_cons_zero, Option.bind_some, show Int.toNat 2 = 2 by decide, List.getElem?_cons_succ, wrap_lit3]
  by_cases h5 : a.1 < b.1
  · simp [h5]
  by_cases h6 : b.1 < a.1
  · simp [h5, h6]
  simp only [h5, h6, if_false, Option.bind_some, Sum.elim_inl]
  rw [run_unfold]
  simp only [show (3 : Int) < 4 by decide, if_true, show (0 : Int) ≤ 3 by decide, List.getElem?_cons_zero, Option.bind_some, show Int.toNat 3 = 3 by decide, List.getElem?_cons_succ, wrap_lit4]
  by_cases h7 : a.2.1 < b.2.1
  · simp [h7]
  by_cases h8 : b.2.1 < a.2.1
  · simp [h7, h8]
  simp only [h7, h8, if_false, Option.bind_some, Sum.elim_inl]
  rw [run_unfold]
  simp

theorem F8_val (a b : El Y23) : F8 a b = some (cmp4 a b) := by
  unfold F8 cmp4
  simp only [dec_ite]
  rw [run_unfold]
  simp only [show (0 : Int) < 4 by decide, if_true, show inb 0 4 = some 0 by decide, List.getElem?_cons_zero, Option.bind_some, wrap_lit1]
  by_cases h1 : a.2.2.2.2.1 < b.2.2.2.2.1
  · simp [h1]
  by_cases h2 : b.2.2.2.2.1 < a.2.2.2.2.1
  · simp [h1, h2]
  simp only [h1, h2, if_false, Option.bind_some, Sum.elim_inl]
  rw [run_unfold]
  simp only [show (1 : Int) < 4 by decide, if_true, show inb 1 4 = some 1 by decide, List.getElem?_cons_zero, Option.bind_some, List.getElem?_cons_succ, wrap_lit2]
  by_cases h3 : a.2.2.2.2.2.1 < b.2.2.2.2.2.1
  · simp [h3]
  by_cases h4 : b.2.2.2.2.2.1 < a.2.2.2.2.2.1
  · simp [h3, h4]
  simp only [h3, h4, if_false, Option.bind_some, Sum.elim_inl]
  rw [run_unfold]
  simp only [show (2 : Int) < 4 by decide, if_true, show inb 2 4 = some 2 by decide, List.getElem?_cons_zero, Option.bind_some, List.getElem?_cons_succ, wrap_lit3]
  by_cases h5 : a.1 < b.1
  · simp [h5]
  by_cases h6 : b.1 < a.1
  · simp [h5, h6]
  simp only [h5, h6, if_false, Option.bind_some, Sum.elim_inl]
  rw [run_unfold]
  simp only [show (3 : Int) < 4 by decide, if_true, show inb 3 4 = some 3 by decide, List.getElem?_cons_zero, Option.bind_some, List.getElem?_cons_succ, wrap_lit4]
  by_cases h7 : a.2.1 < b.2.1
  · simp [h7]
  by_cases h8 : b.2.1 < a.2.1
  · simp [h7, h8]
  simp only [h7, h8, if_false, Option.bind_some, Sum.elim_inl]
  rw [run_unfold]
  simp

theorem compares (a b : El Y23) : F3 a b = some true := by
  unfold F3
  simp only [F7_val, F8_val, F9_true, Option.bind_some]
  simp

/-! ### Finding -/

def dep (c : El Y23) : Int := c.2.2.2.2.1

/-- Binary search for the first place at which `p` holds. -/
theorem search {p : Nat → Bool} {n : Nat} (hn : n ≤ 1000) {test : Int → Option Bool} (ht : ∀ i : Nat, i < n → test (i : Int) = some (p i)) :
    ∃ r : Nat, r ≤ n ∧ Tr.run (fun s0 : Int × Int =>
        bif Decidable.decide (s0.fst < s0.snd) then
          Option.bind (test (IntKind.wrap .i64 (Int.tdiv (IntKind.wrap .i64 (s0.fst + s0.snd)) (2 : Int)))) fun x1 =>
            bif x1 then Option.some (Sum.inl (s0.fst, IntKind.wrap .i64 (Int.tdiv (IntKind.wrap .i64 (s0.fst + s0.snd)) (2 : Int))))
            else Option.some (Sum.inl (IntKind.wrap .i64 (IntKind.wrap .i64 (Int.tdiv (IntKind.wrap .i64 (s0.fst + s0.snd)) (2 : Int)) + (1 : Int)), s0.snd))
        else Option.some (Sum.inr s0.fst)) ((0 : Int), (n : Int)) = some (r : Int) ∧
      ((∀ i j : Nat, i ≤ j → j < n → p i = true → p j = true) → ∀ i : Nat, i < n → (p i = true ↔ r ≤ i)) := by
  obtain ⟨r, h1, h2⟩ := run_rule (step := fun s0 : Int × Int =>
        bif Decidable.decide (s0.fst < s0.snd) then
          Option.bind (test (IntKind.wrap .i64 (Int.tdiv (IntKind.wrap .i64 (s0.fst + s0.snd)) (2 : Int)))) fun x1 =>
            bif x1 then Option.some (Sum.inl (s0.fst, IntKind.wrap .i64 (Int.tdiv (IntKind.wrap .i64 (s0.fst + s0.snd)) (2 : Int))))
            else Option.some (Sum.inl (IntKind.wrap .i64 (IntKind.wrap .i64 (Int.tdiv (IntKind.wrap .i64 (s0.fst + s0.snd)) (2 : Int)) + (1 : Int)), s0.snd))
        else Option.some (Sum.inr s0.fst))
    (Inv := fun s => ∃ l h : Nat, s = ((l : Int), (h : Int)) ∧ l ≤ h ∧ h ≤ n ∧ ((∀ i j : Nat, i ≤ j → j < n → p i = true → p j = true) → (∀ i, i < l → p i = false) ∧ ∀ i, h ≤ i → i < n → p i = true))
    (μ := fun s => (s.2 - s.1).toNat)
    (Post := fun r => ∃ k : Nat, r = (k : Int) ∧ k ≤ n ∧ ((∀ i j : Nat, i ≤ j → j < n → p i = true → p j = true) → ∀ i : Nat, i < n → (p i = true ↔ k ≤ i)))
    (by
      rintro s ⟨l, h, rfl, hlh, hhn, hI⟩
      by_cases hlt : l < h
      · left
        have e1 : IntKind.wrap .i64 ((l : Int) + (h : Int)) = (l : Int) + (h : Int) := wrap_i64 (by omega) (by omega)
        have e2 : Int.tdiv ((l : Int) + (h : Int)) 2 = (((l + h) / 2 : Nat) : Int) := by
          rw [Int.tdiv_eq_ediv_of_nonneg (by omega)]; omega
        have e3 : IntKind.wrap .i64 ((((l + h) / 2 : Nat) : Int)) = (((l + h) / 2 : Nat) : Int) := wrap_i64 (by omega) (by omega)
        have e4 : IntKind.wrap .i64 ((((l + h) / 2 : Nat) : Int) + 1) = (((l + h) / 2 + 1 : Nat) : Int) := by
          rw [wrap_i64 (by omega) (by omega)]; omega
        simp only [e1, e2, e3, e4, show decide ((l : Int) < (h : Int)) = true by simpa using hlt, cond_true, ht ((l + h) / 2) (by omega), Option.bind_some]
        cases hp : p ((l + h) / 2) with
        | true =>
          refine ⟨_, rfl, ⟨l, (l + h) / 2, rfl, by omega, by omega, fun hm => ⟨(hI hm).1, fun i h1 h2 => hm _ _ h1 h2 hp⟩⟩, ?_⟩
          simp only; omega
        | false =>
          refine ⟨_, rfl, ⟨(l + h) / 2 + 1, h, rfl, by omega, by omega, fun hm => ⟨fun i hi => ?_, (hI hm).2⟩⟩, ?_⟩
          · cases hpi : p i with
            | false => rfl
            | true =>
              have := hm i ((l + h) / 2) (by omega) (by omega) hpi
              rw [hp] at this; cases this
          · simp only; omega
      · right
        refine ⟨(l : Int), ?_, l, rfl, by omega, fun hm i hi => ?_⟩
        · simp only [show decide ((l : Int) < (h : Int)) = false by simpa using hlt, cond_false]
        · obtain ⟨h1, h2⟩ := hI hm
          constructor
          · intro hp
            by_cases h3 : l ≤ i
            · exact h3
            · have := h1 i (by omega); rw [hp] at this; cases this
          · intro h3
            exact h2 i (by omega) hi)
    ((0 : Int), (n : Int)) ⟨0, n, rfl, Nat.zero_le _, Nat.le_refl _, fun _ => ⟨fun i hi => by omega, fun i h1 h2 => by omega⟩⟩
  obtain ⟨k, rfl, hk, hm⟩ := h2
  exact ⟨k, hk, h1, hm⟩

/-- A count along a list. -/
theorem counts {α : Type} (l : List α) (hn : l.length ≤ 1000) (p : α → Bool) :
    Tr.run (fun s0 : Int × Int =>
        bif Decidable.decide (s0.snd < (↑(List.length l) : Int)) then
          Option.bind (Tr.idx l s0.snd) fun x1 =>
            bif p x1 then Option.some (Sum.inl (IntKind.wrap .i64 (s0.fst + (1 : Int)), IntKind.wrap .i64 (s0.snd + (1 : Int))))
            else Option.some (Sum.inl (s0.fst, IntKind.wrap .i64 (s0.snd + (1 : Int))))
        else Option.some (Sum.inr s0.fst)) ((0 : Int), (0 : Int)) = some ((l.countP p : Nat) : Int) := by
  obtain ⟨r, h1, h2⟩ := run_rule (step := fun s0 : Int × Int =>
        bif Decidable.decide (s0.snd < (↑(List.length l) : Int)) then
          Option.bind (Tr.idx l s0.snd) fun x1 =>
            bif p x1 then Option.some (Sum.inl (IntKind.wrap .i64 (s0.fst + (1 : Int)), IntKind.wrap .i64 (s0.snd + (1 : Int))))
            else Option.some (Sum.inl (s0.fst, IntKind.wrap .i64 (s0.snd + (1 : Int))))
        else Option.some (Sum.inr s0.fst))
    (Inv := fun s => ∃ i : Nat, i ≤ l.length ∧ s = ((((l.take i).countP p : Nat) : Int), (i : Int)))
    (μ := fun s => l.length - s.2.toNat) (Post := fun r => r = ((l.countP p : Nat) : Int))
    (by
      rintro s ⟨i, hi, rfl⟩
      by_cases hlt : i < l.length
      · left
        have hc : (l.take i).countP p ≤ i := Nat.le_trans List.countP_le_length (by simp; omega)
        have e1 : IntKind.wrap .i64 ((i : Int) + 1) = ((i + 1 : Nat) : Int) := by rw [wrap_i64 (by omega) (by omega)]; omega
        have e2 : IntKind.wrap .i64 ((((l.take i).countP p : Nat) : Int) + 1) = (((l.take i).countP p + 1 : Nat) : Int) := by rw [wrap_i64 (by omega) (by omega)]; omega
        have e3 : (l.take (i + 1)).countP p = (l.take i).countP p + if p l[i] then 1 else 0 := by
          rw [List.take_succ_eq_append_getElem hlt, List.countP_append]; simp [List.countP_cons]
        simp only [show decide ((i : Int) < (l.length : Int)) = true by simpa using hlt, cond_true, idx_nat hlt, Option.bind_some, e1, e2]
        cases hp : p l[i] with
        | true => exact ⟨_, rfl, ⟨i + 1, hlt, by rw [e3, hp]; rfl⟩, by simp only [Int.toNat_natCast]; omega⟩
        | false => exact ⟨_, rfl, ⟨i + 1, hlt, by rw [e3, hp]; rfl⟩, by simp only [Int.toNat_natCast]; omega⟩
      · right
        have : i = l.length := by omega
        subst this
        exact ⟨_, by simp only [show decide ((l.length : Int) < (l.length : Int)) = false by simp, cond_false]; rfl, by rw [List.take_length]⟩)
    ((0 : Int), (0 : Int)) ⟨0, Nat.zero_le _, by simp⟩
  rw [h1, h2]

theorem countP_prefix {α : Type} {l : List α} {p : α → Bool} {r : Nat} (hr : r ≤ l.length) (h : ∀ i : Nat, (hi : i < l.length) → (p l[i] = true ↔ i < r)) : l.countP p = r := by
  have e : l.countP p = (l.take r).countP p + (l.drop r).countP p := by rw [← List.countP_append, List.take_append_drop]
  rw [e]
  have h1 : (l.take r).countP p = (l.take r).length := by
    rw [List.countP_eq_length]
    intro a ha
    obtain ⟨i, hi, rfl⟩ := List.getElem_of_mem ha
    simp at hi
    rw [List.getElem_take]
    exact (h i (by omega)).2 (by omega)
  have h2 : (l.drop r).countP p = 0 := by
    rw [List.countP_eq_zero]
    intro a ha
    obtain ⟨i, hi, rfl⟩ := List.getElem_of_mem ha
    simp at hi
    rw [List.getElem_drop, h (r + i) (by omega)]
    omega
  rw [h1, h2]; simp; omega

theorem ordered (l : List (El Y23)) (hn : l.length ≤ 1000) : ∃ b, F12 l = some b ∧ (b = true → ∀ i : Nat, (h1 : 1 ≤ i) → (h2 : i < l.length) → dep (l[i - 1]'(by omega)) ≤ dep l[i]) := by
  obtain ⟨r, h1, h2⟩ := run_rule (step := fun s0 : Int =>
        bif Decidable.decide (s0 < (↑(List.length l) : Int)) then
          Option.bind (Tr.idx l s0) fun x1 =>
            Option.bind (Tr.idx l (IntKind.wrap .i64 (s0 - (1 : Int)))) fun x2 =>
              bif Decidable.decide (x1.snd.snd.snd.snd.fst < x2.snd.snd.snd.snd.fst) then Option.some (Sum.inr (Sum.inr Bool.false))
              else Option.some (Sum.inl (IntKind.wrap .i64 (s0 + (1 : Int))))
        else Option.some (Sum.inr (Sum.inl ())))
    (Inv := fun s => ∃ k : Nat, 1 ≤ k ∧ k ≤ l.length + 1 ∧ s = (k : Int) ∧ ∀ i : Nat, (h1 : 1 ≤ i) → i < k → (h2 : i < l.length) → dep (l[i - 1]'(by omega)) ≤ dep l[i])
    (μ := fun s => l.length - s.toNat)
    (Post := fun r => r = .inr false ∨ r = .inl () ∧ ∀ i : Nat, (h1 : 1 ≤ i) → (h2 : i < l.length) → dep (l[i - 1]'(by omega)) ≤ dep l[i])
    (by
      rintro s ⟨k, hk1, hk2, rfl, hI⟩
      by_cases hlt : k < l.length
      · have e0 : IntKind.wrap .i64 ((k : Int) - 1) = ((k - 1 : Nat) : Int) := by rw [wrap_i64 (by omega) (by omega)]; omega
        have e1 : IntKind.wrap .i64 ((k : Int) + 1) = ((k + 1 : Nat) : Int) := by rw [wrap_i64 (by omega) (by omega)]; omega
        simp only [show decide ((k : Int) < (l.length : Int)) = true by simpa using hlt, cond_true, idx_nat hlt, Option.bind_some, e0, e1, idx_nat (show k - 1 < l.length by omega)]
        by_cases hd : dep l[k] < dep (l[k - 1]'(by omega))
        · right
          refine ⟨.inr false, ?_, .inl rfl⟩
          simp only [dep] at hd
          simp only [hd, decide_true, cond_true]
        · left
          refine ⟨((k + 1 : Nat) : Int), ?_, ⟨k + 1, by omega, by omega, rfl, fun i h1 h2 h3 => ?_⟩, by simp only [Int.toNat_natCast]; omega⟩
          · simp only [dep] at hd
            simp only [hd, decide_false, cond_false]
          · by_cases hik : i = k
            · subst hik; omega
            · exact hI i h1 (by omega) h3
      · right
        exact ⟨.inl (), by simp only [show decide ((k : Int) < (l.length : Int)) = false by simpa using hlt, cond_false], .inr ⟨rfl, fun i h1 h2 => hI i h1 (by omega) h2⟩⟩)
    (1 : Int) ⟨1, Nat.le_refl _, by omega, rfl, fun i h1 h2 => by omega⟩
  unfold F12
  rw [show Tr.run _ (1 : Int) = some r from h1]
  rcases h2 with rfl | ⟨rfl, h⟩
  · exact ⟨false, rfl, fun h => by cases h⟩
  · exact ⟨true, rfl, fun _ => h⟩

theorem mono {l : List (El Y23)} (h : ∀ i : Nat, (h1 : 1 ≤ i) → (h2 : i < l.length) → dep (l[i - 1]'(by omega)) ≤ dep l[i]) : ∀ (d i : Nat) (hj : i + d < l.length), dep (l[i]'(by omega)) ≤ dep (l[i + d])
  | 0, i, hj => Int.le_refl _
  | d + 1, i, hj => by
    have h1 := mono h d i (by omega)
    have h2 := h (i + d + 1) (by omega) (by omega)
    exact Int.le_trans h1 h2

theorem from_val (l : List (El Y23)) (hn : l.length ≤ 1000) (at_ : Int) : ∃ r : Nat, r ≤ l.length ∧ F10 l at_ = some (r : Int) ∧ ((∀ i : Nat, (h1 : 1 ≤ i) → (h2 : i < l.length) → dep (l[i - 1]'(by omega)) ≤ dep l[i]) → F13 l at_ = some (r : Int)) := by
  obtain ⟨r, h1, h2, h3⟩ := search (p := fun i => match l[i]? with | some c => decide (at_ ≤ dep c) | none => false) hn (test := fun m => F21 m l at_) (by
    intro i hi
    simp only [F21, idx_nat hi, Option.bind_some, List.getElem?_eq_getElem hi]
    rfl)
  refine ⟨r, h1, ?_, fun hm => ?_⟩
  · unfold F10 F20_21
    rw [show Tr.run _ ((0 : Int), (l.length : Int)) = some (r : Int) from h2]
    rfl
  · unfold F13
    rw [counts l hn (fun c => decide (c.snd.snd.snd.snd.fst < at_))]
    simp only [Option.bind_some]
    rw [countP_prefix h1]
    intro i hi
    have hp := h3 (fun i j hij hj hi' => by
      have hi2 : i < l.length := by omega
      simp only [List.getElem?_eq_getElem hi2, List.getElem?_eq_getElem hj, decide_eq_true_eq] at hi' ⊢
      have := mono hm (j - i) i (by omega)
      simp only [show i + (j - i) = j by omega] at this
      omega) i hi
    simp only [List.getElem?_eq_getElem hi, dep] at hp
    simp only [decide_eq_true_eq]
    exact (Int.not_le.symm.trans (not_congr (decide_eq_true_iff.symm.trans hp))).trans Nat.not_le

theorem until_val (l : List (El Y23)) (hn : l.length ≤ 1000) (at_ : Int) : ∃ r : Nat, r ≤ l.length ∧ F11 l at_ = some (r : Int) ∧ ((∀ i : Nat, (h1 : 1 ≤ i) → (h2 : i < l.length) → dep (l[i - 1]'(by omega)) ≤ dep l[i]) → F14 l at_ = some (r : Int)) := by
  obtain ⟨r, h1, h2, h3⟩ := search (p := fun i => match l[i]? with | some c => decide (at_ < dep c) | none => false) hn (test := fun m => F22 m l at_) (by
    intro i hi
    simp only [F22, idx_nat hi, Option.bind_some, List.getElem?_eq_getElem hi]
    rfl)
  refine ⟨r, h1, ?_, fun hm => ?_⟩
  · unfold F11 F20_22
    rw [show Tr.run _ ((0 : Int), (l.length : Int)) = some (r : Int) from h2]
    rfl
  · unfold F14
    rw [counts l hn (fun c => decide (c.snd.snd.snd.snd.fst ≤ at_))]
    simp only [Option.bind_some]
    rw [countP_prefix h1]
    intro i hi
    have hp := h3 (fun i j hij hj hi' => by
      have hi2 : i < l.length := by omega
      simp only [List.getElem?_eq_getElem hi2, List.getElem?_eq_getElem hj, decide_eq_true_eq] at hi' ⊢
      have := mono hm (j - i) i (by omega)
      simp only [show i + (j - i) = j by omega] at this
      omega) i hi
    simp only [List.getElem?_eq_getElem hi, dep] at hp
    simp only [decide_eq_true_eq]
    exact (Int.not_lt.symm.trans (not_congr (decide_eq_true_iff.symm.trans hp))).trans Nat.not_le

theorem finds (l : List (El Y23)) (at_ : Int) : F4 l at_ = some true := by
  unfold F4
  by_cases hn : (300 : Int) < (l.length : Int)
  · simp [hn, F9_true]
  · obtain ⟨a, ha1, ha2, ha3⟩ := from_val l (by omega) at_
    obtain ⟨b, hb1, hb2, hb3⟩ := until_val l (by omega) at_
    obtain ⟨o, ho1, ho2⟩ := ordered l (by omega)
    simp only [hn, decide_false, cond_false, ha2, hb2, ho1, Option.bind_some]
    cases o with
    | false =>
      simp only [Bool.not_false, cond_true, show decide ((0 : Int) ≤ (a : Int)) = true by simp, show decide ((a : Int) ≤ (l.length : Int)) = true by simpa using ha1, show decide ((0 : Int) ≤ (b : Int)) = true by simp,
        show decide ((b : Int) ≤ (l.length : Int)) = true by simpa using hb1, F9_true, Option.bind_some]
    | true =>
      simp only [Bool.not_true, cond_false, ha3 (ho2 rfl), hb3 (ho2 rfl), Option.bind_some, decide_true, cond_true, F9_true]

end Q
