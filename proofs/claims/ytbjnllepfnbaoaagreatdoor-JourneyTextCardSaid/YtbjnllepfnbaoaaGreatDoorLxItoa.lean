/- Decimal numerals: loops that build them. Conditions: those of the theorems. -/
import Derived.Test.YtbjnllepfnbaoaaGreatDoorTsH
import Derived.Lib.ItoaLen
namespace Q
open Tr Go Go.Lib
theorem cat_val {a b : List UInt8} (h : a.length + b.length < 4611686018427387904) : Tr.catStr a b = some (a ++ b) := by
  unfold Tr.catStr
  rw [decide_eq_true (show a.length + b.length < 2 ^ 62 by omega)]; rfl
theorem dec_step (k : Nat) (t : List UInt8) : (if k / 10 = 0 then [] else decDigits (k / 10)) ++ ([UInt8.ofNat (48 + k % 10)] ++ t) = decDigits k ++ t := by
  rw [decDigits.eq_1 k]
  by_cases h : k < 10
  · rw [dif_pos h, if_pos (by omega), Nat.mod_eq_of_lt h]; simp
  · rw [dif_neg h, if_neg (by omega)]; simp
theorem tmod_nat (k : Nat) : Int.tmod (k : Int) 10 = ((k % 10 : Nat) : Int) := rfl
theorem tdiv_nat (k : Nat) : Int.tdiv (k : Int) 10 = ((k / 10 : Nat) : Int) := rfl
theorem neg_run {step : Int × List UInt8 → Option ((Int × List UInt8) ⊕ List UInt8)}
    (hs : ∀ (k : Nat) (t : List UInt8), 0 < k → k ≤ 9223372036854775808 → t.length ≤ 1000 → step (-(k : Int), t) = some (.inl (-((k / 10 : Nat) : Int), [UInt8.ofNat (48 + k % 10)] ++ t)))
    (he : ∀ t, step (0, t) = some (.inr t)) : ∀ (k : Nat) (t : List UInt8), k ≤ 9223372036854775808 → (k ≠ 0 → t.length + nDigits k ≤ 1000) → run step (-(k : Int), t) = some ((if k = 0 then [] else decDigits k) ++ t) := by
  intro k
  induction k using Nat.strongRecOn with
  | _ k ih =>
    intro t hk ht
    by_cases h0 : k = 0
    · subst h0
      exact run_inr (he t)
    · have ht := ht h0
      have hp := nDigits_pos k
      rw [run_inl (hs k t (by omega) hk (by omega)), ih (k / 10) (by omega) _ (by omega) ?_, if_neg h0, dec_step]
      intro h
      rw [nDigits_big (by omega)] at ht
      simp
      omega
theorem pos_run {step : Int × List UInt8 → Option ((Int × List UInt8) ⊕ List UInt8)}
    (hs : ∀ (k : Nat) (t : List UInt8), 10 ≤ k → k ≤ 9223372036854775807 → t.length ≤ 1000 → step ((k : Int), t) = some (.inl (((k / 10 : Nat) : Int), [UInt8.ofNat (48 + k / 10 % 10)] ++ t)))
    (he : ∀ (k : Nat) t, k < 10 → step ((k : Int), t) = some (.inr t)) : ∀ (k : Nat) (t : List UInt8), k ≤ 9223372036854775807 → t.length + nDigits k ≤ 1000 → run step ((k : Int), [UInt8.ofNat (48 + k % 10)] ++ t) = some (decDigits k ++ t) := by
  intro k
  induction k using Nat.strongRecOn with
  | _ k ih =>
    intro t hk ht
    by_cases h0 : k < 10
    · rw [run_inr (he k _ h0), decDigits_one h0, Nat.mod_eq_of_lt h0]
    · have hp := nDigits_pos (k / 10)
      rw [nDigits_big h0] at ht
      rw [run_inl (hs k _ (by omega) hk (by simp; omega)), ih (k / 10) (by omega) _ (by omega) (by simp; omega), decDigits.eq_1 k, dif_neg h0]
      simp
end Q
