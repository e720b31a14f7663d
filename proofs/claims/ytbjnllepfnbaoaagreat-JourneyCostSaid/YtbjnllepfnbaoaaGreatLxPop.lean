/- Counting bits: taking the lowest one away again and again, and looking at each place. Plain Lean. Conditions: none. -/
namespace Tr
def popF : Nat → Nat → Nat
  | 0, _ => 0
  | k + 1, s => if s = 0 then 0 else 1 + popF k (s &&& (s - 1))
def bitsN : Nat → Nat → Nat
  | 0, _ => 0
  | k + 1, s => bitsN k s + (s >>> k) % 2
def cntH : Nat → Nat → Nat
  | 0, _ => 0
  | k + 1, s => s % 2 + cntH k (s / 2)
theorem shift_half (s k : Nat) : s >>> (k + 1) = (s / 2) >>> k := by
  rw [Nat.shiftRight_eq_div_pow, Nat.shiftRight_eq_div_pow, Nat.div_div_eq_div_mul, Nat.pow_succ, Nat.mul_comm]
theorem bitsN_half : ∀ (k s : Nat), bitsN (k + 1) s = s % 2 + bitsN k (s / 2)
  | 0, s => by simp [bitsN]
  | k + 1, s => by
    rw [bitsN, bitsN_half k s, shift_half, Nat.add_assoc]
    rfl
theorem bitsN_cnt : ∀ (k s : Nat), bitsN k s = cntH k s
  | 0, _ => rfl
  | k + 1, s => by rw [bitsN_half, bitsN_cnt k, cntH]
theorem cntH_more : ∀ (k m s : Nat), s < 2 ^ k → k ≤ m → cntH m s = cntH k s
  | 0, m, s, h, _ => by
    have : s = 0 := by simpa using h
    subst this
    have h0 : ∀ m, cntH m 0 = 0 := by
      intro m
      induction m with
      | zero => rfl
      | succ m ih => rw [cntH]; simpa using ih
    rw [h0, h0]
  | k + 1, m, s, h, hm => by
    obtain ⟨m', rfl⟩ : ∃ m', m = m' + 1 := ⟨m - 1, by omega⟩
    rw [cntH, cntH, cntH_more k m' (s / 2) (by rw [Nat.pow_succ] at h; omega) (by omega)]
theorem and_even (t : Nat) (h : 0 < t) : (2 * t) &&& (2 * t - 1) = 2 * (t &&& (t - 1)) := by
  apply Nat.eq_of_testBit_eq
  intro i
  rw [Nat.testBit_and]
  cases i with
  | zero => simp
  | succ i =>
    rw [Nat.testBit_succ, Nat.testBit_succ, Nat.testBit_succ, show 2 * t / 2 = t by omega, show (2 * t - 1) / 2 = t - 1 by omega, show 2 * (t &&& (t - 1)) / 2 = (t &&& (t - 1)) by omega, Nat.testBit_and]
theorem and_odd (t : Nat) : (2 * t + 1) &&& (2 * t + 1 - 1) = 2 * t := by
  apply Nat.eq_of_testBit_eq
  intro i
  rw [Nat.testBit_and, Nat.add_sub_cancel]
  cases i with
  | zero => simp
  | succ i =>
    rw [Nat.testBit_succ, Nat.testBit_succ, show (2 * t + 1) / 2 = t by omega, show 2 * t / 2 = t by omega, Bool.and_self]
theorem popF_double : ∀ (m t : Nat), popF m (2 * t) = popF m t
  | 0, _ => rfl
  | m + 1, t => by
    rw [popF, popF]
    by_cases h : t = 0
    · subst h; rfl
    · rw [if_neg (by omega), if_neg h, and_even t (by omega), popF_double m]
theorem popF_cnt : ∀ (k m s : Nat), s < 2 ^ k → k ≤ m → popF m s = cntH k s
  | 0, m, s, h, _ => by
    have : s = 0 := by simpa using h
    subst this
    cases m <;> simp [popF, cntH]
  | k + 1, m, s, h, hm => by
    rw [Nat.pow_succ] at h
    rw [cntH]
    by_cases h2 : s % 2 = 0
    · obtain ⟨t, rfl⟩ : ∃ t, s = 2 * t := ⟨s / 2, by omega⟩
      rw [popF_double, popF_cnt k m t (by omega) (by omega), show 2 * t / 2 = t by omega, h2, Nat.zero_add]
    · obtain ⟨t, rfl⟩ : ∃ t, s = 2 * t + 1 := ⟨s / 2, by omega⟩
      obtain ⟨m', rfl⟩ : ∃ m', m = m' + 1 := ⟨m - 1, by omega⟩
      rw [popF, if_neg (by omega), and_odd, popF_double, popF_cnt k m' t (by omega) (by omega), show (2 * t + 1) / 2 = t by omega, show (2 * t + 1) % 2 = 1 by omega]
theorem pop_bits {s : Nat} (h : s < 2 ^ 16) : popF 64 s = bitsN 62 s := by
  rw [popF_cnt 16 64 s h (by omega), bitsN_cnt, cntH_more 16 62 s h (by omega)]
theorem and_lt {s : Nat} (h : s ≠ 0) : s &&& (s - 1) < s := Nat.lt_of_le_of_lt Nat.and_le_right (by omega)
end Tr
