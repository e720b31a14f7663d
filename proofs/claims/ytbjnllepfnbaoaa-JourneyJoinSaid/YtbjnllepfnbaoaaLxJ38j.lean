/- Chapter 38 in plain Lean. -/
import Derived.Test.YtbjnllepfnbaoaaTsH
import Derived.Test.YtbjnllepfnbaoaaLwJb2838j
import Derived.Test.YtbjnllepfnbaoaaTsF

/-! Loops in plain Lean: with an invariant by rounds, and halving. Conditions: those of the theorems. -/
namespace Q
open Tr Go

theorem run_for {σ τ : Type} {step : σ → Option (σ ⊕ τ)} (n : Nat) (P : τ → Prop) (Inv : Nat → σ → Prop)
    (hstep : ∀ i s, i < n → Inv i s → (∃ s', step s = some (.inl s') ∧ Inv (i + 1) s') ∨ ∃ r, step s = some (.inr r) ∧ P r)
    (hend : ∀ s, Inv n s → ∃ r, step s = some (.inr r) ∧ P r) (s : σ) (h0 : Inv 0 s) : ∃ r, run step s = some r ∧ P r := by
  have key : ∀ (k i : Nat) (s : σ), n - i = k → i ≤ n → Inv i s → ∃ r, run step s = some r ∧ P r := by
    intro k
    induction k with
    | zero =>
      intro i s hk hi hs
      have : i = n := by omega
      subst this
      obtain ⟨r, h1, h2⟩ := hend s hs
      exact ⟨r, run_inr h1, h2⟩
    | succ k ih =>
      intro i s hk hi hs
      rcases hstep i s (by omega) hs with ⟨s', h1, h2⟩ | ⟨r, h1, h2⟩
      · rw [run_inl h1]
        exact ih (i + 1) s' (by omega) (by omega) h2
      · exact ⟨r, run_inr h1, h2⟩
  exact key n 0 s (by omega) (by omega) h0

theorem bind_of {α β : Type} {o : Option α} {f : α → Option β} {z : Option β} (P : α → Prop) (h : ∃ r, o = some r ∧ P r) (k : ∀ r, P r → f r = z) : Option.bind o f = z := by
  obtain ⟨r, rfl, hr⟩ := h
  exact k r hr

/-- The same for one round of an outer loop. -/
theorem bind_ex {α β γ : Type} {o : Option α} {f : α → Option (β ⊕ γ)} {Q : β → Prop} (P : α → Prop) (h : ∃ r, o = some r ∧ P r) (k : ∀ r, P r → ∃ s, f r = some (.inl s) ∧ Q s) : ∃ s, Option.bind o f = some (.inl s) ∧ Q s := by
  obtain ⟨r, rfl, hr⟩ := h
  exact k r hr

/-- Halving: the number of places for which the condition holds. -/
theorem run_half {step : Int × Int → Option ((Int × Int) ⊕ Int)} {n k : Nat} (hk : k ≤ n)
    (hstep : ∀ lo hi : Nat, lo < hi → hi ≤ n → step ((lo : Int), (hi : Int)) = some (.inl (if lo + (hi - lo) / 2 < k then (((lo + (hi - lo) / 2 + 1 : Nat) : Int), (hi : Int)) else ((lo : Int), ((lo + (hi - lo) / 2 : Nat) : Int)))))
    (hend : ∀ lo : Nat, step ((lo : Int), (lo : Int)) = some (.inr (lo : Int))) : run step ((0 : Int), (n : Int)) = some (k : Int) := by
  have key : ∀ (m lo hi : Nat), hi - lo = m → lo ≤ k → k ≤ hi → hi ≤ n → run step ((lo : Int), (hi : Int)) = some (k : Int) := by
    intro m
    induction m using Nat.strongRecOn with
    | _ m ih =>
      intro lo hi hm h1 h2 h3
      by_cases hlt : lo < hi
      · rw [run_inl (hstep lo hi hlt h3)]
        split
        · exact ih (hi - (lo + (hi - lo) / 2 + 1)) (by omega) _ _ rfl (by omega) h2 h3
        · exact ih ((lo + (hi - lo) / 2) - lo) (by omega) _ _ rfl h1 (by omega) (by omega)
      · have : lo = hi := by omega
        subst this
        have : lo = k := by omega
        subst this
        exact run_inr (hend lo)
  exact key (n - 0) 0 n rfl (Nat.zero_le _) hk (Nat.le_refl _)

/-- The middle, as the machine reckons it. -/
theorem mid_val {lo hi : Nat} (h : lo ≤ hi) (hn : hi ≤ 4611686018427387904) :
    IntKind.wrap .i64 ((lo : Int) + IntKind.wrap .i64 (Int.tdiv (IntKind.wrap .i64 ((hi : Int) - (lo : Int))) 2)) = ((lo + (hi - lo) / 2 : Nat) : Int) := by
  have e1 : IntKind.wrap .i64 ((hi : Int) - (lo : Int)) = ((hi - lo : Nat) : Int) := by rw [wrap_i64 (by omega) (by omega)]; omega
  have e2 : Int.tdiv ((hi - lo : Nat) : Int) 2 = (((hi - lo) / 2 : Nat) : Int) := by
    rw [Int.tdiv_eq_ediv_of_nonneg (by omega)]; omega
  rw [e1, e2, wrap_i64 (x := (((hi - lo) / 2 : Nat) : Int)) (by omega) (by omega), wrap_i64 (by omega) (by omega)]
  omega
end Q

/-! Chapter 38: the zones and the means of a ride are the same numbers in the code's sets and in the reference's. Conditions: a valid network, a leg that exists. -/
namespace Q
open Tr Go

theorem or_i64 {a b : Nat} (ha : a < 65536) (hb : b < 65536) : Tr.qor .i64 (a : Int) (b : Int) = ((a ||| b : Nat) : Int) := by
  have hor : a ||| b < 2 ^ 16 := Nat.or_lt_two_pow (n := 16) (by omega) (by omega)
  unfold Tr.qor
  have h1 : (BitVec.ofInt IntKind.i64.bits (a : Int) ||| BitVec.ofInt IntKind.i64.bits (b : Int)).toNat = a ||| b := by
    rw [BitVec.toNat_or, BitVec.ofInt_natCast, BitVec.ofInt_natCast, BitVec.toNat_ofNat, BitVec.toNat_ofNat]
    show a % 2 ^ 64 ||| b % 2 ^ 64 = a ||| b
    rw [Nat.mod_eq_of_lt (show a < 2 ^ 64 by omega), Nat.mod_eq_of_lt (show b < 2 ^ 64 by omega)]
  rw [h1, wrap_i64 (by omega) (by omega)]

theorem or_u64 {a b : Nat} (ha : a < 65536) (hb : b < 65536) : Tr.qor .u64 (a : Int) (b : Int) = ((a ||| b : Nat) : Int) := by
  have hor : a ||| b < 2 ^ 16 := Nat.or_lt_two_pow (n := 16) (by omega) (by omega)
  unfold Tr.qor
  have h1 : (BitVec.ofInt IntKind.u64.bits (a : Int) ||| BitVec.ofInt IntKind.u64.bits (b : Int)).toNat = a ||| b := by
    rw [BitVec.toNat_or, BitVec.ofInt_natCast, BitVec.ofInt_natCast, BitVec.toNat_ofNat, BitVec.toNat_ofNat]
    show a % 2 ^ 64 ||| b % 2 ^ 64 = a ||| b
    rw [Nat.mod_eq_of_lt (show a < 2 ^ 64 by omega), Nat.mod_eq_of_lt (show b < 2 ^ 64 by omega)]
  rw [h1]
  simp [IntKind.wrap, IntKind.signed, IntKind.bits]
  omega

theorem shl_i64 {z : Int} (h0 : 0 ≤ z) (h1 : z < 16) : Tr.qshl .i64 1 z = some ((2 ^ z.toNat : Nat) : Int) := by
  have : z = 0 ∨ z = 1 ∨ z = 2 ∨ z = 3 ∨ z = 4 ∨ z = 5 ∨ z = 6 ∨ z = 7 ∨ z = 8 ∨ z = 9 ∨ z = 10 ∨ z = 11 ∨ z = 12 ∨ z = 13 ∨ z = 14 ∨ z = 15 := by omega
  rcases this with rfl | rfl | rfl | rfl | rfl | rfl | rfl | rfl | rfl | rfl | rfl | rfl | rfl | rfl | rfl | rfl <;> decide

theorem shl_u64 {z : Int} (h0 : 0 ≤ z) (h1 : z < 16) : Tr.qshl .u64 1 z = some ((2 ^ z.toNat : Nat) : Int) := by
  have : z = 0 ∨ z = 1 ∨ z = 2 ∨ z = 3 ∨ z = 4 ∨ z = 5 ∨ z = 6 ∨ z = 7 ∨ z = 8 ∨ z = 9 ∨ z = 10 ∨ z = 11 ∨ z = 12 ∨ z = 13 ∨ z = 14 ∨ z = 15 := by omega
  rcases this with rfl | rfl | rfl | rfl | rfl | rfl | rfl | rfl | rfl | rfl | rfl | rfl | rfl | rfl | rfl | rfl <;> decide

theorem pow_small {z : Int} (h1 : z < 16) : 2 ^ z.toNat < 65536 := Nat.pow_lt_pow_right (by omega) (show z.toNat < 16 by omega)

theorem one_bit {z : Int} (h0 : 0 ≤ z) (h1 : z < 16) : F_bitset_one z = some ((2 ^ z.toNat : Nat) : Int) := by
  unfold F_bitset_one
  rw [decide_eq_false (show ¬ z < 0 by omega), decide_eq_false (show ¬ 63 < z by omega)]
  simp only [cond_false, Option.bind_some, shl_u64 h0 h1]

theorem with_val {m : Nat} (hm : m < 65536) {z : Int} (h0 : 0 ≤ z) (h1 : z < 16) : F_bitset_Set_With (m : Int) z = some ((m ||| 2 ^ z.toNat : Nat) : Int) := by
  unfold F_bitset_Set_With
  rw [one_bit h0 h1]
  simp only [Option.bind_some]
  rw [or_u64 hm (pow_small h1)]

theorem of_one {z : Int} (h0 : 0 ≤ z) (h1 : z < 16) : F_bitset_Of [z] = some ((2 ^ z.toNat : Nat) : Int) := by
  unfold F_bitset_Of
  rw [run_inl (s' := (((2 ^ z.toNat : Nat) : Int), (1 : Int))) ?_, run_inr (r := ((2 ^ z.toNat : Nat) : Int)) ?_]
  · rfl
  · simp
  · have := or_u64 (a := 0) (by omega) (pow_small h1)
    simp only [Nat.zero_or] at this
    show (bif decide ((0 : Int) < ((1 : Nat) : Int)) then _ else _) = _
    rw [decide_eq_true (show (0 : Int) < ((1 : Nat) : Int) by omega)]
    simp only [cond_true]
    rw [show Tr.idx [z] (0 : Int) = some z from rfl]
    simp only [Option.bind_some, one_bit h0 h1]
    rw [show Tr.qor .u64 (0 : Int) ((2 ^ z.toNat : Nat) : Int) = ((2 ^ z.toNat : Nat) : Int) from this]
    rfl
end Q

/-! Chapter 38: which legs exist, and the zones of a ride. Conditions: a valid network. -/
namespace Q
open Tr Go

abbrev LegT := Bool × Int × Int × Int × Int × Int × Int × Int × Bool × Unit
abbrev RideT := Int × Int × Int × Int × Unit
abbrev JouT := List LegT × Unit

def callsOf (n : NetT) (x : LegT) : List CallT := (rn n x.2.1).2.2.2.2.2.2.2.1
def existsB (n : NetT) (x : LegT) : Bool := inR x.2.1 n.2.2.1.length && (decide (0 ≤ x.2.2.1) && (decide (x.2.2.1 < x.2.2.2.1) && decide (x.2.2.2.1 < ((callsOf n x).length : Int))))

theorem exists_val (n : NetT) (x : LegT) : F_journey_exists n x = some (existsB n x) := by
  unfold F_journey_exists existsB
  by_cases h : inR x.2.1 n.2.2.1.length = true
  · have e : Tr.idx n.2.2.1 x.2.1 = some (rn n x.2.1) := idx_int h u0
    simp only [e, Option.bind_some, h]
    unfold inR at h
    simp only [Bool.and_eq_true] at h
    simp only [h.1, h.2, cond_true]
    unfold callsOf
    generalize decide (0 ≤ x.2.2.1) = a1
    generalize decide (x.2.2.1 < x.2.2.2.1) = a2
    generalize decide (x.2.2.2.1 < ((rn n x.2.1).2.2.2.2.2.2.2.1.length : Int)) = a3
    cases a1 <;> cases a2 <;> cases a3 <;> rfl
  · have h' : inR x.2.1 n.2.2.1.length = false := by simpa using h
    rw [h']
    unfold inR at h'
    revert h'
    generalize decide (0 ≤ x.2.1) = a1
    generalize decide (x.2.1 < (n.2.2.1.length : Int)) = a2
    cases a1 <;> cases a2 <;> intro h' <;> first | rfl | cases h'

theorem existsR_val (n : NetT) (x : LegT) : F_ref38_Exists n x = some (existsB n x) := by
  unfold F_ref38_Exists existsB
  by_cases h : inR x.2.1 n.2.2.1.length = true
  · have e : Tr.idx n.2.2.1 x.2.1 = some (rn n x.2.1) := idx_int h u0
    simp only [e, Option.bind_some, h]
    unfold inR at h
    simp only [Bool.and_eq_true, decide_eq_true_eq] at h
    rw [decide_eq_false (show ¬ x.2.1 < 0 by omega), decide_eq_false (show ¬ (n.2.2.1.length : Int) ≤ x.2.1 by omega)]
    simp only [cond_false, Option.bind_some]
    unfold callsOf
    generalize decide (0 ≤ x.2.2.1) = a1
    generalize decide (x.2.2.1 < x.2.2.2.1) = a2
    generalize decide (x.2.2.2.1 < ((rn n x.2.1).2.2.2.2.2.2.2.1.length : Int)) = a3
    cases a1 <;> cases a2 <;> cases a3 <;> rfl
  · have h' : inR x.2.1 n.2.2.1.length = false := by simpa using h
    rw [h']
    unfold inR at h
    simp only [Bool.and_eq_true, decide_eq_true_eq] at h
    by_cases h1 : x.2.1 < 0
    · rw [decide_eq_true h1]; rfl
    · rw [decide_eq_false h1, decide_eq_true (show (n.2.2.1.length : Int) ≤ x.2.1 by omega)]; rfl

def s0 : StopT := ([], 0, false, 0, ())
def stopAt (n : NetT) (a : Int) : StopT := (n.1[a.toNat]?).getD s0
def zn (n : NetT) (l : List CallT) (j : Nat) : Nat := 2 ^ (stopAt n ((l[j]?).getD c0).1).2.1.toNat
def zN (n : NetT) (l : List CallT) (a : Nat) : Nat → Nat
  | 0 => 0
  | k + 1 => zN n l a k ||| zn n l (a + k)

theorem stop_sound {n : NetT} (h : Sound n) {a : Int} (h0 : 0 ≤ a) (h1 : a < (n.1.length : Int)) : Tr.idx n.1 a = some (stopAt n a) ∧ 0 ≤ (stopAt n a).2.1 ∧ (stopAt n a).2.1 < 16 := by
  have hi : inR a n.1.length = true := by unfold inR; rw [decide_eq_true h0, decide_eq_true h1]; rfl
  refine ⟨idx_int hi s0, ?_⟩
  have hl : a.toNat < n.1.length := by omega
  unfold stopAt
  rw [getD_of hl]
  exact h.zone _ (List.getElem_mem hl)

theorem zN_small {n : NetT} (h : Sound n) {l : List CallT} (hc : ∀ c ∈ l, 0 ≤ c.1 ∧ c.1 < (n.1.length : Int)) {a : Nat} : ∀ k, a + k ≤ l.length → zN n l a k < 65536
  | 0, _ => by unfold zN; omega
  | k + 1, hk => by
    have ih := zN_small h hc (a := a) k (by omega)
    have hj : a + k < l.length := by omega
    have hcj := hc _ (List.getElem_mem hj)
    have hz := (stop_sound h hcj.1 hcj.2).2
    have : zn n l (a + k) < 65536 := by
      unfold zn
      rw [getD_of hj]
      exact pow_small hz.2
    exact Nat.or_lt_two_pow (n := 16) ih this

theorem zones_val {n : NetT} (h : Sound n) {x : LegT} (hx : existsB n x = true) : F_journey_zones n x = some ((zN n (callsOf n x) x.2.2.1.toNat (x.2.2.2.1.toNat + 1 - x.2.2.1.toNat) : Nat) : Int) := by
  unfold existsB at hx
  simp only [Bool.and_eq_true, decide_eq_true_eq] at hx
  obtain ⟨hr, h0, h1, h2⟩ := hx
  have hm := rn_mem hr
  have hmany := (h.many _ hm).2
  have hc : ∀ c ∈ callsOf n x, 0 ≤ c.1 ∧ c.1 < (n.1.length : Int) := h.call _ hm
  have e : Tr.idx n.2.2.1 x.2.1 = some (rn n x.2.1) := idx_int hr u0
  unfold F_journey_zones
  rw [e]
  simp only [Option.bind_some]
  have hfold : (rn n x.2.1).2.2.2.2.2.2.2.1 = callsOf n x := rfl
  simp only [hfold] at hmany ⊢
  generalize callsOf n x = l at *
  obtain ⟨a, ha⟩ : ∃ a : Nat, x.2.2.1 = (a : Int) := ⟨x.2.2.1.toNat, by omega⟩
  obtain ⟨b, hb⟩ : ∃ b : Nat, x.2.2.2.1 = (b : Int) := ⟨x.2.2.2.1.toNat, by omega⟩
  rw [ha] at h0 h1
  rw [hb] at h1 h2
  rw [ha, hb]
  have hw : IntKind.wrap .i64 ((b : Int) + 1) = ((b + 1 : Nat) : Int) := by rw [wrap_i64 (by omega) (by omega)]; omega
  have hsl : Tr.sliceB l.length l.length (some (a : Int)) (some ((b + 1 : Nat) : Int)) = some (a, b + 1) := by
    unfold Tr.sliceB
    simp only
    rw [if_pos (by omega)]
    simp only [Option.bind_some, Int.toNat_natCast]
    rw [if_pos (by omega)]
  rw [hw, hsl]
  simp only [Option.bind_some, Int.toNat_natCast]
  have hlen : (List.take (b + 1 - a) (List.drop a l)).length = b + 1 - a := by
    rw [List.length_take, List.length_drop]; omega
  rw [scan_run (n := b + 1 - a) (fun i (st : Int × Int) => st = (((zN n l a i : Nat) : Int), (i : Int))) (fun _ => 0) (fun _ => ((zN n l a (b + 1 - a) : Nat) : Int)) ((zN n l a (b + 1 - a) : Nat) : Int) ?_ ?_ ?_ ((0 : Int), (0 : Int)) rfl]
  · unfold pick
    rw [firstBad_none fun _ _ => rfl]
    rfl
  · rintro i _ hi rfl _
    have hj : a + i < l.length := by omega
    have hcj := hc _ (List.getElem_mem hj)
    obtain ⟨hs1, hs2, hs3⟩ := stop_sound h hcj.1 hcj.2
    refine ⟨(((zN n l a (i + 1) : Nat) : Int), ((i + 1 : Nat) : Int)), ?_, rfl⟩
    simp only [hlen, lt_dec hi, cond_true]
    rw [idx_nat (show i < (List.take (b + 1 - a) (List.drop a l)).length by omega)]
    simp only [List.getElem_take, List.getElem_drop, Option.bind_some, hs1, with_val (zN_small h hc (a := a) i (by omega)) hs2 hs3, wrap_succ hi (show b + 1 - a ≤ 9223372036854775807 by omega)]
    have : zN n l a (i + 1) = zN n l a i ||| 2 ^ (stopAt n l[a + i].1).2.1.toNat := by
      show zN n l a i ||| zn n l (a + i) = _
      unfold zn
      rw [getD_of hj]
    rw [this]
  · intro i s _ _ hh; exact absurd rfl hh
  · rintro _ rfl
    simp only [hlen, nlt_dec, cond_false]

theorem zonesR_val {n : NetT} (h : Sound n) {x : LegT} (hx : existsB n x = true) : F_ref38_zones n x = some ((zN n (callsOf n x) x.2.2.1.toNat (x.2.2.2.1.toNat + 1 - x.2.2.1.toNat) : Nat) : Int) := by
  unfold existsB at hx
  simp only [Bool.and_eq_true, decide_eq_true_eq] at hx
  obtain ⟨hr, h0, h1, h2⟩ := hx
  have hm := rn_mem hr
  have hmany := (h.many _ hm).2
  have hc : ∀ c ∈ callsOf n x, 0 ≤ c.1 ∧ c.1 < (n.1.length : Int) := h.call _ hm
  have e : Tr.idx n.2.2.1 x.2.1 = some (rn n x.2.1) := idx_int hr u0
  unfold F_ref38_zones
  rw [e]
  simp only [Option.bind_some]
  have hfold : (rn n x.2.1).2.2.2.2.2.2.2.1 = callsOf n x := rfl
  simp only [hfold] at hmany ⊢
  generalize callsOf n x = l at *
  obtain ⟨a, ha⟩ : ∃ a : Nat, x.2.2.1 = (a : Int) := ⟨x.2.2.1.toNat, by omega⟩
  obtain ⟨b, hb⟩ : ∃ b : Nat, x.2.2.2.1 = (b : Int) := ⟨x.2.2.2.1.toNat, by omega⟩
  rw [ha] at h0 h1
  rw [hb] at h1 h2
  rw [ha, hb]
  simp only [Int.toNat_natCast]
  rw [scan_run (n := b + 1 - a) (fun i (st : Int × Int) => st = (((zN n l a i : Nat) : Int), ((a + i : Nat) : Int))) (fun _ => 0) (fun _ => ((zN n l a (b + 1 - a) : Nat) : Int)) ((zN n l a (b + 1 - a) : Nat) : Int) ?_ ?_ ?_ ((0 : Int), (a : Int)) rfl]
  · unfold pick
    rw [firstBad_none fun _ _ => rfl]
    rfl
  · rintro i _ hi rfl _
    have hj : a + i < l.length := by omega
    have hcj := hc _ (List.getElem_mem hj)
    obtain ⟨hs1, hs2, hs3⟩ := stop_sound h hcj.1 hcj.2
    refine ⟨(((zN n l a (i + 1) : Nat) : Int), ((a + (i + 1) : Nat) : Int)), ?_, rfl⟩
    have hw : IntKind.wrap .i64 (((a + i : Nat) : Int) + 1) = ((a + (i + 1) : Nat) : Int) := by rw [wrap_i64 (by omega) (by omega)]; omega
    simp only [decide_eq_true (show ((a + i : Nat) : Int) ≤ (b : Int) by omega), cond_true, idx_nat hj, Option.bind_some, hs1, shl_i64 hs2 hs3, hw]
    rw [or_i64 (zN_small h hc (a := a) i (by omega)) (pow_small hs3)]
    have : zN n l a (i + 1) = zN n l a i ||| 2 ^ (stopAt n l[a + i].1).2.1.toNat := by
      show zN n l a i ||| zn n l (a + i) = _
      unfold zn
      rw [getD_of hj]
    rw [this]
  · intro i s _ _ hh; exact absurd rfl hh
  · rintro _ rfl
    simp only [decide_eq_false (show ¬ ((a + (b + 1 - a) : Nat) : Int) ≤ (b : Int) by omega), cond_false]
end Q

/-! Chapter 38: Rides returns the rides of the reference. Conditions: those of the law's sizes. -/
namespace Q
open Tr Go

theorem run_two {σ ρ τ : Type} {f : σ → Option (σ ⊕ τ)} {g : ρ → Option (ρ ⊕ τ)} {n : Nat} (P : τ → Prop) (R : Nat → σ → ρ → Prop)
    (hstep : ∀ i s t, i < n → R i s t → (∃ s' t', f s = some (.inl s') ∧ g t = some (.inl t') ∧ R (i + 1) s' t') ∨ ∃ r, f s = some (.inr r) ∧ g t = some (.inr r) ∧ P r)
    (hend : ∀ s t, R n s t → ∃ r, f s = some (.inr r) ∧ g t = some (.inr r) ∧ P r) (s : σ) (t : ρ) (h0 : R 0 s t) : ∃ r, run f s = some r ∧ run g t = some r ∧ P r := by
  have key : ∀ (k i : Nat) (s : σ) (t : ρ), n - i = k → i ≤ n → R i s t → ∃ r, run f s = some r ∧ run g t = some r ∧ P r := by
    intro k
    induction k with
    | zero =>
      intro i s t hk hi hs
      have : i = n := by omega
      subst this
      obtain ⟨r, h1, h2, h3⟩ := hend s t hs
      exact ⟨r, run_inr h1, run_inr h2, h3⟩
    | succ k ih =>
      intro i s t hk hi hs
      rcases hstep i s t (by omega) hs with ⟨s', t', h1, h2, h3⟩ | ⟨r, h1, h2, h3⟩
      · rw [run_inl h1, run_inl h2]
        exact ih (i + 1) s' t' (by omega) (by omega) h3
      · exact ⟨r, run_inr h1, run_inr h2, h3⟩
  exact key n 0 s t (by omega) (by omega) h0

theorem inb_last {k : Nat} (h : 0 < k) (hk : k ≤ 9223372036854775807) : Tr.inb (IntKind.wrap .i64 ((k : Int) - 1)) k = some (k - 1) := by
  have e : IntKind.wrap .i64 ((k : Int) - 1) = ((k - 1 : Nat) : Int) := by rw [wrap_i64 (by omega) (by omega)]; omega
  rw [e, inb_nat (by omega)]

theorem set_get {α : Type} {l : List α} {k : Nat} (h : k < l.length) (w : α) : (l.set k w)[k]? = some w := by simp [h]

theorem wrap_mask {m : Nat} (h : m < 65536) : IntKind.wrap .i64 (m : Int) = (m : Int) := wrap_i64 (by omega) (by omega)

def zmask (n : NetT) (x : LegT) : Nat := zN n (callsOf n x) x.2.2.1.toNat (x.2.2.2.1.toNat + 1 - x.2.2.1.toNat)

theorem zmask_small {n : NetT} (h : Sound n) {x : LegT} (hx : existsB n x = true) : zmask n x < 65536 := by
  unfold existsB at hx
  simp only [Bool.and_eq_true, decide_eq_true_eq] at hx
  obtain ⟨hr, h0, h1, h2⟩ := hx
  exact zN_small h (h.call _ (rn_mem hr)) _ (by unfold callsOf at h2; omega)

def r00 : RouteT := ([], 0, false, ())
def routeAt (n : NetT) (x : LegT) : RouteT := (n.2.1[(rn n x.2.1).2.2.2.2.1.toNat]?).getD r00

theorem route_ok {n : NetT} (h : Sound n) {x : LegT} (hx : existsB n x = true) : Tr.idx n.2.2.1 x.2.1 = some (rn n x.2.1) ∧ Tr.idx n.2.1 (rn n x.2.1).2.2.2.2.1 = some (routeAt n x) ∧ 0 ≤ (routeAt n x).2.1 ∧ (routeAt n x).2.1 < 16 := by
  unfold existsB at hx
  simp only [Bool.and_eq_true] at hx
  have hm := rn_mem hx.1
  have h1 := h.route _ hm
  have hi : inR (rn n x.2.1).2.2.2.2.1 n.2.1.length = true := by unfold inR; rw [decide_eq_true h1.1, decide_eq_true h1.2]; rfl
  refine ⟨idx_int hx.1 u0, idx_int hi r00, ?_⟩
  have hl : (rn n x.2.1).2.2.2.2.1.toNat < n.2.1.length := by omega
  unfold routeAt
  rw [getD_of hl]
  have := h.mode _ (List.getElem_mem hl)
  omega

def newRide (n : NetT) (x : LegT) : RideT := (x.2.2.2.2.2.2.1, x.2.2.2.2.2.2.2.1, ((zmask n x : Nat) : Int), ((2 ^ (routeAt n x).2.1.toNat : Nat) : Int), ())
def addRide (n : NetT) (x : LegT) (l : List RideT) (v : RideT) : List RideT :=
  l.set (l.length - 1) (v.1, x.2.2.2.2.2.2.2.1, Tr.qor .i64 v.2.2.1 ((zmask n x : Nat) : Int), Tr.qor .i64 v.2.2.2.1 ((2 ^ (routeAt n x).2.1.toNat : Nat) : Int), ())

theorem rides1_new {n : NetT} (h : Sound n) {x : LegT} (hx : existsB n x = true) (hs : x.2.2.2.2.2.2.2.2.1 = false) {l : List RideT} (hl : l.length ≤ 100) : F_journey_Rides_1 x n l = some (l ++ [newRide n x]) := by
  obtain ⟨e1, e2, e3, e4⟩ := route_ok h hx
  unfold F_journey_Rides_1
  rw [zones_val h hx]
  simp only [Option.bind_some, e1, e2, of_one e3 e4, hs, Bool.not_false, cond_true]
  rw [show IntKind.wrap .i64 ((zN n (callsOf n x) x.2.2.1.toNat (x.2.2.2.1.toNat + 1 - x.2.2.1.toNat) : Nat) : Int) = ((zmask n x : Nat) : Int) from wrap_mask (zmask_small h hx), wrap_mask (pow_small e4)]
  have hg : (decide (l.length + [newRide n x].length ≤ Tr.maxApp)) = true := decide_eq_true (by simp [Tr.maxApp]; omega)
  show (Tr.guardB (decide (l.length + [newRide n x].length ≤ Tr.maxApp))).bind (fun _ => some (l ++ [newRide n x])) = _
  rw [hg]
  rfl

theorem rides1_stay {n : NetT} (h : Sound n) {x : LegT} (hx : existsB n x = true) (hs : x.2.2.2.2.2.2.2.2.1 = true) {l : List RideT} (hl : l.length ≤ 100) {v : RideT} (h0 : 0 < l.length) (hv : l[l.length - 1]? = some v) : F_journey_Rides_1 x n l = some (addRide n x l v) := by
  obtain ⟨e1, e2, e3, e4⟩ := route_ok h hx
  unfold F_journey_Rides_1
  rw [zones_val h hx]
  simp only [Option.bind_some, e1, e2, of_one e3 e4, hs, Bool.not_true, cond_false]
  rw [show IntKind.wrap .i64 ((zN n (callsOf n x) x.2.2.1.toNat (x.2.2.2.1.toNat + 1 - x.2.2.1.toNat) : Nat) : Int) = ((zmask n x : Nat) : Int) from wrap_mask (zmask_small h hx), wrap_mask (pow_small e4)]
  have hk : l.length - 1 < l.length := by omega
  simp only [inb_last h0 (by omega), Option.bind_some]
  erw [hv]
  simp only [Option.bind_some, List.set_set]
  erw [set_get hk]
  simp only [Option.bind_some]
  erw [set_get hk]
  rfl

theorem rides_same (n : NetT) (j : JouT) (hf : Fit n) (hj : j.1.length ≤ 20) : ∃ r : List RideT × Int, F_journey_Rides n j = some r ∧ F_ref38_Rides n j = some r ∧ r.1.length ≤ 20 := by
  obtain ⟨c, hc1, hc2, hc3⟩ := check_same n hf
  unfold F_journey_Rides F_ref38_Rides F_ref26_Valid
  rw [hc1, hc2]
  simp only [Option.bind_some]
  by_cases he : c.2.2 = 0
  case neg =>
    rw [decide_eq_false he]
    exact ⟨([], 21), rfl, rfl, by simp⟩
  have h := hc3 he
  rw [decide_eq_true he]
  simp only [Bool.not_true, cond_false]
  refine Exists.elim (run_two (n := j.1.length) (τ := List RideT ⊕ (List RideT × Int)) (fun r => Sum.elim (fun l : List RideT => l.length ≤ 20) (fun y => y.1.length ≤ 20) r)
    (fun i (s : List RideT × Bool × Int) (t : List RideT × Int) => ∃ l w, s = (l, w, (i : Int)) ∧ t = (l, (i : Int)) ∧ l.length ≤ i ∧ (w = true → 0 < l.length) ∧ w = (if i = 0 then false else ((j.1[i - 1]?).getD (false, 0, 0, 0, 0, 0, 0, 0, false, ())).1))
    (f := fun s1 =>
            bif Decidable.decide (s1.snd.snd < (↑(List.length j.fst) : Int)) then
              Option.bind (Tr.idx j.fst s1.snd.snd) fun x2 =>
                Option.bind (bif x2.fst then Option.bind (F_journey_exists n x2) fun x3 => Option.some !x3 else Option.some Bool.false) fun x4 =>
                  bif x4 then Option.some (Sum.inr (Sum.inr ([], (9 : Int))))
                  else
                    Option.bind (bif x2.snd.snd.snd.snd.snd.snd.snd.snd.fst then bif !x2.fst then Option.some Bool.true else Option.some !s1.snd.fst else Option.some Bool.false) fun x5 =>
                      bif x5 then Option.some (Sum.inr (Sum.inr ([], (19 : Int))))
                      else
                        Option.bind (bif x2.fst then Option.bind (F_journey_Rides_1 x2 n s1.fst) fun x6 => Option.some x6 else Option.some s1.fst) fun x7 =>
                          Option.some (Sum.inl (x7, x2.fst, Go.IntKind.wrap Go.IntKind.i64 (s1.snd.snd + (1 : Int))))
            else Option.some (Sum.inr (Sum.inl s1.fst)))
    (g := fun s1 =>
            bif Decidable.decide (s1.snd < (↑(List.length j.fst) : Int)) then
              Option.bind (Tr.idx j.fst s1.snd) fun x2 =>
                Option.bind (bif x2.fst then Option.bind (F_ref38_Exists n x2) fun x3 => Option.some !x3 else Option.some Bool.false) fun x4 =>
                  bif x4 then Option.some (Sum.inr (Sum.inr ([], (9 : Int))))
                  else
                    Option.bind
                      (bif x2.snd.snd.snd.snd.snd.snd.snd.snd.fst then
                        bif !x2.fst then Option.some Bool.true
                        else
                          bif Decidable.decide (s1.snd = (0 : Int)) then Option.some Bool.true
                          else Option.bind (Tr.idx j.fst (Go.IntKind.wrap Go.IntKind.i64 (s1.snd - (1 : Int)))) fun x5 => Option.some !x5.fst
                      else Option.some Bool.false)
                      fun x6 =>
                      bif x6 then Option.some (Sum.inr (Sum.inr ([], (19 : Int))))
                      else
                        bif !x2.fst then Option.some (Sum.inl (s1.fst, Go.IntKind.wrap Go.IntKind.i64 (s1.snd + (1 : Int))))
                        else
                          Option.bind (Tr.idx n.snd.snd.fst x2.snd.fst) fun x7 =>
                            Option.bind (Tr.idx n.snd.fst x7.snd.snd.snd.snd.fst) fun x8 =>
                              Option.bind (Tr.qshl Go.IntKind.i64 (1 : Int) x8.snd.fst) fun x9 =>
                                bif x2.snd.snd.snd.snd.snd.snd.snd.snd.fst then
                                  Option.bind (Tr.inb (Go.IntKind.wrap Go.IntKind.i64 ((↑(List.length s1.fst) : Int) - (1 : Int))) (List.length s1.fst)) fun x10 =>
                                    Option.bind s1.fst[x10]? fun x11 =>
                                      Option.bind
                                        (Tr.inb (Go.IntKind.wrap Go.IntKind.i64 ((↑(List.length s1.fst) : Int) - (1 : Int)))
                                          (List.length (List.set s1.fst x10 (x11.fst, x2.snd.snd.snd.snd.snd.snd.snd.fst, x11.snd.snd))))
                                        fun x12 =>
                                        Option.bind (List.set s1.fst x10 (x11.fst, x2.snd.snd.snd.snd.snd.snd.snd.fst, x11.snd.snd))[x12]? fun x13 =>
                                          Option.bind (F_ref38_zones n x2) fun x14 =>
                                            Option.bind
                                              (Tr.inb (Go.IntKind.wrap Go.IntKind.i64 ((↑(List.length s1.fst) : Int) - (1 : Int)))
                                                (List.length (List.set s1.fst x10 (x11.fst, x2.snd.snd.snd.snd.snd.snd.snd.fst, x11.snd.snd))))
                                              fun x15 =>
                                              Option.bind (List.set s1.fst x10 (x11.fst, x2.snd.snd.snd.snd.snd.snd.snd.fst, x11.snd.snd))[x15]? fun x16 =>
                                                Option.bind
                                                  (Tr.inb (Go.IntKind.wrap Go.IntKind.i64 ((↑(List.length s1.fst) : Int) - (1 : Int)))
                                                    (List.length
                                                      (List.set (List.set s1.fst x10 (x11.fst, x2.snd.snd.snd.snd.snd.snd.snd.fst, x11.snd.snd)) x15
                                                        (x16.fst, x16.snd.fst, Tr.qor Go.IntKind.i64 x13.snd.snd.fst x14, x16.snd.snd.snd))))
                                                  fun x17 =>
                                                  Option.bind
                                                    (List.set (List.set s1.fst x10 (x11.fst, x2.snd.snd.snd.snd.snd.snd.snd.fst, x11.snd.snd)) x15
                                                        (x16.fst, x16.snd.fst, Tr.qor Go.IntKind.i64 x13.snd.snd.fst x14, x16.snd.snd.snd))[x17]?
                                                    fun x18 =>
                                                    Option.bind
                                                      (Tr.inb (Go.IntKind.wrap Go.IntKind.i64 ((↑(List.length s1.fst) : Int) - (1 : Int)))
                                                        (List.length
                                                          (List.set (List.set s1.fst x10 (x11.fst, x2.snd.snd.snd.snd.snd.snd.snd.fst, x11.snd.snd)) x15
                                                            (x16.fst, x16.snd.fst, Tr.qor Go.IntKind.i64 x13.snd.snd.fst x14, x16.snd.snd.snd))))
                                                      fun x19 =>
                                                      Option.bind
                                                        (List.set (List.set s1.fst x10 (x11.fst, x2.snd.snd.snd.snd.snd.snd.snd.fst, x11.snd.snd)) x15
                                                            (x16.fst, x16.snd.fst, Tr.qor Go.IntKind.i64 x13.snd.snd.fst x14, x16.snd.snd.snd))[x19]?
                                                        fun x20 =>
                                                        Option.some
                                                          (Sum.inl
                                                            (List.set
                                                                (List.set (List.set s1.fst x10 (x11.fst, x2.snd.snd.snd.snd.snd.snd.snd.fst, x11.snd.snd)) x15
                                                                  (x16.fst, x16.snd.fst, Tr.qor Go.IntKind.i64 x13.snd.snd.fst x14, x16.snd.snd.snd))
                                                                x19 (x20.fst, x20.snd.fst, x20.snd.snd.fst, Tr.qor Go.IntKind.i64 x18.snd.snd.snd.fst x9, x20.snd.snd.snd.snd),
                                                              Go.IntKind.wrap Go.IntKind.i64 (s1.snd + (1 : Int))))
                                else
                                  Option.bind (F_ref38_zones n x2) fun x21 =>
                                    Option.bind
                                      (Tr.guardB (Decidable.decide (List.length s1.fst + List.length [(x2.snd.snd.snd.snd.snd.snd.fst, x2.snd.snd.snd.snd.snd.snd.snd.fst, x21, x9, ())] ≤ Tr.maxApp)))
                                      fun _ =>
                                      Option.some
                                        (Sum.inl (s1.fst ++ [(x2.snd.snd.snd.snd.snd.snd.fst, x2.snd.snd.snd.snd.snd.snd.snd.fst, x21, x9, ())], Go.IntKind.wrap Go.IntKind.i64 (s1.snd + (1 : Int))))
            else Option.some (Sum.inr (Sum.inl s1.fst))) ?_ ?_ ([], false, (0 : Int)) ([], (0 : Int)) ⟨[], false, rfl, rfl, by simp, fun e => (nomatch e), rfl⟩) ?_
  rotate_left 2
  · rintro r ⟨h1, h2, h3⟩
    refine ⟨Sum.elim (fun l => (l, (0 : Int))) id r, ?_, ?_, ?_⟩
    · refine (congrArg (Option.bind · _) h1).trans ?_
      cases r <;> rfl
    · refine (congrArg (Option.bind · _) h2).trans ?_
      cases r <;> rfl
    · cases r <;> exact h3
  · rintro i _ _ hi ⟨l, w, rfl, rfl, hl, hw, hww⟩
    have hil : j.1.length ≤ 9223372036854775807 := by omega
    simp only [lt_dec hi, cond_true, idx_nat hi, Option.bind_some, wrap_succ hi hil]
    have hnext : ∀ b : Bool, b = (j.1[i]).1 → b = (if i + 1 = 0 then false else ((j.1[i + 1 - 1]?).getD (false, 0, 0, 0, 0, 0, 0, 0, false, ())).1) := by
      intro b hb
      rw [if_neg (by omega), show i + 1 - 1 = i by omega, getD_of hi, hb]
    have hprev : 0 < i → Tr.idx j.1 (IntKind.wrap .i64 ((i : Int) - 1)) = some ((j.1[i - 1]?).getD (false, 0, 0, 0, 0, 0, 0, 0, false, ())) := by
      intro h0
      have e : IntKind.wrap .i64 ((i : Int) - 1) = ((i - 1 : Nat) : Int) := by rw [wrap_i64 (by omega) (by omega)]; omega
      rw [e, idx_nat (show i - 1 < j.1.length by omega), getD_of (show i - 1 < j.1.length by omega)]
    generalize j.1[i] = x at *
    cases hx1 : x.1 with
    | false =>
      simp only [cond_false, Option.bind_some, Bool.not_false, cond_true]
      cases hs : x.2.2.2.2.2.2.2.2.1 with
      | true => exact .inr ⟨_, rfl, rfl, by simp⟩
      | false => exact .inl ⟨(l, false, ((i + 1 : Nat) : Int)), (l, ((i + 1 : Nat) : Int)), rfl, rfl, l, false, rfl, rfl, by omega, fun e => (nomatch e), hnext false hx1.symm⟩
    | true =>
      simp only [cond_true, Option.bind_some, Bool.not_true, cond_false, exists_val, existsR_val]
      cases hx : existsB n x with
      | false => exact .inr ⟨_, rfl, rfl, by simp⟩
      | true =>
        obtain ⟨e1, e2, e3, e4⟩ := route_ok h hx
        simp only [Bool.not_true, cond_false]
        cases hs : x.2.2.2.2.2.2.2.2.1 with
        | false =>
          simp only [cond_false, Option.bind_some, rides1_new h hx hs (show l.length ≤ 100 by omega), e1, e2, shl_i64 e3 e4, zonesR_val h hx]
          refine .inl ⟨(l ++ [newRide n x], true, ((i + 1 : Nat) : Int)), (l ++ [newRide n x], ((i + 1 : Nat) : Int)), rfl, ?_, l ++ [newRide n x], true, rfl, rfl, by simp; omega, fun _ => by simp, hnext true hx1.symm⟩
          have hg : (decide (l.length + [newRide n x].length ≤ Tr.maxApp)) = true := decide_eq_true (by simp [Tr.maxApp]; omega)
          show (Tr.guardB (decide (l.length + [newRide n x].length ≤ Tr.maxApp))).bind (fun _ => some (Sum.inl (l ++ [newRide n x], ((i + 1 : Nat) : Int)))) = _
          rw [hg]
          rfl
        | true =>
          simp only [cond_true]
          cases w with
          | false =>
            refine .inr ⟨.inr ([], 19), rfl, ?_, by simp⟩
            by_cases h0 : i = 0
            · subst h0; rfl
            · rw [if_neg h0] at hww
              rw [decide_eq_false (show ¬ (i : Int) = 0 by omega)]
              simp only [cond_false, hprev (by omega), Option.bind_some, ← hww, Bool.not_false, cond_true]
          | true =>
            have h0 : i ≠ 0 := fun e => by rw [if_pos e] at hww; exact (nomatch hww)
            rw [if_neg h0] at hww
            have hpos := hw rfl
            have hk : l.length - 1 < l.length := by omega
            obtain ⟨v, hv⟩ : ∃ v, l[l.length - 1]? = some v := ⟨_, List.getElem?_eq_getElem hk⟩
            refine .inl ⟨(addRide n x l v, true, ((i + 1 : Nat) : Int)), (addRide n x l v, ((i + 1 : Nat) : Int)), ?_, ?_, addRide n x l v, true, rfl, rfl, by unfold addRide; rw [List.length_set]; omega, fun _ => by unfold addRide; rw [List.length_set]; omega, hnext true hx1.symm⟩
            · simp only [Bool.not_true, Option.bind_some, cond_false, rides1_stay h hx hs (show l.length ≤ 100 by omega) hpos hv]
            · rw [decide_eq_false (show ¬ (i : Int) = 0 by omega)]
              simp only [cond_false, hprev (by omega), Option.bind_some, ← hww, Bool.not_true, e1, e2, shl_i64 e3 e4, zonesR_val h hx, inb_last hpos (show l.length ≤ 9223372036854775807 by omega), List.length_set]
              erw [hv]
              simp only [Option.bind_some, List.set_set]
              erw [set_get hk]
              simp only [Option.bind_some]
              erw [set_get hk]
              rfl
  · rintro _ _ ⟨l, w, rfl, rfl, hl, _⟩
    refine ⟨.inl l, ?_, ?_, by simp; omega⟩
    · simp only [nlt_dec, cond_false]
    · simp only [nlt_dec, cond_false]
end Q

/-! Chapter 38: the law of JourneyRides in plain Lean. Conditions: texts and lists as a machine can hold them. -/
namespace Q
open Tr Go

theorem example_true : F_law38_exampleHolds = some true := by kernel_rfl

theorem light_val (n : NetT) (j : JouT) : ∃ b, F_law38_light n j = some b ∧ (b = true → n.2.2.2.2.1.length ≤ 200 ∧ j.1.length ≤ 20) := by
  unfold F_law38_light
  by_cases h1 : (20 : Int) < (n.1.length : Int)
  · rw [decide_eq_true h1]; exact ⟨false, rfl, fun e => (nomatch e)⟩
  by_cases h2 : (20 : Int) < (n.2.1.length : Int)
  · rw [decide_eq_false h1, decide_eq_true h2]; exact ⟨false, rfl, fun e => (nomatch e)⟩
  by_cases h3 : (20 : Int) < (n.2.2.1.length : Int)
  · rw [decide_eq_false h1, decide_eq_false h2, decide_eq_true h3]; exact ⟨false, rfl, fun e => (nomatch e)⟩
  by_cases h4 : (40 : Int) < (n.2.2.2.1.length : Int)
  · rw [decide_eq_false h1, decide_eq_false h2, decide_eq_false h3, decide_eq_true h4]; exact ⟨false, rfl, fun e => (nomatch e)⟩
  by_cases h5 : (200 : Int) < (n.2.2.2.2.1.length : Int)
  · rw [decide_eq_false h1, decide_eq_false h2, decide_eq_false h3, decide_eq_false h4, decide_eq_true h5]; exact ⟨false, rfl, fun e => (nomatch e)⟩
  by_cases h6 : (16 : Int) < (n.2.2.2.2.2.1.1.length : Int)
  · rw [decide_eq_false h1, decide_eq_false h2, decide_eq_false h3, decide_eq_false h4, decide_eq_false h5, decide_eq_true h6]; exact ⟨false, rfl, fun e => (nomatch e)⟩
  by_cases h7 : (20 : Int) < (j.1.length : Int)
  · rw [decide_eq_false h1, decide_eq_false h2, decide_eq_false h3, decide_eq_false h4, decide_eq_false h5, decide_eq_false h6, decide_eq_true h7]; exact ⟨false, rfl, fun e => (nomatch e)⟩
  rw [decide_eq_false h1, decide_eq_false h2, decide_eq_false h3, decide_eq_false h4, decide_eq_false h5, decide_eq_false h6, decide_eq_false h7]
  simp only [cond_false, Option.bind_some]
  have hl : n.2.2.1.length ≤ 9223372036854775807 := by omega
  rw [scan_run (n := n.2.2.1.length) (fun i (st : Int) => st = (i : Int)) (fun i => if 40 < ((n.2.2.1[i]?).getD u0).2.2.2.2.2.2.2.1.length then 1 else 0) (fun _ => .inr false) (.inl ()) ?_ ?_ ?_ (0 : Int) rfl]
  · unfold pick
    cases firstBad n.2.2.1.length (fun i => if 40 < ((n.2.2.1[i]?).getD u0).2.2.2.2.2.2.2.1.length then 1 else 0) with
    | none => exact ⟨true, rfl, fun _ => by omega⟩
    | some i => exact ⟨false, rfl, fun e => (nomatch e)⟩
  · rintro i _ hi rfl hc
    rw [getD_of hi] at hc
    split at hc
    · omega
    · next hh =>
      refine ⟨((i + 1 : Nat) : Int), ?_, rfl⟩
      simp only [lt_dec hi, cond_true, idx_nat hi, Option.bind_some, decide_eq_false (show ¬ (40 : Int) < ((n.2.2.1[i]).2.2.2.2.2.2.2.1.length : Int) by omega), cond_false, wrap_succ hi hl]
  · rintro i _ hi rfl hc
    rw [getD_of hi] at hc
    split at hc
    · next hh =>
      simp only [lt_dec hi, cond_true, idx_nat hi, Option.bind_some, decide_eq_true (show (40 : Int) < ((n.2.2.1[i]).2.2.2.2.2.2.2.1.length : Int) by omega)]
    · omega
  · rintro _ rfl
    simp only [nlt_dec, cond_false]

theorem sameRides_self (l : List RideT) (hl : l.length ≤ 20) : F_law38_sameRides l l = some true := by
  unfold F_law38_sameRides
  rw [decide_eq_true rfl]
  simp only [Bool.not_true, cond_false]
  rw [scan_run (n := l.length) (fun i (st : Int) => st = (i : Int)) (fun _ => 0) (fun _ => .inr false) (.inl ()) ?_ ?_ ?_ (0 : Int) rfl]
  · unfold pick
    rw [firstBad_none fun _ _ => rfl]
    rfl
  · rintro i _ hi rfl _
    refine ⟨((i + 1 : Nat) : Int), ?_, rfl⟩
    simp only [lt_dec hi, cond_true, idx_nat hi, Option.bind_some, decide_true, Bool.and_self, Bool.not_true, cond_false, wrap_succ hi (show l.length ≤ 9223372036854775807 by omega)]
  · intro i s _ _ hh; exact absurd rfl hh
  · rintro _ rfl
    simp only [nlt_dec, cond_false]

theorem fit_of {n : El Y31} (h : Good Y31 n) (hp : n.2.2.2.2.1.length ≤ 4096) : Fit n := by
  obtain ⟨⟨_, h1⟩, ⟨_, h2⟩, ⟨_, h3⟩, _, _, ⟨⟨_, h6⟩, _⟩, _⟩ := h
  refine ⟨fun x hx => ?_, fun x hx => ?_, fun x hx => ?_, fun x hx => ?_, hp, fun x hx => ?_⟩
  · exact (h1 x hx).1
  · exact (h2 x hx).1
  · exact (h3 x hx).2.2.2.1
  · exact (h3 x hx).2.2.2.2.2.2.2.1.1
  · exact (h6 x hx).1

theorem rides (n : El Y31) (j : El Y34) (h : Good Y31 n) : F_law38_JourneyRides n j = some true := by
  unfold F_law38_JourneyRides
  obtain ⟨b, hb1, hb2⟩ := light_val n j
  rw [hb1, example_true]
  simp only [Option.bind_some]
  cases b with
  | false => rfl
  | true =>
    obtain ⟨h1, h2⟩ := hb2 rfl
    obtain ⟨r, e1, e2, e3⟩ := rides_same n j (fit_of h (by have : n.2.2.2.2.1.length ≤ 200 := h1; omega)) h2
    rw [e1, e2]
    simp only [Bool.not_true, cond_false, Option.bind_some]
    rw [sameRides_self r.1 e3]
    simp only [Option.bind_some, cond_true, decide_true]

theorem ridesP (x : ElPs F_law38_JourneyRidesA) (hx : GoodPs F_law38_JourneyRidesA x) : F_law38_JourneyRides x.1 x.2.1 = some true := rides x.1 x.2.1 hx.1
end Q

/-! Chapter 38: the rides of a journey as a fold over its legs, and what the Stay flags change. Conditions: those of the theorems. -/
namespace Q
open Tr Go

abbrev stayB (x : LegT) : Bool := x.2.2.2.2.2.2.2.2.1
def addLast (n : NetT) (x : LegT) (out : List RideT) : List RideT := match out[out.length - 1]? with
  | some v => addRide n x out v
  | none => out
def ridesGo (n : NetT) : List LegT → Bool → List RideT → List RideT × Int
  | [], _, out => (out, 0)
  | x :: l, rode, out =>
    if x.1 = true ∧ existsB n x = false then ([], 9)
    else if stayB x = true ∧ (x.1 = false ∨ rode = false) then ([], 19)
    else if x.1 = true then ridesGo n l true (if stayB x = true then addLast n x out else out ++ [newRide n x])
    else ridesGo n l false out

theorem ridesGo_cons (n : NetT) (x : LegT) (l : List LegT) (rode : Bool) (out : List RideT) : ridesGo n (x :: l) rode out = if x.1 = true ∧ existsB n x = false then ([], 9)
    else if stayB x = true ∧ (x.1 = false ∨ rode = false) then ([], 19)
    else if x.1 = true then ridesGo n l true (if stayB x = true then addLast n x out else out ++ [newRide n x])
    else ridesGo n l false out := rfl

theorem addLast_len (n : NetT) (x : LegT) (out : List RideT) : (addLast n x out).length = out.length := by
  unfold addLast
  split
  · unfold addRide; rw [List.length_set]
  · rfl

theorem rides_val (n : NetT) (j : JouT) (hf : Fit n) (hj : j.1.length ≤ 90) : (F_journey_Rides n j = some ([], 21) ∧ F_ref26_Valid n = some false) ∨ (Sound n ∧ F_ref26_Valid n = some true ∧ F_journey_Rides n j = some (ridesGo n j.1 false [])) := by
  obtain ⟨c, hc1, hc2, hc3⟩ := check_same n hf
  unfold F_journey_Rides F_ref26_Valid
  rw [hc1, hc2]
  simp only [Option.bind_some]
  by_cases he : c.2.2 = 0
  case neg =>
    rw [decide_eq_false he]
    exact .inl ⟨rfl, by first | rfl | trivial⟩
  have h := hc3 he
  rw [decide_eq_true he]
  simp only [Bool.not_true, cond_false]
  refine .inr ⟨h, by first | rfl | trivial, ?_⟩
  refine bind_of (fun r => ridesGo n j.1 false [] = Sum.elim (fun l : List RideT => (l, (0 : Int))) (fun y => y) r) ?_ ?_
  · refine run_for j.1.length _ (fun i (s : List RideT × Bool × Int) => ∃ l w, s = (l, w, (i : Int)) ∧ l.length ≤ i ∧ (w = true → 0 < l.length) ∧ ridesGo n j.1 false [] = ridesGo n (j.1.drop i) w l) ?_ ?_ _ ⟨[], false, rfl, by simp, fun e => (nomatch e), rfl⟩
    · rintro i _ hi ⟨l, w, rfl, hl, hw, hgo⟩
      have hil : j.1.length ≤ 9223372036854775807 := by omega
      rw [List.drop_eq_getElem_cons hi] at hgo
      simp only [lt_dec hi, cond_true, idx_nat hi, Option.bind_some, wrap_succ hi hil]
      generalize j.1[i] = x at *
      rw [ridesGo_cons] at hgo
      cases hx1 : x.1 with
      | false =>
        rw [hx1] at hgo
        simp only [cond_false, Option.bind_some, Bool.not_false, cond_true]
        cases hs : stayB x with
        | true =>
          right
          rw [hs] at hgo
          unfold stayB at hs
          rw [hs]
          refine ⟨_, rfl, ?_⟩
          rw [hgo]; simp
        | false =>
          left
          rw [hs] at hgo
          unfold stayB at hs
          rw [hs]
          refine ⟨_, rfl, l, false, rfl, by omega, fun e => (nomatch e), ?_⟩
          rw [hgo]; simp
      | true =>
        rw [hx1] at hgo
        simp only [cond_true, Option.bind_some, Bool.not_true, cond_false, exists_val]
        cases hx : existsB n x with
        | false =>
          right
          rw [hx] at hgo
          refine ⟨_, rfl, ?_⟩
          rw [hgo]; simp
        | true =>
          rw [hx] at hgo
          simp only [Bool.not_true, cond_false]
          cases hs : stayB x with
          | false =>
            left
            rw [hs] at hgo
            have hs' := hs
            unfold stayB at hs'
            rw [hs']
            simp only [cond_false, Option.bind_some, rides1_new h hx hs' (show l.length ≤ 100 by omega)]
            refine ⟨_, rfl, l ++ [newRide n x], true, rfl, by simp; omega, fun _ => by simp, ?_⟩
            rw [hgo]; simp
          | true =>
            rw [hs] at hgo
            have hs' := hs
            unfold stayB at hs'
            rw [hs']
            simp only [cond_true]
            cases w with
            | false =>
              right
              refine ⟨_, rfl, ?_⟩
              rw [hgo]; simp
            | true =>
              left
              have hpos := hw rfl
              obtain ⟨v, hv⟩ : ∃ v, l[l.length - 1]? = some v := ⟨_, List.getElem?_eq_getElem (by omega)⟩
              simp only [Bool.not_true, Option.bind_some, cond_false, rides1_stay h hx hs' (show l.length ≤ 100 by omega) hpos hv]
              have ea : addLast n x l = addRide n x l v := by unfold addLast; rw [hv]
              refine ⟨_, rfl, addRide n x l v, true, rfl, by rw [← ea, addLast_len]; omega, fun _ => by rw [← ea, addLast_len]; exact hpos, ?_⟩
              rw [hgo, ← ea]; simp
    · rintro _ ⟨l, w, rfl, hl, hw, hgo⟩
      simp only [nlt_dec, cond_false]
      refine ⟨_, rfl, ?_⟩
      rw [hgo, List.drop_length]
      rfl
  · rintro r hr
    rw [hr]
    cases r <;> rfl

/-! ### Without the flags -/

def plainL (x : LegT) : LegT := (x.1, x.2.1, x.2.2.1, x.2.2.2.1, x.2.2.2.2.1, x.2.2.2.2.2.1, x.2.2.2.2.2.2.1, x.2.2.2.2.2.2.2.1, false, ())
theorem plain_exists (n : NetT) (x : LegT) : existsB n (plainL x) = existsB n x := rfl
theorem plain_ride (n : NetT) (x : LegT) : newRide n (plainL x) = newRide n x := rfl

/-- The first departure and the last arrival. -/
def headD (l : List RideT) : Option Int := (l[0]?).map fun v => v.1
def lastA (l : List RideT) : Option Int := (l[l.length - 1]?).map fun v => v.2.1

theorem lastA_app (l : List RideT) (v : RideT) : lastA (l ++ [v]) = some v.2.1 := by
  unfold lastA
  simp
theorem headD_app (l : List RideT) (v : RideT) : headD (l ++ [v]) = some ((headD l).getD v.1) := by
  unfold headD
  cases l with
  | nil => rfl
  | cons y l => simp
theorem addLast_last {n : NetT} {x : LegT} {out : List RideT} (h : 0 < out.length) : lastA (addLast n x out) = some x.2.2.2.2.2.2.2.1 ∧ headD (addLast n x out) = headD out := by
  obtain ⟨v, hv⟩ : ∃ v, out[out.length - 1]? = some v := ⟨_, List.getElem?_eq_getElem (by omega)⟩
  unfold addLast
  rw [hv]
  simp only
  unfold lastA headD addRide
  rw [List.length_set]
  constructor
  · rw [List.getElem?_set_self (by omega)]; rfl
  · by_cases h1 : out.length - 1 = 0
    · rw [h1] at hv ⊢
      rw [List.getElem?_set_self h, hv]; rfl
    · rw [List.getElem?_set_ne h1]

theorem stay_rel (n : NetT) : ∀ (L : List LegT) (rode rode' : Bool) (out out' : List RideT) (k : Nat) (l : List RideT), ridesGo n L rode out = (l, 0) → (rode = true → 0 < out.length) → out'.length = out.length + k → headD out' = headD out → lastA out' = lastA out →
    ∃ m, ridesGo n (L.map plainL) rode' out' = (m, 0) ∧ m.length = l.length + k + (L.filter stayB).length ∧ headD m = headD l ∧ lastA m = lastA l
  | [], rode, rode', out, out', k, l, h, _, h2, h3, h4 => by
    unfold ridesGo at h
    obtain ⟨rfl, _⟩ := Prod.mk.inj h
    exact ⟨out', rfl, by simpa using h2, h3, h4⟩
  | x :: L, rode, rode', out, out', k, l, h, h1, h2, h3, h4 => by
    unfold ridesGo at h
    rw [List.map_cons]
    unfold ridesGo
    rw [plain_exists]
    by_cases c1 : x.1 = true ∧ existsB n x = false
    · rw [if_pos c1] at h
      have := (Prod.mk.inj h).2
      omega
    rw [if_neg c1] at h
    rw [if_neg (show ¬ ((plainL x).1 = true ∧ existsB n x = false) from c1)]
    by_cases c2 : stayB x = true ∧ (x.1 = false ∨ rode = false)
    · rw [if_pos c2] at h
      have := (Prod.mk.inj h).2
      omega
    rw [if_neg c2] at h
    rw [if_neg (show ¬ (stayB (plainL x) = true ∧ ((plainL x).1 = false ∨ rode' = false)) from fun h => by have := h.1; exact absurd this (by unfold plainL stayB; simp))]
    by_cases c3 : x.1 = true
    · rw [if_pos c3] at h
      rw [if_pos (show (plainL x).1 = true from c3), if_neg (show ¬ stayB (plainL x) = true from fun h => absurd h (by unfold plainL stayB; simp)), plain_ride]
      cases hs : stayB x with
      | false =>
        rw [hs] at h
        rw [if_neg (by simp)] at h
        obtain ⟨m, g1, g2, g3, g4⟩ := stay_rel n L true true (out ++ [newRide n x]) (out' ++ [newRide n x]) k l h (fun _ => by simp) (by simp; omega) (by rw [headD_app, headD_app, h3]) (by rw [lastA_app, lastA_app])
        refine ⟨m, g1, ?_, g3, g4⟩
        rw [List.filter_cons_of_neg (by rw [hs]; simp)]
        exact g2
      | true =>
        rw [hs] at h
        rw [if_pos rfl] at h
        have hr : rode = true := by
          cases hr : rode with
          | true => rfl
          | false => exact absurd ⟨hs, .inr hr⟩ c2
        have hpos := h1 hr
        obtain ⟨a1, a2⟩ := addLast_last (n := n) (x := x) hpos
        have hh : ∃ d, headD out = some d := by
          unfold headD
          obtain ⟨v, hv⟩ : ∃ v, out[0]? = some v := ⟨_, List.getElem?_eq_getElem hpos⟩
          exact ⟨v.1, by rw [hv]; rfl⟩
        obtain ⟨d, hd⟩ := hh
        obtain ⟨m, g1, g2, g3, g4⟩ := stay_rel n L true true (addLast n x out) (out' ++ [newRide n x]) (k + 1) l h (fun _ => by rw [addLast_len]; exact hpos) (by rw [addLast_len]; simp; omega) (by rw [headD_app, a2, h3, hd]; rfl) (by rw [lastA_app, a1]; rfl)
        refine ⟨m, g1, ?_, g3, g4⟩
        rw [List.filter_cons_of_pos hs]
        simp only [List.length_cons]
        omega
    · rw [if_neg c3] at h
      rw [if_neg (show ¬ (plainL x).1 = true from c3)]
      have hs : stayB x = false := by
        cases hs : stayB x with
        | false => rfl
        | true => exact absurd ⟨hs, .inl (by simpa using c3)⟩ c2
      obtain ⟨m, g1, g2, g3, g4⟩ := stay_rel n L false false out out' k l h (fun e => (nomatch e)) h2 h3 h4
      refine ⟨m, g1, ?_, g3, g4⟩
      rw [List.filter_cons_of_neg (by rw [hs]; simp)]
      exact g2
end Q

/-! Chapter 38: Join and Equal. Conditions: at most 300 legs. -/
namespace Q
open Tr Go

theorem grow_val {n : Nat} (hn : n ≤ 1000000) : F_slices_Grow_api_Leg_api_Leg () (n : Int) = some [] := by
  unfold F_slices_Grow_api_Leg_api_Leg
  have e0 : IntKind.wrap .i64 ((0 : Int) - 0) = 0 := by decide
  have e1 : IntKind.wrap .i64 ((n : Int) - 0) = (n : Int) := by rw [wrap_i64 (by omega) (by omega)]; omega
  rw [decide_eq_false (show ¬ (n : Int) < 0 by omega), e0, e1]
  simp only [cond_false, Option.bind_some]
  by_cases h : 0 < n
  · rw [decide_eq_true (show (0 : Int) < (n : Int) by omega)]
    have hg : Tr.guardB (decide ((1 : Int) ≤ (n : Int) ∧ (n : Int) ≤ (Tr.maxApp : Int))) = some () := by
      have hm : (Tr.maxApp : Int) = 4294967296 := by simp [Tr.maxApp]
      rw [decide_eq_true (by rw [hm]; omega)]; rfl
    rw [hg]
    rfl
  · rw [decide_eq_false (show ¬ (0 : Int) < (n : Int) by omega)]
    rfl

theorem concat_val {a b : List LegT} (ha : a.length ≤ 1000) (hb : b.length ≤ 1000) : F_slices_Concat_api_Leg_api_Leg [a, b] = some (a ++ b) := by
  unfold F_slices_Concat_api_Leg_api_Leg
  have hab : ∀ i, i < 2 → (([a, b] : List (List LegT))[i]?).getD [] = if i = 0 then a else b := by
    intro i hi
    match i, hi with
    | 0, _ => rfl
    | 1, _ => rfl
  refine bind_of (fun r => r = ((a.length + b.length : Nat) : Int)) ?_ ?_
  · refine run_for 2 _ (fun i (s : Int × Int) => s = ((if i = 0 then 0 else if i = 1 then (a.length : Int) else ((a.length + b.length : Nat) : Int)), (i : Int))) ?_ ?_ _ rfl
    · rintro i _ hi rfl
      left
      match i, hi with
      | 0, _ =>
        have e : IntKind.wrap .i64 ((0 : Int) + (a.length : Int)) = (a.length : Int) := by rw [wrap_i64 (by omega) (by omega)]; omega
        have i0 : Tr.idx ([a, b] : List (List LegT)) ((0 : Nat) : Int) = some a := rfl
        have w1 : IntKind.wrap .i64 (((0 : Nat) : Int) + 1) = ((1 : Nat) : Int) := by decide
        refine ⟨((a.length : Int), ((1 : Nat) : Int)), ?_, rfl⟩
        simp only [if_true]
        rw [show decide ((((0 : Nat) : Int)) < (List.length ([a, b] : List (List LegT)) : Int)) = true from rfl, i0, w1]
        simp only [cond_true, Option.bind_some]
        rw [e, decide_eq_false (by omega)]
        rfl
      | 1, _ =>
        have e : IntKind.wrap .i64 ((a.length : Int) + (b.length : Int)) = ((a.length + b.length : Nat) : Int) := by rw [wrap_i64 (by omega) (by omega)]; omega
        have i0 : Tr.idx ([a, b] : List (List LegT)) ((1 : Nat) : Int) = some b := rfl
        have w1 : IntKind.wrap .i64 (((1 : Nat) : Int) + 1) = ((2 : Nat) : Int) := by decide
        refine ⟨(((a.length + b.length : Nat) : Int), ((2 : Nat) : Int)), ?_, rfl⟩
        rw [show decide ((((1 : Nat) : Int)) < (List.length ([a, b] : List (List LegT)) : Int)) = true from rfl, i0, w1]
        simp only [cond_true, Option.bind_some, if_true, show ¬ ((1 : Nat) = 0) by omega, if_false]
        rw [e, decide_eq_false (by omega)]
        rfl
    · rintro _ rfl
      exact ⟨_, rfl, rfl⟩
  · rintro r rfl
    rw [grow_val (by omega)]
    simp only [Option.bind_some]
    refine bind_of (fun r => r = a ++ b) ?_ (fun r hr => by rw [hr])
    refine run_for 2 _ (fun i (s : List LegT × Int) => s = ((if i = 0 then [] else if i = 1 then a else a ++ b), (i : Int))) ?_ ?_ _ rfl
    · rintro i _ hi rfl
      left
      match i, hi with
      | 0, _ =>
        have i0 : Tr.idx ([a, b] : List (List LegT)) ((0 : Nat) : Int) = some a := rfl
        have w1 : IntKind.wrap .i64 (((0 : Nat) : Int) + 1) = ((1 : Nat) : Int) := by decide
        refine ⟨(a, ((1 : Nat) : Int)), ?_, rfl⟩
        simp only [if_true]
        rw [show decide ((((0 : Nat) : Int)) < (List.length ([a, b] : List (List LegT)) : Int)) = true from rfl, i0, w1]
        simp only [cond_true, Option.bind_some]
        rw [guard_app (by simp only [List.length_nil]; omega)]
        rfl
      | 1, _ =>
        have i0 : Tr.idx ([a, b] : List (List LegT)) ((1 : Nat) : Int) = some b := rfl
        have w1 : IntKind.wrap .i64 (((1 : Nat) : Int) + 1) = ((2 : Nat) : Int) := by decide
        refine ⟨(a ++ b, ((2 : Nat) : Int)), ?_, rfl⟩
        rw [show decide ((((1 : Nat) : Int)) < (List.length ([a, b] : List (List LegT)) : Int)) = true from rfl, i0, w1]
        simp only [cond_true, Option.bind_some, if_true, show ¬ ((1 : Nat) = 0) by omega, if_false]
        rw [guard_app (by omega)]
        rfl
    · rintro _ rfl
      exact ⟨_, rfl, rfl⟩

def sameL (x y : LegT) : Bool := x.1 == y.1 && (decide (x.2.1 = y.2.1) && (decide (x.2.2.1 = y.2.2.1) && (decide (x.2.2.2.1 = y.2.2.2.1) && (decide (x.2.2.2.2.1 = y.2.2.2.2.1) && (decide (x.2.2.2.2.2.1 = y.2.2.2.2.2.1) &&
  (decide (x.2.2.2.2.2.2.1 = y.2.2.2.2.2.2.1) && (decide (x.2.2.2.2.2.2.2.1 = y.2.2.2.2.2.2.2.1) && x.2.2.2.2.2.2.2.2.1 == y.2.2.2.2.2.2.2.2.1)))))))
theorem sameL_self (x : LegT) : sameL x x = true := by unfold sameL; simp

theorem equal_ex (a b : List LegT) (ha : a.length ≤ 100000) : ∃ e : Bool, F_ref38_Equal (a, ()) (b, ()) = some e ∧ (a = b → e = true) := by
  unfold F_ref38_Equal
  by_cases hl : a.length = b.length
  · rw [decide_eq_true (show ((a, ()).1.length : Int) = ((b, ()).1.length : Int) by simp only; omega)]
    simp only [Bool.not_true, cond_false]
    have key : ∀ o : Option (Unit ⊕ Bool), (∃ r, o = some r ∧ (r = .inl () ∨ (r = .inr false ∧ a ≠ b))) → ∃ e : Bool, (Option.bind o fun x3 => Sum.elim (fun _ => some true) (fun y5 => some y5) x3) = some e ∧ (a = b → e = true) := by
      rintro o ⟨r, rfl, h⟩
      rcases h with rfl | ⟨rfl, h⟩
      · exact ⟨true, rfl, fun _ => rfl⟩
      · exact ⟨false, rfl, fun e => absurd e h⟩
    refine key _ (run_for a.length _ (fun i (s : Int) => s = (i : Int)) ?_ ?_ _ rfl)
    · rintro i _ hi rfl
      have hi' : i < b.length := by omega
      simp only [lt_dec hi, cond_true, idx_nat hi, idx_nat hi', Option.bind_some, wrap_succ hi (show a.length ≤ 9223372036854775807 by omega)]
      cases hs : sameL a[i] b[i] with
      | true =>
        left
        have hs' := hs
        unfold sameL at hs'
        refine ⟨_, by rw [hs']; rfl, rfl⟩
      | false =>
        right
        have hs' := hs
        unfold sameL at hs'
        refine ⟨.inr false, by rw [hs']; rfl, .inr ⟨rfl, ?_⟩⟩
        intro e
        subst e
        rw [sameL_self] at hs
        cases hs
    · rintro _ rfl
      simp only [nlt_dec, cond_false]
      exact ⟨_, rfl, .inl rfl⟩
  · rw [decide_eq_false (show ¬ ((a, ()).1.length : Int) = ((b, ()).1.length : Int) by simp only; omega)]
    exact ⟨false, rfl, fun e => absurd (by rw [e]) hl⟩

/-- What Join returns. -/
def joinOk (a b : List LegT) : Bool := match a.getLast?, b.head? with
  | some x, some y => !(!decide (x.2.2.2.2.2.1 = y.2.2.2.2.1) || (decide (y.2.2.2.2.2.2.1 < x.2.2.2.2.2.2.2.1) || (!x.1 && !y.1)))
  | _, _ => true
theorem join_val (a b : JouT) (ha : a.1.length ≤ 1000) (hb : b.1.length ≤ 1000) : F_journey_Join a b = some (if joinOk a.1 b.1 = true then ((a.1 ++ b.1, ()), true) else (([], ()), false)) ∧ F_ref38_Join a b = some (if joinOk a.1 b.1 = true then ((a.1 ++ b.1, ()), true) else (([], ()), false)) := by
  obtain ⟨a, ⟨⟩⟩ := a
  obtain ⟨b, ⟨⟩⟩ := b
  simp only at ha hb
  unfold F_journey_Join F_ref38_Join
  have hok : ∀ ok : Bool, ok = true → some ((a ++ b, ()), true) = some (if ok = true then ((a ++ b, ()), true) else (([], ()), false) : JouT × Bool) := fun ok h => by rw [if_pos h]
  have hc := concat_val ha hb
  have g1 : Tr.guardB (decide (List.length ([] : List Unit) + List.length a ≤ Tr.maxApp)) = some () := by
    rw [decide_eq_true (by simp only [List.length_nil, Tr.maxApp]; omega)]; rfl
  have g2 : Tr.guardB (decide (List.length a + List.length b ≤ Tr.maxApp)) = some () := by
    rw [decide_eq_true (by simp only [Tr.maxApp]; omega)]; rfl
  by_cases h0 : 0 < a.length
  · by_cases h1 : 0 < b.length
    · have el : IntKind.wrap .i64 ((a.length : Int) - 1) = ((a.length - 1 : Nat) : Int) := by rw [wrap_i64 (by omega) (by omega)]; omega
      have i0 : Tr.idx b (0 : Int) = some b[0] := idx_nat (i := 0) h1
      have ej : joinOk a b = !(!decide ((a[a.length - 1]).2.2.2.2.2.1 = (b[0]).2.2.2.2.1) || (decide ((b[0]).2.2.2.2.2.2.1 < (a[a.length - 1]).2.2.2.2.2.2.2.1) || (!(a[a.length - 1]).1 && !(b[0]).1))) := by
        unfold joinOk
        rw [List.getLast?_eq_getElem?, List.getElem?_eq_getElem (by omega), List.head?_eq_getElem?, List.getElem?_eq_getElem h1]
      simp only [decide_eq_true (show (0 : Int) < (a.length : Int) by omega), decide_eq_true (show (0 : Int) < (b.length : Int) by omega), cond_true, Option.bind_some, el, idx_nat (show a.length - 1 < a.length by omega), i0]
      have hb : (bif !decide ((a[a.length - 1]).2.2.2.2.2.1 = (b[0]).2.2.2.2.1) then some true else bif decide ((b[0]).2.2.2.2.2.2.1 < (a[a.length - 1]).2.2.2.2.2.2.2.1) then some true else bif !(a[a.length - 1]).1 then some !(b[0]).1 else some false) = some (!joinOk a b) := by
        rw [ej]
        generalize decide ((a[a.length - 1]).2.2.2.2.2.1 = (b[0]).2.2.2.2.1) = c1
        generalize decide ((b[0]).2.2.2.2.2.2.1 < (a[a.length - 1]).2.2.2.2.2.2.2.1) = c2
        cases c1 <;> cases c2 <;> cases (a[a.length - 1]).1 <;> cases (b[0]).1 <;> rfl
      rw [hb]
      cases hj : joinOk a b with
      | true =>
        simp only [Option.bind_some, Bool.not_true, cond_false, Sum.elim_inl, hc, g1, List.nil_append, g2, if_true]
        refine ⟨?_, ?_⟩ <;> first | rfl | trivial
      | false =>
        simp only [Option.bind_some, Bool.not_false, cond_true, Sum.elim_inr]
        exact ⟨rfl, rfl⟩
    · have hbn : b = [] := List.length_eq_zero_iff.1 (by omega)
      have ej : joinOk a b = true := by subst hbn; unfold joinOk; cases a.getLast? <;> rfl
      simp only [decide_eq_true (show (0 : Int) < (a.length : Int) by omega), decide_eq_false (show ¬ (0 : Int) < (b.length : Int) by omega), cond_true, cond_false, Option.bind_some, Sum.elim_inl, hc, g1, List.nil_append, g2, ej, if_true]
      refine ⟨?_, ?_⟩ <;> first | rfl | trivial
  · have han : a = [] := List.length_eq_zero_iff.1 (by omega)
    have ej : joinOk a b = true := by subst han; rfl
    simp only [decide_eq_false (show ¬ (0 : Int) < (a.length : Int) by omega), cond_false, Option.bind_some, Sum.elim_inl, hc, g1, List.nil_append, g2, ej, if_true]
    refine ⟨?_, ?_⟩ <;> first | rfl | trivial

theorem equal_law (a b : JouT) : F_law38_JourneyEqual a b = some true := by
  unfold F_law38_JourneyEqual
  by_cases h : 300 < a.1.length
  · rw [decide_eq_true (show (300 : Int) < (a.1.length : Int) by omega), example_true]; rfl
  rw [decide_eq_false (show ¬ (300 : Int) < (a.1.length : Int) by omega)]
  simp only [cond_false, Option.bind_some]
  by_cases h2 : 300 < b.1.length
  · rw [decide_eq_true (show (300 : Int) < (b.1.length : Int) by omega), example_true]; rfl
  rw [decide_eq_false (show ¬ (300 : Int) < (b.1.length : Int) by omega)]
  obtain ⟨j1, j2⟩ := join_val a b (by omega) (by omega)
  simp only [cond_false, j1, j2, Option.bind_some]
  have hJ : ∀ x y : JouT, F_journey_Equal x y = F_ref38_Equal x y := fun _ _ => rfl
  obtain ⟨e1, q1, _⟩ := equal_ex a.1 b.1 (by omega)
  obtain ⟨e2, q2, q3⟩ := equal_ex a.1 a.1 (by omega)
  have q3 := q3 rfl
  subst q3
  have hx : ∀ l : List LegT, l.length ≤ 100000 → F_ref38_Equal (l, ()) (l, ()) = some true := fun l hl => by
    obtain ⟨e, r1, r2⟩ := equal_ex l l hl
    rw [r1, r2 rfl]
  rw [hJ, show F_ref38_Equal a b = some e1 from q1]
  simp only [Option.bind_some, beq_self_eq_true, cond_true]
  rw [hJ, show F_ref38_Equal a a = some true from q2]
  simp only [Option.bind_some, cond_true]
  cases joinOk a.1 b.1 with
  | true =>
    simp only [if_true]
    rw [hx (a.1 ++ b.1) (by rw [List.length_append]; omega)]
    simp only [Option.bind_some, cond_true, example_true]
  | false =>
    simp only [Bool.false_eq_true, if_false]
    rw [hx [] (by simp)]
    simp only [Option.bind_some, cond_true, example_true]

theorem equalP (x : ElPs F_law38_JourneyEqualA) (_ : GoodPs F_law38_JourneyEqualA x) : F_law38_JourneyEqual x.1 x.2.1 = some true := equal_law x.1 x.2.1
end Q
