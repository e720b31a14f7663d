/- Chapter 38: rides and fares in plain Lean. -/
import Derived.Test.YtbjnllepfnbaoaaGreatTsH
import Derived.Test.YtbjnllepfnbaoaaGreatLwJb2838z
import Derived.Test.YtbjnllepfnbaoaaGreatTsF
import Derived.Test.YtbjnllepfnbaoaaGreatLxPop
namespace Q
open Tr Go
theorem run_for {σ τ : Type} {step : σ → Option (σ ⊕ τ)} (n : Nat) (P : τ → Prop) (Inv : Nat → σ → Prop)
    (hstep : ∀ i s, i < n → Inv i s → (∃ s', step s = some (.inl s') ∧ Inv (i + 1) s') ∨ ∃ r, step s = some (.inr r) ∧ P r)
    (hend : ∀ s, Inv n s → ∃ r, step s = some (.inr r) ∧ P r) (s : σ) (h0 : Inv 0 s) : ∃ r, run step s = some r ∧ P r := by
  have key : ∀ (k i : Nat) (s : σ), n - i = k → i ≤ n → Inv i s → ∃ r, run step s = some r ∧ P r := by
    intro k
    induction k with
    | zero =>
      intro i s hk hi hs
      have : i = n := by omega
      subst this
      obtain ⟨r, h1, h2⟩ := hend s hs
      exact ⟨r, run_inr h1, h2⟩
    | succ k ih =>
      intro i s hk hi hs
      rcases hstep i s (by omega) hs with ⟨s', h1, h2⟩ | ⟨r, h1, h2⟩
      · rw [run_inl h1]
        exact ih (i + 1) s' (by omega) (by omega) h2
      · exact ⟨r, run_inr h1, h2⟩
  exact key n 0 s (by omega) (by omega) h0
theorem bind_of {α β : Type} {o : Option α} {f : α → Option β} {z : Option β} (P : α → Prop) (h : ∃ r, o = some r ∧ P r) (k : ∀ r, P r → f r = z) : Option.bind o f = z := by
  obtain ⟨r, rfl, hr⟩ := h
  exact k r hr
theorem bind_ex {α β γ : Type} {o : Option α} {f : α → Option (β ⊕ γ)} {Q : β → Prop} (P : α → Prop) (h : ∃ r, o = some r ∧ P r) (k : ∀ r, P r → ∃ s, f r = some (.inl s) ∧ Q s) : ∃ s, Option.bind o f = some (.inl s) ∧ Q s := by
  obtain ⟨r, rfl, hr⟩ := h
  exact k r hr
theorem run_half {step : Int × Int → Option ((Int × Int) ⊕ Int)} {n k : Nat} (hk : k ≤ n)
    (hstep : ∀ lo hi : Nat, lo < hi → hi ≤ n → step ((lo : Int), (hi : Int)) = some (.inl (if lo + (hi - lo) / 2 < k then (((lo + (hi - lo) / 2 + 1 : Nat) : Int), (hi : Int)) else ((lo : Int), ((lo + (hi - lo) / 2 : Nat) : Int)))))
    (hend : ∀ lo : Nat, step ((lo : Int), (lo : Int)) = some (.inr (lo : Int))) : run step ((0 : Int), (n : Int)) = some (k : Int) := by
  have key : ∀ (m lo hi : Nat), hi - lo = m → lo ≤ k → k ≤ hi → hi ≤ n → run step ((lo : Int), (hi : Int)) = some (k : Int) := by
    intro m
    induction m using Nat.strongRecOn with
    | _ m ih =>
      intro lo hi hm h1 h2 h3
      by_cases hlt : lo < hi
      · rw [run_inl (hstep lo hi hlt h3)]
        split
        · exact ih (hi - (lo + (hi - lo) / 2 + 1)) (by omega) _ _ rfl (by omega) h2 h3
        · exact ih ((lo + (hi - lo) / 2) - lo) (by omega) _ _ rfl h1 (by omega) (by omega)
      · have : lo = hi := by omega
        subst this
        have : lo = k := by omega
        subst this
        exact run_inr (hend lo)
  exact key (n - 0) 0 n rfl (Nat.zero_le _) hk (Nat.le_refl _)
theorem mid_val {lo hi : Nat} (h : lo ≤ hi) (hn : hi ≤ 4611686018427387904) :
    IntKind.wrap .i64 ((lo : Int) + IntKind.wrap .i64 (Int.tdiv (IntKind.wrap .i64 ((hi : Int) - (lo : Int))) 2)) = ((lo + (hi - lo) / 2 : Nat) : Int) := by
  have e1 : IntKind.wrap .i64 ((hi : Int) - (lo : Int)) = ((hi - lo : Nat) : Int) := by rw [wrap_i64 (by omega) (by omega)]; omega
  have e2 : Int.tdiv ((hi - lo : Nat) : Int) 2 = (((hi - lo) / 2 : Nat) : Int) := by
    rw [Int.tdiv_eq_ediv_of_nonneg (by omega)]; omega
  rw [e1, e2, wrap_i64 (x := (((hi - lo) / 2 : Nat) : Int)) (by omega) (by omega), wrap_i64 (by omega) (by omega)]
  omega
end Q
namespace Q
open Tr Go
theorem or_i64 {a b : Nat} (ha : a < 65536) (hb : b < 65536) : Tr.qor .i64 (a : Int) (b : Int) = ((a ||| b : Nat) : Int) := by
  have hor : a ||| b < 2 ^ 16 := Nat.or_lt_two_pow (n := 16) (by omega) (by omega)
  unfold Tr.qor
  have h1 : (BitVec.ofInt IntKind.i64.bits (a : Int) ||| BitVec.ofInt IntKind.i64.bits (b : Int)).toNat = a ||| b := by
    rw [BitVec.toNat_or, BitVec.ofInt_natCast, BitVec.ofInt_natCast, BitVec.toNat_ofNat, BitVec.toNat_ofNat]
    show a % 2 ^ 64 ||| b % 2 ^ 64 = a ||| b
    rw [Nat.mod_eq_of_lt (show a < 2 ^ 64 by omega), Nat.mod_eq_of_lt (show b < 2 ^ 64 by omega)]
  rw [h1, wrap_i64 (by omega) (by omega)]
theorem or_u64 {a b : Nat} (ha : a < 65536) (hb : b < 65536) : Tr.qor .u64 (a : Int) (b : Int) = ((a ||| b : Nat) : Int) := by
  have hor : a ||| b < 2 ^ 16 := Nat.or_lt_two_pow (n := 16) (by omega) (by omega)
  unfold Tr.qor
  have h1 : (BitVec.ofInt IntKind.u64.bits (a : Int) ||| BitVec.ofInt IntKind.u64.bits (b : Int)).toNat = a ||| b := by
    rw [BitVec.toNat_or, BitVec.ofInt_natCast, BitVec.ofInt_natCast, BitVec.toNat_ofNat, BitVec.toNat_ofNat]
    show a % 2 ^ 64 ||| b % 2 ^ 64 = a ||| b
    rw [Nat.mod_eq_of_lt (show a < 2 ^ 64 by omega), Nat.mod_eq_of_lt (show b < 2 ^ 64 by omega)]
  rw [h1]
  simp [IntKind.wrap, IntKind.signed, IntKind.bits]
  omega
theorem shl_i64 {z : Int} (h0 : 0 ≤ z) (h1 : z < 16) : Tr.qshl .i64 1 z = some ((2 ^ z.toNat : Nat) : Int) := by
  have : z = 0 ∨ z = 1 ∨ z = 2 ∨ z = 3 ∨ z = 4 ∨ z = 5 ∨ z = 6 ∨ z = 7 ∨ z = 8 ∨ z = 9 ∨ z = 10 ∨ z = 11 ∨ z = 12 ∨ z = 13 ∨ z = 14 ∨ z = 15 := by omega
  rcases this with rfl | rfl | rfl | rfl | rfl | rfl | rfl | rfl | rfl | rfl | rfl | rfl | rfl | rfl | rfl | rfl <;> decide
theorem shl_u64 {z : Int} (h0 : 0 ≤ z) (h1 : z < 16) : Tr.qshl .u64 1 z = some ((2 ^ z.toNat : Nat) : Int) := by
  have : z = 0 ∨ z = 1 ∨ z = 2 ∨ z = 3 ∨ z = 4 ∨ z = 5 ∨ z = 6 ∨ z = 7 ∨ z = 8 ∨ z = 9 ∨ z = 10 ∨ z = 11 ∨ z = 12 ∨ z = 13 ∨ z = 14 ∨ z = 15 := by omega
  rcases this with rfl | rfl | rfl | rfl | rfl | rfl | rfl | rfl | rfl | rfl | rfl | rfl | rfl | rfl | rfl | rfl <;> decide
theorem pow_small {z : Int} (h1 : z < 16) : 2 ^ z.toNat < 65536 := Nat.pow_lt_pow_right (by omega) (show z.toNat < 16 by omega)
theorem one_bit {z : Int} (h0 : 0 ≤ z) (h1 : z < 16) : F_bitset_one z = some ((2 ^ z.toNat : Nat) : Int) := by
  unfold F_bitset_one
  rw [decide_eq_false (show ¬ z < 0 by omega), decide_eq_false (show ¬ 63 < z by omega)]
  simp only [cond_false, Option.bind_some, shl_u64 h0 h1]
theorem with_val {m : Nat} (hm : m < 65536) {z : Int} (h0 : 0 ≤ z) (h1 : z < 16) : F_bitset_Set_With (m : Int) z = some ((m ||| 2 ^ z.toNat : Nat) : Int) := by
  unfold F_bitset_Set_With
  rw [one_bit h0 h1]
  simp only [Option.bind_some]
  rw [or_u64 hm (pow_small h1)]
theorem of_one {z : Int} (h0 : 0 ≤ z) (h1 : z < 16) : F_bitset_Of [z] = some ((2 ^ z.toNat : Nat) : Int) := by
  unfold F_bitset_Of
  rw [run_inl (s' := (((2 ^ z.toNat : Nat) : Int), (1 : Int))) ?_, run_inr (r := ((2 ^ z.toNat : Nat) : Int)) ?_]
  · rfl
  · simp
  · have := or_u64 (a := 0) (by omega) (pow_small h1)
    simp only [Nat.zero_or] at this
    show (bif decide ((0 : Int) < ((1 : Nat) : Int)) then _ else _) = _
    rw [decide_eq_true (show (0 : Int) < ((1 : Nat) : Int) by omega)]
    simp only [cond_true]
    rw [show Tr.idx [z] (0 : Int) = some z from rfl]
    simp only [Option.bind_some, one_bit h0 h1]
    rw [show Tr.qor .u64 (0 : Int) ((2 ^ z.toNat : Nat) : Int) = ((2 ^ z.toNat : Nat) : Int) from this]
    rfl
end Q
namespace Q
open Tr Go
abbrev LegT := Bool × Int × Int × Int × Int × Int × Int × Int × Bool × Unit
abbrev RideT := Int × Int × Int × Int × Unit
abbrev JouT := List LegT × Unit
def callsOf (n : NetT) (x : LegT) : List CallT := (rn n x.2.1).2.2.2.2.2.2.2.1
def existsB (n : NetT) (x : LegT) : Bool := inR x.2.1 n.2.2.1.length && (decide (0 ≤ x.2.2.1) && (decide (x.2.2.1 < x.2.2.2.1) && decide (x.2.2.2.1 < ((callsOf n x).length : Int))))
theorem exists_val (n : NetT) (x : LegT) : F_journey_exists n x = some (existsB n x) := by
  unfold F_journey_exists existsB
  by_cases h : inR x.2.1 n.2.2.1.length = true
  · have e : Tr.idx n.2.2.1 x.2.1 = some (rn n x.2.1) := idx_int h u0
    simp only [e, Option.bind_some, h]
    unfold inR at h
    simp only [Bool.and_eq_true] at h
    simp only [h.1, h.2, cond_true]
    unfold callsOf
    generalize decide (0 ≤ x.2.2.1) = a1
    generalize decide (x.2.2.1 < x.2.2.2.1) = a2
    generalize decide (x.2.2.2.1 < ((rn n x.2.1).2.2.2.2.2.2.2.1.length : Int)) = a3
    cases a1 <;> cases a2 <;> cases a3 <;> rfl
  · have h' : inR x.2.1 n.2.2.1.length = false := by simpa using h
    rw [h']
    unfold inR at h'
    revert h'
    generalize decide (0 ≤ x.2.1) = a1
    generalize decide (x.2.1 < (n.2.2.1.length : Int)) = a2
    cases a1 <;> cases a2 <;> intro h' <;> first | rfl | cases h'
theorem existsR_val (n : NetT) (x : LegT) : F_ref38_Exists n x = some (existsB n x) := by
  unfold F_ref38_Exists existsB
  by_cases h : inR x.2.1 n.2.2.1.length = true
  · have e : Tr.idx n.2.2.1 x.2.1 = some (rn n x.2.1) := idx_int h u0
    simp only [e, Option.bind_some, h]
    unfold inR at h
    simp only [Bool.and_eq_true, decide_eq_true_eq] at h
    rw [decide_eq_false (show ¬ x.2.1 < 0 by omega), decide_eq_false (show ¬ (n.2.2.1.length : Int) ≤ x.2.1 by omega)]
    simp only [cond_false, Option.bind_some]
    unfold callsOf
    generalize decide (0 ≤ x.2.2.1) = a1
    generalize decide (x.2.2.1 < x.2.2.2.1) = a2
    generalize decide (x.2.2.2.1 < ((rn n x.2.1).2.2.2.2.2.2.2.1.length : Int)) = a3
    cases a1 <;> cases a2 <;> cases a3 <;> rfl
  · have h' : inR x.2.1 n.2.2.1.length = false := by simpa using h
    rw [h']
    unfold inR at h
    simp only [Bool.and_eq_true, decide_eq_true_eq] at h
    by_cases h1 : x.2.1 < 0
    · rw [decide_eq_true h1]; rfl
    · rw [decide_eq_false h1, decide_eq_true (show (n.2.2.1.length : Int) ≤ x.2.1 by omega)]; rfl
def s0 : StopT := ([], 0, false, 0, ())
def stopAt (n : NetT) (a : Int) : StopT := (n.1[a.toNat]?).getD s0
def zn (n : NetT) (l : List CallT) (j : Nat) : Nat := 2 ^ (stopAt n ((l[j]?).getD c0).1).2.1.toNat
def zN (n : NetT) (l : List CallT) (a : Nat) : Nat → Nat
  | 0 => 0
  | k + 1 => zN n l a k ||| zn n l (a + k)
theorem stop_sound {n : NetT} (h : Sound n) {a : Int} (h0 : 0 ≤ a) (h1 : a < (n.1.length : Int)) : Tr.idx n.1 a = some (stopAt n a) ∧ 0 ≤ (stopAt n a).2.1 ∧ (stopAt n a).2.1 < 16 := by
  have hi : inR a n.1.length = true := by unfold inR; rw [decide_eq_true h0, decide_eq_true h1]; rfl
  refine ⟨idx_int hi s0, ?_⟩
  have hl : a.toNat < n.1.length := by omega
  unfold stopAt
  rw [getD_of hl]
  exact h.zone _ (List.getElem_mem hl)
theorem zN_small {n : NetT} (h : Sound n) {l : List CallT} (hc : ∀ c ∈ l, 0 ≤ c.1 ∧ c.1 < (n.1.length : Int)) {a : Nat} : ∀ k, a + k ≤ l.length → zN n l a k < 65536
  | 0, _ => by unfold zN; omega
  | k + 1, hk => by
    have ih := zN_small h hc (a := a) k (by omega)
    have hj : a + k < l.length := by omega
    have hcj := hc _ (List.getElem_mem hj)
    have hz := (stop_sound h hcj.1 hcj.2).2
    have : zn n l (a + k) < 65536 := by
      unfold zn
      rw [getD_of hj]
      exact pow_small hz.2
    exact Nat.or_lt_two_pow (n := 16) ih this
theorem zones_val {n : NetT} (h : Sound n) {x : LegT} (hx : existsB n x = true) : F_journey_zones n x = some ((zN n (callsOf n x) x.2.2.1.toNat (x.2.2.2.1.toNat + 1 - x.2.2.1.toNat) : Nat) : Int) := by
  unfold existsB at hx
  simp only [Bool.and_eq_true, decide_eq_true_eq] at hx
  obtain ⟨hr, h0, h1, h2⟩ := hx
  have hm := rn_mem hr
  have hmany := (h.many _ hm).2
  have hc : ∀ c ∈ callsOf n x, 0 ≤ c.1 ∧ c.1 < (n.1.length : Int) := h.call _ hm
  have e : Tr.idx n.2.2.1 x.2.1 = some (rn n x.2.1) := idx_int hr u0
  unfold F_journey_zones
  rw [e]
  simp only [Option.bind_some]
  have hfold : (rn n x.2.1).2.2.2.2.2.2.2.1 = callsOf n x := rfl
  simp only [hfold] at hmany ⊢
  generalize callsOf n x = l at *
  obtain ⟨a, ha⟩ : ∃ a : Nat, x.2.2.1 = (a : Int) := ⟨x.2.2.1.toNat, by omega⟩
  obtain ⟨b, hb⟩ : ∃ b : Nat, x.2.2.2.1 = (b : Int) := ⟨x.2.2.2.1.toNat, by omega⟩
  rw [ha] at h0 h1
  rw [hb] at h1 h2
  rw [ha, hb]
  have hw : IntKind.wrap .i64 ((b : Int) + 1) = ((b + 1 : Nat) : Int) := by rw [wrap_i64 (by omega) (by omega)]; omega
  have hsl : Tr.sliceB l.length l.length (some (a : Int)) (some ((b + 1 : Nat) : Int)) = some (a, b + 1) := by
    unfold Tr.sliceB
    simp only
    rw [if_pos (by omega)]
    simp only [Option.bind_some, Int.toNat_natCast]
    rw [if_pos (by omega)]
  rw [hw, hsl]
  simp only [Option.bind_some, Int.toNat_natCast]
  have hlen : (List.take (b + 1 - a) (List.drop a l)).length = b + 1 - a := by
    rw [List.length_take, List.length_drop]; omega
  rw [scan_run (n := b + 1 - a) (fun i (st : Int × Int) => st = (((zN n l a i : Nat) : Int), (i : Int))) (fun _ => 0) (fun _ => ((zN n l a (b + 1 - a) : Nat) : Int)) ((zN n l a (b + 1 - a) : Nat) : Int) ?_ ?_ ?_ ((0 : Int), (0 : Int)) rfl]
  · unfold pick
    rw [firstBad_none fun _ _ => rfl]
    rfl
  · rintro i _ hi rfl _
    have hj : a + i < l.length := by omega
    have hcj := hc _ (List.getElem_mem hj)
    obtain ⟨hs1, hs2, hs3⟩ := stop_sound h hcj.1 hcj.2
    refine ⟨(((zN n l a (i + 1) : Nat) : Int), ((i + 1 : Nat) : Int)), ?_, rfl⟩
    simp only [hlen, lt_dec hi, cond_true]
    rw [idx_nat (show i < (List.take (b + 1 - a) (List.drop a l)).length by omega)]
    simp only [List.getElem_take, List.getElem_drop, Option.bind_some, hs1, with_val (zN_small h hc (a := a) i (by omega)) hs2 hs3, wrap_succ hi (show b + 1 - a ≤ 9223372036854775807 by omega)]
    have : zN n l a (i + 1) = zN n l a i ||| 2 ^ (stopAt n l[a + i].1).2.1.toNat := by
      show zN n l a i ||| zn n l (a + i) = _
      unfold zn
      rw [getD_of hj]
    rw [this]
  · intro i s _ _ hh; exact absurd rfl hh
  · rintro _ rfl
    simp only [hlen, nlt_dec, cond_false]
theorem zonesR_val {n : NetT} (h : Sound n) {x : LegT} (hx : existsB n x = true) : F_ref38_zones n x = some ((zN n (callsOf n x) x.2.2.1.toNat (x.2.2.2.1.toNat + 1 - x.2.2.1.toNat) : Nat) : Int) := by
  unfold existsB at hx
  simp only [Bool.and_eq_true, decide_eq_true_eq] at hx
  obtain ⟨hr, h0, h1, h2⟩ := hx
  have hm := rn_mem hr
  have hmany := (h.many _ hm).2
  have hc : ∀ c ∈ callsOf n x, 0 ≤ c.1 ∧ c.1 < (n.1.length : Int) := h.call _ hm
  have e : Tr.idx n.2.2.1 x.2.1 = some (rn n x.2.1) := idx_int hr u0
  unfold F_ref38_zones
  rw [e]
  simp only [Option.bind_some]
  have hfold : (rn n x.2.1).2.2.2.2.2.2.2.1 = callsOf n x := rfl
  simp only [hfold] at hmany ⊢
  generalize callsOf n x = l at *
  obtain ⟨a, ha⟩ : ∃ a : Nat, x.2.2.1 = (a : Int) := ⟨x.2.2.1.toNat, by omega⟩
  obtain ⟨b, hb⟩ : ∃ b : Nat, x.2.2.2.1 = (b : Int) := ⟨x.2.2.2.1.toNat, by omega⟩
  rw [ha] at h0 h1
  rw [hb] at h1 h2
  rw [ha, hb]
  simp only [Int.toNat_natCast]
  rw [scan_run (n := b + 1 - a) (fun i (st : Int × Int) => st = (((zN n l a i : Nat) : Int), ((a + i : Nat) : Int))) (fun _ => 0) (fun _ => ((zN n l a (b + 1 - a) : Nat) : Int)) ((zN n l a (b + 1 - a) : Nat) : Int) ?_ ?_ ?_ ((0 : Int), (a : Int)) rfl]
  · unfold pick
    rw [firstBad_none fun _ _ => rfl]
    rfl
  · rintro i _ hi rfl _
    have hj : a + i < l.length := by omega
    have hcj := hc _ (List.getElem_mem hj)
    obtain ⟨hs1, hs2, hs3⟩ := stop_sound h hcj.1 hcj.2
    refine ⟨(((zN n l a (i + 1) : Nat) : Int), ((a + (i + 1) : Nat) : Int)), ?_, rfl⟩
    have hw : IntKind.wrap .i64 (((a + i : Nat) : Int) + 1) = ((a + (i + 1) : Nat) : Int) := by rw [wrap_i64 (by omega) (by omega)]; omega
    simp only [decide_eq_true (show ((a + i : Nat) : Int) ≤ (b : Int) by omega), cond_true, idx_nat hj, Option.bind_some, hs1, shl_i64 hs2 hs3, hw]
    rw [or_i64 (zN_small h hc (a := a) i (by omega)) (pow_small hs3)]
    have : zN n l a (i + 1) = zN n l a i ||| 2 ^ (stopAt n l[a + i].1).2.1.toNat := by
      show zN n l a i ||| zn n l (a + i) = _
      unfold zn
      rw [getD_of hj]
    rw [this]
  · intro i s _ _ hh; exact absurd rfl hh
  · rintro _ rfl
    simp only [decide_eq_false (show ¬ ((a + (b + 1 - a) : Nat) : Int) ≤ (b : Int) by omega), cond_false]
end Q
namespace Q
open Tr Go
theorem run_two {σ ρ τ : Type} {f : σ → Option (σ ⊕ τ)} {g : ρ → Option (ρ ⊕ τ)} {n : Nat} (P : τ → Prop) (R : Nat → σ → ρ → Prop)
    (hstep : ∀ i s t, i < n → R i s t → (∃ s' t', f s = some (.inl s') ∧ g t = some (.inl t') ∧ R (i + 1) s' t') ∨ ∃ r, f s = some (.inr r) ∧ g t = some (.inr r) ∧ P r)
    (hend : ∀ s t, R n s t → ∃ r, f s = some (.inr r) ∧ g t = some (.inr r) ∧ P r) (s : σ) (t : ρ) (h0 : R 0 s t) : ∃ r, run f s = some r ∧ run g t = some r ∧ P r := by
  have key : ∀ (k i : Nat) (s : σ) (t : ρ), n - i = k → i ≤ n → R i s t → ∃ r, run f s = some r ∧ run g t = some r ∧ P r := by
    intro k
    induction k with
    | zero =>
      intro i s t hk hi hs
      have : i = n := by omega
      subst this
      obtain ⟨r, h1, h2, h3⟩ := hend s t hs
      exact ⟨r, run_inr h1, run_inr h2, h3⟩
    | succ k ih =>
      intro i s t hk hi hs
      rcases hstep i s t (by omega) hs with ⟨s', t', h1, h2, h3⟩ | ⟨r, h1, h2, h3⟩
      · rw [run_inl h1, run_inl h2]
        exact ih (i + 1) s' t' (by omega) (by omega) h3
      · exact ⟨r, run_inr h1, run_inr h2, h3⟩
  exact key n 0 s t (by omega) (by omega) h0
theorem inb_last {k : Nat} (h : 0 < k) (hk : k ≤ 9223372036854775807) : Tr.inb (IntKind.wrap .i64 ((k : Int) - 1)) k = some (k - 1) := by
  have e : IntKind.wrap .i64 ((k : Int) - 1) = ((k - 1 : Nat) : Int) := by rw [wrap_i64 (by omega) (by omega)]; omega
  rw [e, inb_nat (by omega)]
theorem set_get {α : Type} {l : List α} {k : Nat} (h : k < l.length) (w : α) : (l.set k w)[k]? = some w := by simp [h]
theorem wrap_mask {m : Nat} (h : m < 65536) : IntKind.wrap .i64 (m : Int) = (m : Int) := wrap_i64 (by omega) (by omega)
def zmask (n : NetT) (x : LegT) : Nat := zN n (callsOf n x) x.2.2.1.toNat (x.2.2.2.1.toNat + 1 - x.2.2.1.toNat)
theorem zmask_small {n : NetT} (h : Sound n) {x : LegT} (hx : existsB n x = true) : zmask n x < 65536 := by
  unfold existsB at hx
  simp only [Bool.and_eq_true, decide_eq_true_eq] at hx
  obtain ⟨hr, h0, h1, h2⟩ := hx
  exact zN_small h (h.call _ (rn_mem hr)) _ (by unfold callsOf at h2; omega)
def r00 : RouteT := ([], 0, false, ())
def routeAt (n : NetT) (x : LegT) : RouteT := (n.2.1[(rn n x.2.1).2.2.2.2.1.toNat]?).getD r00
theorem route_ok {n : NetT} (h : Sound n) {x : LegT} (hx : existsB n x = true) : Tr.idx n.2.2.1 x.2.1 = some (rn n x.2.1) ∧ Tr.idx n.2.1 (rn n x.2.1).2.2.2.2.1 = some (routeAt n x) ∧ 0 ≤ (routeAt n x).2.1 ∧ (routeAt n x).2.1 < 16 := by
  unfold existsB at hx
  simp only [Bool.and_eq_true] at hx
  have hm := rn_mem hx.1
  have h1 := h.route _ hm
  have hi : inR (rn n x.2.1).2.2.2.2.1 n.2.1.length = true := by unfold inR; rw [decide_eq_true h1.1, decide_eq_true h1.2]; rfl
  refine ⟨idx_int hx.1 u0, idx_int hi r00, ?_⟩
  have hl : (rn n x.2.1).2.2.2.2.1.toNat < n.2.1.length := by omega
  unfold routeAt
  rw [getD_of hl]
  have := h.mode _ (List.getElem_mem hl)
  omega
def newRide (n : NetT) (x : LegT) : RideT := (x.2.2.2.2.2.2.1, x.2.2.2.2.2.2.2.1, ((zmask n x : Nat) : Int), ((2 ^ (routeAt n x).2.1.toNat : Nat) : Int), ())
def addRide (n : NetT) (x : LegT) (l : List RideT) (v : RideT) : List RideT :=
  l.set (l.length - 1) (v.1, x.2.2.2.2.2.2.2.1, Tr.qor .i64 v.2.2.1 ((zmask n x : Nat) : Int), Tr.qor .i64 v.2.2.2.1 ((2 ^ (routeAt n x).2.1.toNat : Nat) : Int), ())
theorem rides1_new {n : NetT} (h : Sound n) {x : LegT} (hx : existsB n x = true) (hs : x.2.2.2.2.2.2.2.2.1 = false) {l : List RideT} (hl : l.length ≤ 100) : F_journey_Rides_1 x n l = some (l ++ [newRide n x]) := by
  obtain ⟨e1, e2, e3, e4⟩ := route_ok h hx
  unfold F_journey_Rides_1
  rw [zones_val h hx]
  simp only [Option.bind_some, e1, e2, of_one e3 e4, hs, Bool.not_false, cond_true]
  rw [show IntKind.wrap .i64 ((zN n (callsOf n x) x.2.2.1.toNat (x.2.2.2.1.toNat + 1 - x.2.2.1.toNat) : Nat) : Int) = ((zmask n x : Nat) : Int) from wrap_mask (zmask_small h hx), wrap_mask (pow_small e4)]
  have hg : (decide (l.length + [newRide n x].length ≤ Tr.maxApp)) = true := decide_eq_true (by simp [Tr.maxApp]; omega)
  show (Tr.guardB (decide (l.length + [newRide n x].length ≤ Tr.maxApp))).bind (fun _ => some (l ++ [newRide n x])) = _
  rw [hg]
  rfl
theorem rides1_stay {n : NetT} (h : Sound n) {x : LegT} (hx : existsB n x = true) (hs : x.2.2.2.2.2.2.2.2.1 = true) {l : List RideT} (hl : l.length ≤ 100) {v : RideT} (h0 : 0 < l.length) (hv : l[l.length - 1]? = some v) : F_journey_Rides_1 x n l = some (addRide n x l v) := by
  obtain ⟨e1, e2, e3, e4⟩ := route_ok h hx
  unfold F_journey_Rides_1
  rw [zones_val h hx]
  simp only [Option.bind_some, e1, e2, of_one e3 e4, hs, Bool.not_true, cond_false]
  rw [show IntKind.wrap .i64 ((zN n (callsOf n x) x.2.2.1.toNat (x.2.2.2.1.toNat + 1 - x.2.2.1.toNat) : Nat) : Int) = ((zmask n x : Nat) : Int) from wrap_mask (zmask_small h hx), wrap_mask (pow_small e4)]
  have hk : l.length - 1 < l.length := by omega
  simp only [inb_last h0 (by omega), Option.bind_some]
  erw [hv]
  simp only [Option.bind_some, List.set_set]
  erw [set_get hk]
  simp only [Option.bind_some]
  erw [set_get hk]
  rfl
theorem rides_same (n : NetT) (j : JouT) (hf : Fit n) (hj : j.1.length ≤ 20) : ∃ r : List RideT × Int, F_journey_Rides n j = some r ∧ F_ref38_Rides n j = some r ∧ r.1.length ≤ 20 := by
  obtain ⟨c, hc1, hc2, hc3⟩ := check_same n hf
  unfold F_journey_Rides F_ref38_Rides F_ref26_Valid
  rw [hc1, hc2]
  simp only [Option.bind_some]
  by_cases he : c.2.2 = 0
  case neg =>
    rw [decide_eq_false he]
    exact ⟨([], 21), rfl, rfl, by simp⟩
  have h := hc3 he
  rw [decide_eq_true he]
  simp only [Bool.not_true, cond_false]
  refine Exists.elim (run_two (n := j.1.length) (τ := List RideT ⊕ (List RideT × Int)) (fun r => Sum.elim (fun l : List RideT => l.length ≤ 20) (fun y => y.1.length ≤ 20) r)
    (fun i (s : List RideT × Bool × Int) (t : List RideT × Int) => ∃ l w, s = (l, w, (i : Int)) ∧ t = (l, (i : Int)) ∧ l.length ≤ i ∧ (w = true → 0 < l.length) ∧ w = (if i = 0 then false else ((j.1[i - 1]?).getD (false, 0, 0, 0, 0, 0, 0, 0, false, ())).1))
    (f := fun s1 =>
            bif Decidable.decide (s1.snd.snd < (↑(List.length j.fst) : Int)) then
              Option.bind (Tr.idx j.fst s1.snd.snd) fun x2 =>
                Option.bind (bif x2.fst then Option.bind (F_journey_exists n x2) fun x3 => Option.some !x3 else Option.some Bool.false) fun x4 =>
                  bif x4 then Option.some (Sum.inr (Sum.inr ([], (9 : Int))))
                  else
                    Option.bind (bif x2.snd.snd.snd.snd.snd.snd.snd.snd.fst then bif !x2.fst then Option.some Bool.true else Option.some !s1.snd.fst else Option.some Bool.false) fun x5 =>
                      bif x5 then Option.some (Sum.inr (Sum.inr ([], (19 : Int))))
                      else
                        Option.bind (bif x2.fst then Option.bind (F_journey_Rides_1 x2 n s1.fst) fun x6 => Option.some x6 else Option.some s1.fst) fun x7 =>
                          Option.some (Sum.inl (x7, x2.fst, Go.IntKind.wrap Go.IntKind.i64 (s1.snd.snd + (1 : Int))))
            else Option.some (Sum.inr (Sum.inl s1.fst)))
    (g := fun s1 =>
            bif Decidable.decide (s1.snd < (↑(List.length j.fst) : Int)) then
              Option.bind (Tr.idx j.fst s1.snd) fun x2 =>
                Option.bind (bif x2.fst then Option.bind (F_ref38_Exists n x2) fun x3 => Option.some !x3 else Option.some Bool.false) fun x4 =>
                  bif x4 then Option.some (Sum.inr (Sum.inr ([], (9 : Int))))
                  else
                    Option.bind
                      (bif x2.snd.snd.snd.snd.snd.snd.snd.snd.fst then
                        bif !x2.fst then Option.some Bool.true
                        else
                          bif Decidable.decide (s1.snd = (0 : Int)) then Option.some Bool.true
                          else Option.bind (Tr.idx j.fst (Go.IntKind.wrap Go.IntKind.i64 (s1.snd - (1 : Int)))) fun x5 => Option.some !x5.fst
                      else Option.some Bool.false)
                      fun x6 =>
                      bif x6 then Option.some (Sum.inr (Sum.inr ([], (19 : Int))))
                      else
                        bif !x2.fst then Option.some (Sum.inl (s1.fst, Go.IntKind.wrap Go.IntKind.i64 (s1.snd + (1 : Int))))
                        else
                          Option.bind (Tr.idx n.snd.snd.fst x2.snd.fst) fun x7 =>
                            Option.bind (Tr.idx n.snd.fst x7.snd.snd.snd.snd.fst) fun x8 =>
                              Option.bind (Tr.qshl Go.IntKind.i64 (1 : Int) x8.snd.fst) fun x9 =>
                                bif x2.snd.snd.snd.snd.snd.snd.snd.snd.fst then
                                  Option.bind (Tr.inb (Go.IntKind.wrap Go.IntKind.i64 ((↑(List.length s1.fst) : Int) - (1 : Int))) (List.length s1.fst)) fun x10 =>
                                    Option.bind s1.fst[x10]? fun x11 =>
                                      Option.bind
                                        (Tr.inb (Go.IntKind.wrap Go.IntKind.i64 ((↑(List.length s1.fst) : Int) - (1 : Int)))
                                          (List.length (List.set s1.fst x10 (x11.fst, x2.snd.snd.snd.snd.snd.snd.snd.fst, x11.snd.snd))))
                                        fun x12 =>
                                        Option.bind (List.set s1.fst x10 (x11.fst, x2.snd.snd.snd.snd.snd.snd.snd.fst, x11.snd.snd))[x12]? fun x13 =>
                                          Option.bind (F_ref38_zones n x2) fun x14 =>
                                            Option.bind
                                              (Tr.inb (Go.IntKind.wrap Go.IntKind.i64 ((↑(List.length s1.fst) : Int) - (1 : Int)))
                                                (List.length (List.set s1.fst x10 (x11.fst, x2.snd.snd.snd.snd.snd.snd.snd.fst, x11.snd.snd))))
                                              fun x15 =>
                                              Option.bind (List.set s1.fst x10 (x11.fst, x2.snd.snd.snd.snd.snd.snd.snd.fst, x11.snd.snd))[x15]? fun x16 =>
                                                Option.bind
                                                  (Tr.inb (Go.IntKind.wrap Go.IntKind.i64 ((↑(List.length s1.fst) : Int) - (1 : Int)))
                                                    (List.length
                                                      (List.set (List.set s1.fst x10 (x11.fst, x2.snd.snd.snd.snd.snd.snd.snd.fst, x11.snd.snd)) x15
                                                        (x16.fst, x16.snd.fst, Tr.qor Go.IntKind.i64 x13.snd.snd.fst x14, x16.snd.snd.snd))))
                                                  fun x17 =>
                                                  Option.bind
                                                    (List.set (List.set s1.fst x10 (x11.fst, x2.snd.snd.snd.snd.snd.snd.snd.fst, x11.snd.snd)) x15
                                                        (x16.fst, x16.snd.fst, Tr.qor Go.IntKind.i64 x13.snd.snd.fst x14, x16.snd.snd.snd))[x17]?
                                                    fun x18 =>
                                                    Option.bind
                                                      (Tr.inb (Go.IntKind.wrap Go.IntKind.i64 ((↑(List.length s1.fst) : Int) - (1 : Int)))
                                                        (List.length
                                                          (List.set (List.set s1.fst x10 (x11.fst, x2.snd.snd.snd.snd.snd.snd.snd.fst, x11.snd.snd)) x15
                                                            (x16.fst, x16.snd.fst, Tr.qor Go.IntKind.i64 x13.snd.snd.fst x14, x16.snd.snd.snd))))
                                                      fun x19 =>
                                                      Option.bind
                                                        (List.set (List.set s1.fst x10 (x11.fst, x2.snd.snd.snd.snd.snd.snd.snd.fst, x11.snd.snd)) x15
                                                            (x16.fst, x16.snd.fst, Tr.qor Go.IntKind.i64 x13.snd.snd.fst x14, x16.snd.snd.snd))[x19]?
                                                        fun x20 =>
                                                        Option.some
                                                          (Sum.inl
                                                            (List.set
                                                                (List.set (List.set s1.fst x10 (x11.fst, x2.snd.snd.snd.snd.snd.snd.snd.fst, x11.snd.snd)) x15
                                                                  (x16.fst, x16.snd.fst, Tr.qor Go.IntKind.i64 x13.snd.snd.fst x14, x16.snd.snd.snd))
                                                                x19 (x20.fst, x20.snd.fst, x20.snd.snd.fst, Tr.qor Go.IntKind.i64 x18.snd.snd.snd.fst x9, x20.snd.snd.snd.snd),
                                                              Go.IntKind.wrap Go.IntKind.i64 (s1.snd + (1 : Int))))
                                else
                                  Option.bind (F_ref38_zones n x2) fun x21 =>
                                    Option.bind
                                      (Tr.guardB (Decidable.decide (List.length s1.fst + List.length [(x2.snd.snd.snd.snd.snd.snd.fst, x2.snd.snd.snd.snd.snd.snd.snd.fst, x21, x9, ())] ≤ Tr.maxApp)))
                                      fun _ =>
                                      Option.some
                                        (Sum.inl (s1.fst ++ [(x2.snd.snd.snd.snd.snd.snd.fst, x2.snd.snd.snd.snd.snd.snd.snd.fst, x21, x9, ())], Go.IntKind.wrap Go.IntKind.i64 (s1.snd + (1 : Int))))
            else Option.some (Sum.inr (Sum.inl s1.fst))) ?_ ?_ ([], false, (0 : Int)) ([], (0 : Int)) ⟨[], false, rfl, rfl, by simp, fun e => (nomatch e), rfl⟩) ?_
  rotate_left 2
  · rintro r ⟨h1, h2, h3⟩
    refine ⟨Sum.elim (fun l => (l, (0 : Int))) id r, ?_, ?_, ?_⟩
    · refine (congrArg (Option.bind · _) h1).trans ?_
      cases r <;> rfl
    · refine (congrArg (Option.bind · _) h2).trans ?_
      cases r <;> rfl
    · cases r <;> exact h3
  · rintro i _ _ hi ⟨l, w, rfl, rfl, hl, hw, hww⟩
    have hil : j.1.length ≤ 9223372036854775807 := by omega
    simp only [lt_dec hi, cond_true, idx_nat hi, Option.bind_some, wrap_succ hi hil]
    have hnext : ∀ b : Bool, b = (j.1[i]).1 → b = (if i + 1 = 0 then false else ((j.1[i + 1 - 1]?).getD (false, 0, 0, 0, 0, 0, 0, 0, false, ())).1) := by
      intro b hb
      rw [if_neg (by omega), show i + 1 - 1 = i by omega, getD_of hi, hb]
    have hprev : 0 < i → Tr.idx j.1 (IntKind.wrap .i64 ((i : Int) - 1)) = some ((j.1[i - 1]?).getD (false, 0, 0, 0, 0, 0, 0, 0, false, ())) := by
      intro h0
      have e : IntKind.wrap .i64 ((i : Int) - 1) = ((i - 1 : Nat) : Int) := by rw [wrap_i64 (by omega) (by omega)]; omega
      rw [e, idx_nat (show i - 1 < j.1.length by omega), getD_of (show i - 1 < j.1.length by omega)]
    generalize j.1[i] = x at *
    cases hx1 : x.1 with
    | false =>
      simp only [cond_false, Option.bind_some, Bool.not_false, cond_true]
      cases hs : x.2.2.2.2.2.2.2.2.1 with
      | true => exact .inr ⟨_, rfl, rfl, by simp⟩
      | false => exact .inl ⟨(l, false, ((i + 1 : Nat) : Int)), (l, ((i + 1 : Nat) : Int)), rfl, rfl, l, false, rfl, rfl, by omega, fun e => (nomatch e), hnext false hx1.symm⟩
    | true =>
      simp only [cond_true, Option.bind_some, Bool.not_true, cond_false, exists_val, existsR_val]
      cases hx : existsB n x with
      | false => exact .inr ⟨_, rfl, rfl, by simp⟩
      | true =>
        obtain ⟨e1, e2, e3, e4⟩ := route_ok h hx
        simp only [Bool.not_true, cond_false]
        cases hs : x.2.2.2.2.2.2.2.2.1 with
        | false =>
          simp only [cond_false, Option.bind_some, rides1_new h hx hs (show l.length ≤ 100 by omega), e1, e2, shl_i64 e3 e4, zonesR_val h hx]
          refine .inl ⟨(l ++ [newRide n x], true, ((i + 1 : Nat) : Int)), (l ++ [newRide n x], ((i + 1 : Nat) : Int)), rfl, ?_, l ++ [newRide n x], true, rfl, rfl, by simp; omega, fun _ => by simp, hnext true hx1.symm⟩
          have hg : (decide (l.length + [newRide n x].length ≤ Tr.maxApp)) = true := decide_eq_true (by simp [Tr.maxApp]; omega)
          show (Tr.guardB (decide (l.length + [newRide n x].length ≤ Tr.maxApp))).bind (fun _ => some (Sum.inl (l ++ [newRide n x], ((i + 1 : Nat) : Int)))) = _
          rw [hg]
          rfl
        | true =>
          simp only [cond_true]
          cases w with
          | false =>
            refine .inr ⟨.inr ([], 19), rfl, ?_, by simp⟩
            by_cases h0 : i = 0
            · subst h0; rfl
            · rw [if_neg h0] at hww
              rw [decide_eq_false (show ¬ (i : Int) = 0 by omega)]
              simp only [cond_false, hprev (by omega), Option.bind_some, ← hww, Bool.not_false, cond_true]
          | true =>
            have h0 : i ≠ 0 := fun e => by rw [if_pos e] at hww; exact (nomatch hww)
            rw [if_neg h0] at hww
            have hpos := hw rfl
            have hk : l.length - 1 < l.length := by omega
            obtain ⟨v, hv⟩ : ∃ v, l[l.length - 1]? = some v := ⟨_, List.getElem?_eq_getElem hk⟩
            refine .inl ⟨(addRide n x l v, true, ((i + 1 : Nat) : Int)), (addRide n x l v, ((i + 1 : Nat) : Int)), ?_, ?_, addRide n x l v, true, rfl, rfl, by unfold addRide; rw [List.length_set]; omega, fun _ => by unfold addRide; rw [List.length_set]; omega, hnext true hx1.symm⟩
            · simp only [Bool.not_true, Option.bind_some, cond_false, rides1_stay h hx hs (show l.length ≤ 100 by omega) hpos hv]
            · rw [decide_eq_false (show ¬ (i : Int) = 0 by omega)]
              simp only [cond_false, hprev (by omega), Option.bind_some, ← hww, Bool.not_true, e1, e2, shl_i64 e3 e4, zonesR_val h hx, inb_last hpos (show l.length ≤ 9223372036854775807 by omega), List.length_set]
              erw [hv]
              simp only [Option.bind_some, List.set_set]
              erw [set_get hk]
              simp only [Option.bind_some]
              erw [set_get hk]
              rfl
  · rintro _ _ ⟨l, w, rfl, rfl, hl, _⟩
    refine ⟨.inl l, ?_, ?_, by simp; omega⟩
    · simp only [nlt_dec, cond_false]
    · simp only [nlt_dec, cond_false]
end Q
namespace Q
open Tr Go
theorem example_true : F_law38_exampleHolds = some true := by kernel_rfl
theorem light_val (n : NetT) (j : JouT) : ∃ b, F_law38_light n j = some b ∧ (b = true → n.2.2.2.2.1.length ≤ 200 ∧ j.1.length ≤ 20) := by
  unfold F_law38_light
  by_cases h1 : (20 : Int) < (n.1.length : Int)
  · rw [decide_eq_true h1]; exact ⟨false, rfl, fun e => (nomatch e)⟩
  by_cases h2 : (20 : Int) < (n.2.1.length : Int)
  · rw [decide_eq_false h1, decide_eq_true h2]; exact ⟨false, rfl, fun e => (nomatch e)⟩
  by_cases h3 : (20 : Int) < (n.2.2.1.length : Int)
  · rw [decide_eq_false h1, decide_eq_false h2, decide_eq_true h3]; exact ⟨false, rfl, fun e => (nomatch e)⟩
  by_cases h4 : (40 : Int) < (n.2.2.2.1.length : Int)
  · rw [decide_eq_false h1, decide_eq_false h2, decide_eq_false h3, decide_eq_true h4]; exact ⟨false, rfl, fun e => (nomatch e)⟩
  by_cases h5 : (200 : Int) < (n.2.2.2.2.1.length : Int)
  · rw [decide_eq_false h1, decide_eq_false h2, decide_eq_false h3, decide_eq_false h4, decide_eq_true h5]; exact ⟨false, rfl, fun e => (nomatch e)⟩
  by_cases h6 : (16 : Int) < (n.2.2.2.2.2.1.1.length : Int)
  · rw [decide_eq_false h1, decide_eq_false h2, decide_eq_false h3, decide_eq_false h4, decide_eq_false h5, decide_eq_true h6]; exact ⟨false, rfl, fun e => (nomatch e)⟩
  by_cases h7 : (20 : Int) < (j.1.length : Int)
  · rw [decide_eq_false h1, decide_eq_false h2, decide_eq_false h3, decide_eq_false h4, decide_eq_false h5, decide_eq_false h6, decide_eq_true h7]; exact ⟨false, rfl, fun e => (nomatch e)⟩
  rw [decide_eq_false h1, decide_eq_false h2, decide_eq_false h3, decide_eq_false h4, decide_eq_false h5, decide_eq_false h6, decide_eq_false h7]
  simp only [cond_false, Option.bind_some]
  have hl : n.2.2.1.length ≤ 9223372036854775807 := by omega
  rw [scan_run (n := n.2.2.1.length) (fun i (st : Int) => st = (i : Int)) (fun i => if 40 < ((n.2.2.1[i]?).getD u0).2.2.2.2.2.2.2.1.length then 1 else 0) (fun _ => .inr false) (.inl ()) ?_ ?_ ?_ (0 : Int) rfl]
  · unfold pick
    cases firstBad n.2.2.1.length (fun i => if 40 < ((n.2.2.1[i]?).getD u0).2.2.2.2.2.2.2.1.length then 1 else 0) with
    | none => exact ⟨true, rfl, fun _ => by omega⟩
    | some i => exact ⟨false, rfl, fun e => (nomatch e)⟩
  · rintro i _ hi rfl hc
    rw [getD_of hi] at hc
    split at hc
    · omega
    · next hh =>
      refine ⟨((i + 1 : Nat) : Int), ?_, rfl⟩
      simp only [lt_dec hi, cond_true, idx_nat hi, Option.bind_some, decide_eq_false (show ¬ (40 : Int) < ((n.2.2.1[i]).2.2.2.2.2.2.2.1.length : Int) by omega), cond_false, wrap_succ hi hl]
  · rintro i _ hi rfl hc
    rw [getD_of hi] at hc
    split at hc
    · next hh =>
      simp only [lt_dec hi, cond_true, idx_nat hi, Option.bind_some, decide_eq_true (show (40 : Int) < ((n.2.2.1[i]).2.2.2.2.2.2.2.1.length : Int) by omega)]
    · omega
  · rintro _ rfl
    simp only [nlt_dec, cond_false]
theorem fit_of {n : El Y31} (h : Good Y31 n) (hp : n.2.2.2.2.1.length ≤ 4096) : Fit n := by
  obtain ⟨⟨_, h1⟩, ⟨_, h2⟩, ⟨_, h3⟩, _, _, ⟨⟨_, h6⟩, _⟩, _⟩ := h
  refine ⟨fun x hx => ?_, fun x hx => ?_, fun x hx => ?_, fun x hx => ?_, hp, fun x hx => ?_⟩
  · exact (h1 x hx).1
  · exact (h2 x hx).1
  · exact (h3 x hx).2.2.2.1
  · exact (h3 x hx).2.2.2.2.2.2.2.1.1
  · exact (h6 x hx).1
end Q
namespace Q
open Tr Go
abbrev stayB (x : LegT) : Bool := x.2.2.2.2.2.2.2.2.1
def addLast (n : NetT) (x : LegT) (out : List RideT) : List RideT := match out[out.length - 1]? with
  | some v => addRide n x out v
  | none => out
def ridesGo (n : NetT) : List LegT → Bool → List RideT → List RideT × Int
  | [], _, out => (out, 0)
  | x :: l, rode, out =>
    if x.1 = true ∧ existsB n x = false then ([], 9)
    else if stayB x = true ∧ (x.1 = false ∨ rode = false) then ([], 19)
    else if x.1 = true then ridesGo n l true (if stayB x = true then addLast n x out else out ++ [newRide n x])
    else ridesGo n l false out
theorem ridesGo_cons (n : NetT) (x : LegT) (l : List LegT) (rode : Bool) (out : List RideT) : ridesGo n (x :: l) rode out = if x.1 = true ∧ existsB n x = false then ([], 9)
    else if stayB x = true ∧ (x.1 = false ∨ rode = false) then ([], 19)
    else if x.1 = true then ridesGo n l true (if stayB x = true then addLast n x out else out ++ [newRide n x])
    else ridesGo n l false out := rfl
theorem addLast_len (n : NetT) (x : LegT) (out : List RideT) : (addLast n x out).length = out.length := by
  unfold addLast
  split
  · unfold addRide; rw [List.length_set]
  · rfl
theorem rides_val (n : NetT) (j : JouT) (hf : Fit n) (hj : j.1.length ≤ 90) : (F_journey_Rides n j = some ([], 21) ∧ F_ref26_Valid n = some false) ∨ (Sound n ∧ F_ref26_Valid n = some true ∧ F_journey_Rides n j = some (ridesGo n j.1 false [])) := by
  obtain ⟨c, hc1, hc2, hc3⟩ := check_same n hf
  unfold F_journey_Rides F_ref26_Valid
  rw [hc1, hc2]
  simp only [Option.bind_some]
  by_cases he : c.2.2 = 0
  case neg =>
    rw [decide_eq_false he]
    exact .inl ⟨rfl, by first | rfl | trivial⟩
  have h := hc3 he
  rw [decide_eq_true he]
  simp only [Bool.not_true, cond_false]
  refine .inr ⟨h, by first | rfl | trivial, ?_⟩
  refine bind_of (fun r => ridesGo n j.1 false [] = Sum.elim (fun l : List RideT => (l, (0 : Int))) (fun y => y) r) ?_ ?_
  · refine run_for j.1.length _ (fun i (s : List RideT × Bool × Int) => ∃ l w, s = (l, w, (i : Int)) ∧ l.length ≤ i ∧ (w = true → 0 < l.length) ∧ ridesGo n j.1 false [] = ridesGo n (j.1.drop i) w l) ?_ ?_ _ ⟨[], false, rfl, by simp, fun e => (nomatch e), rfl⟩
    · rintro i _ hi ⟨l, w, rfl, hl, hw, hgo⟩
      have hil : j.1.length ≤ 9223372036854775807 := by omega
      rw [List.drop_eq_getElem_cons hi] at hgo
      simp only [lt_dec hi, cond_true, idx_nat hi, Option.bind_some, wrap_succ hi hil]
      generalize j.1[i] = x at *
      rw [ridesGo_cons] at hgo
      cases hx1 : x.1 with
      | false =>
        rw [hx1] at hgo
        simp only [cond_false, Option.bind_some, Bool.not_false, cond_true]
        cases hs : stayB x with
        | true =>
          right
          rw [hs] at hgo
          unfold stayB at hs
          rw [hs]
          refine ⟨_, rfl, ?_⟩
          rw [hgo]; simp
        | false =>
          left
          rw [hs] at hgo
          unfold stayB at hs
          rw [hs]
          refine ⟨_, rfl, l, false, rfl, by omega, fun e => (nomatch e), ?_⟩
          rw [hgo]; simp
      | true =>
        rw [hx1] at hgo
        simp only [cond_true, Option.bind_some, Bool.not_true, cond_false, exists_val]
        cases hx : existsB n x with
        | false =>
          right
          rw [hx] at hgo
          refine ⟨_, rfl, ?_⟩
          rw [hgo]; simp
        | true =>
          rw [hx] at hgo
          simp only [Bool.not_true, cond_false]
          cases hs : stayB x with
          | false =>
            left
            rw [hs] at hgo
            have hs' := hs
            unfold stayB at hs'
            rw [hs']
            simp only [cond_false, Option.bind_some, rides1_new h hx hs' (show l.length ≤ 100 by omega)]
            refine ⟨_, rfl, l ++ [newRide n x], true, rfl, by simp; omega, fun _ => by simp, ?_⟩
            rw [hgo]; simp
          | true =>
            rw [hs] at hgo
            have hs' := hs
            unfold stayB at hs'
            rw [hs']
            simp only [cond_true]
            cases w with
            | false =>
              right
              refine ⟨_, rfl, ?_⟩
              rw [hgo]; simp
            | true =>
              left
              have hpos := hw rfl
              obtain ⟨v, hv⟩ : ∃ v, l[l.length - 1]? = some v := ⟨_, List.getElem?_eq_getElem (by omega)⟩
              simp only [Bool.not_true, Option.bind_some, cond_false, rides1_stay h hx hs' (show l.length ≤ 100 by omega) hpos hv]
              have ea : addLast n x l = addRide n x l v := by unfold addLast; rw [hv]
              refine ⟨_, rfl, addRide n x l v, true, rfl, by rw [← ea, addLast_len]; omega, fun _ => by rw [← ea, addLast_len]; exact hpos, ?_⟩
              rw [hgo, ← ea]; simp
    · rintro _ ⟨l, w, rfl, hl, hw, hgo⟩
      simp only [nlt_dec, cond_false]
      refine ⟨_, rfl, ?_⟩
      rw [hgo, List.drop_length]
      rfl
  · rintro r hr
    rw [hr]
    cases r <;> rfl
def plainL (x : LegT) : LegT := (x.1, x.2.1, x.2.2.1, x.2.2.2.1, x.2.2.2.2.1, x.2.2.2.2.2.1, x.2.2.2.2.2.2.1, x.2.2.2.2.2.2.2.1, false, ())
theorem plain_exists (n : NetT) (x : LegT) : existsB n (plainL x) = existsB n x := rfl
theorem plain_ride (n : NetT) (x : LegT) : newRide n (plainL x) = newRide n x := rfl
def headD (l : List RideT) : Option Int := (l[0]?).map fun v => v.1
def lastA (l : List RideT) : Option Int := (l[l.length - 1]?).map fun v => v.2.1
theorem lastA_app (l : List RideT) (v : RideT) : lastA (l ++ [v]) = some v.2.1 := by
  unfold lastA
  simp
theorem headD_app (l : List RideT) (v : RideT) : headD (l ++ [v]) = some ((headD l).getD v.1) := by
  unfold headD
  cases l with
  | nil => rfl
  | cons y l => simp
theorem addLast_last {n : NetT} {x : LegT} {out : List RideT} (h : 0 < out.length) : lastA (addLast n x out) = some x.2.2.2.2.2.2.2.1 ∧ headD (addLast n x out) = headD out := by
  obtain ⟨v, hv⟩ : ∃ v, out[out.length - 1]? = some v := ⟨_, List.getElem?_eq_getElem (by omega)⟩
  unfold addLast
  rw [hv]
  simp only
  unfold lastA headD addRide
  rw [List.length_set]
  constructor
  · rw [List.getElem?_set_self (by omega)]; rfl
  · by_cases h1 : out.length - 1 = 0
    · rw [h1] at hv ⊢
      rw [List.getElem?_set_self h, hv]; rfl
    · rw [List.getElem?_set_ne h1]
theorem stay_rel (n : NetT) : ∀ (L : List LegT) (rode rode' : Bool) (out out' : List RideT) (k : Nat) (l : List RideT), ridesGo n L rode out = (l, 0) → (rode = true → 0 < out.length) → out'.length = out.length + k → headD out' = headD out → lastA out' = lastA out →
    ∃ m, ridesGo n (L.map plainL) rode' out' = (m, 0) ∧ m.length = l.length + k + (L.filter stayB).length ∧ headD m = headD l ∧ lastA m = lastA l
  | [], rode, rode', out, out', k, l, h, _, h2, h3, h4 => by
    unfold ridesGo at h
    obtain ⟨rfl, _⟩ := Prod.mk.inj h
    exact ⟨out', rfl, by simpa using h2, h3, h4⟩
  | x :: L, rode, rode', out, out', k, l, h, h1, h2, h3, h4 => by
    unfold ridesGo at h
    rw [List.map_cons]
    unfold ridesGo
    rw [plain_exists]
    by_cases c1 : x.1 = true ∧ existsB n x = false
    · rw [if_pos c1] at h
      have := (Prod.mk.inj h).2
      omega
    rw [if_neg c1] at h
    rw [if_neg (show ¬ ((plainL x).1 = true ∧ existsB n x = false) from c1)]
    by_cases c2 : stayB x = true ∧ (x.1 = false ∨ rode = false)
    · rw [if_pos c2] at h
      have := (Prod.mk.inj h).2
      omega
    rw [if_neg c2] at h
    rw [if_neg (show ¬ (stayB (plainL x) = true ∧ ((plainL x).1 = false ∨ rode' = false)) from fun h => by have := h.1; exact absurd this (by unfold plainL stayB; simp))]
    by_cases c3 : x.1 = true
    · rw [if_pos c3] at h
      rw [if_pos (show (plainL x).1 = true from c3), if_neg (show ¬ stayB (plainL x) = true from fun h => absurd h (by unfold plainL stayB; simp)), plain_ride]
      cases hs : stayB x with
      | false =>
        rw [hs] at h
        rw [if_neg (by simp)] at h
        obtain ⟨m, g1, g2, g3, g4⟩ := stay_rel n L true true (out ++ [newRide n x]) (out' ++ [newRide n x]) k l h (fun _ => by simp) (by simp; omega) (by rw [headD_app, headD_app, h3]) (by rw [lastA_app, lastA_app])
        refine ⟨m, g1, ?_, g3, g4⟩
        rw [List.filter_cons_of_neg (by rw [hs]; simp)]
        exact g2
      | true =>
        rw [hs] at h
        rw [if_pos rfl] at h
        have hr : rode = true := by
          cases hr : rode with
          | true => rfl
          | false => exact absurd ⟨hs, .inr hr⟩ c2
        have hpos := h1 hr
        obtain ⟨a1, a2⟩ := addLast_last (n := n) (x := x) hpos
        have hh : ∃ d, headD out = some d := by
          unfold headD
          obtain ⟨v, hv⟩ : ∃ v, out[0]? = some v := ⟨_, List.getElem?_eq_getElem hpos⟩
          exact ⟨v.1, by rw [hv]; rfl⟩
        obtain ⟨d, hd⟩ := hh
        obtain ⟨m, g1, g2, g3, g4⟩ := stay_rel n L true true (addLast n x out) (out' ++ [newRide n x]) (k + 1) l h (fun _ => by rw [addLast_len]; exact hpos) (by rw [addLast_len]; simp; omega) (by rw [headD_app, a2, h3, hd]; rfl) (by rw [lastA_app, a1]; rfl)
        refine ⟨m, g1, ?_, g3, g4⟩
        rw [List.filter_cons_of_pos hs]
        simp only [List.length_cons]
        omega
    · rw [if_neg c3] at h
      rw [if_neg (show ¬ (plainL x).1 = true from c3)]
      have hs : stayB x = false := by
        cases hs : stayB x with
        | false => rfl
        | true => exact absurd ⟨hs, .inl (by simpa using c3)⟩ c2
      obtain ⟨m, g1, g2, g3, g4⟩ := stay_rel n L false false out out' k l h (fun e => (nomatch e)) h2 h3 h4
      refine ⟨m, g1, ?_, g3, g4⟩
      rw [List.filter_cons_of_neg (by rw [hs]; simp)]
      exact g2
end Q
namespace Dv
abbrev Tk := Int × Int × Int × Int × Unit
structure Law where
  n : Nat
  np : Nat
  cov : Nat → Nat → Nat → Bool
  pr : Nat → Nat → Int
abbrev Cell := Option (Int × List Tk)
def better (cur : Cell) (s : Int) (c : Nat) : Bool := match cur with
  | none => true
  | some (cs, ct) => decide (s < cs) || (decide (s = cs) && decide (c < ct.length))
def cand (L : Law) (nx : Cell) (i k p : Nat) (cur : Cell) : Cell := match nx with
  | none => cur
  | some (s, t) => if L.cov p i k = true then (if better cur (L.pr p i + s) (1 + t.length) = true then some (L.pr p i + s, ((p : Int), (i : Int), (k : Int), L.pr p i, ()) :: t) else cur) else cur
def rowP (L : Law) (nx : Cell) (i k : Nat) (cur : Cell) : Nat → Cell
  | 0 => cur
  | m + 1 => cand L nx i k m (rowP L nx i k cur m)
def rowK (L : Law) (B : Nat → Cell) (i : Nat) : Nat → Cell
  | 0 => none
  | m + 1 => rowP L (B (i + m + 1)) i (i + m) (rowK L B i m) L.np
def tab (L : Law) : Nat → Nat → Cell
  | 0, j => if j = L.n then some (0, []) else none
  | d + 1, j => if j = L.n - (d + 1) then rowK L (tab L d) j (L.n - j) else tab L d j
inductive Div (L : Law) : Nat → Int → Prop
  | nil : Div L L.n 0
  | cons {i k p : Nat} {s : Int} (hik : i ≤ k) (hk : k < L.n) (hp : p < L.np) (hc : L.cov p i k = true) (h : Div L (k + 1) s) : Div L i (L.pr p i + s)
def Best (c : Cell) (S : Int → Prop) : Prop := match c with
  | none => ∀ s, ¬ S s
  | some (s, _) => S s ∧ ∀ s', S s' → s ≤ s'
theorem cand_best {L : Law} {nx cur : Cell} {i k p : Nat} {S N : Int → Prop} (hc : Best cur S) (hn : Best nx N) : Best (cand L nx i k p cur) fun s => S s ∨ (L.cov p i k = true ∧ ∃ s', N s' ∧ s = L.pr p i + s') := by
  unfold cand
  cases nx with
  | none =>
    have : (fun s => S s ∨ (L.cov p i k = true ∧ ∃ s', N s' ∧ s = L.pr p i + s')) = S := by
      funext s
      refine propext ⟨fun h => ?_, .inl⟩
      rcases h with h | ⟨_, s', h, _⟩
      · exact h
      · exact absurd h (hn s')
    rw [this]; exact hc
  | some x =>
    obtain ⟨s, t⟩ := x
    obtain ⟨n1, n2⟩ := hn
    simp only
    by_cases hcov : L.cov p i k = true
    · rw [if_pos hcov]
      by_cases hb : better cur (L.pr p i + s) (1 + t.length) = true
      · rw [if_pos hb]
        refine ⟨.inr ⟨hcov, s, n1, rfl⟩, fun s' hs' => ?_⟩
        rcases hs' with hs' | ⟨_, s2, h2, rfl⟩
        · cases cur with
          | none => exact absurd hs' (hc s')
          | some y =>
            obtain ⟨cs, ct⟩ := y
            have := hc.2 s' hs'
            simp only [better, Bool.or_eq_true, Bool.and_eq_true, decide_eq_true_eq] at hb
            rcases hb with hb | hb <;> omega
        · have := n2 s2 h2; omega
      · rw [if_neg hb]
        cases cur with
        | none => exact absurd rfl hb
        | some y =>
          obtain ⟨cs, ct⟩ := y
          refine ⟨.inl hc.1, fun s' hs' => ?_⟩
          rcases hs' with hs' | ⟨_, s2, h2, rfl⟩
          · exact hc.2 s' hs'
          · have := n2 s2 h2
            simp only [better, Bool.or_eq_true, Bool.and_eq_true, decide_eq_true_eq] at hb
            have : ¬ (L.pr p i + s < cs) := fun h => hb (.inl h)
            omega
    · rw [if_neg hcov]
      have : (fun s' => S s' ∨ (L.cov p i k = true ∧ ∃ s2, N s2 ∧ s' = L.pr p i + s2)) = S := by
        funext s'
        refine propext ⟨fun h => ?_, .inl⟩
        rcases h with h | ⟨h, _⟩
        · exact h
        · exact absurd h hcov
      rw [this]; exact hc
theorem rowP_best {L : Law} {nx cur : Cell} {i k : Nat} {S N : Int → Prop} (hc : Best cur S) (hn : Best nx N) : ∀ m, Best (rowP L nx i k cur m) fun s => S s ∨ ∃ p, p < m ∧ L.cov p i k = true ∧ ∃ s', N s' ∧ s = L.pr p i + s'
  | 0 => by
    have : (fun s => S s ∨ ∃ p, p < 0 ∧ L.cov p i k = true ∧ ∃ s', N s' ∧ s = L.pr p i + s') = S := by
      funext s
      refine propext ⟨fun h => ?_, .inl⟩
      rcases h with h | ⟨p, h, _⟩
      · exact h
      · omega
    rw [this]; exact hc
  | m + 1 => by
    have h := cand_best (p := m) (i := i) (k := k) (L := L) (rowP_best (i := i) (k := k) (L := L) hc hn m) hn
    have e : (fun s => (S s ∨ ∃ p, p < m ∧ L.cov p i k = true ∧ ∃ s', N s' ∧ s = L.pr p i + s') ∨ (L.cov m i k = true ∧ ∃ s', N s' ∧ s = L.pr m i + s')) = fun s => S s ∨ ∃ p, p < m + 1 ∧ L.cov p i k = true ∧ ∃ s', N s' ∧ s = L.pr p i + s' := by
      funext s
      refine propext ⟨fun h => ?_, fun h => ?_⟩
      · rcases h with (h | ⟨p, h1, h2⟩) | h
        · exact .inl h
        · exact .inr ⟨p, by omega, h2⟩
        · exact .inr ⟨m, by omega, h⟩
      · rcases h with h | ⟨p, h1, h2⟩
        · exact .inl (.inl h)
        · by_cases hp : p = m
          · subst hp; exact .inr h2
          · exact .inl (.inr ⟨p, by omega, h2⟩)
    rw [e] at h
    exact h
theorem rowK_best {L : Law} {B : Nat → Cell} {i : Nat} {N : Nat → Int → Prop} : ∀ m, (∀ j, i < j → j ≤ i + m → Best (B j) (N j)) → Best (rowK L B i m) fun s => ∃ k, i ≤ k ∧ k < i + m ∧ ∃ p, p < L.np ∧ L.cov p i k = true ∧ ∃ s', N (k + 1) s' ∧ s = L.pr p i + s'
  | 0, _ => by
    intro s h
    obtain ⟨k, h1, h2, _⟩ := h
    omega
  | m + 1, hB => by
    have h := rowP_best (L := L) (i := i) (k := i + m) (rowK_best (L := L) (B := B) (i := i) (N := N) m fun j h1 h2 => hB j h1 (by omega)) (hB (i + m + 1) (by omega) (by omega)) L.np
    have e : (fun s => (∃ k, i ≤ k ∧ k < i + m ∧ ∃ p, p < L.np ∧ L.cov p i k = true ∧ ∃ s', N (k + 1) s' ∧ s = L.pr p i + s') ∨ ∃ p, p < L.np ∧ L.cov p i (i + m) = true ∧ ∃ s', N (i + m + 1) s' ∧ s = L.pr p i + s') = fun s => ∃ k, i ≤ k ∧ k < i + (m + 1) ∧ ∃ p, p < L.np ∧ L.cov p i k = true ∧ ∃ s', N (k + 1) s' ∧ s = L.pr p i + s' := by
      funext s
      refine propext ⟨fun h => ?_, fun h => ?_⟩
      · rcases h with ⟨k, h1, h2, h3⟩ | h
        · exact ⟨k, h1, by omega, h3⟩
        · exact ⟨i + m, by omega, by omega, h⟩
      · obtain ⟨k, h1, h2, h3⟩ := h
        by_cases hk : k = i + m
        · subst hk; exact .inr h3
        · exact .inl ⟨k, h1, by omega, h3⟩
    rw [e] at h
    exact h
theorem div_end {L : Law} {s : Int} (h : Div L L.n s) : s = 0 := by
  generalize hi : L.n = i at h
  cases h with
  | nil => rfl
  | cons h1 h2 _ _ _ => omega
theorem div_iff {L : Law} {i : Nat} (hi : i < L.n) {s : Int} : Div L i s ↔ ∃ k, i ≤ k ∧ k < i + (L.n - i) ∧ ∃ p, p < L.np ∧ L.cov p i k = true ∧ ∃ s', Div L (k + 1) s' ∧ s = L.pr p i + s' := by
  constructor
  · intro h
    cases h with
    | nil => omega
    | cons h1 h2 h3 h4 h5 => exact ⟨_, h1, by omega, _, h3, h4, _, h5, rfl⟩
  · rintro ⟨k, h1, h2, p, h3, h4, s', h5, rfl⟩
    exact .cons h1 (by omega) h3 h4 h5
theorem tab_best (L : Law) : ∀ d, d ≤ L.n → ∀ j, L.n - d ≤ j → j ≤ L.n → Best (tab L d j) (Div L j)
  | 0, _, j, h1, h2 => by
    have : j = L.n := by omega
    subst this
    rw [tab, if_pos rfl]
    exact ⟨.nil, fun s' h => by have := div_end h; omega⟩
  | d + 1, hd, j, h1, h2 => by
    rw [tab]
    by_cases hj : j = L.n - (d + 1)
    · rw [if_pos hj]
      have h := rowK_best (L := L) (B := tab L d) (i := j) (N := Div L) (L.n - j) fun j' h3 h4 => tab_best L d (by omega) j' (by omega) (by omega)
      have e : (fun s => ∃ k, j ≤ k ∧ k < j + (L.n - j) ∧ ∃ p, p < L.np ∧ L.cov p j k = true ∧ ∃ s', Div L (k + 1) s' ∧ s = L.pr p j + s') = Div L j := by
        funext s
        exact propext (div_iff (by omega)).symm
      rw [e] at h
      exact h
    · rw [if_neg hj]
      exact tab_best L d (by omega) j (by omega) h2
def Chain (B : Nat → Cell) (n i : Nat) (c : Cell) : Prop := ∀ s t, c = some (s, t) → ∃ p k q s' t', t = ((p : Int), (i : Int), ((k : Nat) : Int), (q : Int), ()) :: t' ∧ i ≤ k ∧ k < n ∧ B (k + 1) = some (s', t')
theorem cand_chain {L : Law} {B : Nat → Cell} {n i k p : Nat} {cur : Cell} (hik : i ≤ k) (hk : k < n) (h : Chain B n i cur) : Chain B n i (cand L (B (k + 1)) i k p cur) := by
  unfold cand
  cases hn : B (k + 1) with
  | none => exact h
  | some x =>
    obtain ⟨s, t⟩ := x
    simp only
    split
    · split
      · intro s2 t2 he
        simp only [Option.some.injEq, Prod.mk.injEq] at he
        obtain ⟨rfl, rfl⟩ := he
        exact ⟨p, k, _, s, t, rfl, hik, hk, hn⟩
      · exact h
    · exact h
theorem rowP_chain {L : Law} {B : Nat → Cell} {n i k : Nat} {cur : Cell} (hik : i ≤ k) (hk : k < n) (h : Chain B n i cur) : ∀ m, Chain B n i (rowP L (B (k + 1)) i k cur m)
  | 0 => h
  | m + 1 => cand_chain hik hk (rowP_chain hik hk h m)
theorem rowK_chain {L : Law} {B : Nat → Cell} {n i : Nat} : ∀ m, i + m ≤ n → Chain B n i (rowK L B i m)
  | 0, _ => fun s t h => by simp [rowK] at h
  | m + 1, h => rowP_chain (by omega) (by omega) (rowK_chain m (by omega)) L.np
theorem tab_stay (L : Law) : ∀ d e j, L.n - d ≤ j → d ≤ e → e ≤ L.n → tab L e j = tab L d j
  | d, e, j, h1, h2, h3 => by
    induction e with
    | zero => have : d = 0 := by omega
              rw [this]
    | succ e ih =>
      by_cases hd : d = e + 1
      · rw [hd]
      · rw [tab, if_neg (by omega)]
        exact ih (by omega) (by omega)
theorem tab_chain (L : Law) {j : Nat} (hj : j < L.n) : Chain (tab L L.n) L.n j (tab L L.n j) := by
  have e1 : tab L L.n j = rowK L (tab L (L.n - j - 1)) j (L.n - j) := by
    rw [tab_stay L (L.n - j) L.n j (by omega) (by omega) (Nat.le_refl _)]
    obtain ⟨d, hd⟩ : ∃ d, L.n - j = d + 1 := ⟨L.n - j - 1, by omega⟩
    rw [show L.n - j - 1 = d by omega, hd, tab, if_pos (by omega), hd]
  have h := rowK_chain (L := L) (B := tab L (L.n - j - 1)) (n := L.n) (i := j) (L.n - j) (by omega)
  rw [e1]
  intro s t he
  obtain ⟨p, k, q, s', t', h1, h2, h3, h4⟩ := h s t he
  exact ⟨p, k, q, s', t', h1, h2, h3, by rw [tab_stay L (L.n - j - 1) L.n (k + 1) (by omega) (by omega) (Nat.le_refl _)]; exact h4⟩
theorem div_tail {A B C : Law} (hn : C.n = A.n + B.n) (hp : C.np = B.np)
    (cb : ∀ p i k, i ≤ k → k < B.n → B.cov p i k = true → C.cov p (A.n + i) (A.n + k) = true) (pb : ∀ p i, p < B.np → i < B.n → C.pr p (A.n + i) ≤ B.pr p i) {i : Nat} {s : Int} (h : Div B i s) : ∃ c, c ≤ s ∧ Div C (A.n + i) c := by
  induction h with
  | nil => exact ⟨0, Int.le_refl _, by rw [← hn]; exact .nil⟩
  | @cons i k p s hik hk hpp hc h ih =>
    obtain ⟨c, h1, h2⟩ := ih
    refine ⟨C.pr p (A.n + i) + c, by have := pb p i hpp (by omega); omega, .cons (k := A.n + k) (by omega) (by omega) (by omega) (cb p i k hik hk hc) ?_⟩
    rw [show A.n + k + 1 = A.n + (k + 1) by omega]
    exact h2
theorem div_cat {A B C : Law} (hn : C.n = A.n + B.n) (hpa : C.np = A.np) (hpb : C.np = B.np) (ca : ∀ p i k, i ≤ k → k < A.n → A.cov p i k = true → C.cov p i k = true)
    (cb : ∀ p i k, i ≤ k → k < B.n → B.cov p i k = true → C.cov p (A.n + i) (A.n + k) = true) (pa : ∀ p i, p < A.np → i < A.n → C.pr p i ≤ A.pr p i) (pb : ∀ p i, p < B.np → i < B.n → C.pr p (A.n + i) ≤ B.pr p i)
    {a b : Int} (ha : Div A 0 a) (hb : Div B 0 b) : ∃ c, c ≤ a + b ∧ Div C 0 c := by
  have key : ∀ {i : Nat} {s : Int}, Div A i s → ∃ c, c ≤ s + b ∧ Div C i c := by
    intro i s h
    induction h with
    | nil =>
      obtain ⟨c, h1, h2⟩ := div_tail hn hpb cb pb hb
      exact ⟨c, by omega, by simpa using h2⟩
    | @cons i k p s hik hk hpp hc h ih =>
      obtain ⟨c, h1, h2⟩ := ih
      exact ⟨C.pr p i + c, by have := pa p i hpp (by omega); omega, .cons hik (by omega) (by omega) (ca p i k hik hk hc) h2⟩
  exact key ha
theorem div_nonneg {L : Law} (h : ∀ p i, p < L.np → 0 ≤ L.pr p i) {i : Nat} {s : Int} (k : Div L i s) : 0 ≤ s := by
  induction k with
  | nil => exact Int.le_refl _
  | @cons i k p s _ _ hp _ _ ih => have := h p i hp; omega
end Dv
namespace Q
open Tr Go Dv
abbrev RestT := Bool × Int × Int × Tk × Unit
theorem qor_u64 (a b : Int) : 0 ≤ Tr.qor .u64 a b ∧ Tr.qor .u64 a b < 18446744073709551616 := by
  have hw : ∀ x : Int, 0 ≤ IntKind.wrap .u64 x ∧ IntKind.wrap .u64 x < 18446744073709551616 := fun x => by
    simp [IntKind.wrap, IntKind.bits, IntKind.signed]
    omega
  unfold Tr.qor
  exact hw _
theorem later_some (a b d : Int) : ∃ z : Bool, F_product_later a b d = some z := by
  unfold F_product_later
  by_cases h : a ≤ b
  · rw [decide_eq_true h]
    by_cases h2 : d < 0
    · rw [decide_eq_true h2]; exact ⟨_, rfl⟩
    · rw [decide_eq_false h2]; exact ⟨_, rfl⟩
  · rw [decide_eq_false h]
    by_cases h2 : d < 0
    · rw [decide_eq_true h2]; exact ⟨_, rfl⟩
    · rw [decide_eq_false h2]; exact ⟨_, rfl⟩
theorem covers_some (p : ProdT) (s : List RideT) (hs : s.length ≤ 100) : ∃ z : Bool, F_product_Covers p s = some z ∧ (s = [] → z = false) := by
  unfold F_product_Covers
  by_cases h0 : s = []
  · subst h0
    exact ⟨false, rfl, fun _ => rfl⟩
  · have hp : 0 < s.length := List.length_pos_iff.2 h0
    rw [decide_eq_false (show ¬ (s.length : Int) = 0 by omega)]
    have el : IntKind.wrap .i64 ((s.length : Int) - 1) = ((s.length - 1 : Nat) : Int) := by rw [wrap_i64 (by omega) (by omega)]; omega
    have i0 : Tr.idx s (0 : Int) = some s[0] := idx_nat (i := 0) hp
    obtain ⟨lt, hlt⟩ := later_some (s[0]).1 (s[s.length - 1]).1 p.2.2.2.2.1
    simp only [cond_false, el, idx_nat (show s.length - 1 < s.length by omega), i0, Option.bind_some, hlt]
    have hb : ∃ c : Bool, (bif decide (p.2.2.1 < (s.length : Int)) then some true else some lt) = some c := by
      cases decide (p.2.2.1 < (s.length : Int)) <;> exact ⟨_, rfl⟩
    obtain ⟨c, hc⟩ := hb
    rw [hc]
    simp only [Option.bind_some]
    cases c with
    | true => exact ⟨false, rfl, fun _ => rfl⟩
    | false =>
      simp only [cond_false]
      have key : ∀ (o : Option (Int × Int)) (k : Int × Int → Option Bool), (∃ r, o = some r ∧ (0 ≤ r.1 ∧ r.1 < 18446744073709551616)) → (∀ r : Int × Int, 0 ≤ r.1 → r.1 < 18446744073709551616 → ∃ z, k r = some z) → ∃ z : Bool, Option.bind o k = some z ∧ (s = [] → z = false) := by
        rintro o k ⟨r, rfl, h1, h2⟩ hk
        obtain ⟨z, hz⟩ := hk r h1 h2
        exact ⟨z, hz, fun e => absurd e h0⟩
      refine key _ _ ?_ ?_
      · refine run_for s.length _ (fun i (t : Int × Int × Int) => ∃ x y, t = (x, y, (i : Int)) ∧ 0 ≤ x ∧ x < 18446744073709551616) ?_ ?_ _ ⟨0, 0, rfl, by omega, by omega⟩
        · rintro i _ hi ⟨x, y, rfl, hx1, hx2⟩
          left
          simp only [lt_dec hi, cond_true, idx_nat hi, Option.bind_some, wrap_succ hi (show s.length ≤ 9223372036854775807 by omega), F_product_Covers_1, F_bitset_Set_Union]
          exact ⟨_, rfl, _, _, rfl, (qor_u64 _ _).1, (qor_u64 _ _).2⟩
        · rintro _ ⟨x, y, rfl, hx1, hx2⟩
          simp only [nlt_dec, cond_false]
          exact ⟨_, rfl, hx1, hx2⟩
      · intro r h1 h2
        have hl : F_bitset_Set_Len r.1 = some ((popF 64 r.1.toNat : Nat) : Int) := by
          show lenF r.1 = _
          unfold lenF
          rw [decide_eq_true ⟨h1, h2⟩]; rfl
        simp only [hl, Option.bind_some, F_bitset_Set_Within]
        cases decide (((popF 64 r.1.toNat : Nat) : Int) ≤ p.2.2.2.1) <;> exact ⟨_, rfl⟩
noncomputable def covB (p : ProdT) (s : List RideT) : Bool := (F_product_Covers p s).getD false
theorem covers_val (p : ProdT) (s : List RideT) (hs : s.length ≤ 100) : F_product_Covers p s = some (covB p s) := by
  obtain ⟨z, h, _⟩ := covers_some p s hs
  unfold covB
  rw [h]; rfl
theorem cov_nil (p : ProdT) : covB p [] = false := rfl
def wthB (a b d : Int) : Bool := bif decide (b ≤ a) then true else decide (IntKind.wrap .u64 (IntKind.wrap .u64 b - IntKind.wrap .u64 a) ≤ IntKind.wrap .u64 d)
theorem within_val2 (a b d : Int) : F_fare_within a b d = some (wthB a b d) := by
  unfold F_fare_within wthB
  cases decide (b ≤ a) <;> rfl
def rd0 : RideT := (0, 0, 0, 0, ())
def prI (F : FaresT) (p : ProdT) (l : List RideT) (i : Nat) : Int :=
  if 0 < i ∧ wthB ((l[i - 1]?).getD rd0).2.1 ((l[i]?).getD rd0).1 F.2.2.1 = true then (if 0 < p.2.1 - F.2.1 then p.2.1 - F.2.1 else 0) else p.2.1
theorem price_val (F : FaresT) (p : ProdT) (l : List RideT) (i : Nat) (hi : i < l.length) (hl : l.length ≤ 100) (h1 : 0 ≤ p.2.1 ∧ p.2.1 ≤ 1000000) (h2 : 0 ≤ F.2.1 ∧ F.2.1 ≤ 1000000) : F_fare_ticketPrice F p l (i : Int) = some (prI F p l i) := by
  unfold F_fare_ticketPrice prI
  have ew : IntKind.wrap .i64 (p.2.1 - F.2.1) = p.2.1 - F.2.1 := wrap_i64 (by omega) (by omega)
  have em : Tr.imax 0 (p.2.1 - F.2.1) = if 0 < p.2.1 - F.2.1 then p.2.1 - F.2.1 else 0 := rfl
  by_cases h0 : 0 < i
  · have e1 : IntKind.wrap .i64 ((i : Int) - 1) = ((i - 1 : Nat) : Int) := by rw [wrap_i64 (by omega) (by omega)]; omega
    rw [decide_eq_true (show (0 : Int) < (i : Int) by omega)]
    simp only [cond_true, e1, idx_nat (show i - 1 < l.length by omega), idx_nat hi, Option.bind_some, within_val2]
    rw [getD_of (show i - 1 < l.length by omega), getD_of hi, ew, em]
    cases hb : wthB (l[i - 1]).2.1 (l[i]).1 F.2.2.1 with
    | true => simp [h0]
    | false => simp
  · rw [decide_eq_false (show ¬ (0 : Int) < (i : Int) by omega), if_neg (fun h => h0 h.1)]
    rfl
structure FareOk (F : FaresT) : Prop where
  disc : 0 ≤ F.2.1 ∧ F.2.1 ≤ 1000000
  cap : 0 ≤ F.2.2.2.1
  price : ∀ p ∈ F.1, 0 ≤ p.2.1 ∧ p.2.1 ≤ 1000000
  many : F.1.length ≤ 16
theorem fare_ok {F : FaresT} (h : (fareR F).2 = 0) : FareOk F := by
  unfold fareR at h
  by_cases hh : headB F = false
  · rw [if_pos hh] at h; exact absurd h (by decide)
  rw [if_neg hh] at h
  by_cases h16 : 16 < F.1.length
  · rw [if_pos h16] at h; exact absurd h (by decide)
  rw [if_neg h16] at h
  have hz := pick_zero h
  have hh : headB F = true := by simpa using hh
  unfold headB at hh
  simp only [Bool.and_eq_true, decide_eq_true_eq] at hh
  refine ⟨hh.1, hh.2.2.1, fun p hp => ?_, by omega⟩
  obtain ⟨i, hi, rfl⟩ := List.getElem_of_mem hp
  have h1 := hz i hi
  unfold prodF at h1
  rw [getD_of hi] at h1
  obtain ⟨_, _, h3⟩ := fault_zero.1 h1
  have h3 : numsB F.1[i] = true := by simpa using h3
  unfold numsB at h3
  simp only [Bool.and_eq_true, decide_eq_true_eq] at h3
  exact h3.1
noncomputable def lawOf (F : FaresT) (l : List RideT) : Law where
  n := l.length
  np := F.1.length
  cov := fun p i k => covB ((F.1[p]?).getD p0) ((l.drop i).take (k + 1 - i))
  pr := fun p i => prI F ((F.1[p]?).getD p0) l i
theorem pr_bound {F : FaresT} (hF : FareOk F) {l : List RideT} {p i : Nat} (hp : p < (lawOf F l).np) : 0 ≤ (lawOf F l).pr p i ∧ (lawOf F l).pr p i ≤ 1000000 := by
  have h := hF.price _ (List.getElem_mem (show p < F.1.length from hp))
  have hd := hF.disc
  show 0 ≤ prI F ((F.1[p]?).getD p0) l i ∧ prI F ((F.1[p]?).getD p0) l i ≤ 1000000
  rw [getD_of (show p < F.1.length from hp)]
  unfold prI
  split
  · split
    · omega
    · omega
  · exact h
def Bd (n : Nat) (f : Nat → Cell) : Prop := ∀ j s t, j ≤ n → f j = some (s, t) → 0 ≤ s ∧ s ≤ 1000000 * ((n : Int) - (j : Int)) ∧ t.length ≤ n - j
def RelC (c : Cell) (r : RestT) : Prop := match c with
  | none => r.1 = false
  | some (s, t) => r.1 = true ∧ r.2.1 = s ∧ r.2.2.1 = (t.length : Int) ∧ ∀ x t', t = x :: t' → r.2.2.2.1 = x
def RelT (f : Nat → Cell) (T : List RestT) : Prop := T.length = 9 ∧ ∀ j, j ≤ 8 → ∃ r, T[j]? = some r ∧ RelC (f j) r
theorem RelT.congr {f g : Nat → Cell} {T : List RestT} (h : RelT f T) (e : ∀ j, j ≤ 8 → g j = f j) : RelT g T :=
  ⟨h.1, fun j hj => by rw [e j hj]; exact h.2 j hj⟩
def upd1 (f : Nat → Cell) (i : Nat) (c : Cell) : Nat → Cell := fun j => if j = i then c else f j
theorem RelT.set {f : Nat → Cell} {T : List RestT} (h : RelT f T) {i : Nat} (hi : i ≤ 8) {c : Cell} {r : RestT} (hr : RelC c r) : RelT (upd1 f i c) (T.set i r) := by
  refine ⟨by rw [List.length_set]; exact h.1, fun j hj => ?_⟩
  unfold upd1
  by_cases hji : j = i
  · subst hji
    rw [if_pos rfl, List.getElem?_set_self (by rw [h.1]; omega)]
    exact ⟨r, rfl, hr⟩
  · rw [if_neg hji, List.getElem?_set_ne (Ne.symm hji)]
    exact h.2 j hj
theorem RelC.ok {s : Int} {t : List Tk} {r : RestT} (h : RelC (some (s, t)) r) : r.1 = true ∧ r.2.1 = s ∧ r.2.2.1 = (t.length : Int) ∧ ∀ x t', t = x :: t' → r.2.2.2.1 = x := h
theorem better_val {cur : Cell} {r : RestT} (h : RelC cur r) (s : Int) (c : Nat) : F_fare_rest_better r s (c : Int) = some (better cur s c) := by
  cases cur with
  | none =>
    unfold F_fare_rest_better
    rw [show r.1 = false from h]; rfl
  | some x =>
    obtain ⟨cs, ct⟩ := x
    obtain ⟨h1, h2, h3, _⟩ := RelC.ok h
    unfold F_fare_rest_better
    rw [h1, h2, h3]
    have e : decide ((c : Int) < (ct.length : Int)) = decide (c < ct.length) := decide_eq_decide.2 (by omega)
    rw [e]
    show _ = some (decide (s < cs) || (decide (s = cs) && decide (c < ct.length)))
    generalize decide (s < cs) = b1
    generalize decide (s = cs) = b2
    generalize decide (c < ct.length) = b3
    cases b1 <;> cases b2 <;> cases b3 <;> rfl
theorem try_val {F : FaresT} (hF : FareOk F) {l : List RideT} (hl : l.length ≤ 8) {f : Nat → Cell} {T : List RestT} (hT : RelT f T) (hB : Bd l.length f) {i k p : Nat} (hik : i ≤ k) (hk : k < l.length) (hp : p < F.1.length) {s : Int} {t : List Tk} (hn : f (k + 1) = some (s, t)) :
    ∃ T', F_fare_divide_1 (i : Int) (k : Int) (p : Int) F l T = some T' ∧ RelT (upd1 f i (cand (lawOf F l) (f (k + 1)) i k p (f i))) T' := by
  unfold F_fare_divide_1
  have hprice := hF.price _ (List.getElem_mem hp)
  obtain ⟨b1, b2, b3⟩ := hB (k + 1) s t (by omega) hn
  have e1 : IntKind.wrap .i64 ((k : Int) + 1) = ((k + 1 : Nat) : Int) := by rw [wrap_i64 (by omega) (by omega)]; omega
  have hs : Tr.sliceB l.length l.length (some (i : Int)) (some ((k + 1 : Nat) : Int)) = some (i, k + 1) := by
    unfold Tr.sliceB
    simp only
    rw [if_pos ⟨by omega, by omega⟩]
    simp only [Option.bind_some]
    rw [if_pos ⟨by omega, by omega⟩]
    rfl
  have hsl : ((l.drop i).take (k + 1 - i)).length ≤ 100 := by rw [List.length_take, List.length_drop]; omega
  obtain ⟨rk, hrk, hck⟩ := hT.2 (k + 1) (by omega)
  obtain ⟨ri, hri, hci⟩ := hT.2 i (by omega)
  rw [hn] at hck
  obtain ⟨c1, c2, c3, c4⟩ := RelC.ok hck
  have hb9 : Tr.inb ((k + 1 : Nat) : Int) 9 = some (k + 1) := inb_nat (by omega)
  have hi9 : Tr.inb (i : Int) 9 = some i := inb_nat (by omega)
  have hpr : F_fare_ticketPrice F F.1[p] l (i : Int) = some ((lawOf F l).pr p i) := by
    rw [price_val F F.1[p] l i (by omega) (by omega) hprice hF.disc]
    show _ = some (prI F ((F.1[p]?).getD p0) l i)
    rw [getD_of hp]
  have hpb := pr_bound hF (l := l) (i := i) (show p < (lawOf F l).np from hp)
  have hcv : covB F.1[p] ((l.drop i).take (k + 1 - i)) = (lawOf F l).cov p i k := by
    show _ = covB ((F.1[p]?).getD p0) ((l.drop i).take (k + 1 - i))
    rw [getD_of hp]
  have w1 : IntKind.wrap .i64 ((lawOf F l).pr p i + s) = (lawOf F l).pr p i + s := wrap_i64 (by omega) (by omega)
  have w2 : IntKind.wrap .i64 ((t.length : Int) + 1) = ((1 + t.length : Nat) : Int) := by rw [wrap_i64 (by omega) (by omega)]; omega
  simp only [idx_nat hp, Option.bind_some, e1, hs, covers_val F.1[p] _ hsl, hcv, hpr, hb9, hi9, hrk, hri, c2, c3, w1, w2]
  rw [hn]
  unfold cand
  simp only
  cases hcov : (lawOf F l).cov p i k with
  | false =>
    refine ⟨T, rfl, hT.congr fun j hj => ?_⟩
    unfold upd1
    by_cases hj : j = i
    · subst hj; rw [if_pos rfl]; simp
    · rw [if_neg hj]
  | true =>
    simp only [Bool.not_true, cond_false, better_val hci, Option.bind_some, if_true]
    cases hbt : better (f i) ((lawOf F l).pr p i + s) (1 + t.length) with
    | false =>
      refine ⟨T, rfl, hT.congr fun j hj => ?_⟩
      unfold upd1
      by_cases hj : j = i
      · subst hj; rw [if_pos rfl]; simp
      · rw [if_neg hj]
    | true =>
      refine ⟨_, rfl, hT.set (by omega) ⟨rfl, rfl, ?_, fun x t' e => ?_⟩⟩
      · show ((1 + t.length : Nat) : Int) = ((_ :: t).length : Int)
        rw [List.length_cons]; omega
      · obtain ⟨rfl, _⟩ := List.cons.inj e
        rfl
end Q
namespace Q
open Tr Go Dv
def BdC (n i : Nat) (c : Cell) : Prop := ∀ s t, c = some (s, t) → 0 ≤ s ∧ s ≤ 1000000 * ((n : Int) - (i : Int)) ∧ t.length ≤ n - i
theorem cand_bd {L : Law} {n i k p : Nat} {nx cur : Cell} (hpr : 0 ≤ L.pr p i ∧ L.pr p i ≤ 1000000) (hik : i ≤ k) (hk : k < n) (hn : BdC n (k + 1) nx) (hc : BdC n i cur) : BdC n i (cand L nx i k p cur) := by
  unfold cand
  cases nx with
  | none => exact hc
  | some x =>
    obtain ⟨s, t⟩ := x
    obtain ⟨h1, h2, h3⟩ := hn s t rfl
    simp only
    split
    · split
      · intro s' t' e
        simp only [Option.some.injEq, Prod.mk.injEq] at e
        obtain ⟨rfl, rfl⟩ := e
        refine ⟨by omega, by omega, ?_⟩
        rw [List.length_cons]; omega
      · exact hc
    · exact hc
theorem rowP_bd {L : Law} {n i k : Nat} {nx cur : Cell} (hpr : ∀ p, p < L.np → 0 ≤ L.pr p i ∧ L.pr p i ≤ 1000000) (hik : i ≤ k) (hk : k < n) (hn : BdC n (k + 1) nx) (hc : BdC n i cur) : ∀ m, m ≤ L.np → BdC n i (rowP L nx i k cur m)
  | 0, _ => hc
  | m + 1, h => cand_bd (hpr m (by omega)) hik hk hn (rowP_bd hpr hik hk hn hc m (by omega))
theorem rowK_bd {L : Law} {n i : Nat} {B : Nat → Cell} (hpr : ∀ p, p < L.np → 0 ≤ L.pr p i ∧ L.pr p i ≤ 1000000) (hB : ∀ j, BdC n j (B j)) : ∀ m, i + m ≤ n → BdC n i (rowK L B i m)
  | 0, _ => fun s t h => by simp [Dv.rowK] at h
  | m + 1, h => rowP_bd hpr (by omega) (by omega) (hB (i + m + 1)) (rowK_bd hpr hB m (by omega)) L.np (Nat.le_refl _)
theorem tab_bd {L : Law} (hpr : ∀ p i, p < L.np → 0 ≤ L.pr p i ∧ L.pr p i ≤ 1000000) : ∀ d, d ≤ L.n → ∀ j, BdC L.n j (tab L d j)
  | 0, _, j => by
    intro s t h
    rw [tab] at h
    split at h
    · next hj =>
      subst hj
      simp only [Option.some.injEq, Prod.mk.injEq] at h
      obtain ⟨rfl, rfl⟩ := h
      exact ⟨by omega, by omega, Nat.zero_le _⟩
    · cases h
  | d + 1, hd, j => by
    rw [tab]
    split
    · next hj => exact rowK_bd (fun p hp => hpr p j hp) (tab_bd hpr d (by omega)) _ (by omega)
    · exact tab_bd hpr d (by omega) j
theorem tab_none (L : Law) : ∀ d, d ≤ L.n → ∀ j, j < L.n - d → tab L d j = none
  | 0, _, j, h => by rw [tab, if_neg (by omega)]
  | d + 1, hd, j, h => by rw [tab, if_neg (by omega)]; exact tab_none L d (by omega) j (by omega)
theorem upd1_upd1 (f : Nat → Cell) (i : Nat) (c c' : Cell) : upd1 (upd1 f i c) i c' = upd1 f i c' := by
  funext j
  unfold upd1
  by_cases h : j = i
  · rw [if_pos h, if_pos h]
  · rw [if_neg h, if_neg h, if_neg h]
theorem upd1_same (f : Nat → Cell) (i : Nat) (c : Cell) : upd1 f i c i = c := if_pos rfl
theorem upd1_ne (f : Nat → Cell) {i j : Nat} (c : Cell) (h : j ≠ i) : upd1 f i c j = f j := if_neg h
def rz : RestT := (false, 0, 0, (0, 0, 0, 0, ()), ())
theorem divide_val {F : FaresT} (hF : FareOk F) {l : List RideT} (hl : l.length ≤ 8) : ∃ T, F_fare_divide F l = some T ∧ RelT (tab (lawOf F l) l.length) T := by
  have hpr : ∀ p i, p < (lawOf F l).np → 0 ≤ (lawOf F l).pr p i ∧ (lawOf F l).pr p i ≤ 1000000 := fun p i hp => pr_bound hF hp
  have hLn : (lawOf F l).n = l.length := rfl
  unfold F_fare_divide
  have hz : (Tr.zeroEl Y87 : List RestT) = List.replicate 9 rz := rfl
  have hin : Tr.inb (l.length : Int) 9 = some l.length := inb_nat (by omega)
  have hzi : (Tr.zeroEl Y87 : List RestT)[l.length]? = some rz := by rw [hz, List.getElem?_replicate, if_pos (by omega)]
  rw [hin]
  simp only [Option.bind_some]
  erw [hzi]
  simp only [Option.bind_some]
  have key : ∀ o : Option (List RestT), (∃ T, o = some T ∧ RelT (tab (lawOf F l) l.length) T) → ∃ T, (Option.bind o fun x10 => some x10) = some T ∧ RelT (tab (lawOf F l) l.length) T := by
    rintro o ⟨T, rfl, h⟩
    exact ⟨T, rfl, h⟩
  refine key _ (run_for l.length _ (fun c (s : List RestT × Int) => ∃ T, s = (T, (l.length : Int) - 1 - (c : Int)) ∧ RelT (tab (lawOf F l) c) T) ?_ ?_ _ ?_)
  · rintro c _ hc ⟨T, rfl, hT⟩
    left
    obtain ⟨i, hi⟩ : ∃ i : Nat, (l.length : Int) - 1 - (c : Int) = (i : Int) := ⟨l.length - 1 - c, by omega⟩
    have hil : i < l.length := by omega
    have hic : i = l.length - (c + 1) := by omega
    rw [hi]
    rw [decide_eq_true (show (0 : Int) ≤ (i : Int) by omega)]
    simp only [cond_true]
    refine bind_ex (fun T' => RelT (tab (lawOf F l) (c + 1)) T') ?_ ?_
    · refine run_for (l.length - i) _ (fun m (s : List RestT × Int) => ∃ T, s = (T, ((i + m : Nat) : Int)) ∧ RelT (upd1 (tab (lawOf F l) c) i (rowK (lawOf F l) (tab (lawOf F l) c) i m)) T) ?_ ?_ _ ⟨T, rfl, hT.congr fun j hj => ?_⟩
      · rintro m _ hm ⟨T, rfl, hT⟩
        left
        have hk : i + m < l.length := by omega
        simp only [lt_dec hk, cond_true]
        refine bind_ex (fun T' => RelT (upd1 (tab (lawOf F l) c) i (rowK (lawOf F l) (tab (lawOf F l) c) i (m + 1))) T') ?_ ?_
        · refine run_for F.1.length _ (fun p (s : List RestT × Int) => ∃ T, s = (T, (p : Int)) ∧ RelT (upd1 (tab (lawOf F l) c) i (rowP (lawOf F l) (tab (lawOf F l) c (i + m + 1)) i (i + m) (rowK (lawOf F l) (tab (lawOf F l) c) i m) p)) T) ?_ ?_ _ ⟨T, rfl, hT⟩
          · rintro p _ hp ⟨T, rfl, hT⟩
            left
            have e1 : IntKind.wrap .i64 (((i + m : Nat) : Int) + 1) = ((i + m + 1 : Nat) : Int) := by rw [wrap_i64 (by omega) (by omega)]; omega
            have hb9 : Tr.inb ((i + m + 1 : Nat) : Int) 9 = some (i + m + 1) := inb_nat (by omega)
            obtain ⟨r, hr, hcr⟩ := hT.2 (i + m + 1) (by omega)
            rw [upd1_ne _ _ (by omega)] at hcr
            simp only [lt_dec hp, cond_true, e1, hb9, hr, Option.bind_some, wrap_succ hp (show F.1.length ≤ 9223372036854775807 by have := hF.many; omega)]
            cases hnx : tab (lawOf F l) c (i + m + 1) with
            | none =>
              rw [hnx] at hcr
              rw [show r.1 = false from hcr]
              refine ⟨_, rfl, T, rfl, ?_⟩
              rw [hnx] at hT
              exact hT
            | some x =>
              obtain ⟨s, t⟩ := x
              rw [hnx] at hcr
              obtain ⟨q1, _⟩ := RelC.ok hcr
              rw [q1]
              simp only [cond_true]
              have hBd : Bd l.length (upd1 (tab (lawOf F l) c) i (rowP (lawOf F l) (tab (lawOf F l) c (i + m + 1)) i (i + m) (rowK (lawOf F l) (tab (lawOf F l) c) i m) p)) := by
                intro j s' t' hj e
                have htb := tab_bd hpr c (show c ≤ (lawOf F l).n by rw [hLn]; omega)
                by_cases hji : j = i
                · subst hji
                  rw [upd1_same] at e
                  exact rowP_bd (n := l.length) (fun p hp => hpr p j hp) (by omega) (by omega) (htb _) (rowK_bd (fun p hp => hpr p j hp) htb m (by omega)) p (show p ≤ F.1.length by omega) s' t' e
                · rw [upd1_ne _ _ hji] at e
                  exact htb j s' t' e
              obtain ⟨T', g1, g2⟩ := try_val hF hl hT hBd (i := i) (k := i + m) (p := p) (by omega) hk hp (s := s) (t := t) (by rw [upd1_ne _ _ (by omega)]; exact hnx)
              rw [g1]
              refine ⟨_, rfl, T', rfl, ?_⟩
              rw [upd1_upd1, upd1_same, upd1_ne _ _ (show i + m + 1 ≠ i by omega)] at g2
              rw [hnx] at g2
              exact g2
          · rintro _ ⟨T, rfl, hT⟩
            simp only [nlt_dec, cond_false]
            exact ⟨_, rfl, hT⟩
        · intro T' hT'
          have e1 : IntKind.wrap .i64 (((i + m : Nat) : Int) + 1) = ((i + (m + 1) : Nat) : Int) := by rw [wrap_i64 (by omega) (by omega)]; omega
          rw [e1]
          exact ⟨_, rfl, T', rfl, hT'⟩
      · rintro _ ⟨T, rfl, hT⟩
        rw [show i + (l.length - i) = l.length by omega]
        simp only [nlt_dec, cond_false]
        refine ⟨_, rfl, hT.congr fun j hj => ?_⟩
        rw [tab]
        by_cases hji : j = i
        · subst hji
          rw [if_pos (show j = (lawOf F l).n - (c + 1) from hic), upd1_same]
          rfl
        · rw [if_neg (show ¬ j = (lawOf F l).n - (c + 1) from fun e => hji (e.trans hic.symm)), upd1_ne _ _ hji]
      · by_cases hji : j = i
        · subst hji
          rw [upd1_same, tab_none (lawOf F l) c (by rw [hLn]; omega) j (by rw [hLn]; omega)]
          rfl
        · rw [upd1_ne _ _ hji]
    · intro T' hT'
      have e1 : IntKind.wrap .i64 ((i : Int) - 1) = (l.length : Int) - 1 - ((c + 1 : Nat) : Int) := by rw [wrap_i64 (by omega) (by omega)]; omega
      rw [e1]
      exact ⟨_, rfl, T', rfl, hT'⟩
  · rintro _ ⟨T, rfl, hT⟩
    rw [decide_eq_false (show ¬ (0 : Int) ≤ (l.length : Int) - 1 - (l.length : Int) by omega)]
    exact ⟨_, rfl, hT⟩
  · refine ⟨(List.replicate 9 rz).set l.length (true, rz.2), ?_, by simp, fun j hj => ?_⟩
    · rw [wrap_i64 (by omega) (by omega)]
      simp only [Int.natCast_zero, Int.sub_zero]
      rfl
    · rw [tab]
      by_cases hjn : j = l.length
      · subst hjn
        rw [if_pos hLn.symm, List.getElem?_set_self (by simp; omega)]
        exact ⟨_, rfl, rfl, rfl, rfl, fun x t' e => by cases e⟩
      · rw [if_neg (show ¬ j = (lawOf F l).n from hjn), List.getElem?_set_ne (Ne.symm hjn), List.getElem?_replicate, if_pos (by omega)]
        exact ⟨_, rfl, rfl⟩
def capI (F : FaresT) (s : Int) : Int := if 0 < F.2.2.2.1 ∧ F.2.2.2.1 < s then F.2.2.2.1 else s
theorem capped_val (F : FaresT) (s : Int) : F_fare_capped F s = some (capI F s) := by
  unfold F_fare_capped capI
  by_cases h : 0 < F.2.2.2.1
  · rw [decide_eq_true h]
    by_cases h2 : F.2.2.2.1 < s
    · rw [decide_eq_true h2, if_pos ⟨h, h2⟩]; rfl
    · rw [decide_eq_false h2, if_neg (fun e => h2 e.2)]; rfl
  · rw [decide_eq_false h, if_neg (fun e => h e.1)]; rfl
theorem tickets_run {F : FaresT} {l : List RideT} (hl : l.length ≤ 8) {T : List RestT} (hT : RelT (tab (lawOf F l) l.length) T) : ∀ (m i : Nat) (acc : List Tk), l.length - i = m → i ≤ l.length → acc.length ≤ i → (i < l.length → ∃ s t, tab (lawOf F l) l.length i = some (s, t)) → ∃ r, Tr.run
 (fun s3 : List Tk × Int =>
 bif decide (s3.2 < (↑(List.length l) : Int)) then
 Option.bind (inb s3.2 (9 : Nat)) fun x4 =>
 Option.bind T[x4]? fun x5 =>
 Option.bind (guardB (decide (List.length s3.1 + List.length [x5.2.2.2.1] ≤ maxApp))) fun _ =>
 Option.bind (inb s3.2 (9 : Nat)) fun x7 =>
 Option.bind T[x7]? fun x8 => some (.inl (s3.1 ++ [x5.2.2.2.1], IntKind.wrap .i64 (x8.2.2.2.1.2.2.1 + (1 : Int))))
 else some (.inr s3.1))
 (acc, (i : Int)) = some r := by
  intro m
  induction m using Nat.strongRecOn with
  | _ m ih =>
    intro i acc hm hi hacc hs
    by_cases hil : i < l.length
    · obtain ⟨s, t, hst⟩ := hs hil
      obtain ⟨p, k, q, s', t', h1, h2, h3, h4⟩ := tab_chain (lawOf F l) (show i < (lawOf F l).n from hil) s t hst
      obtain ⟨r, hr, hc⟩ := hT.2 i (by omega)
      rw [hst] at hc
      obtain ⟨_, _, _, c4⟩ := RelC.ok hc
      have hfirst := c4 _ _ h1
      have hi9 : Tr.inb (i : Int) 9 = some i := inb_nat (by omega)
      have hk : k < l.length := h3
      have e1 : IntKind.wrap .i64 ((k : Int) + 1) = ((k + 1 : Nat) : Int) := by rw [wrap_i64 (by omega) (by omega)]; omega
      have hstep : ∀ z : List Tk × Int, z = (acc ++ [((p : Int), (i : Int), ((k : Nat) : Int), (q : Int), ())], ((k + 1 : Nat) : Int)) → (bif decide ((i : Int) < (↑(List.length l) : Int)) then
         Option.bind (inb (i : Int) (9 : Nat)) fun x4 =>
         Option.bind T[x4]? fun x5 =>
         Option.bind (guardB (decide (List.length acc + List.length [x5.2.2.2.1] ≤ maxApp))) fun _ =>
         Option.bind (inb (i : Int) (9 : Nat)) fun x7 =>
         Option.bind T[x7]? fun x8 => (some (.inl (acc ++ [x5.2.2.2.1], IntKind.wrap .i64 (x8.2.2.2.1.2.2.1 + (1 : Int)))) : Option ((List Tk × Int) ⊕ List Tk))
         else some (.inr acc)) = some (.inl z) := by
        rintro z rfl
        simp only [lt_dec hil, cond_true, hi9, hr, Option.bind_some, hfirst, e1]
        rw [guard_app (by simp only [List.length_cons, List.length_nil]; omega)]
        rfl
      rw [run_inl (hstep _ rfl)]
      exact ih (l.length - (k + 1)) (by omega) (k + 1) _ rfl (by omega) (by rw [List.length_append, List.length_singleton]; omega) (fun _ => ⟨s', t', h4⟩)
    · have : i = l.length := by omega
      subst this
      exact ⟨acc, run_inr (by simp only [nlt_dec, cond_false])⟩
theorem fprice_val {F : FaresT} (h0 : (fareR F).2 = 0) (hg : ∀ x ∈ F.1, x.1.length ≤ 9223372036854775807) (l : List RideT) (hl : l.length ≤ 1000) :
    (8 < l.length ∧ F_fare_Price F l = some (0, [], 33)) ∨ (l.length ≤ 8 ∧ tab (lawOf F l) l.length 0 = none ∧ F_fare_Price F l = some (0, [], 34)) ∨ (l.length ≤ 8 ∧ ∃ s t x9, tab (lawOf F l) l.length 0 = some (s, t) ∧ F_fare_Price F l = some (capI F s, x9, 0)) := by
  have hF := fare_ok h0
  unfold F_fare_Price F_fare_valid
  rw [fare_val F hg]
  simp only [Option.bind_some, decide_eq_true h0, Bool.not_true, cond_false]
  by_cases h8 : 8 < l.length
  · left
    rw [decide_eq_true (show (8 : Int) < (l.length : Int) by omega)]
    exact ⟨h8, rfl⟩
  · right
    rw [decide_eq_false (show ¬ (8 : Int) < (l.length : Int) by omega)]
    simp only [cond_false, Option.bind_some, decide_true, Bool.not_true]
    obtain ⟨T, g1, hT⟩ := divide_val hF (show l.length ≤ 8 by omega)
    rw [g1]
    simp only [Option.bind_some]
    obtain ⟨r, hr, hc⟩ := hT.2 0 (by omega)
    rw [show Int.toNat (0 : Int) = 0 from rfl, hr]
    simp only [Option.bind_some]
    cases hst : tab (lawOf F l) l.length 0 with
    | none =>
      left
      rw [hst] at hc
      rw [show r.1 = false from hc]
      exact ⟨by omega, rfl, rfl⟩
    | some x =>
      right
      obtain ⟨s, t⟩ := x
      rw [hst] at hc
      obtain ⟨c1, c2, _, _⟩ := RelC.ok hc
      obtain ⟨x9, hx9⟩ := tickets_run (by omega) hT l.length 0 [] rfl (Nat.zero_le _) (Nat.le_refl _) (fun _ => ⟨s, t, hst⟩)
      refine ⟨by omega, s, t, x9, rfl, ?_⟩
      rw [c1]
      simp only [Bool.not_true, cond_false]
      refine bind_of (fun y => y = x9) ⟨_, hx9, rfl⟩ ?_
      rintro y rfl
      simp only [c2, capped_val, Option.bind_some]
end Q
namespace Q
open Tr Go Dv
def walk1 (x : LegT) : Int := if x.1 = true ∨ x.2.2.2.2.2.2.1 < 0 ∨ x.2.2.2.2.2.2.2.1 < x.2.2.2.2.2.2.1 ∨ 14400 < x.2.2.2.2.2.2.2.1 - x.2.2.2.2.2.2.1 then 0 else x.2.2.2.2.2.2.2.1 - x.2.2.2.2.2.2.1
def walkL (l : List LegT) : Int := (l.map walk1).sum
theorem walk1_bd (x : LegT) : 0 ≤ walk1 x ∧ walk1 x ≤ 14400 := by
  unfold walk1
  split
  · omega
  · omega
theorem walkL_app (a b : List LegT) : walkL (a ++ b) = walkL a + walkL b := by
  unfold walkL
  rw [List.map_append, List.sum_append]
theorem walkL_bd : ∀ l : List LegT, 0 ≤ walkL l ∧ walkL l ≤ 14400 * (l.length : Int)
  | [] => by simp [walkL]
  | x :: l => by
    have h1 := walk1_bd x
    have h2 := walkL_bd l
    unfold walkL at *
    simp only [List.map_cons, List.sum_cons, List.length_cons]
    omega
def LegOk (x : LegT) : Prop := x.2.2.2.2.2.2.2.1 ≤ 9223372036854775807
theorem walk_val (j : JouT) (hn : j.1.length ≤ 1000) (hg : ∀ x ∈ j.1, LegOk x) : F_journey_Walk j = some (walkL j.1) := by
  unfold F_journey_Walk
  refine bind_of (fun r => r = walkL j.1) ?_ (fun r hr => by rw [hr])
  refine run_for j.1.length _ (fun i (s : Int × Int) => s = (walkL (j.1.take i), (i : Int))) ?_ ?_ _ rfl
  · rintro i _ hi rfl
    left
    have hx := hg _ (List.getElem_mem hi)
    have hw := walkL_bd (j.1.take i)
    rw [List.length_take] at hw
    refine ⟨_, ?_, rfl⟩
    rw [List.take_succ_eq_append_getElem hi, walkL_app]
    generalize walkL (j.1.take i) = W at *
    simp only [lt_dec hi, cond_true, idx_nat hi, Option.bind_some, wrap_succ hi (show j.1.length ≤ 9223372036854775807 by omega)]
    generalize j.1[i] = x at *
    unfold LegOk at hx
    have e0 : walkL [x] = walk1 x := by simp [walkL]
    rw [e0]
    unfold walk1
    cases h1 : x.1 with
    | true =>
      rw [if_pos (.inl rfl), Int.add_zero]
      rfl
    | false =>
      simp only [cond_false]
      by_cases h2 : x.2.2.2.2.2.2.1 < 0
      · rw [decide_eq_true h2, if_pos (.inr (.inl h2)), Int.add_zero]; rfl
      · rw [decide_eq_false h2]
        by_cases h3 : x.2.2.2.2.2.2.2.1 < x.2.2.2.2.2.2.1
        · rw [decide_eq_true h3, if_pos (.inr (.inr (.inl h3))), Int.add_zero]; rfl
        · rw [decide_eq_false h3]
          have ew : IntKind.wrap .i64 (x.2.2.2.2.2.2.2.1 - x.2.2.2.2.2.2.1) = x.2.2.2.2.2.2.2.1 - x.2.2.2.2.2.2.1 := wrap_i64 (by omega) (by omega)
          simp only [cond_false, ew, Option.bind_some]
          by_cases h4 : 14400 < x.2.2.2.2.2.2.2.1 - x.2.2.2.2.2.2.1
          · rw [decide_eq_true h4, if_pos (.inr (.inr (.inr h4))), Int.add_zero]; rfl
          · rw [decide_eq_false h4, if_neg (fun h => by rcases h with h | h | h | h; cases h; exact h2 h; exact h3 h; exact h4 h), wrap_i64 (by omega) (by omega)]
            rfl
  · rintro _ rfl
    simp only [nlt_dec, cond_false]
    rw [List.take_length]
    exact ⟨_, rfl, rfl⟩
theorem go_len2 (n : NetT) : ∀ (L : List LegT) (rode : Bool) (out : List RideT), (ridesGo n L rode out).1.length ≤ out.length + L.length
  | [], _, out => by simp [ridesGo]
  | x :: L, rode, out => by
    unfold ridesGo
    split
    · simp
    · split
      · simp
      · split
        · split
          · have := go_len2 n L true (addLast n x out)
            rw [addLast_len] at this
            simp only [List.length_cons]; omega
          · have := go_len2 n L true (out ++ [newRide n x])
            simp only [List.length_append, List.length_cons, List.length_nil] at this ⊢; omega
        · have := go_len2 n L false out
          simp only [List.length_cons]; omega
end Q
