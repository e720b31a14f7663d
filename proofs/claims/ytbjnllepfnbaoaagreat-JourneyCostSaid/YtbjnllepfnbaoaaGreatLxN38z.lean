/- Chapter 38: prices by the program and by the reference. -/
import Derived.Test.YtbjnllepfnbaoaaGreatLxM38z
namespace Q
open Tr Go Dv
def Small (v : RideT) : Prop := (0 ≤ v.2.2.1 ∧ v.2.2.1 < 65536) ∧ (0 ≤ v.2.2.2.1 ∧ v.2.2.2.1 < 65536)
theorem qor_small {a b : Int} (ha : 0 ≤ a ∧ a < 65536) (hb : 0 ≤ b ∧ b < 65536) : 0 ≤ Tr.qor .i64 a b ∧ Tr.qor .i64 a b < 65536 := by
  obtain ⟨x, rfl⟩ : ∃ x : Nat, a = (x : Int) := ⟨_, (Int.toNat_of_nonneg ha.1).symm⟩
  obtain ⟨y, rfl⟩ : ∃ y : Nat, b = (y : Int) := ⟨_, (Int.toNat_of_nonneg hb.1).symm⟩
  rw [or_i64 (by omega) (by omega)]
  have : x ||| y < 2 ^ 16 := Nat.or_lt_two_pow (n := 16) (by omega) (by omega)
  omega
theorem masks_small {n : NetT} (h : Sound n) {x : LegT} (hx : existsB n x = true) : (0 ≤ ((zmask n x : Nat) : Int) ∧ ((zmask n x : Nat) : Int) < 65536) ∧ (0 ≤ ((2 ^ (routeAt n x).2.1.toNat : Nat) : Int) ∧ ((2 ^ (routeAt n x).2.1.toNat : Nat) : Int) < 65536) := by
  have h1 := zmask_small h hx
  obtain ⟨_, _, e3, e4⟩ := route_ok h hx
  have h2 := pow_small e4
  generalize 2 ^ (routeAt n x).2.1.toNat = q at *
  omega
theorem addLast_small {n : NetT} (h : Sound n) {x : LegT} (hx : existsB n x = true) {out : List RideT} (ho : ∀ v ∈ out, Small v) : ∀ v ∈ addLast n x out, Small v := by
  intro v hv
  unfold addLast at hv
  split at hv
  · rename_i u hu
    unfold addRide at hv
    rcases List.mem_or_eq_of_mem_set hv with hv | rfl
    · exact ho v hv
    · obtain ⟨m1, m2⟩ := masks_small h hx
      have hs := ho u (List.mem_of_getElem? hu)
      exact ⟨qor_small hs.1 m1, qor_small hs.2 m2⟩
  · exact ho v hv
theorem go_small {n : NetT} (h : Sound n) : ∀ (L : List LegT) (rode : Bool) (out l : List RideT) (e : Int), ridesGo n L rode out = (l, e) → (∀ v ∈ out, Small v) → ∀ v ∈ l, Small v
  | [], _, out, l, e, hr, ho => by
    unfold ridesGo at hr
    obtain ⟨rfl, _⟩ := Prod.mk.inj hr
    exact ho
  | x :: L, rode, out, l, e, hr, ho => by
    rw [ridesGo_cons] at hr
    by_cases c1 : x.1 = true ∧ existsB n x = false
    · rw [if_pos c1] at hr
      obtain ⟨rfl, _⟩ := Prod.mk.inj hr
      simp
    rw [if_neg c1] at hr
    by_cases c2 : stayB x = true ∧ (x.1 = false ∨ rode = false)
    · rw [if_pos c2] at hr
      obtain ⟨rfl, _⟩ := Prod.mk.inj hr
      simp
    rw [if_neg c2] at hr
    by_cases c3 : x.1 = true
    · rw [if_pos c3] at hr
      have hx : existsB n x = true := by
        cases he : existsB n x with
        | true => rfl
        | false => exact absurd ⟨c3, he⟩ c1
      refine go_small h L true _ l e hr ?_
      split
      · exact addLast_small h hx ho
      · intro v hv
        rcases List.mem_append.1 hv with hv | hv
        · exact ho v hv
        · simp only [List.mem_singleton] at hv
          subst hv
          exact masks_small h hx
    · rw [if_neg c3] at hr
      exact go_small h L false out l e hr ho
theorem later_within (a b d : Int) (hd : 0 ≤ d) : F_product_later a b d = some (!wthB a b d) := by
  unfold F_product_later wthB
  have hw : ∀ x : Int, 0 ≤ IntKind.wrap .u64 x := fun x => by
    simp [IntKind.wrap, IntKind.bits, IntKind.signed]
    omega
  rw [decide_eq_false (show ¬ d < 0 by omega)]
  by_cases h : a ≤ b
  · rw [decide_eq_true h]
    by_cases h2 : b ≤ a
    · have e : a = b := by omega
      subst e
      rw [decide_eq_true h2]
      have e0 : IntKind.wrap .u64 (IntKind.wrap .u64 a - IntKind.wrap .u64 a) = 0 := by rw [Int.sub_self]; rfl
      rw [e0]
      have := hw d
      simp only [cond_true, cond_false, Option.bind_some, Bool.not_true]
      rw [decide_eq_false (by omega)]
    · rw [decide_eq_false h2]
      simp only [cond_true, cond_false, Option.bind_some]
      congr 1
      generalize IntKind.wrap .u64 (IntKind.wrap .u64 b - IntKind.wrap .u64 a) = X
      generalize IntKind.wrap .u64 d = Y
      by_cases hxy : X ≤ Y
      · rw [decide_eq_true hxy, decide_eq_false (by omega)]; rfl
      · rw [decide_eq_false hxy, decide_eq_true (by omega)]; rfl
  · rw [decide_eq_false h, decide_eq_true (show b ≤ a by omega)]
    rfl
def zF (s : List RideT) : Nat := s.foldl (fun a v => a ||| v.2.2.1.toNat) 0
def mF (s : List RideT) : Nat := s.foldl (fun a v => a ||| v.2.2.2.1.toNat) 0
theorem fold_small {f : RideT → Int} : ∀ (s : List RideT) (a : Nat), (∀ v ∈ s, 0 ≤ f v ∧ f v < 65536) → a < 65536 → s.foldl (fun a v => a ||| (f v).toNat) a < 65536
  | [], a, _, h => h
  | v :: s, a, hs, h => by
    rw [List.foldl_cons]
    refine fold_small s _ (fun u hu => hs u (List.mem_cons_of_mem _ hu)) ?_
    have hv := hs v List.mem_cons_self
    have : a ||| (f v).toNat < 2 ^ 16 := Nat.or_lt_two_pow (n := 16) (by omega) (by omega)
    omega
theorem zF_lt {s : List RideT} (hs : ∀ v ∈ s, Small v) : zF s < 65536 := fold_small (f := fun v => v.2.2.1) s 0 (fun v hv => (hs v hv).1) (by omega)
theorem mF_lt {s : List RideT} (hs : ∀ v ∈ s, Small v) : mF s < 65536 := fold_small (f := fun v => v.2.2.2.1) s 0 (fun v hv => (hs v hv).2) (by omega)
def cvB (p : ProdT) (s : List RideT) : Bool :=
  decide ((s.length : Int) ≤ p.2.2.1) && (decide (((bitsN 62 (zF s) : Nat) : Int) ≤ p.2.2.2.1) && (wthB ((s[0]?).getD rd0).1 ((s[s.length - 1]?).getD rd0).1 p.2.2.2.2.1 && decide (Tr.qandNot .i64 ((mF s : Nat) : Int) p.2.2.2.2.2.1 = 0)))
theorem andNot_zero (a b : Int) : decide (Tr.qandNot .u64 a (IntKind.wrap .u64 b) = 0) = decide (Tr.qandNot .i64 a b = 0) := by
  have hw : BitVec.ofInt 64 (IntKind.wrap .u64 b) = BitVec.ofInt 64 b := by
    apply BitVec.eq_of_toNat_eq
    rw [BitVec.toNat_ofInt, BitVec.toNat_ofInt]
    simp only [IntKind.wrap, IntKind.bits, IntKind.signed]
    congr 1
    simp
  unfold Tr.qandNot
  show decide (IntKind.u64.wrap ((BitVec.ofInt 64 a &&& ~~~ BitVec.ofInt 64 (IntKind.wrap .u64 b)).toNat : Int) = 0) = decide (IntKind.i64.wrap ((BitVec.ofInt 64 a &&& ~~~ BitVec.ofInt 64 b).toNat : Int) = 0)
  rw [hw]
  have hlt := (BitVec.ofInt 64 a &&& ~~~ BitVec.ofInt 64 b).isLt
  generalize (BitVec.ofInt 64 a &&& ~~~ BitVec.ofInt 64 b).toNat = N at *
  refine decide_eq_decide.2 ?_
  simp only [IntKind.wrap, IntKind.bits, IntKind.signed]
  simp
  omega
theorem covers_exact {p : ProdT} {s : List RideT} (hs : ∀ v ∈ s, Small v) (h0 : 0 < s.length) (hl : s.length ≤ 100) (hd : 0 ≤ p.2.2.2.2.1) : F_product_Covers p s = some (cvB p s) := by
  unfold F_product_Covers cvB
  rw [decide_eq_false (show ¬ (s.length : Int) = 0 by omega)]
  have el : IntKind.wrap .i64 ((s.length : Int) - 1) = ((s.length - 1 : Nat) : Int) := by rw [wrap_i64 (by omega) (by omega)]; omega
  have i0 : Tr.idx s (0 : Int) = some s[0] := idx_nat (i := 0) h0
  have el2 : s.length - 1 < s.length := by omega
  simp only [cond_false, el, idx_nat el2, i0, Option.bind_some, later_within _ _ _ hd]
  rw [getD_of h0, getD_of el2]
  by_cases h1 : p.2.2.1 < (s.length : Int)
  · rw [decide_eq_true h1, decide_eq_false (show ¬ (s.length : Int) ≤ p.2.2.1 by omega)]
    rfl
  rw [decide_eq_false h1, decide_eq_true (show (s.length : Int) ≤ p.2.2.1 by omega)]
  cases hw : wthB (s[0]).1 (s[s.length - 1]).1 p.2.2.2.2.1 with
  | false =>
    simp only [Bool.not_false, cond_false, Option.bind_some, cond_true, Bool.false_and, Bool.and_false]
  | true =>
    simp only [Bool.not_true, cond_false, Option.bind_some]
    refine bind_of (fun r : Int × Int => r = (((zF s : Nat) : Int), ((mF s : Nat) : Int))) ?_ ?_
    · refine run_for s.length _ (fun i (t : Int × Int × Int) => t = (((zF (s.take i) : Nat) : Int), ((mF (s.take i) : Nat) : Int), (i : Int))) ?_ ?_ _ rfl
      · rintro i _ hi rfl
        left
        have hv := hs _ (List.getElem_mem hi)
        have z1 := zF_lt (s := s.take i) (fun v hv => hs v (List.mem_of_mem_take hv))
        have z2 := mF_lt (s := s.take i) (fun v hv => hs v (List.mem_of_mem_take hv))
        have ez : zF (s.take (i + 1)) = zF (s.take i) ||| (s[i]).2.2.1.toNat := by unfold zF; rw [List.take_succ_eq_append_getElem hi, List.foldl_append]; rfl
        have em : mF (s.take (i + 1)) = mF (s.take i) ||| (s[i]).2.2.2.1.toNat := by unfold mF; rw [List.take_succ_eq_append_getElem hi, List.foldl_append]; rfl
        refine ⟨_, ?_, rfl⟩
        rw [ez, em]
        generalize zF (s.take i) = Z at *
        generalize mF (s.take i) = M at *
        simp only [lt_dec hi, cond_true, idx_nat hi, Option.bind_some, wrap_succ hi (show s.length ≤ 9223372036854775807 by omega), F_product_Covers_1, F_bitset_Set_Union]
        generalize s[i] = v at *
        obtain ⟨⟨a1, a2⟩, b1, b2⟩ := hv
        obtain ⟨x, hx⟩ : ∃ x : Nat, v.2.2.1 = (x : Int) := ⟨_, (Int.toNat_of_nonneg a1).symm⟩
        obtain ⟨y, hy⟩ : ∃ y : Nat, v.2.2.2.1 = (y : Int) := ⟨_, (Int.toNat_of_nonneg b1).symm⟩
        have w1 : IntKind.wrap .u64 (x : Int) = (x : Int) := by simp [IntKind.wrap, IntKind.bits, IntKind.signed]; omega
        have w2 : IntKind.wrap .u64 (y : Int) = (y : Int) := by simp [IntKind.wrap, IntKind.bits, IntKind.signed]; omega
        rw [hx, hy, w1, w2, or_u64 (by omega) (by omega), or_u64 (by omega) (by omega)]
        simp
      · rintro _ rfl
        simp only [nlt_dec, cond_false]
        rw [List.take_length]
        exact ⟨_, rfl, rfl⟩
    · rintro r rfl
      have hz := zF_lt hs
      have hl : F_bitset_Set_Len ((zF s : Nat) : Int) = some ((bitsN 62 (zF s) : Nat) : Int) := by
        show lenF ((zF s : Nat) : Int) = _
        unfold lenF
        rw [decide_eq_true ⟨by omega, by omega⟩, Int.toNat_natCast, pop_bits (by omega)]
        rfl
      simp only [hl, Option.bind_some, F_bitset_Set_Within, andNot_zero]
      generalize decide (((bitsN 62 (zF s) : Nat) : Int) ≤ p.2.2.2.1) = b1
      generalize decide (Tr.qandNot .i64 ((mF s : Nat) : Int) p.2.2.2.2.2.1 = 0) = b2
      cases b1 <;> cases b2 <;> rfl
theorem bits_val {z : Nat} (hz : z < 65536) : F_ref38_bits (z : Int) = some ((bitsN 62 z : Nat) : Int) := by
  unfold F_ref38_bits
  refine bind_of (fun r => r = ((bitsN 62 z : Nat) : Int)) ?_ (fun r hr => by rw [hr])
  have hle : ∀ k, bitsN k z ≤ k := by
    intro k
    induction k with
    | zero => exact Nat.le_refl _
    | succ k ih => rw [bitsN]; omega
  refine run_for 62 _ (fun i (s : Int × Int) => s = (((bitsN i z : Nat) : Int), (i : Int))) ?_ ?_ _ rfl
  · rintro i _ hi rfl
    left
    refine ⟨_, ?_, rfl⟩
    have hb := hle i
    have hs : Tr.qshr .i64 (z : Int) (i : Int) = some ((z >>> i : Nat) : Int) := by
      unfold Tr.qshr
      rw [if_neg (by omega), Int.toNat_natCast, show min i (IntKind.i64.bits) = i from Nat.min_eq_left (show i ≤ 64 by omega), Nat.shiftRight_eq_div_pow, Int.fdiv_eq_ediv_of_nonneg _ (by exact Int.le_of_lt (Int.pow_pos (by omega)))]
      simp
    have hlt : z >>> i ≤ z := by rw [Nat.shiftRight_eq_div_pow]; exact Nat.div_le_self _ _
    have ha : Tr.qand .i64 ((z >>> i : Nat) : Int) 1 = ((z >>> i % 2 : Nat) : Int) := by
      unfold Tr.qand
      have h1 : (BitVec.ofInt IntKind.i64.bits ((z >>> i : Nat) : Int) &&& BitVec.ofInt IntKind.i64.bits 1).toNat = z >>> i % 2 := by
        rw [BitVec.toNat_and, BitVec.ofInt_natCast, BitVec.toNat_ofNat]
        show (z >>> i) % 2 ^ 64 &&& 1 = z >>> i % 2
        rw [Nat.mod_eq_of_lt (by omega), Nat.and_one_is_mod]
      rw [h1, wrap_i64 (by omega) (by omega)]
    have w1 : IntKind.wrap .i64 (((bitsN i z : Nat) : Int) + 1) = ((bitsN i z + 1 : Nat) : Int) := by rw [wrap_i64 (by omega) (by omega)]; omega
    have w2 : IntKind.wrap .i64 ((i : Int) + 1) = ((i + 1 : Nat) : Int) := by rw [wrap_i64 (by omega) (by omega)]; omega
    rw [decide_eq_true (show (i : Int) < 62 by omega)]
    simp only [cond_true, hs, Option.bind_some, ha, w1, w2]
    rw [bitsN]
    by_cases h1 : z >>> i % 2 = 1
    · rw [h1]; rfl
    · have h0 : z >>> i % 2 = 0 := by omega
      rw [h0]; rfl
  · rintro _ rfl
    exact ⟨_, rfl, rfl⟩
theorem withinR_val (a b d : Int) : F_ref38_within a b d = some (wthB a b d) := by
  unfold F_ref38_within wthB
  cases decide (b ≤ a) <;> rfl
theorem coversR_val {p : ProdT} {l : List RideT} (hs : ∀ v ∈ l, Small v) {i k : Nat} (hik : i ≤ k) (hk : k < l.length) (hl : l.length ≤ 100) : F_ref38_Covers p l (i : Int) (k : Int) = some (cvB p ((l.drop i).take (k + 1 - i))) := by
  have hlen : ((l.drop i).take (k + 1 - i)).length = k + 1 - i := by rw [List.length_take, List.length_drop]; omega
  have hget : ∀ c, c < k + 1 - i → ((l.drop i).take (k + 1 - i))[c]? = l[i + c]? := fun c hc => by
    rw [List.getElem?_take, if_pos hc, List.getElem?_drop]
  have hsS : ∀ v ∈ (l.drop i).take (k + 1 - i), Small v := fun v hv => hs v (List.mem_of_mem_drop (List.mem_of_mem_take hv))
  unfold F_ref38_Covers cvB
  generalize hS : (l.drop i).take (k + 1 - i) = s at *
  refine bind_of (fun r : Int × Int => r = (((zF s : Nat) : Int), ((mF s : Nat) : Int))) ?_ ?_
  · refine run_for (k + 1 - i) _ (fun c (t : Int × Int × Int) => t = (((zF (s.take c) : Nat) : Int), ((mF (s.take c) : Nat) : Int), ((i + c : Nat) : Int))) ?_ ?_ _ rfl
    · rintro c _ hc rfl
      left
      have hcs : c < s.length := by omega
      have hg := hget c hc
      rw [List.getElem?_eq_getElem hcs, List.getElem?_eq_getElem (show i + c < l.length by omega)] at hg
      have hg := (Option.some.inj hg).symm
      have hv := hsS _ (List.getElem_mem hcs)
      have z1 := zF_lt (s := s.take c) (fun v hv => hsS v (List.mem_of_mem_take hv))
      have z2 := mF_lt (s := s.take c) (fun v hv => hsS v (List.mem_of_mem_take hv))
      have ez : zF (s.take (c + 1)) = zF (s.take c) ||| (s[c]).2.2.1.toNat := by unfold zF; rw [List.take_succ_eq_append_getElem hcs, List.foldl_append]; rfl
      have em : mF (s.take (c + 1)) = mF (s.take c) ||| (s[c]).2.2.2.1.toNat := by unfold mF; rw [List.take_succ_eq_append_getElem hcs, List.foldl_append]; rfl
      have e1 : IntKind.wrap .i64 (((i + c : Nat) : Int) + 1) = ((i + (c + 1) : Nat) : Int) := by rw [wrap_i64 (by omega) (by omega)]; omega
      refine ⟨_, ?_, rfl⟩
      rw [ez, em, decide_eq_true (show ((i + c : Nat) : Int) ≤ (k : Int) by omega)]
      generalize zF (s.take c) = Z at *
      generalize mF (s.take c) = M at *
      simp only [cond_true, idx_nat (show i + c < l.length by omega), Option.bind_some, hg, e1]
      generalize s[c] = v at *
      obtain ⟨⟨a1, a2⟩, b1, b2⟩ := hv
      obtain ⟨x, hx⟩ : ∃ x : Nat, v.2.2.1 = (x : Int) := ⟨_, (Int.toNat_of_nonneg a1).symm⟩
      obtain ⟨y, hy⟩ : ∃ y : Nat, v.2.2.2.1 = (y : Int) := ⟨_, (Int.toNat_of_nonneg b1).symm⟩
      rw [hx, hy, or_i64 (by omega) (by omega), or_i64 (by omega) (by omega)]
      simp
    · rintro _ rfl
      rw [decide_eq_false (show ¬ ((i + (k + 1 - i) : Nat) : Int) ≤ (k : Int) by omega), List.take_of_length_le (by omega)]
      exact ⟨_, rfl, rfl⟩
  · rintro r rfl
    have hz := zF_lt hsS
    have e1 : IntKind.wrap .i64 ((k : Int) - (i : Int)) = ((k - i : Nat) : Int) := by rw [wrap_i64 (by omega) (by omega)]; omega
    have e2 : IntKind.wrap .i64 (((k - i : Nat) : Int) + 1) = (s.length : Int) := by rw [wrap_i64 (by omega) (by omega)]; omega
    have g0 : ((s[0]?).getD rd0) = l[i] := by rw [hget 0 (by omega), Nat.add_zero, getD_of (by omega)]
    have g1 : ((s[s.length - 1]?).getD rd0) = l[k] := by rw [hget (s.length - 1) (by omega), show i + (s.length - 1) = k by omega, getD_of hk]
    rw [e1, e2, g0, g1]
    simp only [bits_val hz, Option.bind_some, idx_nat (show i < l.length by omega), idx_nat hk, withinR_val]
    generalize decide ((s.length : Int) ≤ p.2.2.1) = b0
    generalize decide (((bitsN 62 (zF s) : Nat) : Int) ≤ p.2.2.2.1) = b1
    generalize wthB (l[i]).1 (l[k]).1 p.2.2.2.2.1 = b2
    generalize decide (Tr.qandNot .i64 ((mF s : Nat) : Int) p.2.2.2.2.2.1 = 0) = b3
    cases b0 <;> cases b1 <;> cases b2 <;> cases b3 <;> rfl
end Q
namespace Q
open Tr Go Dv
theorem wrap_eq (x : Int) : IntKind.wrap .i64 x = (x + 9223372036854775808) % 18446744073709551616 - 9223372036854775808 := by
  simp [IntKind.wrap, IntKind.signed, IntKind.bits]
  split <;> omega
theorem walk_same (j : JouT) : F_journey_Walk j = F_ref38_Walk j := by
  unfold F_journey_Walk F_ref38_Walk
  congr 2
  funext s
  congr 1
  congr 1
  funext x
  cases hr : x.1 with
  | true => simp
  | false =>
    simp only [cond_false, Bool.not_false, cond_true]
    by_cases h1 : x.2.2.2.2.2.2.1 < 0
    · rw [show decide (x.2.2.2.2.2.2.1 < 0) = true from decide_eq_true h1, show decide ((0 : Int) ≤ x.2.2.2.2.2.2.1) = false from decide_eq_false (Int.not_le.2 h1)]
      simp
    · rw [show decide (x.2.2.2.2.2.2.1 < 0) = false from decide_eq_false h1, show decide ((0 : Int) ≤ x.2.2.2.2.2.2.1) = true from decide_eq_true (Int.not_lt.1 h1)]
      simp only [cond_false, cond_true]
      by_cases h2 : x.2.2.2.2.2.2.2.1 < x.2.2.2.2.2.2.1
      · rw [show decide (x.2.2.2.2.2.2.2.1 < x.2.2.2.2.2.2.1) = true from decide_eq_true h2, show decide (x.2.2.2.2.2.2.1 ≤ x.2.2.2.2.2.2.2.1) = false from decide_eq_false (Int.not_le.2 h2)]
        simp
      · rw [show decide (x.2.2.2.2.2.2.2.1 < x.2.2.2.2.2.2.1) = false from decide_eq_false h2, show decide (x.2.2.2.2.2.2.1 ≤ x.2.2.2.2.2.2.2.1) = true from decide_eq_true (Int.not_lt.1 h2)]
        simp only [cond_false, cond_true, Option.bind_some]
        by_cases h3 : (14400 : Int) < IntKind.wrap .i64 (x.2.2.2.2.2.2.2.1 - x.2.2.2.2.2.2.1)
        · rw [show decide ((14400 : Int) < IntKind.wrap .i64 (x.2.2.2.2.2.2.2.1 - x.2.2.2.2.2.2.1)) = true from decide_eq_true h3, show decide (IntKind.wrap .i64 (x.2.2.2.2.2.2.2.1 - x.2.2.2.2.2.2.1) ≤ (14400 : Int)) = false from decide_eq_false (Int.not_le.2 h3)]
          rfl
        · rw [show decide ((14400 : Int) < IntKind.wrap .i64 (x.2.2.2.2.2.2.2.1 - x.2.2.2.2.2.2.1)) = false from decide_eq_false h3, show decide (IntKind.wrap .i64 (x.2.2.2.2.2.2.2.1 - x.2.2.2.2.2.2.1) ≤ (14400 : Int)) = true from decide_eq_true (Int.not_lt.1 h3)]
          simp only [cond_false, cond_true]
          have : ∀ a b c : Int, IntKind.wrap .i64 (a + IntKind.wrap .i64 (b - c)) = IntKind.wrap .i64 (IntKind.wrap .i64 (a + b) - c) := by
            intro a b c
            simp only [wrap_eq]
            omega
          rw [this]
theorem fareR_secs {F : FaresT} (h : (fareR F).2 = 0) : ∀ p ∈ F.1, 0 ≤ p.2.2.2.2.1 := by
  unfold fareR at h
  by_cases hh : headB F = false
  · rw [if_pos hh] at h; exact absurd h (by decide)
  rw [if_neg hh] at h
  by_cases h16 : 16 < F.1.length
  · rw [if_pos h16] at h; exact absurd h (by decide)
  rw [if_neg h16] at h
  have hz := pick_zero h
  intro p hp
  obtain ⟨i, hi, rfl⟩ := List.getElem_of_mem hp
  have h1 := hz i hi
  unfold prodF at h1
  rw [getD_of hi] at h1
  obtain ⟨_, _, h3⟩ := fault_zero.1 h1
  have h3 : numsB F.1[i] = true := by simpa using h3
  unfold numsB at h3
  simp only [Bool.and_eq_true, decide_eq_true_eq] at h3
  exact h3.2.2.2.1.1
theorem priceR_val (F : FaresT) (p : ProdT) (l : List RideT) (i : Nat) (hi : i < l.length) (hl : l.length ≤ 100) (h1 : 0 ≤ p.2.1 ∧ p.2.1 ≤ 1000000) (h2 : 0 ≤ F.2.1 ∧ F.2.1 ≤ 1000000) : F_ref38_TicketPrice F p l (i : Int) = some (prI F p l i) := by
  unfold F_ref38_TicketPrice prI
  have ew : IntKind.wrap .i64 (p.2.1 - F.2.1) = p.2.1 - F.2.1 := wrap_i64 (by omega) (by omega)
  have em : Tr.imax 0 (p.2.1 - F.2.1) = if 0 < p.2.1 - F.2.1 then p.2.1 - F.2.1 else 0 := rfl
  by_cases h0 : 0 < i
  · have e1 : IntKind.wrap .i64 ((i : Int) - 1) = ((i - 1 : Nat) : Int) := by rw [wrap_i64 (by omega) (by omega)]; omega
    rw [decide_eq_true (show (0 : Int) < (i : Int) by omega)]
    simp only [cond_true, e1, idx_nat (show i - 1 < l.length by omega), idx_nat hi, Option.bind_some, withinR_val]
    rw [getD_of (show i - 1 < l.length by omega), getD_of hi, ew, em]
    cases hb : wthB (l[i - 1]).2.1 (l[i]).1 F.2.2.1 with
    | true => simp [h0]
    | false => simp
  · rw [decide_eq_false (show ¬ (0 : Int) < (i : Int) by omega), if_neg (fun h => h0 h.1)]
    rfl
theorem cov_exact {F : FaresT} (h0 : (fareR F).2 = 0) {l : List RideT} (hs : ∀ v ∈ l, Small v) (hl : l.length ≤ 100) {p i k : Nat} (hp : p < F.1.length) (hik : i ≤ k) (hk : k < l.length) : (lawOf F l).cov p i k = cvB F.1[p] ((l.drop i).take (k + 1 - i)) := by
  show covB ((F.1[p]?).getD p0) ((l.drop i).take (k + 1 - i)) = _
  rw [getD_of hp]
  have hlen : ((l.drop i).take (k + 1 - i)).length = k + 1 - i := by rw [List.length_take, List.length_drop]; omega
  have := covers_exact (p := F.1[p]) (s := (l.drop i).take (k + 1 - i)) (fun v hv => hs v (List.mem_of_mem_drop (List.mem_of_mem_take hv))) (by omega) (by omega) (fareR_secs h0 _ (List.getElem_mem hp))
  unfold covB
  rw [this]
  rfl
abbrev BestT := Bool × Int × List Tk × Unit
def RelB (c : Cell) (r : BestT) : Prop := match c with
  | none => r.1 = false
  | some (s, t) => r.1 = true ∧ r.2.1 = s ∧ r.2.2.1 = t
def RelR (n : Nat) (f : Nat → Cell) (T : List BestT) : Prop := T.length = n + 1 ∧ ∀ j, j ≤ n → ∃ r, T[j]? = some r ∧ RelB (f j) r
theorem RelB.ok {s : Int} {t : List Tk} {r : BestT} (h : RelB (some (s, t)) r) : r.1 = true ∧ r.2.1 = s ∧ r.2.2.1 = t := h
theorem RelR.congr {n : Nat} {f g : Nat → Cell} {T : List BestT} (h : RelR n f T) (e : ∀ j, j ≤ n → g j = f j) : RelR n g T :=
  ⟨h.1, fun j hj => by rw [e j hj]; exact h.2 j hj⟩
theorem RelR.set {n : Nat} {f : Nat → Cell} {T : List BestT} (h : RelR n f T) {i : Nat} (hi : i ≤ n) {c : Cell} {r : BestT} (hr : RelB c r) : RelR n (upd1 f i c) (T.set i r) := by
  refine ⟨by rw [List.length_set]; exact h.1, fun j hj => ?_⟩
  unfold upd1
  by_cases hji : j = i
  · subst hji
    rw [if_pos rfl, List.getElem?_set_self (by rw [h.1]; omega)]
    exact ⟨r, rfl, hr⟩
  · rw [if_neg hji, List.getElem?_set_ne (Ne.symm hji)]
    exact h.2 j hj
theorem upd1_self (f : Nat → Cell) (i : Nat) : upd1 f i (f i) = f := by
  funext j
  unfold upd1
  by_cases h : j = i
  · subst h; rw [if_pos rfl]
  · rw [if_neg h]
theorem rowP_nil (L : Law) (i k : Nat) (cur : Cell) : ∀ m, rowP L none i k cur m = cur
  | 0 => rfl
  | m + 1 => by rw [rowP, rowP_nil L i k cur m]; rfl
def bz : BestT := (false, 0, [], ())
theorem pround {F : FaresT} (h0 : (fareR F).2 = 0) {l : List RideT} (hl : l.length ≤ 8) (hs : ∀ v ∈ l, Small v) {f : Nat → Cell} {T : List BestT} (hT : RelR l.length f T) (hB : Bd l.length f) {i k p : Nat} (hik : i ≤ k) (hk : k < l.length) (hp : p < F.1.length) {s : Int} {t : List Tk} (hn : f (k + 1) = some (s, t)) :
    ∃ T', (Option.bind (idx F.1 (p : Int)) fun x8 =>
 Option.bind (F_ref38_Covers x8 l (i : Int) (k : Int)) fun x9 =>
 bif !x9 then some (.inl (T, IntKind.wrap .i64 ((p : Int) + (1 : Int))))
 else
 Option.bind (idx F.1 (p : Int)) fun x10 =>
 Option.bind (F_ref38_TicketPrice F x10 l (i : Int)) fun x11 =>
 Option.bind (inb (IntKind.wrap .i64 ((k : Int) + (1 : Int))) (List.length T)) fun x12 =>
 Option.bind T[x12]? fun x13 =>
 Option.bind
 (Option.bind (inb (i : Int) (List.length T)) fun x14 =>
 Option.bind T[x14]? fun x15 =>
 bif x15.1 then
 Option.bind (inb (i : Int) (List.length T)) fun x16 =>
 Option.bind T[x16]? fun x17 =>
 bif decide (x17.2.1 < IntKind.wrap .i64 (x11 + x13.2.1)) then some true
 else
 Option.bind (inb (i : Int) (List.length T)) fun x18 =>
 Option.bind T[x18]? fun x19 =>
 bif decide (IntKind.wrap .i64 (x11 + x13.2.1) = x19.2.1) then
 Option.bind (inb (IntKind.wrap .i64 ((k : Int) + (1 : Int))) (List.length T)) fun x20 =>
 Option.bind T[x20]? fun x21 =>
 Option.bind (inb (i : Int) (List.length T)) fun x22 =>
 Option.bind T[x22]? fun x23 =>
 some
 (decide
 ((↑(List.length x23.2.2.1) : Int) ≤
 IntKind.wrap .i64 ((1 : Int) + (↑(List.length x21.2.2.1) : Int))))
 else some false
 else some false)
 fun x24 =>
 bif x24 then some (.inl (T, IntKind.wrap .i64 ((p : Int) + (1 : Int))))
 else
 Option.bind (inb (IntKind.wrap .i64 ((k : Int) + (1 : Int))) (List.length T)) fun x25 =>
 Option.bind T[x25]? fun x26 =>
 Option.bind (guardB (decide (List.length [((p : Int), (i : Int), (k : Int), x11, ())] + List.length x26.2.2.1 ≤ maxApp)))
 fun _ =>
 Option.bind (inb (i : Int) (List.length T)) fun x28 =>
 Option.bind T[x28]? fun _ =>
 some
 (.inl
 (List.set T x28
 (true, IntKind.wrap .i64 (x11 + x13.2.1), [((p : Int), (i : Int), (k : Int), x11, ())] ++ x26.2.2.1, ()),
 IntKind.wrap .i64 ((p : Int) + (1 : Int))))) = (some (.inl (T', ((p + 1 : Nat) : Int))) : Option ((List BestT × Int) ⊕ List BestT)) ∧ RelR l.length (upd1 f i (cand (lawOf F l) (f (k + 1)) i k p (f i))) T' := by
  have hF := fare_ok h0
  have hprice := hF.price _ (List.getElem_mem hp)
  have hm := hF.many
  obtain ⟨b1, b2, b3⟩ := hB (k + 1) s t (by omega) hn
  have e1 : IntKind.wrap .i64 ((k : Int) + 1) = ((k + 1 : Nat) : Int) := by rw [wrap_i64 (by omega) (by omega)]; omega
  have e2 : IntKind.wrap .i64 ((p : Int) + 1) = ((p + 1 : Nat) : Int) := by rw [wrap_i64 (by omega) (by omega)]; omega
  obtain ⟨rk, hrk, hck⟩ := hT.2 (k + 1) (by omega)
  obtain ⟨ri, hri, hci⟩ := hT.2 i (by omega)
  rw [hn] at hck
  obtain ⟨c1, c2, c3⟩ := RelB.ok hck
  have hTl := hT.1
  have hbk : Tr.inb ((k + 1 : Nat) : Int) T.length = some (k + 1) := inb_nat (by omega)
  have hbi : Tr.inb (i : Int) T.length = some i := inb_nat (by omega)
  have hpr : F_ref38_TicketPrice F F.1[p] l (i : Int) = some ((lawOf F l).pr p i) := by
    rw [priceR_val F F.1[p] l i (by omega) (by omega) hprice hF.disc]
    show _ = some (prI F ((F.1[p]?).getD p0) l i)
    rw [getD_of hp]
  have hpb := pr_bound hF (l := l) (i := i) (show p < (lawOf F l).np from hp)
  have w1 : IntKind.wrap .i64 ((lawOf F l).pr p i + s) = (lawOf F l).pr p i + s := wrap_i64 (by omega) (by omega)
  have w2 : IntKind.wrap .i64 ((1 : Int) + (t.length : Int)) = ((1 + t.length : Nat) : Int) := by rw [wrap_i64 (by omega) (by omega)]; omega
  simp only [idx_nat hp, Option.bind_some, e1, e2, coversR_val hs hik hk (by omega), ← cov_exact h0 hs (by omega) hp hik hk, hpr, hbk, hbi, hrk, hri, c2, c3, w1, w2]
  rw [hn]
  unfold cand
  simp only
  cases hcov : (lawOf F l).cov p i k with
  | false =>
    refine ⟨T, rfl, hT.congr fun j hj => ?_⟩
    simp only [Bool.false_eq_true, if_false]
    rw [upd1_self]
  | true =>
    simp only [Bool.not_true, cond_false, if_true]
    have hx : (bif ri.1 then bif decide (ri.2.1 < (lawOf F l).pr p i + s) then some true else bif decide ((lawOf F l).pr p i + s = ri.2.1) then some (decide ((ri.2.2.1.length : Int) ≤ ((1 + t.length : Nat) : Int))) else some false else some false) = some (!better (f i) ((lawOf F l).pr p i + s) (1 + t.length)) := by
      generalize (lawOf F l).pr p i + s = S
      generalize 1 + t.length = c
      cases hfi : f i with
      | none =>
        rw [hfi] at hci
        rw [show ri.1 = false from hci]; rfl
      | some x =>
        obtain ⟨cs, ct⟩ := x
        rw [hfi] at hci
        obtain ⟨d1, d2, d3⟩ := RelB.ok hci
        rw [d1, d2, d3]
        show _ = some (!(decide (S < cs) || (decide (S = cs) && decide (c < ct.length))))
        by_cases q1 : cs < S
        · rw [decide_eq_true q1, decide_eq_false (show ¬ S < cs by omega), decide_eq_false (show ¬ S = cs by omega)]; rfl
        · rw [decide_eq_false q1]
          by_cases q2 : S = cs
          · rw [decide_eq_true q2, decide_eq_false (show ¬ S < cs by omega)]
            by_cases q3 : c < ct.length
            · rw [decide_eq_true q3, decide_eq_false (show ¬ (ct.length : Int) ≤ (c : Int) by omega)]; rfl
            · rw [decide_eq_false q3, decide_eq_true (show (ct.length : Int) ≤ (c : Int) by omega)]; rfl
          · rw [decide_eq_false q2, decide_eq_true (show S < cs by omega)]; rfl
    rw [hx]
    simp only [Option.bind_some]
    cases hbt : better (f i) ((lawOf F l).pr p i + s) (1 + t.length) with
    | false =>
      refine ⟨T, rfl, hT.congr fun j hj => ?_⟩
      simp only [Bool.false_eq_true, if_false]
      rw [upd1_self]
    | true =>
      simp only [Bool.not_true, cond_false]
      have hg : Tr.guardB (decide (List.length [((p : Int), (i : Int), (k : Int), (lawOf F l).pr p i, ())] + List.length t ≤ Tr.maxApp)) = some () := by
        rw [decide_eq_true (by simp only [List.length_cons, List.length_nil, Tr.maxApp]; omega)]; rfl
      rw [hg]
      simp only [Option.bind_some, if_true]
      exact ⟨_, rfl, hT.set (by omega) ⟨rfl, rfl, rfl⟩⟩
theorem refprice_val {F : FaresT} (h0 : (fareR F).2 = 0) {l : List RideT} (hl : l.length ≤ 8) (hs : ∀ v ∈ l, Small v) : ∃ R, F_ref38_Price F l = some R ∧ RelB (tab (lawOf F l) l.length 0) (R.2.2, R.1, R.2.1, ()) := by
  have hF := fare_ok h0
  have hpr : ∀ p i, p < (lawOf F l).np → 0 ≤ (lawOf F l).pr p i ∧ (lawOf F l).pr p i ≤ 1000000 := fun p i hp => pr_bound hF hp
  have hLn : (lawOf F l).n = l.length := rfl
  unfold F_ref38_Price
  have w0 : IntKind.wrap .i64 ((l.length : Int) + 1) = ((l.length + 1 : Nat) : Int) := by rw [wrap_i64 (by omega) (by omega)]; omega
  have hg : Tr.guardB (decide ((0 : Int) ≤ ((l.length + 1 : Nat) : Int) ∧ ((l.length + 1 : Nat) : Int) ≤ ((l.length + 1 : Nat) : Int) ∧ ((l.length + 1 : Nat) : Int) ≤ (Tr.maxApp : Int))) = some () := by
    have hm : (Tr.maxApp : Int) = 4294967296 := by simp [Tr.maxApp]
    rw [decide_eq_true (by rw [hm]; omega)]; rfl
  have hrep : ∀ o : List BestT, o = List.replicate (l.length + 1) bz → Tr.inb (l.length : Int) o.length = some l.length ∧ o[l.length]? = some bz := by
    rintro o rfl
    exact ⟨inb_nat (by simp), by rw [List.getElem?_replicate, if_pos (by omega)]⟩
  obtain ⟨r1, r2⟩ := hrep _ rfl
  rw [w0]
  erw [hg]
  simp only [Option.bind_some, Int.toNat_natCast]
  erw [r1]
  simp only [Option.bind_some]
  erw [r2]
  simp only [Option.bind_some]
  have key : ∀ (o : Option (List BestT)) (k : List BestT → Option (Int × List Tk × Bool)), (∃ T, o = some T ∧ RelR l.length (tab (lawOf F l) l.length) T) → (∀ T, RelR l.length (tab (lawOf F l) l.length) T → ∃ R, k T = some R ∧ RelB (tab (lawOf F l) l.length 0) (R.2.2, R.1, R.2.1, ())) → ∃ R, Option.bind o k = some R ∧ RelB (tab (lawOf F l) l.length 0) (R.2.2, R.1, R.2.1, ()) := by
    rintro o k ⟨T, rfl, h⟩ hk
    exact hk T h
  refine key _ _ (run_for l.length _ (fun c (s : List BestT × Int) => ∃ T, s = (T, (l.length : Int) - 1 - (c : Int)) ∧ RelR l.length (tab (lawOf F l) c) T) ?_ ?_ _ ?_) ?_
  · rintro c _ hc ⟨T, rfl, hT⟩
    left
    obtain ⟨i, hi⟩ : ∃ i : Nat, (l.length : Int) - 1 - (c : Int) = (i : Int) := ⟨l.length - 1 - c, by omega⟩
    have hil : i < l.length := by omega
    have hic : i = l.length - (c + 1) := by omega
    rw [hi]
    rw [decide_eq_true (show (0 : Int) ≤ (i : Int) by omega)]
    simp only [cond_true]
    refine bind_ex (fun T' => RelR l.length (tab (lawOf F l) (c + 1)) T') ?_ ?_
    · refine run_for (l.length - i) _ (fun m (s : List BestT × Int) => ∃ T, s = (T, ((i + m : Nat) : Int)) ∧ RelR l.length (upd1 (tab (lawOf F l) c) i (rowK (lawOf F l) (tab (lawOf F l) c) i m)) T) ?_ ?_ _ ⟨T, rfl, hT.congr fun j hj => ?_⟩
      · rintro m _ hm ⟨T, rfl, hT⟩
        left
        have hk : i + m < l.length := by omega
        have e1 : IntKind.wrap .i64 (((i + m : Nat) : Int) + 1) = ((i + m + 1 : Nat) : Int) := by rw [wrap_i64 (by omega) (by omega)]; omega
        have hTl := hT.1
        have hbk : Tr.inb ((i + m + 1 : Nat) : Int) T.length = some (i + m + 1) := inb_nat (by omega)
        obtain ⟨r, hr, hcr⟩ := hT.2 (i + m + 1) (by omega)
        rw [upd1_ne _ _ (by omega)] at hcr
        simp only [lt_dec hk, cond_true, e1, hbk, hr, Option.bind_some]
        cases hnx : tab (lawOf F l) c (i + m + 1) with
        | none =>
          rw [hnx] at hcr
          rw [show r.1 = false from hcr]
          refine ⟨_, rfl, T, rfl, ?_⟩
          have e : rowK (lawOf F l) (tab (lawOf F l) c) i (m + 1) = rowK (lawOf F l) (tab (lawOf F l) c) i m := by
            rw [Dv.rowK, hnx, rowP_nil]
          rw [e]
          exact hT
        | some x =>
          obtain ⟨s, t⟩ := x
          rw [hnx] at hcr
          obtain ⟨q1, _⟩ := RelB.ok hcr
          rw [q1]
          simp only [Bool.not_true, cond_false]
          refine bind_ex (fun T' => RelR l.length (upd1 (tab (lawOf F l) c) i (rowK (lawOf F l) (tab (lawOf F l) c) i (m + 1))) T') ?_ ?_
          · refine run_for F.1.length _ (fun p (s : List BestT × Int) => ∃ T, s = (T, (p : Int)) ∧ RelR l.length (upd1 (tab (lawOf F l) c) i (rowP (lawOf F l) (tab (lawOf F l) c (i + m + 1)) i (i + m) (rowK (lawOf F l) (tab (lawOf F l) c) i m) p)) T) ?_ ?_ _ ⟨T, rfl, hT⟩
            · rintro p _ hp ⟨T, rfl, hT⟩
              left
              have hBd : Bd l.length (upd1 (tab (lawOf F l) c) i (rowP (lawOf F l) (tab (lawOf F l) c (i + m + 1)) i (i + m) (rowK (lawOf F l) (tab (lawOf F l) c) i m) p)) := by
                intro j s' t' hj e
                have htb := tab_bd hpr c (show c ≤ (lawOf F l).n by rw [hLn]; omega)
                by_cases hji : j = i
                · subst hji
                  rw [upd1_same] at e
                  exact rowP_bd (n := l.length) (fun p hp => hpr p j hp) (by omega) (by omega) (htb _) (rowK_bd (fun p hp => hpr p j hp) htb m (by omega)) p (show p ≤ F.1.length by omega) s' t' e
                · rw [upd1_ne _ _ hji] at e
                  exact htb j s' t' e
              obtain ⟨T', g1, g2⟩ := pround h0 hl hs hT hBd (i := i) (k := i + m) (p := p) (by omega) hk hp (s := s) (t := t) (by rw [upd1_ne _ _ (by omega)]; exact hnx)
              simp only [lt_dec hp, cond_true]
              rw [e1] at g1
              rw [show ((i + m + 1 : Nat) : Int) = ((i + m + 1 : Nat) : Int) from rfl] at g1
              refine ⟨_, g1, T', rfl, ?_⟩
              rw [upd1_upd1, upd1_same, upd1_ne _ _ (show i + m + 1 ≠ i by omega)] at g2
              exact g2
            · rintro _ ⟨T, rfl, hT⟩
              simp only [nlt_dec, cond_false]
              exact ⟨_, rfl, hT⟩
          · intro T' hT'
            exact ⟨_, rfl, T', rfl, hT'⟩
      · rintro _ ⟨T, rfl, hT⟩
        rw [show i + (l.length - i) = l.length by omega]
        simp only [nlt_dec, cond_false]
        refine ⟨_, rfl, hT.congr fun j hj => ?_⟩
        rw [tab]
        by_cases hji : j = i
        · subst hji
          rw [if_pos (show j = (lawOf F l).n - (c + 1) from hic), upd1_same]
          rfl
        · rw [if_neg (show ¬ j = (lawOf F l).n - (c + 1) from fun e => hji (e.trans hic.symm)), upd1_ne _ _ hji]
      · by_cases hji : j = i
        · subst hji
          rw [upd1_same, tab_none (lawOf F l) c (by rw [hLn]; omega) j (by rw [hLn]; omega)]
          rfl
        · rw [upd1_ne _ _ hji]
    · intro T' hT'
      have e1 : IntKind.wrap .i64 ((i : Int) - 1) = (l.length : Int) - 1 - ((c + 1 : Nat) : Int) := by rw [wrap_i64 (by omega) (by omega)]; omega
      rw [e1]
      exact ⟨_, rfl, T', rfl, hT'⟩
  · rintro _ ⟨T, rfl, hT⟩
    rw [decide_eq_false (show ¬ (0 : Int) ≤ (l.length : Int) - 1 - (l.length : Int) by omega)]
    exact ⟨_, rfl, hT⟩
  · refine ⟨(List.replicate (l.length + 1) bz).set l.length (true, bz.2), ?_, by simp, fun j hj => ?_⟩
    · rw [wrap_i64 (by omega) (by omega)]
      simp only [Int.natCast_zero, Int.sub_zero]
      rfl
    · rw [tab]
      by_cases hjn : j = l.length
      · subst hjn
        rw [if_pos hLn.symm, List.getElem?_set_self (by simp)]
        exact ⟨_, rfl, rfl, rfl, rfl⟩
      · rw [if_neg (show ¬ j = (lawOf F l).n from hjn), List.getElem?_set_ne (Ne.symm hjn), List.getElem?_replicate, if_pos (by omega)]
        exact ⟨_, rfl, rfl⟩
  · intro T hT
    obtain ⟨r, hr, hc⟩ := hT.2 0 (Nat.zero_le _)
    have hb : Tr.inb (0 : Int) T.length = some 0 := inb_nat (i := 0) (by rw [hT.1]; omega)
    simp only [hb, Option.bind_some, hr]
    exact ⟨_, rfl, hc⟩
end Q
namespace Q
open Tr Go Dv
theorem tickets_exact {F : FaresT} {l : List RideT} (hl : l.length ≤ 8) {T : List RestT} (hT : RelT (tab (lawOf F l) l.length) T) : ∀ (m i : Nat) (acc : List Tk), l.length - i = m → i ≤ l.length → acc.length ≤ i → ∀ (t : List Tk), (∃ s, tab (lawOf F l) l.length i = some (s, t)) → Tr.run
 (fun s3 : List Tk × Int =>
 bif decide (s3.2 < (↑(List.length l) : Int)) then
 Option.bind (inb s3.2 (9 : Nat)) fun x4 =>
 Option.bind T[x4]? fun x5 =>
 Option.bind (guardB (decide (List.length s3.1 + List.length [x5.2.2.2.1] ≤ maxApp))) fun _ =>
 Option.bind (inb s3.2 (9 : Nat)) fun x7 =>
 Option.bind T[x7]? fun x8 => some (.inl (s3.1 ++ [x5.2.2.2.1], IntKind.wrap .i64 (x8.2.2.2.1.2.2.1 + (1 : Int))))
 else some (.inr s3.1))
 (acc, (i : Int)) = some (acc ++ t) := by
  intro m
  induction m using Nat.strongRecOn with
  | _ m ih =>
    intro i acc hm hi hacc t hs
    by_cases hil : i < l.length
    · obtain ⟨s, hst⟩ := hs
      obtain ⟨p, k, q, s', t', h1, h2, h3, h4⟩ := tab_chain (lawOf F l) (show i < (lawOf F l).n from hil) s t hst
      obtain ⟨r, hr, hc⟩ := hT.2 i (by omega)
      rw [hst] at hc
      obtain ⟨_, _, _, c4⟩ := RelC.ok hc
      have hfirst := c4 _ _ h1
      have hi9 : Tr.inb (i : Int) 9 = some i := inb_nat (by omega)
      have hk : k < l.length := h3
      have e1 : IntKind.wrap .i64 ((k : Int) + 1) = ((k + 1 : Nat) : Int) := by rw [wrap_i64 (by omega) (by omega)]; omega
      have hstep : ∀ z : List Tk × Int, z = (acc ++ [((p : Int), (i : Int), ((k : Nat) : Int), (q : Int), ())], ((k + 1 : Nat) : Int)) → (bif decide ((i : Int) < (↑(List.length l) : Int)) then
         Option.bind (inb (i : Int) (9 : Nat)) fun x4 =>
         Option.bind T[x4]? fun x5 =>
         Option.bind (guardB (decide (List.length acc + List.length [x5.2.2.2.1] ≤ maxApp))) fun _ =>
         Option.bind (inb (i : Int) (9 : Nat)) fun x7 =>
         Option.bind T[x7]? fun x8 => (some (.inl (acc ++ [x5.2.2.2.1], IntKind.wrap .i64 (x8.2.2.2.1.2.2.1 + (1 : Int)))) : Option ((List Tk × Int) ⊕ List Tk))
         else some (.inr acc)) = some (.inl z) := by
        rintro z rfl
        simp only [lt_dec hil, cond_true, hi9, hr, Option.bind_some, hfirst, e1]
        rw [guard_app (by simp only [List.length_cons, List.length_nil]; omega)]
        rfl
      rw [run_inl (hstep _ rfl)]
      rw [ih (l.length - (k + 1)) (by omega) (k + 1) _ rfl (by omega) (by rw [List.length_append, List.length_singleton]; omega) t' ⟨s', h4⟩, h1]
      simp
    · have : i = l.length := by omega
      subst this
      obtain ⟨s, hst⟩ := hs
      rw [tab_stay (lawOf F l) 0 l.length l.length (by show l.length - 0 ≤ l.length; omega) (Nat.zero_le _) (Nat.le_refl _), tab, if_pos (show l.length = (lawOf F l).n from rfl)] at hst
      have ht : t = [] := (Prod.mk.inj (Option.some.inj hst)).2.symm
      subst ht
      rw [List.append_nil]
      exact run_inr (by simp only [nlt_dec, cond_false])
theorem fprice_exact {F : FaresT} (h0 : (fareR F).2 = 0) (hg : ∀ x ∈ F.1, x.1.length ≤ 9223372036854775807) (l : List RideT) (hl : l.length ≤ 1000) :
    (8 < l.length ∧ F_fare_Price F l = some (0, [], 33)) ∨ (l.length ≤ 8 ∧ tab (lawOf F l) l.length 0 = none ∧ F_fare_Price F l = some (0, [], 34)) ∨ (l.length ≤ 8 ∧ ∃ s t, tab (lawOf F l) l.length 0 = some (s, t) ∧ F_fare_Price F l = some (capI F s, t, 0)) := by
  have hF := fare_ok h0
  unfold F_fare_Price F_fare_valid
  rw [fare_val F hg]
  simp only [Option.bind_some, decide_eq_true h0, Bool.not_true, cond_false]
  by_cases h8 : 8 < l.length
  · left
    rw [decide_eq_true (show (8 : Int) < (l.length : Int) by omega)]
    exact ⟨h8, rfl⟩
  · right
    rw [decide_eq_false (show ¬ (8 : Int) < (l.length : Int) by omega)]
    simp only [cond_false, Option.bind_some, decide_true, Bool.not_true]
    obtain ⟨T, g1, hT⟩ := divide_val hF (show l.length ≤ 8 by omega)
    rw [g1]
    simp only [Option.bind_some]
    obtain ⟨r, hr, hc⟩ := hT.2 0 (by omega)
    rw [show Int.toNat (0 : Int) = 0 from rfl, hr]
    simp only [Option.bind_some]
    cases hst : tab (lawOf F l) l.length 0 with
    | none =>
      left
      rw [hst] at hc
      rw [show r.1 = false from hc]
      exact ⟨by omega, rfl, rfl⟩
    | some x =>
      right
      obtain ⟨s, t⟩ := x
      rw [hst] at hc
      obtain ⟨c1, c2, _, _⟩ := RelC.ok hc
      have hx9 := tickets_exact (by omega) hT l.length 0 [] rfl (Nat.zero_le _) (Nat.le_refl _) t ⟨s, hst⟩
      refine ⟨by omega, s, t, rfl, ?_⟩
      rw [c1]
      simp only [Bool.not_true, cond_false]
      refine bind_of (fun y => y = t) ⟨_, hx9, rfl⟩ ?_
      rintro y rfl
      simp only [c2, capped_val, Option.bind_some]
theorem capR_val (F : FaresT) (s : Int) : F_ref38_Capped F s = some (capI F s) := by
  unfold F_ref38_Capped capI
  by_cases h : 0 < F.2.2.2.1
  · rw [decide_eq_true h]
    show some (Tr.imin F.2.2.2.1 s) = _
    unfold Tr.imin
    by_cases h2 : s < F.2.2.2.1
    · rw [if_pos h2, if_neg (fun e => by omega)]
    · rw [if_neg h2]
      by_cases h3 : F.2.2.2.1 < s
      · rw [if_pos ⟨h, h3⟩]
      · rw [if_neg (fun e => h3 e.2), show s = F.2.2.2.1 by omega]
  · rw [decide_eq_false h, if_neg (fun e => h e.1)]; rfl
abbrev CostT := Int × Int × Int × Int × Int × Unit
theorem cost_same (n : NetT) (q : El Y33) (j : JouT) (hf : Fit n) (hj : j.1.length ≤ 20) (hg : ∀ x ∈ j.1, LegOk x) : ∃ c : CostT × List Tk × Int, F_journey_Cost n q j = some c ∧ F_ref38_Cost n q j = some c ∧ c.2.1.length ≤ 100000 := by
  obtain ⟨r, hr1, hr2, hr3⟩ := rides_same n j hf hj
  unfold F_journey_Cost F_ref38_Cost
  have hw := walk_val j (by omega) hg
  have hw2 : F_ref38_Walk j = some (walkL j.1) := by rw [← walk_same]; exact hw
  rw [hr1, hr2]
  simp only [Option.bind_some]
  by_cases he : r.2 = 0
  case neg =>
    rw [decide_eq_false he]
    exact ⟨_, rfl, rfl, by simp⟩
  rw [decide_eq_true he]
  simp only [Bool.not_true, cond_false]
  rcases rides_val n j hf (by omega) with ⟨e1, _⟩ | ⟨hS, _, e1⟩
  · rw [hr1] at e1
    have := Option.some.inj e1
    rw [this] at he
    exact absurd he (by decide)
  rw [hr1] at e1
  have hgo := (Option.some.inj e1).symm
  obtain ⟨l, e⟩ := r
  simp only at he hr3 ⊢
  have hs : ∀ v ∈ l, Small v := go_small hS j.1 false [] l e hgo (by simp)
  rcases fprice_exact hS.fare (fun x hx => hf.prods x hx) l (by omega) with ⟨h8, hp⟩ | ⟨h8, hn, hp⟩ | ⟨h8, s, t, hst, hp⟩
  · rw [hp, decide_eq_true (show (8 : Int) < (l.length : Int) by omega)]
    exact ⟨_, rfl, rfl, by simp⟩
  · rw [hp, decide_eq_false (show ¬ (8 : Int) < (l.length : Int) by omega)]
    obtain ⟨R, hR, hc⟩ := refprice_val hS.fare h8 hs
    rw [hn] at hc
    simp only [cond_false, hR, Option.bind_some]
    rw [show R.2.2 = false from hc]
    exact ⟨_, rfl, rfl, by simp⟩
  · rw [hp, decide_eq_false (show ¬ (8 : Int) < (l.length : Int) by omega)]
    obtain ⟨R, hR, hc⟩ := refprice_val hS.fare h8 hs
    rw [hst] at hc
    obtain ⟨c1, c2, c3⟩ := RelB.ok hc
    simp only at c1 c2 c3
    simp only [cond_false, hR, Option.bind_some, c1, c2, c3, Bool.not_true, decide_true, capR_val, hw, hw2]
    have hF := fare_ok hS.fare
    obtain ⟨_, _, hlen⟩ := tab_bd (L := lawOf n.2.2.2.2.2.1 l) (fun p i hp => pr_bound hF hp) l.length (Nat.le_refl _) 0 s t hst
    have hlen : t.length ≤ l.length := hlen
    by_cases h0 : 0 < j.1.length
    · rw [decide_eq_true (show (0 : Int) < (j.1.length : Int) by omega)]
      have el : IntKind.wrap .i64 ((j.1.length : Int) - 1) = ((j.1.length - 1 : Nat) : Int) := by rw [wrap_i64 (by omega) (by omega)]; omega
      have i0 : Tr.idx j.1 (0 : Int) = some j.1[0] := idx_nat (i := 0) h0
      simp only [cond_true, el, i0, idx_nat (show j.1.length - 1 < j.1.length by omega), Option.bind_some]
      exact ⟨_, rfl, rfl, by simp only; omega⟩
    · rw [decide_eq_false (show ¬ (0 : Int) < (j.1.length : Int) by omega)]
      exact ⟨_, rfl, rfl, by simp only; omega⟩
theorem tickets_self (t : List Tk) (ht : t.length ≤ 100000) : F_ref38_SameTickets t t = some true := by
  unfold F_ref38_SameTickets
  rw [decide_eq_true (show (t.length : Int) = (t.length : Int) from rfl)]
  simp only [Bool.not_true, cond_false]
  refine bind_of (fun x => x = .inl ()) ?_ fun x hx => by rw [hx]; rfl
  refine run_for t.length _ (fun i (s : Int) => s = (i : Int)) ?_ ?_ _ rfl
  · rintro i _ hi rfl
    left
    refine ⟨_, ?_, rfl⟩
    simp only [lt_dec hi, cond_true, idx_nat hi, Option.bind_some, decide_true, Bool.and_self, Bool.not_true, cond_false, wrap_succ hi (show t.length ≤ 9223372036854775807 by omega)]
  · rintro _ rfl
    simp only [nlt_dec, cond_false]
    exact ⟨_, rfl, rfl⟩
theorem eqs_self (l : List Int) : Tr.eqEl.eqs (Tr.eqEl (.int .i64)) l l = some true := by
  induction l with
  | nil => rfl
  | cons x l ih =>
    unfold Tr.eqEl.eqs
    rw [ih]
    simp [Tr.eqEl]
theorem vector_same (q : El Y33) (c : CostT) : ∃ v : List Int, F_journey_Vector q c = some v ∧ F_ref38_Vector q c = some v := by
  unfold F_journey_Vector F_ref38_Vector
  cases q.2.2.2.1 with
  | true => exact ⟨_, rfl, rfl⟩
  | false => exact ⟨_, rfl, rfl⟩
theorem cost_law (n : El Y31) (q : El Y33) (j : El Y36) (h : Good Y31 n) (hj : Good Y36 j) : F_law38_JourneyCost n q j = some true := by
  have hla : ∀ x ∈ j.1, LegOk x := fun x hx => by
    obtain ⟨⟨_, h1⟩, _⟩ := hj
    exact (h1 x hx).2.2.2.2.2.2.2.1.2
  unfold F_law38_JourneyCost
  obtain ⟨b, hb1, hb2⟩ := light_val n j
  rw [hb1, example_true]
  simp only [Option.bind_some]
  cases b with
  | false => rfl
  | true =>
    obtain ⟨h1, h2⟩ := hb2 rfl
    obtain ⟨c, e1, e2, e3⟩ := cost_same n q j (fit_of h (by have : n.2.2.2.2.1.length ≤ 200 := h1; omega)) h2 hla
    rw [e1, e2]
    simp only [Bool.not_true, cond_false, Option.bind_some, decide_true, Bool.and_self, cond_true]
    rw [tickets_self c.2.1 e3]
    obtain ⟨v, v1, v2⟩ := vector_same q c.1
    simp only [Option.bind_some, cond_true]
    rw [v1]
    simp only [Option.bind_some]
    rw [v2]
    simp only [Option.bind_some]
    erw [eqs_self v]
    rfl
theorem costP (x : ElPs F_law38_JourneyCostA) (hx : GoodPs F_law38_JourneyCostA x) : F_law38_JourneyCost x.1 x.2.1 x.2.2.1 = some true := cost_law x.1 x.2.1 x.2.2.1 hx.1 hx.2.2.1
end Q
