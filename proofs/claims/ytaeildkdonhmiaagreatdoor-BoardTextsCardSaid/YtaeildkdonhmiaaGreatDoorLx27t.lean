/- Chapter 27: the texts. Conditions: texts and lists as a machine can hold them. -/
import Derived.Test.YtaeildkdonhmiaaGreatDoorLxJ27
import Derived.Lib.ItoaLen
namespace Q
open Tr Go Go.Lib
theorem cat_val {a b : List UInt8} (h : a.length + b.length < 4611686018427387904) : Tr.catStr a b = some (a ++ b) := by
  unfold Tr.catStr
  rw [decide_eq_true (show a.length + b.length < 2 ^ 62 by omega)]; rfl
theorem digit_val : ∀ (k : Nat), k < 10 → F59 (k : Int) = some [UInt8.ofNat (48 + k)]
  | 0, _ => by kernel_rfl
  | 1, _ => by kernel_rfl
  | 2, _ => by kernel_rfl
  | 3, _ => by kernel_rfl
  | 4, _ => by kernel_rfl
  | 5, _ => by kernel_rfl
  | 6, _ => by kernel_rfl
  | 7, _ => by kernel_rfl
  | 8, _ => by kernel_rfl
  | 9, _ => by kernel_rfl
  | k + 10, h => by omega
theorem dec_step (k : Nat) (t : List UInt8) : (if k / 10 = 0 then [] else decDigits (k / 10)) ++ ([UInt8.ofNat (48 + k % 10)] ++ t) = decDigits k ++ t := by
  rw [decDigits.eq_1 k]
  by_cases h : k < 10
  · rw [dif_pos h, if_pos (by omega), Nat.mod_eq_of_lt h]; simp
  · rw [dif_neg h, if_neg (by omega)]; simp
theorem tmod_nat (k : Nat) : Int.tmod (k : Int) 10 = ((k % 10 : Nat) : Int) := rfl
theorem tdiv_nat (k : Nat) : Int.tdiv (k : Int) 10 = ((k / 10 : Nat) : Int) := rfl
theorem neg_run {step : Int × List UInt8 → Option ((Int × List UInt8) ⊕ List UInt8)}
    (hs : ∀ (k : Nat) (t : List UInt8), 0 < k → k ≤ 9223372036854775808 → t.length ≤ 1000 → step (-(k : Int), t) = some (.inl (-((k / 10 : Nat) : Int), [UInt8.ofNat (48 + k % 10)] ++ t)))
    (he : ∀ t, step (0, t) = some (.inr t)) : ∀ (k : Nat) (t : List UInt8), k ≤ 9223372036854775808 → (k ≠ 0 → t.length + nDigits k ≤ 1000) → run step (-(k : Int), t) = some ((if k = 0 then [] else decDigits k) ++ t) := by
  intro k
  induction k using Nat.strongRecOn with
  | _ k ih =>
    intro t hk ht
    by_cases h0 : k = 0
    · subst h0
      exact run_inr (he t)
    · have ht := ht h0
      have hp := nDigits_pos k
      rw [run_inl (hs k t (by omega) hk (by omega)), ih (k / 10) (by omega) _ (by omega) ?_, if_neg h0, dec_step]
      intro h
      rw [nDigits_big (by omega)] at ht
      simp
      omega
theorem pos_run {step : Int × List UInt8 → Option ((Int × List UInt8) ⊕ List UInt8)}
    (hs : ∀ (k : Nat) (t : List UInt8), 10 ≤ k → k ≤ 9223372036854775807 → t.length ≤ 1000 → step ((k : Int), t) = some (.inl (((k / 10 : Nat) : Int), [UInt8.ofNat (48 + k / 10 % 10)] ++ t)))
    (he : ∀ (k : Nat) t, k < 10 → step ((k : Int), t) = some (.inr t)) : ∀ (k : Nat) (t : List UInt8), k ≤ 9223372036854775807 → t.length + nDigits k ≤ 1000 → run step ((k : Int), [UInt8.ofNat (48 + k % 10)] ++ t) = some (decDigits k ++ t) := by
  intro k
  induction k using Nat.strongRecOn with
  | _ k ih =>
    intro t hk ht
    by_cases h0 : k < 10
    · rw [run_inr (he k _ h0), decDigits_one h0, Nat.mod_eq_of_lt h0]
    · have hp := nDigits_pos (k / 10)
      rw [nDigits_big h0] at ht
      rw [run_inl (hs k _ (by omega) hk (by simp; omega)), ih (k / 10) (by omega) _ (by omega) (by simp; omega), decDigits.eq_1 k, dif_neg h0]
      simp
theorem format_val (x : Int) (h1 : -9223372036854775808 ≤ x) (h2 : x ≤ 9223372036854775807) : F58 x = some (itoa x) := by
  unfold F58
  by_cases hx : x < 0
  · rw [decide_eq_true hx]
    simp only [cond_true]
    obtain ⟨k, rfl⟩ : ∃ k : Nat, x = -(k : Int) := ⟨x.natAbs, by omega⟩
    have hd := nDigits_le20 k (by omega)
    rw [neg_run ?_ ?_ k [] (by omega) (fun _ => by simp; omega), if_neg (by omega)]
    · simp only [Option.bind_some, List.append_nil]
      rw [cat_val (by simp [decDigits_length]; omega), itoa_neg k (by omega)]
      rfl
    · intro k t h0 hk ht
      rw [decide_eq_true (show -(k : Int) < 0 by omega)]
      simp only [cond_true, Int.neg_tmod, Int.neg_tdiv, tmod_nat, tdiv_nat]
      rw [wrap_i64 (by omega) (by omega), wrap_i64 (by omega) (by omega), show (0 : Int) - -((k % 10 : Nat) : Int) = ((k % 10 : Nat) : Int) by omega, digit_val _ (by omega)]
      simp only [Option.bind_some]
      rw [cat_val (by simp; omega)]
      rfl
    · intro t
      rfl
  · rw [decide_eq_false hx]
    simp only [cond_false]
    obtain ⟨k, rfl⟩ : ∃ k : Nat, x = (k : Int) := ⟨x.toNat, by omega⟩
    have hd := nDigits_le20 k (by omega)
    rw [tmod_nat, digit_val _ (by omega)]
    simp only [Option.bind_some]
    have := pos_run (step := fun s6 : Int × List UInt8 =>
 bif decide ((9 : Int) < s6.1) then
 Option.bind (F59 (Int.tmod (IntKind.wrap .i64 (Int.tdiv s6.1 (10 : Int))) (10 : Int))) fun x7 =>
 Option.bind (Tr.catStr x7 s6.2) fun x8 => some (.inl (IntKind.wrap .i64 (Int.tdiv s6.1 (10 : Int)), x8))
 else some (.inr s6.2)) ?_ ?_ k [] (by omega) (by simp; omega)
    · rw [List.append_nil] at this
      rw [this]
      simp only [Option.bind_some, List.append_nil]
      rw [itoa_nonneg]
    · intro k t h0 hk ht
      simp only [decide_eq_true (show (9 : Int) < (k : Int) by omega), cond_true, tdiv_nat]
      rw [wrap_i64 (by omega) (by omega), tmod_nat, digit_val _ (by omega)]
      simp only [Option.bind_some]
      rw [cat_val (by simp; omega)]
      rfl
    · intro k t h
      simp only [decide_eq_false (show ¬ (9 : Int) < (k : Int) by omega), cond_false]
theorem itoa_val (x : Int) (h1 : -9223372036854775808 ≤ x) (h2 : x ≤ 9223372036854775807) : F99 x = some (itoa x) := by
  unfold F99 Tr.itoaF
  rw [decide_eq_true ⟨h1, h2⟩]; rfl
theorem write_val {a b : List UInt8} (h : a.length + b.length ≤ 140737488355328) : F101 a b = some (a ++ b) := by
  unfold F101 Tr.bldW
  rw [decide_eq_true h]; rfl
def okV (n : NetT) (v : VisT) : Bool := inR v.1 n.2.2.1.length && inR v.2.1 (rn n v.1).2.2.2.2.2.2.2.1.length
def lineV (n : NetT) (v : VisT) : List UInt8 :=
  let r := rn n v.1
  itoa v.2.2.1 ++ ([32] ++ r.2.2.2.1 ++ [64] ++ itoa r.2.1 ++ [35] ++ itoa r.2.2.1) ++ ([32] ++ ((n.2.1[r.2.2.2.2.1.toNat]?).getD r0).1 ++ [32] ++ ((n.1[(cl r.2.2.2.2.2.2.2.1 v.2.1).1.toNat]?).getD ([], 0, false, 0, ())).1 ++ [32] ++
    ((n.1[(cl r.2.2.2.2.2.2.2.1 (r.2.2.2.2.2.2.2.1.length - 1 : Nat)).1.toNat]?).getD ([], 0, false, 0, ())).1 ++ [10])
theorem bad_val (n : NetT) (v : VisT) : (bif decide (v.1 < (0 : Int)) then some true
 else
 bif decide ((↑(List.length n.2.2.1) : Int) ≤ v.1) then some true
 else
 bif decide (v.2.1 < (0 : Int)) then some true
 else Option.bind (idx n.2.2.1 v.1) fun x3 => some (decide ((↑(List.length x3.2.2.2.2.2.2.2.1) : Int) ≤ v.2.1))) = some (!okV n v) := by
  unfold okV
  by_cases h1 : v.1 < 0
  · rw [decide_eq_true h1, show inR v.1 n.2.2.1.length = false by simp [inR]; omega]; rfl
  by_cases h2 : (n.2.2.1.length : Int) ≤ v.1
  · rw [decide_eq_false h1, decide_eq_true h2]; simp [inR]; intros; omega
  have hi : inR v.1 n.2.2.1.length = true := by simp [inR]; omega
  rw [decide_eq_false h1, decide_eq_false h2, hi]
  by_cases h3 : v.2.1 < 0
  · rw [decide_eq_true h3]; simp [inR]; intros; omega
  rw [decide_eq_false h3]
  simp only [cond_false]
  rw [idx_int hi u0]
  simp only [Option.bind_some, Bool.true_and]
  congr 1
  show _ = !inR v.2.1 (rn n v.1).2.2.2.2.2.2.2.1.length
  unfold inR
  rw [decide_eq_true (show (0 : Int) ≤ v.2.1 by omega), Bool.true_and, ← decide_not]
  exact decide_eq_decide.2 (by show ((rn n v.1).2.2.2.2.2.2.2.1.length : Int) ≤ v.2.1 ↔ _; omega)
structure LineOk (n : NetT) (v : VisT) (r : RunT) (la ca : CallT) (rt : RouteT) (st sl : StopT) : Prop where
  run : idx n.2.2.1 v.1 = some r
  last : idx r.2.2.2.2.2.2.2.1 (IntKind.wrap .i64 ((↑(List.length r.2.2.2.2.2.2.2.1) : Int) - (1 : Int))) = some la
  call : idx r.2.2.2.2.2.2.2.1 v.2.1 = some ca
  route : idx n.2.1 r.2.2.2.2.1 = some rt
  stop : idx n.1 ca.1 = some st
  lstop : idx n.1 la.1 = some sl
  line : lineV n v = itoa v.2.2.1 ++ ([32] ++ r.2.2.2.1 ++ [64] ++ itoa r.2.1 ++ [35] ++ itoa r.2.2.1) ++ ([32] ++ rt.1 ++ [32] ++ st.1 ++ [32] ++ sl.1 ++ [10])
  len : r.2.2.2.1.length ≤ 32 ∧ rt.1.length ≤ 32 ∧ st.1.length ≤ 32 ∧ sl.1.length ≤ 32
  day : -9223372036854775808 ≤ r.2.1 ∧ r.2.1 ≤ 9223372036854775807
  inst : -9223372036854775808 ≤ r.2.2.1 ∧ r.2.2.1 ≤ 9223372036854775807
theorem line_ok {n : NetT} (hW : Whole n) (hg : ∀ x ∈ n.2.2.1, -9223372036854775808 ≤ x.2.2.1 ∧ x.2.2.1 ≤ 9223372036854775807) {v : VisT} (h : okV n v = true) : ∃ r la ca rt st sl, LineOk n v r la ca rt st sl := by
  unfold okV at h
  rw [Bool.and_eq_true] at h
  obtain ⟨h1, h2⟩ := h
  have hS := hW.sound
  obtain ⟨n1, n2, n3⟩ := hW.names
  have hr := rn_mem h1
  have hm := hS.many _ hr
  have hlast : inR (((rn n v.1).2.2.2.2.2.2.2.1.length - 1 : Nat) : Int) (rn n v.1).2.2.2.2.2.2.2.1.length = true := by simp [inR]; omega
  have hcall : ∀ {x : Int}, inR x (rn n v.1).2.2.2.2.2.2.2.1.length = true → cl (rn n v.1).2.2.2.2.2.2.2.1 x ∈ (rn n v.1).2.2.2.2.2.2.2.1 := by
    intro x hx
    simp only [inR, Bool.and_eq_true, decide_eq_true_eq] at hx
    unfold cl
    rw [getD_of (show x.toNat < _ by omega)]
    exact List.getElem_mem _
  have hstop : ∀ {x : Int}, inR x (rn n v.1).2.2.2.2.2.2.2.1.length = true → inR (cl (rn n v.1).2.2.2.2.2.2.2.1 x).1 n.1.length = true := by
    intro x hx
    have := hS.call _ hr _ (hcall hx)
    simp [inR]; omega
  have hrt : inR (rn n v.1).2.2.2.2.1 n.2.1.length = true := by
    have := hS.route _ hr
    simp [inR]; omega
  have hmem : ∀ {α : Type} {l : List α} {x : Int} (d : α), inR x l.length = true → (l[x.toNat]?).getD d ∈ l := by
    intro α l x d hx
    simp only [inR, Bool.and_eq_true, decide_eq_true_eq] at hx
    rw [getD_of (show x.toNat < l.length by omega)]
    exact List.getElem_mem _
  have hb := hS.base _ hr
  refine ⟨_, _, _, _, _, _, idx_int h1 u0, ?_, idx_int h2 c0, idx_int hrt r0, idx_int (hstop h2) ([], 0, false, 0, ()), idx_int (hstop hlast) ([], 0, false, 0, ()), rfl, ⟨n3 _ hr, n2 _ (hmem r0 hrt), n1 _ (hmem _ (hstop h2)), n1 _ (hmem _ (hstop hlast))⟩, ⟨by have := hb.2.2.1; show (-9223372036854775808 : Int) ≤ (rn n v.1).2.1; omega, by have := hb.2.2.2; show (rn n v.1).2.1 ≤ (9223372036854775807 : Int); omega⟩, hg _ hr⟩
  rw [show IntKind.wrap .i64 ((((n.2.2.1[v.1.toNat]?).getD u0).2.2.2.2.2.2.2.1.length : Int) - 1) = (((rn n v.1).2.2.2.2.2.2.2.1.length - 1 : Nat) : Int) by
    rw [wrap_i64 (by show _ ≤ ((rn n v.1).2.2.2.2.2.2.2.1.length : Int) - 1; omega) (by show ((rn n v.1).2.2.2.2.2.2.2.1.length : Int) - 1 ≤ _; omega)]
    show ((rn n v.1).2.2.2.2.2.2.2.1.length : Int) - 1 = _
    omega]
  exact idx_int hlast c0
theorem line_len {n : NetT} {v : VisT} {r la ca rt st sl} (h : LineOk n v r la ca rt st sl) (ht : -9223372036854775808 ≤ v.2.2.1 ∧ v.2.2.1 ≤ 9223372036854775807) : (lineV n v).length ≤ 300 := by
  have := h.len
  have a := itoa_length_le _ ht.1 ht.2
  have b := itoa_length_le _ h.day.1 h.day.2
  have c := itoa_length_le _ h.inst.1 h.inst.2
  rw [h.line]
  simp only [List.length_append, List.length_cons, List.length_nil]
  omega
def textV (n : NetT) (l : List VisT) : List UInt8 × Int := if l.all (okV n) then (l.flatMap (lineV n), 0) else ([], 9)
theorem flat_len {n : NetT} (hW : Whole n) (hg : ∀ x ∈ n.2.2.1, -9223372036854775808 ≤ x.2.2.1 ∧ x.2.2.1 ≤ 9223372036854775807) : ∀ l : List VisT, (∀ v ∈ l, okV n v = true) → (∀ v ∈ l, -9223372036854775808 ≤ v.2.2.1 ∧ v.2.2.1 ≤ 9223372036854775807) → (l.flatMap (lineV n)).length ≤ 300 * l.length
  | [], _, _ => by simp
  | v :: l, h1, h2 => by
    have ih := flat_len hW hg l (fun v h => h1 v (by simp [h])) fun v h => h2 v (by simp [h])
    obtain ⟨r, la, ca, rt, st, sl, H⟩ := line_ok hW hg (h1 v (by simp))
    have := line_len H (h2 v (by simp))
    simp only [List.flatMap_cons, List.length_append, List.length_cons]
    omega
theorem take_flat {n : NetT} {l : List VisT} {i : Nat} (hi : i < l.length) : (l.take (i + 1)).flatMap (lineV n) = (l.take i).flatMap (lineV n) ++ lineV n l[i] := by
  rw [List.take_succ_eq_append_getElem hi, List.flatMap_append]; simp only [List.flatMap_cons, List.flatMap_nil, List.append_nil]
theorem text_loop {n : NetT} (hW : Whole n) (hg : ∀ x ∈ n.2.2.1, -9223372036854775808 ≤ x.2.2.1 ∧ x.2.2.1 ≤ 9223372036854775807) {l : List VisT} (hl : l.length ≤ 40) (ht : ∀ v ∈ l, -9223372036854775808 ≤ v.2.2.1 ∧ v.2.2.1 ≤ 9223372036854775807)
    {τ : Type} {step : List UInt8 × Int → Option ((List UInt8 × Int) ⊕ (List UInt8 ⊕ τ))} {R : τ}
    (hend : ∀ s, step (s, (l.length : Int)) = some (.inr (.inl s)))
    (hbad : ∀ i s, (hi : i < l.length) → okV n l[i] = false → step (s, (i : Int)) = some (.inr (.inr R)))
    (hok : ∀ i s, (hi : i < l.length) → s.length ≤ 300 * i → ∀ r la ca rt st sl, okV n l[i] = true → LineOk n l[i] r la ca rt st sl → step (s, (i : Int)) = some (.inl (s ++ lineV n l[i], ((i + 1 : Nat) : Int)))) :
    run step ([], (0 : Int)) = some (if l.all (okV n) then .inl (l.flatMap (lineV n)) else .inr R) := by
  refine Exists.elim (run_for (step := step) l.length (fun r => r = if l.all (okV n) then .inl (l.flatMap (lineV n)) else .inr R) (fun i st => st = ((l.take i).flatMap (lineV n), (i : Int)) ∧ ∀ v ∈ l.take i, okV n v = true) ?_ ?_ ([], (0 : Int)) ⟨by simp, by simp⟩) ?_
  · rintro i _ hi ⟨rfl, hv⟩
    cases hb : okV n l[i] with
    | false =>
      right
      refine ⟨_, hbad i _ hi hb, ?_⟩
      rw [if_neg]
      intro h
      rw [List.all_eq_true] at h
      rw [h _ (List.getElem_mem hi)] at hb
      cases hb
    | true =>
      left
      obtain ⟨r, la, ca, rt, st, sl, H⟩ := line_ok hW hg hb
      have hlen := flat_len hW hg (l.take i) hv fun v hv => ht v (List.mem_of_mem_take hv)
      rw [List.length_take, Nat.min_eq_left (Nat.le_of_lt hi)] at hlen
      refine ⟨_, hok i _ hi hlen r la ca rt st sl hb H, by rw [take_flat hi], fun v hv' => ?_⟩
      rw [List.take_succ_eq_append_getElem hi, List.mem_append] at hv'
      rcases hv' with h | h
      · exact hv v h
      · rw [List.mem_singleton] at h; rw [h]; exact hb
  · rintro _ ⟨rfl, hv⟩
    rw [List.take_length] at hv ⊢
    refine ⟨_, hend _, ?_⟩
    rw [if_pos]
    exact List.all_eq_true.2 hv
  · rintro r ⟨h1, h2⟩
    rw [h1, h2]
theorem text_val {n : NetT} (hW : Whole n) (hg : ∀ x ∈ n.2.2.1, -9223372036854775808 ≤ x.2.2.1 ∧ x.2.2.1 ≤ 9223372036854775807) {l : List VisT} (hl : l.length ≤ 40) (ht : ∀ v ∈ l, -9223372036854775808 ≤ v.2.2.1 ∧ v.2.2.1 ≤ 9223372036854775807)
    (hc : F8 n [] = some 0) : F7 n l = some (textV n l) := by
  unfold F7
  rw [hc]
  simp only [Option.bind_some, decide_true, Bool.not_true, cond_false]
  rw [text_loop hW hg hl ht (R := ([], (9 : Int))) ?_ ?_ ?_]
  · unfold textV
    simp only [Option.bind_some]
    split <;> rfl
  · intro s
    simp only [nlt_dec, cond_false]
  · intro i s hi hb
    simp only [lt_dec hi, cond_true, idx_nat hi, Option.bind_some]
    rw [bad_val, hb]; rfl
  · intro i s hi hs r la ca rt st sl hb H
    have h1 := H.len
    have a := itoa_length_le _ (ht _ (List.getElem_mem hi)).1 (ht _ (List.getElem_mem hi)).2
    have b := itoa_length_le _ H.day.1 H.day.2
    have c := itoa_length_le _ H.inst.1 H.inst.2
    simp only [lt_dec hi, cond_true, idx_nat hi, Option.bind_some]
    rw [bad_val, hb]
    simp only [Bool.not_true, Option.bind_some, cond_false, H.run, H.last, H.call, H.route, H.stop, H.lstop, itoa_val _ (ht _ (List.getElem_mem hi)).1 (ht _ (List.getElem_mem hi)).2, itoa_val _ H.day.1 H.day.2, itoa_val _ H.inst.1 H.inst.2]
    simp (disch := ((try simp only [List.length_append, List.length_cons, List.length_nil]); omega)) only [cat_val, write_val, Option.bind_some]
    rw [wrap_succ hi (by omega), H.line]
    simp only [List.append_assoc]
theorem refText_val {n : NetT} (hW : Whole n) (hg : ∀ x ∈ n.2.2.1, -9223372036854775808 ≤ x.2.2.1 ∧ x.2.2.1 ≤ 9223372036854775807) {l : List VisT} (hl : l.length ≤ 40) (ht : ∀ v ∈ l, -9223372036854775808 ≤ v.2.2.1 ∧ v.2.2.1 ≤ 9223372036854775807)
    (hc : F65 n = some true) : F80 n l = some (textV n l) := by
  unfold F80
  rw [hc]
  simp only [Option.bind_some, Bool.not_true, cond_false]
  rw [text_loop hW hg hl ht (R := ([], (9 : Int))) ?_ ?_ ?_]
  · unfold textV
    simp only [Option.bind_some]
    split <;> rfl
  · intro s
    simp only [nlt_dec, cond_false]
  · intro i s hi hb
    simp only [lt_dec hi, cond_true, idx_nat hi, Option.bind_some]
    rw [bad_val, hb]; rfl
  · intro i s hi hs r la ca rt st sl hb H
    have h1 := H.len
    have a := itoa_length_le _ (ht _ (List.getElem_mem hi)).1 (ht _ (List.getElem_mem hi)).2
    have b := itoa_length_le _ H.day.1 H.day.2
    have c := itoa_length_le _ H.inst.1 H.inst.2
    simp only [lt_dec hi, cond_true, idx_nat hi, Option.bind_some]
    rw [bad_val, hb]
    simp only [Bool.not_true, Option.bind_some, cond_false, H.run, H.last, H.call, H.route, H.stop, H.lstop, format_val _ (ht _ (List.getElem_mem hi)).1 (ht _ (List.getElem_mem hi)).2, format_val _ H.day.1 H.day.2, format_val _ H.inst.1 H.inst.2]
    simp (disch := ((try simp only [List.length_append, List.length_cons, List.length_nil]); omega)) only [cat_val, Option.bind_some]
    rw [wrap_succ hi (by omega), H.line]
    simp only [List.append_assoc]
theorem texts (n : NetT) (h : Good Y31 n) (l : List VisT) (hv : Good Y36 l) : F39 n l = some true := by
  unfold F39
  obtain ⟨b, hb1, hb2⟩ := small_val n
  rw [hb1]
  cases b with
  | false => simp only [Option.bind_some, Bool.not_false, cond_true, example_true]
  | true =>
    simp only [Option.bind_some, Bool.not_true, cond_false]
    by_cases hl : 40 < l.length
    · rw [decide_eq_true (show (40 : Int) < (l.length : Int) by omega)]
      simp only [cond_true, example_true, Option.bind_some]
    rw [decide_eq_false (show ¬ (40 : Int) < (l.length : Int) by omega)]
    simp only [cond_false]
    have hg : ∀ x ∈ n.2.2.1, -9223372036854775808 ≤ x.2.2.1 ∧ x.2.2.1 ≤ 9223372036854775807 := fun x hx => (h.2.2.1.2 x hx).2.2.1
    have ht : ∀ v ∈ l, -9223372036854775808 ≤ v.2.2.1 ∧ v.2.2.1 ≤ 9223372036854775807 := fun v hx => (hv.2 v hx).2.2.1
    obtain ⟨r, h1, h2, h3⟩ := check_iff n (fit_of h (by have := (hb2 rfl).2; omega))
    have hc := check_nil h1
    have hR : F65 n = some (decide (r.2.2 = 0)) := by unfold F65; rw [h2]; rfl
    by_cases hz : r.2.2 = 0
    · rw [if_pos hz] at hc
      rw [decide_eq_true hz] at hR
      have hW := h3.1 hz
      rw [text_val hW hg (by omega) ht hc, refText_val hW hg (by omega) ht hR]
      simp only [Option.bind_some, decide_true, cond_true, example_true]
    · rw [if_neg hz] at hc
      rw [decide_eq_false hz] at hR
      have e1 : F7 n l = some ([], 21) := by unfold F7; rw [hc]; rfl
      have e2 : F80 n l = some ([], 21) := by unfold F80; rw [hR]; rfl
      rw [e1, e2]
      simp only [Option.bind_some, decide_true, cond_true, example_true]
theorem textsP (x : ElPs F39A) (h : GoodPs F39A x) : F39 x.1 x.2.1 = some true := texts _ h.1 _ h.2.1
end Q
