/- Chapter 38: the text of a journey. Conditions: texts and lists as a machine can hold them. -/
import Derived.Test.YtbjnllepfnbaoaaGreatDoorLwJb2838t
import Derived.Test.YtbjnllepfnbaoaaGreatDoorLxKit
import Derived.Test.YtbjnllepfnbaoaaGreatDoorLxItoa
import Derived.Test.YtbjnllepfnbaoaaGreatDoorTsF
namespace Q
open Tr Go Go.Lib
abbrev LegT := Bool × Int × Int × Int × Int × Int × Int × Int × Bool × Unit
abbrev JouT := List LegT × Unit
def callsOf (n : NetT) (x : LegT) : List CallT := (rn n x.2.1).2.2.2.2.2.2.2.1
def existsB (n : NetT) (x : LegT) : Bool := inR x.2.1 n.2.2.1.length && (decide (0 ≤ x.2.2.1) && (decide (x.2.2.1 < x.2.2.2.1) && decide (x.2.2.2.1 < ((callsOf n x).length : Int))))
theorem exists_val (n : NetT) (x : LegT) : F28 n x = some (existsB n x) := by
  unfold F28 existsB
  by_cases h : inR x.2.1 n.2.2.1.length = true
  · have e : Tr.idx n.2.2.1 x.2.1 = some (rn n x.2.1) := idx_int h u0
    simp only [e, Option.bind_some, h]
    unfold inR at h
    simp only [Bool.and_eq_true] at h
    simp only [h.1, h.2, cond_true]
    unfold callsOf
    generalize decide (0 ≤ x.2.2.1) = a1
    generalize decide (x.2.2.1 < x.2.2.2.1) = a2
    generalize decide (x.2.2.2.1 < ((rn n x.2.1).2.2.2.2.2.2.2.1.length : Int)) = a3
    cases a1 <;> cases a2 <;> cases a3 <;> rfl
  · have h' : inR x.2.1 n.2.2.1.length = false := by simpa using h
    rw [h']
    unfold inR at h'
    revert h'
    generalize decide (0 ≤ x.2.1) = a1
    generalize decide (x.2.1 < (n.2.2.1.length : Int)) = a2
    cases a1 <;> cases a2 <;> intro h' <;> first | rfl | cases h'
theorem existsR_val (n : NetT) (x : LegT) : F57 n x = some (existsB n x) := by
  unfold F57 existsB
  by_cases h : inR x.2.1 n.2.2.1.length = true
  · have e : Tr.idx n.2.2.1 x.2.1 = some (rn n x.2.1) := idx_int h u0
    simp only [e, Option.bind_some, h]
    unfold inR at h
    simp only [Bool.and_eq_true, decide_eq_true_eq] at h
    rw [decide_eq_false (show ¬ x.2.1 < 0 by omega), decide_eq_false (show ¬ (n.2.2.1.length : Int) ≤ x.2.1 by omega)]
    simp only [cond_false, Option.bind_some]
    unfold callsOf
    generalize decide (0 ≤ x.2.2.1) = a1
    generalize decide (x.2.2.1 < x.2.2.2.1) = a2
    generalize decide (x.2.2.2.1 < ((rn n x.2.1).2.2.2.2.2.2.2.1.length : Int)) = a3
    cases a1 <;> cases a2 <;> cases a3 <;> rfl
  · have h' : inR x.2.1 n.2.2.1.length = false := by simpa using h
    rw [h']
    unfold inR at h
    simp only [Bool.and_eq_true, decide_eq_true_eq] at h
    by_cases h1 : x.2.1 < 0
    · rw [decide_eq_true h1]; rfl
    · rw [decide_eq_false h1, decide_eq_true (show (n.2.2.1.length : Int) ≤ x.2.1 by omega)]; rfl
theorem example_true : F31 = some true := by kernel_rfl
theorem light_val (n : NetT) (j : JouT) : ∃ b, F32 n j = some b ∧ (b = true → n.2.2.2.2.1.length ≤ 200 ∧ j.1.length ≤ 20) := by
  unfold F32
  by_cases h1 : (20 : Int) < (n.1.length : Int)
  · rw [decide_eq_true h1]; exact ⟨false, rfl, fun e => (nomatch e)⟩
  by_cases h2 : (20 : Int) < (n.2.1.length : Int)
  · rw [decide_eq_false h1, decide_eq_true h2]; exact ⟨false, rfl, fun e => (nomatch e)⟩
  by_cases h3 : (20 : Int) < (n.2.2.1.length : Int)
  · rw [decide_eq_false h1, decide_eq_false h2, decide_eq_true h3]; exact ⟨false, rfl, fun e => (nomatch e)⟩
  by_cases h4 : (40 : Int) < (n.2.2.2.1.length : Int)
  · rw [decide_eq_false h1, decide_eq_false h2, decide_eq_false h3, decide_eq_true h4]; exact ⟨false, rfl, fun e => (nomatch e)⟩
  by_cases h5 : (200 : Int) < (n.2.2.2.2.1.length : Int)
  · rw [decide_eq_false h1, decide_eq_false h2, decide_eq_false h3, decide_eq_false h4, decide_eq_true h5]; exact ⟨false, rfl, fun e => (nomatch e)⟩
  by_cases h6 : (16 : Int) < (n.2.2.2.2.2.1.1.length : Int)
  · rw [decide_eq_false h1, decide_eq_false h2, decide_eq_false h3, decide_eq_false h4, decide_eq_false h5, decide_eq_true h6]; exact ⟨false, rfl, fun e => (nomatch e)⟩
  by_cases h7 : (20 : Int) < (j.1.length : Int)
  · rw [decide_eq_false h1, decide_eq_false h2, decide_eq_false h3, decide_eq_false h4, decide_eq_false h5, decide_eq_false h6, decide_eq_true h7]; exact ⟨false, rfl, fun e => (nomatch e)⟩
  rw [decide_eq_false h1, decide_eq_false h2, decide_eq_false h3, decide_eq_false h4, decide_eq_false h5, decide_eq_false h6, decide_eq_false h7]
  simp only [cond_false, Option.bind_some]
  have hl : n.2.2.1.length ≤ 9223372036854775807 := by omega
  rw [scan_run (n := n.2.2.1.length) (fun i (st : Int) => st = (i : Int)) (fun i => if 40 < ((n.2.2.1[i]?).getD u0).2.2.2.2.2.2.2.1.length then 1 else 0) (fun _ => .inr false) (.inl ()) ?_ ?_ ?_ (0 : Int) rfl]
  · unfold pick
    cases firstBad n.2.2.1.length (fun i => if 40 < ((n.2.2.1[i]?).getD u0).2.2.2.2.2.2.2.1.length then 1 else 0) with
    | none => exact ⟨true, rfl, fun _ => by omega⟩
    | some i => exact ⟨false, rfl, fun e => (nomatch e)⟩
  · rintro i _ hi rfl hc
    rw [getD_of hi] at hc
    split at hc
    · omega
    · next hh =>
      refine ⟨((i + 1 : Nat) : Int), ?_, rfl⟩
      simp only [lt_dec hi, cond_true, idx_nat hi, Option.bind_some, decide_eq_false (show ¬ (40 : Int) < ((n.2.2.1[i]).2.2.2.2.2.2.2.1.length : Int) by omega), cond_false, wrap_succ hi hl]
  · rintro i _ hi rfl hc
    rw [getD_of hi] at hc
    split at hc
    · next hh =>
      simp only [lt_dec hi, cond_true, idx_nat hi, Option.bind_some, decide_eq_true (show (40 : Int) < ((n.2.2.1[i]).2.2.2.2.2.2.2.1.length : Int) by omega)]
    · omega
  · rintro _ rfl
    simp only [nlt_dec, cond_false]
theorem fit_of {n : NetT} (h : Good Y31 n) (hp : n.2.2.2.2.1.length ≤ 4096) : Fit n := by
  obtain ⟨⟨_, h1⟩, ⟨_, h2⟩, ⟨_, h3⟩, _, _, ⟨⟨_, h6⟩, _⟩, _⟩ := h
  refine ⟨fun x hx => ?_, fun x hx => ?_, fun x hx => ?_, fun x hx => ?_, hp, fun x hx => ?_⟩
  · exact (h1 x hx).1
  · exact (h2 x hx).1
  · exact (h3 x hx).2.2.2.1
  · exact (h3 x hx).2.2.2.2.2.2.2.1.1
  · exact (h6 x hx).1
theorem byte_val (d : Nat) (h : d < 10) : Tr.bytesOf [IntKind.wrap .u8 (IntKind.wrap .i64 ((48 : Int) + (d : Int)))] = [UInt8.ofNat (48 + d)] := by
  rw [wrap_i64 (by omega) (by omega)]
  have e : IntKind.wrap .u8 ((48 : Int) + (d : Int)) = ((48 + d : Nat) : Int) := by
    simp [IntKind.wrap, IntKind.signed, IntKind.bits]
    omega
  rw [e]; rfl
theorem digits_val (k : Nat) (hk : k ≤ 9223372036854775807) : F60 (k : Int) = some (decDigits k) := by
  unfold F60
  rw [tmod_nat, byte_val _ (by omega)]
  have hd := nDigits_le20 k (by omega)
  have := pos_run (step := fun s0 : Int × List UInt8 =>
 bif decide ((10 : Int) ≤ s0.1) then
 Option.bind
 (Tr.catStr (Tr.bytesOf [IntKind.wrap .u8 (IntKind.wrap .i64 ((48 : Int) + Int.tmod (IntKind.wrap .i64 (Int.tdiv s0.1 (10 : Int))) (10 : Int)))])
 s0.2)
 fun x1 => some (.inl (IntKind.wrap .i64 (Int.tdiv s0.1 (10 : Int)), x1))
 else some (.inr s0.2)) ?_ ?_ k [] hk (by simp; omega)
  · rw [List.append_nil] at this
    rw [this]
    simp only [Option.bind_some, List.append_nil]
  · intro k t h0 hk ht
    simp only [decide_eq_true (show (10 : Int) ≤ (k : Int) by omega), cond_true, tdiv_nat]
    rw [wrap_i64 (x := ((k / 10 : Nat) : Int)) (by omega) (by omega), tmod_nat, byte_val _ (by omega), cat_val (by simp; omega)]
    rfl
  · intro k t h
    simp only [decide_eq_false (show ¬ (10 : Int) ≤ (k : Int) by omega), cond_false]
theorem min_text : itoa (-9223372036854775808) = [45, 57, 50, 50, 51, 51, 55, 50, 48, 51, 54, 56, 53, 52, 55, 55, 53, 56, 48, 56] := by
  have := itoa_neg 9223372036854775808 (by omega)
  rw [show (-9223372036854775808 : Int) = -((9223372036854775808 : Nat) : Int) from rfl, this]
  simp [decDigits]
theorem number_val (x : Int) (h1 : -9223372036854775808 ≤ x) (h2 : x ≤ 9223372036854775807) : F58 x = some (itoa x) := by
  unfold F58
  by_cases hm : x = -9223372036854775808
  · subst hm
    rw [decide_eq_true rfl, min_text]; rfl
  rw [decide_eq_false hm]
  by_cases hx : x < 0
  · rw [decide_eq_true hx]
    obtain ⟨k, rfl⟩ : ∃ k : Nat, x = -(k : Int) := ⟨x.natAbs, by omega⟩
    have hd := nDigits_le20 k (by omega)
    simp only [cond_false, cond_true]
    rw [wrap_i64 (by omega) (by omega), show (0 : Int) - -(k : Int) = (k : Int) by omega, digits_val k (by omega)]
    simp only [Option.bind_some]
    rw [cat_val (by rw [decDigits_length]; simp; omega), itoa_neg k (by omega)]
    rfl
  · rw [decide_eq_false hx]
    obtain ⟨k, rfl⟩ : ∃ k : Nat, x = (k : Int) := ⟨x.toNat, by omega⟩
    simp only [cond_false]
    rw [digits_val k (by omega), itoa_nonneg]
    rfl
theorem itoa_val (x : Int) (h1 : -9223372036854775808 ≤ x) (h2 : x ≤ 9223372036854775807) : F73 x = some (itoa x) := by
  unfold F73 Tr.itoaF
  rw [decide_eq_true ⟨h1, h2⟩]; rfl
theorem write_val {a b : List UInt8} (h : a.length + b.length ≤ 140737488355328) : F75 a b = some (a ++ b) := by
  unfold F75 Tr.bldW
  rw [decide_eq_true h]; rfl
theorem joinS_val {xs : List (List UInt8)} {sep : List UInt8} (h1 : xs.length ≤ 100) (h2 : (Lib.join xs sep).length ≤ 100000) : F76 xs sep = some (Lib.join xs sep) := by
  unfold F76 Tr.joinF
  rw [decide_eq_true ⟨by omega, by omega⟩]; rfl
def s0 : StopT := ([], 0, false, 0, ())
def stp (n : NetT) (a : Int) : StopT := (n.1[a.toNat]?).getD s0
def okL (n : NetT) (x : LegT) : Bool := inR x.2.2.2.2.1 n.1.length && (inR x.2.2.2.2.2.1 n.1.length && (!x.1 || existsB n x))
def keyR (r : RunT) : List UInt8 := r.2.2.2.1 ++ ([64] ++ (itoa r.2.1 ++ ([35] ++ itoa r.2.2.1)))
def lineL (n : NetT) (x : LegT) : List UInt8 :=
  (stp n x.2.2.2.2.1).1 ++ ([32] ++ (itoa x.2.2.2.2.2.2.1 ++ ([32] ++ ((if x.1 then keyR (rn n x.2.1) else [119, 97, 108, 107]) ++ ((if x.2.2.2.2.2.2.2.2.1 then [32, 115, 116, 97, 121] else []) ++ ([32] ++ ((stp n x.2.2.2.2.2.1).1 ++ ([32] ++ (itoa x.2.2.2.2.2.2.2.1 ++ [10])))))))))
theorem bad_val (n : NetT) (x : LegT) (E : Option Bool) (hE : E = some (existsB n x)) : (bif decide (x.2.2.2.2.1 < (0 : Int)) then some true
 else
 bif decide ((↑(List.length n.1) : Int) ≤ x.2.2.2.2.1) then some true
 else
 bif decide (x.2.2.2.2.2.1 < (0 : Int)) then some true
 else
 bif decide ((↑(List.length n.1) : Int) ≤ x.2.2.2.2.2.1) then some true
 else bif x.1 then Option.bind E fun x3 => some !x3 else some false) = some (!okL n x) := by
  subst hE
  unfold okL inR
  rw [show decide (x.2.2.2.2.1 < (0 : Int)) = !decide ((0 : Int) ≤ x.2.2.2.2.1) by rw [← decide_not]; exact decide_eq_decide.2 (by omega),
    show decide ((n.1.length : Int) ≤ x.2.2.2.2.1) = !decide (x.2.2.2.2.1 < (n.1.length : Int)) by rw [← decide_not]; exact decide_eq_decide.2 (by omega),
    show decide (x.2.2.2.2.2.1 < (0 : Int)) = !decide ((0 : Int) ≤ x.2.2.2.2.2.1) by rw [← decide_not]; exact decide_eq_decide.2 (by omega),
    show decide ((n.1.length : Int) ≤ x.2.2.2.2.2.1) = !decide (x.2.2.2.2.2.1 < (n.1.length : Int)) by rw [← decide_not]; exact decide_eq_decide.2 (by omega)]
  generalize decide ((0 : Int) ≤ x.2.2.2.2.1) = b1
  generalize decide (x.2.2.2.2.1 < (n.1.length : Int)) = b2
  generalize decide ((0 : Int) ≤ x.2.2.2.2.2.1) = b3
  generalize decide (x.2.2.2.2.2.1 < (n.1.length : Int)) = b4
  cases b1 <;> cases b2 <;> cases b3 <;> cases b4 <;> cases x.1 <;> cases existsB n x <;> rfl
theorem run_name {n : NetT} (h : Whole n) : ∀ r ∈ n.2.2.1, validB r.2.2.2.1 = true := by
  intro r hr
  obtain ⟨j, hj, rfl⟩ := List.getElem_of_mem hr
  have h := firstBad_iff.1 h.f j hj
  unfold runF at h
  simp only [getD_of hj] at h
  split at h
  · omega
  next h1 => simpa using h1
abbrev I64 (x : Int) : Prop := -9223372036854775808 ≤ x ∧ x ≤ 9223372036854775807
theorem key_val {n : NetT} (hW : Whole n) {r : RunT} (hr : r ∈ n.2.2.1) (hi : I64 r.2.2.1) : F63 r = some (keyR r, 0) ∧ (keyR r).length ≤ 80 := by
  have hv := run_name hW r hr
  have hb := hW.sound.base r hr
  have hl := hW.names.2.2 r hr
  have b := itoa_length_le r.2.1 (by omega) (by omega)
  have c := itoa_length_le r.2.2.1 hi.1 hi.2
  refine ⟨?_, by unfold keyR; simp only [List.length_append, List.length_cons, List.length_nil]; omega⟩
  unfold F63 F8
  rw [valid_val _ (by omega), hv]
  simp only [Option.bind_some, Bool.not_true, cond_false, decide_eq_true hb.2.2.1, cond_true, decide_eq_true hb.2.2.2, decide_eq_false (show ¬ r.2.2.1 < 0 by omega)]
  rw [itoa_val r.2.1 (by omega) (by omega), itoa_val r.2.2.1 hi.1 hi.2]
  simp (disch := ((try simp only [List.length_append, List.length_cons, List.length_nil]); omega)) only [cat_val, Option.bind_some]
  unfold keyR
  simp only [List.append_assoc]
theorem join_eq (a b c d e f : List UInt8) : Lib.join [a, b, c, d, e] [32] = a ++ ([32] ++ (b ++ ([32] ++ (c ++ ([32] ++ (d ++ ([32] ++ e))))))) ∧ Lib.join [a, b, c, d, e, f] [32] = a ++ ([32] ++ (b ++ ([32] ++ (c ++ ([32] ++ (d ++ ([32] ++ (e ++ ([32] ++ f))))))))) := by
  constructor <;> (rw [Lib.join_cons]; unfold Lib.joinTail; simp)
theorem stp_idx {n : NetT} {a : Int} (h : inR a n.1.length = true) : Tr.idx n.1 a = some (stp n a) ∧ stp n a ∈ n.1 := by
  refine ⟨idx_int h s0, ?_⟩
  unfold inR at h
  simp only [Bool.and_eq_true, decide_eq_true_eq] at h
  unfold stp
  rw [getD_of (show a.toNat < n.1.length by omega)]
  exact List.getElem_mem _
structure Nums (n : NetT) (l : List LegT) : Prop where
  inst : ∀ r ∈ n.2.2.1, I64 r.2.2.1
  dep : ∀ x ∈ l, I64 x.2.2.2.2.2.2.1
  arr : ∀ x ∈ l, I64 x.2.2.2.2.2.2.2.1
theorem line_len {n : NetT} (hW : Whole n) {x : LegT} (hok : okL n x = true) (hi : ∀ r ∈ n.2.2.1, I64 r.2.2.1) (hd : I64 x.2.2.2.2.2.2.1) (ha : I64 x.2.2.2.2.2.2.2.1) : (lineL n x).length ≤ 300 := by
  unfold okL at hok
  simp only [Bool.and_eq_true, Bool.or_eq_true, Bool.not_eq_true'] at hok
  obtain ⟨h1, h2, h3⟩ := hok
  have a1 := hW.names.1 _ (stp_idx h1).2
  have a2 := hW.names.1 _ (stp_idx h2).2
  have a3 := itoa_length_le _ hd.1 hd.2
  have a4 := itoa_length_le _ ha.1 ha.2
  have a5 : (if x.1 then keyR (rn n x.2.1) else [119, 97, 108, 107] : List UInt8).length ≤ 80 := by
    cases hx : x.1 with
    | false => simp
    | true =>
      have he : existsB n x = true := h3.resolve_left (by rw [hx]; simp)
      unfold existsB at he
      simp only [Bool.and_eq_true] at he
      have hr := rn_mem he.1
      simpa using (key_val hW hr (hi _ hr)).2
  have a6 : (if x.2.2.2.2.2.2.2.2.1 then [32, 115, 116, 97, 121] else [] : List UInt8).length ≤ 5 := by split <;> simp
  unfold lineL
  simp only [List.length_append, List.length_cons, List.length_nil]
  omega
theorem flat_len {n : NetT} (hW : Whole n) : ∀ l : List LegT, (∀ x ∈ l, okL n x = true) → Nums n l → (l.flatMap (lineL n)).length ≤ 300 * l.length
  | [], _, _ => by simp
  | x :: l, h1, h2 => by
    have ih := flat_len hW l (fun v h => h1 v (by simp [h])) ⟨h2.inst, fun v h => h2.dep v (by simp [h]), fun v h => h2.arr v (by simp [h])⟩
    have := line_len hW (h1 x (by simp)) h2.inst (h2.dep x (by simp)) (h2.arr x (by simp))
    simp only [List.flatMap_cons, List.length_append, List.length_cons]
    omega
theorem text_loop {n : NetT} (hW : Whole n) {l : List LegT} (hN : Nums n l)
    {τ : Type} {step : List UInt8 × Int → Option ((List UInt8 × Int) ⊕ (List UInt8 ⊕ τ))} {R : τ}
    (hend : ∀ s, step (s, (l.length : Int)) = some (.inr (.inl s)))
    (hbad : ∀ i s, (hi : i < l.length) → okL n l[i] = false → step (s, (i : Int)) = some (.inr (.inr R)))
    (hok : ∀ i s, (hi : i < l.length) → s.length ≤ 300 * i → okL n l[i] = true → step (s, (i : Int)) = some (.inl (s ++ lineL n l[i], ((i + 1 : Nat) : Int)))) :
    run step ([], (0 : Int)) = some (if l.all (okL n) then .inl (l.flatMap (lineL n)) else .inr R) := by
  refine Exists.elim (run_for (step := step) l.length (fun r => r = if l.all (okL n) then .inl (l.flatMap (lineL n)) else .inr R) (fun i st => st = ((l.take i).flatMap (lineL n), (i : Int)) ∧ ∀ v ∈ l.take i, okL n v = true) ?_ ?_ ([], (0 : Int)) ⟨by simp, by simp⟩) ?_
  · rintro i _ hi ⟨rfl, hv⟩
    cases hb : okL n l[i] with
    | false =>
      right
      refine ⟨_, hbad i _ hi hb, ?_⟩
      rw [if_neg]
      intro h
      rw [List.all_eq_true] at h
      rw [h _ (List.getElem_mem hi)] at hb
      cases hb
    | true =>
      left
      have hlen := flat_len hW (l.take i) hv ⟨hN.inst, fun v h => hN.dep v (List.mem_of_mem_take h), fun v h => hN.arr v (List.mem_of_mem_take h)⟩
      rw [List.length_take, Nat.min_eq_left (Nat.le_of_lt hi)] at hlen
      refine ⟨_, hok i _ hi hlen hb, ?_, fun v hv' => ?_⟩
      · rw [List.take_succ_eq_append_getElem hi, List.flatMap_append]
        simp only [List.flatMap_cons, List.flatMap_nil, List.append_nil]
      rw [List.take_succ_eq_append_getElem hi, List.mem_append] at hv'
      rcases hv' with h | h
      · exact hv v h
      · rw [List.mem_singleton] at h; rw [h]; exact hb
  · rintro _ ⟨rfl, hv⟩
    rw [List.take_length] at hv ⊢
    refine ⟨_, hend _, ?_⟩
    rw [if_pos]
    exact List.all_eq_true.2 hv
  · rintro r ⟨h1, h2⟩
    rw [h1, h2]
def textL (n : NetT) (l : List LegT) : List UInt8 × Int := if l.all (okL n) then (l.flatMap (lineL n), 0) else ([], 9)
theorem text_val {n : NetT} (hW : Whole n) {j : JouT} (hl : j.1.length ≤ 20) (hN : Nums n j.1) {r : Int × Int × Int} (hc : F33 n = some r) (hz : r.2.2 = 0) : F26 n j = some (textL n j.1) := by
  unfold F26
  rw [hc]
  simp only [Option.bind_some, decide_eq_true hz, Bool.not_true, cond_false]
  rw [text_loop hW hN (R := ([], (9 : Int))) ?_ ?_ ?_]
  · unfold textL
    simp only [Option.bind_some]
    split <;> rfl
  · intro s
    simp only [nlt_dec, cond_false]
  · intro i s hi hb
    simp only [lt_dec hi, cond_true, idx_nat hi, Option.bind_some]
    rw [bad_val n _ _ (exists_val n _), hb]; rfl
  · intro i s hi hs hb
    have hd := hN.dep _ (List.getElem_mem hi)
    have ha := hN.arr _ (List.getElem_mem hi)
    have hll := line_len hW hb hN.inst hd ha
    have hb' := hb
    unfold okL at hb'
    simp only [Bool.and_eq_true, Bool.or_eq_true, Bool.not_eq_true'] at hb'
    obtain ⟨h1, h2, h3⟩ := hb'
    simp only [lt_dec hi, cond_true, idx_nat hi, Option.bind_some]
    rw [bad_val n _ _ (exists_val n _), hb]
    simp only [Bool.not_true, Option.bind_some, cond_false, (stp_idx h1).1, (stp_idx h2).1, itoa_val _ hd.1 hd.2, itoa_val _ ha.1 ha.2]
    have a1 := hW.names.1 _ (stp_idx h1).2
    have a2 := hW.names.1 _ (stp_idx h2).2
    have a3 := itoa_length_le _ hd.1 hd.2
    have a4 := itoa_length_le _ ha.1 ha.2
    have e1 : (bif (j.1[i]).1 then Option.bind (Tr.idx n.2.2.1 (j.1[i]).2.1) fun x7 => Option.bind (F63 x7) fun x8 => some (List.set [(stp n (j.1[i]).2.2.2.2.1).1, itoa (j.1[i]).2.2.2.2.2.2.1, [(119 : UInt8), (97 : UInt8), (108 : UInt8), (107 : UInt8)]] (Int.toNat (2 : Int)) x8.1)
        else some [(stp n (j.1[i]).2.2.2.2.1).1, itoa (j.1[i]).2.2.2.2.2.2.1, [(119 : UInt8), (97 : UInt8), (108 : UInt8), (107 : UInt8)]]) = some [(stp n (j.1[i]).2.2.2.2.1).1, itoa (j.1[i]).2.2.2.2.2.2.1, if (j.1[i]).1 then keyR (rn n (j.1[i]).2.1) else [119, 97, 108, 107]] ∧ (if (j.1[i]).1 then keyR (rn n (j.1[i]).2.1) else [119, 97, 108, 107] : List UInt8).length ≤ 80 := by
      cases hx : (j.1[i]).1 with
      | false => exact ⟨rfl, by simp⟩
      | true =>
        have he : existsB n j.1[i] = true := h3.resolve_left (by rw [hx]; simp)
        unfold existsB at he
        simp only [Bool.and_eq_true] at he
        have hr := rn_mem he.1
        obtain ⟨k1, k2⟩ := key_val hW hr (hN.inst _ hr)
        refine ⟨?_, by simpa using k2⟩
        simp only [cond_true, idx_int he.1 u0, Option.bind_some]
        erw [k1]
        rfl
    erw [e1.1]
    simp only [Option.bind_some]
    have hmid := e1.2
    have hline : lineL n j.1[i] = (stp n (j.1[i]).2.2.2.2.1).1 ++ ([32] ++ (itoa (j.1[i]).2.2.2.2.2.2.1 ++ ([32] ++ ((if (j.1[i]).1 then keyR (rn n (j.1[i]).2.1) else [119, 97, 108, 107]) ++ ((if (j.1[i]).2.2.2.2.2.2.2.2.1 then [32, 115, 116, 97, 121] else []) ++ ([32] ++ ((stp n (j.1[i]).2.2.2.2.2.1).1 ++ ([32] ++ (itoa (j.1[i]).2.2.2.2.2.2.2.1 ++ [10]))))))))) := rfl
    rw [hline]
    generalize (if (j.1[i]).1 then keyR (rn n (j.1[i]).2.1) else [119, 97, 108, 107] : List UInt8) = mid at hmid ⊢
    generalize (stp n (j.1[i]).2.2.2.2.1).1 = A at a1 ⊢
    generalize (stp n (j.1[i]).2.2.2.2.2.1).1 = C at a2 ⊢
    generalize itoa (j.1[i]).2.2.2.2.2.2.1 = D at a3 ⊢
    generalize itoa (j.1[i]).2.2.2.2.2.2.2.1 = E at a4 ⊢
    cases (j.1[i]).2.2.2.2.2.2.2.2.1 with
    | false =>
      simp only [cond_false, Option.bind_some]
      rw [guard_app (by simp)]
      simp only [Option.bind_some, List.cons_append, List.nil_append]
      rw [joinS_val (by simp) (by rw [(join_eq A D mid C E []).1]; simp only [List.length_append, List.length_cons, List.length_nil]; omega), (join_eq A D mid C E []).1]
      simp only [Option.bind_some]
      rw [cat_val (by simp only [List.length_append, List.length_cons, List.length_nil]; omega)]
      simp only [Option.bind_some]
      rw [write_val (by simp only [List.length_append, List.length_cons, List.length_nil]; omega)]
      simp only [Option.bind_some, wrap_succ hi (show j.1.length ≤ 9223372036854775807 by omega)]
      simp [List.append_assoc]
    | true =>
      simp only [cond_true, Option.bind_some]
      rw [guard_app (by simp)]
      simp only [Option.bind_some]
      rw [guard_app (by simp)]
      simp only [Option.bind_some, List.cons_append, List.nil_append]
      rw [joinS_val (by simp) (by rw [(join_eq A D mid [115, 116, 97, 121] C E).2]; simp only [List.length_append, List.length_cons, List.length_nil]; omega), (join_eq A D mid [115, 116, 97, 121] C E).2]
      simp only [Option.bind_some]
      rw [cat_val (by simp only [List.length_append, List.length_cons, List.length_nil]; omega)]
      simp only [Option.bind_some]
      rw [write_val (by simp only [List.length_append, List.length_cons, List.length_nil]; omega)]
      simp only [Option.bind_some, wrap_succ hi (show j.1.length ≤ 9223372036854775807 by omega)]
      simp [List.append_assoc]
theorem refText_val {n : NetT} (hW : Whole n) {j : JouT} (hl : j.1.length ≤ 20) (hN : Nums n j.1) (hc : F48 n = some true) : F59 n j = some (textL n j.1) := by
  unfold F59
  rw [hc]
  simp only [Option.bind_some, Bool.not_true, cond_false]
  rw [text_loop hW hN (R := ([], (9 : Int))) ?_ ?_ ?_]
  · unfold textL
    simp only [Option.bind_some]
    split <;> rfl
  · intro s
    simp only [nlt_dec, cond_false]
  · intro i s hi hb
    simp only [lt_dec hi, cond_true, idx_nat hi, Option.bind_some]
    rw [bad_val n _ _ (existsR_val n _), hb]; rfl
  · intro i s hi hs hb
    have hd := hN.dep _ (List.getElem_mem hi)
    have ha := hN.arr _ (List.getElem_mem hi)
    have hb' := hb
    unfold okL at hb'
    simp only [Bool.and_eq_true, Bool.or_eq_true, Bool.not_eq_true'] at hb'
    obtain ⟨h1, h2, h3⟩ := hb'
    simp only [lt_dec hi, cond_true, idx_nat hi, Option.bind_some]
    rw [bad_val n _ _ (existsR_val n _), hb]
    have a1 := hW.names.1 _ (stp_idx h1).2
    have a2 := hW.names.1 _ (stp_idx h2).2
    have a3 := itoa_length_le _ hd.1 hd.2
    have a4 := itoa_length_le _ ha.1 ha.2
    simp only [Bool.not_true, Option.bind_some, cond_false, (stp_idx h1).1, (stp_idx h2).1, number_val _ hd.1 hd.2, number_val _ ha.1 ha.2]
    unfold lineL
    generalize (stp n (j.1[i]).2.2.2.2.1).1 = A at a1 ⊢
    generalize (stp n (j.1[i]).2.2.2.2.2.1).1 = C at a2 ⊢
    generalize itoa (j.1[i]).2.2.2.2.2.2.1 = D at a3 ⊢
    generalize itoa (j.1[i]).2.2.2.2.2.2.2.1 = E at a4 ⊢
    cases hx : (j.1[i]).1 with
    | false =>
      cases (j.1[i]).2.2.2.2.2.2.2.2.1 <;> (
        simp only [cond_false, cond_true, Option.bind_some, if_true]
        simp (disch := ((try simp only [List.length_append, List.length_cons, List.length_nil]); omega)) only [cat_val, Option.bind_some]
        rw [wrap_succ hi (show j.1.length ≤ 9223372036854775807 by omega)]
        simp [List.append_assoc])
    | true =>
      have he : existsB n j.1[i] = true := h3.resolve_left (by rw [hx]; simp)
      unfold existsB at he
      simp only [Bool.and_eq_true] at he
      have hr := rn_mem he.1
      have hb := hW.sound.base _ hr
      have hin := hN.inst _ hr
      have a5 := hW.names.2.2 _ hr
      have a6 := itoa_length_le (rn n (j.1[i]).2.1).2.1 (by omega) (by omega)
      have a7 := itoa_length_le (rn n (j.1[i]).2.1).2.2.1 hin.1 hin.2
      have n1 := number_val (rn n (j.1[i]).2.1).2.1 (by omega) (by omega)
      have n2 := number_val (rn n (j.1[i]).2.1).2.2.1 hin.1 hin.2
      have e0 : Tr.idx n.2.2.1 (j.1[i]).2.1 = some (rn n (j.1[i]).2.1) := idx_int he.1 u0
      unfold keyR
      generalize (rn n (j.1[i]).2.1) = r at *
      cases (j.1[i]).2.2.2.2.2.2.2.2.1 <;> (
        simp only [cond_false, cond_true, Option.bind_some, if_true, e0, n1, n2]
        simp (disch := ((try simp only [List.length_append, List.length_cons, List.length_nil]); omega)) only [cat_val, Option.bind_some]
        rw [wrap_succ hi (show j.1.length ≤ 9223372036854775807 by omega)]
        simp [List.append_assoc])
theorem text_law (n : NetT) (h : Good Y31 n) (j : JouT) (hj : Good Y34 j) : F30 n j = some true := by
  unfold F30
  obtain ⟨b, hb1, hb2⟩ := light_val n j
  rw [hb1]
  cases b with
  | false => simp only [Option.bind_some, Bool.not_false, cond_true, example_true]
  | true =>
    obtain ⟨hp, hl⟩ := hb2 rfl
    simp only [Option.bind_some, Bool.not_true, cond_false]
    have hN : Nums n j.1 := ⟨fun x hx => (h.2.2.1.2 x hx).2.2.1, fun x hx => (hj.1.2 x hx).2.2.2.2.2.2.1, fun x hx => (hj.1.2 x hx).2.2.2.2.2.2.2.1⟩
    obtain ⟨r, h1, h2, h3⟩ := check_iff n (fit_of h (by omega))
    have hR : F48 n = some (decide (r.2.2 = 0)) := by unfold F48; rw [h2]; rfl
    by_cases hz : r.2.2 = 0
    · rw [decide_eq_true hz] at hR
      have hW := h3.1 hz
      rw [text_val hW hl hN h1 hz, refText_val hW hl hN hR]
      simp only [Option.bind_some, decide_true, cond_true, example_true]
    · rw [decide_eq_false hz] at hR
      have e1 : F26 n j = some ([], 21) := by unfold F26; rw [h1]; simp only [Option.bind_some, decide_eq_false hz]; rfl
      have e2 : F59 n j = some ([], 21) := by unfold F59; rw [hR]; rfl
      rw [e1, e2]
      simp only [Option.bind_some, decide_true, cond_true, example_true]
theorem textP (x : ElPs F30A) (h : GoodPs F30A x) : F30 x.1 x.2.1 = some true := text_law _ h.1 _ h.2.1
end Q
