/- feasible: the reference's check of a journey as a function. Conditions: the network is sound, its lists are short. -/
import Derived.Test.YtlnoioahgincaaaGreatLxFeas2
namespace Q
open Tr Go
def walkC (x : LegT) : Bool := !x.1 && (decide (0 ≤ x.2.2.2.2.2.2.1) && (decide (x.2.2.2.2.2.2.1 ≤ x.2.2.2.2.2.2.2.1) && decide (IntKind.wrap .i64 (x.2.2.2.2.2.2.2.1 - x.2.2.2.2.2.2.1) ≤ 14400)))
def walkS (s : Int) (x : LegT) : Int := bif walkC x then IntKind.wrap .i64 (IntKind.wrap .i64 (s + x.2.2.2.2.2.2.2.1) - x.2.2.2.2.2.2.1) else s
def walkW (L : List LegT) : Int := L.foldl walkS 0
theorem walkR_val (L : List LegT) (hj : L.length ≤ 1000) : F79 (L, ()) = some (walkW L) := by
  unfold F79
  refine bind_of (fun r => r = walkW L) ?_ (fun r hr => by rw [hr])
  refine run_for L.length _ (fun i (s : Int × Int) => s = ((L.take i).foldl walkS 0, (i : Int))) ?_ ?_ _ rfl
  · rintro i _ hi rfl
    left
    have e1 : (bif !(L[i]).1 then
 bif decide ((0 : Int) ≤ (L[i]).2.2.2.2.2.2.1) then
 bif decide ((L[i]).2.2.2.2.2.2.1 ≤ (L[i]).2.2.2.2.2.2.2.1) then
 some (decide (IntKind.wrap .i64 ((L[i]).2.2.2.2.2.2.2.1 - (L[i]).2.2.2.2.2.2.1) ≤ (14400 : Int)))
 else some false
 else some false
 else some false) = some (walkC L[i]) := by
      unfold walkC
      cases (L[i]).1 <;> cases decide ((0 : Int) ≤ (L[i]).2.2.2.2.2.2.1) <;> cases decide ((L[i]).2.2.2.2.2.2.1 ≤ (L[i]).2.2.2.2.2.2.2.1) <;> rfl
    have e2 : (L.take (i + 1)).foldl walkS 0 = walkS ((L.take i).foldl walkS 0) L[i] := by rw [List.take_succ_eq_append_getElem hi, List.foldl_append]; rfl
    simp only [lt_dec hi, cond_true, idx_nat hi, Option.bind_some, wrap_succ hi (show _ ≤ 9223372036854775807 by omega)]
    rw [e1, e2]
    unfold walkS
    cases walkC L[i] <;> exact ⟨_, rfl, rfl⟩
  · rintro _ rfl
    simp only [nlt_dec, cond_false]
    exact ⟨_, rfl, by rw [List.take_length]; rfl⟩
def rideC (x : LegT) : Bool := x.1 && !stayB x
def ridesN (L : List LegT) : Nat := (L.filter rideC).length
noncomputable def priceE (F : FaresT) (l : List RideT) : Int := match F76 F l with
  | some r => bif r.2.2 then 0 else 34
  | none => 0
noncomputable def costE (n : NetT) (L : List LegT) : Int :=
  bif !decide ((ridesGo n L false []).2 = 0) then (ridesGo n L false []).2 else
  bif decide (8 < (ridesGo n L false []).1.length) then 33 else priceE n.2.2.2.2.2.1 (ridesGo n L false []).1
theorem cappedR_some (F : FaresT) (s : Int) : ∃ r, F72 F s = some r := by
  unfold F72
  cases decide ((0 : Int) < F.2.2.2.1) <;> exact ⟨_, rfl⟩
theorem costR_val {n : NetT} (h : Sound n) (hv : F63 n = some true) (hF : n.2.2.2.2.2.1.1.length ≤ 4096) (q : QueT) (L : List LegT) (hj : L.length ≤ 1000) : ∃ c, F73 n q (L, ()) = some c ∧ c.2.2 = costE n L := by
  unfold F73 costE
  rw [ridesR_val h hv L hj]
  simp only [Option.bind_some]
  generalize ridesGo n L false [] = R
  by_cases h0 : R.2 = 0
  case neg => rw [decide_eq_false h0]; exact ⟨_, rfl, rfl⟩
  rw [decide_eq_true h0]
  simp only [Bool.not_true, cond_false]
  by_cases h8 : 8 < R.1.length
  · rw [decide_eq_true (show (8 : Int) < (R.1.length : Int) by omega), decide_eq_true h8]; exact ⟨_, rfl, rfl⟩
  rw [decide_eq_false (show ¬ (8 : Int) < (R.1.length : Int) by omega), decide_eq_false h8]
  simp only [cond_false]
  obtain ⟨p, hp⟩ := price_some n.2.2.2.2.2.1 hF R.1 (by omega)
  unfold priceE
  rw [hp]
  simp only [Option.bind_some]
  cases p.2.2 with
  | false => exact ⟨_, rfl, rfl⟩
  | true =>
    simp only [Bool.not_true, cond_false, cond_true]
    obtain ⟨c, hc⟩ := cappedR_some n.2.2.2.2.2.1 p.1
    rw [hc, walkR_val L hj]
    simp only [Option.bind_some]
    by_cases hL : 0 < L.length
    · have e : IntKind.wrap .i64 ((L.length : Int) - 1) = ((L.length - 1 : Nat) : Int) := by rw [wrap_i64 (by omega) (by omega)]; omega
      have i0 : Tr.idx L (0 : Int) = some (lg L 0) := lg_idx hL
      rw [decide_eq_true (show (0 : Int) < (L.length : Int) by omega), e, i0, lg_idx (show L.length - 1 < L.length by omega)]
      exact ⟨_, rfl, rfl⟩
    · rw [decide_eq_false (show ¬ (0 : Int) < (L.length : Int) by omega)]
      exact ⟨_, rfl, rfl⟩
def tailB (L : List LegT) (i : Nat) : Bool := (lg L i).1 && (decide (i + 1 = L.length) || !stayB (lg L (i + 1)))
def alightE (n : NetT) (q : QueT) (x : LegT) : Int := bif !(cl (callsOf n x) x.2.2.2.1).2.2.2.2.1 then 26 else bif !opnS n q x.2.2.2.2.2.1 then 29 else 0
def linkE (n : NetT) (q : QueT) (L : List LegT) (i : Nat) : Int := bif decide (i = 0) then firstE n q L else followE n (lg L (i - 1)) (lg L i)
def atE (n : NetT) (q : QueT) (L : List LegT) (i : Nat) : Int :=
  bif !decide (legE n q (lg L i) = 0) then legE n q (lg L i) else
  bif !decide (linkE n q L i = 0) then linkE n q L i else
  bif tailB L i then alightE n q (lg L i) else 0
theorem legE_zero {n : NetT} {q : QueT} {x : LegT} (h : legE n q x = 0) : inR x.2.2.2.2.1 n.1.length = true ∧ inR x.2.2.2.2.2.1 n.1.length = true ∧ (x.1 = true → existsB n x = true ∧ rideE n q x = 0) ∧ (x.1 = false → walkE n q x = 0) := by
  unfold legE at h
  rw [zero_step (by omega), zero_step (by omega), zero_step (by omega)] at h
  obtain ⟨h1, h2, _, h3⟩ := h
  rw [Bool.or_eq_false_iff] at h1
  refine ⟨by simpa using h1.1, by simpa using h1.2, fun e => ?_, fun e => ?_⟩
  · rw [e] at h2 h3
    exact ⟨by simpa using h2, h3⟩
  · rw [e] at h3
    exact h3
theorem at_val {n : NetT} (hS : Sound n) (hp : n.2.2.2.2.1.length ≤ 4096) {q : QueT} (hq : inR q.1 n.1.length = true) {L : List LegT} {i : Nat} (hi : i < L.length) (hj : L.length ≤ 1000) : F88 n q (L, ()) (i : Int) = some (atE n q L i) := by
  unfold F88 atE
  rw [show Tr.idx (L, ()).1 (i : Int) = some (lg L i) from lg_idx hi]
  simp only [Option.bind_some]
  rw [leg_val hS hp q]
  simp only [Option.bind_some]
  by_cases h0 : legE n q (lg L i) = 0
  case neg => rw [decide_eq_false h0]; rfl
  rw [decide_eq_true h0]
  simp only [Bool.not_true, cond_false]
  obtain ⟨z1, z2, z3, z4⟩ := legE_zero h0
  have e1 : (bif decide ((i : Int) = (0 : Int)) then Option.bind (F90 n q (L, ())) fun x2 => some x2
 else Option.bind (idx L (IntKind.wrap .i64 ((i : Int) - (1 : Int)))) fun x3 => Option.bind (F91 n x3 (lg L i)) fun x4 => some x4) = some (linkE n q L i) := by
    unfold linkE
    by_cases hi0 : i = 0
    · subst hi0
      rw [firstR_val hi hq]; rfl
    · have e : IntKind.wrap .i64 ((i : Int) - 1) = ((i - 1 : Nat) : Int) := by rw [wrap_i64 (by omega) (by omega)]; omega
      rw [decide_eq_false (show ¬ (i : Int) = 0 by omega), decide_eq_false hi0, e, lg_idx (show i - 1 < L.length by omega)]
      simp only [cond_false, Option.bind_some]
      rw [follow_val (by have := hS.links; omega) z1]
      rfl
  rw [e1]
  simp only [Option.bind_some]
  refine one_step ?_
  have w2 : IntKind.wrap .i64 ((i : Int) + 1) = ((i + 1 : Nat) : Int) := by rw [wrap_i64 (by omega) (by omega)]; omega
  rw [w2]
  have e2 : (bif (lg L i).1 then bif decide (((i + 1 : Nat) : Int) = (↑(List.length L) : Int)) then some true
 else Option.bind (idx L ((i + 1 : Nat) : Int)) fun x6 => some !x6.2.2.2.2.2.2.2.2.1
 else some false) = some (tailB L i) := by
    unfold tailB
    rw [show decide (((i + 1 : Nat) : Int) = (L.length : Int)) = decide (i + 1 = L.length) from decide_eq_decide.2 (by omega)]
    by_cases h1 : i + 1 = L.length
    · rw [decide_eq_true h1]
      cases (lg L i).1 <;> rfl
    · rw [decide_eq_false h1, lg_idx (show i + 1 < L.length by omega)]
      cases (lg L i).1 <;> rfl
  rw [e2]
  simp only [Option.bind_some]
  cases htl : tailB L i with
  | false => rfl
  | true =>
    have hr : (lg L i).1 = true := by
      unfold tailB at htl
      rw [Bool.and_eq_true] at htl
      exact htl.1
    obtain ⟨x1, _, _, x4⟩ := exists_ok (z3 hr).1
    simp only [cond_true]
    rw [x1]
    simp only [Option.bind_some]
    rw [x4]
    simp only [Option.bind_some]
    rw [openR_val q z2]
    unfold alightE
    cases (cl (callsOf n (lg L i)) (lg L i).2.2.2.1).2.2.2.2.1 <;> cases opnS n q (lg L i).2.2.2.2.2.1 <;> rfl
noncomputable def endE (n : NetT) (q : QueT) (L : List LegT) : Int :=
  bif !decide ((lg L (L.length - 1)).2.2.2.2.2.1 = q.2.1) then 24 else
  bif q.2.2.2.1 && decide (q.2.2.1 < (lg L (L.length - 1)).2.2.2.2.2.2.2.1) then 10 else
  bif decide (q.2.2.2.2.1 < (ridesN L : Int)) then 33 else
  bif decide (q.2.2.2.2.2.1 < walkW L) then 32 else costE n L
theorem end_val {n : NetT} (hS : Sound n) (hv : F63 n = some true) (hF : n.2.2.2.2.2.1.1.length ≤ 4096) (q : QueT) {L : List LegT} (h0 : 0 < L.length) (hj : L.length ≤ 1000) : F89 n q (L, ()) = some (endE n q L) := by
  unfold F89 endE
  have e : IntKind.wrap .i64 ((L.length : Int) - 1) = ((L.length - 1 : Nat) : Int) := by rw [wrap_i64 (by omega) (by omega)]; omega
  simp only [e, lg_idx (show L.length - 1 < L.length by omega), Option.bind_some]
  refine one_step (and_step ?_)
  refine bind_of (fun r => r = (ridesN L : Int)) ?_ ?_
  · refine run_for L.length _ (fun i (s : Int × Int) => s = ((ridesN (L.take i) : Int), (i : Int))) ?_ ?_ _ rfl
    · rintro i _ hi rfl
      left
      have hb : ridesN (L.take i) ≤ L.length := by
        unfold ridesN
        exact Nat.le_trans (List.length_filter_le _ _) (by rw [List.length_take]; omega)
      have e1 : (bif (L[i]).1 then some !(L[i]).2.2.2.2.2.2.2.2.1 else some false) = some (rideC L[i]) := by
        unfold rideC stayB
        cases (L[i]).1 <;> rfl
      have e2 : ridesN (L.take (i + 1)) = ridesN (L.take i) + (if rideC L[i] then 1 else 0) := by
        unfold ridesN
        rw [List.take_succ_eq_append_getElem hi, List.filter_append, List.length_append]
        cases hr : rideC L[i] <;> simp [hr]
      have w3 : IntKind.wrap .i64 ((ridesN (L.take i) : Int) + 1) = ((ridesN (L.take i) + 1 : Nat) : Int) := by rw [wrap_i64 (by omega) (by omega)]; omega
      simp only [lt_dec hi, cond_true, idx_nat hi, Option.bind_some, wrap_succ hi (show _ ≤ 9223372036854775807 by omega), w3]
      rw [e1, e2]
      cases rideC L[i] <;> exact ⟨_, rfl, rfl⟩
    · rintro _ rfl
      simp only [nlt_dec, cond_false]
      exact ⟨_, rfl, by rw [List.take_length]⟩
  · rintro _ rfl
    refine one_step ?_
    rw [walkR_val L hj]
    simp only [Option.bind_some]
    refine one_step ?_
    obtain ⟨c, h1, h2⟩ := costR_val hS hv hF q L hj
    rw [h1]
    exact congrArg some h2
noncomputable def checkE (n : NetT) (q : QueT) (L : List LegT) : Int × Int :=
  bif !decide (chkQ n q = 0) then (0, chkQ n q) else
  bif decide (L.length = 0) then (bif !decide (q.1 = q.2.1) then (0, 24) else (0, 0)) else
  match firstBad L.length (atE n q L) with
  | some i => ((i : Int), atE n q L i)
  | none => bif !decide (endE n q L = 0) then (((L.length - 1 : Nat) : Int), endE n q L) else (0, 0)
open Classical in
theorem checkR_val {n : NetT} (hf : Fit n) (hF : n.2.2.2.2.2.1.1.length ≤ 4096) (q : QueT) (L : List LegT) (hj : L.length ≤ 1000) : F83 n q (L, ()) = some (checkE n q L) := by
  unfold F83 checkE
  rw [chkQ_ref hf q]
  simp only [Option.bind_some]
  by_cases h0 : chkQ n q = 0
  case neg => rw [decide_eq_false h0]; rfl
  obtain ⟨hW, hq⟩ := chkQ_zero.1 h0
  have hS := hW.sound
  have hv : F63 n = some true := by rw [valid_whole hf, decide_eq_true hW]
  have hq1 : inR q.1 n.1.length = true := by
    unfold qB at hq
    rw [Bool.and_eq_true] at hq
    exact hq.1
  rw [decide_eq_true h0]
  simp only [Bool.not_true, cond_false]
  by_cases hL : L.length = 0
  · rw [decide_eq_true (show (L.length : Int) = 0 by omega), decide_eq_true hL]
    cases decide (q.1 = q.2.1) <;> rfl
  rw [decide_eq_false (show ¬ (L.length : Int) = 0 by omega), decide_eq_false hL]
  simp only [cond_false]
  rw [scan_run (n := L.length) (fun i (s : Int) => s = (i : Int)) (atE n q L) (fun i => .inr ((i : Int), atE n q L i)) (.inl ()) ?_ ?_ ?_ (0 : Int) rfl]
  · unfold pick
    cases firstBad L.length (atE n q L) with
    | some i => rfl
    | none =>
      simp only [Option.bind_some]
      show (Option.bind (F89 n q (L, ())) _) = _
      rw [end_val hS hv hF q (by omega) hj]
      have e : IntKind.wrap .i64 ((L.length : Int) - 1) = ((L.length - 1 : Nat) : Int) := by rw [wrap_i64 (by omega) (by omega)]; omega
      rw [e]
      simp only [Option.bind_some]
      cases decide (endE n q L = 0) <;> rfl
  · rintro i _ hi rfl hc
    refine ⟨((i + 1 : Nat) : Int), ?_, rfl⟩
    simp only [lt_dec hi, cond_true, wrap_succ hi (show _ ≤ 9223372036854775807 by omega)]
    rw [at_val hS hf.paths hq1 hi hj]
    simp only [Option.bind_some]
    rw [hc]; rfl
  · rintro i _ hi rfl hc
    simp only [lt_dec hi, cond_true]
    rw [at_val hS hf.paths hq1 hi hj]
    simp only [Option.bind_some]
    rw [decide_eq_false hc]; rfl
  · rintro _ rfl
    simp only [nlt_dec, cond_false]
open Classical in
theorem check_iff0 (n : NetT) (q : QueT) (L : List LegT) : (checkE n q L).2 = 0 ↔ chkQ n q = 0 ∧ ((L.length = 0 ∧ q.1 = q.2.1) ∨ (L.length ≠ 0 ∧ (∀ i, i < L.length → atE n q L i = 0) ∧ endE n q L = 0)) := by
  unfold checkE
  by_cases h0 : chkQ n q = 0
  case neg => rw [decide_eq_false h0]; simp [h0]
  rw [decide_eq_true h0]
  simp only [Bool.not_true, cond_false]
  by_cases hL : L.length = 0
  · rw [decide_eq_true hL]
    by_cases he : q.1 = q.2.1
    · rw [decide_eq_true he]; simp [h0, hL, he]
    · rw [decide_eq_false he]; simp [h0, hL, he]
  · rw [decide_eq_false hL]
    simp only [cond_false]
    cases hb : firstBad L.length (atE n q L) with
    | some i =>
      have hi := firstBad_spec hb
      simp only
      constructor
      · intro e; exact absurd e hi.2
      · rintro ⟨_, ⟨e, _⟩ | ⟨_, e, _⟩⟩
        · exact absurd e hL
        · exact e i hi.1
    | none =>
      have ha := firstBad_iff.1 hb
      simp only
      by_cases he : endE n q L = 0
      · rw [decide_eq_true he]; simp [h0, hL, he]; exact ha
      · rw [decide_eq_false he]; simp [h0, hL, he]
theorem feasible_val {n : NetT} (hf : Fit n) (hF : n.2.2.2.2.2.1.1.length ≤ 4096) (q : QueT) (L : List LegT) (hj : L.length ≤ 1000) : F85 n q (L, ()) = some (decide ((checkE n q L).2 = 0)) := by
  unfold F85
  rw [checkR_val hf hF q L hj]
  rfl
end Q
