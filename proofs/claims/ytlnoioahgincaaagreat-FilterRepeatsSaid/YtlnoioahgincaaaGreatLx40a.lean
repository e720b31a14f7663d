/- Chapter 40: what the functions compute, and four laws in plain Lean. Conditions: texts and lists as a machine can hold them. -/
import Derived.Test.YtlnoioahgincaaaGreatLxFilt
namespace Q
open Tr Go
theorem example_true : F33 = some true := by kernel_rfl
theorem run_scan {τ : Type} {step : Int → Option (Int ⊕ τ)} (n : Nat) (E : τ) (hstep : ∀ i : Nat, i < n → step (i : Int) = some (.inl ((i + 1 : Nat) : Int))) (hend : step (n : Int) = some (.inr E)) : run step (0 : Int) = some E := by
  refine Exists.elim (run_for (step := step) n (fun r => r = E) (fun i st => st = (i : Int)) ?_ ?_ (0 : Int) rfl) ?_
  · rintro i _ hi rfl
    exact .inl ⟨_, hstep i hi, rfl⟩
  · rintro _ rfl
    exact ⟨_, hend, rfl⟩
  · rintro r ⟨h1, rfl⟩
    exact h1
structure Few40 (n : NetT) : Prop where
  stops : n.1.length ≤ 70
  routes : n.2.1.length ≤ 70
  runs : n.2.2.1.length ≤ 40
  links : n.2.2.2.1.length ≤ 80
  paths : n.2.2.2.2.1.length ≤ 80
  prods : n.2.2.2.2.2.1.1.length ≤ 20
  calls : ∀ r ∈ n.2.2.1, r.2.2.2.2.2.2.2.1.length ≤ 40
theorem Few40.few {n : NetT} (h : Few40 n) : Few n :=
  ⟨by have := h.stops; omega, by have := h.routes; omega, by have := h.runs; omega, by have := h.links; omega, by have := h.paths; omega, by have := h.prods; omega, fun r hr => by have := h.calls r hr; omega⟩
theorem few_val (n : NetT) : ∃ b, F34 n = some b ∧ (b = true ↔ Few40 n) := by
  unfold F34
  by_cases h1 : (70 : Int) < (n.1.length : Int)
  · rw [decide_eq_true h1]; exact ⟨false, rfl, by simp; intro h; have := h.stops; omega⟩
  by_cases h2 : (70 : Int) < (n.2.1.length : Int)
  · rw [decide_eq_false h1, decide_eq_true h2]; exact ⟨false, rfl, by simp; intro h; have := h.routes; omega⟩
  by_cases h3 : (40 : Int) < (n.2.2.1.length : Int)
  · rw [decide_eq_false h1, decide_eq_false h2, decide_eq_true h3]; exact ⟨false, rfl, by simp; intro h; have := h.runs; omega⟩
  by_cases h4 : (80 : Int) < (n.2.2.2.1.length : Int)
  · rw [decide_eq_false h1, decide_eq_false h2, decide_eq_false h3, decide_eq_true h4]; exact ⟨false, rfl, by simp; intro h; have := h.links; omega⟩
  by_cases h5 : (80 : Int) < (n.2.2.2.2.1.length : Int)
  · rw [decide_eq_false h1, decide_eq_false h2, decide_eq_false h3, decide_eq_false h4, decide_eq_true h5]; exact ⟨false, rfl, by simp; intro h; have := h.paths; omega⟩
  by_cases h6 : (20 : Int) < (n.2.2.2.2.2.1.1.length : Int)
  · rw [decide_eq_false h1, decide_eq_false h2, decide_eq_false h3, decide_eq_false h4, decide_eq_false h5, decide_eq_true h6]; exact ⟨false, rfl, by simp; intro h; have := h.prods; omega⟩
  rw [decide_eq_false h1, decide_eq_false h2, decide_eq_false h3, decide_eq_false h4, decide_eq_false h5, decide_eq_false h6]
  simp only [cond_false, Option.bind_some]
  rw [scan_run (n := n.2.2.1.length) (fun i (st : Int) => st = (i : Int)) (fun i => if 40 < ((n.2.2.1[i]?).getD u0).2.2.2.2.2.2.2.1.length then 1 else 0) (fun _ => .inr false) (.inl ()) ?_ ?_ ?_ (0 : Int) rfl]
  · unfold pick
    cases hb : firstBad n.2.2.1.length (fun i => if 40 < ((n.2.2.1[i]?).getD u0).2.2.2.2.2.2.2.1.length then 1 else 0) with
    | none =>
      refine ⟨true, rfl, ?_⟩
      have hb := firstBad_iff.1 hb
      simp only [true_iff]
      refine ⟨by omega, by omega, by omega, by omega, by omega, by omega, fun r hr => ?_⟩
      obtain ⟨i, hi, rfl⟩ := List.getElem_of_mem hr
      have := hb i hi
      rw [getD_of hi] at this
      split at this
      · omega
      · omega
    | some i =>
      refine ⟨false, rfl, ?_⟩
      obtain ⟨hi, hb⟩ := firstBad_spec hb
      have hi' : i < n.2.2.1.length := by first | exact hi | exact hi.1
      simp only [Bool.false_eq_true, false_iff]
      intro h
      have := h.calls _ (List.getElem_mem hi')
      apply hb
      rw [getD_of hi', if_neg (by omega)]
  · rintro i _ hi rfl hc
    rw [getD_of hi] at hc
    split at hc
    · omega
    · next hh =>
      refine ⟨((i + 1 : Nat) : Int), ?_, rfl⟩
      simp only [lt_dec hi, cond_true, idx_nat hi, Option.bind_some, decide_eq_false (show ¬ (40 : Int) < ((n.2.2.1[i]).2.2.2.2.2.2.2.1.length : Int) by omega), cond_false, wrap_succ hi (show n.2.2.1.length ≤ 9223372036854775807 by omega)]
  · rintro i _ hi rfl hc
    rw [getD_of hi] at hc
    split at hc
    · next hh =>
      simp only [lt_dec hi, cond_true, idx_nat hi, Option.bind_some, decide_eq_true (show (40 : Int) < ((n.2.2.1[i]).2.2.2.2.2.2.2.1.length : Int) by omega)]
    · omega
  · rintro _ rfl
    simp only [nlt_dec, cond_false]
theorem fit40 {n : NetT} (h : Good Y31 n) (hp : n.2.2.2.2.1.length ≤ 4096) : Fit n := by
  obtain ⟨⟨_, h1⟩, ⟨_, h2⟩, ⟨_, h3⟩, _, _, ⟨⟨_, h6⟩, _⟩, _⟩ := h
  refine ⟨fun x hx => ?_, fun x hx => ?_, fun x hx => ?_, fun x hx => ?_, hp, fun x hx => ?_⟩
  · exact (h1 x hx).1
  · exact (h2 x hx).1
  · exact (h3 x hx).2.2.2.1
  · exact (h3 x hx).2.2.2.2.2.2.2.1.1
  · exact (h6 x hx).1
theorem useRef_val {n : NetT} (hS : Sound n) (q : QueT) {i : Nat} (hi : i < n.2.2.1.length) : F103 n q (i : Int) = some (useR n q n.2.2.1[i]) := by
  obtain ⟨h1, h2⟩ := ro_idx hS (List.getElem_mem hi)
  have hm := (hS.mode _ h2).1
  unfold F103
  rw [idx_nat hi]
  simp only [Option.bind_some]
  rw [h1]
  simp only [Option.bind_some]
  unfold useR Tr.useB Tr.qshr
  rw [if_neg (show ¬ (roOf n n.2.2.1[i]).2.1 < 0 by omega)]
  simp only [Option.bind_some]
  rw [show IntKind.bits .i64 = 64 from rfl]
  generalize (n.2.2.1[i]).2.2.2.2.2.2.1 = b1
  generalize (n.2.2.1[i]).2.2.2.2.2.1 = b2
  generalize q.2.2.2.2.2.2.1 = b3
  generalize (roOf n n.2.2.1[i]).2.2.1 = b4
  generalize q.2.2.2.2.2.2.2.1 = b5
  generalize decide (Tr.qand .i64 (Int.fdiv q.2.2.2.2.2.2.2.2.1 (2 ^ min (Int.toNat (roOf n n.2.2.1[i]).2.1) 64)) 1 = 1) = b6
  generalize decide (q.2.2.2.2.2.2.2.2.1 = (0 : Int)) = b7
  cases b1 <;> try rfl
  cases b2 <;> cases b3 <;> cases b4 <;> cases b5 <;> cases b6 <;> cases b7 <;> rfl
theorem openRef_val {n : NetT} (q : QueT) {s : Int} (h : Tr.idx n.1 s = some (stOf n s)) : F99 n q s = some (opnS n q s) := by
  unfold F99 opnS
  rw [h]
  cases q.2.2.2.2.2.2.1 <;> simp
theorem callsRef_val {n : NetT} (hS : Sound n) (q : QueT) {r : RunT} (hr : r ∈ n.2.2.1) : F105 n q r.2.2.2.2.2.2.2.1 = some (r.2.2.2.2.2.2.2.1.map (closeC n q)) := by
  have hl := (hS.many _ hr).2
  unfold F105
  rw [run_list r.2.2.2.2.2.2.2.1 (fun c => [closeC n q c]) id ?_ ?_]
  · simp only [Option.bind_some, id, flat_map]
  · intro i hi
    have hc := List.getElem_mem hi
    simp only [lt_dec hi, cond_true, idx_nat hi, Option.bind_some]
    rw [openRef_val q (st_idx hS hr hc)]
    have hb := flat_few (f := fun c => [closeC n q c]) (by simp) (r.2.2.2.2.2.2.2.1.take i)
    rw [List.length_take] at hb
    simp only [Option.bind_some]
    have e : (bif !opnS n q (r.2.2.2.2.2.2.2.1[i]).1 then some (((r.2.2.2.2.2.2.2.1[i]).1, (r.2.2.2.2.2.2.2.1[i]).2.1, (r.2.2.2.2.2.2.2.1[i]).2.2.1, false, false, (r.2.2.2.2.2.2.2.1[i]).2.2.2.2.2) : CallT) else some r.2.2.2.2.2.2.2.1[i]) = some (closeC n q r.2.2.2.2.2.2.2.1[i]) := by
      unfold closeC
      cases opnS n q (r.2.2.2.2.2.2.2.1[i]).1 <;> rfl
    erw [e]
    simp only [Option.bind_some]
    rw [guard_app (by simp; simp at hb; omega), wrap_succ hi (by omega)]
    rfl
  · simp only [nlt_dec, cond_false]; rfl
theorem allowedRef_val {n : NetT} (hS : Sound n) (hF : Few n) (q : QueT) : F97 n q = some (allowA n q) := by
  unfold F97
  refine bind_of (fun r : NetT => r = (n.1, n.2.1, n.2.2.1.map (allowR n q), n.2.2.2.1, [], n.2.2.2.2.2.1, ())) (run_for n.2.2.1.length _ (fun i (st : NetT × Int) => st = ((n.1, n.2.1, (n.2.2.1.take i).map (allowR n q), n.2.2.2.1, [], n.2.2.2.2.2.1, ()), (i : Int))) ?_ ?_ _ (by simp)) ?_
  · rintro i _ hi rfl
    left
    have hr := List.getElem_mem hi
    have hb : ((n.2.2.1.take i).map (allowR n q)).length ≤ 4096 := by have := hF.runs; simp; omega
    simp only [lt_dec hi, cond_true, idx_nat hi, Option.bind_some, useRef_val hS q hi, callsRef_val hS q hr]
    rw [guard_app (by simp at hb ⊢; omega), wrap_succ hi (by have := hF.runs; omega)]
    refine ⟨_, rfl, ?_⟩
    rw [List.take_succ_eq_append_getElem hi, List.map_append]
    rfl
  · rintro _ rfl
    refine ⟨_, by simp only [nlt_dec, cond_false]; rfl, ?_⟩
    rw [List.take_length]
  · rintro _ rfl
    refine bind_of (fun r : NetT => r = allowA n q) (run_for n.2.2.2.2.1.length _ (fun i (st : NetT × Int) => st = ((n.1, n.2.1, n.2.2.1.map (allowR n q), n.2.2.2.1, (n.2.2.2.2.1.take i).filter (fun p => !q.2.2.2.2.2.2.1 || p.2.2.2.1), n.2.2.2.2.2.1, ()), (i : Int))) ?_ ?_ _ (by simp)) ?_
    · rintro i _ hi rfl
      left
      have hb := List.length_filter_le (fun p : Foot => !q.2.2.2.2.2.2.1 || p.2.2.2.1) (n.2.2.2.2.1.take i)
      rw [List.length_take] at hb
      have hp := hF.paths
      simp only [lt_dec hi, cond_true, idx_nat hi, Option.bind_some]
      rw [wrap_succ hi (by omega), List.take_succ_eq_append_getElem hi, List.filter_append]
      have e : (bif !q.2.2.2.2.2.2.1 then some true else some (n.2.2.2.2.1[i]).2.2.2.1) = some (!q.2.2.2.2.2.2.1 || (n.2.2.2.2.1[i]).2.2.2.1) := by cases q.2.2.2.2.2.2.1 <;> rfl
      rw [e]
      simp only [Option.bind_some]
      cases hv : (!q.2.2.2.2.2.2.1 || (n.2.2.2.2.1[i]).2.2.2.1) with
      | false =>
        refine ⟨_, rfl, ?_⟩
        simp [hv]
      | true =>
        simp only [cond_true]
        rw [guard_app (by simp at hb ⊢; omega)]
        refine ⟨_, rfl, ?_⟩
        simp [hv]
    · rintro _ rfl
      refine ⟨_, by simp only [nlt_dec, cond_false]; rfl, ?_⟩
      rw [List.take_length]
      unfold allowA pathsA
      cases q.2.2.2.2.2.2.1 <;> simp
    · rintro _ rfl
      rfl
theorem sameCalls_self (l : List CallT) (hl : l.length ≤ 4096) : F59 l l = some true := by
  unfold F59
  rw [decide_eq_true rfl]
  simp only [Bool.not_true, cond_false]
  rw [run_scan l.length (.inl ()) ?_ ?_]
  · rfl
  · intro i hi
    simp only [lt_dec hi, cond_true, idx_nat hi, Option.bind_some, decide_true, beq_self_eq_true, Bool.and_self, Bool.not_true, cond_false, wrap_succ hi (show l.length ≤ 9223372036854775807 by omega)]
  · simp only [nlt_dec, cond_false]
theorem sameRuns_self (l : List RunT) (hl : l.length ≤ 4096) (hc : ∀ r ∈ l, r.2.2.2.2.2.2.2.1.length ≤ 4096) : F61 l l = some true := by
  unfold F61
  rw [decide_eq_true rfl]
  simp only [Bool.not_true, cond_false]
  rw [run_scan l.length (.inl ()) ?_ ?_]
  · rfl
  · intro i hi
    simp only [lt_dec hi, cond_true, idx_nat hi, Option.bind_some, decide_true, beq_self_eq_true, Bool.not_true, cond_false, sameCalls_self _ (hc _ (List.getElem_mem hi)), wrap_succ hi (show l.length ≤ 9223372036854775807 by omega)]
  · simp only [nlt_dec, cond_false]
theorem sameFares_self (f : FaresT) (hl : f.1.length ≤ 4096) : F60 f f = some true := by
  unfold F60
  simp only [decide_true, Bool.not_true, cond_false, Option.bind_some]
  rw [run_scan f.1.length (.inl ()) ?_ ?_]
  · rfl
  · intro i hi
    simp only [lt_dec hi, cond_true, idx_nat hi, Option.bind_some, decide_true, Bool.and_self, Bool.not_true, cond_false, wrap_succ hi (show f.1.length ≤ 9223372036854775807 by omega)]
  · simp only [nlt_dec, cond_false]
theorem equal_self {n : NetT} (h : Few n) : F57 n n = some true := by
  unfold F57
  simp only [decide_true, Bool.not_true, cond_false, Option.bind_some]
  rw [run_scan n.1.length (.inl ()) ?_ ?_]
  · simp only [Option.bind_some, Sum.elim_inl]
    rw [run_scan n.2.1.length (.inl ()) ?_ ?_]
    · simp only [Option.bind_some, Sum.elim_inl]
      rw [run_scan n.2.2.2.1.length (.inl ()) ?_ ?_]
      · simp only [Option.bind_some, Sum.elim_inl]
        rw [run_scan n.2.2.2.2.1.length (.inl ()) ?_ ?_]
        · simp only [Option.bind_some, Sum.elim_inl]
          rw [sameRuns_self _ h.runs h.calls, sameFares_self _ h.prods]
          rfl
        · intro i hi
          simp only [lt_dec hi, cond_true, idx_nat hi, Option.bind_some, decide_true, beq_self_eq_true, Bool.and_self, Bool.not_true, cond_false, wrap_succ hi (show n.2.2.2.2.1.length ≤ 9223372036854775807 by have := h.paths; omega)]
        · simp only [nlt_dec, cond_false]
      · intro i hi
        simp only [lt_dec hi, cond_true, idx_nat hi, Option.bind_some, decide_true, beq_self_eq_true, Bool.and_self, Bool.not_true, cond_false, wrap_succ hi (show n.2.2.2.1.length ≤ 9223372036854775807 by have := h.links; omega)]
      · simp only [nlt_dec, cond_false]
    · intro i hi
      simp only [lt_dec hi, cond_true, idx_nat hi, Option.bind_some, decide_true, beq_self_eq_true, Bool.and_self, Bool.not_true, cond_false, wrap_succ hi (show n.2.1.length ≤ 9223372036854775807 by have := h.routes; omega)]
    · simp only [nlt_dec, cond_false]
  · intro i hi
    simp only [lt_dec hi, cond_true, idx_nat hi, Option.bind_some, decide_true, beq_self_eq_true, Bool.and_self, Bool.not_true, cond_false, wrap_succ hi (show n.1.length ≤ 9223372036854775807 by have := h.stops; omega)]
  · simp only [nlt_dec, cond_false]
theorem allowed_err {n : NetT} {q : QueT} (h : F5 n q = some (chkQ n q)) (hz : chkQ n q ≠ 0) : F7 n q = some (([], [], [], [], [], ([], 0, 0, 0, ()), ()), chkQ n q) := by
  unfold F7
  rw [h]
  simp only [Option.bind_some, decide_eq_false hz, Bool.not_false, cond_true]
theorem empty_equal : F57 ([], [], [], [], [], ([], 0, 0, 0, ()), ()) ([], [], [], [], [], ([], 0, 0, 0, ()), ()) = some true :=
  equal_self (n := ([], [], [], [], [], ([], 0, 0, 0, ()), ())) ⟨by simp, by simp, by simp, by simp, by simp, by simp, by simp⟩
theorem allows (n : NetT) (h : Good Y31 n) (q : QueT) : F28 n q = some true := by
  unfold F28
  obtain ⟨b, hb1, hb2⟩ := few_val n
  rw [hb1]
  cases b with
  | false => simp only [Option.bind_some, Bool.not_false, cond_true, example_true]
  | true =>
    have hF4 := hb2.1 rfl
    have hF := hF4.few
    have hfit := fit40 h hF.paths
    simp only [Option.bind_some, Bool.not_true, cond_false]
    rw [chkQ_ref hfit]
    by_cases hz : chkQ n q = 0
    · obtain ⟨hW, hq⟩ := chkQ_zero.1 hz
      have hS := hW.sound
      rw [allowed_val hS hF q (by rw [chkQ_code hfit, hz]), allowedRef_val hS hF q]
      simp only [Option.bind_some, hz, decide_true, Bool.not_true, cond_false, equal_self (allow_few q hF), cond_true, example_true]
    · rw [allowed_err (chkQ_code hfit q) hz]
      simp only [Option.bind_some, decide_true, Bool.not_true, cond_false, decide_eq_false hz, Bool.not_false, cond_true]
      erw [empty_equal]
      simp only [Option.bind_some, cond_true, example_true]
theorem allowsP (x : ElPs F28A) (h : GoodPs F28A x) : F28 x.1 x.2.1 = some true := allows _ h.1 _
def runsL (n : NetT) (q : QueT) : List Int := (List.range n.2.2.1.length).flatMap fun (i : Nat) => if useR n q ((n.2.2.1[i]?).getD u0) then [(i : Int)] else []
def stopsL (n : NetT) (q : QueT) : List Int := (List.range n.1.length).flatMap fun (i : Nat) => if opnS n q (i : Int) then [(i : Int)] else []
theorem range_few {g : Nat → List Int} (hg : ∀ i, (g i).length ≤ 1) (n : Nat) : ((List.range n).flatMap g).length ≤ n := by
  have := flat_few hg (List.range n)
  rwa [List.length_range] at this
theorem st_nat {n : NetT} {i : Nat} (hi : i < n.1.length) : Tr.idx n.1 (i : Int) = some (stOf n (i : Int)) := by
  rw [idx_nat hi]
  unfold stOf
  rw [Int.toNat_natCast, getD_of hi]
theorem runs_val' {n : NetT} (hS : Sound n) (q : QueT) (hq : F5 n q = some 0) : F8 n q = some (runsL n q, 0) := by
  unfold F8
  rw [hq]
  simp only [Option.bind_some, decide_true, Bool.not_true, cond_false]
  have hl := hS.runs
  rw [run_flat n.2.2.1.length (fun i => if useR n q ((n.2.2.1[i]?).getD u0) then [(i : Int)] else []) id ?_ ?_]
  · rfl
  · intro i hi
    have hb := range_few (g := fun i => if useR n q ((n.2.2.1[i]?).getD u0) then [(i : Int)] else []) (fun i => by split <;> simp) i
    simp only [lt_dec hi, cond_true, idx_nat hi, Option.bind_some, use_val hS q (List.getElem_mem hi), getD_of hi, wrap_succ hi (show n.2.2.1.length ≤ 9223372036854775807 by omega)]
    cases useR n q n.2.2.1[i] with
    | true =>
      simp only [cond_true, if_true]
      rw [guard_app (by simp at hb ⊢; omega)]
      rfl
    | false => simp
  · simp only [nlt_dec, cond_false]; rfl
theorem stops_val' {n : NetT} (hS : Sound n) (q : QueT) (hq : F5 n q = some 0) : F9 n q = some (stopsL n q, 0) := by
  unfold F9
  rw [hq]
  simp only [Option.bind_some, decide_true, Bool.not_true, cond_false]
  have hl := hS.stops
  rw [run_flat n.1.length (fun i => if opnS n q (i : Int) then [(i : Int)] else []) id ?_ ?_]
  · rfl
  · intro i hi
    have hb := range_few (g := fun i => if opnS n q (i : Int) then [(i : Int)] else []) (fun i => by split <;> simp) i
    simp only [lt_dec hi, cond_true, Option.bind_some, open_val q (st_nat hi), wrap_succ hi (show n.1.length ≤ 9223372036854775807 by omega)]
    cases opnS n q (i : Int) with
    | true =>
      simp only [cond_true, if_true]
      rw [guard_app (by simp at hb ⊢; omega)]
      rfl
    | false => simp
  · simp only [nlt_dec, cond_false]; rfl
theorem runsRef_val {n : NetT} (hS : Sound n) (q : QueT) : F100 n q = some (runsL n q) := by
  unfold F100
  have hl := hS.runs
  rw [run_flat n.2.2.1.length (fun i => if useR n q ((n.2.2.1[i]?).getD u0) then [(i : Int)] else []) id ?_ ?_]
  · rfl
  · intro i hi
    have hb := range_few (g := fun i => if useR n q ((n.2.2.1[i]?).getD u0) then [(i : Int)] else []) (fun i => by split <;> simp) i
    simp only [lt_dec hi, cond_true, Option.bind_some, useRef_val hS q hi, getD_of hi, wrap_succ hi (show n.2.2.1.length ≤ 9223372036854775807 by omega)]
    cases useR n q n.2.2.1[i] with
    | true =>
      simp only [cond_true, if_true]
      rw [guard_app (by simp at hb ⊢; omega)]
      rfl
    | false => simp
  · simp only [nlt_dec, cond_false]; rfl
theorem stopsRef_val {n : NetT} (hS : Sound n) (q : QueT) : F102 n q = some (stopsL n q) := by
  unfold F102
  have hl := hS.stops
  rw [run_flat n.1.length (fun i => if opnS n q (i : Int) then [(i : Int)] else []) id ?_ ?_]
  · rfl
  · intro i hi
    have hb := range_few (g := fun i => if opnS n q (i : Int) then [(i : Int)] else []) (fun i => by split <;> simp) i
    simp only [lt_dec hi, cond_true, Option.bind_some, openRef_val q (st_nat hi), wrap_succ hi (show n.1.length ≤ 9223372036854775807 by omega)]
    cases opnS n q (i : Int) with
    | true =>
      simp only [cond_true, if_true]
      rw [guard_app (by simp at hb ⊢; omega)]
      rfl
    | false => simp
  · simp only [nlt_dec, cond_false]; rfl
theorem runsL_len (n : NetT) (q : QueT) : (runsL n q).length ≤ n.2.2.1.length := range_few (fun i => by split <;> simp) _
theorem stopsL_len (n : NetT) (q : QueT) : (stopsL n q).length ≤ n.1.length := range_few (fun i => by split <;> simp) _
theorem same_self (l : List Int) (hl : l.length ≤ 4096) : F101 l l = some true := by
  unfold F101
  rw [decide_eq_true rfl]
  simp only [Bool.not_true, cond_false]
  rw [run_scan l.length (.inl ()) ?_ ?_]
  · rfl
  · intro i hi
    simp only [lt_dec hi, cond_true, idx_nat hi, Option.bind_some, decide_true, Bool.not_true, cond_false, wrap_succ hi (show l.length ≤ 9223372036854775807 by omega)]
  · simp only [nlt_dec, cond_false]
theorem lists (n : NetT) (h : Good Y31 n) (q : QueT) : F30 n q = some true := by
  unfold F30
  obtain ⟨b, hb1, hb2⟩ := few_val n
  rw [hb1]
  cases b with
  | false => simp only [Option.bind_some, Bool.not_false, cond_true, example_true]
  | true =>
    have hF4 := hb2.1 rfl
    have hF := hF4.few
    have hfit := fit40 h hF.paths
    simp only [Option.bind_some, Bool.not_true, cond_false]
    rw [chkQ_ref hfit]
    by_cases hz : chkQ n q = 0
    · obtain ⟨hW, hq⟩ := chkQ_zero.1 hz
      have hS := hW.sound
      have hc : F5 n q = some 0 := by rw [chkQ_code hfit, hz]
      have l1 := runsL_len n q
      have l2 := stopsL_len n q
      have l3 := hF.runs
      have l4 := hF.stops
      rw [runs_val' hS q hc, stops_val' hS q hc, runsRef_val hS q, stopsRef_val hS q]
      simp only [Option.bind_some, hz, decide_true, Bool.not_true, cond_false, same_self _ (show (runsL n q).length ≤ 4096 by omega), same_self _ (show (stopsL n q).length ≤ 4096 by omega), cond_true, example_true]
    · have e1 : F8 n q = some ([], chkQ n q) := by
        unfold F8
        rw [chkQ_code hfit]
        simp only [Option.bind_some, decide_eq_false hz, Bool.not_false, cond_true]
      have e2 : F9 n q = some ([], chkQ n q) := by
        unfold F9
        rw [chkQ_code hfit]
        simp only [Option.bind_some, decide_eq_false hz, Bool.not_false, cond_true]
      rw [e1, e2]
      simp only [Option.bind_some, decide_true, Bool.not_true, cond_false, decide_eq_false hz, Bool.not_false, cond_true, List.length_nil, example_true]
      rfl
theorem listsP (x : ElPs F30A) (h : GoodPs F30A x) : F30 x.1 x.2.1 = some true := lists _ h.1 _
end Q
