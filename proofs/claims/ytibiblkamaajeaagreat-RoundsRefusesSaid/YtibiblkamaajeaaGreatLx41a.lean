/- Chapter 41: errors. Conditions: texts and lists as a machine can hold them. -/
import Derived.Test.YtibiblkamaajeaaGreatLxFilt41
import Derived.KernelRfl
namespace Q
open Tr Go
theorem example_true : F29 = some true := by kernel_rfl
structure Sized (n : NetT) : Prop where
  stops : n.1.length ≤ 20
  routes : n.2.1.length ≤ 20
  runs : n.2.2.1.length ≤ 20
  links : n.2.2.2.1.length ≤ 20
  paths : n.2.2.2.2.1.length ≤ 200
  prods : n.2.2.2.2.2.1.1.length ≤ 20
  calls : ∀ r ∈ n.2.2.1, r.2.2.2.2.2.2.2.1.length ≤ 40
theorem Sized.few {n : NetT} (h : Sized n) : Few n :=
  ⟨by have := h.stops; omega, by have := h.routes; omega, by have := h.runs; omega, by have := h.links; omega, by have := h.paths; omega, by have := h.prods; omega, fun r hr => by have := h.calls r hr; omega⟩
theorem sized_val (n : NetT) : ∃ b, F31 n = some b ∧ (b = true → Sized n) := by
  unfold F31
  by_cases h1 : (20 : Int) < (n.1.length : Int)
  · rw [decide_eq_true h1]; exact ⟨false, rfl, fun e => (nomatch e)⟩
  by_cases h2 : (20 : Int) < (n.2.1.length : Int)
  · rw [decide_eq_false h1, decide_eq_true h2]; exact ⟨false, rfl, fun e => (nomatch e)⟩
  by_cases h3 : (20 : Int) < (n.2.2.1.length : Int)
  · rw [decide_eq_false h1, decide_eq_false h2, decide_eq_true h3]; exact ⟨false, rfl, fun e => (nomatch e)⟩
  by_cases h4 : (20 : Int) < (n.2.2.2.1.length : Int)
  · rw [decide_eq_false h1, decide_eq_false h2, decide_eq_false h3, decide_eq_true h4]; exact ⟨false, rfl, fun e => (nomatch e)⟩
  by_cases h5 : (200 : Int) < (n.2.2.2.2.1.length : Int)
  · rw [decide_eq_false h1, decide_eq_false h2, decide_eq_false h3, decide_eq_false h4, decide_eq_true h5]; exact ⟨false, rfl, fun e => (nomatch e)⟩
  by_cases h6 : (20 : Int) < (n.2.2.2.2.2.1.1.length : Int)
  · rw [decide_eq_false h1, decide_eq_false h2, decide_eq_false h3, decide_eq_false h4, decide_eq_false h5, decide_eq_true h6]; exact ⟨false, rfl, fun e => (nomatch e)⟩
  rw [decide_eq_false h1, decide_eq_false h2, decide_eq_false h3, decide_eq_false h4, decide_eq_false h5, decide_eq_false h6]
  simp only [cond_false, Option.bind_some]
  have key : ∀ (o : Option (Unit ⊕ Bool)), (∃ r, o = some r ∧ (r = .inr false ∨ r = .inl () ∧ ∀ x ∈ n.2.2.1, x.2.2.2.2.2.2.2.1.length ≤ 40)) → ∃ b, (Option.bind o fun x => Sum.elim (fun _ => some true) (fun y => some y) x) = some b ∧ (b = true → Sized n) := by
    rintro o ⟨r, rfl, rfl | ⟨rfl, h⟩⟩
    · exact ⟨false, rfl, fun e => (nomatch e)⟩
    · exact ⟨true, rfl, fun _ => ⟨by omega, by omega, by omega, by omega, by omega, by omega, h⟩⟩
  refine key _ (run_for n.2.2.1.length _ (fun i (s : Int) => s = (i : Int) ∧ ∀ x ∈ n.2.2.1.take i, x.2.2.2.2.2.2.2.1.length ≤ 40) ?_ ?_ _ ⟨rfl, by simp⟩)
  · rintro i _ hi ⟨rfl, ha⟩
    simp only [lt_dec hi, cond_true, idx_nat hi, Option.bind_some, wrap_succ hi (show _ ≤ 9223372036854775807 by omega)]
    by_cases hc : (40 : Int) < ((n.2.2.1[i]).2.2.2.2.2.2.2.1.length : Int)
    · right
      rw [decide_eq_true hc]
      exact ⟨_, rfl, .inl rfl⟩
    · left
      rw [decide_eq_false hc]
      refine ⟨_, rfl, rfl, fun x hx => ?_⟩
      rw [List.take_succ_eq_append_getElem hi, List.mem_append] at hx
      rcases hx with hx | hx
      · exact ha x hx
      · simp only [List.mem_singleton] at hx
        subst hx
        omega
  · rintro _ ⟨rfl, ha⟩
    simp only [nlt_dec, cond_false]
    rw [List.take_length] at ha
    exact ⟨_, rfl, .inr ⟨rfl, ha⟩⟩
theorem fit41 {n : NetT} (h : Good Y31 n) (hp : n.2.2.2.2.1.length ≤ 4096) : Fit n := by
  obtain ⟨⟨_, h1⟩, ⟨_, h2⟩, ⟨_, h3⟩, _, _, ⟨⟨_, h6⟩, _⟩, _⟩ := h
  refine ⟨fun x hx => ?_, fun x hx => ?_, fun x hx => ?_, fun x hx => ?_, hp, fun x hx => ?_⟩
  · exact (h1 x hx).1
  · exact (h2 x hx).1
  · exact (h3 x hx).2.2.2.1
  · exact (h3 x hx).2.2.2.2.2.2.2.1.1
  · exact (h6 x hx).1
noncomputable def chkF (n : NetT) (q : QueT) : Int := bif !decide (chkQ n q = 0) then chkQ n q else bif q.2.2.2.1 then 22 else 0
theorem checkF_val {n : NetT} (h : Fit n) (q : QueT) : F78 n q = some (chkF n q) := by
  unfold F78 chkF
  rw [chkQ_code h]
  simp only [Option.bind_some]
  cases decide (chkQ n q = 0) <;> cases q.2.2.2.1 <;> rfl
theorem find_err {n : NetT} (h : Fit n) {q : QueT} (he : chkF n q ≠ 0) : F79 n q = none ∧ F80 n q = some ((), [], chkF n q) := by
  constructor
  · unfold F79
    rw [checkF_val h]
    simp only [Option.bind_some, decide_eq_false he, Bool.not_false, cond_true]
  · unfold F80
    rw [checkF_val h]
    simp only [Option.bind_some, decide_eq_false he, Bool.not_false, cond_true]
theorem arrivals_err {n : NetT} (h : Fit n) {q : QueT} (he : chkF n q ≠ 0) : F74 n q = some ([], chkF n q) := by
  obtain ⟨h1, h2⟩ := find_err h he
  unfold F74
  have h3 : (F79S.f (n, q, ())).isSome = false := by
    show (F79 n q).isSome = false
    rw [h1]; rfl
  rw [h3, h2]
  simp only [cond_false]
  simp only [Option.bind_some]
  refine bind_of (fun r => r = []) ⟨[], run_inr ?_, rfl⟩ ?_
  · rfl
  · rintro _ rfl
    rfl
theorem earliest_err {n : NetT} (h : Fit n) {q : QueT} (he : chkF n q ≠ 0) : F75 n q = some (([], ()), chkF n q) := by
  obtain ⟨h1, h2⟩ := find_err h he
  unfold F75
  have h3 : (F79S.f (n, q, ())).isSome = false := by
    show (F79 n q).isSome = false
    rw [h1]; rfl
  rw [h3, h2]
  simp only [cond_false]
  simp only [Option.bind_some, decide_eq_false he, Bool.not_false, cond_true]
theorem fewest_err {n : NetT} (h : Fit n) {q : QueT} (he : chkF n q ≠ 0) (by' : Int) : F76 n q by' = some (0, false) := by
  unfold F76
  rw [arrivals_err h he]
  simp only [Option.bind_some, decide_eq_false he, Bool.not_false, cond_true]
theorem refuses (n : NetT) (h : Good Y31 n) (q : QueT) (by' : Int) : F26 n q by' = some true := by
  unfold F26
  obtain ⟨b, hb1, hb2⟩ := sized_val n
  rw [hb1]
  cases b with
  | false => simp only [Option.bind_some, Bool.not_false, cond_true, example_true]
  | true =>
    have hS := hb2 rfl
    have hfit := fit41 h (by have := hS.paths; omega)
    simp only [Option.bind_some, Bool.not_true, cond_false]
    rw [chkQ_ref hfit]
    simp only [Option.bind_some]
    have fin : ∀ e : Int, chkF n q = e → e ≠ 0 → (bif decide (e = 0) then Option.bind F29 fun x5 => some x5 else
        Option.bind (F74 n q) fun x6 => Option.bind (F75 n q) fun x7 => Option.bind (F76 n q by') fun x8 =>
          Option.bind (bif decide ((x6.1.length : Int) = 0) then bif decide (x6.2 = e) then bif decide ((x7.1.1.length : Int) = 0) then bif decide (x7.2 = e) then bif decide (x8.1 = (0 : Int)) then bif !x8.2 then Option.bind F29 fun x9 => some x9 else some false else some false else some false else some false else some false else some false) fun x10 => some x10) = some true := by
      intro e h1 h2
      have he : chkF n q ≠ 0 := by rw [h1]; exact h2
      rw [decide_eq_false h2, arrivals_err hfit he, earliest_err hfit he, fewest_err hfit he]
      simp only [cond_false, Option.bind_some, List.length_nil, Int.natCast_zero, decide_true, cond_true, h1, Bool.not_false, example_true]
    by_cases hc : chkQ n q = 0
    · rw [decide_eq_true hc]
      cases hb : q.2.2.2.1 with
      | false => simp only [cond_true, cond_false, Option.bind_some, hc, decide_true, example_true]
      | true =>
        simp only [cond_true, Option.bind_some]
        exact fin 22 (by unfold chkF; rw [decide_eq_true hc, hb]; rfl) (by omega)
    · rw [decide_eq_false hc]
      simp only [cond_false, Option.bind_some]
      exact fin _ (by unfold chkF; rw [decide_eq_false hc]; rfl) hc
theorem refusesP (x : ElPs F26A) (h : GoodPs F26A x) : F26 x.1 x.2.1 x.2.2.1 = some true := refuses _ h.1 _ _
end Q
