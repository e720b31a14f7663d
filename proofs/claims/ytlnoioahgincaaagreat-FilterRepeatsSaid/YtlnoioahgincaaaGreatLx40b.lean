/- Chapter 40: the laws without the reference: relaxed queries, repeated filters. Conditions: texts and lists as a machine can hold them. -/
import Derived.Test.YtlnoioahgincaaaGreatLx40a
namespace Q
open Tr Go
theorem sub_tail {x y : Int} {l m : List Int} (h : (x :: l).Sublist (y :: m)) (he : ¬ y = x) : (x :: l).Sublist m := by
  cases h with
  | cons _ h => exact h
  | _ => exact absurd rfl he
theorem subl_val {b : List Int} (hbl : b.length ≤ 4096) {a : List Int} (hal : a.length ≤ 4096) (h : a.Sublist b) : F104 a b = some true := by
  unfold F104
  refine bind_of (fun r => r = .inl ()) (run_for a.length _ (fun i (st : Int × Int) => ∃ k : Nat, st = ((k : Int), (i : Int)) ∧ k ≤ b.length ∧ (a.drop i).Sublist (b.drop k)) ?_ ?_ _ ⟨0, rfl, Nat.zero_le _, by simpa using h⟩) ?_
  · rintro i _ hi ⟨k, rfl, hk, hs⟩
    left
    simp only [lt_dec hi, cond_true]
    -- the inner loop stops at the element
    have key : ∀ (m k : Nat), b.length - k = m → k ≤ b.length → (a.drop i).Sublist (b.drop k) → ∃ k' : Nat, k' < b.length ∧ (a.drop i).Sublist (b.drop k') ∧ run (fun s1 : Int =>
 Option.bind
 (bif decide (s1 < (↑(List.length b) : Int)) then Option.bind (idx b s1) fun x2 => Option.bind (idx a (i : Int)) fun x3 => some !decide (x2 = x3)
 else some false)
 fun x4 => bif x4 then some (Sum.inl (IntKind.wrap .i64 (s1 + (1 : Int)))) else some (.inr s1)) (k : Int) = some (k' : Int) := by
      intro m
      induction m with
      | zero =>
        intro k hm hk hs
        rw [List.drop_eq_nil_of_le (show b.length ≤ k by omega), List.drop_eq_getElem_cons hi] at hs
        cases hs
      | succ m ih =>
        intro k hm hk hs
        have hk' : k < b.length := by omega
        by_cases he : b[k] = a[i]
        · refine ⟨k, hk', hs, run_inr ?_⟩
          simp only [lt_dec hk', cond_true, idx_nat hk', idx_nat hi, Option.bind_some, he, decide_true, Bool.not_true, cond_false]
        · obtain ⟨k', h1, h2, h3⟩ := ih (k + 1) (by omega) (by omega) (by
            rw [List.drop_eq_getElem_cons hk', List.drop_eq_getElem_cons hi] at hs
            rw [List.drop_eq_getElem_cons hi]
            exact sub_tail hs he)
          refine ⟨k', h1, h2, ?_⟩
          rw [run_inl (s' := ((k + 1 : Nat) : Int))]
          · exact h3
          · simp only [lt_dec hk', cond_true, idx_nat hk', idx_nat hi, Option.bind_some, decide_eq_false he, Bool.not_false, wrap_succ hk' (show b.length ≤ 9223372036854775807 by omega)]
    obtain ⟨k', h1, h2, h3⟩ := key _ k rfl hk hs
    refine ⟨((k' : Int), ((i + 1 : Nat) : Int)), ?_, k', rfl, by omega, ?_⟩
    · refine (congrArg (fun o => Option.bind o _) h3).trans ?_
      simp only [Option.bind_some, decide_eq_false (show ¬ (k' : Int) = (b.length : Int) by omega), cond_false, wrap_succ hi (show a.length ≤ 9223372036854775807 by omega)]
    · rw [List.drop_eq_getElem_cons hi] at h2
      exact (List.sublist_cons_self _ _).trans h2
  · rintro _ ⟨k, rfl, _⟩
    exact ⟨_, by simp only [nlt_dec, cond_false], rfl⟩
  · rintro _ rfl
    rfl
theorem flat_sub {α β : Type} {f g : α → List β} (h : ∀ x, (f x).Sublist (g x)) (l : List α) : (l.flatMap f).Sublist (l.flatMap g) := by
  induction l with
  | nil => exact .slnil
  | cons x l ih => simp only [List.flatMap_cons]; exact (h x).append ih
structure Eases (x q : QueT) : Prop where
  sf : x.2.2.2.2.2.2.1 = true → q.2.2.2.2.2.2.1 = true
  bi : x.2.2.2.2.2.2.2.1 = true → q.2.2.2.2.2.2.2.1 = true
  mo : x.2.2.2.2.2.2.2.2.1 = 0 ∨ x.2.2.2.2.2.2.2.2.1 = q.2.2.2.2.2.2.2.2.1
theorem use_ease {n : NetT} {x q : QueT} (h : Eases x q) (r : RunT) (hu : useR n q r = true) : useR n x r = true := by
  unfold useR Tr.useB at hu ⊢
  simp only [Bool.and_eq_true, Bool.or_eq_true, Bool.not_eq_true', decide_eq_true_eq] at hu ⊢
  obtain ⟨h1, h2, h3, h4⟩ := hu
  refine ⟨h1, h2.imp id fun e => ?_, h3.imp id fun e => ?_, ?_⟩
  · cases hx : x.2.2.2.2.2.2.1 with
    | false => rfl
    | true => rw [h.sf hx] at e; cases e
  · cases hx : x.2.2.2.2.2.2.2.1 with
    | false => rfl
    | true => rw [h.bi hx] at e; cases e
  · rcases h.mo with e | e
    · exact .inl e
    · rw [e]; exact h4
theorem open_ease {n : NetT} {x q : QueT} (h : Eases x q) (s : Int) (hu : opnS n q s = true) : opnS n x s = true := by
  unfold opnS at hu ⊢
  simp only [Bool.or_eq_true, Bool.not_eq_true'] at hu ⊢
  refine hu.imp id fun e => ?_
  cases hx : x.2.2.2.2.2.2.1 with
  | false => rfl
  | true => rw [h.sf hx] at e; cases e
theorem runs_sub {n : NetT} {x q : QueT} (h : Eases x q) : (runsL n q).Sublist (runsL n x) := by
  refine flat_sub (fun i => ?_) _
  by_cases hu : useR n q ((n.2.2.1[i]?).getD u0) = true
  · rw [if_pos hu, if_pos (use_ease h _ hu)]; exact .refl _
  · rw [if_neg hu]; exact List.nil_sublist _
theorem stops_sub {n : NetT} {x q : QueT} (h : Eases x q) : (stopsL n q).Sublist (stopsL n x) := by
  refine flat_sub (fun i => ?_) _
  by_cases hu : opnS n q (i : Int) = true
  · rw [if_pos hu, if_pos (open_ease h _ hu)]; exact .refl _
  · rw [if_neg hu]; exact List.nil_sublist _
def freeQ (q : QueT) : QueT := (q.1, q.2.1, q.2.2.1, q.2.2.2.1, q.2.2.2.2.1, q.2.2.2.2.2.1, false, false, 0, q.2.2.2.2.2.2.2.2.2)
theorem free_val (q : QueT) : F98 q = some (freeQ q) := rfl
theorem free_eases (q : QueT) : Eases (freeQ q) q := ⟨fun h => (nomatch h), fun h => (nomatch h), .inl rfl⟩
theorem qB_free {k : Nat} {q : QueT} (h : qB k q = true) : qB k (freeQ q) = true := by
  unfold qB at h ⊢
  simp only [Bool.and_eq_true, decide_eq_true_eq] at h ⊢
  obtain ⟨h1, h2, h3, h4, h5, _, h7⟩ := h
  exact ⟨h1, h2, h3, h4, h5, ⟨Int.le_refl 0, by show (0 : Int) ≤ 255; decide⟩, h7⟩
theorem relaxes (n : NetT) (h : Good Y31 n) (q : QueT) : F31 n q = some true := by
  unfold F31
  obtain ⟨b, hb1, hb2⟩ := few_val n
  rw [hb1]
  cases b with
  | false => simp only [Option.bind_some, Bool.not_false, cond_true, example_true]
  | true =>
    have hF4 := hb2.1 rfl
    have hF := hF4.few
    have hfit := fit40 h hF.paths
    simp only [Option.bind_some, Bool.not_true, cond_false]
    rw [chkQ_ref hfit]
    by_cases hz : chkQ n q = 0
    · obtain ⟨hW, hq⟩ := chkQ_zero.1 hz
      have hS := hW.sound
      have hc : ∀ x : QueT, qB n.1.length x = true → F5 n x = some 0 := fun x hx => by rw [chkQ_code hfit, chkQ_zero.2 ⟨hW, hx⟩]
      have l3 := hF.runs
      have l4 := hF.stops
      simp only [Option.bind_some, hz, decide_true, Bool.not_true, cond_false]
      rw [runs_val' hS q (hc q hq), stops_val' hS q (hc q hq), free_val]
      simp only [Option.bind_some]
      have hq7 := qB_free hq
      have key : ∀ L : List QueT, L.length = 4 → (∀ x ∈ L, Eases x q ∧ qB n.1.length x = true) → Option.bind (Tr.run (fun s7 : Int =>
          bif decide (s7 < (↑(List.length L) : Int)) then
          Option.bind (Tr.inb s7 (List.length L)) fun x8 =>
          Option.bind L[x8]? fun x9 =>
          Option.bind (F8 n x9) fun x10 =>
          Option.bind (F9 n x9) fun x11 =>
          Option.bind
          (bif !decide ((runsL n q, (0 : Int)).2 = (0 : Int)) then some true
          else
          bif !decide ((stopsL n q, (0 : Int)).2 = (0 : Int)) then some true
          else
          bif !decide (x10.2 = (0 : Int)) then some true
          else
          bif !decide (x11.2 = (0 : Int)) then some true
          else
          Option.bind (F104 (runsL n q, (0 : Int)).1 x10.1) fun x12 =>
          bif !x12 then some true else Option.bind (F104 (stopsL n q, (0 : Int)).1 x11.1) fun x13 => some !x13)
          fun x14 => bif x14 then some (.inr (.inr false)) else some (.inl (IntKind.wrap .i64 (s7 + (1 : Int))))
          else some (.inr (.inl ()))) (0 : Int)) (fun x15 => Sum.elim (fun _ => Option.bind F33 fun x17 => some x17) (fun y18 => some y18) x15) = some true := by
        intro L hlen hall
        rw [run_scan L.length (.inl ()) ?_ ?_]
        · simp only [Option.bind_some, Sum.elim_inl, example_true]
        · intro i hi
          obtain ⟨he, hx⟩ := hall _ (List.getElem_mem hi)
          have a1 := runsL_len n q
          have a2 := stopsL_len n q
          have a3 := runsL_len n L[i]
          have a4 := stopsL_len n L[i]
          simp only [lt_dec hi, cond_true, inb_nat hi, Option.bind_some, List.getElem?_eq_getElem hi]
          rw [runs_val' hS _ (hc _ hx), stops_val' hS _ (hc _ hx)]
          simp only [Option.bind_some, decide_true, Bool.not_true, cond_false, subl_val (show (runsL n L[i]).length ≤ 4096 by omega) (show (runsL n q).length ≤ 4096 by omega) (runs_sub he), subl_val (show (stopsL n L[i]).length ≤ 4096 by omega) (show (stopsL n q).length ≤ 4096 by omega) (stops_sub he), wrap_succ hi (show L.length ≤ 9223372036854775807 by omega)]
        · simp only [nlt_dec, cond_false]
      refine key [(q.1, q.2.1, q.2.2.1, q.2.2.2.1, q.2.2.2.2.1, q.2.2.2.2.2.1, false, q.2.2.2.2.2.2.2), (q.1, q.2.1, q.2.2.1, q.2.2.2.1, q.2.2.2.2.1, q.2.2.2.2.2.1, q.2.2.2.2.2.2.1, false, q.2.2.2.2.2.2.2.2), (q.1, q.2.1, q.2.2.1, q.2.2.2.1, q.2.2.2.2.1, q.2.2.2.2.2.1, q.2.2.2.2.2.2.1, q.2.2.2.2.2.2.2.1, (0 : Int), q.2.2.2.2.2.2.2.2.2), freeQ q] rfl ?_
      intro x hx
      simp only [List.mem_cons, List.not_mem_nil, or_false] at hx
      have hm : qB n.1.length (q.1, q.2.1, q.2.2.1, q.2.2.2.1, q.2.2.2.2.1, q.2.2.2.2.2.1, q.2.2.2.2.2.2.1, q.2.2.2.2.2.2.2.1, (0 : Int), q.2.2.2.2.2.2.2.2.2) = true := hq7
      rcases hx with rfl | rfl | rfl | rfl
      · exact ⟨⟨fun h => (nomatch h), id, .inr rfl⟩, hq⟩
      · exact ⟨⟨id, fun h => (nomatch h), .inr rfl⟩, hq⟩
      · exact ⟨⟨id, id, .inl rfl⟩, hm⟩
      · exact ⟨free_eases q, hq7⟩
    · simp only [Option.bind_some, decide_eq_false hz, Bool.not_false, cond_true, example_true]
theorem relaxesP (x : ElPs F31A) (h : GoodPs F31A x) : F31 x.1 x.2.1 = some true := relaxes _ h.1 _
theorem allow_twice (n : NetT) (q : QueT) : allowA (allowA n q) q = allowA n q := by
  have ho : ∀ s, opnS (allowA n q) q s = opnS n q s := fun s => rfl
  have hc : ∀ c, closeC (allowA n q) q (closeC n q c) = closeC n q c := by
    intro c
    unfold closeC
    simp only [ho]
    by_cases h : opnS n q c.1 = true
    · rw [if_pos h, if_pos h]
    · rw [if_neg h, if_neg h]
  have hu : ∀ r, useR (allowA n q) q (allowR n q r) = useR n q r := by
    intro r
    show Tr.useB q (allowR n q r) (roOf n r) = useR n q r
    unfold useR Tr.useB allowR
    simp only
    have hd : useR n q r = Tr.useB q r (roOf n r) := rfl
    rw [hd]
    unfold Tr.useB
    generalize r.2.2.2.2.2.2.1 = b1
    generalize r.2.2.2.2.2.1 = b2
    generalize q.2.2.2.2.2.2.1 = b3
    generalize (roOf n r).2.2.1 = b4
    generalize q.2.2.2.2.2.2.2.1 = b5
    generalize (decide (q.2.2.2.2.2.2.2.2.1 = (0 : Int)) || decide (Tr.qand .i64 (Int.fdiv q.2.2.2.2.2.2.2.2.1 (2 ^ min (Int.toNat (roOf n r).2.1) 64)) 1 = 1)) = b6
    cases b1 <;> cases b2 <;> cases b3 <;> cases b4 <;> cases b5 <;> cases b6 <;> rfl
  have hr : ∀ r, allowR (allowA n q) q (allowR n q r) = allowR n q r := by
    intro r
    show ((allowR n q r).1, (allowR n q r).2.1, (allowR n q r).2.2.1, (allowR n q r).2.2.2.1, (allowR n q r).2.2.2.2.1, (allowR n q r).2.2.2.2.2.1, !useR (allowA n q) q (allowR n q r), (allowR n q r).2.2.2.2.2.2.2.1.map (closeC (allowA n q) q), ()) = _
    rw [hu]
    unfold allowR
    simp only [List.map_map]
    have : (closeC (allowA n q) q ∘ closeC n q) = closeC n q := funext hc
    rw [this]
  have hp : pathsA (allowA n q) q = pathsA n q := by
    unfold pathsA
    show (if q.2.2.2.2.2.2.1 then (pathsA n q).filter (fun p => p.2.2.2.1) else pathsA n q) = _
    unfold pathsA
    cases q.2.2.2.2.2.2.1 with
    | false => rfl
    | true => simp only [if_true, List.filter_filter, Bool.and_self]
  show ((allowA n q).1, (allowA n q).2.1, (allowA n q).2.2.1.map (allowR (allowA n q) q), (allowA n q).2.2.2.1, pathsA (allowA n q) q, (allowA n q).2.2.2.2.2.1, ()) = allowA n q
  rw [hp]
  unfold allowA
  simp only [List.map_map]
  have : (allowR (n.1, n.2.1, n.2.2.1.map (allowR n q), n.2.2.2.1, pathsA n q, n.2.2.2.2.2.1, ()) q ∘ allowR n q) = allowR n q := funext hr
  rw [this]
theorem allow_free (n : NetT) (q : QueT) : allowA n (freeQ q) = n := by
  have hc : ∀ c, closeC n (freeQ q) c = c := by
    intro c
    unfold closeC
    rw [if_pos]
    unfold opnS freeQ
    simp
  have hr : ∀ r, allowR n (freeQ q) r = r := by
    intro r
    have hu : useR n (freeQ q) r = !r.2.2.2.2.2.2.1 := by
      unfold useR Tr.useB freeQ
      simp
    unfold allowR
    rw [hu, Bool.not_not]
    have : closeC n (freeQ q) = id := funext hc
    rw [this, List.map_id]
  unfold allowA
  have : allowR n (freeQ q) = id := funext hr
  rw [this, List.map_id]
  rfl
theorem repeats (n : NetT) (h : Good Y31 n) (q : QueT) : F32 n q = some true := by
  unfold F32
  obtain ⟨b, hb1, hb2⟩ := few_val n
  rw [hb1]
  cases b with
  | false => simp only [Option.bind_some, Bool.not_false, cond_true, example_true]
  | true =>
    have hF4 := hb2.1 rfl
    have hF := hF4.few
    have hfit := fit40 h hF.paths
    simp only [Option.bind_some, Bool.not_true, cond_false]
    rw [chkQ_ref hfit]
    by_cases hz : chkQ n q = 0
    · obtain ⟨hW, hq⟩ := chkQ_zero.1 hz
      have hW' := allow_whole q hF.paths hW
      have e2 : F5 (allowA n q) q = some 0 := by rw [chkQ_code (allow_fit q hfit), chkQ_zero.2 ⟨hW', hq⟩]
      have e3 : F5 n (freeQ q) = some 0 := by rw [chkQ_code hfit, chkQ_zero.2 ⟨hW, qB_free hq⟩]
      rw [allowed_val hW.sound hF q (by rw [chkQ_code hfit, hz])]
      simp only [Option.bind_some, hz, decide_true, Bool.not_true, cond_false]
      rw [allowed_val hW'.sound (allow_few q hF) q e2, free_val]
      simp only [Option.bind_some]
      rw [allowed_val hW.sound hF _ e3, allow_twice, allow_free]
      simp only [Option.bind_some, decide_true, cond_true, equal_self (allow_few q hF), equal_self hF, example_true]
    · simp only [Option.bind_some, decide_eq_false hz, Bool.not_false, cond_true, example_true]
theorem repeatsP (x : ElPs F32A) (h : GoodPs F32A x) : F32 x.1 x.2.1 = some true := repeats _ h.1 _
end Q
