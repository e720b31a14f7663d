/- filter: usable runs, open stops, the allowed network; queries. Conditions: the network is valid, its lists are short. -/
import Derived.Test.YtibiblkamaajeaaGreatLwJb2841
import Derived.Test.YtibiblkamaajeaaGreatLxKit
import Derived.Test.YtibiblkamaajeaaGreatTsF
namespace Q
open Tr Go
theorem run_list {α β τ : Type} {step : List β × Int → Option ((List β × Int) ⊕ τ)} (l : List α) (f : α → List β) (R : List β → τ)
    (hstep : ∀ i (hi : i < l.length), step ((l.take i).flatMap f, (i : Int)) = some (.inl ((l.take i).flatMap f ++ f l[i], ((i + 1 : Nat) : Int))))
    (hend : step (l.flatMap f, (l.length : Int)) = some (.inr (R (l.flatMap f)))) : run step ([], (0 : Int)) = some (R (l.flatMap f)) := by
  refine Exists.elim (run_for (step := step) l.length (fun r => r = R (l.flatMap f)) (fun i st => st = ((l.take i).flatMap f, (i : Int))) ?_ ?_ ([], (0 : Int)) (by simp)) ?_
  · rintro i _ hi rfl
    left
    refine ⟨_, hstep i hi, ?_⟩
    rw [List.take_succ_eq_append_getElem hi, List.flatMap_append]
    simp
  · rintro _ rfl
    rw [List.take_length]
    exact ⟨_, hend, rfl⟩
  · rintro r ⟨h1, rfl⟩
    exact h1
theorem run_flat {β τ : Type} {step : List β × Int → Option ((List β × Int) ⊕ τ)} (n : Nat) (g : Nat → List β) (R : List β → τ)
    (hstep : ∀ i, i < n → step ((List.range i).flatMap g, (i : Int)) = some (.inl ((List.range i).flatMap g ++ g i, ((i + 1 : Nat) : Int))))
    (hend : step ((List.range n).flatMap g, (n : Int)) = some (.inr (R ((List.range n).flatMap g)))) : run step ([], (0 : Int)) = some (R ((List.range n).flatMap g)) := by
  refine Exists.elim (run_for (step := step) n (fun r => r = R ((List.range n).flatMap g)) (fun i st => st = ((List.range i).flatMap g, (i : Int))) ?_ ?_ ([], (0 : Int)) (by simp)) ?_
  · rintro i _ hi rfl
    left
    refine ⟨_, hstep i hi, ?_⟩
    rw [List.range_succ, List.flatMap_append]
    simp
  · rintro _ rfl
    exact ⟨_, hend, rfl⟩
  · rintro r ⟨h1, rfl⟩
    exact h1
theorem flat_map {α β : Type} (f : α → β) (l : List α) : l.flatMap (fun x => [f x]) = l.map f := by
  induction l with
  | nil => rfl
  | cons x l ih => simp [ih]
theorem flat_filter {α : Type} (p : α → Bool) (l : List α) : l.flatMap (fun x => if p x then [x] else []) = l.filter p := by
  induction l with
  | nil => rfl
  | cons x l ih => by_cases h : p x <;> simp [h, ih]
theorem flat_few {α β : Type} {f : α → List β} (hf : ∀ x, (f x).length ≤ 1) (l : List α) : (l.flatMap f).length ≤ l.length := by
  induction l with
  | nil => simp
  | cons x l ih => have := hf x; simp; simp at ih; omega
abbrev QueT := Int × Int × Int × Bool × Int × Int × Bool × Bool × Int × Bool × Unit
def roOf (n : NetT) (r : RunT) : RouteT := (n.2.1[r.2.2.2.2.1.toNat]?).getD r0
def useR (n : NetT) (q : QueT) (r : RunT) : Bool := Tr.useB q r (roOf n r)
def s0 : StopT := ([], 0, false, 0, ())
def stOf (n : NetT) (s : Int) : StopT := (n.1[s.toNat]?).getD s0
def opnS (n : NetT) (q : QueT) (s : Int) : Bool := (stOf n s).2.2.1 || !q.2.2.2.2.2.2.1
def closeC (n : NetT) (q : QueT) (c : CallT) : CallT := if opnS n q c.1 then c else (c.1, c.2.1, c.2.2.1, false, false, ())
theorem ro_idx {n : NetT} (hS : Sound n) {r : RunT} (hr : r ∈ n.2.2.1) : Tr.idx n.2.1 r.2.2.2.2.1 = some (roOf n r) ∧ roOf n r ∈ n.2.1 := by
  have h := hS.route _ hr
  have hi : inR r.2.2.2.2.1 n.2.1.length = true := by simp [inR]; omega
  refine ⟨idx_int hi r0, ?_⟩
  unfold roOf
  rw [getD_of (show r.2.2.2.2.1.toNat < n.2.1.length by omega)]
  exact List.getElem_mem _
theorem use_val {n : NetT} (hS : Sound n) (q : QueT) {r : RunT} (hr : r ∈ n.2.2.1) : F10 n q r = some (useR n q r) := by
  obtain ⟨h1, h2⟩ := ro_idx hS hr
  have hm := (hS.mode _ h2).1
  unfold F10 Tr.useF
  rw [h1]
  simp only [Option.bind_some, show decide ((0 : Int) ≤ (roOf n r).2.1) = true from decide_eq_true hm, Bool.or_true, cond_true]
  rfl
theorem st_idx {n : NetT} (hS : Sound n) {r : RunT} (hr : r ∈ n.2.2.1) {c : CallT} (hc : c ∈ r.2.2.2.2.2.2.2.1) : Tr.idx n.1 c.1 = some (stOf n c.1) := by
  have h := hS.call _ hr _ hc
  exact idx_int (show inR c.1 n.1.length = true by simp [inR]; omega) s0
theorem open_val {n : NetT} (q : QueT) {s : Int} (h : Tr.idx n.1 s = some (stOf n s)) : F9 n q s = some (opnS n q s) := by
  unfold F9
  rw [h]
  simp only [Option.bind_some]
  unfold opnS
  cases (stOf n s).2.2.1 <;> rfl
theorem closed_val {n : NetT} (hS : Sound n) (q : QueT) {r : RunT} (hr : r ∈ n.2.2.1) : F8 n q r.2.2.2.2.2.2.2.1 = some (r.2.2.2.2.2.2.2.1.map (closeC n q)) := by
  have hl := (hS.many _ hr).2
  unfold F8
  rw [run_list r.2.2.2.2.2.2.2.1 (fun c => [closeC n q c]) id ?_ ?_]
  · simp only [Option.bind_some, id, flat_map, List.length_map]
    generalize hm : r.2.2.2.2.2.2.2.1.map (closeC n q) = m
    have hlen : m.length = r.2.2.2.2.2.2.2.1.length := by rw [← hm, List.length_map]
    rw [← hlen]
    have e1 : Tr.inb (m.length : Int) (m.length + 1) = some m.length := by
      unfold Tr.inb; rw [if_pos (by omega)]; simp
    have e2 : Tr.sliceB m.length m.length none (some (m.length : Int)) = some (0, m.length) := by
      unfold Tr.sliceB
      simp only [if_pos (show (0 : Int) ≤ (m.length : Int) ∧ (m.length : Int) ≤ (m.length : Int) from ⟨by omega, by omega⟩), Option.bind_some, Int.toNat_natCast]
    rw [e1]
    simp only [Option.bind_some]
    rw [e2]
    simp
  · intro i hi
    have hc := List.getElem_mem hi
    simp only [lt_dec hi, cond_true, idx_nat hi, Option.bind_some]
    rw [open_val q (st_idx hS hr hc)]
    have hb := flat_few (f := fun c => [closeC n q c]) (by simp) (r.2.2.2.2.2.2.2.1.take i)
    rw [List.length_take] at hb
    simp only [Option.bind_some]
    have e : (bif !opnS n q (r.2.2.2.2.2.2.2.1[i]).1 then some (((r.2.2.2.2.2.2.2.1[i]).1, (r.2.2.2.2.2.2.2.1[i]).2.1, (r.2.2.2.2.2.2.2.1[i]).2.2.1, false, false, (r.2.2.2.2.2.2.2.1[i]).2.2.2.2.2) : CallT) else some r.2.2.2.2.2.2.2.1[i]) = some (closeC n q r.2.2.2.2.2.2.2.1[i]) := by
      unfold closeC
      cases opnS n q (r.2.2.2.2.2.2.2.1[i]).1 <;> rfl
    erw [e]
    simp only [Option.bind_some]
    rw [guard_app (by simp; simp at hb; omega), wrap_succ hi (by omega)]
    rfl
  · simp only [nlt_dec, cond_false]; rfl
structure Few (n : NetT) : Prop where
  stops : n.1.length ≤ 4096
  routes : n.2.1.length ≤ 4096
  runs : n.2.2.1.length ≤ 4096
  links : n.2.2.2.1.length ≤ 4096
  paths : n.2.2.2.2.1.length ≤ 4096
  prods : n.2.2.2.2.2.1.1.length ≤ 4096
  calls : ∀ r ∈ n.2.2.1, r.2.2.2.2.2.2.2.1.length ≤ 4096
theorem fresh_eq {α : Type} (l : List α) (h : l.length ≤ 4096) : (Option.bind (guardB (decide (List.length ([] : List Unit) + List.length l ≤ maxApp))) fun _ =>
 Option.bind (Tr.inb (↑(List.length ([] ++ l)) : Int) (List.length ([] ++ l) + (1 : Nat))) fun x1 =>
 Option.bind (Tr.sliceB (List.length ([] ++ l)) x1 none (some (↑(List.length ([] ++ l)) : Int))) fun x2 => some (List.take x2.2 ([] ++ l))) = some l := by
  have e0 : guardB (decide (List.length ([] : List Unit) + List.length l ≤ maxApp)) = some () := by
    unfold guardB maxApp
    rw [decide_eq_true (show List.length ([] : List Unit) + List.length l ≤ 2 ^ 32 by simp; omega)]; rfl
  have e1 : Tr.inb (l.length : Int) (l.length + 1) = some l.length := by
    unfold Tr.inb; rw [if_pos (by omega)]; simp
  have e2 : Tr.sliceB l.length l.length none (some (l.length : Int)) = some (0, l.length) := by
    unfold Tr.sliceB
    simp only [if_pos (show (0 : Int) ≤ (l.length : Int) ∧ (l.length : Int) ≤ (l.length : Int) from ⟨by omega, by omega⟩), Option.bind_some, Int.toNat_natCast]
  rw [e0]
  simp only [Option.bind_some, List.nil_append]
  rw [e1]
  simp only [Option.bind_some]
  rw [e2]
  simp
theorem clone_val {n : NetT} (h : Few n) : F40 n = some n := by
  unfold F40
  have hs : F51 n.1 = some n.1 := fresh_eq n.1 h.stops
  have hro : F49 n.2.1 = some n.2.1 := fresh_eq n.2.1 h.routes
  have hru : F50 n.2.2.1 = some n.2.2.1 := fresh_eq n.2.2.1 h.runs
  have hli : F47 n.2.2.2.1 = some n.2.2.2.1 := fresh_eq n.2.2.2.1 h.links
  have hpa : F46 n.2.2.2.2.1 = some n.2.2.2.2.1 := fresh_eq n.2.2.2.2.1 h.paths
  have hpr : F48 n.2.2.2.2.2.1.1 = some n.2.2.2.2.2.1.1 := fresh_eq n.2.2.2.2.2.1.1 h.prods
  rw [hs, hro, hru, hli, hpa]
  simp only [Option.bind_some]
  refine bind_of (fun r : NetT => r = (n.1, n.2.1, n.2.2.1, n.2.2.2.1, n.2.2.2.2.1, n.2.2.2.2.2.1, ())) (run_for n.2.2.1.length _ (fun i (st : NetT × Int) => st = ((n.1, n.2.1, n.2.2.1, n.2.2.2.1, n.2.2.2.2.1, n.2.2.2.2.2.1, ()), (i : Int))) ?_ ?_ _ rfl) ?_
  · rintro i _ hi rfl
    left
    have hc : F45 (n.2.2.1[i]).2.2.2.2.2.2.2.1 = some (n.2.2.1[i]).2.2.2.2.2.2.2.1 := fresh_eq _ (h.calls _ (List.getElem_mem hi))
    simp only [lt_dec hi, cond_true, inb_nat hi, Option.bind_some, List.getElem?_eq_getElem hi, hc]
    refine ⟨_, rfl, ?_⟩
    rw [wrap_succ hi (by have := h.runs; omega)]
    have e : List.set n.2.2.1 i ((n.2.2.1[i]).1, (n.2.2.1[i]).2.1, (n.2.2.1[i]).2.2.1, (n.2.2.1[i]).2.2.2.1, (n.2.2.1[i]).2.2.2.2.1, (n.2.2.1[i]).2.2.2.2.2.1, (n.2.2.1[i]).2.2.2.2.2.2.1, (n.2.2.1[i]).2.2.2.2.2.2.2.1, (n.2.2.1[i]).2.2.2.2.2.2.2.2) = n.2.2.1 := List.set_getElem_self hi
    erw [e]
  · rintro _ rfl
    exact ⟨_, by simp only [nlt_dec, cond_false], rfl⟩
  · rintro _ rfl
    rw [hpr]
    rfl
def allowR (n : NetT) (q : QueT) (r : RunT) : RunT := (r.1, r.2.1, r.2.2.1, r.2.2.2.1, r.2.2.2.2.1, r.2.2.2.2.2.1, !useR n q r, r.2.2.2.2.2.2.2.1.map (closeC n q), ())
def pathsA (n : NetT) (q : QueT) : List Foot := if q.2.2.2.2.2.2.1 then n.2.2.2.2.1.filter (fun p => p.2.2.2.1) else n.2.2.2.2.1
def allowA (n : NetT) (q : QueT) : NetT := (n.1, n.2.1, n.2.2.1.map (allowR n q), n.2.2.2.1, pathsA n q, n.2.2.2.2.2.1, ())
def runsAt (n : NetT) (q : QueT) (i : Nat) : List RunT := (n.2.2.1.take i).map (allowR n q) ++ n.2.2.1.drop i
theorem runsAt_len (n : NetT) (q : QueT) {i : Nat} (hi : i ≤ n.2.2.1.length) : (runsAt n q i).length = n.2.2.1.length := by
  simp [runsAt]; omega
theorem runsAt_get (n : NetT) (q : QueT) {i : Nat} (hi : i < n.2.2.1.length) : (runsAt n q i)[i]? = some n.2.2.1[i] := by
  unfold runsAt
  rw [List.getElem?_append_right (by simp; omega)]
  simp only [List.length_map, List.length_take, Nat.min_eq_left (Nat.le_of_lt hi), Nat.sub_self, List.getElem?_drop, Nat.add_zero]
  exact List.getElem?_eq_getElem hi
theorem runsAt_set (n : NetT) (q : QueT) {i : Nat} (hi : i < n.2.2.1.length) : (runsAt n q i).set i (allowR n q n.2.2.1[i]) = runsAt n q (i + 1) := by
  unfold runsAt
  have hlen : ((n.2.2.1.take i).map (allowR n q)).length = i := by simp; omega
  rw [List.set_append_right _ _ (by omega), hlen, Nat.sub_self, List.drop_eq_getElem_cons hi, List.set_cons_zero, List.take_succ_eq_append_getElem hi, List.map_append]
  simp
theorem allowed_val {n : NetT} (hS : Sound n) (hF : Few n) (q : QueT) (hq : F5 n q = some 0) : F7 n q = some (allowA n q, 0) := by
  unfold F7
  rw [hq]
  simp only [Option.bind_some, decide_true, Bool.not_true, cond_false]
  rw [clone_val hF]
  simp only [Option.bind_some]
  refine bind_of (fun r : NetT => r = (n.1, n.2.1, n.2.2.1.map (allowR n q), n.2.2.2.1, n.2.2.2.2.1, n.2.2.2.2.2.1, ())) (run_for n.2.2.1.length _ (fun i (st : NetT × Int) => st = ((n.1, n.2.1, runsAt n q i, n.2.2.2.1, n.2.2.2.2.1, n.2.2.2.2.2.1, ()), (i : Int))) ?_ ?_ _ (by simp [runsAt])) ?_
  · rintro i _ hi rfl
    left
    have hr := List.getElem_mem hi
    have hl := runsAt_len n q (Nat.le_of_lt hi)
    have hi' : i < (runsAt n q i).length := by omega
    simp only [lt_dec hi, cond_true, idx_nat hi, Option.bind_some, use_val hS q hr, inb_nat hi', runsAt_get n q hi, closed_val hS q hr]
    refine ⟨_, ?_, rfl⟩
    rw [wrap_succ hi (by have := hF.runs; omega)]
    have hi2 : i < ((runsAt n q i).set i ((n.2.2.1[i]).1, (n.2.2.1[i]).2.1, (n.2.2.1[i]).2.2.1, (n.2.2.1[i]).2.2.2.1, (n.2.2.1[i]).2.2.2.2.1, (n.2.2.1[i]).2.2.2.2.2.1, !useR n q n.2.2.1[i], (n.2.2.1[i]).2.2.2.2.2.2.2)).length := by rw [List.length_set]; exact hi'
    erw [inb_nat hi2]
    simp only [Option.bind_some]
    erw [List.getElem?_set_self hi']
    simp only [Option.bind_some]
    erw [List.set_set]
    congr 2
    have := runsAt_set n q hi
    rw [← this]
    rfl
  · rintro _ rfl
    refine ⟨_, by simp only [nlt_dec, cond_false]; rfl, ?_⟩
    simp [runsAt]
  · rintro _ rfl
    unfold allowA pathsA
    cases hsf : q.2.2.2.2.2.2.1 with
    | false => rfl
    | true =>
      simp only [cond_true, if_true]
      refine bind_of (fun r : NetT => r = (n.1, n.2.1, n.2.2.1.map (allowR n q), n.2.2.2.1, n.2.2.2.2.1.filter (fun p => p.2.2.2.1), n.2.2.2.2.2.1, ())) (run_for n.2.2.2.2.1.length _ (fun i (st : NetT × Int) => st = ((n.1, n.2.1, n.2.2.1.map (allowR n q), n.2.2.2.1, (n.2.2.2.2.1.take i).filter (fun p => p.2.2.2.1), n.2.2.2.2.2.1, ()), (i : Int))) ?_ ?_ _ (by simp)) ?_
      · rintro i _ hi rfl
        left
        have hb := List.length_filter_le (fun p : Foot => p.2.2.2.1) (n.2.2.2.2.1.take i)
        rw [List.length_take] at hb
        have hp := hF.paths
        simp only [lt_dec hi, cond_true, idx_nat hi, Option.bind_some]
        rw [wrap_succ hi (by omega), List.take_succ_eq_append_getElem hi, List.filter_append]
        cases hv : (n.2.2.2.2.1[i]).2.2.2.1 with
        | false =>
          refine ⟨_, rfl, ?_⟩
          simp [hv]
        | true =>
          simp only [cond_true]
          rw [guard_app (by simp; omega)]
          refine ⟨_, rfl, ?_⟩
          simp [hv]
      · rintro _ rfl
        refine ⟨_, by simp only [nlt_dec, cond_false]; rfl, ?_⟩
        rw [List.take_length]
      · rintro _ rfl
        rfl
def qB (k : Nat) (q : QueT) : Bool := inR q.1 k && (inR q.2.1 k && (decide (0 ≤ q.2.2.1 ∧ q.2.2.1 ≤ 3155932800) && (decide (0 ≤ q.2.2.2.2.1 ∧ q.2.2.2.2.1 ≤ 8) && (decide (0 ≤ q.2.2.2.2.2.1 ∧ q.2.2.2.2.2.1 ≤ 86400) && (decide (0 ≤ q.2.2.2.2.2.2.2.2.1 ∧ q.2.2.2.2.2.2.2.2.1 ≤ 255) && !(q.2.2.2.2.2.2.2.2.2.1 && q.2.2.2.1))))))
theorem withinQ_val (x a b : Int) : F6 x a b = some (decide (a ≤ x ∧ x ≤ b)) := in_val x a b
theorem inQ_val (x a b : Int) : F73 x a b = some (decide (a ≤ x ∧ x ≤ b)) := in_val x a b
theorem withinR_val (x : Int) {m : Nat} (hm : m ≤ 9223372036854775807) : F6 x 0 (IntKind.wrap .i64 ((m : Int) - 1)) = some (inR x m) := inR_val x hm
theorem inRQ_val (x : Int) {m : Nat} (hm : m ≤ 9223372036854775807) : F73 x 0 (IntKind.wrap .i64 ((m : Int) - 1)) = some (inR x m) := inR_val x hm
theorem validQ_val (k : Nat) (hk : k ≤ 9223372036854775807) (q : QueT) : F72 (k : Int) q = some (qB k q) := by
  unfold F72 qB
  simp only [inQ_val]
  rw [show decide ((0 : Int) ≤ q.1 ∧ q.1 ≤ IntKind.wrap .i64 ((k : Int) - 1)) = inR q.1 k from Option.some.inj ((inQ_val _ _ _).symm.trans (inRQ_val q.1 hk)), show decide ((0 : Int) ≤ q.2.1 ∧ q.2.1 ≤ IntKind.wrap .i64 ((k : Int) - 1)) = inR q.2.1 k from Option.some.inj ((inQ_val _ _ _).symm.trans (inRQ_val q.2.1 hk))]
  simp only [Option.bind_some]
  generalize inR q.1 k = b1
  generalize inR q.2.1 k = b2
  generalize decide ((0 : Int) ≤ q.2.2.1 ∧ q.2.2.1 ≤ 3155932800) = b3
  generalize decide ((0 : Int) ≤ q.2.2.2.2.1 ∧ q.2.2.2.2.1 ≤ 8) = b4
  generalize decide ((0 : Int) ≤ q.2.2.2.2.2.1 ∧ q.2.2.2.2.2.1 ≤ 86400) = b5
  generalize decide ((0 : Int) ≤ q.2.2.2.2.2.2.2.2.1 ∧ q.2.2.2.2.2.2.2.2.1 ≤ 255) = b6
  generalize q.2.2.2.2.2.2.2.2.2.1 = b7
  generalize q.2.2.2.1 = b8
  cases b1 <;> try rfl
  cases b2 <;> try rfl
  cases b3 <;> try rfl
  cases b4 <;> try rfl
  cases b5 <;> try rfl
  cases b6 <;> try rfl
  cases b7 <;> cases b8 <;> rfl
open Classical in
noncomputable def chkQ (n : NetT) (q : QueT) : Int := if Whole n then (if qB n.1.length q = true then 0 else 22) else 21
theorem chkQ_zero {n : NetT} {q : QueT} : chkQ n q = 0 ↔ Whole n ∧ qB n.1.length q = true := by
  unfold chkQ
  split
  · next h => split <;> simp_all
  · next h => simp [h]
open Classical in
theorem valid_whole {n : NetT} (h : Fit n) : F62 n = some (decide (Whole n)) := by
  obtain ⟨r, _, h2, h3⟩ := check_iff n h
  unfold F62
  rw [h2]
  simp only [Option.bind_some]
  congr 1
  exact decide_eq_decide.2 h3
open Classical in
theorem chkQ_ref {n : NetT} (h : Fit n) (q : QueT) : F71 n q = some (chkQ n q) := by
  unfold F71 chkQ
  rw [valid_whole h]
  simp only [Option.bind_some]
  by_cases hW : Whole n
  · rw [decide_eq_true hW, if_pos hW]
    have hs := hW.sound.stops
    simp only [Bool.not_true, cond_false]
    rw [validQ_val n.1.length (by omega)]
    simp only [Option.bind_some]
    cases qB n.1.length q <;> rfl
  · rw [decide_eq_false hW, if_neg hW]; rfl
theorem chkQ_code {n : NetT} (h : Fit n) (q : QueT) : F5 n q = some (chkQ n q) := by
  obtain ⟨r, h1, _, h3⟩ := check_iff n h
  unfold F5 chkQ
  rw [h1]
  simp only [Option.bind_some]
  by_cases hW : Whole n
  · rw [decide_eq_true (h3.2 hW), if_pos hW]
    have hk : n.1.length ≤ 9223372036854775807 := by have := hW.sound.stops; omega
    simp only [Bool.not_true, cond_false, withinQ_val]
    rw [show decide ((0 : Int) ≤ q.1 ∧ q.1 ≤ IntKind.wrap .i64 ((n.1.length : Int) - 1)) = inR q.1 n.1.length from Option.some.inj ((inQ_val _ _ _).symm.trans (inRQ_val q.1 hk)), show decide ((0 : Int) ≤ q.2.1 ∧ q.2.1 ≤ IntKind.wrap .i64 ((n.1.length : Int) - 1)) = inR q.2.1 n.1.length from Option.some.inj ((inQ_val _ _ _).symm.trans (inRQ_val q.2.1 hk))]
    unfold qB
    simp only [Option.bind_some]
    generalize inR q.1 n.1.length = b1
    generalize inR q.2.1 n.1.length = b2
    generalize decide ((0 : Int) ≤ q.2.2.1 ∧ q.2.2.1 ≤ 3155932800) = b3
    generalize decide ((0 : Int) ≤ q.2.2.2.2.1 ∧ q.2.2.2.2.1 ≤ 8) = b4
    generalize decide ((0 : Int) ≤ q.2.2.2.2.2.1 ∧ q.2.2.2.2.2.1 ≤ 86400) = b5
    generalize decide ((0 : Int) ≤ q.2.2.2.2.2.2.2.2.1 ∧ q.2.2.2.2.2.2.2.2.1 ≤ 255) = b6
    generalize q.2.2.2.2.2.2.2.2.2.1 = b7
    generalize q.2.2.2.1 = b8
    cases b1 <;> try rfl
    cases b2 <;> try rfl
    cases b3 <;> try rfl
    cases b4 <;> try rfl
    cases b5 <;> try rfl
    cases b6 <;> try rfl
    cases b7 <;> cases b8 <;> rfl
  · rw [decide_eq_false (fun e => hW (h3.1 e)), if_neg hW]; rfl
theorem closedB_eq {c l : List Foot} (h : closedB c l = true) : c = l := by
  unfold closedB at h
  rw [Bool.and_eq_true, decide_eq_true_eq, Option.isNone_iff_eq_none] at h
  obtain ⟨h1, h2⟩ := h
  have h2 := firstBad_iff.1 h2
  refine List.ext_getElem h1 fun i hi hi' => ?_
  have := h2 i hi
  unfold eqF at this
  rw [getD_of hi, getD_of hi'] at this
  have hs : sameF c[i] l[i] = true := by
    by_cases hs : sameF c[i] l[i] = true
    · exact hs
    · rw [if_neg hs] at this; simp at this
  unfold sameF at hs
  simp only [Bool.and_eq_true, decide_eq_true_eq, beq_iff_eq] at hs
  exact Prod.ext hs.1 (Prod.ext hs.2.1 (Prod.ext hs.2.2.1 (Prod.ext hs.2.2.2 rfl)))
theorem closedB_self (l : List Foot) : closedB l l = true := by
  unfold closedB
  rw [Bool.and_eq_true, decide_eq_true_eq, Option.isNone_iff_eq_none]
  refine ⟨rfl, firstBad_iff.2 fun i hi => ?_⟩
  unfold eqF sameF
  simp
theorem path_iff {k : Nat} {l : List Foot} : (∀ i, i < l.length → pathF k l i = 0) ↔ (∀ p ∈ l, pathB1 k p = false ∧ pathB2 p = false) ∧ l.Pairwise fun a b => pathK a ≠ pathK b := by
  constructor
  · intro h
    refine ⟨fun p hp => ?_, List.pairwise_iff_getElem.2 fun i j hi hj hij e => ?_⟩
    · obtain ⟨i, hi, rfl⟩ := List.getElem_of_mem hp
      have := pathF_zero (h i hi)
      rw [getD_of hi] at this
      exact ⟨this.1, this.2.1⟩
    · have := (pathF_zero (h j hj)).2.2
      refine this ⟨i, hij, ?_⟩
      rw [getD_of hi, getD_of hj]; exact e
  · rintro ⟨h1, h2⟩ i hi
    obtain ⟨a, b⟩ := h1 _ (List.getElem_mem hi)
    unfold pathF
    rw [getD_of hi, if_neg (by rw [a]; simp), if_neg (by rw [b]; simp), if_neg]
    rintro ⟨j, hj, e⟩
    rw [getD_of (show j < l.length by omega)] at e
    exact List.pairwise_iff_getElem.1 h2 j i (by omega) hi hj e
theorem filter_flat {α β : Type} (p : β → Bool) (f : α → List β) (l : List α) : (l.flatMap f).filter p = l.flatMap fun x => (f x).filter p := by
  induction l with
  | nil => rfl
  | cons x l ih => simp [List.filter_append, ih]
theorem item_free (a b : Nat) (d f : Int) : (itemC a b d f).filter (fun p => p.2.2.2.1) = itemC a b f f := by
  unfold itemC
  by_cases h : f = d
  · subst h
    rw [if_pos rfl, List.append_nil]
    split <;> simp
  · rw [if_neg h, if_pos rfl, List.append_nil, List.filter_append]
    have e1 : (if 0 < d ∧ d ≤ 14400 then [((a : Int), (b : Int), d, decide (f = d), ())] else []).filter (fun p : FootS => p.2.2.2.1) = [] := by
      split <;> simp [h]
    rw [e1]
    split <;> simp
theorem allL_free (it : Nat → Nat → List FootS) (n m : Nat) : (allL it n m).filter (fun p => p.2.2.2.1) = allL (fun a b => (it a b).filter (fun p => p.2.2.2.1)) n m := by
  unfold allL rowL
  rw [filter_flat]
  congr 1; funext a
  rw [filter_flat]
  congr 1; funext b
  split <;> rfl
theorem free_closed {k : Nat} (hk : k ≤ 64) {l : List Foot} (hl : l.length ≤ 4096) (hz : ∀ i, i < l.length → pathF k l i = 0) (hc : ∀ c, F59 l (k : Int) = some c → closedB c l = true) :
    (∀ i, i < (l.filter fun p => p.2.2.2.1).length → pathF k (l.filter fun p => p.2.2.2.1) i = 0) ∧ ∀ c, F59 (l.filter fun p => p.2.2.2.1) (k : Int) = some c → closedB c (l.filter fun p => p.2.2.2.1) = true := by
  obtain ⟨z1, z2⟩ := path_iff.1 hz
  have hz' : ∀ i, i < (l.filter fun p => p.2.2.2.1).length → pathF k (l.filter fun p => p.2.2.2.1) i = 0 := path_iff.2 ⟨fun p hp => z1 p (List.mem_filter.1 hp).1, z2.filter _⟩
  refine ⟨hz', fun c h => ?_⟩
  have hF := fok_of hz
  have hF' := fok_of hz'
  have hl' : (l.filter fun p => p.2.2.2.1).length ≤ 4096 := Nat.le_trans (List.length_filter_le _ _) hl
  obtain ⟨c0, a1, a2, _⟩ := closed_same hk hF hl
  obtain ⟨c1, b1, b2, _⟩ := closed_same hk hF' hl'
  have v0 := closure_val hk hF hl (fun a b => (dist_le hF a b).imp id fun h => h.2)
  have v1 := closure_val hk hF' hl' (fun a b => (dist_le hF' a b).imp id fun h => h.2)
  rw [a1] at v0
  rw [b1] at v1
  have e0 := closedB_eq (hc c0 a2)
  obtain rfl : c1 = c := Option.some.inj (b2.symm.trans h)
  have ed : ∀ free, EdP (l.filter fun p => p.2.2.2.1) free = EdP l true := by
    intro free
    funext u v w
    refine propext ⟨fun ⟨p, hp, _, h⟩ => ?_, fun ⟨p, hp, h1, h⟩ => ?_⟩
    · obtain ⟨hp1, hp2⟩ := List.mem_filter.1 hp
      exact ⟨p, hp1, fun _ => hp2, h⟩
    · have := h1 rfl
      exact ⟨p, List.mem_filter.2 ⟨hp, this⟩, fun _ => this, h⟩
  have key : c1 = l.filter fun p => p.2.2.2.1 := by
    rw [Option.some.inj v1]
    conv => rhs; rw [← e0, Option.some.inj v0]
    rw [allL_free, ed, ed]
    congr 1; funext a b
    exact (item_free a b _ _).symm
  rw [key]
  exact closedB_self _
theorem close_get (n : NetT) (q : QueT) (l : List CallT) (i : Nat) : (((l.map (closeC n q))[i]?).getD c0).1 = ((l[i]?).getD c0).1 ∧ (((l.map (closeC n q))[i]?).getD c0).2.1 = ((l[i]?).getD c0).2.1 ∧ (((l.map (closeC n q))[i]?).getD c0).2.2.1 = ((l[i]?).getD c0).2.2.1 := by
  rw [List.getElem?_map]
  cases l[i]? with
  | none => exact ⟨rfl, rfl, rfl⟩
  | some c =>
    simp only [Option.map_some, Option.getD_some]
    unfold closeC
    split <;> exact ⟨rfl, rfl, rfl⟩
theorem callE_close (n : NetT) (q : QueT) (l : List CallT) (k lo hi : Int) : callE (l.map (closeC n q)) k lo hi = callE l k lo hi := by
  have h : oneF (l.map (closeC n q)) k lo hi = oneF l k lo hi := by
    funext i
    obtain ⟨a1, a2, a3⟩ := close_get n q l i
    obtain ⟨b1, b2, b3⟩ := close_get n q l (i - 1)
    unfold oneF callB1 callB2 callB3
    rw [a1, a2, a3, b1, b3]
  unfold callE
  rw [List.length_map, h]
theorem rn_calls (n : NetT) (q : QueT) (a : Int) : (rn (allowA n q) a).2.2.2.2.2.2.2.1 = (rn n a).2.2.2.2.2.2.2.1.map (closeC n q) := by
  unfold rn
  show (((n.2.2.1.map (allowR n q))[a.toNat]?).getD u0).2.2.2.2.2.2.2.1 = _
  rw [List.getElem?_map]
  cases n.2.2.1[a.toNat]? <;> rfl
theorem linkF_allow (n : NetT) (q : QueT) (i : Nat) : linkF (allowA n q) i = linkF n i := by
  have hlen : (allowA n q).2.2.1.length = n.2.2.1.length := List.length_map ..
  unfold linkF bad1 bad2
  simp only [rn_calls, List.length_map, hlen]
  have hcl : ∀ (l : List CallT) (x : Int), (cl (l.map (closeC n q)) x).1 = (cl l x).1 := fun l x => (close_get n q l _).1
  simp only [hcl]
  rfl
theorem runF_allow (n : NetT) (q : QueT) {i : Nat} (hi : i < n.2.2.1.length) : runF (allowA n q) i = runF n i := by
  have hg : ∀ j, j < n.2.2.1.length → ((allowA n q).2.2.1[j]?).getD u0 = allowR n q ((n.2.2.1[j]?).getD u0) := by
    intro j hj
    show ((n.2.2.1.map (allowR n q))[j]?).getD u0 = _
    rw [List.getElem?_map, List.getElem?_eq_getElem hj]; rfl
  unfold runF
  rw [hg i hi]
  have hd : (∃ j, j < i ∧ runK (((allowA n q).2.2.1[j]?).getD u0) = runK (allowR n q ((n.2.2.1[i]?).getD u0))) ↔ ∃ j, j < i ∧ runK ((n.2.2.1[j]?).getD u0) = runK ((n.2.2.1[i]?).getD u0) := by
    constructor
    · rintro ⟨j, hj, e⟩
      rw [hg j (by omega)] at e
      exact ⟨j, hj, e⟩
    · rintro ⟨j, hj, e⟩
      refine ⟨j, hj, ?_⟩
      rw [hg j (by omega)]
      exact e
  have hcE : callE (allowR n q ((n.2.2.1[i]?).getD u0)).2.2.2.2.2.2.2.1 ((allowA n q).1.length : Int) 0 3155932800 = callE ((n.2.2.1[i]?).getD u0).2.2.2.2.2.2.2.1 (n.1.length : Int) 0 3155932800 := callE_close n q _ _ _ _
  simp only [hcE, hd]
  rfl
theorem allow_whole {n : NetT} (q : QueT) (hp : n.2.2.2.2.1.length ≤ 4096) (h : Whole n) : Whole (allowA n q) := by
  have hlen : (allowA n q).2.2.1.length = n.2.2.1.length := List.length_map ..
  have hP : (∀ i, i < (pathsA n q).length → pathF n.1.length (pathsA n q) i = 0) ∧ ∀ c, F59 (pathsA n q) (n.1.length : Int) = some c → closedB c (pathsA n q) = true := by
    unfold pathsA
    split
    · exact free_closed h.sound.stops hp (firstBad_iff.1 h.q) h.w
    · exact ⟨firstBad_iff.1 h.q, h.w⟩
  refine ⟨h.s, h.t, by rw [hlen]; exact h.u, ?_, h.v, ?_, firstBad_iff.2 hP.1, hP.2, h.z⟩
  · rw [hlen]
    exact firstBad_iff.2 fun i hi => by rw [runF_allow n q hi]; exact firstBad_iff.1 h.f i hi
  · exact firstBad_iff.2 fun i hi => by rw [linkF_allow]; exact firstBad_iff.1 h.g i hi
theorem allow_few {n : NetT} (q : QueT) (h : Few n) : Few (allowA n q) := by
  refine ⟨h.stops, h.routes, by show (n.2.2.1.map _).length ≤ _; rw [List.length_map]; exact h.runs, h.links, ?_, h.prods, ?_⟩
  · show (pathsA n q).length ≤ _
    unfold pathsA
    split
    · exact Nat.le_trans (List.length_filter_le _ _) h.paths
    · exact h.paths
  · intro r hr
    obtain ⟨x, hx, rfl⟩ := List.mem_map.1 (show r ∈ n.2.2.1.map (allowR n q) from hr)
    show (x.2.2.2.2.2.2.2.1.map _).length ≤ _
    rw [List.length_map]
    exact h.calls x hx
theorem allow_fit {n : NetT} (q : QueT) (h : Fit n) : Fit (allowA n q) := by
  refine ⟨h.stops, h.routes, ?_, ?_, ?_, h.prods⟩
  · intro r hr
    obtain ⟨x, hx, rfl⟩ := List.mem_map.1 (show r ∈ n.2.2.1.map (allowR n q) from hr)
    exact h.runs x hx
  · intro r hr
    obtain ⟨x, hx, rfl⟩ := List.mem_map.1 (show r ∈ n.2.2.1.map (allowR n q) from hr)
    show (x.2.2.2.2.2.2.2.1.map _).length ≤ _
    rw [List.length_map]
    exact h.calls x hx
  · show (pathsA n q).length ≤ _
    unfold pathsA
    split
    · exact Nat.le_trans (List.length_filter_le _ _) h.paths
    · exact h.paths
end Q
