/- Chapter 40: a journey is feasible in the allowed network exactly if it is feasible. Conditions: texts and lists as a machine can hold them. -/
import Derived.Test.YtlnoioahgincaaaGreatLxFeas3
namespace Q
open Tr Go
theorem example_true : F33 = some true := by kernel_rfl
structure Few40 (n : NetT) : Prop where
  stops : n.1.length ≤ 70
  routes : n.2.1.length ≤ 70
  runs : n.2.2.1.length ≤ 40
  links : n.2.2.2.1.length ≤ 80
  paths : n.2.2.2.2.1.length ≤ 80
  prods : n.2.2.2.2.2.1.1.length ≤ 20
  calls : ∀ r ∈ n.2.2.1, r.2.2.2.2.2.2.2.1.length ≤ 40
theorem Few40.few {n : NetT} (h : Few40 n) : Few n :=
  ⟨by have := h.stops; omega, by have := h.routes; omega, by have := h.runs; omega, by have := h.links; omega, by have := h.paths; omega, by have := h.prods; omega, fun r hr => by have := h.calls r hr; omega⟩
theorem few_val (n : NetT) : ∃ b, F34 n = some b ∧ (b = true ↔ Few40 n) := by
  unfold F34
  by_cases h1 : (70 : Int) < (n.1.length : Int)
  · rw [decide_eq_true h1]; exact ⟨false, rfl, by simp; intro h; have := h.stops; omega⟩
  by_cases h2 : (70 : Int) < (n.2.1.length : Int)
  · rw [decide_eq_false h1, decide_eq_true h2]; exact ⟨false, rfl, by simp; intro h; have := h.routes; omega⟩
  by_cases h3 : (40 : Int) < (n.2.2.1.length : Int)
  · rw [decide_eq_false h1, decide_eq_false h2, decide_eq_true h3]; exact ⟨false, rfl, by simp; intro h; have := h.runs; omega⟩
  by_cases h4 : (80 : Int) < (n.2.2.2.1.length : Int)
  · rw [decide_eq_false h1, decide_eq_false h2, decide_eq_false h3, decide_eq_true h4]; exact ⟨false, rfl, by simp; intro h; have := h.links; omega⟩
  by_cases h5 : (80 : Int) < (n.2.2.2.2.1.length : Int)
  · rw [decide_eq_false h1, decide_eq_false h2, decide_eq_false h3, decide_eq_false h4, decide_eq_true h5]; exact ⟨false, rfl, by simp; intro h; have := h.paths; omega⟩
  by_cases h6 : (20 : Int) < (n.2.2.2.2.2.1.1.length : Int)
  · rw [decide_eq_false h1, decide_eq_false h2, decide_eq_false h3, decide_eq_false h4, decide_eq_false h5, decide_eq_true h6]; exact ⟨false, rfl, by simp; intro h; have := h.prods; omega⟩
  rw [decide_eq_false h1, decide_eq_false h2, decide_eq_false h3, decide_eq_false h4, decide_eq_false h5, decide_eq_false h6]
  simp only [cond_false, Option.bind_some]
  rw [scan_run (n := n.2.2.1.length) (fun i (st : Int) => st = (i : Int)) (fun i => if 40 < ((n.2.2.1[i]?).getD u0).2.2.2.2.2.2.2.1.length then 1 else 0) (fun _ => .inr false) (.inl ()) ?_ ?_ ?_ (0 : Int) rfl]
  · unfold pick
    cases hb : firstBad n.2.2.1.length (fun i => if 40 < ((n.2.2.1[i]?).getD u0).2.2.2.2.2.2.2.1.length then 1 else 0) with
    | none =>
      refine ⟨true, rfl, ?_⟩
      have hb := firstBad_iff.1 hb
      simp only [true_iff]
      refine ⟨by omega, by omega, by omega, by omega, by omega, by omega, fun r hr => ?_⟩
      obtain ⟨i, hi, rfl⟩ := List.getElem_of_mem hr
      have := hb i hi
      rw [getD_of hi] at this
      split at this
      · omega
      · omega
    | some i =>
      refine ⟨false, rfl, ?_⟩
      obtain ⟨hi, hb⟩ := firstBad_spec hb
      have hi' : i < n.2.2.1.length := by first | exact hi | exact hi.1
      simp only [Bool.false_eq_true, false_iff]
      intro h
      have := h.calls _ (List.getElem_mem hi')
      apply hb
      rw [getD_of hi', if_neg (by omega)]
  · rintro i _ hi rfl hc
    rw [getD_of hi] at hc
    split at hc
    · omega
    · next hh =>
      refine ⟨((i + 1 : Nat) : Int), ?_, rfl⟩
      simp only [lt_dec hi, cond_true, idx_nat hi, Option.bind_some, decide_eq_false (show ¬ (40 : Int) < ((n.2.2.1[i]).2.2.2.2.2.2.2.1.length : Int) by omega), cond_false, wrap_succ hi (show n.2.2.1.length ≤ 9223372036854775807 by omega)]
  · rintro i _ hi rfl hc
    rw [getD_of hi] at hc
    split at hc
    · next hh =>
      simp only [lt_dec hi, cond_true, idx_nat hi, Option.bind_some, decide_eq_true (show (40 : Int) < ((n.2.2.1[i]).2.2.2.2.2.2.2.1.length : Int) by omega)]
    · omega
  · rintro _ rfl
    simp only [nlt_dec, cond_false]
theorem fit40 {n : NetT} (h : Good Y31 n) (hp : n.2.2.2.2.1.length ≤ 4096) : Fit n := by
  obtain ⟨⟨_, h1⟩, ⟨_, h2⟩, ⟨_, h3⟩, _, _, ⟨⟨_, h6⟩, _⟩, _⟩ := h
  refine ⟨fun x hx => ?_, fun x hx => ?_, fun x hx => ?_, fun x hx => ?_, hp, fun x hx => ?_⟩
  · exact (h1 x hx).1
  · exact (h2 x hx).1
  · exact (h3 x hx).2.2.2.1
  · exact (h3 x hx).2.2.2.2.2.2.2.1.1
  · exact (h6 x hx).1
def freeQ (q : QueT) : QueT := (q.1, q.2.1, q.2.2.1, q.2.2.2.1, q.2.2.2.2.1, q.2.2.2.2.2.1, false, false, 0, q.2.2.2.2.2.2.2.2.2)
theorem free_val (q : QueT) : F98 q = some (freeQ q) := rfl
theorem qB_free {k : Nat} {q : QueT} (h : qB k q = true) : qB k (freeQ q) = true := by
  unfold qB at h ⊢
  simp only [Bool.and_eq_true, decide_eq_true_eq] at h ⊢
  obtain ⟨h1, h2, h3, h4, h5, _, h7⟩ := h
  exact ⟨h1, h2, h3, h4, h5, ⟨Int.le_refl 0, by show (0 : Int) ≤ 255; decide⟩, h7⟩
theorem rideE_zero {n : NetT} {q : QueT} {x : LegT} : rideE n q x = 0 ↔ ((cl (callsOf n x) x.2.2.1).1 = x.2.2.2.2.1 ∧ (cl (callsOf n x) x.2.2.2.1).1 = x.2.2.2.2.2.1) ∧ ((cl (callsOf n x) x.2.2.1).2.2.1 = x.2.2.2.2.2.2.1 ∧ (cl (callsOf n x) x.2.2.2.1).2.1 = x.2.2.2.2.2.2.2.1) ∧ useR n q (rn n x.2.1) = true ∧ (stayB x = true ∨ (cl (callsOf n x) x.2.2.1).2.2.2.1 = true ∧ opnS n q x.2.2.2.2.1 = true) := by
  unfold rideE
  rw [zero_step (by omega), zero_step (by omega), zero_step (by omega), zero_step (by omega), zero_step (by omega), zero_step (by omega), zero_step (by omega), zero_step (by omega)]
  unfold useR Tr.useB modeB
  rw [Bool.or_eq_false_iff, Bool.or_eq_false_iff]
  simp only [Bool.not_eq_false', decide_eq_true_eq]
  generalize (rn n x.2.1).2.2.2.2.2.2.1 = b1
  generalize (rn n x.2.1).2.2.2.2.2.1 = b2
  generalize q.2.2.2.2.2.2.1 = b3
  generalize (roOf n (rn n x.2.1)).2.2.1 = b4
  generalize q.2.2.2.2.2.2.2.1 = b5
  generalize (decide (q.2.2.2.2.2.2.2.2.1 = (0 : Int)) || decide (Tr.qand .i64 (Int.fdiv q.2.2.2.2.2.2.2.2.1 (2 ^ min (Int.toNat (roOf n (rn n x.2.1)).2.1) 64)) 1 = 1)) = b6
  generalize stayB x = b7
  generalize (cl (callsOf n x) x.2.2.1).2.2.2.1 = b8
  generalize opnS n q x.2.2.2.2.1 = b9
  generalize ((cl (callsOf n x) x.2.2.1).1 = x.2.2.2.2.1 ∧ (cl (callsOf n x) x.2.2.2.1).1 = x.2.2.2.2.2.1) = p1
  generalize ((cl (callsOf n x) x.2.2.1).2.2.1 = x.2.2.2.2.2.2.1 ∧ (cl (callsOf n x) x.2.2.2.1).2.1 = x.2.2.2.2.2.2.2.1) = p2
  have key : ((b1 = false ∧ (b3 && !b2) = false ∧ (b5 && !b4) = false ∧ (!b6) = false ∧ (!b7 && !b8) = false ∧ (!b7 && !b9) = false ∧ (0 : Int) = 0) ↔ ((!b1 && ((b2 || !b3) && ((b4 || !b5) && b6))) = true ∧ (b7 = true ∨ b8 = true ∧ b9 = true))) := by
    cases b1 <;> cases b2 <;> cases b3 <;> cases b4 <;> cases b5 <;> cases b6 <;> cases b7 <;> cases b8 <;> cases b9 <;> simp
  exact and_congr_right fun _ => and_congr_right fun _ => by
    first
    | exact key
    | (simp only [Bool.not_eq_false'] at key ⊢; exact key)
theorem close_c0 (n : NetT) (q : QueT) : closeC n q c0 = c0 := by
  unfold closeC
  split <;> rfl
theorem cl_close (n : NetT) (q : QueT) (l : List CallT) (a : Int) : cl (l.map (closeC n q)) a = closeC n q (cl l a) := by
  unfold cl
  rw [List.getElem?_map]
  cases l[a.toNat]? with
  | none => exact (close_c0 n q).symm
  | some c => rfl
theorem close_eq (n : NetT) (q : QueT) (c : CallT) : closeC n q c = (c.1, c.2.1, c.2.2.1, c.2.2.2.1 && opnS n q c.1, c.2.2.2.2.1 && opnS n q c.1, ()) := by
  unfold closeC
  cases h : opnS n q c.1 with
  | true => simp
  | false => simp
theorem calls_allow (n : NetT) (q : QueT) (x : LegT) : callsOf (allowA n q) x = (callsOf n x).map (closeC n q) := rn_calls n q x.2.1
theorem exists_allow (n : NetT) (q : QueT) (x : LegT) : existsB (allowA n q) x = existsB n x := by
  have hl : (allowA n q).2.2.1.length = n.2.2.1.length := List.length_map ..
  unfold existsB
  rw [calls_allow, List.length_map, hl]
theorem rn_allow {n : NetT} {q : QueT} {x : LegT} (hx : existsB n x = true) : rn (allowA n q) x.2.1 = allowR n q (rn n x.2.1) := by
  unfold existsB at hx
  rw [Bool.and_eq_true] at hx
  have h := hx.1
  unfold inR at h
  simp only [Bool.and_eq_true, decide_eq_true_eq] at h
  have hl : x.2.1.toNat < n.2.2.1.length := by omega
  unfold rn
  show ((n.2.2.1.map (allowR n q))[x.2.1.toNat]?).getD u0 = _
  rw [List.getElem?_map, List.getElem?_eq_getElem hl]
  rfl
theorem open_free (n : NetT) (q : QueT) (s : Int) : opnS n (freeQ q) s = true := by
  unfold opnS freeQ
  simp
theorem use_free (n : NetT) (q : QueT) (r : RunT) : useR n (freeQ q) r = !r.2.2.2.2.2.2.1 := by
  unfold useR Tr.useB freeQ
  simp
theorem ride_equiv {n : NetT} {q : QueT} {x : LegT} (hx : existsB n x = true) : rideE (allowA n q) (freeQ q) x = 0 ↔ rideE n q x = 0 := by
  rw [rideE_zero, rideE_zero, calls_allow, cl_close, cl_close, close_eq, close_eq, rn_allow hx, use_free, open_free]
  have hc : (allowR n q (rn n x.2.1)).2.2.2.2.2.2.1 = !useR n q (rn n x.2.1) := rfl
  rw [hc, Bool.not_not]
  refine and_congr_right fun h1 => and_congr_right fun _ => and_congr_right fun _ => ?_
  simp only [Bool.and_eq_true]
  rw [h1.1]
  simp
theorem any_filter {α : Type} (p f : α → Bool) (l : List α) : (l.filter p).any f = l.any fun x => f x && p x := by
  induction l with
  | nil => rfl
  | cons x l ih =>
    cases hp : p x with
    | true => rw [List.filter_cons_of_pos hp, List.any_cons, List.any_cons, ih, hp, Bool.and_true]
    | false => rw [List.filter_cons_of_neg (by simp [hp]), List.any_cons, ih, hp, Bool.and_false, Bool.false_or]
theorem walkE_zero {n : NetT} {q : QueT} {x : LegT} : walkE n q x = 0 ↔ (n.2.2.2.2.1.any fun p => matchW x p && freeW q p) = true := by
  unfold walkE
  cases (n.2.2.2.2.1.any fun p => matchW x p && freeW q p) with
  | true => simp
  | false => cases n.2.2.2.2.1.any (matchW x) <;> simp
theorem walk_equiv {n : NetT} {q : QueT} {x : LegT} : walkE (allowA n q) (freeQ q) x = 0 ↔ walkE n q x = 0 := by
  rw [walkE_zero, walkE_zero]
  have hfr : ∀ p : Foot, freeW (freeQ q) p = true := by
    intro p; unfold freeW freeQ; simp
  show ((pathsA n q).any fun p => matchW x p && freeW (freeQ q) p) = true ↔ _
  simp only [hfr, Bool.and_true]
  unfold pathsA freeW
  cases q.2.2.2.2.2.2.1 with
  | true => simp only [if_true]; rw [any_filter]; simp
  | false => simp
theorem leg_equiv {n : NetT} {q : QueT} {x : LegT} : legE (allowA n q) (freeQ q) x = 0 ↔ legE n q x = 0 := by
  have hz : ∀ (n : NetT) (q : QueT), legE n q x = 0 ↔ (!inR x.2.2.2.2.1 n.1.length || !inR x.2.2.2.2.2.1 n.1.length) = false ∧ (bif x.1 then !existsB n x else !decide (x.2.1 = 0) || (!decide (x.2.2.1 = 0) || (!decide (x.2.2.2.1 = 0) || stayB x))) = false ∧ (!decide (0 ≤ x.2.2.2.2.2.2.1 ∧ x.2.2.2.2.2.2.1 ≤ 3155932800) || !decide (0 ≤ x.2.2.2.2.2.2.2.1 ∧ x.2.2.2.2.2.2.2.1 ≤ 3155932800)) = false ∧ (bif x.1 then rideE n q x else walkE n q x) = 0 := by
    intro n q
    unfold legE
    rw [zero_step (by omega), zero_step (by omega), zero_step (by omega)]
  rw [hz, hz, exists_allow]
  refine and_congr_right fun _ => and_congr_right fun h2 => and_congr_right fun _ => ?_
  cases hx : x.1 with
  | true =>
    rw [hx] at h2
    exact ride_equiv (by simpa using h2)
  | false => exact walk_equiv
theorem at_equiv {n : NetT} {q : QueT} {L : List LegT} {i : Nat} : atE (allowA n q) (freeQ q) L i = 0 ↔ atE n q L i = 0 := by
  have hz : ∀ (n : NetT) (q : QueT), atE n q L i = 0 ↔ legE n q (lg L i) = 0 ∧ linkE n q L i = 0 ∧ (tailB L i = true → alightE n q (lg L i) = 0) := by
    intro n q
    unfold atE
    by_cases h1 : legE n q (lg L i) = 0
    · by_cases h2 : linkE n q L i = 0
      · rw [decide_eq_true h1, decide_eq_true h2]
        cases tailB L i <;> simp [h1, h2]
      · rw [decide_eq_true h1, decide_eq_false h2]; simp [h2]
    · rw [decide_eq_false h1]; simp [h1]
  have ha : ∀ (n : NetT) (q : QueT) (x : LegT), alightE n q x = 0 ↔ (cl (callsOf n x) x.2.2.2.1).2.2.2.2.1 = true ∧ opnS n q x.2.2.2.2.2.1 = true := by
    intro n q x
    unfold alightE
    rw [zero_step (by omega), zero_step (by omega)]
    simp
  rw [hz, hz]
  refine (and_congr leg_equiv Iff.rfl).trans (and_congr_right fun h1 => and_congr Iff.rfl ?_)
  refine imp_congr_right fun ht => ?_
  have hr : (lg L i).1 = true := by
    unfold tailB at ht
    rw [Bool.and_eq_true] at ht
    exact ht.1
  obtain ⟨_, _, h3, _⟩ := legE_zero h1
  have h4 := (rideE_zero.1 (h3 hr).2).1.2
  rw [ha, ha, calls_allow, cl_close, close_eq, open_free]
  simp only [Bool.and_eq_true]
  rw [h4]
  simp
theorem zN_allow (n : NetT) (q : QueT) (l : List CallT) (a : Nat) : ∀ k, zN (allowA n q) (l.map (closeC n q)) a k = zN n l a k
  | 0 => rfl
  | k + 1 => by
    have h : zn (allowA n q) (l.map (closeC n q)) (a + k) = zn n l (a + k) := by
      unfold zn
      rw [(close_get n q l (a + k)).1]
      rfl
    unfold zN
    rw [zN_allow n q l a k, h]
theorem newRide_allow {n : NetT} {q : QueT} {x : LegT} (hx : existsB n x = true) : zmask (allowA n q) x = zmask n x ∧ routeAt (allowA n q) x = routeAt n x := by
  constructor
  · unfold zmask
    rw [calls_allow, zN_allow]
  · unfold routeAt
    rw [rn_allow hx]
    rfl
theorem ridesGo_allow (n : NetT) (q : QueT) : ∀ (L : List LegT) (w : Bool) (out : List RideT), ridesGo (allowA n q) L w out = ridesGo n L w out
  | [], _, _ => rfl
  | x :: L, w, out => by
    rw [ridesGo_cons, ridesGo_cons, exists_allow]
    by_cases h1 : x.1 = true ∧ existsB n x = false
    · rw [if_pos h1, if_pos h1]
    rw [if_neg h1, if_neg h1]
    by_cases h2 : stayB x = true ∧ (x.1 = false ∨ w = false)
    · rw [if_pos h2, if_pos h2]
    rw [if_neg h2, if_neg h2]
    by_cases h3 : x.1 = true
    · rw [if_pos h3, if_pos h3]
      have hx : existsB n x = true := by
        cases he : existsB n x with
        | true => rfl
        | false => exact absurd ⟨h3, he⟩ h1
      obtain ⟨e1, e2⟩ := newRide_allow (q := q) hx
      have e3 : newRide (allowA n q) x = newRide n x := by unfold newRide; rw [e1, e2]
      have e4 : addLast (allowA n q) x out = addLast n x out := by unfold addLast addRide; rw [e1, e2]
      rw [e3, e4]
      exact ridesGo_allow n q L _ _
    · rw [if_neg h3, if_neg h3]
      exact ridesGo_allow n q L _ _
theorem end_equiv (n : NetT) (q : QueT) (L : List LegT) : endE (allowA n q) (freeQ q) L = endE n q L := by
  have hc : costE (allowA n q) L = costE n L := by
    unfold costE
    rw [ridesGo_allow]
    rfl
  unfold endE
  rw [hc]
  rfl
theorem check_equiv {n : NetT} {q : QueT} (L : List LegT) (h1 : chkQ n q = 0) (h2 : chkQ (allowA n q) (freeQ q) = 0) : (checkE (allowA n q) (freeQ q) L).2 = 0 ↔ (checkE n q L).2 = 0 := by
  rw [check_iff0, check_iff0]
  refine and_congr ⟨fun _ => h1, fun _ => h2⟩ (or_congr Iff.rfl (and_congr_right fun _ => and_congr ?_ ?_))
  · exact forall_congr' fun i => imp_congr_right fun _ => at_equiv
  · rw [end_equiv]
theorem allow_few40 {n : NetT} (q : QueT) (h : Few40 n) : Few40 (allowA n q) := by
  refine ⟨h.stops, h.routes, by show (n.2.2.1.map _).length ≤ _; rw [List.length_map]; exact h.runs, h.links, ?_, h.prods, ?_⟩
  · show (pathsA n q).length ≤ _
    unfold pathsA
    split
    · exact Nat.le_trans (List.length_filter_le _ _) h.paths
    · exact h.paths
  · intro r hr
    obtain ⟨x, hx, rfl⟩ := List.mem_map.1 (show r ∈ n.2.2.1.map (allowR n q) from hr)
    show (x.2.2.2.2.2.2.2.1.map _).length ≤ _
    rw [List.length_map]
    exact h.calls x hx
open Classical in
theorem equivalent (n : NetT) (h : Good Y31 n) (q : QueT) (j : JouT) : F29 n q j = some true := by
  obtain ⟨L, ⟨⟩⟩ := j
  unfold F29
  obtain ⟨b, hb1, hb2⟩ := few_val n
  rw [hb1]
  cases b with
  | false => simp only [Option.bind_some, Bool.not_false, cond_true, example_true]
  | true =>
    have hF4 := hb2.1 rfl
    have hF := hF4.few
    have hfit := fit40 h hF.paths
    simp only [Option.bind_some, Bool.not_true, cond_false]
    by_cases hL : 20 < L.length
    · rw [decide_eq_true (show (20 : Int) < (L.length : Int) by omega)]
      simp only [Option.bind_some, cond_true, example_true]
    rw [decide_eq_false (show ¬ (20 : Int) < (L.length : Int) by omega)]
    simp only [cond_false]
    rw [chkQ_ref hfit]
    by_cases hz : chkQ n q = 0
    · obtain ⟨hW, hq⟩ := chkQ_zero.1 hz
      have hW' := allow_whole q hF.paths hW
      have hz' : chkQ (allowA n q) (freeQ q) = 0 := chkQ_zero.2 ⟨hW', qB_free hq⟩
      have hfit' := allow_fit q hfit
      rw [allowed_val hW.sound hF q (by rw [chkQ_code hfit, hz])]
      obtain ⟨b', hb1', hb2'⟩ := few_val (allowA n q)
      have hb' : b' = true := hb2'.2 (allow_few40 q hF4)
      subst hb'
      simp only [Option.bind_some, hz, decide_true, Bool.not_true, cond_false]
      rw [hb1', valid_whole hfit', decide_eq_true hW']
      simp only [Option.bind_some, Bool.not_true, cond_false]
      rw [feasible_val hfit (by have := hF4.prods; omega) q L (by omega), free_val]
      simp only [Option.bind_some]
      rw [feasible_val hfit' (by have := (allow_few40 q hF4).prods; omega) (freeQ q) L (by omega)]
      simp only [Option.bind_some]
      have he : decide ((checkE (allowA n q) (freeQ q) L).2 = 0) = decide ((checkE n q L).2 = 0) := decide_eq_decide.2 (check_equiv L hz hz')
      rw [he]
      simp only [beq_self_eq_true, cond_true, example_true, Option.bind_some]
    · simp only [Option.bind_some, decide_eq_false hz, Bool.not_false, cond_true, example_true]
theorem equivalentP (x : ElPs F29A) (h : GoodPs F29A x) : F29 x.1 x.2.1 x.2.2.1 = some true := equivalent _ h.1 _ _
end Q
