/- Chapter 27: departures, arrivals, direct connections in plain Lean. -/
import Derived.Test.YtaeildkdonhmiaaGreatDoorTsH
import Derived.Test.YtaeildkdonhmiaaGreatDoorLwJb2827
import Derived.Test.YtaeildkdonhmiaaGreatDoorTtA
import Derived.Test.YtaeildkdonhmiaaGreatDoorTsF
namespace Q
open Tr Go
theorem run_for {σ τ : Type} {step : σ → Option (σ ⊕ τ)} (n : Nat) (P : τ → Prop) (Inv : Nat → σ → Prop)
    (hstep : ∀ i s, i < n → Inv i s → (∃ s', step s = some (.inl s') ∧ Inv (i + 1) s') ∨ ∃ r, step s = some (.inr r) ∧ P r)
    (hend : ∀ s, Inv n s → ∃ r, step s = some (.inr r) ∧ P r) (s : σ) (h0 : Inv 0 s) : ∃ r, run step s = some r ∧ P r := by
  have key : ∀ (k i : Nat) (s : σ), n - i = k → i ≤ n → Inv i s → ∃ r, run step s = some r ∧ P r := by
    intro k
    induction k with
    | zero =>
      intro i s hk hi hs
      have : i = n := by omega
      subst this
      obtain ⟨r, h1, h2⟩ := hend s hs
      exact ⟨r, run_inr h1, h2⟩
    | succ k ih =>
      intro i s hk hi hs
      rcases hstep i s (by omega) hs with ⟨s', h1, h2⟩ | ⟨r, h1, h2⟩
      · rw [run_inl h1]
        exact ih (i + 1) s' (by omega) (by omega) h2
      · exact ⟨r, run_inr h1, h2⟩
  exact key n 0 s (by omega) (by omega) h0
theorem bind_of {α β : Type} {o : Option α} {f : α → Option β} {z : Option β} (P : α → Prop) (h : ∃ r, o = some r ∧ P r) (k : ∀ r, P r → f r = z) : Option.bind o f = z := by
  obtain ⟨r, rfl, hr⟩ := h
  exact k r hr
theorem bind_ex {α β γ : Type} {o : Option α} {f : α → Option (β ⊕ γ)} {Q : β → Prop} (P : α → Prop) (h : ∃ r, o = some r ∧ P r) (k : ∀ r, P r → ∃ s, f r = some (.inl s) ∧ Q s) : ∃ s, Option.bind o f = some (.inl s) ∧ Q s := by
  obtain ⟨r, rfl, hr⟩ := h
  exact k r hr
theorem run_half {step : Int × Int → Option ((Int × Int) ⊕ Int)} {n k : Nat} (hk : k ≤ n)
    (hstep : ∀ lo hi : Nat, lo < hi → hi ≤ n → step ((lo : Int), (hi : Int)) = some (.inl (if lo + (hi - lo) / 2 < k then (((lo + (hi - lo) / 2 + 1 : Nat) : Int), (hi : Int)) else ((lo : Int), ((lo + (hi - lo) / 2 : Nat) : Int)))))
    (hend : ∀ lo : Nat, step ((lo : Int), (lo : Int)) = some (.inr (lo : Int))) : run step ((0 : Int), (n : Int)) = some (k : Int) := by
  have key : ∀ (m lo hi : Nat), hi - lo = m → lo ≤ k → k ≤ hi → hi ≤ n → run step ((lo : Int), (hi : Int)) = some (k : Int) := by
    intro m
    induction m using Nat.strongRecOn with
    | _ m ih =>
      intro lo hi hm h1 h2 h3
      by_cases hlt : lo < hi
      · rw [run_inl (hstep lo hi hlt h3)]
        split
        · exact ih (hi - (lo + (hi - lo) / 2 + 1)) (by omega) _ _ rfl (by omega) h2 h3
        · exact ih ((lo + (hi - lo) / 2) - lo) (by omega) _ _ rfl h1 (by omega) (by omega)
      · have : lo = hi := by omega
        subst this
        have : lo = k := by omega
        subst this
        exact run_inr (hend lo)
  exact key (n - 0) 0 n rfl (Nat.zero_le _) hk (Nat.le_refl _)
theorem mid_val {lo hi : Nat} (h : lo ≤ hi) (hn : hi ≤ 4611686018427387904) :
    IntKind.wrap .i64 ((lo : Int) + IntKind.wrap .i64 (Int.tdiv (IntKind.wrap .i64 ((hi : Int) - (lo : Int))) 2)) = ((lo + (hi - lo) / 2 : Nat) : Int) := by
  have e1 : IntKind.wrap .i64 ((hi : Int) - (lo : Int)) = ((hi - lo : Nat) : Int) := by rw [wrap_i64 (by omega) (by omega)]; omega
  have e2 : Int.tdiv ((hi - lo : Nat) : Int) 2 = (((hi - lo) / 2 : Nat) : Int) := by
    rw [Int.tdiv_eq_ediv_of_nonneg (by omega)]; omega
  rw [e1, e2, wrap_i64 (x := (((hi - lo) / 2 : Nat) : Int)) (by omega) (by omega), wrap_i64 (by omega) (by omega)]
  omega
end Q
namespace Q
open Tr Go
theorem of_ex {α : Type} {o : Option α} {z : α} (h : ∃ r, o = some r ∧ r = z) : o = some z := by
  obtain ⟨r, rfl, rfl⟩ := h; rfl
theorem dec_ite {α : Type} (p : Prop) [Decidable p] (x y : α) : (bif decide p then x else y) = if p then x else y := by
  by_cases h : p <;> simp [h]
abbrev VisT := Int × Int × Int × Unit
def ltV (a b : VisT) : Prop := a.2.2.1 < b.2.2.1 ∨ (a.2.2.1 = b.2.2.1 ∧ (a.1 < b.1 ∨ (a.1 = b.1 ∧ a.2.1 < b.2.1)))
def cmpV (a b : VisT) : Int :=
  if a.2.2.1 < b.2.2.1 then -1 else if b.2.2.1 < a.2.2.1 then 1 else
  if a.1 < b.1 then -1 else if b.1 < a.1 then 1 else
  if a.2.1 < b.2.1 then -1 else if b.2.1 < a.2.1 then 1 else 0
instance (a b : VisT) : Decidable (ltV a b) := by unfold ltV; infer_instance
theorem guard_le {a : Nat} (h : a ≤ 4294967296) : guardB (decide (a ≤ maxApp)) = some () := by rw [decide_eq_true (show a ≤ maxApp from h)]; rfl
theorem fm_congr {α β : Type} {f g : α → Option β} : ∀ {l : List α}, (∀ x ∈ l, f x = g x) → l.filterMap f = l.filterMap g
  | [], _ => rfl
  | x :: l, h => by rw [List.filterMap_cons, List.filterMap_cons, h x (by simp), fm_congr fun y hy => h y (by simp [hy])]
theorem cmpV_lt (a b : VisT) : cmpV a b < 0 ↔ ltV a b := by
  unfold cmpV ltV
  (repeat' split) <;> omega
theorem cmpV_pos (a b : VisT) : 0 < cmpV a b ↔ ltV b a := by
  unfold cmpV ltV
  (repeat' split) <;> omega
theorem ltV_irr (a : VisT) : ¬ ltV a a := by unfold ltV; omega
theorem ltV_tr {a b c : VisT} (h1 : ltV a b) (h2 : ltV b c) : ltV a c := by unfold ltV at *; omega
theorem cmpV0 (x y : Int) : F15 x y = some (if x < y then -1 else if y < x then 1 else 0) := by
  unfold F15 F17
  simp only [decide_true, Bool.not_true, Option.bind_some, cond_false, dec_ite]
  (repeat' split) <;> rfl
theorem orV_val (x y z : El Y3) : F16 [x, y, z] = some (if x ≠ 0 then x else if y ≠ 0 then y else z) := by
  unfold F16
  have w1 : IntKind.wrap .i64 (0 + 1 : Int) = 1 := by decide
  have w2 : IntKind.wrap .i64 (1 + 1 : Int) = 2 := by decide
  have w3 : IntKind.wrap .i64 (2 + 1 : Int) = 3 := by decide
  rw [run_unfold]
  simp only [List.length_cons, List.length_nil, show decide ((0 : Int) < ((0 + 1 + 1 + 1 : Nat) : Int)) = true by decide, cond_true, idx, show (0 : Int) ≤ 0 by decide, if_true, Int.toNat_zero, List.getElem?_cons_zero, Option.bind_some, w1]
  by_cases h1 : x = 0
  · subst h1
    simp only [decide_true, Bool.not_true, cond_false, Option.bind_some, Sum.elim_inl, ne_eq, not_true, if_false]
    rw [run_unfold]
    simp only [List.length_cons, List.length_nil, show decide ((1 : Int) < ((0 + 1 + 1 + 1 : Nat) : Int)) = true by decide, cond_true, show (0 : Int) ≤ 1 by decide, if_true, Int.toNat_one, List.getElem?_cons_succ, List.getElem?_cons_zero, Option.bind_some, w2]
    by_cases h2 : y = 0
    · subst h2
      simp only [decide_true, Bool.not_true, cond_false, Option.bind_some, Sum.elim_inl, not_true, if_false]
      rw [run_unfold]
      simp only [List.length_cons, List.length_nil, show decide ((2 : Int) < ((0 + 1 + 1 + 1 : Nat) : Int)) = true by decide, cond_true, show (0 : Int) ≤ 2 by decide, if_true, show Int.toNat 2 = 2 by decide, List.getElem?_cons_succ, List.getElem?_cons_zero, Option.bind_some, w3]
      by_cases h3 : z = 0
      · subst h3
        simp only [decide_true, Bool.not_true, cond_false, Option.bind_some, Sum.elim_inl]
        rw [run_unfold]
        simp
      · simp [h3]
    · simp [h2]
  · simp [h1]
theorem compare_val (a b : VisT) : F9 a b = some (cmpV a b) := by
  unfold F9
  simp only [cmpV0, Option.bind_some]
  refine bind_of (fun r => r = _) ⟨_, orV_val _ _ _, rfl⟩ ?_
  rintro _ rfl
  unfold cmpV
  by_cases h1 : a.2.2.1 < b.2.2.1
  · simp [h1]
  by_cases h2 : b.2.2.1 < a.2.2.1
  · simp [h1, h2]
  by_cases h3 : a.1 < b.1
  · simp [h1, h2, h3]
  by_cases h4 : b.1 < a.1
  · simp [h1, h2, h3, h4]
  simp [h1, h2, h3, h4]
theorem sorted_same {l m : List VisT} (hl : l.Pairwise ltV) (hm : m.Pairwise ltV) (h : ∀ v, v ∈ l ↔ v ∈ m) : l = m := by
  refine List.Perm.eq_of_pairwise (le := ltV) (fun a b _ _ h4 h5 => absurd (ltV_tr h4 h5) (ltV_irr a)) hl hm ?_
  have nd : ∀ {l : List VisT}, l.Pairwise ltV → l.Nodup := fun h => h.imp fun {a b} hab (e : a = b) => ltV_irr b (by rw [e] at hab; exact hab)
  exact (List.perm_ext_iff_of_nodup (nd hl) (nd hm)).2 h
def visR (h : Nat → Option Int) (r m : Nat) : List VisT := (List.range m).filterMap fun i => (h i).map fun t => ((r : Int), (i : Int), t, ())
def visA (h : Nat → Nat → Option Int) (len : Nat → Nat) (k : Nat) : List VisT := (List.range k).flatMap fun r => visR (h r) r (len r)
theorem visR_succ (h : Nat → Option Int) (r m : Nat) : visR h r (m + 1) = visR h r m ++ (match h m with | some t => [((r : Int), (m : Int), t, ())] | none => []) := by
  unfold visR
  rw [List.range_succ, List.filterMap_append]
  congr 1
  cases hm : h m with
  | none => simp [hm]
  | some t => simp [hm]
theorem visA_succ (h : Nat → Nat → Option Int) (len : Nat → Nat) (k : Nat) : visA h len (k + 1) = visA h len k ++ visR (h k) k (len k) := by
  unfold visA
  rw [List.range_succ, List.flatMap_append]; simp
theorem visR_mem {h : Nat → Option Int} {r m : Nat} {v : VisT} : v ∈ visR h r m ↔ ∃ i t, i < m ∧ h i = some t ∧ v = ((r : Int), (i : Int), t, ()) := by
  unfold visR
  simp only [List.mem_filterMap, List.mem_range, Option.map_eq_some_iff]
  constructor
  · rintro ⟨i, hi, t, ht, rfl⟩; exact ⟨i, t, hi, ht, rfl⟩
  · rintro ⟨i, t, hi, ht, rfl⟩; exact ⟨i, hi, t, ht, rfl⟩
theorem visA_mem {h : Nat → Nat → Option Int} {len : Nat → Nat} {k : Nat} {v : VisT} : v ∈ visA h len k ↔ ∃ r i t, r < k ∧ i < len r ∧ h r i = some t ∧ v = ((r : Int), (i : Int), t, ()) := by
  unfold visA
  simp only [List.mem_flatMap, List.mem_range, visR_mem]
  constructor
  · rintro ⟨r, hr, i, t, hi, ht, rfl⟩; exact ⟨r, i, t, hr, hi, ht, rfl⟩
  · rintro ⟨r, i, t, hr, hi, ht, rfl⟩; exact ⟨r, hr, i, t, hi, ht, rfl⟩
theorem visR_len (h : Nat → Option Int) (r m : Nat) : (visR h r m).length ≤ m := by
  unfold visR
  exact Nat.le_trans (List.length_filterMap_le _ _) (by simp)
theorem visA_len {h : Nat → Nat → Option Int} {len : Nat → Nat} {c : Nat} (k : Nat) (hc : ∀ r, r < k → len r ≤ c) : (visA h len k).length ≤ c * k := by
  induction k with
  | zero => simp [visA]
  | succ k ih =>
    rw [visA_succ, List.length_append]
    have := ih fun r hr => hc r (by omega)
    have := visR_len (h k) k (len k)
    have := hc k (by omega)
    have : c * (k + 1) = c * k + c := Nat.mul_succ _ _
    omega
theorem apart {u v : VisT} (h : u.1 < v.1 ∨ (u.1 = v.1 ∧ u.2.1 < v.2.1)) : ltV u v ∨ ltV v u := by unfold ltV; omega
theorem visR_told (h : Nat → Option Int) (r m : Nat) : (visR h r m).Pairwise fun a b => a.1 = b.1 ∧ a.2.1 < b.2.1 := by
  unfold visR
  rw [List.pairwise_filterMap]
  refine List.Pairwise.imp ?_ List.pairwise_lt_range
  intro a b hab x hx y hy
  simp only [Option.map_eq_some_iff] at hx hy
  obtain ⟨t, _, rfl⟩ := hx
  obtain ⟨u, _, rfl⟩ := hy
  exact ⟨rfl, show ((a : Nat) : Int) < ((b : Nat) : Int) by omega⟩
theorem visA_told (h : Nat → Nat → Option Int) (len : Nat → Nat) (k : Nat) : (visA h len k).Pairwise fun a b => ltV a b ∨ ltV b a := by
  unfold visA
  rw [List.pairwise_flatMap]
  refine ⟨fun i _ => (visR_told _ _ _).imp fun h => apart (.inr h), ?_⟩
  refine List.Pairwise.imp ?_ List.pairwise_lt_range
  intro a b hab x hx y hy
  obtain ⟨_, _, _, _, rfl⟩ := visR_mem.1 hx
  obtain ⟨_, _, _, _, rfl⟩ := visR_mem.1 hy
  exact apart (.inl (show ((a : Nat) : Int) < ((b : Nat) : Int) by omega))
theorem visA_congr {h h' : Nat → Nat → Option Int} {len : Nat → Nat} {k : Nat} (e : ∀ r i, r < k → i < len r → h r i = h' r i) : visA h len k = visA h' len k := by
  induction k with
  | zero => rfl
  | succ k ih =>
    rw [visA_succ, visA_succ, ih fun r i hr hi => e r i (by omega) hi]
    congr 1
    unfold visR
    refine fm_congr fun i hi => ?_
    rw [e k i (by omega) (List.mem_range.1 hi)]
theorem sort_vis {l : List VisT} (hl : l.length < 4294967296) (ht : l.Pairwise fun a b => ltV a b ∨ ltV b a) : ∃ ys, sortF F9 l = some ys ∧ ys.Perm l ∧ ys.Pairwise ltV :=
  sortF_val (cmp := F9) ltV l hl (fun x _ y _ => ⟨_, compare_val x y, cmpV_lt x y, cmpV_pos x y⟩) (fun x _ => ltV_irr x) (fun a _ b _ c _ => ltV_tr) ht
theorem beforeV (a b : VisT) : F81 a b = some (decide (ltV a b)) := by
  unfold F81
  by_cases h1 : a.2.2.1 = b.2.2.1
  · rw [decide_eq_true h1]
    by_cases h2 : a.1 = b.1
    · rw [decide_eq_true h2]
      simp only [Bool.not_true, cond_false]
      congr 1
      exact decide_eq_decide.2 ⟨fun (h : a.2.1 < b.2.1) => by unfold ltV; omega, fun h => (by unfold ltV at h; omega : a.2.1 < b.2.1)⟩
    · rw [decide_eq_false h2]
      simp only [Bool.not_true, Bool.not_false, cond_false, cond_true]
      congr 1
      exact decide_eq_decide.2 ⟨fun (h : a.1 < b.1) => by unfold ltV; omega, fun h => (by unfold ltV at h; omega : a.1 < b.1)⟩
  · rw [decide_eq_false h1]
    simp only [Bool.not_false, cond_true]
    congr 1
    exact decide_eq_decide.2 ⟨fun (h : a.2.2.1 < b.2.2.1) => by unfold ltV; omega, fun h => (by unfold ltV at h; omega : a.2.2.1 < b.2.2.1)⟩
theorem insert_val {l : List VisT} {v : VisT} (hs : l.Pairwise ltV) (ht : ∀ y ∈ l, ltV y v ∨ ltV v y) (hl : l.length ≤ 100000) :
    ∃ m, F83 l v = some m ∧ m.Perm (l ++ [v]) ∧ m.Pairwise ltV := by
  unfold F83
  -- how many come before
  have hrun : ∃ r : Int, Tr.run (fun s0 : Int => Option.bind (bif decide (s0 < (↑(List.length l) : Int)) then Option.bind (inb s0 (List.length l)) fun x1 => Option.bind l[x1]? fun x2 => Option.bind (F81 x2 v) fun x3 => some x3 else some false) fun x4 => bif x4 then some (.inl (IntKind.wrap .i64 (s0 + (1 : Int)))) else some (.inr s0)) (0 : Int) = some r ∧
      ∃ k : Nat, r = (k : Int) ∧ k ≤ l.length ∧ (∀ i (h : i < l.length), i < k → ltV l[i] v) ∧ ∀ h : k < l.length, ¬ ltV l[k] v := by
    refine run_for l.length _ (fun i s => s = (i : Int) ∧ ∀ j (h : j < l.length), j < i → ltV l[j] v) ?_ ?_ (0 : Int) ⟨rfl, fun j _ h => by omega⟩
    · rintro i s hi ⟨rfl, hb⟩
      simp only [lt_dec hi, cond_true, inb_nat hi, Option.bind_some, List.getElem?_eq_getElem hi, beforeV]
      by_cases hv : ltV l[i] v
      · left
        rw [decide_eq_true hv]
        refine ⟨((i + 1 : Nat) : Int), by rw [wrap_succ hi (by omega)]; rfl, rfl, fun j h hj => ?_⟩
        by_cases e : j = i
        · subst e; exact hv
        · exact hb j h (by omega)
      · right
        rw [decide_eq_false hv]
        exact ⟨_, rfl, i, rfl, by omega, hb, fun _ => hv⟩
    · rintro s ⟨rfl, hb⟩
      refine ⟨(l.length : Int), ?_, l.length, rfl, Nat.le_refl _, hb, fun h => by omega⟩
      simp only [nlt_dec, cond_false, Option.bind_some]
  obtain ⟨r, h1, k, rfl, hk, hb, hn⟩ := hrun
  rw [h1]
  simp only [Option.bind_some]
  have e1 : sliceB l.length l.length none (some (k : Int)) = some (0, k) := by
    unfold sliceB
    simp only [if_pos (show (0 : Int) ≤ (k : Int) ∧ (k : Int) ≤ (l.length : Int) from ⟨by omega, by omega⟩), Option.bind_some, Int.toNat_natCast]
  have e2 : sliceB l.length l.length (some (k : Int)) none = some (k, l.length) := by
    unfold sliceB
    simp only [if_pos (show (0 : Int) ≤ (k : Int) ∧ (k : Int) ≤ (l.length : Int) from ⟨by omega, by omega⟩), Option.bind_some, Int.toNat_natCast]
  rw [e1, e2]
  simp only [Option.bind_some]
  rw [guard_le (by simp; omega)]
  simp only [Option.bind_some]
  rw [guard_le (by simp; omega)]
  simp only [Option.bind_some]
  rw [guard_le (by simp; omega)]
  simp only [Option.bind_some, List.drop_zero, List.nil_append]
  have e3 : List.take (l.length - k) (List.drop k l) = List.drop k l := List.take_of_length_le (by simp)
  rw [e3]
  refine ⟨_, rfl, ?_, ?_⟩
  · calc (l.take k ++ [v] ++ l.drop k).Perm (l.take k ++ (l.drop k ++ [v])) := by
          rw [List.append_assoc]; exact List.Perm.append_left _ List.perm_append_comm
        _ = l ++ [v] := by rw [← List.append_assoc, List.take_append_drop]
  · have hl1 : ∀ x ∈ l.take k, ltV x v := fun x hx => by
      obtain ⟨i, hi, rfl⟩ := List.getElem_of_mem hx
      rw [List.length_take] at hi
      rw [List.getElem_take]
      exact hb i (by omega) (by omega)
    have hl2 : ∀ x ∈ l.drop k, ltV v x := fun x hx => by
      obtain ⟨i, hi, rfl⟩ := List.getElem_of_mem hx
      rw [List.length_drop] at hi
      rw [List.getElem_drop]
      have hk' : k < l.length := by omega
      have hvk : ltV v l[k] := (ht _ (List.getElem_mem hk')).resolve_left (hn hk')
      by_cases h0 : i = 0
      · subst h0; exact hvk
      · exact ltV_tr hvk (List.pairwise_iff_getElem.1 hs k (k + i) (by omega) (by omega) (by omega))
    rw [List.append_assoc, List.pairwise_append]
    refine ⟨hs.sublist (List.take_sublist _ _), List.pairwise_cons.2 ⟨hl2, hs.sublist (List.drop_sublist _ _)⟩, fun a ha b hb' => ?_⟩
    rcases List.mem_cons.1 hb' with rfl | hb'
    · exact hl1 a ha
    · exact ltV_tr (hl1 a ha) (hl2 b hb')
theorem same_self (l : List VisT) (hl : l.length ≤ 9223372036854775807) : F79 l l = some true := by
  unfold F79
  simp only [decide_true, Bool.not_true, cond_false]
  refine bind_of (fun r => r = .inl ()) (run_for l.length _ (fun i (s : Int) => s = (i : Int)) ?_ ?_ _ rfl) ?_
  · rintro i s hi rfl
    left
    refine ⟨((i + 1 : Nat) : Int), ?_, rfl⟩
    simp only [lt_dec hi, cond_true, idx_nat hi, Option.bind_some, decide_true, Bool.and_self, Bool.not_true, cond_false, wrap_succ hi hl]
  · rintro s rfl
    exact ⟨_, by simp only [nlt_dec, cond_false], rfl⟩
  · rintro _ rfl; rfl
end Q
namespace Q
open Tr Go
def runOf (n : NetT) (r : Nat) : RunT := (n.2.2.1[r]?).getD u0
def calOf (n : NetT) (r : Nat) : List CallT := (runOf n r).2.2.2.2.2.2.2.1
def lenC (n : NetT) (r : Nat) : Nat := (calOf n r).length
def callAt (n : NetT) (r i : Nat) : CallT := ((calOf n r)[i]?).getD c0
theorem runOf_eq {n : NetT} {r : Nat} (h : r < n.2.2.1.length) : runOf n r = n.2.2.1[r] := getD_of h u0
theorem runOf_mem {n : NetT} {r : Nat} (h : r < n.2.2.1.length) : runOf n r ∈ n.2.2.1 := by rw [runOf_eq h]; exact List.getElem_mem h
theorem callAt_eq {n : NetT} {r i : Nat} (h : i < lenC n r) : callAt n r i = (calOf n r)[i]'h := getD_of h c0
theorem vis_few {n : NetT} (hS : Sound n) (h : Nat → Nat → Option Int) : ∀ k, k ≤ n.2.2.1.length → (visA h (lenC n) k).length ≤ 32 * k := by
  intro k hk
  exact visA_len k fun r hr => (hS.many _ (runOf_mem (by omega))).2
def hP (n : NetT) (stop : Int) (g : List CallT → Nat → Int × Bool) (r i : Nat) : Option Int :=
  if (runOf n r).2.2.2.2.2.2.1 = true then none else if (callAt n r i).1 = stop then (if (g (calOf n r) i).2 = true then some (g (calOf n r) i).1 else none) else none
theorem collect_val {n : NetT} (hS : Sound n) (stop : Int) (cf : List CallT → Int → Option (Int × Bool)) (g : List CallT → Nat → Int × Bool)
    (hcf : ∀ x ∈ n.2.2.1, ∀ i : Nat, i < x.2.2.2.2.2.2.2.1.length → cf x.2.2.2.2.2.2.2.1 (i : Int) = some (g x.2.2.2.2.2.2.2.1 i)) :
    Tr.run
 (fun s0 : List VisT × Int =>
 bif decide (s0.2 < (↑(List.length n.2.2.1) : Int)) then
 Option.bind (idx n.2.2.1 s0.2) fun x1 =>
 bif x1.2.2.2.2.2.2.1 then some (.inl (s0.1, IntKind.wrap .i64 (s0.2 + (1 : Int))))
 else
 Option.bind
 (Tr.run
 (fun s2 : List VisT × Int =>
 bif decide (s2.2 < (↑(List.length x1.2.2.2.2.2.2.2.1) : Int)) then
 Option.bind (idx x1.2.2.2.2.2.2.2.1 s2.2) fun x3 =>
 bif !decide (x3.1 = stop) then some (.inl (s2.1, IntKind.wrap .i64 (s2.2 + (1 : Int))))
 else
 Option.bind (cf x1.2.2.2.2.2.2.2.1 s2.2) fun x4 =>
 bif x4.2 then
 Option.bind (guardB (decide (List.length s2.1 + List.length [(s0.2, s2.2, x4.1, ())] ≤ maxApp))) fun _ =>
 some (.inl (s2.1 ++ [(s0.2, s2.2, x4.1, ())], IntKind.wrap .i64 (s2.2 + (1 : Int))))
 else some (.inl (s2.1, IntKind.wrap .i64 (s2.2 + (1 : Int))))
 else some (.inr s2.1))
 (s0.1, (0 : Int)))
 fun x6 => some (.inl (x6, IntKind.wrap .i64 (s0.2 + (1 : Int))))
 else some (.inr s0.1))
 ([], (0 : Int)) = some (visA (hP n stop g) (lenC n) n.2.2.1.length) := by
  have hruns := hS.runs
  refine of_ex (run_for n.2.2.1.length _ (fun r (s : List VisT × Int) => s = (visA (hP n stop g) (lenC n) r, (r : Int))) ?_ ?_ _ (by simp [visA]))
  · rintro r s hr rfl
    left
    have hx := runOf_mem hr
    have hfew := vis_few hS (hP n stop g) r (by omega)
    have hlen := (hS.many _ hx).2
    refine ⟨(visA (hP n stop g) (lenC n) (r + 1), ((r + 1 : Nat) : Int)), ?_, rfl⟩
    simp only [lt_dec hr, cond_true, idx_nat hr, ← runOf_eq hr, Option.bind_some, wrap_succ hr (show n.2.2.1.length ≤ 9223372036854775807 by omega), visA_succ]
    cases hc : (runOf n r).2.2.2.2.2.2.1 with
    | true =>
      have e : visR (hP n stop g r) r (lenC n r) = [] := by
        rw [List.eq_nil_iff_forall_not_mem]
        intro v hv
        obtain ⟨i, t, _, h, _⟩ := visR_mem.1 hv
        simp [hP, hc] at h
      rw [e, List.append_nil]; rfl
    | false =>
      simp only [cond_false]
      refine bind_of (fun q => q = visA (hP n stop g) (lenC n) r ++ visR (hP n stop g r) r (lenC n r)) (run_for (lenC n r) _ (fun i (s : List VisT × Int) => s = (visA (hP n stop g) (lenC n) r ++ visR (hP n stop g r) r i, (i : Int))) ?_ ?_ _ (by simp [visR])) ?_
      · rintro i s hi rfl
        left
        refine ⟨(visA (hP n stop g) (lenC n) r ++ visR (hP n stop g r) r (i + 1), ((i + 1 : Nat) : Int)), ?_, rfl⟩
        have hi' : i < (runOf n r).2.2.2.2.2.2.2.1.length := hi
        have hv := visR_len (hP n stop g r) r i
        have hcall : (runOf n r).2.2.2.2.2.2.2.1[i] = callAt n r i := (callAt_eq hi).symm
        simp only [lt_dec hi', cond_true, idx_nat hi', Option.bind_some, wrap_succ hi' (show (runOf n r).2.2.2.2.2.2.2.1.length ≤ 9223372036854775807 by omega), hcf _ hx i hi', hcall, visR_succ]
        by_cases h1 : (callAt n r i).1 = stop
        · rw [decide_eq_true h1]
          simp only [Bool.not_true, cond_false]
          cases h2 : (g (runOf n r).2.2.2.2.2.2.2.1 i).2 with
          | true =>
            have e : hP n stop g r i = some (g (runOf n r).2.2.2.2.2.2.2.1 i).1 := by
              have h2' : (g (calOf n r) i).2 = true := h2
              simp [hP, hc, h1, h2']; rfl
            simp only [cond_true, e]
            rw [guard_app (by simp; omega)]
            simp only [Option.bind_some, List.append_assoc]
          | false =>
            have e : hP n stop g r i = none := by
              have h2' : (g (calOf n r) i).2 = false := h2
              simp [hP, h2']
            simp only [cond_false, e, List.append_nil]
        · rw [decide_eq_false h1]
          have e : hP n stop g r i = none := by simp [hP, h1]
          simp only [Bool.not_false, cond_true, e, List.append_nil]
      · rintro s rfl
        refine ⟨_, ?_, rfl⟩
        have : decide (((lenC n r : Nat) : Int) < (((runOf n r).2.2.2.2.2.2.2.1.length : Nat) : Int)) = false := nlt_dec _
        simp only [this, cond_false]
      · rintro _ rfl; rfl
  · rintro s rfl
    refine ⟨_, ?_, rfl⟩
    simp only [nlt_dec, cond_false]
def hR (n : NetT) (cb : Nat → Nat → Bool) (tm : CallT → Int) (r i : Nat) : Option Int := if cb r i = true then some (tm (callAt n r i)) else none
theorem refcol_val {n : NetT} (hS : Sound n) (cd : Int → Int → CallT → Option Bool) (tm : CallT → Int) (cb : Nat → Nat → Bool)
    (hcd : ∀ r i : Nat, r < n.2.2.1.length → i < lenC n r → cd (r : Int) (i : Int) (callAt n r i) = some (cb r i)) :
    ∃ ys, Tr.run
 (fun s1 : List VisT × Int =>
 bif decide (s1.2 < (↑(List.length n.2.2.1) : Int)) then
 Option.bind
 (Tr.run
 (fun s2 : List VisT × Int =>
 Option.bind (idx n.2.2.1 s1.2) fun x3 =>
 bif decide (s2.2 < (↑(List.length x3.2.2.2.2.2.2.2.1) : Int)) then
 Option.bind (idx n.2.2.1 s1.2) fun x4 =>
 Option.bind (idx x4.2.2.2.2.2.2.2.1 s2.2) fun x5 =>
 Option.bind (cd s1.2 s2.2 x5) fun x8 =>
 bif x8 then
 Option.bind (F83 s2.1 (s1.2, s2.2, tm x5, ())) fun x9 => some (.inl (x9, IntKind.wrap .i64 (s2.2 + (1 : Int))))
 else some (.inl (s2.1, IntKind.wrap .i64 (s2.2 + (1 : Int))))
 else some (.inr s2.1))
 (s1.1, (0 : Int)))
 fun x10 => some (.inl (x10, IntKind.wrap .i64 (s1.2 + (1 : Int))))
 else some (.inr s1.1))
 ([], (0 : Int)) = some ys ∧ ys.Perm (visA (hR n cb tm) (lenC n) n.2.2.1.length) ∧ ys.Pairwise ltV := by
  have hruns := hS.runs
  have fin := run_for n.2.2.1.length (fun (ys : List VisT) => ys.Perm (visA (hR n cb tm) (lenC n) n.2.2.1.length) ∧ ys.Pairwise ltV) (step := fun s1 : List VisT × Int =>
 bif decide (s1.2 < (↑(List.length n.2.2.1) : Int)) then
 Option.bind
 (Tr.run
 (fun s2 : List VisT × Int =>
 Option.bind (idx n.2.2.1 s1.2) fun x3 =>
 bif decide (s2.2 < (↑(List.length x3.2.2.2.2.2.2.2.1) : Int)) then
 Option.bind (idx n.2.2.1 s1.2) fun x4 =>
 Option.bind (idx x4.2.2.2.2.2.2.2.1 s2.2) fun x5 =>
 Option.bind (cd s1.2 s2.2 x5) fun x8 =>
 bif x8 then
 Option.bind (F83 s2.1 (s1.2, s2.2, tm x5, ())) fun x9 => some (.inl (x9, IntKind.wrap .i64 (s2.2 + (1 : Int))))
 else some (.inl (s2.1, IntKind.wrap .i64 (s2.2 + (1 : Int))))
 else some (.inr s2.1))
 (s1.1, (0 : Int)))
 fun x10 => some (.inl (x10, IntKind.wrap .i64 (s1.2 + (1 : Int))))
 else some (.inr s1.1)) (fun r (s : List VisT × Int) => s.2 = (r : Int) ∧ s.1.Perm (visA (hR n cb tm) (lenC n) r) ∧ s.1.Pairwise ltV) ?_ ?_ ([], (0 : Int)) ⟨rfl, by simp [visA], .nil⟩
  · exact fin
  · rintro r ⟨s, _⟩ hr ⟨rfl, hp, hs⟩
    left
    have hx := runOf_mem hr
    have hfew := vis_few hS (hR n cb tm) r (by omega)
    have hlen := (hS.many _ hx).2
    simp only [lt_dec hr, cond_true, wrap_succ hr (show n.2.2.1.length ≤ 9223372036854775807 by omega)]
    refine bind_ex (fun (q : List VisT) => q.Perm (visA (hR n cb tm) (lenC n) (r + 1)) ∧ q.Pairwise ltV) (run_for (lenC n r) _ (fun i (s : List VisT × Int) => s.2 = (i : Int) ∧ s.1.Perm (visA (hR n cb tm) (lenC n) r ++ visR (hR n cb tm r) r i) ∧ s.1.Pairwise ltV) ?_ ?_ _ ⟨rfl, by simpa [visR] using hp, hs⟩) ?_
    · rintro i ⟨s, _⟩ hi ⟨rfl, hp, hs⟩
      left
      have hi' : i < (runOf n r).2.2.2.2.2.2.2.1.length := hi
      have hcall : (runOf n r).2.2.2.2.2.2.2.1[i] = callAt n r i := (callAt_eq hi).symm
      simp only [idx_nat hr, ← runOf_eq hr, Option.bind_some, lt_dec hi', cond_true, idx_nat hi', hcall, hcd r i hr hi, wrap_succ hi' (show (runOf n r).2.2.2.2.2.2.2.1.length ≤ 9223372036854775807 by omega)]
      have hv := visR_len (hR n cb tm r) r i
      cases hb : cb r i with
      | true =>
        have e : hR n cb tm r i = some (tm (callAt n r i)) := by simp [hR, hb]
        obtain ⟨m, h1, h2, h3⟩ := insert_val (l := s) (v := ((r : Int), (i : Int), tm (callAt n r i), ())) hs (fun y hy => by
          have hy := hp.mem_iff.1 hy
          rcases List.mem_append.1 hy with hy | hy
          · obtain ⟨r', i', t, hr', _, _, rfl⟩ := visA_mem.1 hy
            exact apart (.inl (show ((r' : Nat) : Int) < ((r : Nat) : Int) by omega))
          · obtain ⟨i', t, hi', _, rfl⟩ := visR_mem.1 hy
            exact apart (.inr ⟨rfl, show ((i' : Nat) : Int) < ((i : Nat) : Int) by omega⟩)) (by
            have h0 : s.length = _ := hp.length_eq
            rw [List.length_append] at h0
            have : i < (runOf n r).2.2.2.2.2.2.2.1.length := hi
            omega)
        refine ⟨(m, ((i + 1 : Nat) : Int)), ?_, rfl, ?_, h3⟩
        · simp only [cond_true, h1, Option.bind_some]
        · rw [visR_succ, e]
          simp only
          rw [← List.append_assoc]
          exact h2.trans (hp.append_right _)
      | false =>
        have e : hR n cb tm r i = none := by simp [hR, hb]
        refine ⟨(s, ((i + 1 : Nat) : Int)), by simp only [cond_false], rfl, ?_, hs⟩
        rw [visR_succ, e]
        simpa using hp
    · rintro ⟨s, _⟩ ⟨rfl, hp, hs⟩
      have : decide (((lenC n r : Nat) : Int) < (((runOf n r).2.2.2.2.2.2.2.1.length : Nat) : Int)) = false := nlt_dec _
      refine ⟨s, ?_, by rw [visA_succ]; exact hp, hs⟩
      simp only [idx_nat hr, ← runOf_eq hr, Option.bind_some, this, cond_false]
    · rintro q ⟨h1, h2⟩
      exact ⟨_, rfl, rfl, h1, h2⟩
  · rintro ⟨s, _⟩ ⟨rfl, hp, hs⟩
    exact ⟨s, by simp only [nlt_dec, cond_false], hp, hs⟩
def errOf (n : NetT) (e : Int) (s : Int) : Int := if e = 0 then (if s < 0 ∨ (n.1.length : Int) ≤ s then 13 else 0) else 21
theorem stopB (n : NetT) (s : Int) : (bif decide (s < (0 : Int)) then some true else some (decide ((↑(List.length n.1) : Int) ≤ s))) = some (decide (s < 0 ∨ (n.1.length : Int) ≤ s)) := by
  by_cases h : s < 0
  · simp [h]
  · simp [h]
theorem check_nil {n : NetT} {r : Int × Int × Int} (h : F48 n = some r) : F8 n [] = some (if r.2.2 = 0 then 0 else 21) := by
  unfold F8
  rw [h]
  simp only [Option.bind_some]
  by_cases hr : r.2.2 = 0
  · rw [decide_eq_true hr]
    rw [run_unfold]
    simp [hr]
  · rw [decide_eq_false hr]; simp [hr]
theorem check_one {n : NetT} {r : Int × Int × Int} (h : F48 n = some r) (s : Int) : F8 n [s] = some (errOf n r.2.2 s) := by
  unfold F8 errOf
  rw [h]
  simp only [Option.bind_some]
  by_cases hr : r.2.2 = 0
  · rw [decide_eq_true hr]
    simp only [Bool.not_true, cond_false, stopB]
    rw [run_unfold]
    simp only [List.length_cons, List.length_nil, show decide ((0 : Int) < ((0 + 1 : Nat) : Int)) = true by decide, cond_true, idx, show (0 : Int) ≤ 0 by decide, if_true, Int.toNat_zero, List.getElem?_cons_zero, Option.bind_some, hr, show IntKind.wrap .i64 (0 + 1 : Int) = 1 by decide]
    by_cases hs : s < 0 ∨ (n.1.length : Int) ≤ s
    · simp [hs]
    · simp only [decide_eq_false hs, cond_false, Option.bind_some, Sum.elim_inl, hs, if_false, decide_false]
      rw [run_unfold]
      simp
  · rw [decide_eq_false hr]; simp [hr]
theorem check_two {n : NetT} {r : Int × Int × Int} (h : F48 n = some r) (s t : Int) : F8 n [s, t] = some (if errOf n r.2.2 s = 0 then errOf n r.2.2 t else errOf n r.2.2 s) := by
  unfold F8 errOf
  rw [h]
  simp only [Option.bind_some]
  by_cases hr : r.2.2 = 0
  · rw [decide_eq_true hr]
    simp only [Bool.not_true, cond_false, stopB]
    rw [run_unfold]
    simp only [List.length_cons, List.length_nil, show decide ((0 : Int) < ((0 + 1 + 1 : Nat) : Int)) = true by decide, cond_true, idx, show (0 : Int) ≤ 0 by decide, if_true, Int.toNat_zero, List.getElem?_cons_zero, Option.bind_some, hr, show IntKind.wrap .i64 (0 + 1 : Int) = 1 by decide]
    by_cases hs : s < 0 ∨ (n.1.length : Int) ≤ s
    · simp [hs]
    · simp only [decide_eq_false hs, cond_false, Option.bind_some, Sum.elim_inl, hs, if_false, if_true, decide_false]
      rw [run_unfold]
      simp only [List.length_cons, List.length_nil, show decide ((1 : Int) < ((0 + 1 + 1 : Nat) : Int)) = true by decide, cond_true, show (0 : Int) ≤ 1 by decide, if_true, Int.toNat_one, List.getElem?_cons_succ, List.getElem?_cons_zero, Option.bind_some, show IntKind.wrap .i64 (1 + 1 : Int) = 2 by decide]
      by_cases ht : t < 0 ∨ (n.1.length : Int) ≤ t
      · simp [ht]
      · simp only [decide_eq_false ht, cond_false, Option.bind_some, Sum.elim_inl, ht, if_false, decide_false]
        rw [run_unfold]
        simp
  · rw [decide_eq_false hr]; simp [hr]
theorem refCheck_val {n : NetT} {r : Int × Int × Int} (h : F61 n = some r) (s : Int) : F82 n s = some (errOf n r.2.2 s) := by
  unfold F82 F65 errOf
  rw [h]
  simp only [Option.bind_some, stopB]
  by_cases hr : r.2.2 = 0
  · rw [decide_eq_true hr]
    by_cases hs : s < 0 ∨ (n.1.length : Int) ≤ s <;> simp [hs, hr]
  · rw [decide_eq_false hr]; simp [hr]
end Q
namespace Q
open Tr Go
def reachB (l : List CallT) (i : Nat) (t : Int) : Bool := (l.drop (i + 1)).any fun d => decide (d.1 = t) && d.2.2.2.2.1
def cncl (n : NetT) (r : Nat) : Bool := (runOf n r).2.2.2.2.2.2.1
def tmD (c : CallT) : Int := c.2.2.1
def tmA (c : CallT) : Int := c.2.1
def vDep (n : NetT) (s a b : Int) (r i : Nat) : Bool := decide ((callAt n r i).1 = s) && (!cncl n r && ((callAt n r i).2.2.2.1 && (decide (i + 1 < lenC n r) && (decide (a ≤ tmD (callAt n r i)) && decide (tmD (callAt n r i) < b)))))
def vArr (n : NetT) (s a b : Int) (r i : Nat) : Bool := decide ((callAt n r i).1 = s) && (!cncl n r && ((callAt n r i).2.2.2.2.1 && (decide (0 < i) && (decide (a ≤ tmA (callAt n r i)) && decide (tmA (callAt n r i) < b)))))
def vDir (n : NetT) (s t a : Int) (r i : Nat) : Bool := decide ((callAt n r i).1 = s) && (!cncl n r && ((callAt n r i).2.2.2.1 && (decide (i + 1 < lenC n r) && (decide (a ≤ tmD (callAt n r i)) && reachB (calOf n r) i t))))
def gDep (a b : Int) (l : List CallT) (i : Nat) : Int × Bool := (((l[i]?).getD c0).2.2.1, ((l[i]?).getD c0).2.2.2.1 && (decide (i + 1 < l.length) && (decide (a ≤ ((l[i]?).getD c0).2.2.1) && decide (((l[i]?).getD c0).2.2.1 < b))))
def gArr (a b : Int) (l : List CallT) (i : Nat) : Int × Bool := (((l[i]?).getD c0).2.1, ((l[i]?).getD c0).2.2.2.2.1 && (decide (0 < i) && (decide (a ≤ ((l[i]?).getD c0).2.1) && decide (((l[i]?).getD c0).2.1 < b))))
def gDir (t a : Int) (l : List CallT) (i : Nat) : Int × Bool := (((l[i]?).getD c0).2.2.1, ((l[i]?).getD c0).2.2.2.1 && (decide (a ≤ ((l[i]?).getD c0).2.2.1) && reachB l i t))
theorem dec_nat {i n : Nat} : decide (((i + 1 : Nat) : Int) < (n : Int)) = decide (i + 1 < n) := decide_eq_decide.2 (by omega)
theorem dep1_val {l : List CallT} {i : Nat} (hi : i < l.length) (hl : l.length ≤ 1000) (a b : Int) : F3 l (i : Int) a b = some (gDep a b l i) := by
  unfold F3 gDep
  simp only [idx_nat hi, Option.bind_some, wrap_succ hi (show l.length ≤ 9223372036854775807 by omega), getD_of hi, dec_nat]
  cases l[i].2.2.2.1 with
  | false => rfl
  | true =>
    cases decide (i + 1 < l.length) with
    | false => rfl
    | true =>
      cases decide (a ≤ l[i].2.2.1) with
      | false => rfl
      | true => rfl
theorem arr1_val {l : List CallT} {i : Nat} (hi : i < l.length) (a b : Int) : F1 l (i : Int) a b = some (gArr a b l i) := by
  unfold F1 gArr
  simp only [idx_nat hi, Option.bind_some, getD_of hi, show decide ((0 : Int) < (i : Int)) = decide (0 < i) from decide_eq_decide.2 (by omega)]
  cases l[i].2.2.2.2.1 with
  | false => rfl
  | true =>
    cases decide (0 < i) with
    | false => rfl
    | true =>
      cases decide (a ≤ l[i].2.1) with
      | false => rfl
      | true => rfl
theorem direct11_val (d : CallT) (t : Int) : F6 d t = some (decide (d.1 = t) && d.2.2.2.2.1) := by
  unfold F6
  cases decide (d.1 = t) <;> rfl
theorem contains_val (l : List CallT) (hl : l.length ≤ 1000) (t : Int) : F94 l (t, ()) = some (l.any fun d => decide (d.1 = t) && d.2.2.2.2.1) := by
  unfold F94
  have key : ∃ z, F95 l (t, ()) = some z ∧ decide (0 ≤ z) = l.any fun d => decide (d.1 = t) && d.2.2.2.2.1 := by
    unfold F95
    simp only [direct11_val]
    refine bind_some_iff (fun z => match z with | .inl _ => (l.any fun d => decide (d.1 = t) && d.2.2.2.2.1) = false | .inr k => 0 ≤ k ∧ (l.any fun d => decide (d.1 = t) && d.2.2.2.2.1) = true) (run_for l.length _ (fun i (s : Int) => s = (i : Int) ∧ ∀ j (h : j < l.length), j < i → (decide (l[j].1 = t) && l[j].2.2.2.2.1) = false) ?_ ?_ _ ⟨rfl, fun j _ h => by omega⟩) ?_
    · rintro i s hi ⟨rfl, hb⟩
      simp only [lt_dec hi, cond_true, idx_nat hi, Option.bind_some]
      cases hv : (decide (l[i].1 = t) && l[i].2.2.2.2.1) with
      | false =>
        left
        refine ⟨((i + 1 : Nat) : Int), by rw [wrap_succ hi (by omega)]; rfl, rfl, fun j h hj => ?_⟩
        by_cases e : j = i
        · subst e; exact hv
        · exact hb j h (by omega)
      | true =>
        right
        exact ⟨.inr (i : Int), rfl, Int.natCast_nonneg i, List.any_eq_true.2 ⟨l[i], List.getElem_mem hi, hv⟩⟩
    · rintro s ⟨rfl, hb⟩
      refine ⟨.inl (), by simp only [nlt_dec, cond_false], ?_⟩
      refine List.any_eq_false.2 fun x hx => ?_
      obtain ⟨j, hj, rfl⟩ := List.getElem_of_mem hx
      simp [hb j hj hj]
    · rintro (_ | k) hz
      · exact ⟨-1, rfl, by rw [hz]; rfl⟩
      · exact ⟨k, rfl, by rw [hz.2]; exact decide_eq_true hz.1⟩
  obtain ⟨z, h1, h2⟩ := key
  rw [h1]
  simp only [Option.bind_some, h2]
theorem dir1_val {l : List CallT} {i : Nat} (hi : i < l.length) (hl : l.length ≤ 1000) (t a : Int) : F5 l (i : Int) t a = some (gDir t a l i) := by
  unfold F5 gDir
  have e1 : sliceB l.length l.length (some ((i + 1 : Nat) : Int)) none = some (i + 1, l.length) := by
    unfold sliceB
    simp only [if_pos (show (0 : Int) ≤ ((i + 1 : Nat) : Int) ∧ ((i + 1 : Nat) : Int) ≤ (l.length : Int) from ⟨by omega, by omega⟩), Option.bind_some, Int.toNat_natCast]
  have e2 : List.take (l.length - (i + 1)) (List.drop (i + 1) l) = List.drop (i + 1) l := List.take_of_length_le (by simp)
  simp only [idx_nat hi, Option.bind_some, wrap_succ hi (show l.length ≤ 9223372036854775807 by omega), getD_of hi, e1, e2]
  rw [contains_val _ (by simp; omega)]
  simp only [Option.bind_some, reachB]
  cases l[i].2.2.2.1 with
  | false => rfl
  | true =>
    cases decide (a ≤ l[i].2.2.1) with
    | false => rfl
    | true => rfl
theorem hP_eq {n : NetT} {s : Int} {g : List CallT → Nat → Int × Bool} {v : Nat → Nat → Bool} {tm : CallT → Int} {r i : Nat} (h1 : (g (calOf n r) i).1 = tm (callAt n r i)) (h2 : v r i = (decide ((callAt n r i).1 = s) && (!cncl n r && (g (calOf n r) i).2))) : hP n s g r i = hR n v tm r i := by
  unfold hP hR
  rw [h1, h2]
  show (if cncl n r = true then _ else _) = _
  cases cncl n r with
  | true => simp
  | false =>
    by_cases h : (callAt n r i).1 = s
    · simp [h]
    · simp [h]
def sortedOf (n : NetT) (v : Nat → Nat → Bool) (tm : CallT → Int) (ys : List VisT) : Prop := ys.Perm (visA (hR n v tm) (lenC n) n.2.2.1.length) ∧ ys.Pairwise ltV
theorem sorted_unique {n : NetT} {v : Nat → Nat → Bool} {tm : CallT → Int} {ys zs : List VisT} (h1 : sortedOf n v tm ys) (h2 : sortedOf n v tm zs) : ys = zs :=
  sorted_same h1.2 h2.2 fun x => by rw [h1.1.mem_iff, h2.1.mem_iff]
theorem collect_sorted {n : NetT} (hS : Sound n) {s : Int} {g : List CallT → Nat → Int × Bool} {v : Nat → Nat → Bool} {tm : CallT → Int} (h1 : ∀ r i, r < n.2.2.1.length → i < lenC n r → (g (calOf n r) i).1 = tm (callAt n r i)) (h2 : ∀ r i, r < n.2.2.1.length → i < lenC n r → v r i = (decide ((callAt n r i).1 = s) && (!cncl n r && (g (calOf n r) i).2))) :
    ∃ ys, sortF F9 (visA (hP n s g) (lenC n) n.2.2.1.length) = some ys ∧ sortedOf n v tm ys := by
  have hl := vis_few hS (hP n s g) _ (Nat.le_refl _)
  have := hS.runs
  obtain ⟨ys, g1, g2, g3⟩ := sort_vis (l := visA (hP n s g) (lenC n) n.2.2.1.length) (by omega) (visA_told _ _ _)
  refine ⟨ys, g1, ?_, g3⟩
  rw [← visA_congr fun r i hr hi => hP_eq (h1 r i hr hi) (h2 r i hr hi)]
  exact g2
theorem len_small {n : NetT} (hS : Sound n) {x : RunT} (hx : x ∈ n.2.2.1) : x.2.2.2.2.2.2.2.1.length ≤ 1000 := by have := (hS.many _ hx).2; omega
theorem depP_val {n : NetT} (hS : Sound n) (s a b : Int) : ∃ ys, F11 n s (a, b, ()) = some ys ∧ sortedOf n (vDep n s a b) tmD ys := by
  obtain ⟨ys, h1, h2⟩ := collect_sorted hS (s := s) (g := gDep a b) (v := vDep n s a b) (tm := tmD) (fun r i _ _ => rfl) (fun r i _ _ => rfl)
  refine ⟨ys, ?_, h2⟩
  unfold F11
  refine bind_of (fun q => q = visA (hP n s (gDep a b)) (lenC n) n.2.2.1.length) ⟨_, collect_val hS s (fun l i => F3 l i a b) (gDep a b) (fun x hx i hi => dep1_val hi (len_small hS hx) a b), rfl⟩ ?_
  rintro _ rfl
  unfold F97
  rw [h1]; rfl
theorem arrP_val {n : NetT} (hS : Sound n) (s a b : Int) : ∃ ys, F10 n s (a, b, ()) = some ys ∧ sortedOf n (vArr n s a b) tmA ys := by
  obtain ⟨ys, h1, h2⟩ := collect_sorted hS (s := s) (g := gArr a b) (v := vArr n s a b) (tm := tmA) (fun r i _ _ => rfl) (fun r i _ _ => rfl)
  refine ⟨ys, ?_, h2⟩
  unfold F10
  refine bind_of (fun q => q = visA (hP n s (gArr a b)) (lenC n) n.2.2.1.length) ⟨_, collect_val hS s (fun l i => F1 l i a b) (gArr a b) (fun x hx i hi => arr1_val hi a b), rfl⟩ ?_
  rintro _ rfl
  unfold F97
  rw [h1]; rfl
theorem reach_last {l : List CallT} {i : Nat} {t : Int} (h : ¬ i + 1 < l.length) : reachB l i t = false := by
  unfold reachB
  rw [List.drop_eq_nil_of_le (by omega)]; rfl
theorem dirP_val {n : NetT} (hS : Sound n) (s t a : Int) : ∃ ys, F12 n s (t, a, ()) = some ys ∧ sortedOf n (vDir n s t a) tmD ys := by
  obtain ⟨ys, h1, h2⟩ := collect_sorted hS (s := s) (g := gDir t a) (v := vDir n s t a) (tm := tmD) (fun r i _ _ => rfl) (fun r i _ _ => by
    unfold vDir gDir
    by_cases h : i + 1 < lenC n r
    · rw [decide_eq_true h]; rfl
    · rw [decide_eq_false h, reach_last (l := calOf n r) h]; simp)
  refine ⟨ys, ?_, h2⟩
  unfold F12
  refine bind_of (fun q => q = visA (hP n s (gDir t a)) (lenC n) n.2.2.1.length) ⟨_, collect_val hS s (fun l i => F5 l i t a) (gDir t a) (fun x hx i hi => dir1_val hi (len_small hS hx) t a), rfl⟩ ?_
  rintro _ rfl
  unfold F97
  rw [h1]; rfl
theorem refDep_val {n : NetT} (hS : Sound n) {r i : Nat} (hr : r < n.2.2.1.length) (hi : i < lenC n r) : F76 (runOf n r) (i : Int) = some (!cncl n r && ((callAt n r i).2.2.2.1 && decide (i + 1 < lenC n r))) := by
  unfold F76
  have hi' : i < (runOf n r).2.2.2.2.2.2.2.1.length := hi
  have hl := len_small hS (runOf_mem hr)
  have hcall : (runOf n r).2.2.2.2.2.2.2.1[i] = callAt n r i := (callAt_eq hi).symm
  have e : IntKind.wrap .i64 ((((runOf n r).2.2.2.2.2.2.2.1.length : Nat) : Int) - 1) = (((runOf n r).2.2.2.2.2.2.2.1.length - 1 : Nat) : Int) := by rw [wrap_i64 (by omega) (by omega)]; omega
  simp only [idx_nat hi', hcall, Option.bind_some, e]
  show Option.bind (bif !cncl n r then _ else _) _ = _
  have e2 : decide ((i : Int) < (((runOf n r).2.2.2.2.2.2.2.1.length - 1 : Nat) : Int)) = decide (i + 1 < lenC n r) := decide_eq_decide.2 (by
    have : lenC n r = (runOf n r).2.2.2.2.2.2.2.1.length := rfl
    omega)
  rw [e2]
  cases cncl n r with
  | true => rfl
  | false => cases (callAt n r i).2.2.2.1 <;> rfl
theorem refArr_val {n : NetT} {r i : Nat} (hi : i < lenC n r) : F74 (runOf n r) (i : Int) = some (!cncl n r && ((callAt n r i).2.2.2.2.1 && decide (0 < i))) := by
  unfold F74
  have hi' : i < (runOf n r).2.2.2.2.2.2.2.1.length := hi
  have hcall : (runOf n r).2.2.2.2.2.2.2.1[i] = callAt n r i := (callAt_eq hi).symm
  simp only [idx_nat hi', hcall, Option.bind_some, show decide ((0 : Int) < (i : Int)) = decide (0 < i) from decide_eq_decide.2 (by omega)]
  show Option.bind (bif !cncl n r then _ else _) _ = _
  cases cncl n r with
  | true => rfl
  | false => cases (callAt n r i).2.2.2.2.1 <;> rfl
theorem reaches_val {n : NetT} (hS : Sound n) {r i : Nat} (hr : r < n.2.2.1.length) (hi : i < lenC n r) (t : Int) : F84 (runOf n r) (i : Int) t = some (reachB (calOf n r) i t) := by
  unfold F84
  have hl : (calOf n r).length ≤ 1000 := len_small hS (runOf_mem hr)
  have hi' : i < (calOf n r).length := hi
  show Option.bind (Tr.run (fun s0 => bif decide (s0 < (↑(List.length (calOf n r)) : Int)) then _ else _) _) _ = _
  rw [wrap_succ hi' (show (calOf n r).length ≤ 9223372036854775807 by omega)]
  have key : ∀ (k m : Nat), (calOf n r).length - m = k → m ≤ (calOf n r).length → Tr.run (fun s0 : Int =>
 bif decide (s0 < (↑(List.length (calOf n r)) : Int)) then
 Option.bind
 (Option.bind (idx (calOf n r) s0) fun x1 =>
 bif decide (x1.1 = t) then Option.bind (idx (calOf n r) s0) fun x2 => some x2.2.2.2.2.1 else some false)
 fun x3 => bif x3 then some (.inr (Sum.inr true)) else some (.inl (IntKind.wrap .i64 (s0 + (1 : Int))))
 else some (.inr (Sum.inl ()))) (m : Int) = some (bif ((calOf n r).drop m).any (fun d => decide (d.1 = t) && d.2.2.2.2.1) then Sum.inr true else Sum.inl ()) := by
    intro k
    induction k with
    | zero =>
      intro m hk hm
      have : m = (calOf n r).length := by omega
      subst this
      rw [run_inr (r := Sum.inl ()) (by simp only [nlt_dec, cond_false])]
      rw [List.drop_length]; rfl
    | succ k ih =>
      intro m hk hm
      have hm' : m < (calOf n r).length := by omega
      rw [List.drop_eq_getElem_cons hm', List.any_cons]
      have e : (Option.bind (idx (calOf n r) (m : Int)) fun x1 => bif decide (x1.1 = t) then Option.bind (idx (calOf n r) (m : Int)) fun x2 => some x2.2.2.2.2.1 else some false) = some (decide ((calOf n r)[m].1 = t) && (calOf n r)[m].2.2.2.2.1) := by
        rw [idx_nat hm']
        simp only [Option.bind_some]
        cases decide ((calOf n r)[m].1 = t) <;> rfl
      cases hv : (decide ((calOf n r)[m].1 = t) && (calOf n r)[m].2.2.2.2.1) with
      | true =>
        rw [run_inr (r := Sum.inr true) (by simp only [lt_dec hm', cond_true, e, hv, Option.bind_some])]
        rfl
      | false =>
        rw [run_inl (s' := ((m + 1 : Nat) : Int)) (by simp only [lt_dec hm', cond_true, e, hv, Option.bind_some, cond_false, wrap_succ hm' (show (calOf n r).length ≤ 9223372036854775807 by omega)])]
        rw [ih (m + 1) (by omega) (by omega)]
        rfl
  refine bind_of (fun q => q = (bif reachB (calOf n r) i t then Sum.inr true else Sum.inl ())) ⟨_, key _ (i + 1) rfl (by omega), rfl⟩ ?_
  rintro _ rfl
  cases reachB (calOf n r) i t <;> rfl
theorem depR_val {n : NetT} (hS : Sound n) {r : Int × Int × Int} (hc : F61 n = some r) (s a b : Int) : ∃ ys, F77 n s a b = some (if errOf n r.2.2 s = 0 then ys else [], errOf n r.2.2 s) ∧ sortedOf n (vDep n s a b) tmD ys := by
  obtain ⟨ys, h1, h2, h3⟩ := refcol_val hS (fun p q c => bif decide (c.1 = s) then Option.bind (idx n.2.2.1 p) fun x6 => Option.bind (F76 x6 q) fun x7 => bif x7 then bif decide (a ≤ c.2.2.1) then some (decide (c.2.2.1 < b)) else some false else some false else some false) tmD (vDep n s a b) (fun r i hr hi => by
    simp only [idx_nat hr, ← runOf_eq hr, Option.bind_some, refDep_val hS hr hi]
    unfold vDep tmD
    cases decide ((callAt n r i).1 = s) with
    | false => rfl
    | true =>
      cases cncl n r with
      | true => rfl
      | false =>
        cases (callAt n r i).2.2.2.1 with
        | false => rfl
        | true =>
          cases decide (i + 1 < lenC n r) with
          | false => rfl
          | true => cases decide (a ≤ (callAt n r i).2.2.1) <;> rfl)
  refine ⟨ys, ?_, h2, h3⟩
  unfold F77
  rw [refCheck_val hc]
  simp only [Option.bind_some]
  by_cases he : errOf n r.2.2 s = 0
  · rw [decide_eq_true he, if_pos he]
    simp only [Bool.not_true, cond_false]
    refine bind_of (fun q => q = ys) ⟨_, h1, rfl⟩ ?_
    rintro _ rfl
    rw [he]
  · rw [decide_eq_false he, if_neg he]; rfl
theorem arrR_val {n : NetT} (hS : Sound n) {r : Int × Int × Int} (hc : F61 n = some r) (s a b : Int) : ∃ ys, F75 n s a b = some (if errOf n r.2.2 s = 0 then ys else [], errOf n r.2.2 s) ∧ sortedOf n (vArr n s a b) tmA ys := by
  obtain ⟨ys, h1, h2, h3⟩ := refcol_val hS (fun p q c => bif decide (c.1 = s) then Option.bind (idx n.2.2.1 p) fun x6 => Option.bind (F74 x6 q) fun x7 => bif x7 then bif decide (a ≤ c.2.1) then some (decide (c.2.1 < b)) else some false else some false else some false) tmA (vArr n s a b) (fun r i hr hi => by
    simp only [idx_nat hr, ← runOf_eq hr, Option.bind_some, refArr_val hi]
    unfold vArr tmA
    cases decide ((callAt n r i).1 = s) with
    | false => rfl
    | true =>
      cases cncl n r with
      | true => rfl
      | false =>
        cases (callAt n r i).2.2.2.2.1 with
        | false => rfl
        | true =>
          cases decide (0 < i) with
          | false => rfl
          | true => cases decide (a ≤ (callAt n r i).2.1) <;> rfl)
  refine ⟨ys, ?_, h2, h3⟩
  unfold F75
  rw [refCheck_val hc]
  simp only [Option.bind_some]
  by_cases he : errOf n r.2.2 s = 0
  · rw [decide_eq_true he, if_pos he]
    simp only [Bool.not_true, cond_false]
    refine bind_of (fun q => q = ys) ⟨_, h1, rfl⟩ ?_
    rintro _ rfl
    rw [he]
  · rw [decide_eq_false he, if_neg he]; rfl
def err2 (n : NetT) (e s t : Int) : Int := if errOf n e s = 0 then errOf n e t else errOf n e s
theorem dirR_val {n : NetT} (hS : Sound n) {r : Int × Int × Int} (hc : F61 n = some r) (s t a : Int) : ∃ ys, F78 n s t a = some (if err2 n r.2.2 s t = 0 then ys else [], err2 n r.2.2 s t) ∧ sortedOf n (vDir n s t a) tmD ys := by
  obtain ⟨ys, h1, h2, h3⟩ := refcol_val hS (fun p q c => bif decide (c.1 = s) then Option.bind (idx n.2.2.1 p) fun x8 => Option.bind (F76 x8 q) fun x9 => bif x9 then bif decide (a ≤ c.2.2.1) then Option.bind (idx n.2.2.1 p) fun x10 => Option.bind (F84 x10 q t) fun x11 => some x11 else some false else some false else some false) tmD (vDir n s t a) (fun r i hr hi => by
    simp only [idx_nat hr, ← runOf_eq hr, Option.bind_some, refDep_val hS hr hi, reaches_val hS hr hi]
    unfold vDir tmD
    cases decide ((callAt n r i).1 = s) with
    | false => rfl
    | true =>
      cases cncl n r with
      | true => rfl
      | false =>
        cases (callAt n r i).2.2.2.1 with
        | false => rfl
        | true =>
          cases decide (i + 1 < lenC n r) with
          | false => rfl
          | true => cases decide (a ≤ (callAt n r i).2.2.1) <;> rfl)
  refine ⟨ys, ?_, h2, h3⟩
  unfold F78
  rw [refCheck_val hc, refCheck_val hc]
  simp only [Option.bind_some]
  have e1 : (bif decide (errOf n r.2.2 s = 0) then some (errOf n r.2.2 t) else some (errOf n r.2.2 s)) = some (err2 n r.2.2 s t) := by
    unfold err2
    by_cases h : errOf n r.2.2 s = 0 <;> simp [h]
  rw [e1]
  simp only [Option.bind_some]
  by_cases he : err2 n r.2.2 s t = 0
  · rw [decide_eq_true he, if_pos he]
    simp only [Bool.not_true, cond_false]
    refine bind_of (fun q => q = ys) ⟨_, h1, rfl⟩ ?_
    rintro _ rfl
    rw [he]
  · rw [decide_eq_false he, if_neg he]; rfl
theorem errOf_ne {n : NetT} {e s : Int} (h : e ≠ 0) : errOf n e s = 21 := by unfold errOf; rw [if_neg h]
structure Ans (n : NetT) (P R : Option (List VisT × Int)) (v : Nat → Nat → Bool) (tm : CallT → Int) (err : Int → Int) : Prop where
  ex : ∃ r : Int × Int × Int, F48 n = some r ∧ F61 n = some r ∧ ∃ ys, P = some (ys, err r.2.2) ∧ R = some (ys, err r.2.2) ∧ (err r.2.2 ≠ 0 → ys = []) ∧ (r.2.2 = 0 → Sound n) ∧ (err r.2.2 = 0 → r.2.2 = 0 ∧ sortedOf n v tm ys)
theorem dep_val {n : NetT} (hf : Fit n) (s a b : Int) : Ans n (F2 n s a b) (F77 n s a b) (vDep n s a b) tmD (fun e => errOf n e s) := by
  obtain ⟨r, h1, h2, h3⟩ := check_same n hf
  refine ⟨r, h1, h2, ?_⟩
  have hP : F2 n s a b = (bif !decide (errOf n r.2.2 s = (0 : Int)) then some ([], errOf n r.2.2 s) else Option.bind (F11 n s (a, b, ())) fun x1 => some (x1, (0 : Int))) := by
    unfold F2
    rw [check_one h1]; rfl
  rw [hP]
  by_cases hr : r.2.2 = 0
  · have hS := h3 hr
    obtain ⟨ys, g1, g2⟩ := depP_val hS s a b
    obtain ⟨zs, g3, g4⟩ := depR_val hS h2 s a b
    obtain rfl := sorted_unique g2 g4
    by_cases he : errOf n r.2.2 s = 0
    · refine ⟨ys, ?_, by rw [g3, if_pos he], fun h => absurd he h, h3, fun _ => ⟨hr, g2⟩⟩
      rw [decide_eq_true he, g1, he]; rfl
    · refine ⟨[], ?_, by rw [g3, if_neg he], fun _ => rfl, h3, fun h => absurd h he⟩
      rw [decide_eq_false he]; rfl
  · have he : errOf n r.2.2 s = 21 := errOf_ne hr
    refine ⟨[], ?_, ?_, fun _ => rfl, h3, fun h => by simp only [he] at h; omega⟩
    · simp only [he]; rfl
    · unfold F77
      rw [refCheck_val h2]
      simp only [he]; rfl
theorem arr_val {n : NetT} (hf : Fit n) (s a b : Int) : Ans n (F0 n s a b) (F75 n s a b) (vArr n s a b) tmA (fun e => errOf n e s) := by
  obtain ⟨r, h1, h2, h3⟩ := check_same n hf
  refine ⟨r, h1, h2, ?_⟩
  have hP : F0 n s a b = (bif !decide (errOf n r.2.2 s = (0 : Int)) then some ([], errOf n r.2.2 s) else Option.bind (F10 n s (a, b, ())) fun x1 => some (x1, (0 : Int))) := by
    unfold F0
    rw [check_one h1]; rfl
  rw [hP]
  by_cases hr : r.2.2 = 0
  · have hS := h3 hr
    obtain ⟨ys, g1, g2⟩ := arrP_val hS s a b
    obtain ⟨zs, g3, g4⟩ := arrR_val hS h2 s a b
    obtain rfl := sorted_unique g2 g4
    by_cases he : errOf n r.2.2 s = 0
    · refine ⟨ys, ?_, by rw [g3, if_pos he], fun h => absurd he h, h3, fun _ => ⟨hr, g2⟩⟩
      rw [decide_eq_true he, g1, he]; rfl
    · refine ⟨[], ?_, by rw [g3, if_neg he], fun _ => rfl, h3, fun h => absurd h he⟩
      rw [decide_eq_false he]; rfl
  · have he : errOf n r.2.2 s = 21 := errOf_ne hr
    refine ⟨[], ?_, ?_, fun _ => rfl, h3, fun h => by simp only [he] at h; omega⟩
    · simp only [he]; rfl
    · unfold F75
      rw [refCheck_val h2]
      simp only [he]; rfl
theorem dir_val {n : NetT} (hf : Fit n) (s t a : Int) : Ans n (F4 n s t a) (F78 n s t a) (vDir n s t a) tmD (fun e => err2 n e s t) := by
  obtain ⟨r, h1, h2, h3⟩ := check_same n hf
  refine ⟨r, h1, h2, ?_⟩
  have hP : F4 n s t a = (bif !decide (err2 n r.2.2 s t = (0 : Int)) then some ([], err2 n r.2.2 s t) else Option.bind (F12 n s (t, a, ())) fun x1 => some (x1, (0 : Int))) := by
    unfold F4
    rw [check_two h1]; rfl
  rw [hP]
  by_cases hr : r.2.2 = 0
  · have hS := h3 hr
    obtain ⟨ys, g1, g2⟩ := dirP_val hS s t a
    obtain ⟨zs, g3, g4⟩ := dirR_val hS h2 s t a
    obtain rfl := sorted_unique g2 g4
    by_cases he : err2 n r.2.2 s t = 0
    · refine ⟨ys, ?_, by rw [g3, if_pos he], fun h => absurd he h, h3, fun _ => ⟨hr, g2⟩⟩
      rw [decide_eq_true he, g1, he]; rfl
    · refine ⟨[], ?_, by rw [g3, if_neg he], fun _ => rfl, h3, fun h => absurd h he⟩
      rw [decide_eq_false he]; rfl
  · have he : err2 n r.2.2 s t = 21 := by unfold err2; rw [errOf_ne hr, if_neg (by omega)]
    have h5 : errOf n r.2.2 s = 21 := errOf_ne hr
    refine ⟨[], ?_, ?_, fun _ => rfl, h3, fun h => by simp only [he] at h; omega⟩
    · simp only [he]; rfl
    · unfold F78
      rw [refCheck_val h2, h5]
      simp only [he]; rfl
end Q
namespace Q
open Tr Go
theorem example_true : F45 = some true := by kernel_rfl
theorem fit_of {n : NetT} (h : Good Y31 n) (hp : n.2.2.2.2.1.length ≤ 4096) : Fit n := by
  obtain ⟨⟨_, h1⟩, ⟨_, h2⟩, ⟨_, h3⟩, _, _, ⟨⟨_, h6⟩, _⟩, _⟩ := h
  refine ⟨fun x hx => ?_, fun x hx => ?_, fun x hx => ?_, fun x hx => ?_, hp, fun x hx => ?_⟩
  · exact (h1 x hx).1
  · exact (h2 x hx).1
  · exact (h3 x hx).2.2.2.1
  · exact (h3 x hx).2.2.2.2.2.2.2.1.1
  · exact (h6 x hx).1
theorem small_val (n : NetT) : ∃ b, F47 n = some b ∧ (b = true → n.2.2.1.length ≤ 20 ∧ n.2.2.2.2.1.length ≤ 200) := by
  unfold F47
  by_cases h1 : (20 : Int) < (n.1.length : Int)
  · rw [decide_eq_true h1]; exact ⟨false, rfl, fun e => (nomatch e)⟩
  by_cases h2 : (20 : Int) < (n.2.1.length : Int)
  · rw [decide_eq_false h1, decide_eq_true h2]; exact ⟨false, rfl, fun e => (nomatch e)⟩
  by_cases h3 : (20 : Int) < (n.2.2.1.length : Int)
  · rw [decide_eq_false h1, decide_eq_false h2, decide_eq_true h3]; exact ⟨false, rfl, fun e => (nomatch e)⟩
  by_cases h4 : (20 : Int) < (n.2.2.2.1.length : Int)
  · rw [decide_eq_false h1, decide_eq_false h2, decide_eq_false h3, decide_eq_true h4]; exact ⟨false, rfl, fun e => (nomatch e)⟩
  by_cases h5 : (200 : Int) < (n.2.2.2.2.1.length : Int)
  · rw [decide_eq_false h1, decide_eq_false h2, decide_eq_false h3, decide_eq_false h4, decide_eq_true h5]; exact ⟨false, rfl, fun e => (nomatch e)⟩
  by_cases h6 : (20 : Int) < (n.2.2.2.2.2.1.1.length : Int)
  · rw [decide_eq_false h1, decide_eq_false h2, decide_eq_false h3, decide_eq_false h4, decide_eq_false h5, decide_eq_true h6]; exact ⟨false, rfl, fun e => (nomatch e)⟩
  rw [decide_eq_false h1, decide_eq_false h2, decide_eq_false h3, decide_eq_false h4, decide_eq_false h5, decide_eq_false h6]
  simp only [cond_false, Option.bind_some]
  have hl : n.2.2.1.length ≤ 9223372036854775807 := by omega
  rw [scan_run (n := n.2.2.1.length) (fun i (st : Int) => st = (i : Int)) (fun i => if 40 < ((n.2.2.1[i]?).getD u0).2.2.2.2.2.2.2.1.length then 1 else 0) (fun _ => .inr false) (.inl ()) ?_ ?_ ?_ (0 : Int) rfl]
  · unfold pick
    cases firstBad n.2.2.1.length (fun i => if 40 < ((n.2.2.1[i]?).getD u0).2.2.2.2.2.2.2.1.length then 1 else 0) with
    | none => exact ⟨true, rfl, fun _ => by omega⟩
    | some i => exact ⟨false, rfl, fun e => (nomatch e)⟩
  · rintro i _ hi rfl hc
    rw [getD_of hi] at hc
    split at hc
    · omega
    · next hh =>
      refine ⟨((i + 1 : Nat) : Int), ?_, rfl⟩
      simp only [lt_dec hi, cond_true, idx_nat hi, Option.bind_some, decide_eq_false (show ¬ (40 : Int) < ((n.2.2.1[i]).2.2.2.2.2.2.2.1.length : Int) by omega), cond_false, wrap_succ hi hl]
  · rintro i _ hi rfl hc
    rw [getD_of hi] at hc
    split at hc
    · next hh =>
      simp only [lt_dec hi, cond_true, idx_nat hi, Option.bind_some, decide_eq_true (show (40 : Int) < ((n.2.2.1[i]).2.2.2.2.2.2.2.1.length : Int) by omega)]
    · omega
  · rintro _ rfl
    simp only [nlt_dec, cond_false]
theorem sorted_len {n : NetT} (hS : Sound n) {v : Nat → Nat → Bool} {tm : CallT → Int} {ys : List VisT} (h : sortedOf n v tm ys) : ys.length ≤ 32768 := by
  rw [h.1.length_eq]
  have := vis_few hS (hR n v tm) _ (Nat.le_refl _)
  have := hS.runs
  omega
theorem ans_len {n : NetT} {P R : Option (List VisT × Int)} {v : Nat → Nat → Bool} {tm : CallT → Int} {err : Int → Int} (h : Ans n P R v tm err) : ∃ r : Int × Int × Int, F48 n = some r ∧ F61 n = some r ∧ ∃ ys, P = some (ys, err r.2.2) ∧ R = some (ys, err r.2.2) ∧ ys.length ≤ 32768 ∧ (err r.2.2 ≠ 0 → ys = []) ∧ (r.2.2 = 0 → Sound n) ∧ (err r.2.2 = 0 → r.2.2 = 0 ∧ sortedOf n v tm ys) := by
  obtain ⟨r, h1, h2, ys, h3, h4, h5, h6, h7⟩ := h.ex
  refine ⟨r, h1, h2, ys, h3, h4, ?_, h5, h6, h7⟩
  by_cases he : err r.2.2 = 0
  · obtain ⟨hr, hs⟩ := h7 he
    exact sorted_len (h6 hr) hs
  · rw [h5 he]; exact Nat.zero_le _
theorem law3 {P R : Option (List VisT × Int)} {n : NetT} {v : Nat → Nat → Bool} {tm : CallT → Int} {err : Int → Int} (h : Ans n P R v tm err) :
    (Option.bind P fun x2 => Option.bind R fun x3 => Option.bind (Option.bind (F79 x2.1 x3.1) fun x4 => bif x4 then bif decide (x2.2 = x3.2) then Option.bind F45 fun x5 => some x5 else some false else some false) fun x6 => some x6) = some true := by
  obtain ⟨r, _, _, ys, rfl, rfl, hl, _⟩ := ans_len h
  simp only [Option.bind_some, same_self ys (by omega), cond_true, decide_true, example_true]
theorem departures (n : NetT) (h : Good Y31 n) (s : Int) (x : Int × Int × Unit) : F35 n s x = some true := by
  unfold F35
  obtain ⟨b, hb1, hb2⟩ := small_val n
  rw [hb1]
  cases b with
  | false => simp only [Option.bind_some, Bool.not_false, cond_true, example_true]
  | true =>
    simp only [Option.bind_some, Bool.not_true, cond_false]
    exact law3 (dep_val (fit_of h (by have := (hb2 rfl).2; omega)) s x.1 x.2.1)
theorem arrivals (n : NetT) (h : Good Y31 n) (s : Int) (x : Int × Int × Unit) : F33 n s x = some true := by
  unfold F33
  obtain ⟨b, hb1, hb2⟩ := small_val n
  rw [hb1]
  cases b with
  | false => simp only [Option.bind_some, Bool.not_false, cond_true, example_true]
  | true =>
    simp only [Option.bind_some, Bool.not_true, cond_false]
    exact law3 (arr_val (fit_of h (by have := (hb2 rfl).2; omega)) s x.1 x.2.1)
theorem directs (n : NetT) (h : Good Y31 n) (x : Int × Int × Unit) (a : Int) : F36 n x a = some true := by
  unfold F36
  obtain ⟨b, hb1, hb2⟩ := small_val n
  rw [hb1]
  cases b with
  | false => simp only [Option.bind_some, Bool.not_false, cond_true, example_true]
  | true =>
    simp only [Option.bind_some, Bool.not_true, cond_false]
    exact law3 (dir_val (fit_of h (by have := (hb2 rfl).2; omega)) x.1 x.2.1 a)
theorem vis_at {n : NetT} {v : Nat → Nat → Bool} {tm : CallT → Int} {ys : List VisT} (h : sortedOf n v tm ys) {x : VisT} (hx : x ∈ ys) : ∃ r i : Nat, r < n.2.2.1.length ∧ i < lenC n r ∧ v r i = true ∧ x = ((r : Int), (i : Int), tm (callAt n r i), ()) := by
  obtain ⟨r, i, t, h1, h2, h3, rfl⟩ := visA_mem.1 (h.1.mem_iff.1 hx)
  unfold hR at h3
  split at h3
  · next hv => cases h3; exact ⟨r, i, h1, h2, hv, rfl⟩
  · cases h3
theorem vis_in {n : NetT} {v : Nat → Nat → Bool} {tm : CallT → Int} {ys : List VisT} (h : sortedOf n v tm ys) {r i : Nat} (h1 : r < n.2.2.1.length) (h2 : i < lenC n r) (hv : v r i = true) : ((r : Int), (i : Int), tm (callAt n r i), ()) ∈ ys :=
  h.1.mem_iff.2 (visA_mem.2 ⟨r, i, _, h1, h2, by simp [hR, hv], rfl⟩)
theorem vDep_iff {n : NetT} {s a b : Int} {r i : Nat} : vDep n s a b r i = true ↔ (callAt n r i).1 = s ∧ cncl n r = false ∧ (callAt n r i).2.2.2.1 = true ∧ i + 1 < lenC n r ∧ a ≤ tmD (callAt n r i) ∧ tmD (callAt n r i) < b := by
  unfold vDep
  simp only [Bool.and_eq_true, decide_eq_true_eq, Bool.not_eq_true']
theorem vArr_iff {n : NetT} {s a b : Int} {r i : Nat} : vArr n s a b r i = true ↔ (callAt n r i).1 = s ∧ cncl n r = false ∧ (callAt n r i).2.2.2.2.1 = true ∧ 0 < i ∧ a ≤ tmA (callAt n r i) ∧ tmA (callAt n r i) < b := by
  unfold vArr
  simp only [Bool.and_eq_true, decide_eq_true_eq, Bool.not_eq_true']
theorem vDir_iff {n : NetT} {s t a : Int} {r i : Nat} : vDir n s t a r i = true ↔ (callAt n r i).1 = s ∧ cncl n r = false ∧ (callAt n r i).2.2.2.1 = true ∧ i + 1 < lenC n r ∧ a ≤ tmD (callAt n r i) ∧ reachB (calOf n r) i t = true := by
  unfold vDir
  simp only [Bool.and_eq_true, decide_eq_true_eq, Bool.not_eq_true']
theorem count_val {n : NetT} (hS : Sound n) (s : Int) (x : Int × Int × Unit) : F43 n s x = some ((visA (hR n (vDep n s x.1 x.2.1) tmD) (lenC n) n.2.2.1.length).length : Int) := by
  unfold F43
  have hruns := hS.runs
  refine bind_of (fun q : Int => q = ((visA (hR n (vDep n s x.1 x.2.1) tmD) (lenC n) n.2.2.1.length).length : Int)) (run_for n.2.2.1.length _ (fun r (st : Int × Int) => st = (((visA (hR n (vDep n s x.1 x.2.1) tmD) (lenC n) r).length : Int), (r : Int))) ?_ ?_ _ (by simp [visA])) ?_
  · rintro r st hr rfl
    left
    have hx := runOf_mem hr
    have hmany := hS.many _ hx
    have hfew := vis_few hS (hR n (vDep n s x.1 x.2.1) tmD) r (by omega)
    refine ⟨(((visA (hR n (vDep n s x.1 x.2.1) tmD) (lenC n) (r + 1)).length : Int), ((r + 1 : Nat) : Int)), ?_, rfl⟩
    simp only [lt_dec hr, cond_true, idx_nat hr, ← runOf_eq hr, Option.bind_some, wrap_succ hr (show n.2.2.1.length ≤ 9223372036854775807 by omega)]
    have hlen : 2 ≤ lenC n r ∧ lenC n r ≤ 32 := hmany
    have hlast : visR (hR n (vDep n s x.1 x.2.1) tmD r) r (lenC n r) = visR (hR n (vDep n s x.1 x.2.1) tmD r) r (lenC n r - 1) := by
      obtain ⟨m, hm⟩ : ∃ m, lenC n r = m + 1 := ⟨lenC n r - 1, by omega⟩
      rw [hm, visR_succ, Nat.add_sub_cancel]
      have : hR n (vDep n s x.1 x.2.1) tmD r m = none := by
        unfold hR
        rw [if_neg]
        intro h
        have := (vDep_iff.1 h).2.2.2.1
        omega
      rw [this]; simp
    refine bind_of (fun q : Int => q = (((visA (hR n (vDep n s x.1 x.2.1) tmD) (lenC n) r).length + (visR (hR n (vDep n s x.1 x.2.1) tmD r) r (lenC n r - 1)).length : Nat) : Int)) (run_for (lenC n r - 1) _ (fun i (st : Int × Int) => st = ((((visA (hR n (vDep n s x.1 x.2.1) tmD) (lenC n) r).length + (visR (hR n (vDep n s x.1 x.2.1) tmD r) r i).length : Nat) : Int), (i : Int))) ?_ ?_ _ (by simp [visR])) ?_
    · rintro i st hi rfl
      left
      have hi0 : i < lenC n r := by omega
      have hi' : i < (runOf n r).2.2.2.2.2.2.2.1.length := hi0
      have hcall : (runOf n r).2.2.2.2.2.2.2.1[i] = callAt n r i := (callAt_eq hi0).symm
      have hv := visR_len (hR n (vDep n s x.1 x.2.1) tmD r) r i
      refine ⟨((((visA (hR n (vDep n s x.1 x.2.1) tmD) (lenC n) r).length + (visR (hR n (vDep n s x.1 x.2.1) tmD r) r (i + 1)).length : Nat) : Int), ((i + 1 : Nat) : Int)), ?_, rfl⟩
      have e1 : decide (((i + 1 : Nat) : Int) < (((runOf n r).2.2.2.2.2.2.2.1.length : Nat) : Int)) = true := decide_eq_true (by
        have : lenC n r = (runOf n r).2.2.2.2.2.2.2.1.length := rfl
        omega)
      simp only [wrap_succ hi' (show (runOf n r).2.2.2.2.2.2.2.1.length ≤ 9223372036854775807 by omega), e1, cond_true, idx_nat hi', hcall, Option.bind_some]
      have e2 : (bif !(runOf n r).2.2.2.2.2.2.1 then bif (callAt n r i).2.2.2.1 then bif decide ((callAt n r i).1 = s) then bif decide (x.1 ≤ (callAt n r i).2.2.1) then some (decide ((callAt n r i).2.2.1 < x.2.1)) else some false else some false else some false else some false) = some (vDep n s x.1 x.2.1 r i) := by
        unfold vDep tmD cncl
        rw [decide_eq_true (show i + 1 < lenC n r by omega)]
        cases (runOf n r).2.2.2.2.2.2.1 <;> cases (callAt n r i).2.2.2.1 <;> cases decide ((callAt n r i).1 = s) <;> cases decide (x.1 ≤ (callAt n r i).2.2.1) <;> rfl
      rw [e2]
      simp only [Option.bind_some, visR_succ]
      cases hb : vDep n s x.1 x.2.1 r i with
      | true =>
        have e : hR n (vDep n s x.1 x.2.1) tmD r i = some (tmD (callAt n r i)) := by simp [hR, hb]
        simp only [cond_true, e, List.length_append, List.length_cons, List.length_nil]
        rw [wrap_i64 (by omega) (by omega)]
        congr 3
      | false =>
        have e : hR n (vDep n s x.1 x.2.1) tmD r i = none := by simp [hR, hb]
        simp only [cond_false, e, List.append_nil]
    · rintro st rfl
      refine ⟨_, ?_, rfl⟩
      have e1 : IntKind.wrap .i64 (((lenC n r - 1 : Nat) : Int) + 1) = (lenC n r : Int) := by rw [wrap_i64 (by omega) (by omega)]; omega
      have : decide (((lenC n r : Nat) : Int) < (((runOf n r).2.2.2.2.2.2.2.1.length : Nat) : Int)) = false := nlt_dec _
      simp only [e1, this, cond_false]
    · rintro _ rfl
      simp only [visA_succ, List.length_append, hlast]
  · rintro st rfl
    refine ⟨_, ?_, rfl⟩
    simp only [nlt_dec, cond_false]
  · rintro _ rfl; rfl
theorem errOf_in {n : NetT} {s : Int} (h1 : ¬ s < 0) (h2 : ¬ (n.1.length : Int) ≤ s) : errOf n 0 s = 0 := by unfold errOf; rw [if_pos rfl, if_neg (by omega)]
theorem complete (n : NetT) (h : Good Y31 n) (s : Int) (x : Int × Int × Unit) : F34 n s x = some true := by
  unfold F34
  obtain ⟨b, hb1, hb2⟩ := small_val n
  rw [hb1, example_true]
  cases b with
  | false => rfl
  | true =>
  have hf := fit_of h (by have := (hb2 rfl).2; omega)
  obtain ⟨r, r1, r2, ys, r3, r4, r5, r6, r7, r8⟩ := ans_len (dep_val hf s x.1 x.2.1)
  unfold F65
  rw [r2]
  simp only [Option.bind_some, Bool.not_true, cond_false]
  by_cases hr : r.2.2 = 0
  case neg => rw [decide_eq_false hr]; rfl
  rw [decide_eq_true hr]
  simp only [Bool.not_true, cond_false]
  by_cases hs1 : s < 0
  · rw [decide_eq_true hs1]; rfl
  by_cases hs2 : (n.1.length : Int) ≤ s
  · rw [decide_eq_false hs1, decide_eq_true hs2]; rfl
  rw [decide_eq_false hs1, decide_eq_false hs2]
  have he : errOf n r.2.2 s = 0 := by rw [hr]; exact errOf_in hs1 hs2
  obtain ⟨_, hso⟩ := r8 he
  have hS := r7 hr
  rw [r3, count_val hS]
  simp only [Option.bind_some, cond_false, he, decide_true, Bool.not_true]
  refine bind_of (fun q => q = .inl ()) (run_for ys.length _ (fun p (st : Int) => st = (p : Int)) ?_ ?_ _ rfl) ?_
  · rintro p st hp rfl
    left
    refine ⟨((p + 1 : Nat) : Int), ?_, rfl⟩
    obtain ⟨q, i, hq, hi, hv, hx⟩ := vis_at hso (List.getElem_mem hp)
    obtain ⟨v1, v2, v3, v4, v5, v6⟩ := vDep_iff.1 hv
    have hi' : i < (runOf n q).2.2.2.2.2.2.2.1.length := hi
    have hlenq := len_small hS (runOf_mem hq)
    have hcall : (runOf n q).2.2.2.2.2.2.2.1[i] = callAt n q i := (callAt_eq hi).symm
    have hcn : (runOf n q).2.2.2.2.2.2.1 = false := v2
    have e1 : IntKind.wrap .i64 ((((runOf n q).2.2.2.2.2.2.2.1.length : Nat) : Int) - 1) = (((runOf n q).2.2.2.2.2.2.2.1.length - 1 : Nat) : Int) := by rw [wrap_i64 (by omega) (by omega)]; omega
    have e2 : ¬ (((runOf n q).2.2.2.2.2.2.2.1.length - 1 : Nat) : Int) ≤ (i : Int) := by
      have : lenC n q = (runOf n q).2.2.2.2.2.2.2.1.length := rfl
      omega
    have hord : (bif decide ((0 : Int) < (p : Int)) then
 Option.bind (idx ys (IntKind.wrap .i64 ((p : Int) - (1 : Int)))) fun x13 =>
 bif decide (ys[p].2.2.1 < x13.2.2.1) then some true
 else
 Option.bind (idx ys (IntKind.wrap .i64 ((p : Int) - (1 : Int)))) fun x14 =>
 bif decide (x14.2.2.1 = ys[p].2.2.1) then
 Option.bind (idx ys (IntKind.wrap .i64 ((p : Int) - (1 : Int)))) fun x15 =>
 bif decide (ys[p].1 < x15.1) then some true
 else
 Option.bind (idx ys (IntKind.wrap .i64 ((p : Int) - (1 : Int)))) fun x16 =>
 bif decide (x16.1 = ys[p].1) then
 Option.bind (idx ys (IntKind.wrap .i64 ((p : Int) - (1 : Int)))) fun x17 => some (decide (ys[p].2.1 ≤ x17.2.1))
 else some false
 else some false
 else some false) = some false := by
      by_cases h0 : 0 < p
      · have e3 : IntKind.wrap .i64 ((p : Int) - 1) = ((p - 1 : Nat) : Int) := by rw [wrap_i64 (by omega) (by omega)]; omega
        have hp' : p - 1 < ys.length := by omega
        have hlt : ltV ys[p - 1] ys[p] := List.pairwise_iff_getElem.1 hso.2 (p - 1) p hp' hp (by omega)
        rw [decide_eq_true (show (0 : Int) < (p : Int) by omega), e3]
        simp only [cond_true, idx_nat hp', Option.bind_some]
        unfold ltV at hlt
        rw [decide_eq_false (show ¬ ys[p].2.2.1 < ys[p - 1].2.2.1 by omega)]
        simp only [cond_false]
        by_cases g1 : ys[p - 1].2.2.1 = ys[p].2.2.1
        · rw [decide_eq_true g1, decide_eq_false (show ¬ ys[p].1 < ys[p - 1].1 by omega)]
          simp only [cond_true, cond_false]
          by_cases g2 : ys[p - 1].1 = ys[p].1
          · rw [decide_eq_true g2, decide_eq_false (show ¬ ys[p].2.1 ≤ ys[p - 1].2.1 by omega)]; rfl
          · rw [decide_eq_false g2]; rfl
        · rw [decide_eq_false g1]; rfl
      · rw [decide_eq_false (show ¬ (0 : Int) < (p : Int) by omega)]; rfl
    simp only [lt_dec hp, cond_true, idx_nat hp, Option.bind_some]
    rw [hord]
    rw [hx]
    simp only [decide_eq_false (show ¬ ((q : Nat) : Int) < 0 by omega), decide_eq_false (show ¬ (n.2.2.1.length : Int) ≤ ((q : Nat) : Int) by omega), decide_eq_false (show ¬ ((i : Nat) : Int) < 0 by omega), cond_false, idx_nat hq, ← runOf_eq hq, Option.bind_some, e1, decide_eq_false e2, idx_nat hi', hcall, hcn, v3, Bool.not_true]
    have v5' : ¬ tmD (callAt n q i) < x.1 := by omega
    have v6' : ¬ x.2.1 ≤ tmD (callAt n q i) := by omega
    rw [decide_eq_true v1, decide_eq_true (show (callAt n q i).2.2.1 = tmD (callAt n q i) from rfl), decide_eq_false v5', decide_eq_false v6']
    simp only [Bool.not_true, cond_false, Option.bind_some, wrap_succ hp (show ys.length ≤ 9223372036854775807 by omega)]
  · rintro st rfl
    exact ⟨_, by simp only [nlt_dec, cond_false], rfl⟩
  · rintro _ rfl
    simp only [Sum.elim_inl, hso.1.length_eq, decide_true, cond_true, Option.bind_some]
theorem app_sorted {n : NetT} {v1 v2 v3 : Nat → Nat → Bool} {tm : CallT → Int} {ys zs ws : List VisT} (m : Int) (h1 : sortedOf n v1 tm ys) (h2 : sortedOf n v2 tm zs) (h3 : sortedOf n v3 tm ws)
    (b1 : ∀ r i, v1 r i = true → tm (callAt n r i) < m) (b2 : ∀ r i, v2 r i = true → m ≤ tm (callAt n r i)) (b3 : ∀ r i, v3 r i = true ↔ (v1 r i = true ∨ v2 r i = true)) : ys ++ zs = ws := by
  refine sorted_same (List.pairwise_append.2 ⟨h1.2, h2.2, fun a ha b hb => ?_⟩) h3.2 fun x => ?_
  · obtain ⟨r, i, _, _, g, rfl⟩ := vis_at h1 ha
    obtain ⟨q, k, _, _, g', rfl⟩ := vis_at h2 hb
    have := b1 r i g
    have := b2 q k g'
    exact .inl (show tm (callAt n r i) < tm (callAt n q k) by omega)
  · rw [List.mem_append]
    constructor
    · rintro (h | h)
      · obtain ⟨r, i, g1, g2, g, rfl⟩ := vis_at h1 h
        exact vis_in h3 g1 g2 ((b3 r i).2 (.inl g))
      · obtain ⟨r, i, g1, g2, g, rfl⟩ := vis_at h2 h
        exact vis_in h3 g1 g2 ((b3 r i).2 (.inr g))
    · intro h
      obtain ⟨r, i, g1, g2, g, rfl⟩ := vis_at h3 h
      rcases (b3 r i).1 g with g | g
      · exact .inl (vis_in h1 g1 g2 g)
      · exact .inr (vis_in h2 g1 g2 g)
theorem joined_val {a b : List VisT} (h : a.length + b.length ≤ 100000) : F46 a b = some (a ++ b) := by
  unfold F46
  rw [guard_le (by simp; omega)]
  simp only [Option.bind_some]
  rw [guard_le (by simp; omega)]
  rfl
theorem ranges (n : NetT) (h : Good Y31 n) (s : Int) (x : Int × Int × Int × Unit) : F38 n s x = some true := by
  unfold F38
  obtain ⟨b, hb1, hb2⟩ := small_val n
  rw [hb1, example_true]
  cases b with
  | false => rfl
  | true =>
  have hf := fit_of h (by have := (hb2 rfl).2; omega)
  obtain ⟨r, q1, r2, y1, p1, _, l1, f1, s1, o1⟩ := ans_len (dep_val hf s x.1 x.2.1)
  obtain ⟨r', q2, _, y2, p2, _, l2, f2, _, o2⟩ := ans_len (dep_val hf s x.2.1 x.2.2.1)
  obtain rfl : r = r' := Option.some.inj (q1.symm.trans q2)
  obtain ⟨r', q3, _, y3, p3, _, l3, f3, _, o3⟩ := ans_len (dep_val hf s x.1 x.2.2.1)
  obtain rfl : r = r' := Option.some.inj (q1.symm.trans q3)
  obtain ⟨r', q4, _, y4, p4, _, l4, f4, _, o4⟩ := ans_len (arr_val hf s x.1 x.2.1)
  obtain rfl : r = r' := Option.some.inj (q1.symm.trans q4)
  obtain ⟨r', q5, _, y5, p5, _, l5, f5, _, o5⟩ := ans_len (arr_val hf s x.2.1 x.2.2.1)
  obtain rfl : r = r' := Option.some.inj (q1.symm.trans q5)
  obtain ⟨r', q6, _, y6, p6, _, l6, f6, _, o6⟩ := ans_len (arr_val hf s x.1 x.2.2.1)
  obtain rfl : r = r' := Option.some.inj (q1.symm.trans q6)
  unfold F65
  rw [r2]
  simp only [Option.bind_some, Bool.not_true, cond_false]
  by_cases hr : r.2.2 = 0
  case neg => rw [decide_eq_false hr]; rfl
  rw [decide_eq_true hr]
  simp only [Bool.not_true, cond_false]
  by_cases g1 : x.2.1 < x.1
  · rw [decide_eq_true g1]; rfl
  by_cases g2 : x.2.2.1 < x.2.1
  · rw [decide_eq_false g1, decide_eq_true g2]; rfl
  rw [decide_eq_false g1, decide_eq_false g2, p1, p2, p3, p4, p5, p6]
  have e1 : y1 ++ y2 = y3 := by
    by_cases he : errOf n r.2.2 s = 0
    · refine app_sorted x.2.1 (o1 he).2 (o2 he).2 (o3 he).2 (fun r i g => (vDep_iff.1 g).2.2.2.2.2) (fun r i g => (vDep_iff.1 g).2.2.2.2.1) fun r i => ?_
      rw [vDep_iff, vDep_iff, vDep_iff]
      constructor
      · rintro ⟨h1, h2, h3, h4, h5, h6⟩
        by_cases hm : tmD (callAt n r i) < x.2.1
        · exact .inl ⟨h1, h2, h3, h4, h5, hm⟩
        · exact .inr ⟨h1, h2, h3, h4, by omega, h6⟩
      · rintro (⟨h1, h2, h3, h4, h5, h6⟩ | ⟨h1, h2, h3, h4, h5, h6⟩)
        · exact ⟨h1, h2, h3, h4, h5, by omega⟩
        · exact ⟨h1, h2, h3, h4, by omega, h6⟩
    · rw [f1 he, f2 he, f3 he]; rfl
  have e2 : y4 ++ y5 = y6 := by
    by_cases he : errOf n r.2.2 s = 0
    · refine app_sorted x.2.1 (o4 he).2 (o5 he).2 (o6 he).2 (fun r i g => (vArr_iff.1 g).2.2.2.2.2) (fun r i g => (vArr_iff.1 g).2.2.2.2.1) fun r i => ?_
      rw [vArr_iff, vArr_iff, vArr_iff]
      constructor
      · rintro ⟨h1, h2, h3, h4, h5, h6⟩
        by_cases hm : tmA (callAt n r i) < x.2.1
        · exact .inl ⟨h1, h2, h3, h4, h5, hm⟩
        · exact .inr ⟨h1, h2, h3, h4, by omega, h6⟩
      · rintro (⟨h1, h2, h3, h4, h5, h6⟩ | ⟨h1, h2, h3, h4, h5, h6⟩)
        · exact ⟨h1, h2, h3, h4, h5, by omega⟩
        · exact ⟨h1, h2, h3, h4, by omega, h6⟩
    · rw [f4 he, f5 he, f6 he]; rfl
  simp only [Option.bind_some, cond_false, decide_true, Bool.not_true, joined_val (show y1.length + y2.length ≤ 100000 by omega), joined_val (show y4.length + y5.length ≤ 100000 by omega), e1, e2, same_self y3 (by omega), same_self y6 (by omega), cond_true]
theorem find_true {step : Int → Option (Int ⊕ (Unit ⊕ Bool))} {m : Nat} (p : Nat → Bool) (hm : m ≤ 1000000) (hstep : ∀ i : Nat, i < m → step (i : Int) = some (bif p i then .inr (.inr true) else .inl (IntKind.wrap .i64 ((i : Int) + 1)))) (hex : ∃ i, i < m ∧ p i = true) : run step (0 : Int) = some (.inr true) := by
  refine of_ex (run_for m _ (fun i (s : Int) => s = (i : Int) ∧ ∀ j, j < i → p j = false) ?_ ?_ _ ⟨rfl, fun j h => by omega⟩)
  · rintro i s hi ⟨rfl, hb⟩
    cases hp : p i with
    | true => right; exact ⟨_, by rw [hstep i hi, hp]; rfl, rfl⟩
    | false =>
      left
      refine ⟨((i + 1 : Nat) : Int), by rw [hstep i hi, hp, wrap_succ hi (by omega)]; rfl, rfl, fun j hj => ?_⟩
      by_cases e : j = i
      · rw [e]; exact hp
      · exact hb j (by omega)
  · rintro s ⟨rfl, hb⟩
    obtain ⟨i, hi, hp⟩ := hex
    rw [hb i hi] at hp; cases hp
theorem among_true {l : List VisT} (hl : l.length ≤ 1000000) {v : VisT} (h : v ∈ l) : F40 l v = some true := by
  unfold F40
  obtain ⟨i, hi, rfl⟩ := List.getElem_of_mem h
  refine bind_of (fun q => q = .inr true) ⟨_, find_true (m := l.length) (fun k => decide (((l[k]?).getD (0, 0, 0, ())).1 = l[i].1) && (decide (((l[k]?).getD (0, 0, 0, ())).2.1 = l[i].2.1) && decide (((l[k]?).getD (0, 0, 0, ())).2.2.1 = l[i].2.2.1))) hl (fun k hk => ?_) ⟨i, hi, by simp [hi]⟩, rfl⟩ ?_
  · simp only [lt_dec hk, cond_true, idx_nat hk, Option.bind_some, getD_of hk]
    cases (decide (l[k].1 = l[i].1) && (decide (l[k].2.1 = l[i].2.1) && decide (l[k].2.2.1 = l[i].2.2.1))) <;> rfl
  · rintro _ rfl; rfl
theorem arrives_true {l : List VisT} (hl : l.length ≤ 1000000) {v w : VisT} (h : w ∈ l) (h1 : w.1 = v.1) (h2 : v.2.1 < w.2.1) (h3 : v.2.2.1 ≤ w.2.2.1) : F41 l v = some true := by
  unfold F41
  obtain ⟨i, hi, rfl⟩ := List.getElem_of_mem h
  refine bind_of (fun q => q = .inr true) ⟨_, find_true (m := l.length) (fun k => decide (((l[k]?).getD (0, 0, 0, ())).1 = v.1) && (decide (v.2.1 < ((l[k]?).getD (0, 0, 0, ())).2.1) && decide (v.2.2.1 ≤ ((l[k]?).getD (0, 0, 0, ())).2.2.1))) hl (fun k hk => ?_) ⟨i, hi, by rw [getD_of hi]; simp [h1, h2, h3]⟩, rfl⟩ ?_
  · simp only [lt_dec hk, cond_true, idx_nat hk, Option.bind_some, getD_of hk]
    cases decide (l[k].1 = v.1) with
    | false => rfl
    | true =>
      cases decide (v.2.1 < l[k].2.1) with
      | false => rfl
      | true => cases decide (v.2.2.1 ≤ l[k].2.2.1) <;> rfl
  · rintro _ rfl; rfl
theorem time_mono {n : NetT} (hS : Sound n) {r : Nat} (hr : r < n.2.2.1.length) : ∀ d i, i + d + 1 < lenC n r → tmD (callAt n r i) ≤ tmA (callAt n r (i + d + 1)) := by
  have ht : TimeP (calOf n r) := hS.time _ (runOf_mem hr)
  intro d
  induction d with
  | zero =>
    intro i hi
    have hi2 : i + 1 < (calOf n r).length := hi
    have := (ht (i + 1) hi2).2.2.2 (by omega)
    rw [callAt_eq hi, callAt_eq (show i < lenC n r by omega)]
    exact this.2
  | succ d ih =>
    intro i hi
    have h1 := ih i (by omega)
    have hi2 : i + d + 2 < (calOf n r).length := hi
    have h2 := (ht (i + d + 1) (by omega)).2.1
    have h3 := ((ht (i + d + 2) hi2).2.2.2 (by omega)).2
    rw [callAt_eq (show i + d + 1 < lenC n r by omega)] at h1
    show _ ≤ tmA (callAt n r (i + d + 2))
    rw [callAt_eq (show i + d + 2 < lenC n r from hi)]
    unfold tmA at *
    have e : (calOf n r)[i + d + 2 - 1]'(by omega) = (calOf n r)[i + d + 1] := rfl
    rw [e] at h3
    exact Int.le_trans h1 (Int.le_trans h2 h3)
theorem leads (n : NetT) (h : Good Y31 n) (x : Int × Int × Unit) (a : Int) : F37 n x a = some true := by
  unfold F37
  obtain ⟨b, hb1, hb2⟩ := small_val n
  rw [hb1, example_true]
  cases b with
  | false => rfl
  | true =>
  have hf := fit_of h (by have := (hb2 rfl).2; omega)
  obtain ⟨r, q1, r2, y1, p1, _, l1, f1, s1, o1⟩ := ans_len (dir_val hf x.1 x.2.1 a)
  obtain ⟨r', q2, _, y2, p2, _, l2, f2, _, o2⟩ := ans_len (dep_val hf x.1 a 1099511627776)
  obtain rfl : r = r' := Option.some.inj (q1.symm.trans q2)
  obtain ⟨r', q3, _, y3, p3, _, l3, f3, _, o3⟩ := ans_len (arr_val hf x.2.1 a 1099511627776)
  obtain rfl : r = r' := Option.some.inj (q1.symm.trans q3)
  unfold F65
  rw [r2]
  simp only [Option.bind_some, Bool.not_true, cond_false]
  by_cases hr : r.2.2 = 0
  case neg => rw [decide_eq_false hr]; rfl
  rw [decide_eq_true hr]
  simp only [Bool.not_true, cond_false]
  by_cases g1 : a < 0
  · rw [decide_eq_true g1]; rfl
  rw [decide_eq_false g1, p1]
  simp only [Option.bind_some, cond_false]
  by_cases he : err2 n r.2.2 x.1 x.2.1 = 0
  case neg => rw [decide_eq_false he, f1 he]; rfl
  rw [decide_eq_true he, p2, p3]
  have he1 : errOf n r.2.2 x.1 = 0 := by
    unfold err2 at he
    by_cases h0 : errOf n r.2.2 x.1 = 0
    · exact h0
    · rw [if_neg h0] at he; exact absurd he h0
  have he2 : errOf n r.2.2 x.2.1 = 0 := by unfold err2 at he; rwa [if_pos he1] at he
  have hS := s1 hr
  have hso := (o1 he).2
  have hdp := (o2 he1).2
  have har := (o3 he2).2
  simp only [Option.bind_some, Bool.not_true, cond_false, he1, he2, decide_true]
  refine bind_of (fun q => q = .inl ()) (run_for y1.length _ (fun p (st : Int) => st = (p : Int)) ?_ ?_ _ rfl) ?_
  · rintro p st hp rfl
    left
    refine ⟨((p + 1 : Nat) : Int), ?_, rfl⟩
    obtain ⟨q, i, hq, hi, hv, hx⟩ := vis_at hso (List.getElem_mem hp)
    obtain ⟨v1, v2, v3, v4, v5, v6⟩ := vDir_iff.1 hv
    have ht : TimeP (calOf n q) := hS.time _ (runOf_mem hq)
    have hti := ht i hi
    rw [← callAt_eq hi] at hti
    have hA : F40 y2 y1[p] = some true := by
      rw [hx]
      refine among_true (by omega) (vis_in hdp hq hi (vDep_iff.2 ⟨v1, v2, v3, v4, v5, ?_⟩))
      unfold tmD; omega
    have hB : F41 y3 y1[p] = some true := by
      unfold reachB at v6
      obtain ⟨d, hd, hd2⟩ := List.any_eq_true.1 v6
      obtain ⟨k, hk, rfl⟩ := List.getElem_of_mem hd
      rw [List.length_drop] at hk
      rw [List.getElem_drop] at hd2
      simp only [Bool.and_eq_true, decide_eq_true_eq] at hd2
      have hj : i + k + 1 < lenC n q := by unfold lenC; omega
      have ej : (calOf n q)[i + 1 + k]'(by omega) = callAt n q (i + k + 1) := by
        rw [callAt_eq hj]
        congr 1; omega
      rw [ej] at hd2
      have hm := time_mono hS hq k i hj
      have htj := ht (i + k + 1) hj
      rw [← callAt_eq hj] at htj
      refine arrives_true (by omega) (vis_in har hq hj (vArr_iff.2 ⟨hd2.1, v2, hd2.2, by omega, by omega, ?_⟩)) ?_ ?_ ?_
      · unfold tmA; omega
      · rw [hx]
      · rw [hx]; show ((i : Nat) : Int) < ((i + k + 1 : Nat) : Int); omega
      · rw [hx]; exact hm
    simp only [lt_dec hp, cond_true, idx_nat hp, Option.bind_some, hA, hB, Bool.not_true, cond_false, wrap_succ hp (show y1.length ≤ 9223372036854775807 by omega)]
  · rintro st rfl
    exact ⟨_, by simp only [nlt_dec, cond_false], rfl⟩
  · rintro _ rfl; rfl
theorem departuresP (x : ElPs F35A) (h : GoodPs F35A x) : F35 x.1 x.2.1 x.2.2.1 = some true := departures _ h.1 _ _
theorem arrivalsP (x : ElPs F33A) (h : GoodPs F33A x) : F33 x.1 x.2.1 x.2.2.1 = some true := arrivals _ h.1 _ _
theorem directsP (x : ElPs F36A) (h : GoodPs F36A x) : F36 x.1 x.2.1 x.2.2.1 = some true := directs _ h.1 _ _
theorem completeP (x : ElPs F34A) (h : GoodPs F34A x) : F34 x.1 x.2.1 x.2.2.1 = some true := complete _ h.1 _ _
theorem rangesP (x : ElPs F38A) (h : GoodPs F38A x) : F38 x.1 x.2.1 x.2.2.1 = some true := ranges _ h.1 _ _
theorem leadsP (x : ElPs F37A) (h : GoodPs F37A x) : F37 x.1 x.2.1 x.2.2.1 = some true := leads _ h.1 _ _
end Q
