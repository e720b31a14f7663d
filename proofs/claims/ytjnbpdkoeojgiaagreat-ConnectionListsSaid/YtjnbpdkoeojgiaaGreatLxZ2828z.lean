/- Chapter 28, the law of the list, in plain Lean. -/
import Derived.Test.YtjnbpdkoeojgiaaGreatTsH
import Derived.Test.YtjnbpdkoeojgiaaGreatLwJb2828z
import Derived.Test.YtjnbpdkoeojgiaaGreatTtA
import Derived.Test.YtjnbpdkoeojgiaaGreatTsF

/-! Loops in plain Lean: with an invariant by rounds, and halving. Conditions: those of the theorems. -/
namespace Q
open Tr Go

theorem run_for {σ τ : Type} {step : σ → Option (σ ⊕ τ)} (n : Nat) (P : τ → Prop) (Inv : Nat → σ → Prop)
    (hstep : ∀ i s, i < n → Inv i s → (∃ s', step s = some (.inl s') ∧ Inv (i + 1) s') ∨ ∃ r, step s = some (.inr r) ∧ P r)
    (hend : ∀ s, Inv n s → ∃ r, step s = some (.inr r) ∧ P r) (s : σ) (h0 : Inv 0 s) : ∃ r, run step s = some r ∧ P r := by
  have key : ∀ (k i : Nat) (s : σ), n - i = k → i ≤ n → Inv i s → ∃ r, run step s = some r ∧ P r := by
    intro k
    induction k with
    | zero =>
      intro i s hk hi hs
      have : i = n := by omega
      subst this
      obtain ⟨r, h1, h2⟩ := hend s hs
      exact ⟨r, run_inr h1, h2⟩
    | succ k ih =>
      intro i s hk hi hs
      rcases hstep i s (by omega) hs with ⟨s', h1, h2⟩ | ⟨r, h1, h2⟩
      · rw [run_inl h1]
        exact ih (i + 1) s' (by omega) (by omega) h2
      · exact ⟨r, run_inr h1, h2⟩
  exact key n 0 s (by omega) (by omega) h0

theorem bind_of {α β : Type} {o : Option α} {f : α → Option β} {z : Option β} (P : α → Prop) (h : ∃ r, o = some r ∧ P r) (k : ∀ r, P r → f r = z) : Option.bind o f = z := by
  obtain ⟨r, rfl, hr⟩ := h
  exact k r hr

/-- The same for one round of an outer loop. -/
theorem bind_ex {α β γ : Type} {o : Option α} {f : α → Option (β ⊕ γ)} {Q : β → Prop} (P : α → Prop) (h : ∃ r, o = some r ∧ P r) (k : ∀ r, P r → ∃ s, f r = some (.inl s) ∧ Q s) : ∃ s, Option.bind o f = some (.inl s) ∧ Q s := by
  obtain ⟨r, rfl, hr⟩ := h
  exact k r hr

/-- Halving: the number of places for which the condition holds. -/
theorem run_half {step : Int × Int → Option ((Int × Int) ⊕ Int)} {n k : Nat} (hk : k ≤ n)
    (hstep : ∀ lo hi : Nat, lo < hi → hi ≤ n → step ((lo : Int), (hi : Int)) = some (.inl (if lo + (hi - lo) / 2 < k then (((lo + (hi - lo) / 2 + 1 : Nat) : Int), (hi : Int)) else ((lo : Int), ((lo + (hi - lo) / 2 : Nat) : Int)))))
    (hend : ∀ lo : Nat, step ((lo : Int), (lo : Int)) = some (.inr (lo : Int))) : run step ((0 : Int), (n : Int)) = some (k : Int) := by
  have key : ∀ (m lo hi : Nat), hi - lo = m → lo ≤ k → k ≤ hi → hi ≤ n → run step ((lo : Int), (hi : Int)) = some (k : Int) := by
    intro m
    induction m using Nat.strongRecOn with
    | _ m ih =>
      intro lo hi hm h1 h2 h3
      by_cases hlt : lo < hi
      · rw [run_inl (hstep lo hi hlt h3)]
        split
        · exact ih (hi - (lo + (hi - lo) / 2 + 1)) (by omega) _ _ rfl (by omega) h2 h3
        · exact ih ((lo + (hi - lo) / 2) - lo) (by omega) _ _ rfl h1 (by omega) (by omega)
      · have : lo = hi := by omega
        subst this
        have : lo = k := by omega
        subst this
        exact run_inr (hend lo)
  exact key (n - 0) 0 n rfl (Nat.zero_le _) hk (Nat.le_refl _)

/-- The middle, as the machine reckons it. -/
theorem mid_val {lo hi : Nat} (h : lo ≤ hi) (hn : hi ≤ 4611686018427387904) :
    IntKind.wrap .i64 ((lo : Int) + IntKind.wrap .i64 (Int.tdiv (IntKind.wrap .i64 ((hi : Int) - (lo : Int))) 2)) = ((lo + (hi - lo) / 2 : Nat) : Int) := by
  have e1 : IntKind.wrap .i64 ((hi : Int) - (lo : Int)) = ((hi - lo : Nat) : Int) := by rw [wrap_i64 (by omega) (by omega)]; omega
  have e2 : Int.tdiv ((hi - lo : Nat) : Int) 2 = (((hi - lo) / 2 : Nat) : Int) := by
    rw [Int.tdiv_eq_ediv_of_nonneg (by omega)]; omega
  rw [e1, e2, wrap_i64 (x := (((hi - lo) / 2 : Nat) : Int)) (by omega) (by omega), wrap_i64 (by omega) (by omega)]
  omega
end Q

/-! Chapter 28: the list of connections is the sorted list of all pairs of calls. Conditions: a network without fault, at most 1024 runs. -/
namespace Q
open Tr Go

abbrev ConnT := Int × Int × Int × Int × Int × Int × Unit
def cmp4 (a b : ConnT) : Int :=
  if a.2.2.2.2.1 < b.2.2.2.2.1 then -1 else if b.2.2.2.2.1 < a.2.2.2.2.1 then 1 else
  if a.2.2.2.2.2.1 < b.2.2.2.2.2.1 then -1 else if b.2.2.2.2.2.1 < a.2.2.2.2.2.1 then 1 else
  if a.1 < b.1 then -1 else if b.1 < a.1 then 1 else
  if a.2.1 < b.2.1 then -1 else if b.2.1 < a.2.1 then 1 else 0
def ltC (a b : ConnT) : Prop := a.2.2.2.2.1 < b.2.2.2.2.1 ∨ (a.2.2.2.2.1 = b.2.2.2.2.1 ∧ (a.2.2.2.2.2.1 < b.2.2.2.2.2.1 ∨ (a.2.2.2.2.2.1 = b.2.2.2.2.2.1 ∧ (a.1 < b.1 ∨ (a.1 = b.1 ∧ a.2.1 < b.2.1)))))

theorem cmp4_lt (a b : ConnT) : cmp4 a b < 0 ↔ ltC a b := by
  unfold cmp4 ltC
  (repeat' split) <;> omega
theorem cmp4_pos (a b : ConnT) : 0 < cmp4 a b ↔ ltC b a := by
  unfold cmp4 ltC
  (repeat' split) <;> omega
theorem cmp4_one {a b : ConnT} (h : ltC a b) : cmp4 a b = -1 := by
  unfold ltC at h
  unfold cmp4
  (repeat' split) <;> omega

theorem dec_ite {α : Type} (p : Prop) [Decidable p] (x y : α) : (bif decide p then x else y) = if p then x else y := by
  by_cases h : p <;> simp [h]

theorem compare_val (a b : ConnT) : F_connection_Compare a b = some (cmp4 a b) := by
  unfold F_connection_Compare cmp4
  have w1 : IntKind.wrap .i64 (0 + 1 : Int) = 1 := by decide
  have w2 : IntKind.wrap .i64 (1 + 1 : Int) = 2 := by decide
  have w3 : IntKind.wrap .i64 (2 + 1 : Int) = 3 := by decide
  have w4 : IntKind.wrap .i64 (3 + 1 : Int) = 4 := by decide
  simp only [dec_ite]
  rw [run_unfold]
  simp only [show (0 : Int) < 4 by decide, if_true, idx, show (0 : Int) ≤ 0 by decide, Int.toNat_zero, List.getElem?_cons_zero, Option.bind_some, Int.toNat_one, List.getElem?_cons_succ, w1]
  by_cases h1 : a.2.2.2.2.1 < b.2.2.2.2.1
  · simp [h1]
  by_cases h2 : b.2.2.2.2.1 < a.2.2.2.2.1
  · simp [h1, h2]
  simp only [h1, h2, if_false, Option.bind_some, Sum.elim_inl]
  rw [run_unfold]
  simp only [show (1 : Int) < 4 by decide, if_true, show (0 : Int) ≤ 1 by decide, List.getElem?_cons_zero, Option.bind_some, Int.toNat_one, List.getElem?_cons_succ, w2]
  by_cases h3 : a.2.2.2.2.2.1 < b.2.2.2.2.2.1
  · simp [h3]
  by_cases h4 : b.2.2.2.2.2.1 < a.2.2.2.2.2.1
  · simp [h3, h4]
  simp only [h3, h4, if_false, Option.bind_some, Sum.elim_inl]
  rw [run_unfold]
  simp only [show (2 : Int) < 4 by decide, if_true, show (0 : Int) ≤ 2 by decide, List.getElem?_cons_zero, Option.bind_some, show Int.toNat 2 = 2 by decide, List.getElem?_cons_succ, w3]
  by_cases h5 : a.1 < b.1
  · simp [h5]
  by_cases h6 : b.1 < a.1
  · simp [h5, h6]
  simp only [h5, h6, if_false, Option.bind_some, Sum.elim_inl]
  rw [run_unfold]
  simp only [show (3 : Int) < 4 by decide, if_true, show (0 : Int) ≤ 3 by decide, List.getElem?_cons_zero, Option.bind_some, show Int.toNat 3 = 3 by decide, List.getElem?_cons_succ, w4]
  by_cases h7 : a.2.1 < b.2.1
  · simp [h7]
  by_cases h8 : b.2.1 < a.2.1
  · simp [h7, h8]
  simp only [h7, h8, if_false, Option.bind_some, Sum.elim_inl]
  rw [run_unfold]
  simp

/-! ### All pairs of calls -/
def conOf (i : Nat) (l : List CallT) (c : Nat) : ConnT := ((i : Int), (c : Int), ((l[c]?).getD c0).1, ((l[c + 1]?).getD c0).1, ((l[c]?).getD c0).2.2.1, ((l[c + 1]?).getD c0).2.1, ())
def conM (i : Nat) (l : List CallT) (m : Nat) : List ConnT := (List.range m).map (conOf i l)
def conR (i : Nat) (x : RunT) : List ConnT := if x.2.2.2.2.2.2.1 = true then [] else conM i x.2.2.2.2.2.2.2.1 (x.2.2.2.2.2.2.2.1.length - 1)
def conA (n : NetT) (k : Nat) : List ConnT := (List.range k).flatMap fun i => conR i ((n.2.2.1[i]?).getD u0)

theorem conM_succ (i : Nat) (l : List CallT) (m : Nat) : conM i l (m + 1) = conM i l m ++ [conOf i l m] := by
  unfold conM
  rw [List.range_succ, List.map_append]; rfl
theorem conA_succ (n : NetT) (k : Nat) : conA n (k + 1) = conA n k ++ conR k ((n.2.2.1[k]?).getD u0) := by
  unfold conA
  rw [List.range_succ, List.flatMap_append]; simp

theorem conR_mem {i : Nat} {x : RunT} {c : ConnT} (h : c ∈ conR i x) : x.2.2.2.2.2.2.1 = false ∧ ∃ k, k + 1 < x.2.2.2.2.2.2.2.1.length ∧ c = conOf i x.2.2.2.2.2.2.2.1 k := by
  unfold conR at h
  split at h
  · simp at h
  · next hc =>
    unfold conM at h
    obtain ⟨k, hk, rfl⟩ := List.mem_map.1 h
    rw [List.mem_range] at hk
    exact ⟨by simpa using hc, k, by omega, rfl⟩

theorem conR_len {i : Nat} {x : RunT} (h : x.2.2.2.2.2.2.2.1.length ≤ 32) : (conR i x).length ≤ 31 := by
  unfold conR
  split
  · simp
  · simp [conM]; omega

theorem getD_mem {α : Type} {l : List α} {i : Nat} (h : i < l.length) (d : α) : (l[i]?).getD d ∈ l := by
  rw [List.getElem?_eq_getElem h]; exact List.getElem_mem h

theorem conA_len {n : NetT} (h : Sound n) : ∀ k, k ≤ n.2.2.1.length → (conA n k).length ≤ 31 * k
  | 0, _ => by simp [conA]
  | k + 1, hk => by
    rw [conA_succ, List.length_append]
    have := conA_len h k (by omega)
    have := conR_len (i := k) (h.many _ (getD_mem (show k < n.2.2.1.length by omega) u0)).2
    omega

/-- The connections of one run come in the order of its calls. -/
theorem conR_lt {i : Nat} {x : RunT} (h : TimeP x.2.2.2.2.2.2.2.1) : (conR i x).Pairwise ltC := by
  unfold conR
  split
  · exact .nil
  · unfold conM
    rw [List.pairwise_map]
    refine List.Pairwise.imp_of_mem ?_ List.pairwise_lt_range
    intro a b ha hb hab
    rw [List.mem_range] at ha hb
    generalize hl : x.2.2.2.2.2.2.2.1 = l at *
    have step : ∀ k (hk : k + 1 < l.length), ((l[k]?).getD c0).2.2.1 ≤ ((l[k + 1]?).getD c0).2.1 ∧ ((l[k + 1]?).getD c0).2.1 ≤ ((l[k + 1]?).getD c0).2.2.1 := by
      intro k hk
      have t := h (k + 1) hk
      have t2 := t.2.2.2 (by omega)
      rw [getD_of hk, getD_of (show k < l.length by omega)]
      have e : l[k + 1 - 1]'(by omega) = l[k] := rfl
      rw [e] at t2
      exact ⟨t2.2, t.2.1⟩
    have mono : ∀ d k, k + d + 1 < l.length → ((l[k]?).getD c0).2.2.1 ≤ ((l[k + d]?).getD c0).2.2.1 ∧ ((l[k + 1]?).getD c0).2.1 ≤ ((l[k + d + 1]?).getD c0).2.1 := by
      intro d
      induction d with
      | zero => exact fun k hk => ⟨Int.le_refl _, Int.le_refl _⟩
      | succ d ih =>
        intro k hk
        have h1 := ih k (by omega)
        have h2 := step (k + d) (by omega)
        have h3 := step (k + d + 1) (by omega)
        refine ⟨?_, ?_⟩
        · show _ ≤ ((l[k + d + 1]?).getD c0).2.2.1
          omega
        · show _ ≤ ((l[k + d + 1 + 1]?).getD c0).2.1
          omega
    have m := mono (b - a) a (by omega)
    rw [show a + (b - a) = b by omega] at m
    show ((l[a]?).getD c0).2.2.1 < ((l[b]?).getD c0).2.2.1 ∨ (((l[a]?).getD c0).2.2.1 = ((l[b]?).getD c0).2.2.1 ∧ (((l[a + 1]?).getD c0).2.1 < ((l[b + 1]?).getD c0).2.1 ∨ (((l[a + 1]?).getD c0).2.1 = ((l[b + 1]?).getD c0).2.1 ∧ ((i : Int) < (i : Int) ∨ ((i : Int) = (i : Int) ∧ (a : Int) < (b : Int))))))
    obtain ⟨m1, m2⟩ := m
    generalize ((l[a]?).getD c0).2.2.1 = w1 at *
    generalize ((l[b]?).getD c0).2.2.1 = w2 at *
    generalize ((l[a + 1]?).getD c0).2.1 = w3 at *
    generalize ((l[b + 1]?).getD c0).2.1 = w4 at *
    omega

theorem conA_told {n : NetT} (h : Sound n) : ∀ k, k ≤ n.2.2.1.length → (conA n k).Pairwise fun a b => ltC a b ∨ ltC b a := by
  intro k hk
  unfold conA
  rw [List.pairwise_flatMap]
  refine ⟨fun i hi => ?_, ?_⟩
  · rw [List.mem_range] at hi
    exact (conR_lt (h.time _ (getD_mem (show i < n.2.2.1.length by omega) u0))).imp fun h => .inl h
  · refine List.Pairwise.imp ?_ List.pairwise_lt_range
    intro a b hab x hx y hy
    obtain ⟨_, p, _, rfl⟩ := conR_mem hx
    obtain ⟨_, q, _, rfl⟩ := conR_mem hy
    have key : ∀ u v : ConnT, u.1 < v.1 → ltC u v ∨ ltC v u := fun u v h => by unfold ltC; omega
    exact key _ _ (show ((a : Nat) : Int) < ((b : Nat) : Int) by omega)

theorem ltC_irr (a : ConnT) : ¬ ltC a a := by unfold ltC; omega
theorem ltC_tr {a b c : ConnT} (h1 : ltC a b) (h2 : ltC b c) : ltC a c := by unfold ltC at *; omega
end Q

/-! Chapter 28: what List answers. Conditions: a network that fits, at most 1024 runs. -/
namespace Q
open Tr Go

theorem of_ex {α : Type} {o : Option α} {z : α} (h : ∃ r, o = some r ∧ r = z) : o = some z := by
  obtain ⟨r, rfl, rfl⟩ := h; rfl

theorem inner_val {i : Nat} {x : RunT} (hl : x.2.2.2.2.2.2.2.1.length ≤ 32) (h1 : 1 ≤ x.2.2.2.2.2.2.2.1.length) {out : List ConnT} (ho : out.length ≤ 100000) :
    Tr.run
 (fun s3 : List ConnT × Int =>
 bif decide (s3.2 < IntKind.wrap .i64 ((↑(List.length x.2.2.2.2.2.2.2.1) : Int) - (1 : Int))) then
 Option.bind (idx x.2.2.2.2.2.2.2.1 s3.2) fun x4 =>
 Option.bind (idx x.2.2.2.2.2.2.2.1 (IntKind.wrap .i64 (s3.2 + (1 : Int)))) fun x5 =>
 Option.bind (guardB (decide (List.length s3.1 + List.length [((i : Int), s3.2, x4.1, x5.1, x4.2.2.1, x5.2.1, ())] ≤ maxApp))) fun _ =>
 some (.inl (s3.1 ++ [((i : Int), s3.2, x4.1, x5.1, x4.2.2.1, x5.2.1, ())], IntKind.wrap .i64 (s3.2 + (1 : Int))))
 else some (.inr s3.1))
 (out, (0 : Int)) = some (out ++ conM i x.2.2.2.2.2.2.2.1 (x.2.2.2.2.2.2.2.1.length - 1)) := by
  generalize x.2.2.2.2.2.2.2.1 = l at *
  have e0 : IntKind.wrap .i64 ((l.length : Int) - 1) = ((l.length - 1 : Nat) : Int) := by rw [wrap_i64 (by omega) (by omega)]; omega
  refine of_ex (run_for (l.length - 1) _ (fun c (s : List ConnT × Int) => s = (out ++ conM i l c, (c : Int))) ?_ ?_ _ (by simp [conM]))
  · rintro c s hc rfl
    left
    have hc1 : c + 1 < l.length := by omega
    refine ⟨(out ++ conM i l (c + 1), ((c + 1 : Nat) : Int)), ?_, rfl⟩
    simp only [e0, lt_dec hc, cond_true, idx_nat (show c < l.length by omega), Option.bind_some, wrap_succ hc (show l.length - 1 ≤ 9223372036854775807 by omega), idx_nat hc1]
    rw [guard_app (by have : (conM i l c).length = c := by simp [conM]
                      simp; omega)]
    simp only [Option.bind_some, conM_succ, conOf, getD_of hc1, getD_of (show c < l.length by omega), List.append_assoc]
  · rintro s rfl
    refine ⟨_, ?_, rfl⟩
    simp only [e0, nlt_dec, cond_false]

theorem conA_mem {n : NetT} {c : ConnT} (h : c ∈ conA n n.2.2.1.length) : ∃ i, ∃ hi : i < n.2.2.1.length, (n.2.2.1[i]).2.2.2.2.2.2.1 = false ∧ ∃ k, k + 1 < (n.2.2.1[i]).2.2.2.2.2.2.2.1.length ∧ c = conOf i (n.2.2.1[i]).2.2.2.2.2.2.2.1 k := by
  unfold conA at h
  obtain ⟨i, hi, hc⟩ := List.mem_flatMap.1 h
  rw [List.mem_range] at hi
  rw [getD_of hi] at hc
  exact ⟨i, hi, conR_mem hc⟩

theorem list_val {n : NetT} (hf : Fit n) : ∃ r, F_network_Check n = some r ∧ F_ref26_Check n = some r ∧ (r.2.2 ≠ 0 → F_connection_List n = some ([], 21)) ∧
    (r.2.2 = 0 → Sound n ∧ ∃ ys : List ConnT, F_connection_List n = some (ys, 0) ∧ ys.Perm (conA n n.2.2.1.length) ∧ ys.Pairwise ltC) := by
  obtain ⟨r, h1, h2, h3⟩ := check_same n hf
  refine ⟨r, h1, h2, fun hr => ?_, fun hr => ?_⟩
  · unfold F_connection_List
    rw [h1]
    simp only [Option.bind_some, decide_eq_false hr, Bool.not_false, cond_true]
  · have hS := h3 hr
    refine ⟨hS, ?_⟩
    have hlen := hS.runs
    have hcl := conA_len hS
    obtain ⟨ys, g1, g2, g3⟩ := sortF_val (cmp := F_connection_Compare) ltC (conA n n.2.2.1.length) (by have := hcl _ (Nat.le_refl _); omega) (fun x _ y _ => ⟨_, compare_val x y, cmp4_lt x y, cmp4_pos x y⟩) (fun x _ => ltC_irr x) (fun a _ b _ c _ => ltC_tr) (conA_told hS _ (Nat.le_refl _))
    refine ⟨ys, ?_, g2, g3⟩
    unfold F_connection_List
    rw [h1]
    simp only [Option.bind_some, hr, decide_true, Bool.not_true, cond_false]
    refine bind_of (fun r => r = conA n n.2.2.1.length) (run_for n.2.2.1.length _ (fun i (s : List ConnT × Int) => s = (conA n i, (i : Int))) ?_ ?_ _ (by simp [conA])) ?_
    · rintro i s hi rfl
      left
      have hx := List.getElem_mem hi
      refine ⟨(conA n (i + 1), ((i + 1 : Nat) : Int)), ?_, rfl⟩
      have hlen2 := hcl i (by omega)
      simp only [lt_dec hi, cond_true, idx_nat hi, Option.bind_some, wrap_succ hi (show n.2.2.1.length ≤ 9223372036854775807 by omega), conA_succ, getD_of hi, conR]
      cases hc : (n.2.2.1[i]).2.2.2.2.2.2.1 with
      | true => simp only [cond_true, if_true, List.append_nil]
      | false =>
        simp only [cond_false, Bool.false_eq_true, if_false]
        rw [inner_val (hS.many _ hx).2 (by have := (hS.many _ hx).1; omega) (by omega)]
        rfl
    · rintro s rfl
      refine ⟨_, ?_, rfl⟩
      simp only [nlt_dec, cond_false]
    · rintro _ rfl
      unfold F_slices_SortFunc_api_Connection_api_Connection_X_connection_Compare
      rw [g1]
      rfl
end Q

/-! Chapter 28: what the laws begin with. Conditions: texts and lists as a machine can hold them. -/
namespace Q
open Tr Go

theorem example_true : F_law28_exampleHolds = some true := by kernel_rfl

theorem fit_of {n : NetT} (h : Good Y31 n) (hp : n.2.2.2.2.1.length ≤ 4096) : Fit n := by
  obtain ⟨⟨_, h1⟩, ⟨_, h2⟩, ⟨_, h3⟩, _, _, ⟨⟨_, h6⟩, _⟩, _⟩ := h
  refine ⟨fun x hx => ?_, fun x hx => ?_, fun x hx => ?_, fun x hx => ?_, hp, fun x hx => ?_⟩
  · exact (h1 x hx).1
  · exact (h2 x hx).1
  · exact (h3 x hx).2.2.2.1
  · exact (h3 x hx).2.2.2.2.2.2.2.1.1
  · exact (h6 x hx).1

theorem large_val (n : NetT) : ∃ b, F_ref28_Large n = some b ∧ (b = false → n.2.2.1.length ≤ 40 ∧ n.2.2.2.2.1.length ≤ 200) := by
  unfold F_ref28_Large
  by_cases h1 : (70 : Int) < (n.1.length : Int)
  · rw [decide_eq_true h1]; exact ⟨true, rfl, fun e => (nomatch e)⟩
  by_cases h2 : (70 : Int) < (n.2.1.length : Int)
  · rw [decide_eq_false h1, decide_eq_true h2]; exact ⟨true, rfl, fun e => (nomatch e)⟩
  by_cases h3 : (40 : Int) < (n.2.2.1.length : Int)
  · rw [decide_eq_false h1, decide_eq_false h2, decide_eq_true h3]; exact ⟨true, rfl, fun e => (nomatch e)⟩
  by_cases h4 : (60 : Int) < (n.2.2.2.1.length : Int)
  · rw [decide_eq_false h1, decide_eq_false h2, decide_eq_false h3, decide_eq_true h4]; exact ⟨true, rfl, fun e => (nomatch e)⟩
  by_cases h5 : (200 : Int) < (n.2.2.2.2.1.length : Int)
  · rw [decide_eq_false h1, decide_eq_false h2, decide_eq_false h3, decide_eq_false h4, decide_eq_true h5]; exact ⟨true, rfl, fun e => (nomatch e)⟩
  by_cases h6 : (20 : Int) < (n.2.2.2.2.2.1.1.length : Int)
  · rw [decide_eq_false h1, decide_eq_false h2, decide_eq_false h3, decide_eq_false h4, decide_eq_false h5, decide_eq_true h6]; exact ⟨true, rfl, fun e => (nomatch e)⟩
  rw [decide_eq_false h1, decide_eq_false h2, decide_eq_false h3, decide_eq_false h4, decide_eq_false h5, decide_eq_false h6]
  simp only [cond_false, Option.bind_some]
  have hl : n.2.2.1.length ≤ 9223372036854775807 := by omega
  rw [scan_run (n := n.2.2.1.length) (fun i (st : Int) => st = (i : Int)) (fun i => if 40 < ((n.2.2.1[i]?).getD u0).2.2.2.2.2.2.2.1.length then 1 else 0) (fun _ => .inr true) (.inl ()) ?_ ?_ ?_ (0 : Int) rfl]
  · unfold pick
    cases firstBad n.2.2.1.length (fun i => if 40 < ((n.2.2.1[i]?).getD u0).2.2.2.2.2.2.2.1.length then 1 else 0) with
    | none => exact ⟨false, rfl, fun _ => by omega⟩
    | some i => exact ⟨true, rfl, fun e => (nomatch e)⟩
  · rintro i _ hi rfl hc
    rw [getD_of hi] at hc
    split at hc
    · omega
    · next hh =>
      refine ⟨((i + 1 : Nat) : Int), ?_, rfl⟩
      simp only [lt_dec hi, cond_true, idx_nat hi, Option.bind_some, decide_eq_false (show ¬ (40 : Int) < ((n.2.2.1[i]).2.2.2.2.2.2.2.1.length : Int) by omega), cond_false, wrap_succ hi hl]
  · rintro i _ hi rfl hc
    rw [getD_of hi] at hc
    split at hc
    · next hh =>
      simp only [lt_dec hi, cond_true, idx_nat hi, Option.bind_some, decide_eq_true (show (40 : Int) < ((n.2.2.1[i]).2.2.2.2.2.2.2.1.length : Int) by omega)]
    · omega
  · rintro _ rfl
    simp only [nlt_dec, cond_false]

theorem strict_at {ys : List ConnT} (hs : ys.Pairwise ltC) {i j : Nat} (hij : i < j) (hj : j < ys.length) : ltC (ys[i]'(by omega)) ys[j] := List.pairwise_iff_getElem.1 hs i j (by omega) hj hij

theorem idx_at {α : Type} {l : List α} {i : Nat} (h : i < l.length) : Tr.idx l (i : Int) = some l[i] := idx_nat h

end Q

/-! Chapter 28: ConnectionLists in plain Lean: the reference inserts one by one, and comes to the same list. Conditions: texts and lists as a machine can hold them. -/
namespace Q
open Tr Go

theorem compareR_val (a b : ConnT) : F_ref28_Compare a b = some (cmp4 a b) := by
  unfold F_ref28_Compare cmp4
  have w1 : IntKind.wrap .i64 (0 + 1 : Int) = 1 := by decide
  have w2 : IntKind.wrap .i64 (1 + 1 : Int) = 2 := by decide
  have w3 : IntKind.wrap .i64 (2 + 1 : Int) = 3 := by decide
  have w4 : IntKind.wrap .i64 (3 + 1 : Int) = 4 := by decide
  simp only [dec_ite]
  rw [run_unfold]
  simp only [show (0 : Int) < 4 by decide, if_true, show inb 0 4 = some 0 by decide, List.getElem?_cons_zero, Option.bind_some, w1]
  by_cases h1 : a.2.2.2.2.1 < b.2.2.2.2.1
  · simp [h1]
  by_cases h2 : b.2.2.2.2.1 < a.2.2.2.2.1
  · simp [h1, h2]
  simp only [h1, h2, if_false, Option.bind_some, Sum.elim_inl]
  rw [run_unfold]
  simp only [show (1 : Int) < 4 by decide, if_true, show inb 1 4 = some 1 by decide, List.getElem?_cons_zero, Option.bind_some, List.getElem?_cons_succ, w2]
  by_cases h3 : a.2.2.2.2.2.1 < b.2.2.2.2.2.1
  · simp [h3]
  by_cases h4 : b.2.2.2.2.2.1 < a.2.2.2.2.2.1
  · simp [h3, h4]
  simp only [h3, h4, if_false, Option.bind_some, Sum.elim_inl]
  rw [run_unfold]
  simp only [show (2 : Int) < 4 by decide, if_true, show inb 2 4 = some 2 by decide, List.getElem?_cons_zero, Option.bind_some, List.getElem?_cons_succ, w3]
  by_cases h5 : a.1 < b.1
  · simp [h5]
  by_cases h6 : b.1 < a.1
  · simp [h5, h6]
  simp only [h5, h6, if_false, Option.bind_some, Sum.elim_inl]
  rw [run_unfold]
  simp only [show (3 : Int) < 4 by decide, if_true, show inb 3 4 = some 3 by decide, List.getElem?_cons_zero, Option.bind_some, List.getElem?_cons_succ, w4]
  by_cases h7 : a.2.1 < b.2.1
  · simp [h7]
  by_cases h8 : b.2.1 < a.2.1
  · simp [h7, h8]
  simp only [h7, h8, if_false, Option.bind_some, Sum.elim_inl]
  rw [run_unfold]
  simp

theorem insert_val {l : List ConnT} {c : ConnT} (hs : l.Pairwise ltC) (ht : ∀ y ∈ l, ltC y c ∨ ltC c y) (hl : l.length ≤ 100000) :
    ∃ m, F_ref28_insert l c = some m ∧ m.Perm (l ++ [c]) ∧ m.Pairwise ltC := by
  have key : ∃ r : List ConnT, F_ref28_insert l c = some r ∧ (r.Perm (l ++ [c]) ∧ r.Pairwise ltC) := by
    unfold F_ref28_insert
    rw [guard_app (by simp; omega)]
    simp only [Option.bind_some]
    have e0 : IntKind.wrap .i64 (((l ++ [c]).length : Int) - 1) = (l.length : Int) := by
      rw [List.length_append, List.length_singleton, wrap_i64 (by omega) (by omega)]; omega
    rw [e0]
    refine run_bind' (fun s : List ConnT × Int => ∃ A D, s = (A ++ c :: D, (A.length : Int)) ∧ l = A ++ D ∧ ∀ y ∈ D, ltC c y) (fun s => s.2.toNat)
      (fun r => r.Perm (l ++ [c]) ∧ r.Pairwise ltC) ⟨l, [], rfl, by simp, by simp⟩ ?_ (fun r hr => ⟨_, rfl, hr⟩)
    rintro s ⟨A, D, rfl, hAD, hD⟩
    have fin : (∀ y ∈ A, ltC y c) → (A ++ c :: D).Perm (l ++ [c]) ∧ (A ++ c :: D).Pairwise ltC := by
      intro hA
      refine ⟨?_, ?_⟩
      · rw [hAD, List.append_assoc]
        exact List.Perm.append_left A (List.perm_append_singleton c D).symm
      · rw [hAD, List.pairwise_append] at hs
        rw [List.pairwise_append, List.pairwise_cons]
        refine ⟨hs.1, ⟨hD, hs.2.1⟩, fun x hx y hy => ?_⟩
        rcases List.mem_cons.1 hy with rfl | hy
        · exact hA x hx
        · exact hs.2.2 x hx y hy
    rcases List.eq_nil_or_concat A with rfl | ⟨B, y, rfl⟩
    · exact ⟨_, rfl, fin (by simp)⟩
    · rw [List.concat_eq_append] at *
      have hlen : (B ++ [y]).length = B.length + 1 := by simp
      have hBl : B.length + 1 ≤ l.length := by rw [hAD]; simp
      have e1 : IntKind.wrap .i64 (((B ++ [y]).length : Int) - 1) = (B.length : Int) := by rw [hlen, wrap_i64 (by omega) (by omega)]; omega
      have g1 : Tr.inb (B.length : Int) (B ++ [y] ++ c :: D).length = some B.length := inb_nat (by simp)
      have g2 : Tr.inb ((B ++ [y]).length : Int) (B ++ [y] ++ c :: D).length = some (B.length + 1) := by rw [hlen]; exact inb_nat (by simp)
      have v1 : (B ++ [y] ++ c :: D)[B.length]? = some y := by simp
      have v2 : (B ++ [y] ++ c :: D)[B.length + 1]? = some c := by
        rw [List.getElem?_append_right (by simp)]; simp
      have hy : ltC y c ∨ ltC c y := ht y (by rw [hAD]; simp)
      have pos : decide ((0 : Int) < ((B ++ [y]).length : Int)) = true := decide_eq_true (by simp)
      simp only [pos, cond_true, e1, g1, g2, v1, v2, Option.bind_some, compareR_val]
      rcases hy with hy | hy
      · rw [decide_eq_false (fun h => ltC_irr _ (ltC_tr hy ((cmp4_pos y c).1 h)))]
        refine ⟨_, rfl, fin fun x hx => ?_⟩
        rcases List.mem_append.1 hx with hx | hx
        · rw [hAD, List.append_assoc, List.pairwise_append] at hs
          exact ltC_tr (hs.2.2 x hx y (by simp)) hy
        · simp at hx; subst hx; exact hy
      · rw [decide_eq_true ((cmp4_pos y c).2 hy)]
        have s1 : (B ++ [y] ++ c :: D).set (B.length + 1) y = B ++ y :: y :: D := by
          rw [List.append_assoc, List.set_append_right _ _ (by omega)]; simp
        have s2 : (B ++ y :: y :: D).set B.length c = B ++ c :: y :: D := by
          rw [List.set_append_right _ _ (by omega)]; simp
        have g3 : Tr.inb (B.length : Int) (B ++ y :: y :: D).length = some B.length := inb_nat (by simp)
        have v3 : (B ++ y :: y :: D)[B.length]? = some y := by simp
        simp only [cond_true, s1, g3, v3, Option.bind_some, s2]
        refine ⟨_, rfl, ⟨B, y :: D, rfl, by rw [hAD]; simp, ?_⟩, by simp⟩
        intro z hz
        rcases List.mem_cons.1 hz with rfl | hz
        · exact hy
        · exact hD z hz
  exact key

/-- A sorted list of the first connections of a run. -/
theorem same_val (l : List ConnT) (hl : l.length ≤ 9223372036854775807) : F_ref28_Same l l = some true := by
  unfold F_ref28_Same
  simp only [decide_true, Bool.not_true, cond_false]
  refine bind_of (fun r => r = .inl ()) (run_for l.length _ (fun i (s : Int) => s = (i : Int)) ?_ ?_ _ rfl) ?_
  · rintro i s hi rfl
    left
    refine ⟨((i + 1 : Nat) : Int), ?_, rfl⟩
    simp only [lt_dec hi, cond_true, idx_at hi, Option.bind_some, decide_true, Bool.and_self, Bool.not_true, cond_false, wrap_succ hi hl]
  · rintro s rfl
    refine ⟨_, ?_, rfl⟩
    simp only [nlt_dec, cond_false]
  · rintro _ rfl
    rfl

def Ins (l : List ConnT) (s : List ConnT) : Prop := s.Perm l ∧ s.Pairwise ltC

theorem ins_step {l s : List ConnT} {c : ConnT} (h : Ins l s) (ht : ∀ y ∈ l, ltC y c ∨ ltC c y) (hl : l.length ≤ 100000) : ∃ m, F_ref28_insert s c = some m ∧ Ins (l ++ [c]) m := by
  obtain ⟨m, h1, h2, h3⟩ := insert_val h.2 (fun y hy => ht y (h.1.mem_iff.1 hy)) (by rw [h.1.length_eq]; exact hl)
  exact ⟨m, h1, h2.trans (h.1.append_right _), h3⟩

theorem innerR_val {n : NetT} (hS : Sound n) {i : Nat} (hi : i < n.2.2.1.length) (hn : n.2.2.1.length ≤ 40) (hc : (n.2.2.1[i]).2.2.2.2.2.2.1 = false) {out : List ConnT} (ho : Ins (conA n i) out) :
    ∃ r, Tr.run
 (fun s3 : List ConnT × Int =>
 Option.bind
 (bif decide (IntKind.wrap .i64 (s3.2 + (1 : Int)) < (↑(List.length (n.2.2.1[i]).2.2.2.2.2.2.2.1) : Int)) then
 some !(n.2.2.1[i]).2.2.2.2.2.2.1
 else some false)
 fun x4 =>
 bif x4 then
 Option.bind (idx (n.2.2.1[i]).2.2.2.2.2.2.2.1 s3.2) fun x5 =>
 Option.bind (idx (n.2.2.1[i]).2.2.2.2.2.2.2.1 (IntKind.wrap .i64 (s3.2 + (1 : Int)))) fun x6 =>
 Option.bind (F_ref28_insert s3.1 ((i : Int), s3.2, x5.1, x6.1, x5.2.2.1, x6.2.1, ())) fun x7 =>
 some (.inl (x7, IntKind.wrap .i64 (s3.2 + (1 : Int))))
 else some (.inr s3.1))
 (out, (0 : Int)) = some r ∧ Ins (conA n (i + 1)) r := by
  have hx := List.getElem_mem hi
  have hm := hS.many _ hx
  have hA : conA n (i + 1) = conA n i ++ conM i (n.2.2.1[i]).2.2.2.2.2.2.2.1 ((n.2.2.1[i]).2.2.2.2.2.2.2.1.length - 1) := by
    rw [conA_succ, getD_of hi]
    unfold conR
    rw [if_neg (by rw [hc]; simp)]
  have htold := conA_told hS (i + 1) (by omega)
  rw [hA] at htold ⊢
  have hlenA := conA_len hS i (by omega)
  rw [hc]
  generalize (n.2.2.1[i]).2.2.2.2.2.2.2.1 = l at *
  refine run_for (l.length - 1) _ (fun c (s : List ConnT × Int) => ∃ m, s = (m, (c : Int)) ∧ Ins (conA n i ++ conM i l c) m) ?_ ?_ _ ⟨out, rfl, by simpa [conM] using ho⟩
  · rintro c s hcl ⟨m, rfl, hI⟩
    left
    have hc1 : c + 1 < l.length := by omega
    have e1 : IntKind.wrap .i64 ((c : Int) + 1) = ((c + 1 : Nat) : Int) := by rw [wrap_i64 (by omega) (by omega)]; omega
    have hpre : (conA n i ++ conM i l (c + 1)).Pairwise fun a b => ltC a b ∨ ltC b a := by
      refine htold.sublist (List.Sublist.append_left ?_ _)
      unfold conM
      exact (List.range_sublist.2 (by omega)).map _
    rw [conM_succ, ← List.append_assoc, List.pairwise_append] at hpre
    have hlenM : (conM i l c).length = c := by simp [conM]
    obtain ⟨m', g1, g2⟩ := ins_step hI (c := conOf i l c) (fun y hy => hpre.2.2 y hy _ (by simp)) (by rw [List.length_append]; omega)
    refine ⟨(m', ((c + 1 : Nat) : Int)), ?_, m', rfl, by rw [conM_succ, ← List.append_assoc]; exact g2⟩
    unfold conOf at g1
    rw [getD_of hc1, getD_of (show c < l.length by omega)] at g1
    simp only [e1, decide_eq_true (show ((c + 1 : Nat) : Int) < (l.length : Int) by omega), cond_true, Bool.not_false, idx_at hc1, idx_at (show c < l.length by omega), Option.bind_some]
    erw [g1]
    rfl
  · rintro s ⟨m, rfl, hI⟩
    refine ⟨m, ?_, hI⟩
    have e1 : IntKind.wrap .i64 (((l.length - 1 : Nat) : Int) + 1) = (l.length : Int) := by rw [wrap_i64 (by omega) (by omega)]; omega
    simp only [e1, nlt_dec, cond_false, Option.bind_some]

theorem listR_val {n : NetT} (hS : Sound n) (hn : n.2.2.1.length ≤ 40) {r : Int × Int × Int} (hr : F_ref26_Check n = some r) (h0 : r.2.2 = 0) : ∃ m, F_ref28_List n = some (m, 0) ∧ Ins (conA n n.2.2.1.length) m := by
  have key : ∃ z : List ConnT × Int, F_ref28_List n = some z ∧ z.2 = 0 ∧ Ins (conA n n.2.2.1.length) z.1 := by
    unfold F_ref28_List F_ref26_Valid
    rw [hr]
    simp only [Option.bind_some, h0, decide_true, Bool.not_true, cond_false]
    refine bind_some_iff (fun m => Ins (conA n n.2.2.1.length) m) (run_for n.2.2.1.length _ (fun i (s : List ConnT × Int) => ∃ m, s = (m, (i : Int)) ∧ Ins (conA n i) m) ?_ ?_ _ ⟨[], rfl, by simp [conA], by simp⟩) (fun m hm => ⟨_, rfl, rfl, hm⟩)
    · rintro i s hi ⟨m, rfl, hI⟩
      left
      simp only [lt_dec hi, cond_true, idx_at hi, Option.bind_some, wrap_succ hi (show n.2.2.1.length ≤ 9223372036854775807 by omega)]
      cases hc : (n.2.2.1[i]).2.2.2.2.2.2.1 with
      | true =>
        have hx := List.getElem_mem hi
        have hm := hS.many _ hx
        rw [run_inr (r := m) (by
          simp only [Bool.not_true]
          cases decide (IntKind.wrap .i64 ((0 : Int) + 1) < (((n.2.2.1[i]).2.2.2.2.2.2.2.1.length : Nat) : Int)) <;> rfl)]
        refine ⟨_, rfl, m, rfl, ?_⟩
        rw [conA_succ, getD_of hi]
        unfold conR
        rw [if_pos hc, List.append_nil]
        exact hI
      | false =>
        obtain ⟨m', h1, h2⟩ := innerR_val hS hi hn hc hI
        rw [hc] at h1
        rw [h1]
        exact ⟨_, rfl, m', rfl, h2⟩
    · rintro s ⟨m, rfl, hI⟩
      refine ⟨m, ?_, hI⟩
      simp only [nlt_dec, cond_false]
  obtain ⟨⟨m, e⟩, h1, rfl, h2⟩ := key
  exact ⟨m, h1, h2⟩

theorem lists (n : NetT) (h : Good Y31 n) : F_law28_ConnectionLists n = some true := by
  unfold F_law28_ConnectionLists
  obtain ⟨v, hb1, hb2⟩ := large_val n
  rw [hb1, example_true]
  simp only [Option.bind_some]
  cases v with
  | true => rfl
  | false =>
  obtain ⟨h1, h2⟩ := hb2 rfl
  have hf := fit_of h (by omega)
  obtain ⟨r, r1, r2, r3, r4⟩ := list_val hf
  simp only [cond_false]
  by_cases hr : r.2.2 = 0
  case neg =>
    rw [r3 hr]
    have e : F_ref28_List n = some ([], 21) := by
      unfold F_ref28_List F_ref26_Valid
      rw [r2]
      simp only [Option.bind_some, decide_eq_false hr, Bool.not_false, cond_true]
    rw [e]
    simp only [Option.bind_some]
    rw [same_val [] (by simp)]
    rfl
  obtain ⟨hS, ys, g1, g2, g3⟩ := r4 hr
  obtain ⟨m, m1, m2, m3⟩ := listR_val hS h1 r2 hr
  have hlen := conA_len hS _ (Nat.le_refl _)
  have hml : m.length ≤ 9223372036854775807 := by rw [m2.length_eq]; omega
  have e : ys = m := List.Perm.eq_of_pairwise (le := ltC) (fun a b _ _ h2 h3 => absurd (ltC_tr h2 h3) (ltC_irr a)) g3 m3 (g2.trans m2.symm)
  rw [g1, m1, e]
  simp only [Option.bind_some]
  rw [same_val m hml]
  rfl

theorem listsP (x : ElPs F_law28_ConnectionListsA) (hx : GoodPs F_law28_ConnectionListsA x) : F_law28_ConnectionLists x.1 = some true := lists x.1 hx.1
end Q
