/- Chapter 28 in plain Lean. -/
import Derived.Test.YtjnbpdkoeojgiaaTsH
import Derived.Test.YtjnbpdkoeojgiaaLwJb28
import Derived.Test.YtjnbpdkoeojgiaaTtA
import Derived.Test.YtjnbpdkoeojgiaaTsF

/-! Loops in plain Lean: with an invariant by rounds, and halving. Conditions: those of the theorems. -/
namespace Q
open Tr Go

theorem run_for {σ τ : Type} {step : σ → Option (σ ⊕ τ)} (n : Nat) (P : τ → Prop) (Inv : Nat → σ → Prop)
    (hstep : ∀ i s, i < n → Inv i s → (∃ s', step s = some (.inl s') ∧ Inv (i + 1) s') ∨ ∃ r, step s = some (.inr r) ∧ P r)
    (hend : ∀ s, Inv n s → ∃ r, step s = some (.inr r) ∧ P r) (s : σ) (h0 : Inv 0 s) : ∃ r, run step s = some r ∧ P r := by
  have key : ∀ (k i : Nat) (s : σ), n - i = k → i ≤ n → Inv i s → ∃ r, run step s = some r ∧ P r := by
    intro k
    induction k with
    | zero =>
      intro i s hk hi hs
      have : i = n := by omega
      subst this
      obtain ⟨r, h1, h2⟩ := hend s hs
      exact ⟨r, run_inr h1, h2⟩
    | succ k ih =>
      intro i s hk hi hs
      rcases hstep i s (by omega) hs with ⟨s', h1, h2⟩ | ⟨r, h1, h2⟩
      · rw [run_inl h1]
        exact ih (i + 1) s' (by omega) (by omega) h2
      · exact ⟨r, run_inr h1, h2⟩
  exact key n 0 s (by omega) (by omega) h0

theorem bind_of {α β : Type} {o : Option α} {f : α → Option β} {z : Option β} (P : α → Prop) (h : ∃ r, o = some r ∧ P r) (k : ∀ r, P r → f r = z) : Option.bind o f = z := by
  obtain ⟨r, rfl, hr⟩ := h
  exact k r hr

/-- The same for one round of an outer loop. -/
theorem bind_ex {α β γ : Type} {o : Option α} {f : α → Option (β ⊕ γ)} {Q : β → Prop} (P : α → Prop) (h : ∃ r, o = some r ∧ P r) (k : ∀ r, P r → ∃ s, f r = some (.inl s) ∧ Q s) : ∃ s, Option.bind o f = some (.inl s) ∧ Q s := by
  obtain ⟨r, rfl, hr⟩ := h
  exact k r hr

/-- Halving: the number of places for which the condition holds. -/
theorem run_half {step : Int × Int → Option ((Int × Int) ⊕ Int)} {n k : Nat} (hk : k ≤ n)
    (hstep : ∀ lo hi : Nat, lo < hi → hi ≤ n → step ((lo : Int), (hi : Int)) = some (.inl (if lo + (hi - lo) / 2 < k then (((lo + (hi - lo) / 2 + 1 : Nat) : Int), (hi : Int)) else ((lo : Int), ((lo + (hi - lo) / 2 : Nat) : Int)))))
    (hend : ∀ lo : Nat, step ((lo : Int), (lo : Int)) = some (.inr (lo : Int))) : run step ((0 : Int), (n : Int)) = some (k : Int) := by
  have key : ∀ (m lo hi : Nat), hi - lo = m → lo ≤ k → k ≤ hi → hi ≤ n → run step ((lo : Int), (hi : Int)) = some (k : Int) := by
    intro m
    induction m using Nat.strongRecOn with
    | _ m ih =>
      intro lo hi hm h1 h2 h3
      by_cases hlt : lo < hi
      · rw [run_inl (hstep lo hi hlt h3)]
        split
        · exact ih (hi - (lo + (hi - lo) / 2 + 1)) (by omega) _ _ rfl (by omega) h2 h3
        · exact ih ((lo + (hi - lo) / 2) - lo) (by omega) _ _ rfl h1 (by omega) (by omega)
      · have : lo = hi := by omega
        subst this
        have : lo = k := by omega
        subst this
        exact run_inr (hend lo)
  exact key (n - 0) 0 n rfl (Nat.zero_le _) hk (Nat.le_refl _)

/-- The middle, as the machine reckons it. -/
theorem mid_val {lo hi : Nat} (h : lo ≤ hi) (hn : hi ≤ 4611686018427387904) :
    IntKind.wrap .i64 ((lo : Int) + IntKind.wrap .i64 (Int.tdiv (IntKind.wrap .i64 ((hi : Int) - (lo : Int))) 2)) = ((lo + (hi - lo) / 2 : Nat) : Int) := by
  have e1 : IntKind.wrap .i64 ((hi : Int) - (lo : Int)) = ((hi - lo : Nat) : Int) := by rw [wrap_i64 (by omega) (by omega)]; omega
  have e2 : Int.tdiv ((hi - lo : Nat) : Int) 2 = (((hi - lo) / 2 : Nat) : Int) := by
    rw [Int.tdiv_eq_ediv_of_nonneg (by omega)]; omega
  rw [e1, e2, wrap_i64 (x := (((hi - lo) / 2 : Nat) : Int)) (by omega) (by omega), wrap_i64 (by omega) (by omega)]
  omega
end Q

/-! Chapter 28: the list of connections is the sorted list of all pairs of calls. Conditions: a network without fault, at most 1024 runs. -/
namespace Q
open Tr Go

abbrev ConnT := Int × Int × Int × Int × Int × Int × Unit
def cmp4 (a b : ConnT) : Int :=
  if a.2.2.2.2.1 < b.2.2.2.2.1 then -1 else if b.2.2.2.2.1 < a.2.2.2.2.1 then 1 else
  if a.2.2.2.2.2.1 < b.2.2.2.2.2.1 then -1 else if b.2.2.2.2.2.1 < a.2.2.2.2.2.1 then 1 else
  if a.1 < b.1 then -1 else if b.1 < a.1 then 1 else
  if a.2.1 < b.2.1 then -1 else if b.2.1 < a.2.1 then 1 else 0
def ltC (a b : ConnT) : Prop := a.2.2.2.2.1 < b.2.2.2.2.1 ∨ (a.2.2.2.2.1 = b.2.2.2.2.1 ∧ (a.2.2.2.2.2.1 < b.2.2.2.2.2.1 ∨ (a.2.2.2.2.2.1 = b.2.2.2.2.2.1 ∧ (a.1 < b.1 ∨ (a.1 = b.1 ∧ a.2.1 < b.2.1)))))

theorem cmp4_lt (a b : ConnT) : cmp4 a b < 0 ↔ ltC a b := by
  unfold cmp4 ltC
  (repeat' split) <;> omega
theorem cmp4_pos (a b : ConnT) : 0 < cmp4 a b ↔ ltC b a := by
  unfold cmp4 ltC
  (repeat' split) <;> omega
theorem cmp4_one {a b : ConnT} (h : ltC a b) : cmp4 a b = -1 := by
  unfold ltC at h
  unfold cmp4
  (repeat' split) <;> omega

theorem dec_ite {α : Type} (p : Prop) [Decidable p] (x y : α) : (bif decide p then x else y) = if p then x else y := by
  by_cases h : p <;> simp [h]

theorem compare_val (a b : ConnT) : F_connection_Compare a b = some (cmp4 a b) := by
  unfold F_connection_Compare cmp4
  have w1 : IntKind.wrap .i64 (0 + 1 : Int) = 1 := by decide
  have w2 : IntKind.wrap .i64 (1 + 1 : Int) = 2 := by decide
  have w3 : IntKind.wrap .i64 (2 + 1 : Int) = 3 := by decide
  have w4 : IntKind.wrap .i64 (3 + 1 : Int) = 4 := by decide
  simp only [dec_ite]
  rw [run_unfold]
  simp only [show (0 : Int) < 4 by decide, if_true, idx, show (0 : Int) ≤ 0 by decide, Int.toNat_zero, List.getElem?_cons_zero, Option.bind_some, Int.toNat_one, List.getElem?_cons_succ, w1]
  by_cases h1 : a.2.2.2.2.1 < b.2.2.2.2.1
  · simp [h1]
  by_cases h2 : b.2.2.2.2.1 < a.2.2.2.2.1
  · simp [h1, h2]
  simp only [h1, h2, if_false, Option.bind_some, Sum.elim_inl]
  rw [run_unfold]
  simp only [show (1 : Int) < 4 by decide, if_true, show (0 : Int) ≤ 1 by decide, List.getElem?_cons_zero, Option.bind_some, Int.toNat_one, List.getElem?_cons_succ, w2]
  by_cases h3 : a.2.2.2.2.2.1 < b.2.2.2.2.2.1
  · simp [h3]
  by_cases h4 : b.2.2.2.2.2.1 < a.2.2.2.2.2.1
  · simp [h3, h4]
  simp only [h3, h4, if_false, Option.bind_some, Sum.elim_inl]
  rw [run_unfold]
  simp only [show (2 : Int) < 4 by decide, if_true, show (0 : Int) ≤ 2 by decide, List.getElem?_cons_zero, Option.bind_some, show Int.toNat 2 = 2 by decide, List.getElem?_cons_succ, w3]
  by_cases h5 : a.1 < b.1
  · simp [h5]
  by_cases h6 : b.1 < a.1
  · simp [h5, h6]
  simp only [h5, h6, if_false, Option.bind_some, Sum.elim_inl]
  rw [run_unfold]
  simp only [show (3 : Int) < 4 by decide, if_true, show (0 : Int) ≤ 3 by decide, List.getElem?_cons_zero, Option.bind_some, show Int.toNat 3 = 3 by decide, List.getElem?_cons_succ, w4]
  by_cases h7 : a.2.1 < b.2.1
  · simp [h7]
  by_cases h8 : b.2.1 < a.2.1
  · simp [h7, h8]
  simp only [h7, h8, if_false, Option.bind_some, Sum.elim_inl]
  rw [run_unfold]
  simp

/-! ### All pairs of calls -/
def conOf (i : Nat) (l : List CallT) (c : Nat) : ConnT := ((i : Int), (c : Int), ((l[c]?).getD c0).1, ((l[c + 1]?).getD c0).1, ((l[c]?).getD c0).2.2.1, ((l[c + 1]?).getD c0).2.1, ())
def conM (i : Nat) (l : List CallT) (m : Nat) : List ConnT := (List.range m).map (conOf i l)
def conR (i : Nat) (x : RunT) : List ConnT := if x.2.2.2.2.2.2.1 = true then [] else conM i x.2.2.2.2.2.2.2.1 (x.2.2.2.2.2.2.2.1.length - 1)
def conA (n : NetT) (k : Nat) : List ConnT := (List.range k).flatMap fun i => conR i ((n.2.2.1[i]?).getD u0)

theorem conM_succ (i : Nat) (l : List CallT) (m : Nat) : conM i l (m + 1) = conM i l m ++ [conOf i l m] := by
  unfold conM
  rw [List.range_succ, List.map_append]; rfl
theorem conA_succ (n : NetT) (k : Nat) : conA n (k + 1) = conA n k ++ conR k ((n.2.2.1[k]?).getD u0) := by
  unfold conA
  rw [List.range_succ, List.flatMap_append]; simp

theorem conR_mem {i : Nat} {x : RunT} {c : ConnT} (h : c ∈ conR i x) : x.2.2.2.2.2.2.1 = false ∧ ∃ k, k + 1 < x.2.2.2.2.2.2.2.1.length ∧ c = conOf i x.2.2.2.2.2.2.2.1 k := by
  unfold conR at h
  split at h
  · simp at h
  · next hc =>
    unfold conM at h
    obtain ⟨k, hk, rfl⟩ := List.mem_map.1 h
    rw [List.mem_range] at hk
    exact ⟨by simpa using hc, k, by omega, rfl⟩

theorem conR_len {i : Nat} {x : RunT} (h : x.2.2.2.2.2.2.2.1.length ≤ 32) : (conR i x).length ≤ 31 := by
  unfold conR
  split
  · simp
  · simp [conM]; omega

theorem getD_mem {α : Type} {l : List α} {i : Nat} (h : i < l.length) (d : α) : (l[i]?).getD d ∈ l := by
  rw [List.getElem?_eq_getElem h]; exact List.getElem_mem h

theorem conA_len {n : NetT} (h : Sound n) : ∀ k, k ≤ n.2.2.1.length → (conA n k).length ≤ 31 * k
  | 0, _ => by simp [conA]
  | k + 1, hk => by
    rw [conA_succ, List.length_append]
    have := conA_len h k (by omega)
    have := conR_len (i := k) (h.many _ (getD_mem (show k < n.2.2.1.length by omega) u0)).2
    omega

/-- The connections of one run come in the order of its calls. -/
theorem conR_lt {i : Nat} {x : RunT} (h : TimeP x.2.2.2.2.2.2.2.1) : (conR i x).Pairwise ltC := by
  unfold conR
  split
  · exact .nil
  · unfold conM
    rw [List.pairwise_map]
    refine List.Pairwise.imp_of_mem ?_ List.pairwise_lt_range
    intro a b ha hb hab
    rw [List.mem_range] at ha hb
    generalize hl : x.2.2.2.2.2.2.2.1 = l at *
    have step : ∀ k (hk : k + 1 < l.length), ((l[k]?).getD c0).2.2.1 ≤ ((l[k + 1]?).getD c0).2.1 ∧ ((l[k + 1]?).getD c0).2.1 ≤ ((l[k + 1]?).getD c0).2.2.1 := by
      intro k hk
      have t := h (k + 1) hk
      have t2 := t.2.2.2 (by omega)
      rw [getD_of hk, getD_of (show k < l.length by omega)]
      have e : l[k + 1 - 1]'(by omega) = l[k] := rfl
      rw [e] at t2
      exact ⟨t2.2, t.2.1⟩
    have mono : ∀ d k, k + d + 1 < l.length → ((l[k]?).getD c0).2.2.1 ≤ ((l[k + d]?).getD c0).2.2.1 ∧ ((l[k + 1]?).getD c0).2.1 ≤ ((l[k + d + 1]?).getD c0).2.1 := by
      intro d
      induction d with
      | zero => exact fun k hk => ⟨Int.le_refl _, Int.le_refl _⟩
      | succ d ih =>
        intro k hk
        have h1 := ih k (by omega)
        have h2 := step (k + d) (by omega)
        have h3 := step (k + d + 1) (by omega)
        refine ⟨?_, ?_⟩
        · show _ ≤ ((l[k + d + 1]?).getD c0).2.2.1
          omega
        · show _ ≤ ((l[k + d + 1 + 1]?).getD c0).2.1
          omega
    have m := mono (b - a) a (by omega)
    rw [show a + (b - a) = b by omega] at m
    show ((l[a]?).getD c0).2.2.1 < ((l[b]?).getD c0).2.2.1 ∨ (((l[a]?).getD c0).2.2.1 = ((l[b]?).getD c0).2.2.1 ∧ (((l[a + 1]?).getD c0).2.1 < ((l[b + 1]?).getD c0).2.1 ∨ (((l[a + 1]?).getD c0).2.1 = ((l[b + 1]?).getD c0).2.1 ∧ ((i : Int) < (i : Int) ∨ ((i : Int) = (i : Int) ∧ (a : Int) < (b : Int))))))
    obtain ⟨m1, m2⟩ := m
    generalize ((l[a]?).getD c0).2.2.1 = w1 at *
    generalize ((l[b]?).getD c0).2.2.1 = w2 at *
    generalize ((l[a + 1]?).getD c0).2.1 = w3 at *
    generalize ((l[b + 1]?).getD c0).2.1 = w4 at *
    omega

theorem conA_told {n : NetT} (h : Sound n) : ∀ k, k ≤ n.2.2.1.length → (conA n k).Pairwise fun a b => ltC a b ∨ ltC b a := by
  intro k hk
  unfold conA
  rw [List.pairwise_flatMap]
  refine ⟨fun i hi => ?_, ?_⟩
  · rw [List.mem_range] at hi
    exact (conR_lt (h.time _ (getD_mem (show i < n.2.2.1.length by omega) u0))).imp fun h => .inl h
  · refine List.Pairwise.imp ?_ List.pairwise_lt_range
    intro a b hab x hx y hy
    obtain ⟨_, p, _, rfl⟩ := conR_mem hx
    obtain ⟨_, q, _, rfl⟩ := conR_mem hy
    have key : ∀ u v : ConnT, u.1 < v.1 → ltC u v ∨ ltC v u := fun u v h => by unfold ltC; omega
    exact key _ _ (show ((a : Nat) : Int) < ((b : Nat) : Int) by omega)

theorem ltC_irr (a : ConnT) : ¬ ltC a a := by unfold ltC; omega
theorem ltC_tr {a b c : ConnT} (h1 : ltC a b) (h2 : ltC b c) : ltC a c := by unfold ltC at *; omega
end Q

/-! Chapter 28: what List answers. Conditions: a network that fits, at most 1024 runs. -/
namespace Q
open Tr Go

theorem of_ex {α : Type} {o : Option α} {z : α} (h : ∃ r, o = some r ∧ r = z) : o = some z := by
  obtain ⟨r, rfl, rfl⟩ := h; rfl

theorem inner_val {n : NetT} {i : Nat} {x : RunT} (hl : x.2.2.2.2.2.2.2.1.length ≤ 32) (h1 : 1 ≤ x.2.2.2.2.2.2.2.1.length) {out : List ConnT} (ho : out.length ≤ 100000) :
    Tr.run
 (fun s3 : List ConnT × Int =>
 bif decide (s3.2 < IntKind.wrap .i64 ((↑(List.length x.2.2.2.2.2.2.2.1) : Int) - (1 : Int))) then
 Option.bind (idx x.2.2.2.2.2.2.2.1 s3.2) fun x4 =>
 Option.bind (idx x.2.2.2.2.2.2.2.1 (IntKind.wrap .i64 (s3.2 + (1 : Int)))) fun x5 =>
 Option.bind (guardB (decide (List.length s3.1 + List.length [((i : Int), s3.2, x4.1, x5.1, x4.2.2.1, x5.2.1, ())] ≤ maxApp))) fun _ =>
 some (.inl (s3.1 ++ [((i : Int), s3.2, x4.1, x5.1, x4.2.2.1, x5.2.1, ())], IntKind.wrap .i64 (s3.2 + (1 : Int))))
 else some (.inr s3.1))
 (out, (0 : Int)) = some (out ++ conM i x.2.2.2.2.2.2.2.1 (x.2.2.2.2.2.2.2.1.length - 1)) := by
  generalize x.2.2.2.2.2.2.2.1 = l at *
  have e0 : IntKind.wrap .i64 ((l.length : Int) - 1) = ((l.length - 1 : Nat) : Int) := by rw [wrap_i64 (by omega) (by omega)]; omega
  refine of_ex (run_for (l.length - 1) _ (fun c (s : List ConnT × Int) => s = (out ++ conM i l c, (c : Int))) ?_ ?_ _ (by simp [conM]))
  · rintro c s hc rfl
    left
    have hc1 : c + 1 < l.length := by omega
    refine ⟨(out ++ conM i l (c + 1), ((c + 1 : Nat) : Int)), ?_, rfl⟩
    simp only [e0, lt_dec hc, cond_true, idx_nat (show c < l.length by omega), Option.bind_some, wrap_succ hc (show l.length - 1 ≤ 9223372036854775807 by omega), idx_nat hc1]
    rw [guard_app (by have : (conM i l c).length = c := by simp [conM]
                      simp; omega)]
    simp only [Option.bind_some, conM_succ, conOf, getD_of hc1, getD_of (show c < l.length by omega), List.append_assoc]
  · rintro s rfl
    refine ⟨_, ?_, rfl⟩
    simp only [e0, nlt_dec, cond_false]

theorem conA_mem {n : NetT} {c : ConnT} (h : c ∈ conA n n.2.2.1.length) : ∃ i, ∃ hi : i < n.2.2.1.length, (n.2.2.1[i]).2.2.2.2.2.2.1 = false ∧ ∃ k, k + 1 < (n.2.2.1[i]).2.2.2.2.2.2.2.1.length ∧ c = conOf i (n.2.2.1[i]).2.2.2.2.2.2.2.1 k := by
  unfold conA at h
  obtain ⟨i, hi, hc⟩ := List.mem_flatMap.1 h
  rw [List.mem_range] at hi
  rw [getD_of hi] at hc
  exact ⟨i, hi, conR_mem hc⟩

theorem list_val {n : NetT} (hf : Fit n) : ∃ r, F_network_Check n = some r ∧ F_ref26_Check n = some r ∧ (r.2.2 ≠ 0 → F_connection_List n = some ([], 21)) ∧
    (r.2.2 = 0 → Sound n ∧ ∃ ys : List ConnT, F_connection_List n = some (ys, 0) ∧ ys.Perm (conA n n.2.2.1.length) ∧ ys.Pairwise ltC) := by
  obtain ⟨r, h1, h2, h3⟩ := check_same n hf
  refine ⟨r, h1, h2, fun hr => ?_, fun hr => ?_⟩
  · unfold F_connection_List
    rw [h1]
    simp only [Option.bind_some, decide_eq_false hr, Bool.not_false, cond_true]
  · have hS := h3 hr
    refine ⟨hS, ?_⟩
    have hlen := hS.runs
    have hcl := conA_len hS
    obtain ⟨ys, g1, g2, g3⟩ := sortF_val (cmp := F_connection_Compare) ltC (conA n n.2.2.1.length) (by have := hcl _ (Nat.le_refl _); omega) (fun x _ y _ => ⟨_, compare_val x y, cmp4_lt x y, cmp4_pos x y⟩) (fun x _ => ltC_irr x) (fun a _ b _ c _ => ltC_tr) (conA_told hS _ (Nat.le_refl _))
    refine ⟨ys, ?_, g2, g3⟩
    unfold F_connection_List
    rw [h1]
    simp only [Option.bind_some, hr, decide_true, Bool.not_true, cond_false]
    refine bind_of (fun r => r = conA n n.2.2.1.length) (run_for n.2.2.1.length _ (fun i (s : List ConnT × Int) => s = (conA n i, (i : Int))) ?_ ?_ _ (by simp [conA])) ?_
    · rintro i s hi rfl
      left
      have hx := List.getElem_mem hi
      refine ⟨(conA n (i + 1), ((i + 1 : Nat) : Int)), ?_, rfl⟩
      have hlen2 := hcl i (by omega)
      simp only [lt_dec hi, cond_true, idx_nat hi, Option.bind_some, wrap_succ hi (show n.2.2.1.length ≤ 9223372036854775807 by omega), conA_succ, getD_of hi, conR]
      cases hc : (n.2.2.1[i]).2.2.2.2.2.2.1 with
      | true => simp only [cond_true, if_true, List.append_nil]
      | false =>
        simp only [cond_false, Bool.false_eq_true, if_false]
        rw [inner_val (n := n) (hS.many _ hx).2 (by have := (hS.many _ hx).1; omega) (by omega)]
        rfl
    · rintro s rfl
      refine ⟨_, ?_, rfl⟩
      simp only [nlt_dec, cond_false]
    · rintro _ rfl
      unfold F_slices_SortFunc_api_Connection_api_Connection_X_connection_Compare
      rw [g1]
      rfl
end Q

/-! Chapter 28: the law of the order. Conditions: texts and lists as a machine can hold them. -/
namespace Q
open Tr Go

theorem filt_run {n : NetT} {i k : Nat} : (conR k ((n.2.2.1[k]?).getD u0)).filter (fun c => decide (c.1 = (i : Int))) = if i = k then conR k ((n.2.2.1[k]?).getD u0) else [] := by
  by_cases h : i = k
  · subst h
    rw [if_pos rfl, List.filter_eq_self]
    intro c hc
    obtain ⟨_, q, _, rfl⟩ := conR_mem hc
    exact decide_eq_true (show ((i : Nat) : Int) = (i : Int) from rfl)
  · rw [if_neg h, List.filter_eq_nil_iff]
    intro c hc
    obtain ⟨_, q, _, rfl⟩ := conR_mem hc
    rw [decide_eq_true_eq]
    show ¬ ((k : Nat) : Int) = (i : Int)
    omega

theorem filt_all {n : NetT} {i : Nat} : ∀ k, (conA n k).filter (fun c => decide (c.1 = (i : Int))) = if i < k then conR i ((n.2.2.1[i]?).getD u0) else []
  | 0 => by simp [conA]
  | k + 1 => by
    rw [conA_succ, List.filter_append, filt_all k, filt_run]
    by_cases h1 : i < k
    · rw [if_pos h1, if_neg (by omega), if_pos (by omega), List.append_nil]
    · rw [if_neg h1]
      by_cases h2 : i = k
      · subst h2; rw [if_pos rfl, if_pos (by omega)]; rfl
      · rw [if_neg h2, if_neg (by omega)]; rfl

theorem filt_sorted {n : NetT} (hS : Sound n) {ys : List ConnT} (hp : ys.Perm (conA n n.2.2.1.length)) (hs : ys.Pairwise ltC) {i : Nat} (hi : i < n.2.2.1.length) :
    ys.filter (fun c => decide (c.1 = (i : Int))) = conR i n.2.2.1[i] := by
  have h1 := hp.filter (fun c => decide (c.1 = (i : Int)))
  rw [filt_all, if_pos hi, getD_of hi] at h1
  refine List.Perm.eq_of_pairwise (le := ltC) (fun a b _ _ h2 h3 => absurd (ltC_tr h2 h3) (ltC_irr a)) (hs.filter _) (conR_lt (hS.time _ (List.getElem_mem hi))) h1

def cnt (ys : List ConnT) (p i : Nat) : Nat := (ys.take p).countP fun c => decide (c.1 = (i : Int))
def nextL (N : Nat) (ys : List ConnT) (p : Nat) : List Int := (List.range N).map fun i => ((cnt ys p i : Nat) : Int)

theorem cnt_at {n : NetT} (hS : Sound n) {ys : List ConnT} (hp : ys.Perm (conA n n.2.2.1.length)) (hs : ys.Pairwise ltC) {p : Nat} (h : p < ys.length) :
    ∃ i, ∃ hi : i < n.2.2.1.length, (n.2.2.1[i]).2.2.2.2.2.2.1 = false ∧ cnt ys p i + 1 < (n.2.2.1[i]).2.2.2.2.2.2.2.1.length ∧ ys[p] = conOf i (n.2.2.1[i]).2.2.2.2.2.2.2.1 (cnt ys p i) := by
  obtain ⟨i, hi, hc, k, hk, he⟩ := conA_mem (hp.mem_iff.1 (List.getElem_mem h))
  have hf := filt_sorted hS hp hs hi
  have e : ys = ys.take p ++ ys[p] :: ys.drop (p + 1) := by
    rw [List.getElem_cons_drop, List.take_append_drop]
  have hd : decide ((ys[p]).1 = (i : Int)) = true := by rw [he]; exact decide_eq_true rfl
  have hk2 : cnt ys p i = k := by
    rw [e, List.filter_append, List.filter_cons, if_pos hd] at hf
    unfold conR conM at hf
    rw [if_neg (by rw [hc]; simp)] at hf
    have hl : ((ys.take p).filter fun c => decide (c.1 = (i : Int))).length = cnt ys p i := by unfold cnt; rw [List.countP_eq_length_filter]
    have hg := congrArg (fun l => l[cnt ys p i]?) hf
    rw [List.getElem?_append_right (by omega), hl, Nat.sub_self, List.getElem?_cons_zero, List.getElem?_map] at hg
    cases hr : (List.range ((n.2.2.1[i]).2.2.2.2.2.2.2.1.length - 1))[cnt ys p i]? with
    | none => rw [hr] at hg; cases hg
    | some q =>
      obtain ⟨hq1, hq2⟩ := List.getElem?_eq_some_iff.1 hr
      rw [List.getElem_range] at hq2
      subst hq2
      rw [hr] at hg
      simp only [Option.map_some, Option.some.injEq] at hg
      have h2 := congrArg (fun c : ConnT => c.2.1) (he.symm.trans hg)
      have h3 : ((k : Nat) : Int) = ((cnt ys p i : Nat) : Int) := h2
      omega
  subst hk2
  exact ⟨i, hi, hc, hk, he⟩

theorem cnt_succ {ys : List ConnT} {p : Nat} (h : p < ys.length) (i : Nat) : cnt ys (p + 1) i = cnt ys p i + if (ys[p]).1 = (i : Int) then 1 else 0 := by
  unfold cnt
  rw [List.take_succ_eq_append_getElem h, List.countP_append, List.countP_singleton]
  by_cases hc : (ys[p]).1 = (i : Int)
  · simp [hc]
  · simp [hc]

theorem next_set {ys : List ConnT} {p N i : Nat} (h : p < ys.length) (hi : i < N) (he : (ys[p]).1 = (i : Int)) : (nextL N ys p).set i ((cnt ys p i + 1 : Nat) : Int) = nextL N ys (p + 1) := by
  apply List.ext_getElem
  · simp [nextL]
  · intro j h1 h2
    have hj : j < N := by simpa [nextL] using h2
    rw [List.getElem_set]
    simp only [nextL, List.getElem_map, List.getElem_range]
    rw [cnt_succ h, he]
    by_cases hij : i = j
    · subst hij; simp
    · rw [if_neg hij, if_neg (by omega)]; rfl

theorem next_get {ys : List ConnT} {p N i : Nat} (hi : i < N) : (nextL N ys p)[i]? = some ((cnt ys p i : Nat) : Int) := by
  simp [nextL, hi]

theorem cnt_end {n : NetT} (hS : Sound n) {ys : List ConnT} (hp : ys.Perm (conA n n.2.2.1.length)) (hs : ys.Pairwise ltC) {i : Nat} (hi : i < n.2.2.1.length) (hc : (n.2.2.1[i]).2.2.2.2.2.2.1 = false) :
    cnt ys ys.length i = (n.2.2.1[i]).2.2.2.2.2.2.2.1.length - 1 := by
  unfold cnt
  rw [List.take_length, List.countP_eq_length_filter, filt_sorted hS hp hs hi]
  unfold conR conM
  rw [if_neg (by rw [hc]; simp)]
  simp
end Q

/-! Chapter 28: ConnectionOrder in plain Lean. Conditions: texts and lists as a machine can hold them. -/
namespace Q
open Tr Go

theorem example_true : F_law28_exampleHolds = some true := by kernel_rfl

theorem fit_of {n : NetT} (h : Good Y40 n) (hp : n.2.2.2.2.1.length ≤ 4096) : Fit n := by
  obtain ⟨⟨_, h1⟩, ⟨_, h2⟩, ⟨_, h3⟩, _, _, ⟨⟨_, h6⟩, _⟩, _⟩ := h
  refine ⟨fun x hx => ?_, fun x hx => ?_, fun x hx => ?_, fun x hx => ?_, hp, fun x hx => ?_⟩
  · exact (h1 x hx).1
  · exact (h2 x hx).1
  · exact (h3 x hx).2.2.2.1
  · exact (h3 x hx).2.2.2.2.2.2.2.1.1
  · exact (h6 x hx).1

theorem large_val (n : NetT) : ∃ b, F_ref28_Large n = some b ∧ (b = false → n.2.2.1.length ≤ 40 ∧ n.2.2.2.2.1.length ≤ 200) := by
  unfold F_ref28_Large
  by_cases h1 : (70 : Int) < (n.1.length : Int)
  · rw [decide_eq_true h1]; exact ⟨true, rfl, fun e => (nomatch e)⟩
  by_cases h2 : (70 : Int) < (n.2.1.length : Int)
  · rw [decide_eq_false h1, decide_eq_true h2]; exact ⟨true, rfl, fun e => (nomatch e)⟩
  by_cases h3 : (40 : Int) < (n.2.2.1.length : Int)
  · rw [decide_eq_false h1, decide_eq_false h2, decide_eq_true h3]; exact ⟨true, rfl, fun e => (nomatch e)⟩
  by_cases h4 : (60 : Int) < (n.2.2.2.1.length : Int)
  · rw [decide_eq_false h1, decide_eq_false h2, decide_eq_false h3, decide_eq_true h4]; exact ⟨true, rfl, fun e => (nomatch e)⟩
  by_cases h5 : (200 : Int) < (n.2.2.2.2.1.length : Int)
  · rw [decide_eq_false h1, decide_eq_false h2, decide_eq_false h3, decide_eq_false h4, decide_eq_true h5]; exact ⟨true, rfl, fun e => (nomatch e)⟩
  by_cases h6 : (20 : Int) < (n.2.2.2.2.2.1.1.length : Int)
  · rw [decide_eq_false h1, decide_eq_false h2, decide_eq_false h3, decide_eq_false h4, decide_eq_false h5, decide_eq_true h6]; exact ⟨true, rfl, fun e => (nomatch e)⟩
  rw [decide_eq_false h1, decide_eq_false h2, decide_eq_false h3, decide_eq_false h4, decide_eq_false h5, decide_eq_false h6]
  simp only [cond_false, Option.bind_some]
  have hl : n.2.2.1.length ≤ 9223372036854775807 := by omega
  rw [scan_run (n := n.2.2.1.length) (fun i (st : Int) => st = (i : Int)) (fun i => if 40 < ((n.2.2.1[i]?).getD u0).2.2.2.2.2.2.2.1.length then 1 else 0) (fun _ => .inr true) (.inl ()) ?_ ?_ ?_ (0 : Int) rfl]
  · unfold pick
    cases firstBad n.2.2.1.length (fun i => if 40 < ((n.2.2.1[i]?).getD u0).2.2.2.2.2.2.2.1.length then 1 else 0) with
    | none => exact ⟨false, rfl, fun _ => by omega⟩
    | some i => exact ⟨true, rfl, fun e => (nomatch e)⟩
  · rintro i _ hi rfl hc
    rw [getD_of hi] at hc
    split at hc
    · omega
    · next hh =>
      refine ⟨((i + 1 : Nat) : Int), ?_, rfl⟩
      simp only [lt_dec hi, cond_true, idx_nat hi, Option.bind_some, decide_eq_false (show ¬ (40 : Int) < ((n.2.2.1[i]).2.2.2.2.2.2.2.1.length : Int) by omega), cond_false, wrap_succ hi hl]
  · rintro i _ hi rfl hc
    rw [getD_of hi] at hc
    split at hc
    · next hh =>
      simp only [lt_dec hi, cond_true, idx_nat hi, Option.bind_some, decide_eq_true (show (40 : Int) < ((n.2.2.1[i]).2.2.2.2.2.2.2.1.length : Int) by omega)]
    · omega
  · rintro _ rfl
    simp only [nlt_dec, cond_false]

theorem strict_at {ys : List ConnT} (hs : ys.Pairwise ltC) {i j : Nat} (hij : i < j) (hj : j < ys.length) : ltC (ys[i]'(by omega)) ys[j] := List.pairwise_iff_getElem.1 hs i j (by omega) hj hij

theorem idx_at {α : Type} {l : List α} {i : Nat} (h : i < l.length) : Tr.idx l (i : Int) = some l[i] := idx_nat h

theorem orders (n : NetT) (h : Good Y40 n) : F_law28_ConnectionOrder n = some true := by
  unfold F_law28_ConnectionOrder
  obtain ⟨b, hb1, hb2⟩ := large_val n
  rw [hb1, example_true]
  simp only [Option.bind_some]
  cases b with
  | true => rfl
  | false =>
  obtain ⟨h1, h2⟩ := hb2 rfl
  have hf := fit_of h (by omega)
  obtain ⟨r, r1, r2, _, r4⟩ := list_val hf
  unfold F_ref26_Valid
  rw [r2]
  simp only [cond_false, Option.bind_some]
  by_cases hr : r.2.2 = 0
  case neg => rw [decide_eq_false hr]; rfl
  rw [decide_eq_true hr]
  obtain ⟨hS, ys, g1, g2, g3⟩ := r4 hr
  have hyl : ys.length ≤ 31 * n.2.2.1.length := by rw [g2.length_eq]; exact conA_len hS _ (Nat.le_refl _)
  rw [g1]
  simp only [Bool.not_true, cond_false, Option.bind_some, decide_true]
  rw [show decide ((0 : Int) ≤ (n.2.2.1.length : Int) ∧ (n.2.2.1.length : Int) ≤ (n.2.2.1.length : Int) ∧ (n.2.2.1.length : Int) ≤ (maxApp : Int)) = true from decide_eq_true ⟨by omega, by omega, by simp [maxApp]; omega⟩]
  simp only [guardB, cond_true, Option.bind_some]
  refine bind_of (fun r => r = .inl (nextL n.2.2.1.length ys ys.length)) (run_for ys.length _ (fun p (s : List Int × Int) => s = (nextL n.2.2.1.length ys p, (p : Int))) ?_ ?_ _ ?_) ?_
  · rintro p s hp rfl
    left
    refine ⟨(nextL n.2.2.1.length ys (p + 1), ((p + 1 : Nat) : Int)), ?_, rfl⟩
    obtain ⟨i, hi, hc, hk, he⟩ := cnt_at hS g2 g3 hp
    have hx := List.getElem_mem hi
    have ht := hS.time _ hx (cnt ys p i + 1) hk
    have htt : ((n.2.2.1[i]).2.2.2.2.2.2.2.1[cnt ys p i]'(by omega)).2.2.1 ≤ ((n.2.2.1[i]).2.2.2.2.2.2.2.1[cnt ys p i + 1]).2.1 := (ht.2.2.2 (by omega)).2
    have hset := next_set (N := n.2.2.1.length) hp hi (by rw [he]; rfl)
    have hin : Tr.inb (i : Int) (nextL n.2.2.1.length ys p).length = some i := inb_nat (by simp [nextL]; exact hi)
    have hbnd := (hS.many _ hx).2
    have hcmp : (bif decide ((0 : Int) < (p : Int)) then Option.bind (Tr.idx ys (IntKind.wrap .i64 ((p : Int) - 1))) fun x8 => Option.bind (F_connection_Compare x8 ys[p]) fun x9 => bif !decide (x9 = (-1 : Int)) then some true else some (decide ((ys[p]).2.2.2.2.2.1 < (ys[p]).2.2.2.2.1)) else some (decide ((ys[p]).2.2.2.2.2.1 < (ys[p]).2.2.2.2.1))) = some false := by
      have e : decide ((ys[p]).2.2.2.2.2.1 < (ys[p]).2.2.2.2.1) = false := by
        rw [he]
        refine decide_eq_false ?_
        show ¬ ((((n.2.2.1[i]).2.2.2.2.2.2.2.1)[cnt ys p i + 1]?).getD c0).2.1 < ((((n.2.2.1[i]).2.2.2.2.2.2.2.1)[cnt ys p i]?).getD c0).2.2.1
        rw [getD_of hk, getD_of (show cnt ys p i < _ by omega)]
        omega
      rw [e]
      by_cases h0 : 0 < p
      · have e1 : IntKind.wrap .i64 ((p : Int) - 1) = ((p - 1 : Nat) : Int) := by rw [wrap_i64 (by omega) (by omega)]; omega
        have hp' : p - 1 < ys.length := by omega
        rw [decide_eq_true (show (0 : Int) < (p : Int) by omega), e1, idx_at hp']
        simp only [cond_true, Option.bind_some, compare_val]
        rw [cmp4_one (strict_at g3 (show p - 1 < p by omega) hp)]
        rfl
      · rw [decide_eq_false (show ¬ (0 : Int) < (p : Int) by omega)]; rfl
    simp only [lt_dec hp, cond_true, idx_at hp, Option.bind_some]
    rw [hcmp]
    rw [he]
    simp only [Option.bind_some, cond_false, conOf, getD_of hk, getD_of (show cnt ys p i < (n.2.2.1[i]).2.2.2.2.2.2.2.1.length by omega), decide_eq_false (show ¬ ((i : Nat) : Int) < 0 by omega), decide_eq_false (show ¬ (n.2.2.1.length : Int) ≤ ((i : Nat) : Int) by omega), idx_at hi, hc, hin, next_get hi, decide_true, Bool.not_true]
    have e2 : IntKind.wrap .i64 (((cnt ys p i : Nat) : Int) + 1) = ((cnt ys p i + 1 : Nat) : Int) := by rw [wrap_i64 (by omega) (by omega)]; omega
    have e3 : IntKind.wrap .i64 ((p : Int) + 1) = ((p + 1 : Nat) : Int) := by rw [wrap_i64 (by omega) (by omega)]; omega
    simp only [e2, e3, decide_eq_false (show ¬ ((n.2.2.1[i]).2.2.2.2.2.2.2.1.length : Int) ≤ ((cnt ys p i + 1 : Nat) : Int) by omega), cond_false, idx_at hk, idx_at (show cnt ys p i < (n.2.2.1[i]).2.2.2.2.2.2.2.1.length by omega), Option.bind_some, decide_true, Bool.not_true, hset]
  · rintro s rfl
    refine ⟨_, ?_, rfl⟩
    simp only [nlt_dec, cond_false]
  · refine Prod.ext ?_ rfl
    show List.replicate (Int.toNat ((n.2.2.1.length : Nat) : Int)) (0 : Int) = nextL n.2.2.1.length ys 0
    apply List.ext_getElem
    · simp [nextL]
    · intro j h1 h2
      simp [nextL, cnt]
  · rintro _ rfl
    simp only [Sum.elim_inl]
    refine bind_of (fun r => r = .inl ()) (run_for n.2.2.1.length _ (fun i (s : Int) => s = (i : Int)) ?_ ?_ _ rfl) ?_
    · rintro i s hi rfl
      left
      refine ⟨((i + 1 : Nat) : Int), ?_, rfl⟩
      have hin : Tr.inb (i : Int) (nextL n.2.2.1.length ys ys.length).length = some i := inb_nat (by simp [nextL]; exact hi)
      have hx := List.getElem_mem hi
      have hbnd := hS.many _ hx
      simp only [lt_dec hi, cond_true, idx_at hi, Option.bind_some]
      cases hc : (n.2.2.1[i]).2.2.2.2.2.2.1 with
      | true =>
        simp only [Bool.not_true, cond_false, Option.bind_some, wrap_succ hi (show n.2.2.1.length ≤ 9223372036854775807 by omega)]
      | false =>
        have e1 : IntKind.wrap .i64 (((n.2.2.1[i]).2.2.2.2.2.2.2.1.length : Int) - 1) = (((n.2.2.1[i]).2.2.2.2.2.2.2.1.length - 1 : Nat) : Int) := by rw [wrap_i64 (by omega) (by omega)]; omega
        simp only [Bool.not_false, cond_true, hin, next_get hi, Option.bind_some, e1, cnt_end hS g2 g3 hi hc, decide_true, Bool.not_true, cond_false, wrap_succ hi (show n.2.2.1.length ≤ 9223372036854775807 by omega)]
    · rintro s rfl
      refine ⟨_, ?_, rfl⟩
      simp only [nlt_dec, cond_false]
    · rintro _ rfl
      rfl
end Q

/-! Chapter 28: ConnectionCuts in plain Lean. Conditions: texts and lists as a machine can hold them. -/
namespace Q
open Tr Go

theorem mono_cut (n : Nat) (p : Nat → Bool) (h : ∀ i j, i < j → j < n → p j = true → p i = true) : ∃ k, k ≤ n ∧ ∀ i, i < n → (p i = true ↔ i < k) := by
  induction n with
  | zero => exact ⟨0, Nat.le_refl _, fun i hi => by omega⟩
  | succ n ih =>
    obtain ⟨k, hk, h1⟩ := ih fun i j hij hj => h i j hij (by omega)
    cases hp : p n with
    | true =>
      refine ⟨n + 1, Nat.le_refl _, fun i hi => ⟨fun _ => hi, fun _ => ?_⟩⟩
      by_cases e : i = n
      · subst e; exact hp
      · exact h i n (by omega) (by omega) hp
    | false =>
      refine ⟨k, by omega, fun i hi => ?_⟩
      by_cases e : i = n
      · subst e; rw [hp]; constructor
        · intro h; exact absurd h (by decide)
        · intro h; omega
      · exact h1 i (by omega)

def depN (l : List ConnT) (i : Nat) : Int := ((l[i]?).getD (0, 0, 0, 0, 0, 0, ())).2.2.2.2.1

theorem dep_mono {ys : List ConnT} (hs : ys.Pairwise ltC) {i j : Nat} (hij : i < j) (hj : j < ys.length) : depN ys i ≤ depN ys j := by
  have h := strict_at hs hij hj
  unfold depN
  rw [getD_of hj, getD_of (show i < ys.length by omega)]
  unfold ltC at h
  omega

theorem mid2_val {lo hi : Nat} (h : lo < hi) (hn : hi ≤ 1000000) : IntKind.wrap .i64 (Int.tdiv (IntKind.wrap .i64 ((lo : Int) + (hi : Int))) (2 : Int)) = ((lo + (hi - lo) / 2 : Nat) : Int) := by
  have e1 : IntKind.wrap .i64 ((lo : Int) + (hi : Int)) = ((lo + hi : Nat) : Int) := by rw [wrap_i64 (by omega) (by omega)]; omega
  rw [e1, Int.tdiv_eq_ediv_of_nonneg (by omega), wrap_i64 (by omega) (by omega)]
  omega

theorem from_val {ys : List ConnT} (hs : ys.Pairwise ltC) (hl : ys.length ≤ 1000000) (t : Int) : ∃ k, k ≤ ys.length ∧ F_connection_From ys t = some (k : Int) ∧ ∀ i, i < ys.length → (depN ys i < t ↔ i < k) := by
  obtain ⟨k, hk, h1⟩ := mono_cut ys.length (fun i => decide (depN ys i < t)) fun i j hij hj hp => by
    have := dep_mono hs hij hj
    simp only [decide_eq_true_eq] at hp ⊢
    omega
  simp only [decide_eq_true_eq] at h1
  refine ⟨k, hk, ?_, h1⟩
  unfold F_connection_From F_connection_first_X_connection_From_1
  simp only
  rw [run_half hk]
  · rfl
  · intro lo hi hlt hhi
    have hm : lo + (hi - lo) / 2 < ys.length := by omega
    have hd := h1 _ hm
    unfold depN at hd
    rw [getD_of hm] at hd
    simp only [decide_eq_true (show (lo : Int) < (hi : Int) by omega), cond_true, mid2_val hlt (by omega), F_connection_From_1, idx_at hm, Option.bind_some]
    by_cases hc : lo + (hi - lo) / 2 < k
    · rw [if_pos hc, decide_eq_false (Int.not_le.2 (hd.2 hc))]
      simp only [cond_false]
      rw [wrap_succ hm (by omega)]
    · rw [if_neg hc, decide_eq_true (Int.not_lt.1 (mt hd.1 hc))]
      rfl
  · intro lo
    simp only [nlt_dec, cond_false]

theorem until_val {ys : List ConnT} (hs : ys.Pairwise ltC) (hl : ys.length ≤ 1000000) (t : Int) : ∃ k, k ≤ ys.length ∧ F_connection_Until ys t = some (k : Int) ∧ ∀ i, i < ys.length → (depN ys i ≤ t ↔ i < k) := by
  obtain ⟨k, hk, h1⟩ := mono_cut ys.length (fun i => decide (depN ys i ≤ t)) fun i j hij hj hp => by
    have := dep_mono hs hij hj
    simp only [decide_eq_true_eq] at hp ⊢
    omega
  simp only [decide_eq_true_eq] at h1
  refine ⟨k, hk, ?_, h1⟩
  unfold F_connection_Until F_connection_first_X_connection_Until_1
  simp only
  rw [run_half hk]
  · rfl
  · intro lo hi hlt hhi
    have hm : lo + (hi - lo) / 2 < ys.length := by omega
    have hd := h1 _ hm
    unfold depN at hd
    rw [getD_of hm] at hd
    simp only [decide_eq_true (show (lo : Int) < (hi : Int) by omega), cond_true, mid2_val hlt (by omega), F_connection_Until_1, idx_at hm, Option.bind_some]
    by_cases hc : lo + (hi - lo) / 2 < k
    · rw [if_pos hc, decide_eq_false (Int.not_lt.2 (hd.2 hc))]
      simp only [cond_false]
      rw [wrap_succ hm (by omega)]
    · rw [if_neg hc, decide_eq_true (Int.not_le.1 (mt hd.1 hc))]
      rfl
  · intro lo
    simp only [nlt_dec, cond_false]

theorem cut_le {n k1 k2 : Nat} {P R : Nat → Prop} (h1 : ∀ i, i < n → (P i ↔ i < k1)) (h2 : ∀ i, i < n → (R i ↔ i < k2)) (hk : k1 ≤ n) (hPR : ∀ i, P i → R i) : k1 ≤ k2 := by
  by_cases h : k1 ≤ k2
  · exact h
  · exact absurd ((h2 k2 (by omega)).1 (hPR _ ((h1 k2 (by omega)).2 (by omega)))) (by omega)

theorem cuts (n : NetT) (a b : Int) (h : Good Y40 n) : F_law28_ConnectionCuts n a b = some true := by
  unfold F_law28_ConnectionCuts
  obtain ⟨v, hb1, hb2⟩ := large_val n
  rw [hb1, example_true]
  simp only [Option.bind_some]
  cases v with
  | true => rfl
  | false =>
  obtain ⟨h1, h2⟩ := hb2 rfl
  have hf := fit_of h (by omega)
  obtain ⟨r, r1, r2, _, r4⟩ := list_val hf
  unfold F_ref26_Valid
  rw [r2]
  simp only [cond_false, Option.bind_some]
  by_cases hr : r.2.2 = 0
  case neg => rw [decide_eq_false hr]; rfl
  rw [decide_eq_true hr]
  obtain ⟨hS, ys, g1, g2, g3⟩ := r4 hr
  have hyl : ys.length ≤ 31 * n.2.2.1.length := by rw [g2.length_eq]; exact conA_len hS _ (Nat.le_refl _)
  rw [g1]
  simp only [Bool.not_true, cond_false, Option.bind_some]
  have hlh : Tr.imin a b ≤ Tr.imax a b := by unfold Tr.imin Tr.imax; split <;> split <;> omega
  generalize Tr.imin a b = lo at *
  generalize Tr.imax a b = hi at *
  obtain ⟨i, i1, i2, i3⟩ := from_val g3 (by omega) lo
  obtain ⟨k, k1, k2, k3⟩ := until_val g3 (by omega) hi
  obtain ⟨i', j1, j2, j3⟩ := from_val g3 (by omega) hi
  obtain ⟨k', l1, l2, l3⟩ := until_val g3 (by omega) lo
  rw [i2, k2, j2, l2]
  have q1 : i ≤ k := cut_le i3 k3 i1 fun _ h => by omega
  have q2 : i ≤ i' := cut_le i3 j3 i1 fun _ h => by omega
  have q3 : k' ≤ k := cut_le l3 k3 l1 fun _ h => by omega
  have q4 : i ≤ k' := cut_le i3 l3 i1 fun _ h => by omega
  simp only [Option.bind_some, decide_eq_false (show ¬ (i : Int) < 0 by omega), decide_eq_false (show ¬ (k : Int) < (i : Int) by omega), decide_eq_false (show ¬ (ys.length : Int) < (k : Int) by omega), decide_eq_false (show ¬ (i' : Int) < (i : Int) by omega), decide_eq_false (show ¬ (k : Int) < (k' : Int) by omega), decide_eq_false (show ¬ (k' : Int) < (i : Int) by omega), cond_false]
  refine bind_of (fun r => r = .inl ()) (run_for ys.length _ (fun x (s : Int) => s = (x : Int)) ?_ ?_ _ rfl) ?_
  · rintro x s hx rfl
    left
    refine ⟨((x + 1 : Nat) : Int), ?_, rfl⟩
    have e1 := i3 x hx
    have e2 := k3 x hx
    unfold depN at e1 e2
    rw [getD_of hx] at e1 e2
    simp only [lt_dec hx, cond_true, idx_at hx, Option.bind_some, wrap_succ hx (show ys.length ≤ 9223372036854775807 by omega)]
    by_cases c1 : lo ≤ (ys[x]).2.2.2.2.1
    · have c2 : i ≤ x := by omega
      rw [decide_eq_true c1, decide_eq_true (show (i : Int) ≤ (x : Int) by omega)]
      simp only [cond_true]
      by_cases c3 : (ys[x]).2.2.2.2.1 ≤ hi
      · rw [decide_eq_true c3, decide_eq_true (show (x : Int) < (k : Int) by omega)]; rfl
      · rw [decide_eq_false c3, decide_eq_false (show ¬ (x : Int) < (k : Int) by omega)]; rfl
    · have c2 : ¬ i ≤ x := by omega
      rw [decide_eq_false c1, decide_eq_false (show ¬ (i : Int) ≤ (x : Int) by omega)]
      rfl
  · rintro s rfl
    refine ⟨_, ?_, rfl⟩
    simp only [nlt_dec, cond_false]
  · rintro _ rfl
    rfl

theorem ordersP (x : ElPs F_law28_ConnectionOrderA) (hx : GoodPs F_law28_ConnectionOrderA x) : F_law28_ConnectionOrder x.1 = some true := orders x.1 hx.1
theorem cutsP (x : ElPs F_law28_ConnectionCutsA) (hx : GoodPs F_law28_ConnectionCutsA x) : F_law28_ConnectionCuts x.1 x.2.1 x.2.2.1 = some true := cuts x.1 x.2.1 x.2.2.1 hx.1
end Q
