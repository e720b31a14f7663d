/- Loops in plain Lean: with an invariant by rounds, and halving. Conditions: those of the theorems. -/
import Derived.Test.YtibiblkamaajeaaGreatTsH
namespace Q
open Tr Go
theorem run_for {σ τ : Type} {step : σ → Option (σ ⊕ τ)} (n : Nat) (P : τ → Prop) (Inv : Nat → σ → Prop)
    (hstep : ∀ i s, i < n → Inv i s → (∃ s', step s = some (.inl s') ∧ Inv (i + 1) s') ∨ ∃ r, step s = some (.inr r) ∧ P r)
    (hend : ∀ s, Inv n s → ∃ r, step s = some (.inr r) ∧ P r) (s : σ) (h0 : Inv 0 s) : ∃ r, run step s = some r ∧ P r := by
  have key : ∀ (k i : Nat) (s : σ), n - i = k → i ≤ n → Inv i s → ∃ r, run step s = some r ∧ P r := by
    intro k
    induction k with
    | zero =>
      intro i s hk hi hs
      have : i = n := by omega
      subst this
      obtain ⟨r, h1, h2⟩ := hend s hs
      exact ⟨r, run_inr h1, h2⟩
    | succ k ih =>
      intro i s hk hi hs
      rcases hstep i s (by omega) hs with ⟨s', h1, h2⟩ | ⟨r, h1, h2⟩
      · rw [run_inl h1]
        exact ih (i + 1) s' (by omega) (by omega) h2
      · exact ⟨r, run_inr h1, h2⟩
  exact key n 0 s (by omega) (by omega) h0
theorem bind_of {α β : Type} {o : Option α} {f : α → Option β} {z : Option β} (P : α → Prop) (h : ∃ r, o = some r ∧ P r) (k : ∀ r, P r → f r = z) : Option.bind o f = z := by
  obtain ⟨r, rfl, hr⟩ := h
  exact k r hr
theorem bind_ex {α β γ : Type} {o : Option α} {f : α → Option (β ⊕ γ)} {Q : β → Prop} (P : α → Prop) (h : ∃ r, o = some r ∧ P r) (k : ∀ r, P r → ∃ s, f r = some (.inl s) ∧ Q s) : ∃ s, Option.bind o f = some (.inl s) ∧ Q s := by
  obtain ⟨r, rfl, hr⟩ := h
  exact k r hr
theorem run_half {step : Int × Int → Option ((Int × Int) ⊕ Int)} {n k : Nat} (hk : k ≤ n)
    (hstep : ∀ lo hi : Nat, lo < hi → hi ≤ n → step ((lo : Int), (hi : Int)) = some (.inl (if lo + (hi - lo) / 2 < k then (((lo + (hi - lo) / 2 + 1 : Nat) : Int), (hi : Int)) else ((lo : Int), ((lo + (hi - lo) / 2 : Nat) : Int)))))
    (hend : ∀ lo : Nat, step ((lo : Int), (lo : Int)) = some (.inr (lo : Int))) : run step ((0 : Int), (n : Int)) = some (k : Int) := by
  have key : ∀ (m lo hi : Nat), hi - lo = m → lo ≤ k → k ≤ hi → hi ≤ n → run step ((lo : Int), (hi : Int)) = some (k : Int) := by
    intro m
    induction m using Nat.strongRecOn with
    | _ m ih =>
      intro lo hi hm h1 h2 h3
      by_cases hlt : lo < hi
      · rw [run_inl (hstep lo hi hlt h3)]
        split
        · exact ih (hi - (lo + (hi - lo) / 2 + 1)) (by omega) _ _ rfl (by omega) h2 h3
        · exact ih ((lo + (hi - lo) / 2) - lo) (by omega) _ _ rfl h1 (by omega) (by omega)
      · have : lo = hi := by omega
        subst this
        have : lo = k := by omega
        subst this
        exact run_inr (hend lo)
  exact key (n - 0) 0 n rfl (Nat.zero_le _) hk (Nat.le_refl _)
theorem mid_val {lo hi : Nat} (h : lo ≤ hi) (hn : hi ≤ 4611686018427387904) :
    IntKind.wrap .i64 ((lo : Int) + IntKind.wrap .i64 (Int.tdiv (IntKind.wrap .i64 ((hi : Int) - (lo : Int))) 2)) = ((lo + (hi - lo) / 2 : Nat) : Int) := by
  have e1 : IntKind.wrap .i64 ((hi : Int) - (lo : Int)) = ((hi - lo : Nat) : Int) := by rw [wrap_i64 (by omega) (by omega)]; omega
  have e2 : Int.tdiv ((hi - lo : Nat) : Int) 2 = (((hi - lo) / 2 : Nat) : Int) := by
    rw [Int.tdiv_eq_ediv_of_nonneg (by omega)]; omega
  rw [e1, e2, wrap_i64 (x := (((hi - lo) / 2 : Nat) : Int)) (by omega) (by omega), wrap_i64 (by omega) (by omega)]
  omega
end Q
