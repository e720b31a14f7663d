/- Chapter 29 in plain Lean. -/
import Derived.Test.YtalhfmelecpjmaaTsH
import Derived.Test.YtalhfmelecpjmaaLwJb29
import Derived.Test.YtalhfmelecpjmaaTsF

/-! Loops in plain Lean: with an invariant by rounds, and halving. Conditions: those of the theorems. -/
namespace Q
open Tr Go

theorem run_for {σ τ : Type} {step : σ → Option (σ ⊕ τ)} (n : Nat) (P : τ → Prop) (Inv : Nat → σ → Prop)
    (hstep : ∀ i s, i < n → Inv i s → (∃ s', step s = some (.inl s') ∧ Inv (i + 1) s') ∨ ∃ r, step s = some (.inr r) ∧ P r)
    (hend : ∀ s, Inv n s → ∃ r, step s = some (.inr r) ∧ P r) (s : σ) (h0 : Inv 0 s) : ∃ r, run step s = some r ∧ P r := by
  have key : ∀ (k i : Nat) (s : σ), n - i = k → i ≤ n → Inv i s → ∃ r, run step s = some r ∧ P r := by
    intro k
    induction k with
    | zero =>
      intro i s hk hi hs
      have : i = n := by omega
      subst this
      obtain ⟨r, h1, h2⟩ := hend s hs
      exact ⟨r, run_inr h1, h2⟩
    | succ k ih =>
      intro i s hk hi hs
      rcases hstep i s (by omega) hs with ⟨s', h1, h2⟩ | ⟨r, h1, h2⟩
      · rw [run_inl h1]
        exact ih (i + 1) s' (by omega) (by omega) h2
      · exact ⟨r, run_inr h1, h2⟩
  exact key n 0 s (by omega) (by omega) h0

theorem bind_of {α β : Type} {o : Option α} {f : α → Option β} {z : Option β} (P : α → Prop) (h : ∃ r, o = some r ∧ P r) (k : ∀ r, P r → f r = z) : Option.bind o f = z := by
  obtain ⟨r, rfl, hr⟩ := h
  exact k r hr

/-- The same for one round of an outer loop. -/
theorem bind_ex {α β γ : Type} {o : Option α} {f : α → Option (β ⊕ γ)} {Q : β → Prop} (P : α → Prop) (h : ∃ r, o = some r ∧ P r) (k : ∀ r, P r → ∃ s, f r = some (.inl s) ∧ Q s) : ∃ s, Option.bind o f = some (.inl s) ∧ Q s := by
  obtain ⟨r, rfl, hr⟩ := h
  exact k r hr

/-- Halving: the number of places for which the condition holds. -/
theorem run_half {step : Int × Int → Option ((Int × Int) ⊕ Int)} {n k : Nat} (hk : k ≤ n)
    (hstep : ∀ lo hi : Nat, lo < hi → hi ≤ n → step ((lo : Int), (hi : Int)) = some (.inl (if lo + (hi - lo) / 2 < k then (((lo + (hi - lo) / 2 + 1 : Nat) : Int), (hi : Int)) else ((lo : Int), ((lo + (hi - lo) / 2 : Nat) : Int)))))
    (hend : ∀ lo : Nat, step ((lo : Int), (lo : Int)) = some (.inr (lo : Int))) : run step ((0 : Int), (n : Int)) = some (k : Int) := by
  have key : ∀ (m lo hi : Nat), hi - lo = m → lo ≤ k → k ≤ hi → hi ≤ n → run step ((lo : Int), (hi : Int)) = some (k : Int) := by
    intro m
    induction m using Nat.strongRecOn with
    | _ m ih =>
      intro lo hi hm h1 h2 h3
      by_cases hlt : lo < hi
      · rw [run_inl (hstep lo hi hlt h3)]
        split
        · exact ih (hi - (lo + (hi - lo) / 2 + 1)) (by omega) _ _ rfl (by omega) h2 h3
        · exact ih ((lo + (hi - lo) / 2) - lo) (by omega) _ _ rfl h1 (by omega) (by omega)
      · have : lo = hi := by omega
        subst this
        have : lo = k := by omega
        subst this
        exact run_inr (hend lo)
  exact key (n - 0) 0 n rfl (Nat.zero_le _) hk (Nat.le_refl _)

/-- The middle, as the machine reckons it. -/
theorem mid_val {lo hi : Nat} (h : lo ≤ hi) (hn : hi ≤ 4611686018427387904) :
    IntKind.wrap .i64 ((lo : Int) + IntKind.wrap .i64 (Int.tdiv (IntKind.wrap .i64 ((hi : Int) - (lo : Int))) 2)) = ((lo + (hi - lo) / 2 : Nat) : Int) := by
  have e1 : IntKind.wrap .i64 ((hi : Int) - (lo : Int)) = ((hi - lo : Nat) : Int) := by rw [wrap_i64 (by omega) (by omega)]; omega
  have e2 : Int.tdiv ((hi - lo : Nat) : Int) 2 = (((hi - lo) / 2 : Nat) : Int) := by
    rw [Int.tdiv_eq_ediv_of_nonneg (by omega)]; omega
  rw [e1, e2, wrap_i64 (x := (((hi - lo) / 2 : Nat) : Int)) (by omega) (by omega), wrap_i64 (by omega) (by omega)]
  omega
end Q

/-! Chapter 29: one run follows another, in both texts. Conditions: lists as a machine can hold them. -/
namespace Q
open Tr Go

def callOk (x y : CallT) : Bool := decide (x.1 = y.1) && (x.2.2.2.1 == y.2.2.2.1) && (x.2.2.2.2.1 == y.2.2.2.2.1) && !decide (y.2.1 < x.2.1) && !decide (y.2.2.1 < x.2.2.1)
def folC (a b : RunT) (i : Nat) : Int := if callOk (cl a.2.2.2.2.2.2.2.1 i) (cl b.2.2.2.2.2.2.2.1 i) then 0 else 1
def folB (a b : RunT) : Bool := decide (a.2.2.2.2.1 = b.2.2.2.2.1) && (a.2.2.2.2.2.1 == b.2.2.2.2.2.1) && decide (a.2.2.2.2.2.2.2.1.length = b.2.2.2.2.2.2.2.1.length) && (firstBad a.2.2.2.2.2.2.2.1.length (folC a b)).isNone

theorem cl_nat {l : List CallT} {i : Nat} (h : i < l.length) : cl l (i : Int) = l[i] := by
  unfold cl
  rw [show ((i : Nat) : Int).toNat = i from rfl, getD_of h]

theorem alike_val (x y : CallT) : F_line_alike x y = some (decide (x.1 = y.1) && ((x.2.2.2.1 == y.2.2.2.1) && (x.2.2.2.2.1 == y.2.2.2.2.1))) := by
  unfold F_line_alike
  rw [decide_eq_true rfl]
  simp only [Bool.true_and]

theorem follows_val (a b : RunT) (hl : a.2.2.2.2.2.2.2.1.length ≤ 9223372036854775807) : F_line_follows a b = some (folB a b) := by
  unfold F_line_follows folB
  by_cases h1 : a.2.2.2.2.1 = b.2.2.2.2.1
  case neg => simp only [decide_eq_false h1, Bool.not_false, cond_true, Option.bind_some, Bool.false_and]
  simp only [decide_eq_true h1, Bool.not_true, cond_false, Bool.true_and]
  cases h2 : (a.2.2.2.2.2.1 == b.2.2.2.2.2.1) with
  | false => simp only [Bool.not_false, cond_true, Option.bind_some, Bool.false_and]
  | true =>
    simp only [Bool.not_true, cond_false, Bool.true_and]
    by_cases h3 : a.2.2.2.2.2.2.2.1.length = b.2.2.2.2.2.2.2.1.length
    case neg => 
      have h3' : ¬ ((a.2.2.2.2.2.2.2.1.length : Int) = (b.2.2.2.2.2.2.2.1.length : Int)) := by omega
      simp only [decide_eq_false h3, decide_eq_false h3', Bool.not_false, cond_true, Option.bind_some, Bool.false_and]
    have h3' : ((a.2.2.2.2.2.2.2.1.length : Int) = (b.2.2.2.2.2.2.2.1.length : Int)) := by omega
    simp only [decide_eq_true h3, decide_eq_true h3', Bool.not_true, cond_false, Option.bind_some, Bool.true_and]
    rw [scan_run (n := a.2.2.2.2.2.2.2.1.length) (fun i st => st = (i : Int)) (folC a b) (fun _ => .inr false) (.inl ()) ?_ ?_ ?_ (0 : Int) rfl]
    · unfold pick
      cases firstBad a.2.2.2.2.2.2.2.1.length (folC a b) <;> rfl
    · rintro i _ hi rfl hc
      have hi' : i < b.2.2.2.2.2.2.2.1.length := by omega
      have hok : callOk a.2.2.2.2.2.2.2.1[i] b.2.2.2.2.2.2.2.1[i] = true := by
        unfold folC at hc
        rw [cl_nat hi, cl_nat hi'] at hc
        split at hc
        · assumption
        · omega
      simp only [callOk, Bool.and_eq_true, Bool.not_eq_true', decide_eq_true_eq] at hok
      obtain ⟨⟨⟨⟨k1, k2⟩, k3⟩, k4⟩, k5⟩ := hok
      refine ⟨((i + 1 : Nat) : Int), ?_, rfl⟩
      simp only [lt_dec hi, cond_true, idx_nat hi, idx_nat hi', Option.bind_some, alike_val, decide_eq_true k1, k2, k3, k4, k5, Bool.and_self, Bool.not_true, cond_false, wrap_succ hi hl]
    · rintro i _ hi rfl hc
      have hi' : i < b.2.2.2.2.2.2.2.1.length := by omega
      have hok : callOk a.2.2.2.2.2.2.2.1[i] b.2.2.2.2.2.2.2.1[i] = false := by
        unfold folC at hc
        rw [cl_nat hi, cl_nat hi'] at hc
        split at hc
        · omega
        · rename_i hh; simpa using hh
      simp only [lt_dec hi, cond_true, idx_nat hi, idx_nat hi', Option.bind_some, alike_val]
      unfold callOk at hok
      generalize decide (a.2.2.2.2.2.2.2.1[i].1 = b.2.2.2.2.2.2.2.1[i].1) = b1 at *
      generalize (a.2.2.2.2.2.2.2.1[i].2.2.2.1 == b.2.2.2.2.2.2.2.1[i].2.2.2.1) = b2 at *
      generalize (a.2.2.2.2.2.2.2.1[i].2.2.2.2.1 == b.2.2.2.2.2.2.2.1[i].2.2.2.2.1) = b3 at *
      generalize decide (b.2.2.2.2.2.2.2.1[i].2.1 < a.2.2.2.2.2.2.2.1[i].2.1) = b4 at *
      generalize decide (b.2.2.2.2.2.2.2.1[i].2.2.1 < a.2.2.2.2.2.2.2.1[i].2.2.1) = b5 at *
      revert hok
      cases b1 <;> cases b2 <;> cases b3 <;> cases b4 <;> cases b5 <;> intro hok <;> first | rfl | exact absurd hok (by decide)
    · rintro _ rfl
      simp only [nlt_dec, cond_false]

theorem followsR_val (a b : RunT) (hl : a.2.2.2.2.2.2.2.1.length ≤ 9223372036854775807) : F_ref29_Follows a b = some (folB a b) := by
  unfold F_ref29_Follows folB
  by_cases h1 : a.2.2.2.2.1 = b.2.2.2.2.1
  case neg => simp only [decide_eq_false h1, Bool.not_false, cond_true, Option.bind_some, Bool.false_and]
  simp only [decide_eq_true h1, Bool.not_true, cond_false, Bool.true_and]
  cases h2 : (a.2.2.2.2.2.1 == b.2.2.2.2.2.1) with
  | false => simp only [Bool.not_false, cond_true, Option.bind_some, Bool.false_and]
  | true =>
    simp only [Bool.not_true, cond_false, Bool.true_and]
    by_cases h3 : a.2.2.2.2.2.2.2.1.length = b.2.2.2.2.2.2.2.1.length
    case neg => 
      have h3' : ¬ ((a.2.2.2.2.2.2.2.1.length : Int) = (b.2.2.2.2.2.2.2.1.length : Int)) := by omega
      simp only [decide_eq_false h3, decide_eq_false h3', Bool.not_false, cond_true, Option.bind_some, Bool.false_and]
    have h3' : ((a.2.2.2.2.2.2.2.1.length : Int) = (b.2.2.2.2.2.2.2.1.length : Int)) := by omega
    simp only [decide_eq_true h3, decide_eq_true h3', Bool.not_true, cond_false, Option.bind_some, Bool.true_and]
    rw [scan_run (n := a.2.2.2.2.2.2.2.1.length) (fun i st => st = (i : Int)) (folC a b) (fun _ => .inr false) (.inl ()) ?_ ?_ ?_ (0 : Int) rfl]
    · unfold pick
      cases firstBad a.2.2.2.2.2.2.2.1.length (folC a b) <;> rfl
    · rintro i _ hi rfl hc
      have hi' : i < b.2.2.2.2.2.2.2.1.length := by omega
      have hok : callOk a.2.2.2.2.2.2.2.1[i] b.2.2.2.2.2.2.2.1[i] = true := by
        unfold folC at hc
        rw [cl_nat hi, cl_nat hi'] at hc
        split at hc
        · assumption
        · omega
      simp only [callOk, Bool.and_eq_true, Bool.not_eq_true', decide_eq_true_eq] at hok
      obtain ⟨⟨⟨⟨k1, k2⟩, k3⟩, k4⟩, k5⟩ := hok
      refine ⟨((i + 1 : Nat) : Int), ?_, rfl⟩
      simp only [lt_dec hi, cond_true, idx_nat hi, idx_nat hi', Option.bind_some, decide_eq_true k1, k2, k3, k4, k5, Bool.not_true, cond_false, wrap_succ hi hl]
    · rintro i _ hi rfl hc
      have hi' : i < b.2.2.2.2.2.2.2.1.length := by omega
      have hok : callOk a.2.2.2.2.2.2.2.1[i] b.2.2.2.2.2.2.2.1[i] = false := by
        unfold folC at hc
        rw [cl_nat hi, cl_nat hi'] at hc
        split at hc
        · omega
        · rename_i hh; simpa using hh
      simp only [lt_dec hi, cond_true, idx_nat hi, idx_nat hi', Option.bind_some]
      unfold callOk at hok
      generalize decide (a.2.2.2.2.2.2.2.1[i].1 = b.2.2.2.2.2.2.2.1[i].1) = b1 at *
      generalize (a.2.2.2.2.2.2.2.1[i].2.2.2.1 == b.2.2.2.2.2.2.2.1[i].2.2.2.1) = b2 at *
      generalize (a.2.2.2.2.2.2.2.1[i].2.2.2.2.1 == b.2.2.2.2.2.2.2.1[i].2.2.2.2.1) = b3 at *
      generalize decide (b.2.2.2.2.2.2.2.1[i].2.1 < a.2.2.2.2.2.2.2.1[i].2.1) = b4 at *
      generalize decide (b.2.2.2.2.2.2.2.1[i].2.2.1 < a.2.2.2.2.2.2.2.1[i].2.2.1) = b5 at *
      revert hok
      cases b1 <;> cases b2 <;> cases b3 <;> cases b4 <;> cases b5 <;> intro hok <;> first | rfl | exact absurd hok (by decide)
    · rintro _ rfl
      simp only [nlt_dec, cond_false]
end Q

/-! Chapter 29: IsLine, in both texts. Conditions: lists as a machine can hold them. -/
namespace Q
open Tr Go

def ln (l : List Int) (i : Nat) : Int := (l[i]?).getD 0
theorem ln_of {l : List Int} {i : Nat} (h : i < l.length) : ln l i = l[i] := getD_of h 0
def canc (x : RunT) : Bool := x.2.2.2.2.2.2.1
/-- The first three faults of a place of a line. -/
def bad3 (n : NetT) (l : List Int) (i : Nat) : Bool := !inR (ln l i) n.2.2.1.length || (canc (rn n (ln l i)) || (List.range i).any fun j => decide (ln l j = ln l i))
def bad4 (n : NetT) (l : List Int) (i : Nat) : Bool := decide (0 < i) && !folB (rn n (ln l (i - 1))) (rn n (ln l i))
def chkL (n : NetT) (l : List Int) (i : Nat) : Int := if bad3 n l i || bad4 n l i then 1 else 0
def isLineB (n : NetT) (l : List Int) : Bool := decide (0 < l.length) && (firstBad l.length (chkL n l)).isNone

theorem chkL_zero {n : NetT} {l : List Int} {i : Nat} : chkL n l i = 0 ↔ bad3 n l i = false ∧ bad4 n l i = false := by
  unfold chkL
  cases bad3 n l i <;> cases bad4 n l i <;> simp

theorem any_dup {l : List Int} {i : Nat} {v : Int} : ((List.range i).any fun j => decide (ln l j = v)) = true ↔ ∃ j, j < i ∧ ln l j = v := by
  simp [List.any_eq_true]

def SeenL (n : NetT) (l : List Int) (i : Nat) (s : List Bool × Int) : Prop :=
  s.2 = (i : Int) ∧ s.1.length = n.2.2.1.length ∧ (∀ k, k < n.2.2.1.length → s.1[k]? = some ((List.range i).any fun j => decide (ln l j = (k : Int)))) ∧ ∀ j, j < i → chkL n l j = 0

theorem calls_of {n : NetT} (hc : ∀ x ∈ n.2.2.1, x.2.2.2.2.2.2.2.1.length ≤ 9223372036854775807) (a : Int) : (rn n a).2.2.2.2.2.2.2.1.length ≤ 9223372036854775807 := by
  unfold rn
  cases h : n.2.2.1[a.toNat]? with
  | none => simp [u0]
  | some x => exact hc x (List.mem_of_getElem? h)

theorem idx_rn {n : NetT} {a : Int} (h : inR a n.2.2.1.length = true) : Tr.idx n.2.2.1 a = some (rn n a) := idx_int h u0

theorem inR_nat {a : Int} {m : Nat} (h : inR a m = true) : (a.toNat : Int) = a ∧ a.toNat < m ∧ 0 ≤ a ∧ a < (m : Int) := by
  unfold inR at h
  simp only [Bool.and_eq_true, decide_eq_true_eq] at h
  omega

theorem inb_int {a : Int} {m : Nat} (h : inR a m = true) : Tr.inb a m = some a.toNat := by
  obtain ⟨h1, h2, _⟩ := inR_nat h
  rw [← h1, inb_nat h2]; rfl

theorem bad4_val {G : RunT → RunT → Option Bool} (hG : ∀ a b : RunT, a.2.2.2.2.2.2.2.1.length ≤ 9223372036854775807 → G a b = some (folB a b)) {n : NetT} {l : List Int} (hc : ∀ x ∈ n.2.2.1, x.2.2.2.2.2.2.2.1.length ≤ 9223372036854775807) {i : Nat} (hi : i < l.length) (hl : l.length ≤ 4611686018427387904) (hp : ∀ j, j < i → chkL n l j = 0) :
    (bif Decidable.decide ((0 : Int) < (i : Int)) then
      Option.bind (Tr.idx l (IntKind.wrap .i64 ((i : Int) - (1 : Int)))) fun x9 => Option.bind (Tr.idx n.2.2.1 x9) fun x10 => Option.bind (G x10 (rn n l[i])) fun x12 => Option.some !x12
     else Option.some Bool.false) = some (bad4 n l i) := by
  unfold bad4
  by_cases h0 : i = 0
  · subst h0; rfl
  rw [decide_eq_true (show (0 : Int) < (i : Int) by omega), decide_eq_true (show 0 < i by omega)]
  have e : IntKind.wrap .i64 ((i : Int) - 1) = ((i - 1 : Nat) : Int) := by rw [wrap_i64 (by omega) (by omega)]; omega
  have hi' : i - 1 < l.length := by omega
  have hr' : inR (ln l (i - 1)) n.2.2.1.length = true := by
    have := (chkL_zero.1 (hp (i - 1) (by omega))).1
    unfold bad3 at this; cases hh : inR (ln l (i - 1)) n.2.2.1.length <;> simp_all
  rw [ln_of hi] 
  rw [ln_of hi'] at hr' ⊢
  simp only [cond_true, e, idx_nat hi', Option.bind_some, idx_rn hr', hG _ _ (calls_of hc _), Bool.true_and]

theorem isLine_val {n : NetT} {l : List Int} {vb : Bool} (hv : F_line_valid n = some vb) (hc : ∀ x ∈ n.2.2.1, x.2.2.2.2.2.2.2.1.length ≤ 9223372036854775807) (hn : n.2.2.1.length ≤ 4294967296) (hl : l.length ≤ 4611686018427387904) :
    F_line_IsLine n l = some (vb && isLineB n l) := by
  unfold F_line_IsLine isLineB
  by_cases h0 : l.length = 0
  · rw [decide_eq_true (show (l.length : Int) = 0 by omega), decide_eq_false (show ¬ 0 < l.length by omega)]
    simp
  rw [decide_eq_false (show ¬ (l.length : Int) = 0 by omega), decide_eq_true (show 0 < l.length by omega), hv]
  cases vb with
  | false => rfl
  | true =>
    simp only [cond_false, Option.bind_some, Bool.not_true, Bool.true_and]
    have hg : Tr.guardB (decide ((0 : Int) ≤ (n.2.2.1.length : Int) ∧ (n.2.2.1.length : Int) ≤ (n.2.2.1.length : Int) ∧ (n.2.2.1.length : Int) ≤ ((Tr.maxApp : Nat) : Int))) = some () := by
      rw [decide_eq_true ⟨by omega, by omega, by show _ ≤ ((4294967296 : Nat) : Int); omega⟩]; rfl
    rw [show (Tr.guardB (decide ((0 : Tr.El (Tr.Ty.int Go.IntKind.i64)) ≤ (n.2.2.1.length : Int) ∧ (n.2.2.1.length : Int) ≤ (n.2.2.1.length : Int) ∧ (n.2.2.1.length : Int) ≤ (((Tr.maxApp : Nat) : Int) : Tr.El (Tr.Ty.int Go.IntKind.i64))))) = some () from hg]
    simp only [Option.bind_some]
    rw [scan_run (n := l.length) (SeenL n l) (chkL n l) (fun _ => .inr false) (.inl ()) ?_ ?_ ?_ (List.replicate (Int.toNat (n.2.2.1.length : Int)) false, (0 : Int)) ?_]
    · unfold pick
      cases firstBad l.length (chkL n l) <;> rfl
    · rintro i ⟨sn, ii⟩ hi ⟨hii, hsn, hsv, hp⟩ hchk
      simp only at hii hsn hsv
      subst hii
      obtain ⟨h3, h4⟩ := chkL_zero.1 hchk
      have h3' := h3
      unfold bad3 at h3'
      simp only [Bool.or_eq_false_iff, Bool.not_eq_false'] at h3'
      obtain ⟨hr, hcn, hdup⟩ := h3'
      have hb4 := bad4_val follows_val hc hi hl hp
      rw [h4] at hb4
      rw [ln_of hi] at hr hcn hdup
      obtain ⟨e1, e2, e3, e4⟩ := inR_nat hr
      have hs := hsv _ e2
      rw [e1] at hs
      have hinb : Tr.inb l[i] sn.length = some l[i].toNat := inb_int (by rw [hsn]; exact hr)
      refine ⟨(sn.set l[i].toNat true, ((i + 1 : Nat) : Int)), ?_, rfl, by simp [hsn], fun k hk => ?_, fun j hj => ?_⟩
      · simp only [lt_dec hi, cond_true, idx_nat hi, Option.bind_some, decide_eq_false (show ¬ l[i] < 0 by omega), decide_eq_false (show ¬ (n.2.2.1.length : Int) ≤ l[i] by omega), cond_false, hinb, hs, hdup, idx_rn hr]
        rw [show (rn n l[i]).2.2.2.2.2.2.1 = false from hcn]
        simp only [cond_false, hb4, Option.bind_some, wrap_succ hi (show l.length ≤ 9223372036854775807 by omega)]
      · rw [List.getElem?_set]
        rw [List.range_succ, List.any_append]
        by_cases hk2 : l[i].toNat = k
        · subst hk2
          rw [if_pos rfl, if_pos (by rw [hsn]; exact hk)]
          simp [ln_of hi, e1]
        · rw [if_neg hk2, hsv k hk]
          have : ¬ (ln l i = (k : Int)) := by rw [ln_of hi]; omega
          simp [this]
      · by_cases hji : j = i
        · subst hji; exact hchk
        · exact hp j (by omega)
    · rintro i ⟨sn, ii⟩ hi ⟨hii, hsn, hsv, hp⟩ hchk
      simp only at hii hsn hsv
      subst hii
      simp only [lt_dec hi, cond_true, idx_nat hi, Option.bind_some]
      by_cases h1 : l[i] < 0
      · rw [decide_eq_true h1]; rfl
      rw [decide_eq_false h1]
      by_cases h2 : (n.2.2.1.length : Int) ≤ l[i]
      · rw [decide_eq_true h2]; rfl
      rw [decide_eq_false h2]
      have hr : inR l[i] n.2.2.1.length = true := by
        unfold inR; rw [decide_eq_true (show 0 ≤ l[i] by omega), decide_eq_true (show l[i] < (n.2.2.1.length : Int) by omega)]; rfl
      obtain ⟨e1, e2, e3, e4⟩ := inR_nat hr
      have hs := hsv _ e2
      rw [e1] at hs
      have hinb : Tr.inb l[i] sn.length = some l[i].toNat := inb_int (by rw [hsn]; exact hr)
      simp only [cond_false, hinb, Option.bind_some, hs, idx_rn hr]
      cases h3 : bad3 n l i with
      | true =>
        unfold bad3 at h3
        rw [ln_of hi, hr] at h3
        simp only [Bool.not_true, Bool.false_or] at h3
        cases hd : (List.range i).any fun j => decide (ln l j = l[i]) with
        | true => rfl
        | false =>
          rw [hd, Bool.or_false] at h3
          rw [show (rn n l[i]).2.2.2.2.2.2.1 = true from h3]
          rfl
      | false =>
        have h4 : bad4 n l i = true := by
          cases h4 : bad4 n l i with
          | true => rfl
          | false => exact absurd (chkL_zero.2 ⟨h3, h4⟩) hchk
        have hb4 := bad4_val follows_val hc hi hl hp
        rw [h4] at hb4
        unfold bad3 at h3
        rw [ln_of hi, hr] at h3
        simp only [Bool.not_true, Bool.false_or, Bool.or_eq_false_iff] at h3
        rw [h3.2]
        simp only [cond_false]
        rw [show (rn n l[i]).2.2.2.2.2.2.1 = false from h3.1]
        simp only [cond_false, Option.bind_some, hb4, cond_true]
    · rintro ⟨sn, ii⟩ ⟨hii, _⟩
      simp only at hii
      subst hii
      simp only [nlt_dec, cond_false]
    · exact ⟨rfl, by simp, fun k hk => by simp [hk], fun j hj => by omega⟩

theorem isLineR_val {n : NetT} {l : List Int} (hc : ∀ x ∈ n.2.2.1, x.2.2.2.2.2.2.2.1.length ≤ 9223372036854775807) (hl : l.length ≤ 4611686018427387904) : F_ref29_IsLine n l = some (isLineB n l) := by
  unfold F_ref29_IsLine isLineB
  have hl' : l.length ≤ 9223372036854775807 := by omega
  rw [scan_run (n := l.length) (fun i st => st = (i : Int) ∧ ∀ j, j < i → chkL n l j = 0) (chkL n l) (fun _ => .inr false) (.inl ()) ?_ ?_ ?_ (0 : Int) ⟨rfl, fun j hj => by omega⟩]
  · unfold pick
    cases firstBad l.length (chkL n l) with
    | some i => simp [Sum.elim_inr]
    | none =>
      by_cases h0 : 0 < l.length
      · rw [decide_eq_true h0]; simp only [Option.bind_some, Sum.elim_inl]; rw [decide_eq_true (by omega)]; rfl
      · rw [decide_eq_false h0]; simp only [Option.bind_some, Sum.elim_inl]; rw [decide_eq_false (by omega)]; rfl
  · rintro i _ hi ⟨rfl, hp⟩ hchk
    obtain ⟨h3, h4⟩ := chkL_zero.1 hchk
    have h3' := h3
    unfold bad3 at h3'
    simp only [Bool.or_eq_false_iff, Bool.not_eq_false'] at h3'
    obtain ⟨hr, hcn, hdup⟩ := h3'
    rw [ln_of hi] at hr hcn hdup
    obtain ⟨e1, e2, e3, e4⟩ := inR_nat hr
    have hnd : ¬ ∃ j, j < i ∧ ln l j = l[i] := fun h => by rw [any_dup.2 h] at hdup; exact absurd hdup (by decide)
    refine ⟨((i + 1 : Nat) : Int), ?_, rfl, fun j hj => ?_⟩
    · simp only [lt_dec hi, cond_true, idx_nat hi, Option.bind_some, decide_eq_false (show ¬ l[i] < 0 by omega), decide_eq_false (show ¬ (n.2.2.1.length : Int) ≤ l[i] by omega), cond_false, idx_rn hr]
      rw [show (rn n l[i]).2.2.2.2.2.2.1 = false from hcn]
      simp only [cond_false]
      rw [(dup_run (i := i) (p := fun j => ln l j = l[i]) (R := .inr false) (E := .inl ()) ?_ ?_ ?_).2 hnd]
      · have hb4 := bad4_val followsR_val hc hi hl hp
        rw [h4] at hb4
        simp only [Option.bind_some, Sum.elim_inl, hb4, cond_false, wrap_succ hi hl']
      · intro j hj hne
        have hjl : j < l.length := by omega
        rw [ln_of hjl] at hne
        simp only [decide_eq_true (show (j : Int) < (i : Int) by omega), cond_true, idx_nat hjl, Option.bind_some, decide_eq_false hne, cond_false, wrap_succ hj (show i ≤ 9223372036854775807 by omega)]
      · intro j hj he
        have hjl : j < l.length := by omega
        rw [ln_of hjl] at he
        simp only [decide_eq_true (show (j : Int) < (i : Int) by omega), cond_true, idx_nat hjl, Option.bind_some, decide_eq_true he]
      · simp only [nlt_dec, cond_false]
    · by_cases hji : j = i
      · subst hji; exact hchk
      · exact hp j (by omega)
  · rintro i _ hi ⟨rfl, hp⟩ hchk
    simp only [lt_dec hi, cond_true, idx_nat hi, Option.bind_some]
    by_cases h1 : l[i] < 0
    · rw [decide_eq_true h1]; rfl
    rw [decide_eq_false h1]
    by_cases h2 : (n.2.2.1.length : Int) ≤ l[i]
    · rw [decide_eq_true h2]; rfl
    rw [decide_eq_false h2]
    have hr : inR l[i] n.2.2.1.length = true := by
      unfold inR; rw [decide_eq_true (show 0 ≤ l[i] by omega), decide_eq_true (show l[i] < (n.2.2.1.length : Int) by omega)]; rfl
    simp only [cond_false, idx_rn hr, Option.bind_some]
    cases hcn : canc (rn n l[i]) with
    | true => rw [show (rn n l[i]).2.2.2.2.2.2.1 = true from hcn]; rfl
    | false =>
      rw [show (rn n l[i]).2.2.2.2.2.2.1 = false from hcn]
      simp only [cond_false]
      by_cases hd : ∃ j, j < i ∧ ln l j = l[i]
      · rw [(dup_run (i := i) (p := fun j => ln l j = l[i]) (R := .inr false) (E := .inl ()) ?_ ?_ ?_).1 hd]
        · rfl
        · intro j hj hne
          have hjl : j < l.length := by omega
          rw [ln_of hjl] at hne
          simp only [decide_eq_true (show (j : Int) < (i : Int) by omega), cond_true, idx_nat hjl, Option.bind_some, decide_eq_false hne, cond_false, wrap_succ hj (show i ≤ 9223372036854775807 by omega)]
        · intro j hj he
          have hjl : j < l.length := by omega
          rw [ln_of hjl] at he
          simp only [decide_eq_true (show (j : Int) < (i : Int) by omega), cond_true, idx_nat hjl, Option.bind_some, decide_eq_true he]
        · simp only [nlt_dec, cond_false]
      · rw [(dup_run (i := i) (p := fun j => ln l j = l[i]) (R := .inr false) (E := .inl ()) ?_ ?_ ?_).2 hd]
        · have h3 : bad3 n l i = false := by
            unfold bad3
            rw [ln_of hi, hr, hcn]
            cases hh : (List.range i).any fun j => decide (ln l j = l[i]) with
            | false => rfl
            | true => exact absurd (any_dup.1 hh) hd
          have h4 : bad4 n l i = true := by
            cases h4 : bad4 n l i with
            | true => rfl
            | false => exact absurd (chkL_zero.2 ⟨h3, h4⟩) hchk
          have hb4 := bad4_val followsR_val hc hi hl hp
          rw [h4] at hb4
          simp only [Option.bind_some, Sum.elim_inl, hb4, cond_true]
        · intro j hj hne
          have hjl : j < l.length := by omega
          rw [ln_of hjl] at hne
          simp only [decide_eq_true (show (j : Int) < (i : Int) by omega), cond_true, idx_nat hjl, Option.bind_some, decide_eq_false hne, cond_false, wrap_succ hj (show i ≤ 9223372036854775807 by omega)]
        · intro j hj he
          have hjl : j < l.length := by omega
          rw [ln_of hjl] at he
          simp only [decide_eq_true (show (j : Int) < (i : Int) by omega), cond_true, idx_nat hjl, Option.bind_some, decide_eq_true he]
        · simp only [nlt_dec, cond_false]
  · rintro _ ⟨rfl, _⟩
    simp only [nlt_dec, cond_false]
end Q

/-! Chapter 29: Catch and Leave, in both texts. Conditions: lists as a machine can hold them. -/
namespace Q
open Tr Go

abbrev calls (x : RunT) : List CallT := x.2.2.2.2.2.2.2.1

theorem mono_cut (n : Nat) (p : Nat → Bool) (h : ∀ i j, i < j → j < n → p j = true → p i = true) : ∃ k, k ≤ n ∧ ∀ i, i < n → (p i = true ↔ i < k) := by
  induction n with
  | zero => exact ⟨0, Nat.le_refl _, fun i hi => by omega⟩
  | succ n ih =>
    obtain ⟨k, hk, h1⟩ := ih fun i j hij hj => h i j hij (by omega)
    cases hp : p n with
    | true =>
      refine ⟨n + 1, Nat.le_refl _, fun i hi => ⟨fun _ => hi, fun _ => ?_⟩⟩
      by_cases e : i = n
      · subst e; exact hp
      · exact h i n (by omega) (by omega) hp
    | false =>
      refine ⟨k, by omega, fun i hi => ?_⟩
      by_cases e : i = n
      · subst e; rw [hp]; constructor
        · intro h; exact absurd h (by decide)
        · intro h; omega
      · exact h1 i (by omega)

structure LineP (n : NetT) (l : List Int) : Prop where
  pos : 0 < l.length
  rng : ∀ i, i < l.length → inR (ln l i) n.2.2.1.length = true
  canc : ∀ i, i < l.length → canc (rn n (ln l i)) = false
  dist : ∀ i j, i < j → j < l.length → ln l i ≠ ln l j
  fol : ∀ i, i + 1 < l.length → folB (rn n (ln l i)) (rn n (ln l (i + 1))) = true

theorem line_iff {n : NetT} {l : List Int} : isLineB n l = true ↔ LineP n l := by
  unfold isLineB
  rw [Bool.and_eq_true, decide_eq_true_eq, Option.isNone_iff_eq_none, firstBad_iff]
  constructor
  · rintro ⟨h0, h⟩
    have h3 : ∀ i, i < l.length → bad3 n l i = false ∧ bad4 n l i = false := fun i hi => chkL_zero.1 (h i hi)
    have h5 : ∀ i, i < l.length → inR (ln l i) n.2.2.1.length = true ∧ canc (rn n (ln l i)) = false ∧ ((List.range i).any fun j => decide (ln l j = ln l i)) = false := fun i hi => by
      have := (h3 i hi).1
      unfold bad3 at this
      simp only [Bool.or_eq_false_iff, Bool.not_eq_false'] at this
      exact this
    refine ⟨h0, fun i hi => (h5 i hi).1, fun i hi => (h5 i hi).2.1, fun i j hij hj e => ?_, fun i hi => ?_⟩
    · have := (h5 j hj).2.2
      rw [any_dup.2 ⟨i, hij, e⟩] at this
      exact absurd this (by decide)
    · have := (h3 (i + 1) hi).2
      unfold bad4 at this
      simpa using this
  · intro h
    refine ⟨h.pos, fun i hi => chkL_zero.2 ⟨?_, ?_⟩⟩
    · unfold bad3
      rw [h.rng i hi, h.canc i hi]
      simp only [Bool.not_true, Bool.false_or]
      cases hh : (List.range i).any fun j => decide (ln l j = ln l i) with
      | false => rfl
      | true =>
        obtain ⟨j, hj, e⟩ := any_dup.1 hh
        exact absurd e (h.dist j i hj hi)
    · unfold bad4
      by_cases h0 : i = 0
      · subst h0; rfl
      · obtain ⟨k, rfl⟩ : ∃ k, i = k + 1 := ⟨i - 1, by omega⟩
        rw [Nat.add_sub_cancel, h.fol k hi]; simp

structure Fol (a b : RunT) : Prop where
  route : a.2.2.2.2.1 = b.2.2.2.2.1
  free : a.2.2.2.2.2.1 = b.2.2.2.2.2.1
  len : (calls a).length = (calls b).length
  call : ∀ k : Nat, k < (calls a).length → (cl (calls a) k).1 = (cl (calls b) k).1 ∧ (cl (calls a) k).2.2.2.1 = (cl (calls b) k).2.2.2.1 ∧ (cl (calls a) k).2.2.2.2.1 = (cl (calls b) k).2.2.2.2.1 ∧ (cl (calls a) k).2.1 ≤ (cl (calls b) k).2.1 ∧ (cl (calls a) k).2.2.1 ≤ (cl (calls b) k).2.2.1

theorem fol_iff {a b : RunT} : folB a b = true ↔ Fol a b := by
  unfold folB
  simp only [Bool.and_eq_true, decide_eq_true_eq, beq_iff_eq, Option.isNone_iff_eq_none, firstBad_iff]
  have hc : ∀ k : Nat, folC a b k = 0 ↔ ((cl (calls a) k).1 = (cl (calls b) k).1 ∧ (cl (calls a) k).2.2.2.1 = (cl (calls b) k).2.2.2.1 ∧ (cl (calls a) k).2.2.2.2.1 = (cl (calls b) k).2.2.2.2.1 ∧ (cl (calls a) k).2.1 ≤ (cl (calls b) k).2.1 ∧ (cl (calls a) k).2.2.1 ≤ (cl (calls b) k).2.2.1) := fun k => by
    unfold folC
    have e : callOk (cl (calls a) k) (cl (calls b) k) = true ↔ ((cl (calls a) k).1 = (cl (calls b) k).1 ∧ (cl (calls a) k).2.2.2.1 = (cl (calls b) k).2.2.2.1 ∧ (cl (calls a) k).2.2.2.2.1 = (cl (calls b) k).2.2.2.2.1 ∧ (cl (calls a) k).2.1 ≤ (cl (calls b) k).2.1 ∧ (cl (calls a) k).2.2.1 ≤ (cl (calls b) k).2.2.1) := by
      unfold callOk
      simp only [Bool.and_eq_true, Bool.not_eq_true', decide_eq_true_eq, decide_eq_false_iff_not, beq_iff_eq, and_assoc, Int.not_lt]
    rw [← e]
    cases callOk (cl (calls a) k) (cl (calls b) k) <;> simp
  constructor
  · rintro ⟨⟨⟨h1, h2⟩, h3⟩, h4⟩
    exact ⟨h1, h2, h3, fun k hk => (hc k).1 (h4 k hk)⟩
  · intro h
    exact ⟨⟨⟨h.route, h.free⟩, h.len⟩, fun k hk => (hc k).2 (h.call k hk)⟩

theorem Fol.refl (a : RunT) : Fol a a := ⟨rfl, rfl, rfl, fun _ _ => ⟨rfl, rfl, rfl, Int.le_refl _, Int.le_refl _⟩⟩
theorem Fol.trans {a b c : RunT} (h : Fol a b) (k : Fol b c) : Fol a c :=
  ⟨h.route.trans k.route, h.free.trans k.free, h.len.trans k.len, fun q hq => by
    obtain ⟨a1, a2, a3, a4, a5⟩ := h.call q hq
    obtain ⟨b1, b2, b3, b4, b5⟩ := k.call q (by have := h.len; omega)
    exact ⟨a1.trans b1, a2.trans b2, a3.trans b3, Int.le_trans a4 b4, Int.le_trans a5 b5⟩⟩

theorem LineP.mono {n : NetT} {l : List Int} (h : LineP n l) {p q : Nat} (hpq : p ≤ q) (hq : q < l.length) : Fol (rn n (ln l p)) (rn n (ln l q)) := by
  induction q with
  | zero => have : p = 0 := by omega
            subst this; exact .refl _
  | succ q ih =>
    by_cases e : p = q + 1
    · subst e; exact .refl _
    · exact (ih (by omega) (by omega)).trans (fol_iff.1 (h.fol q hq))

/-! ### Catch -/

def depP (n : NetT) (l : List Int) (c : Int) (i : Nat) : Int := (cl (calls (rn n (ln l i))) c).2.2.1
def arrP (n : NetT) (l : List Int) (c : Int) (i : Nat) : Int := (cl (calls (rn n (ln l i))) c).2.1
def inCall (n : NetT) (l : List Int) (c : Int) : Bool := inR c (calls (rn n (ln l 0))).length

theorem LineP.inCall {n : NetT} {l : List Int} (h : LineP n l) {c : Int} {i : Nat} (hi : i < l.length) : inR c (calls (rn n (ln l i))).length = inCall n l c := by
  unfold Q.inCall
  rw [(h.mono (Nat.zero_le i) hi).len]

theorem LineP.times {n : NetT} {l : List Int} (h : LineP n l) {c : Int} (hc : Q.inCall n l c = true) {p q : Nat} (hpq : p ≤ q) (hq : q < l.length) : depP n l c p ≤ depP n l c q ∧ arrP n l c p ≤ arrP n l c q := by
  have hp : p < l.length := by omega
  rw [← h.inCall hp] at hc
  obtain ⟨e1, e2, _⟩ := inR_nat hc
  have := (h.mono hpq hq).call c.toNat e2
  rw [e1] at this
  exact ⟨this.2.2.2.2, this.2.2.2.1⟩

theorem idx_cl {l : List CallT} {c : Int} (h : inR c l.length = true) : Tr.idx l c = some (cl l c) := idx_int h c0

theorem usable_val {n : NetT} {l : List Int} {vb : Bool} (hv : F_line_valid n = some vb) (hc : ∀ x ∈ n.2.2.1, x.2.2.2.2.2.2.2.1.length ≤ 9223372036854775807) (hn : n.2.2.1.length ≤ 4294967296) (hl : l.length ≤ 4611686018427387904) (c : Int) :
    F_line_usable n l c = some (vb && isLineB n l && inCall n l c) := by
  unfold F_line_usable
  rw [isLine_val hv hc hn hl]
  simp only [Option.bind_some]
  cases hb : vb && isLineB n l with
  | false => rfl
  | true =>
    have hL : LineP n l := line_iff.1 (by cases vb <;> simp_all)
    simp only [cond_true, Bool.true_and]
    unfold inCall inR
    by_cases h0 : 0 ≤ c
    · rw [decide_eq_true h0]
      have hr := hL.rng 0 hL.pos
      have e : Tr.idx l (0 : Int) = some (ln l 0) := by
        rw [show (0 : Int) = ((0 : Nat) : Int) from rfl, idx_nat hL.pos, ln_of hL.pos]
      simp only [cond_true, e, Option.bind_some, idx_rn hr, Bool.true_and]
    · rw [decide_eq_false h0]; rfl

theorem catch1_val {n : NetT} {v c at' : Int} (h : inR v n.2.2.1.length = true) (hc : inR c (calls (rn n v)).length = true) : F_line_Catch_1 v n c at' = some (decide ((cl (calls (rn n v)) c).2.2.1 < at')) := by
  unfold F_line_Catch_1
  rw [idx_rn h]
  simp only [Option.bind_some]
  rw [idx_cl hc]; rfl
theorem leave1_val {n : NetT} {v c at' : Int} (h : inR v n.2.2.1.length = true) (hc : inR c (calls (rn n v)).length = true) : F_line_Leave_1 v n c at' = some (decide ((cl (calls (rn n v)) c).2.1 ≤ at')) := by
  unfold F_line_Leave_1
  rw [idx_rn h]
  simp only [Option.bind_some]
  rw [idx_cl hc]; rfl

theorem findC_val {n : NetT} {l : List Int} (h : LineP n l) (hl : l.length ≤ 4611686018427387904) {c at' : Int} (hc : inCall n l c = true) {k : Nat} (hk : k ≤ l.length) (hp : ∀ i, i < l.length → (decide (depP n l c i < at') = true ↔ i < k)) :
    F_line_find_int_X_line_Catch_1 l (n, c, at', ()) = some (k : Int) := by
  unfold F_line_find_int_X_line_Catch_1
  rw [run_half (n := l.length) hk ?_ ?_]
  · rfl
  · intro lo hi hlt hhi
    have hm : lo + (hi - lo) / 2 < l.length := by omega
    simp only [decide_eq_true (show (lo : Int) < (hi : Int) by omega), cond_true, mid_val (show lo ≤ hi by omega) (show hi ≤ 4611686018427387904 by omega), idx_nat hm, Option.bind_some]
    have hr := h.rng _ hm
    have hcc : inR c (calls (rn n (ln l (lo + (hi - lo) / 2)))).length = true := by rw [h.inCall hm]; exact hc
    have hp' := hp _ hm
    unfold depP at hp'
    rw [ln_of hm] at hr hcc hp'
    rw [catch1_val hr hcc]
    simp only [Option.bind_some]
    cases hd : decide ((cl (calls (rn n l[lo + (hi - lo) / 2])) c).2.2.1 < at') with
    | true =>
      rw [if_pos (hp'.1 hd)]
      rw [wrap_i64 (by omega) (by omega)]
      simp only [cond_true]
      rfl
    | false =>
      rw [if_neg (fun hh => by rw [hp'.2 hh] at hd; exact absurd hd (by decide))]
      rfl
  · intro lo
    simp only [decide_eq_false (show ¬ (lo : Int) < (lo : Int) by omega), cond_false]

theorem findL_val {n : NetT} {l : List Int} (h : LineP n l) (hl : l.length ≤ 4611686018427387904) {c at' : Int} (hc : inCall n l c = true) {k : Nat} (hk : k ≤ l.length) (hp : ∀ i, i < l.length → (decide (arrP n l c i ≤ at') = true ↔ i < k)) :
    F_line_find_int_X_line_Leave_1 l (n, c, at', ()) = some (k : Int) := by
  unfold F_line_find_int_X_line_Leave_1
  rw [run_half (n := l.length) hk ?_ ?_]
  · rfl
  · intro lo hi hlt hhi
    have hm : lo + (hi - lo) / 2 < l.length := by omega
    simp only [decide_eq_true (show (lo : Int) < (hi : Int) by omega), cond_true, mid_val (show lo ≤ hi by omega) (show hi ≤ 4611686018427387904 by omega), idx_nat hm, Option.bind_some]
    have hr := h.rng _ hm
    have hcc : inR c (calls (rn n (ln l (lo + (hi - lo) / 2)))).length = true := by rw [h.inCall hm]; exact hc
    have hp' := hp _ hm
    unfold arrP at hp'
    rw [ln_of hm] at hr hcc hp'
    rw [leave1_val hr hcc]
    simp only [Option.bind_some]
    cases hd : decide ((cl (calls (rn n l[lo + (hi - lo) / 2])) c).2.1 ≤ at') with
    | true =>
      rw [if_pos (hp'.1 hd)]
      rw [wrap_i64 (by omega) (by omega)]
      simp only [cond_true]
      rfl
    | false =>
      rw [if_neg (fun hh => by rw [hp'.2 hh] at hd; exact absurd hd (by decide))]
      rfl
  · intro lo
    simp only [decide_eq_false (show ¬ (lo : Int) < (lo : Int) by omega), cond_false]

/-- What Catch answers: the place at which the line is cut, if it is one. -/
theorem catch_val {n : NetT} {l : List Int} {vb : Bool} (hv : F_line_valid n = some vb) (hc : ∀ x ∈ n.2.2.1, x.2.2.2.2.2.2.2.1.length ≤ 9223372036854775807) (hn : n.2.2.1.length ≤ 4294967296) (hl : l.length ≤ 4611686018427387904) (c at' : Int) :
    ((vb && isLineB n l && inCall n l c) = false → F_line_Catch n l c at' = some (0, false)) ∧
    ((vb && isLineB n l && inCall n l c) = true → ∃ k, k ≤ l.length ∧ (∀ i, i < l.length → (decide (depP n l c i < at') = true ↔ i < k)) ∧ F_line_Catch n l c at' = some (if k = l.length then (0, false) else (ln l k, true))) := by
  unfold F_line_Catch
  rw [usable_val hv hc hn hl c]
  constructor
  · intro h; rw [h]; rfl
  · intro h
    rw [h]
    have h' := h
    simp only [Bool.and_eq_true] at h'
    have hL := line_iff.1 h'.1.2
    obtain ⟨k, hk, hp⟩ := mono_cut l.length (fun i => decide (depP n l c i < at')) fun i j hij hj hd => by
      have := (hL.times h'.2 (Nat.le_of_lt hij) hj).1
      simp only [decide_eq_true_eq] at hd ⊢
      omega
    refine ⟨k, hk, hp, ?_⟩
    simp only [Option.bind_some, Bool.not_true, cond_false, findC_val hL hl h'.2 hk hp]
    by_cases e : k = l.length
    · rw [if_pos e, decide_eq_true (show (k : Int) = (l.length : Int) by omega)]; rfl
    · rw [if_neg e, decide_eq_false (show ¬ (k : Int) = (l.length : Int) by omega)]
      have hk' : k < l.length := by omega
      simp only [cond_false, idx_nat hk', Option.bind_some, ln_of hk']

theorem leave_val {n : NetT} {l : List Int} {vb : Bool} (hv : F_line_valid n = some vb) (hc : ∀ x ∈ n.2.2.1, x.2.2.2.2.2.2.2.1.length ≤ 9223372036854775807) (hn : n.2.2.1.length ≤ 4294967296) (hl : l.length ≤ 4611686018427387904) (c at' : Int) :
    ((vb && isLineB n l && inCall n l c) = false → F_line_Leave n l c at' = some (0, false)) ∧
    ((vb && isLineB n l && inCall n l c) = true → ∃ k, k ≤ l.length ∧ (∀ i, i < l.length → (decide (arrP n l c i ≤ at') = true ↔ i < k)) ∧ F_line_Leave n l c at' = some (if k = 0 then (0, false) else (ln l (k - 1), true))) := by
  unfold F_line_Leave
  rw [usable_val hv hc hn hl c]
  constructor
  · intro h; rw [h]; rfl
  · intro h
    rw [h]
    have h' := h
    simp only [Bool.and_eq_true] at h'
    have hL := line_iff.1 h'.1.2
    obtain ⟨k, hk, hp⟩ := mono_cut l.length (fun i => decide (arrP n l c i ≤ at')) fun i j hij hj hd => by
      have := (hL.times h'.2 (Nat.le_of_lt hij) hj).2
      simp only [decide_eq_true_eq] at hd ⊢
      omega
    refine ⟨k, hk, hp, ?_⟩
    simp only [Option.bind_some, Bool.not_true, cond_false, findL_val hL hl h'.2 hk hp]
    by_cases e : k = 0
    · rw [if_pos e, decide_eq_true (show (k : Int) = 0 by omega)]; rfl
    · rw [if_neg e, decide_eq_false (show ¬ (k : Int) = 0 by omega)]
      have hk' : k - 1 < l.length := by omega
      have e2 : IntKind.wrap .i64 ((k : Int) - 1) = ((k - 1 : Nat) : Int) := by rw [wrap_i64 (by omega) (by omega)]; omega
      simp only [cond_false, e2, idx_nat hk', Option.bind_some, ln_of hk']

/-! ### The reference's -/

theorem catchR_val {n : NetT} {l : List Int} (h : LineP n l) (hl : l.length ≤ 4611686018427387904) (c at' : Int) :
    (inCall n l c = false → F_ref29_Catch n l c at' = some (0, false)) ∧
    (inCall n l c = true → ∀ k, k ≤ l.length → (∀ i, i < l.length → (decide (depP n l c i < at') = true ↔ i < k)) → F_ref29_Catch n l c at' = some (if k = l.length then (0, false) else (ln l k, true))) := by
  have main : F_ref29_Catch n l c at' = some (pick l.length (fun i => if inCall n l c && !decide (depP n l c i < at') then 1 else 0) (fun i => (ln l i, true)) (0, false)) := by
    unfold F_ref29_Catch
    rw [scan_run (n := l.length) (fun i st => st = (i : Int)) (fun i => if inCall n l c && !decide (depP n l c i < at') then 1 else 0) (fun i => .inr (ln l i, true)) (.inl ()) ?_ ?_ ?_ (0 : Int) rfl]
    · unfold pick
      cases firstBad l.length _ <;> rfl
    all_goals first | (rintro _ rfl; simp only [nlt_dec, cond_false]) | skip
    · rintro i _ hi rfl hchk
      refine ⟨((i + 1 : Nat) : Int), ?_, rfl⟩
      have hr := h.rng i hi
      have hcc := h.inCall (c := c) hi
      simp only [lt_dec hi, cond_true, idx_nat hi, Option.bind_some]
      unfold depP at hchk
      rw [ln_of hi] at hr hcc hchk
      rw [idx_rn hr]
      simp only [Option.bind_some]
      rw [← hcc] at hchk
      cases hic : inR c (calls (rn n l[i])).length with
      | false =>
        unfold inR at hic
        cases h1 : decide (0 ≤ c) with
        | false => simp only [cond_false, Option.bind_some, wrap_succ hi (show l.length ≤ 9223372036854775807 by omega)]
        | true =>
          rw [h1, Bool.true_and] at hic
          simp only [cond_true, hic, cond_false, Option.bind_some, wrap_succ hi (show l.length ≤ 9223372036854775807 by omega)]
      | true =>
        have e := idx_cl hic
        rw [hic] at hchk
        obtain ⟨_, _, e3, e4⟩ := inR_nat hic
        have hd : decide ((cl (calls (rn n l[i])) c).2.2.1 < at') = true := by
          cases hd : decide ((cl (calls (rn n l[i])) c).2.2.1 < at') with
          | true => rfl
          | false => rw [hd] at hchk; simp at hchk
        have hd' : ¬ at' ≤ (cl (calls (rn n l[i])) c).2.2.1 := by have := of_decide_eq_true hd; omega
        simp only [decide_eq_true e3, decide_eq_true e4, cond_true, e, Option.bind_some, decide_eq_false hd', cond_false, wrap_succ hi (show l.length ≤ 9223372036854775807 by omega)]
    · rintro i _ hi rfl hchk
      have hr := h.rng i hi
      have hcc := h.inCall (c := c) hi
      simp only [lt_dec hi, cond_true, idx_nat hi, Option.bind_some]
      unfold depP at hchk
      rw [ln_of hi] at hr hcc hchk ⊢
      rw [idx_rn hr]
      simp only [Option.bind_some]
      rw [← hcc] at hchk
      cases hic : inR c (calls (rn n l[i])).length with
      | false => rw [hic] at hchk; simp at hchk
      | true =>
        have e := idx_cl hic
        rw [hic] at hchk
        obtain ⟨_, _, e3, e4⟩ := inR_nat hic
        have hd : decide ((cl (calls (rn n l[i])) c).2.2.1 < at') = false := by
          cases hd : decide ((cl (calls (rn n l[i])) c).2.2.1 < at') with
          | false => rfl
          | true => rw [hd] at hchk; simp at hchk
        have hd' : at' ≤ (cl (calls (rn n l[i])) c).2.2.1 := by have := of_decide_eq_false hd; omega
        simp only [decide_eq_true e3, decide_eq_true e4, cond_true, e, Option.bind_some, decide_eq_true hd']
  rw [main]
  unfold pick
  constructor
  · intro hf
    rw [firstBad_none fun j hj => by rw [hf]; rfl]
  · intro ht k hk hp
    by_cases e : k = l.length
    · rw [if_pos e, firstBad_none fun j hj => by rw [ht, (hp j hj).2 (by omega)]; rfl]
    · rw [if_neg e, firstBad_some (i := k) (by omega) (fun j hj => by rw [ht, (hp j (by omega)).2 hj]; rfl) ?_]
      have : decide (depP n l c k < at') = false := by
        cases hd : decide (depP n l c k < at') with
        | false => rfl
        | true => have := (hp k (by omega)).1 hd; omega
      rw [ht, this]; decide

theorem leaveR_val {n : NetT} {l : List Int} (h : LineP n l) (hl : l.length ≤ 4611686018427387904) (c at' : Int) :
    (inCall n l c = false → F_ref29_Leave n l c at' = some (0, false)) ∧
    (inCall n l c = true → ∀ k, k ≤ l.length → (∀ i, i < l.length → (decide (arrP n l c i ≤ at') = true ↔ i < k)) → F_ref29_Leave n l c at' = some (if k = 0 then (0, false) else (ln l (k - 1), true))) := by
  have main : F_ref29_Leave n l c at' = some (pick l.length (fun i => if inCall n l c && decide (arrP n l c (l.length - 1 - i) ≤ at') then 1 else 0) (fun i => (ln l (l.length - 1 - i), true)) (0, false)) := by
    unfold F_ref29_Leave
    have h0 := h.pos
    have e0 : IntKind.wrap .i64 ((l.length : Int) - 1) = (l.length : Int) - 1 - ((0 : Nat) : Int) := by rw [wrap_i64 (by omega) (by omega)]; omega
    rw [e0]
    rw [scan_run (n := l.length) (fun i st => st = (l.length : Int) - 1 - (i : Int)) (fun i => if inCall n l c && decide (arrP n l c (l.length - 1 - i) ≤ at') then 1 else 0) (fun i => .inr (ln l (l.length - 1 - i), true)) (.inl ()) ?_ ?_ ?_ _ rfl]
    · unfold pick
      cases firstBad l.length _ <;> rfl
    all_goals first | (rintro _ rfl; simp only [decide_eq_false (show ¬ (0 : Int) ≤ (l.length : Int) - 1 - (l.length : Int) by omega), cond_false]) | skip
    · rintro j _ hj rfl hchk
      have hi : l.length - 1 - j < l.length := by omega
      have e1 : (l.length : Int) - 1 - (j : Int) = ((l.length - 1 - j : Nat) : Int) := by omega
      have e2 : IntKind.wrap .i64 (((l.length - 1 - j : Nat) : Int) - 1) = (l.length : Int) - 1 - ((j + 1 : Nat) : Int) := by rw [wrap_i64 (by omega) (by omega)]; omega
      refine ⟨(l.length : Int) - 1 - ((j + 1 : Nat) : Int), ?_, rfl⟩
      rw [e1]
      generalize l.length - 1 - j = i at *
      have hr := h.rng i hi
      have hcc := h.inCall (c := c) hi
      simp only [decide_eq_true (show (0 : Int) ≤ (i : Int) by omega), cond_true, idx_nat hi, Option.bind_some]
      unfold arrP at hchk
      rw [ln_of hi] at hr hcc hchk
      rw [idx_rn hr]
      simp only [Option.bind_some]
      rw [← hcc] at hchk
      cases hic : inR c (calls (rn n l[i])).length with
      | false =>
        unfold inR at hic
        cases h1 : decide (0 ≤ c) with
        | false => simp only [cond_false, Option.bind_some, e2]
        | true =>
          rw [h1, Bool.true_and] at hic
          simp only [cond_true, hic, cond_false, Option.bind_some, e2]
      | true =>
        have e := idx_cl hic
        rw [hic] at hchk
        obtain ⟨_, _, e3, e4⟩ := inR_nat hic
        have hd : decide ((cl (calls (rn n l[i])) c).2.1 ≤ at') = false := by
          cases hd : decide ((cl (calls (rn n l[i])) c).2.1 ≤ at') with
          | false => rfl
          | true => rw [hd] at hchk; simp at hchk
        simp only [decide_eq_true e3, decide_eq_true e4, cond_true, e, Option.bind_some, hd, cond_false, e2]
    · rintro j _ hj rfl hchk
      have hi : l.length - 1 - j < l.length := by omega
      have e1 : (l.length : Int) - 1 - (j : Int) = ((l.length - 1 - j : Nat) : Int) := by omega
      rw [e1]
      generalize l.length - 1 - j = i at *
      have hr := h.rng i hi
      have hcc := h.inCall (c := c) hi
      simp only [decide_eq_true (show (0 : Int) ≤ (i : Int) by omega), cond_true, idx_nat hi, Option.bind_some]
      unfold arrP at hchk
      rw [ln_of hi] at hr hcc hchk ⊢
      rw [idx_rn hr]
      simp only [Option.bind_some]
      rw [← hcc] at hchk
      cases hic : inR c (calls (rn n l[i])).length with
      | false => rw [hic] at hchk; simp at hchk
      | true =>
        have e := idx_cl hic
        rw [hic] at hchk
        obtain ⟨_, _, e3, e4⟩ := inR_nat hic
        have hd : decide ((cl (calls (rn n l[i])) c).2.1 ≤ at') = true := by
          cases hd : decide ((cl (calls (rn n l[i])) c).2.1 ≤ at') with
          | true => rfl
          | false => rw [hd] at hchk; simp at hchk
        simp only [decide_eq_true e3, decide_eq_true e4, cond_true, e, Option.bind_some, hd]
  rw [main]
  unfold pick
  constructor
  · intro hf
    rw [firstBad_none fun j hj => by rw [hf]; rfl]
  · intro ht k hk hp
    have hno : ∀ i, i < l.length → k ≤ i → decide (arrP n l c i ≤ at') = false := fun i hi hki => by
      cases hd : decide (arrP n l c i ≤ at') with
      | false => rfl
      | true => have := (hp i hi).1 hd; omega
    by_cases e : k = 0
    · rw [if_pos e, firstBad_none fun j hj => by rw [ht, hno _ (by omega) (by omega)]; rfl]
    · rw [if_neg e, firstBad_some (i := l.length - k) (by omega) (fun j hj => by rw [ht, hno _ (by omega) (by omega)]; rfl) ?_]
      · show some (ln l (l.length - 1 - (l.length - k)), true) = _
        rw [show l.length - 1 - (l.length - k) = k - 1 by omega]
      · rw [show l.length - 1 - (l.length - k) = k - 1 by omega, ht, (hp (k - 1) (by omega)).2 (by omega)]; decide
end Q

/-! Chapter 29: the laws of IsLine, Catch and Leave in plain Lean. Conditions: texts and lists as a machine can hold them. -/
namespace Q
open Tr Go

theorem example_true : F_law29_exampleHolds = some true := by kernel_rfl

theorem fit_of {n : NetT} (h : Good Y31 n) (hp : n.2.2.2.2.1.length ≤ 4096) : Fit n := by
  obtain ⟨⟨_, h1⟩, ⟨_, h2⟩, ⟨_, h3⟩, _, _, ⟨⟨_, h6⟩, _⟩, _⟩ := h
  refine ⟨fun x hx => ?_, fun x hx => ?_, fun x hx => ?_, fun x hx => ?_, hp, fun x hx => ?_⟩
  · exact (h1 x hx).1
  · exact (h2 x hx).1
  · exact (h3 x hx).2.2.2.1
  · exact (h3 x hx).2.2.2.2.2.2.2.1.1
  · exact (h6 x hx).1

theorem few_val (n : NetT) : ∃ b, F_law29_few n = some b ∧ (b = true → n.2.2.1.length ≤ 40 ∧ n.2.2.2.2.1.length ≤ 80) := by
  unfold F_law29_few
  by_cases h1 : (70 : Int) < (n.1.length : Int)
  · rw [decide_eq_true h1]; exact ⟨false, rfl, fun e => (nomatch e)⟩
  by_cases h2 : (70 : Int) < (n.2.1.length : Int)
  · rw [decide_eq_false h1, decide_eq_true h2]; exact ⟨false, rfl, fun e => (nomatch e)⟩
  by_cases h3 : (40 : Int) < (n.2.2.1.length : Int)
  · rw [decide_eq_false h1, decide_eq_false h2, decide_eq_true h3]; exact ⟨false, rfl, fun e => (nomatch e)⟩
  by_cases h4 : (80 : Int) < (n.2.2.2.1.length : Int)
  · rw [decide_eq_false h1, decide_eq_false h2, decide_eq_false h3, decide_eq_true h4]; exact ⟨false, rfl, fun e => (nomatch e)⟩
  by_cases h5 : (80 : Int) < (n.2.2.2.2.1.length : Int)
  · rw [decide_eq_false h1, decide_eq_false h2, decide_eq_false h3, decide_eq_false h4, decide_eq_true h5]; exact ⟨false, rfl, fun e => (nomatch e)⟩
  by_cases h6 : (20 : Int) < (n.2.2.2.2.2.1.1.length : Int)
  · rw [decide_eq_false h1, decide_eq_false h2, decide_eq_false h3, decide_eq_false h4, decide_eq_false h5, decide_eq_true h6]; exact ⟨false, rfl, fun e => (nomatch e)⟩
  rw [decide_eq_false h1, decide_eq_false h2, decide_eq_false h3, decide_eq_false h4, decide_eq_false h5, decide_eq_false h6]
  simp only [cond_false, Option.bind_some]
  have hl : n.2.2.1.length ≤ 9223372036854775807 := by omega
  rw [scan_run (n := n.2.2.1.length) (fun i (st : Int) => st = (i : Int)) (fun i => if 40 < ((n.2.2.1[i]?).getD u0).2.2.2.2.2.2.2.1.length then 1 else 0) (fun _ => .inr false) (.inl ()) ?_ ?_ ?_ (0 : Int) rfl]
  · unfold pick
    cases firstBad n.2.2.1.length (fun i => if 40 < ((n.2.2.1[i]?).getD u0).2.2.2.2.2.2.2.1.length then 1 else 0) with
    | none => exact ⟨true, rfl, fun _ => by omega⟩
    | some i => exact ⟨false, rfl, fun e => (nomatch e)⟩
  · rintro i _ hi rfl hc
    rw [getD_of hi] at hc
    split at hc
    · omega
    · next hh =>
      refine ⟨((i + 1 : Nat) : Int), ?_, rfl⟩
      simp only [lt_dec hi, cond_true, idx_nat hi, Option.bind_some, decide_eq_false (show ¬ (40 : Int) < ((n.2.2.1[i]).2.2.2.2.2.2.2.1.length : Int) by omega), cond_false, wrap_succ hi hl]
  · rintro i _ hi rfl hc
    rw [getD_of hi] at hc
    split at hc
    · next hh =>
      simp only [lt_dec hi, cond_true, idx_nat hi, Option.bind_some, decide_eq_true (show (40 : Int) < ((n.2.2.1[i]).2.2.2.2.2.2.2.1.length : Int) by omega)]
    · omega
  · rintro _ rfl
    simp only [nlt_dec, cond_false]

theorem nvalid_val {n : NetT} (hf : Fit n) : ∃ vb, F_line_valid n = some vb ∧ F_ref26_Valid n = some vb ∧ (vb = true → Sound n) := by
  obtain ⟨c, hc1, hc2, hc3⟩ := check_same n hf
  refine ⟨decide (c.2.2 = 0), ?_, ?_, fun h => hc3 (of_decide_eq_true h)⟩
  · unfold F_line_valid; rw [hc1]; rfl
  · unfold F_ref26_Valid; rw [hc2]; rfl

theorem checks (n : NetT) (l : List Int) (h : Good Y31 n) : F_law29_LineChecks n l = some true := by
  unfold F_law29_LineChecks
  obtain ⟨b, hb1, hb2⟩ := few_val n
  rw [hb1, example_true]
  simp only [Option.bind_some]
  cases b with
  | false => rfl
  | true =>
    obtain ⟨h1, h2⟩ := hb2 rfl
    simp only [Bool.not_true, cond_false, Option.bind_some]
    by_cases h3 : (60 : Int) < ((l.length : Nat) : Int)
    · rw [decide_eq_true h3]; rfl
    rw [decide_eq_false h3]
    have hl : l.length ≤ 4611686018427387904 := by omega
    have hf := fit_of h (by have : n.2.2.2.2.1.length ≤ 80 := h2; omega)
    obtain ⟨vb, e1, e2, _⟩ := nvalid_val hf
    rw [isLine_val e1 hf.calls (by omega) hl, e2, isLineR_val hf.calls hl]
    simp only [cond_false, Option.bind_some]
    cases vb <;> cases isLineB n l <;> rfl

theorem catches (n : NetT) (a : List Int × Int × Int × Unit) (h : Good Y31 n) : F_law29_LineCatches n a = some true := by
  unfold F_law29_LineCatches
  obtain ⟨b, hb1, hb2⟩ := few_val n
  rw [hb1, example_true]
  simp only [Option.bind_some]
  cases b with
  | false => rfl
  | true =>
    obtain ⟨h1, h2⟩ := hb2 rfl
    simp only [Bool.not_true, cond_false, Option.bind_some]
    by_cases h3 : (60 : Int) < ((a.1.length : Nat) : Int)
    · rw [decide_eq_true h3]; rfl
    rw [decide_eq_false h3]
    have hl : a.1.length ≤ 4611686018427387904 := by omega
    have hf := fit_of h (by have : n.2.2.2.2.1.length ≤ 80 := h2; omega)
    obtain ⟨vb, e1, e2, _⟩ := nvalid_val hf
    obtain ⟨c1, c2⟩ := catch_val e1 hf.calls (by omega) hl a.2.1 a.2.2.1
    rw [e2, isLineR_val hf.calls hl]
    simp only [cond_false, Option.bind_some]
    cases hb : vb && isLineB n a.1 with
    | false =>
      rw [c1 (by rw [hb]; rfl)]
      cases vb with
      | false => rfl
      | true => rw [Bool.true_and] at hb; rw [hb]; rfl
    | true =>
      have hv : vb = true ∧ isLineB n a.1 = true := by simpa using hb
      obtain ⟨d1, d2⟩ := catchR_val (line_iff.1 hv.2) hl a.2.1 a.2.2.1
      rw [hv.1, hv.2]
      simp only [Bool.not_true, cond_false, Option.bind_some]
      cases hi : inCall n a.1 a.2.1 with
      | false =>
        rw [c1 (by rw [hb, hi]; rfl), d1 hi]; rfl
      | true =>
        obtain ⟨k, k1, k2, k3⟩ := c2 (by rw [hb, hi]; rfl)
        rw [k3, d2 hi k k1 k2]
        simp only [Option.bind_some, decide_true, cond_true, beq_self_eq_true]

theorem leaves (n : NetT) (a : List Int × Int × Int × Unit) (h : Good Y31 n) : F_law29_LineLeaves n a = some true := by
  unfold F_law29_LineLeaves
  obtain ⟨b, hb1, hb2⟩ := few_val n
  rw [hb1, example_true]
  simp only [Option.bind_some]
  cases b with
  | false => rfl
  | true =>
    obtain ⟨h1, h2⟩ := hb2 rfl
    simp only [Bool.not_true, cond_false, Option.bind_some]
    by_cases h3 : (60 : Int) < ((a.1.length : Nat) : Int)
    · rw [decide_eq_true h3]; rfl
    rw [decide_eq_false h3]
    have hl : a.1.length ≤ 4611686018427387904 := by omega
    have hf := fit_of h (by have : n.2.2.2.2.1.length ≤ 80 := h2; omega)
    obtain ⟨vb, e1, e2, _⟩ := nvalid_val hf
    obtain ⟨c1, c2⟩ := leave_val e1 hf.calls (by omega) hl a.2.1 a.2.2.1
    rw [e2, isLineR_val hf.calls hl]
    simp only [cond_false, Option.bind_some]
    cases hb : vb && isLineB n a.1 with
    | false =>
      rw [c1 (by rw [hb]; rfl)]
      cases vb with
      | false => rfl
      | true => rw [Bool.true_and] at hb; rw [hb]; rfl
    | true =>
      have hv : vb = true ∧ isLineB n a.1 = true := by simpa using hb
      obtain ⟨d1, d2⟩ := leaveR_val (line_iff.1 hv.2) hl a.2.1 a.2.2.1
      rw [hv.1, hv.2]
      simp only [Bool.not_true, cond_false, Option.bind_some]
      cases hi : inCall n a.1 a.2.1 with
      | false =>
        rw [c1 (by rw [hb, hi]; rfl), d1 hi]; rfl
      | true =>
        obtain ⟨k, k1, k2, k3⟩ := c2 (by rw [hb, hi]; rfl)
        rw [k3, d2 hi k k1 k2]
        simp only [Option.bind_some, decide_true, cond_true, beq_self_eq_true]

theorem overtaken_val (a b : List CallT) (he : a.length = b.length) (hl : a.length ≤ 9223372036854775807)
    (h : (∀ k : Nat, k < a.length → (cl b k).2.2.1 ≤ (cl a k).2.2.1) ∨ (∀ k : Nat, k < a.length → (cl a k).2.1 ≤ (cl b k).2.1)) : F_law29_overtaken a b = some false := by
  unfold F_law29_overtaken
  refine Exists.elim (run_for (τ := Bool × Bool) a.length (fun r => r.1 = false ∨ r.2 = false)
    (fun i (s : Bool × Bool × Int) => s.2.2 = (i : Int) ∧ ((∀ k : Nat, k < a.length → (cl b k).2.2.1 ≤ (cl a k).2.2.1) → s.1 = false) ∧ ((∀ k : Nat, k < a.length → (cl a k).2.1 ≤ (cl b k).2.1) → s.2.1 = false))
    (step := fun s0 =>
        bif Decidable.decide (s0.snd.snd < (↑(List.length a) : Int)) then
          Option.bind
            (bif s0.fst then Option.some Bool.true
            else Option.bind (Tr.idx a s0.snd.snd) fun x1 => Option.bind (Tr.idx b s0.snd.snd) fun x2 => Option.some (Decidable.decide (x1.snd.snd.fst < x2.snd.snd.fst)))
            fun x3 =>
            Option.bind
              (bif s0.snd.fst then Option.some Bool.true
              else Option.bind (Tr.idx a s0.snd.snd) fun x4 => Option.bind (Tr.idx b s0.snd.snd) fun x5 => Option.some (Decidable.decide (x5.snd.fst < x4.snd.fst)))
              fun x6 => Option.some (Sum.inl (x3, x6, Go.IntKind.wrap Go.IntKind.i64 (s0.snd.snd + (1 : Int))))
        else Option.some (Sum.inr (s0.fst, s0.snd.fst))) ?_ ?_ (false, false, (0 : Int)) ⟨rfl, fun _ => rfl, fun _ => rfl⟩) ?_
  rotate_left 2
  · rintro r ⟨hr, hp⟩
    refine (congrArg (Option.bind · _) hr).trans ?_
    obtain ⟨r1, r2⟩ := r
    rcases hp with rfl | rfl
    · rfl
    · cases r1 <;> rfl
  · rintro i ⟨x, y, ii⟩ hi ⟨hii, hx, hy⟩
    simp only at hii hx hy
    subst hii
    have hi' : i < b.length := by omega
    refine .inl ⟨(x || decide ((a[i]).2.2.1 < (b[i]).2.2.1), y || decide ((b[i]).2.1 < (a[i]).2.1), ((i + 1 : Nat) : Int)), ?_, rfl, fun hc => ?_, fun hc => ?_⟩
    · simp only [lt_dec hi, cond_true, idx_nat hi, idx_nat hi', Option.bind_some]
      cases x <;> cases y <;> simp only [cond_true, cond_false, Option.bind_some, Bool.true_or, Bool.false_or, wrap_succ hi hl]
    · have := hc i hi
      rw [cl_nat hi, cl_nat hi'] at this
      simp only [hx hc, Bool.false_or, decide_eq_false_iff_not]
      omega
    · have := hc i hi
      rw [cl_nat hi, cl_nat hi'] at this
      simp only [hy hc, Bool.false_or, decide_eq_false_iff_not]
      omega
  · rintro ⟨x, y, ii⟩ ⟨hii, hx, hy⟩
    simp only at hii hx hy
    subst hii
    refine ⟨(x, y), ?_, ?_⟩
    · simp only [nlt_dec, cond_false]
    · rcases h with h | h
      · exact .inl (hx h)
      · exact .inr (hy h)

theorem fifo (n : NetT) (l : List Int) (h : Good Y31 n) : F_law29_LineFifo n l = some true := by
  unfold F_law29_LineFifo
  obtain ⟨b, hb1, hb2⟩ := few_val n
  rw [hb1, example_true]
  simp only [Option.bind_some]
  cases b with
  | false => rfl
  | true =>
    obtain ⟨h1, h2⟩ := hb2 rfl
    simp only [Bool.not_true, cond_false]
    by_cases h3 : (60 : Int) < ((l.length : Nat) : Int)
    · rw [decide_eq_true h3]; rfl
    rw [decide_eq_false h3]
    have hl : l.length ≤ 4611686018427387904 := by omega
    have hl' : l.length ≤ 9223372036854775807 := by omega
    have hf := fit_of h (by have : n.2.2.2.2.1.length ≤ 80 := h2; omega)
    obtain ⟨vb, e1, e2, _⟩ := nvalid_val hf
    rw [isLine_val e1 hf.calls (by omega) hl]
    simp only [cond_false, Option.bind_some]
    cases hb : vb && isLineB n l with
    | false => rfl
    | true =>
      have hv : vb = true ∧ isLineB n l = true := by simpa using hb
      have hL := line_iff.1 hv.2
      simp only [Bool.not_true, cond_false]
      rw [scan_run (n := l.length) (fun i st => st = (i : Int)) (fun _ => 0) (fun _ => .inr false) (.inl ()) ?_ ?_ ?_ (0 : Int) rfl]
      · unfold pick
        rw [firstBad_none fun _ _ => rfl]
        rfl
      · rintro i _ hi rfl _
        refine ⟨((i + 1 : Nat) : Int), ?_, rfl⟩
        simp only [lt_dec hi, cond_true, idx_nat hi, Option.bind_some]
        rw [scan_run (n := l.length) (fun i st => st = (i : Int)) (fun _ => 0) (fun _ => .inr false) (.inl ()) ?_ ?_ ?_ (0 : Int) rfl]
        · unfold pick
          rw [firstBad_none fun _ _ => rfl]
          simp only [Option.bind_some, Sum.elim_inl, wrap_succ hi hl']
        · rintro j _ hj rfl _
          refine ⟨((j + 1 : Nat) : Int), ?_, rfl⟩
          have r1 := hL.rng i hi
          have r2 := hL.rng j hj
          have hfol : Fol (rn n (ln l i)) (rn n (ln l j)) ∨ Fol (rn n (ln l j)) (rn n (ln l i)) := by
            by_cases hij : i ≤ j
            · exact .inl (hL.mono hij hj)
            · exact .inr (hL.mono (by omega) hi)
          rw [ln_of hi] at r1 hfol
          rw [ln_of hj] at r2 hfol
          obtain ⟨_, _, a3, a4⟩ := inR_nat r1
          obtain ⟨_, _, b3, b4⟩ := inR_nat r2
          have hlen : (rn n l[i]).2.2.2.2.2.2.2.1.length = (rn n l[j]).2.2.2.2.2.2.2.1.length := by
            rcases hfol with h | h
            · exact h.len
            · exact h.len.symm
          have ho : F_law29_overtaken (rn n l[i]).2.2.2.2.2.2.2.1 (rn n l[j]).2.2.2.2.2.2.2.1 = some false := by
            refine overtaken_val _ _ hlen (calls_of hf.calls _) ?_
            rcases hfol with h | h
            · exact .inr fun k hk => (h.call k hk).2.2.2.1
            · exact .inl fun k hk => (h.call k (by have : (calls (rn n l[j])).length = (calls (rn n l[i])).length := h.len; rw [this]; exact hk)).2.2.2.2
          simp only [lt_dec hj, cond_true, idx_nat hj, Option.bind_some, decide_eq_false (show ¬ l[i] < 0 by omega), decide_eq_false (show ¬ (n.2.2.1.length : Int) ≤ l[i] by omega), decide_eq_false (show ¬ l[j] < 0 by omega), decide_eq_false (show ¬ (n.2.2.1.length : Int) ≤ l[j] by omega), cond_false]
          erw [idx_rn r1, idx_rn r2]
          simp only [Option.bind_some, decide_eq_true (show ((rn n l[i]).2.2.2.2.2.2.2.1.length : Int) = ((rn n l[j]).2.2.2.2.2.2.2.1.length : Int) by omega), Bool.not_true, cond_false, ho, wrap_succ hj hl']
        · intro j s _ _ hh; exact absurd rfl hh
        · rintro _ rfl
          simp only [nlt_dec, cond_false]
      · intro j s _ _ hh; exact absurd rfl hh
      · rintro _ rfl
        simp only [nlt_dec, cond_false]

theorem place_val {n : NetT} {l : List Int} (h : LineP n l) (hl : l.length ≤ 9223372036854775807) {k : Nat} (hk : k < l.length) : F_law29_place l (ln l k) = some (k : Int) := by
  unfold F_law29_place
  rw [scan_run (n := l.length) (fun i st => st = (i : Int)) (fun i => if ln l i = ln l k then 1 else 0) (fun i => .inr (i : Int)) (.inl ()) ?_ ?_ ?_ (0 : Int) rfl]
  · unfold pick
    rw [firstBad_some (i := k) hk (fun j hj => by rw [if_neg (h.dist j k hj hk)]) (by rw [if_pos rfl]; decide)]
    rfl
  · rintro i _ hi rfl hc
    refine ⟨((i + 1 : Nat) : Int), ?_, rfl⟩
    have : ¬ l[i] = ln l k := by
      intro e
      rw [if_pos (by rw [ln_of hi]; exact e)] at hc
      omega
    simp only [lt_dec hi, cond_true, idx_nat hi, Option.bind_some, decide_eq_false this, cond_false, wrap_succ hi hl]
  · rintro i _ hi rfl hc
    have : l[i] = ln l k := by
      by_cases e : l[i] = ln l k
      · exact e
      · rw [if_neg (by rw [ln_of hi]; exact e)] at hc
        exact absurd rfl hc
    simp only [lt_dec hi, cond_true, idx_nat hi, Option.bind_some, decide_eq_true this]
  · rintro _ rfl
    simp only [nlt_dec, cond_false]

theorem later (n : NetT) (a : List Int × Int × Int × Unit) (t : Int) (h : Good Y31 n) : F_law29_LineLater n a t = some true := by
  unfold F_law29_LineLater
  obtain ⟨b, hb1, hb2⟩ := few_val n
  rw [hb1, example_true]
  simp only [Option.bind_some]
  cases b with
  | false => rfl
  | true =>
    obtain ⟨h1, h2⟩ := hb2 rfl
    simp only [Bool.not_true, cond_false]
    by_cases h3 : (60 : Int) < ((a.1.length : Nat) : Int)
    · rw [decide_eq_true h3]; rfl
    rw [decide_eq_false h3]
    simp only [cond_false]
    by_cases h4 : t < a.2.2.1
    · rw [decide_eq_true h4]; rfl
    rw [decide_eq_false h4]
    have hl : a.1.length ≤ 4611686018427387904 := by omega
    have hl' : a.1.length ≤ 9223372036854775807 := by omega
    have hf := fit_of h (by have : n.2.2.2.2.1.length ≤ 80 := h2; omega)
    obtain ⟨vb, e1, e2, _⟩ := nvalid_val hf
    rw [isLine_val e1 hf.calls (by omega) hl]
    simp only [cond_false, Option.bind_some]
    cases hb : vb && isLineB n a.1 with
    | false => rfl
    | true =>
      have hv : vb = true ∧ isLineB n a.1 = true := by simpa using hb
      have hL := line_iff.1 hv.2
      simp only [Bool.not_true, cond_false]
      obtain ⟨c1, c2⟩ := catch_val e1 hf.calls (by omega) hl a.2.1 a.2.2.1
      obtain ⟨c3, c4⟩ := catch_val e1 hf.calls (by omega) hl a.2.1 t
      obtain ⟨d1, d2⟩ := leave_val e1 hf.calls (by omega) hl a.2.1 a.2.2.1
      obtain ⟨d3, d4⟩ := leave_val e1 hf.calls (by omega) hl a.2.1 t
      cases hi : inCall n a.1 a.2.1 with
      | false =>
        have hh : (vb && isLineB n a.1 && inCall n a.1 a.2.1) = false := by rw [hb, hi]; rfl
        rw [c1 hh, c3 hh, d1 hh, d3 hh]; rfl
      | true =>
        have hh : (vb && isLineB n a.1 && inCall n a.1 a.2.1) = true := by rw [hb, hi]; rfl
        obtain ⟨k1, k2, k3, k4⟩ := c2 hh
        obtain ⟨m1, m2, m3, m4⟩ := c4 hh
        have ht : a.2.2.1 ≤ t := by omega
        have hkm : k1 ≤ m1 := by
          by_cases hlt : m1 < k1
          · have hm : m1 < a.1.length := by omega
            have := of_decide_eq_true ((k3 m1 hm).2 hlt)
            have h6 := (m3 m1 hm).1 (decide_eq_true (by omega))
            omega
          · omega
        obtain ⟨p1, p2, p3, p4⟩ := d2 hh
        obtain ⟨q1, q2, q3, q4⟩ := d4 hh
        have hpq : p1 ≤ q1 := by
          by_cases hlt : q1 < p1
          · have hm : q1 < a.1.length := by omega
            have := of_decide_eq_true ((p3 q1 hm).2 hlt)
            have h6 := (q3 q1 hm).1 (decide_eq_true (by omega))
            omega
          · omega
        rw [k4, m4, p4, q4]
        simp only [Option.bind_some]
        have first : (bif (if m1 = a.1.length then ((0 : Int), false) else (ln a.1 m1, true)).2 then
              bif !(if k1 = a.1.length then ((0 : Int), false) else (ln a.1 k1, true)).2 then Option.some Bool.true
              else Option.bind (F_law29_place a.1 (if m1 = a.1.length then ((0 : Int), false) else (ln a.1 m1, true)).1) fun x6 => Option.bind (F_law29_place a.1 (if k1 = a.1.length then ((0 : Int), false) else (ln a.1 k1, true)).1) fun x7 => Option.some (Decidable.decide (x6 < x7))
            else Option.some Bool.false) = some false := by
          by_cases e : m1 = a.1.length
          · rw [if_pos e]; rfl
          · rw [if_neg e, if_neg (by omega)]
            simp only [cond_true, Bool.not_true, cond_false, place_val hL hl' (show m1 < a.1.length by omega), place_val hL hl' (show k1 < a.1.length by omega), Option.bind_some]
            rw [decide_eq_false (show ¬ (m1 : Int) < (k1 : Int) by omega)]
        rw [first]
        simp only [Option.bind_some, cond_false]
        by_cases e : p1 = 0
        · rw [if_pos e]; rfl
        · rw [if_neg e, if_neg (by omega)]
          simp only [cond_true, Bool.not_true, cond_false, place_val hL hl' (show q1 - 1 < a.1.length by omega), place_val hL hl' (show p1 - 1 < a.1.length by omega), Option.bind_some]
          rw [decide_eq_true (show ((p1 - 1 : Nat) : Int) ≤ ((q1 - 1 : Nat) : Int) by omega)]; rfl

theorem checksP (x : ElPs F_law29_LineChecksA) (hx : GoodPs F_law29_LineChecksA x) : F_law29_LineChecks x.1 x.2.1 = some true := checks x.1 x.2.1 hx.1
theorem catchesP (x : ElPs F_law29_LineCatchesA) (hx : GoodPs F_law29_LineCatchesA x) : F_law29_LineCatches x.1 x.2.1 = some true := catches x.1 x.2.1 hx.1
theorem leavesP (x : ElPs F_law29_LineLeavesA) (hx : GoodPs F_law29_LineLeavesA x) : F_law29_LineLeaves x.1 x.2.1 = some true := leaves x.1 x.2.1 hx.1
theorem fifoP (x : ElPs F_law29_LineFifoA) (hx : GoodPs F_law29_LineFifoA x) : F_law29_LineFifo x.1 x.2.1 = some true := fifo x.1 x.2.1 hx.1
theorem laterP (x : ElPs F_law29_LineLaterA) (hx : GoodPs F_law29_LineLaterA x) : F_law29_LineLater x.1 x.2.1 x.2.2.1 = some true := later x.1 x.2.1 x.2.2.1 hx.1
end Q
