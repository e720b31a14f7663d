/- Chapter 38: fares and joined journeys. -/
import Derived.Test.YtbjnllepfnbaoaaLxJ38j
import Derived.Test.YtbjnllepfnbaoaaLxPop

/-! Dividing rides into tickets: the table of the best divisions, and that its sums are least. Plain Lean, over any prices and covers. Conditions: none. -/
namespace Dv

abbrev Tk := Int × Int × Int × Int × Unit
/-- What is asked of rides 0 .. n-1: whether product p covers i .. k, and its price for a ticket that begins at i. -/
structure Law where
  n : Nat
  np : Nat
  cov : Nat → Nat → Nat → Bool
  pr : Nat → Nat → Int

abbrev Cell := Option (Int × List Tk)
def better (cur : Cell) (s : Int) (c : Nat) : Bool := match cur with
  | none => true
  | some (cs, ct) => decide (s < cs) || (decide (s = cs) && decide (c < ct.length))
def cand (L : Law) (nx : Cell) (i k p : Nat) (cur : Cell) : Cell := match nx with
  | none => cur
  | some (s, t) => if L.cov p i k = true then (if better cur (L.pr p i + s) (1 + t.length) = true then some (L.pr p i + s, ((p : Int), (i : Int), (k : Int), L.pr p i, ()) :: t) else cur) else cur
/-- Products below `m`, for the tickets i .. k. -/
def rowP (L : Law) (nx : Cell) (i k : Nat) (cur : Cell) : Nat → Cell
  | 0 => cur
  | m + 1 => cand L nx i k m (rowP L nx i k cur m)
/-- Ends i .. i + m - 1. -/
def rowK (L : Law) (B : Nat → Cell) (i : Nat) : Nat → Cell
  | 0 => none
  | m + 1 => rowP L (B (i + m + 1)) i (i + m) (rowK L B i m) L.np
/-- The table from n - d on. -/
def tab (L : Law) : Nat → Nat → Cell
  | 0, j => if j = L.n then some (0, []) else none
  | d + 1, j => if j = L.n - (d + 1) then rowK L (tab L d) j (L.n - j) else tab L d j

/-- A division of the rides from i on, and its sum. -/
inductive Div (L : Law) : Nat → Int → Prop
  | nil : Div L L.n 0
  | cons {i k p : Nat} {s : Int} (hik : i ≤ k) (hk : k < L.n) (hp : p < L.np) (hc : L.cov p i k = true) (h : Div L (k + 1) s) : Div L i (L.pr p i + s)

/-- A cell is the least sum of what is in S. -/
def Best (c : Cell) (S : Int → Prop) : Prop := match c with
  | none => ∀ s, ¬ S s
  | some (s, _) => S s ∧ ∀ s', S s' → s ≤ s'

theorem cand_best {L : Law} {nx cur : Cell} {i k p : Nat} {S N : Int → Prop} (hc : Best cur S) (hn : Best nx N) : Best (cand L nx i k p cur) fun s => S s ∨ (L.cov p i k = true ∧ ∃ s', N s' ∧ s = L.pr p i + s') := by
  unfold cand
  cases nx with
  | none =>
    have : (fun s => S s ∨ (L.cov p i k = true ∧ ∃ s', N s' ∧ s = L.pr p i + s')) = S := by
      funext s
      refine propext ⟨fun h => ?_, .inl⟩
      rcases h with h | ⟨_, s', h, _⟩
      · exact h
      · exact absurd h (hn s')
    rw [this]; exact hc
  | some x =>
    obtain ⟨s, t⟩ := x
    obtain ⟨n1, n2⟩ := hn
    simp only
    by_cases hcov : L.cov p i k = true
    · rw [if_pos hcov]
      by_cases hb : better cur (L.pr p i + s) (1 + t.length) = true
      · rw [if_pos hb]
        refine ⟨.inr ⟨hcov, s, n1, rfl⟩, fun s' hs' => ?_⟩
        rcases hs' with hs' | ⟨_, s2, h2, rfl⟩
        · cases cur with
          | none => exact absurd hs' (hc s')
          | some y =>
            obtain ⟨cs, ct⟩ := y
            have := hc.2 s' hs'
            simp only [better, Bool.or_eq_true, Bool.and_eq_true, decide_eq_true_eq] at hb
            rcases hb with hb | hb <;> omega
        · have := n2 s2 h2; omega
      · rw [if_neg hb]
        cases cur with
        | none => exact absurd rfl hb
        | some y =>
          obtain ⟨cs, ct⟩ := y
          refine ⟨.inl hc.1, fun s' hs' => ?_⟩
          rcases hs' with hs' | ⟨_, s2, h2, rfl⟩
          · exact hc.2 s' hs'
          · have := n2 s2 h2
            simp only [better, Bool.or_eq_true, Bool.and_eq_true, decide_eq_true_eq] at hb
            have : ¬ (L.pr p i + s < cs) := fun h => hb (.inl h)
            omega
    · rw [if_neg hcov]
      have : (fun s' => S s' ∨ (L.cov p i k = true ∧ ∃ s2, N s2 ∧ s' = L.pr p i + s2)) = S := by
        funext s'
        refine propext ⟨fun h => ?_, .inl⟩
        rcases h with h | ⟨h, _⟩
        · exact h
        · exact absurd h hcov
      rw [this]; exact hc

theorem rowP_best {L : Law} {nx cur : Cell} {i k : Nat} {S N : Int → Prop} (hc : Best cur S) (hn : Best nx N) : ∀ m, Best (rowP L nx i k cur m) fun s => S s ∨ ∃ p, p < m ∧ L.cov p i k = true ∧ ∃ s', N s' ∧ s = L.pr p i + s'
  | 0 => by
    have : (fun s => S s ∨ ∃ p, p < 0 ∧ L.cov p i k = true ∧ ∃ s', N s' ∧ s = L.pr p i + s') = S := by
      funext s
      refine propext ⟨fun h => ?_, .inl⟩
      rcases h with h | ⟨p, h, _⟩
      · exact h
      · omega
    rw [this]; exact hc
  | m + 1 => by
    have h := cand_best (p := m) (i := i) (k := k) (L := L) (rowP_best (i := i) (k := k) (L := L) hc hn m) hn
    have e : (fun s => (S s ∨ ∃ p, p < m ∧ L.cov p i k = true ∧ ∃ s', N s' ∧ s = L.pr p i + s') ∨ (L.cov m i k = true ∧ ∃ s', N s' ∧ s = L.pr m i + s')) = fun s => S s ∨ ∃ p, p < m + 1 ∧ L.cov p i k = true ∧ ∃ s', N s' ∧ s = L.pr p i + s' := by
      funext s
      refine propext ⟨fun h => ?_, fun h => ?_⟩
      · rcases h with (h | ⟨p, h1, h2⟩) | h
        · exact .inl h
        · exact .inr ⟨p, by omega, h2⟩
        · exact .inr ⟨m, by omega, h⟩
      · rcases h with h | ⟨p, h1, h2⟩
        · exact .inl (.inl h)
        · by_cases hp : p = m
          · subst hp; exact .inr h2
          · exact .inl (.inr ⟨p, by omega, h2⟩)
    rw [e] at h
    exact h

theorem rowK_best {L : Law} {B : Nat → Cell} {i : Nat} {N : Nat → Int → Prop} : ∀ m, (∀ j, i < j → j ≤ i + m → Best (B j) (N j)) → Best (rowK L B i m) fun s => ∃ k, i ≤ k ∧ k < i + m ∧ ∃ p, p < L.np ∧ L.cov p i k = true ∧ ∃ s', N (k + 1) s' ∧ s = L.pr p i + s'
  | 0, _ => by
    intro s h
    obtain ⟨k, h1, h2, _⟩ := h
    omega
  | m + 1, hB => by
    have h := rowP_best (L := L) (i := i) (k := i + m) (rowK_best (L := L) (B := B) (i := i) (N := N) m fun j h1 h2 => hB j h1 (by omega)) (hB (i + m + 1) (by omega) (by omega)) L.np
    have e : (fun s => (∃ k, i ≤ k ∧ k < i + m ∧ ∃ p, p < L.np ∧ L.cov p i k = true ∧ ∃ s', N (k + 1) s' ∧ s = L.pr p i + s') ∨ ∃ p, p < L.np ∧ L.cov p i (i + m) = true ∧ ∃ s', N (i + m + 1) s' ∧ s = L.pr p i + s') = fun s => ∃ k, i ≤ k ∧ k < i + (m + 1) ∧ ∃ p, p < L.np ∧ L.cov p i k = true ∧ ∃ s', N (k + 1) s' ∧ s = L.pr p i + s' := by
      funext s
      refine propext ⟨fun h => ?_, fun h => ?_⟩
      · rcases h with ⟨k, h1, h2, h3⟩ | h
        · exact ⟨k, h1, by omega, h3⟩
        · exact ⟨i + m, by omega, by omega, h⟩
      · obtain ⟨k, h1, h2, h3⟩ := h
        by_cases hk : k = i + m
        · subst hk; exact .inr h3
        · exact .inl ⟨k, h1, by omega, h3⟩
    rw [e] at h
    exact h

theorem div_end {L : Law} {s : Int} (h : Div L L.n s) : s = 0 := by
  generalize hi : L.n = i at h
  cases h with
  | nil => rfl
  | cons h1 h2 _ _ _ => omega
theorem div_iff {L : Law} {i : Nat} (hi : i < L.n) {s : Int} : Div L i s ↔ ∃ k, i ≤ k ∧ k < i + (L.n - i) ∧ ∃ p, p < L.np ∧ L.cov p i k = true ∧ ∃ s', Div L (k + 1) s' ∧ s = L.pr p i + s' := by
  constructor
  · intro h
    cases h with
    | nil => omega
    | cons h1 h2 h3 h4 h5 => exact ⟨_, h1, by omega, _, h3, h4, _, h5, rfl⟩
  · rintro ⟨k, h1, h2, p, h3, h4, s', h5, rfl⟩
    exact .cons h1 (by omega) h3 h4 h5

theorem tab_best (L : Law) : ∀ d, d ≤ L.n → ∀ j, L.n - d ≤ j → j ≤ L.n → Best (tab L d j) (Div L j)
  | 0, _, j, h1, h2 => by
    have : j = L.n := by omega
    subst this
    rw [tab, if_pos rfl]
    exact ⟨.nil, fun s' h => by have := div_end h; omega⟩
  | d + 1, hd, j, h1, h2 => by
    rw [tab]
    by_cases hj : j = L.n - (d + 1)
    · rw [if_pos hj]
      have h := rowK_best (L := L) (B := tab L d) (i := j) (N := Div L) (L.n - j) fun j' h3 h4 => tab_best L d (by omega) j' (by omega) (by omega)
      have e : (fun s => ∃ k, j ≤ k ∧ k < j + (L.n - j) ∧ ∃ p, p < L.np ∧ L.cov p j k = true ∧ ∃ s', Div L (k + 1) s' ∧ s = L.pr p j + s') = Div L j := by
        funext s
        exact propext (div_iff (by omega)).symm
      rw [e] at h
      exact h
    · rw [if_neg hj]
      exact tab_best L d (by omega) j (by omega) h2

/-! ### The tickets of a cell -/

/-- The tickets of a cell begin with one whose rest is the cell behind it. -/
def Chain (B : Nat → Cell) (n i : Nat) (c : Cell) : Prop := ∀ s t, c = some (s, t) → ∃ p k q s' t', t = ((p : Int), (i : Int), ((k : Nat) : Int), (q : Int), ()) :: t' ∧ i ≤ k ∧ k < n ∧ B (k + 1) = some (s', t')

theorem cand_chain {L : Law} {B : Nat → Cell} {n i k p : Nat} {cur : Cell} (hik : i ≤ k) (hk : k < n) (h : Chain B n i cur) : Chain B n i (cand L (B (k + 1)) i k p cur) := by
  unfold cand
  cases hn : B (k + 1) with
  | none => exact h
  | some x =>
    obtain ⟨s, t⟩ := x
    simp only
    split
    · split
      · intro s2 t2 he
        simp only [Option.some.injEq, Prod.mk.injEq] at he
        obtain ⟨rfl, rfl⟩ := he
        exact ⟨p, k, _, s, t, rfl, hik, hk, hn⟩
      · exact h
    · exact h
theorem rowP_chain {L : Law} {B : Nat → Cell} {n i k : Nat} {cur : Cell} (hik : i ≤ k) (hk : k < n) (h : Chain B n i cur) : ∀ m, Chain B n i (rowP L (B (k + 1)) i k cur m)
  | 0 => h
  | m + 1 => cand_chain hik hk (rowP_chain hik hk h m)
theorem rowK_chain {L : Law} {B : Nat → Cell} {n i : Nat} : ∀ m, i + m ≤ n → Chain B n i (rowK L B i m)
  | 0, _ => fun s t h => by simp [rowK] at h
  | m + 1, h => rowP_chain (by omega) (by omega) (rowK_chain m (by omega)) L.np

theorem tab_stay (L : Law) : ∀ d e j, L.n - d ≤ j → d ≤ e → e ≤ L.n → tab L e j = tab L d j
  | d, e, j, h1, h2, h3 => by
    induction e with
    | zero => have : d = 0 := by omega
              rw [this]
    | succ e ih =>
      by_cases hd : d = e + 1
      · rw [hd]
      · rw [tab, if_neg (by omega)]
        exact ih (by omega) (by omega)
theorem tab_chain (L : Law) {j : Nat} (hj : j < L.n) : Chain (tab L L.n) L.n j (tab L L.n j) := by
  have e1 : tab L L.n j = rowK L (tab L (L.n - j - 1)) j (L.n - j) := by
    rw [tab_stay L (L.n - j) L.n j (by omega) (by omega) (Nat.le_refl _)]
    obtain ⟨d, hd⟩ : ∃ d, L.n - j = d + 1 := ⟨L.n - j - 1, by omega⟩
    rw [show L.n - j - 1 = d by omega, hd, tab, if_pos (by omega), hd]
  have h := rowK_chain (L := L) (B := tab L (L.n - j - 1)) (n := L.n) (i := j) (L.n - j) (by omega)
  rw [e1]
  intro s t he
  obtain ⟨p, k, q, s', t', h1, h2, h3, h4⟩ := h s t he
  exact ⟨p, k, q, s', t', h1, h2, h3, by rw [tab_stay L (L.n - j - 1) L.n (k + 1) (by omega) (by omega) (Nat.le_refl _)]; exact h4⟩

/-! ### Two lists of rides, one behind the other -/

theorem div_tail {A B C : Law} (hn : C.n = A.n + B.n) (hp : C.np = B.np)
    (cb : ∀ p i k, i ≤ k → k < B.n → B.cov p i k = true → C.cov p (A.n + i) (A.n + k) = true) (pb : ∀ p i, p < B.np → i < B.n → C.pr p (A.n + i) ≤ B.pr p i) {i : Nat} {s : Int} (h : Div B i s) : ∃ c, c ≤ s ∧ Div C (A.n + i) c := by
  induction h with
  | nil => exact ⟨0, Int.le_refl _, by rw [← hn]; exact .nil⟩
  | @cons i k p s hik hk hpp hc h ih =>
    obtain ⟨c, h1, h2⟩ := ih
    refine ⟨C.pr p (A.n + i) + c, by have := pb p i hpp (by omega); omega, .cons (k := A.n + k) (by omega) (by omega) (by omega) (cb p i k hik hk hc) ?_⟩
    rw [show A.n + k + 1 = A.n + (k + 1) by omega]
    exact h2
theorem div_cat {A B C : Law} (hn : C.n = A.n + B.n) (hpa : C.np = A.np) (hpb : C.np = B.np) (ca : ∀ p i k, i ≤ k → k < A.n → A.cov p i k = true → C.cov p i k = true)
    (cb : ∀ p i k, i ≤ k → k < B.n → B.cov p i k = true → C.cov p (A.n + i) (A.n + k) = true) (pa : ∀ p i, p < A.np → i < A.n → C.pr p i ≤ A.pr p i) (pb : ∀ p i, p < B.np → i < B.n → C.pr p (A.n + i) ≤ B.pr p i)
    {a b : Int} (ha : Div A 0 a) (hb : Div B 0 b) : ∃ c, c ≤ a + b ∧ Div C 0 c := by
  have key : ∀ {i : Nat} {s : Int}, Div A i s → ∃ c, c ≤ s + b ∧ Div C i c := by
    intro i s h
    induction h with
    | nil =>
      obtain ⟨c, h1, h2⟩ := div_tail hn hpb cb pb hb
      exact ⟨c, by omega, by simpa using h2⟩
    | @cons i k p s hik hk hpp hc h ih =>
      obtain ⟨c, h1, h2⟩ := ih
      exact ⟨C.pr p i + c, by have := pa p i hpp (by omega); omega, .cons hik (by omega) (by omega) (ca p i k hik hk hc) h2⟩
  exact key ha
theorem div_nonneg {L : Law} (h : ∀ p i, p < L.np → 0 ≤ L.pr p i) {i : Nat} {s : Int} (k : Div L i s) : 0 ≤ s := by
  induction k with
  | nil => exact Int.le_refl _
  | @cons i k p s _ _ hp _ _ ih => have := h p i hp; omega
end Dv

/-! Chapter 38: the fare of rides is the least sum of a division into tickets. Conditions: sound fares. -/
namespace Q
open Tr Go Dv

abbrev RestT := Bool × Int × Int × Tk × Unit

/-! ### What a product covers, and its price -/

theorem qor_u64 (a b : Int) : 0 ≤ Tr.qor .u64 a b ∧ Tr.qor .u64 a b < 18446744073709551616 := by
  have hw : ∀ x : Int, 0 ≤ IntKind.wrap .u64 x ∧ IntKind.wrap .u64 x < 18446744073709551616 := fun x => by
    simp [IntKind.wrap, IntKind.bits, IntKind.signed]
    omega
  unfold Tr.qor
  exact hw _

theorem later_some (a b d : Int) : ∃ z : Bool, F_product_later a b d = some z := by
  unfold F_product_later
  by_cases h : a ≤ b
  · rw [decide_eq_true h]
    by_cases h2 : d < 0
    · rw [decide_eq_true h2]; exact ⟨_, rfl⟩
    · rw [decide_eq_false h2]; exact ⟨_, rfl⟩
  · rw [decide_eq_false h]
    by_cases h2 : d < 0
    · rw [decide_eq_true h2]; exact ⟨_, rfl⟩
    · rw [decide_eq_false h2]; exact ⟨_, rfl⟩

theorem covers_some (p : ProdT) (s : List RideT) (hs : s.length ≤ 100) : ∃ z : Bool, F_product_Covers p s = some z ∧ (s = [] → z = false) := by
  unfold F_product_Covers
  by_cases h0 : s = []
  · subst h0
    exact ⟨false, rfl, fun _ => rfl⟩
  · have hp : 0 < s.length := List.length_pos_iff.2 h0
    rw [decide_eq_false (show ¬ (s.length : Int) = 0 by omega)]
    have el : IntKind.wrap .i64 ((s.length : Int) - 1) = ((s.length - 1 : Nat) : Int) := by rw [wrap_i64 (by omega) (by omega)]; omega
    have i0 : Tr.idx s (0 : Int) = some s[0] := idx_nat (i := 0) hp
    obtain ⟨lt, hlt⟩ := later_some (s[0]).1 (s[s.length - 1]).1 p.2.2.2.2.1
    simp only [cond_false, el, idx_nat (show s.length - 1 < s.length by omega), i0, Option.bind_some, hlt]
    have hb : ∃ c : Bool, (bif decide (p.2.2.1 < (s.length : Int)) then some true else some lt) = some c := by
      cases decide (p.2.2.1 < (s.length : Int)) <;> exact ⟨_, rfl⟩
    obtain ⟨c, hc⟩ := hb
    rw [hc]
    simp only [Option.bind_some]
    cases c with
    | true => exact ⟨false, rfl, fun _ => rfl⟩
    | false =>
      simp only [cond_false]
      have key : ∀ (o : Option (Int × Int)) (k : Int × Int → Option Bool), (∃ r, o = some r ∧ (0 ≤ r.1 ∧ r.1 < 18446744073709551616)) → (∀ r : Int × Int, 0 ≤ r.1 → r.1 < 18446744073709551616 → ∃ z, k r = some z) → ∃ z : Bool, Option.bind o k = some z ∧ (s = [] → z = false) := by
        rintro o k ⟨r, rfl, h1, h2⟩ hk
        obtain ⟨z, hz⟩ := hk r h1 h2
        exact ⟨z, hz, fun e => absurd e h0⟩
      refine key _ _ ?_ ?_
      · refine run_for s.length _ (fun i (t : Int × Int × Int) => ∃ x y, t = (x, y, (i : Int)) ∧ 0 ≤ x ∧ x < 18446744073709551616) ?_ ?_ _ ⟨0, 0, rfl, by omega, by omega⟩
        · rintro i _ hi ⟨x, y, rfl, hx1, hx2⟩
          left
          simp only [lt_dec hi, cond_true, idx_nat hi, Option.bind_some, wrap_succ hi (show s.length ≤ 9223372036854775807 by omega), F_product_Covers_1, F_bitset_Set_Union]
          exact ⟨_, rfl, _, _, rfl, (qor_u64 _ _).1, (qor_u64 _ _).2⟩
        · rintro _ ⟨x, y, rfl, hx1, hx2⟩
          simp only [nlt_dec, cond_false]
          exact ⟨_, rfl, hx1, hx2⟩
      · intro r h1 h2
        have hl : F_bitset_Set_Len r.1 = some ((popF 64 r.1.toNat : Nat) : Int) := by
          show lenF r.1 = _
          unfold lenF
          rw [decide_eq_true ⟨h1, h2⟩]; rfl
        simp only [hl, Option.bind_some, F_bitset_Set_Within]
        cases decide (((popF 64 r.1.toNat : Nat) : Int) ≤ p.2.2.2.1) <;> exact ⟨_, rfl⟩

noncomputable def covB (p : ProdT) (s : List RideT) : Bool := (F_product_Covers p s).getD false
theorem covers_val (p : ProdT) (s : List RideT) (hs : s.length ≤ 100) : F_product_Covers p s = some (covB p s) := by
  obtain ⟨z, h, _⟩ := covers_some p s hs
  unfold covB
  rw [h]; rfl
theorem cov_nil (p : ProdT) : covB p [] = false := rfl

def wthB (a b d : Int) : Bool := bif decide (b ≤ a) then true else decide (IntKind.wrap .u64 (IntKind.wrap .u64 b - IntKind.wrap .u64 a) ≤ IntKind.wrap .u64 d)
theorem within_val2 (a b d : Int) : F_fare_within a b d = some (wthB a b d) := by
  unfold F_fare_within wthB
  cases decide (b ≤ a) <;> rfl
def rd0 : RideT := (0, 0, 0, 0, ())
/-- The price of a ticket whose first ride is i. -/
def prI (F : FaresT) (p : ProdT) (l : List RideT) (i : Nat) : Int :=
  if 0 < i ∧ wthB ((l[i - 1]?).getD rd0).2.1 ((l[i]?).getD rd0).1 F.2.2.1 = true then (if 0 < p.2.1 - F.2.1 then p.2.1 - F.2.1 else 0) else p.2.1
theorem price_val (F : FaresT) (p : ProdT) (l : List RideT) (i : Nat) (hi : i < l.length) (hl : l.length ≤ 100) (h1 : 0 ≤ p.2.1 ∧ p.2.1 ≤ 1000000) (h2 : 0 ≤ F.2.1 ∧ F.2.1 ≤ 1000000) : F_fare_ticketPrice F p l (i : Int) = some (prI F p l i) := by
  unfold F_fare_ticketPrice prI
  have ew : IntKind.wrap .i64 (p.2.1 - F.2.1) = p.2.1 - F.2.1 := wrap_i64 (by omega) (by omega)
  have em : Tr.imax 0 (p.2.1 - F.2.1) = if 0 < p.2.1 - F.2.1 then p.2.1 - F.2.1 else 0 := rfl
  by_cases h0 : 0 < i
  · have e1 : IntKind.wrap .i64 ((i : Int) - 1) = ((i - 1 : Nat) : Int) := by rw [wrap_i64 (by omega) (by omega)]; omega
    rw [decide_eq_true (show (0 : Int) < (i : Int) by omega)]
    simp only [cond_true, e1, idx_nat (show i - 1 < l.length by omega), idx_nat hi, Option.bind_some, within_val2]
    rw [getD_of (show i - 1 < l.length by omega), getD_of hi, ew, em]
    cases hb : wthB (l[i - 1]).2.1 (l[i]).1 F.2.2.1 with
    | true => simp [h0]
    | false => simp
  · rw [decide_eq_false (show ¬ (0 : Int) < (i : Int) by omega), if_neg (fun h => h0 h.1)]
    rfl

structure FareOk (F : FaresT) : Prop where
  disc : 0 ≤ F.2.1 ∧ F.2.1 ≤ 1000000
  cap : 0 ≤ F.2.2.2.1
  price : ∀ p ∈ F.1, 0 ≤ p.2.1 ∧ p.2.1 ≤ 1000000
  many : F.1.length ≤ 16
theorem fare_ok {F : FaresT} (h : (fareR F).2 = 0) : FareOk F := by
  unfold fareR at h
  by_cases hh : headB F = false
  · rw [if_pos hh] at h; exact absurd h (by decide)
  rw [if_neg hh] at h
  by_cases h16 : 16 < F.1.length
  · rw [if_pos h16] at h; exact absurd h (by decide)
  rw [if_neg h16] at h
  have hz := pick_zero h
  have hh : headB F = true := by simpa using hh
  unfold headB at hh
  simp only [Bool.and_eq_true, decide_eq_true_eq] at hh
  refine ⟨hh.1, hh.2.2.1, fun p hp => ?_, by omega⟩
  obtain ⟨i, hi, rfl⟩ := List.getElem_of_mem hp
  have h1 := hz i hi
  unfold prodF at h1
  rw [getD_of hi] at h1
  obtain ⟨_, _, h3⟩ := fault_zero.1 h1
  have h3 : numsB F.1[i] = true := by simpa using h3
  unfold numsB at h3
  simp only [Bool.and_eq_true, decide_eq_true_eq] at h3
  exact h3.1

noncomputable def lawOf (F : FaresT) (l : List RideT) : Law where
  n := l.length
  np := F.1.length
  cov := fun p i k => covB ((F.1[p]?).getD p0) ((l.drop i).take (k + 1 - i))
  pr := fun p i => prI F ((F.1[p]?).getD p0) l i

theorem pr_bound {F : FaresT} (hF : FareOk F) {l : List RideT} {p i : Nat} (hp : p < (lawOf F l).np) : 0 ≤ (lawOf F l).pr p i ∧ (lawOf F l).pr p i ≤ 1000000 := by
  have h := hF.price _ (List.getElem_mem (show p < F.1.length from hp))
  have hd := hF.disc
  show 0 ≤ prI F ((F.1[p]?).getD p0) l i ∧ prI F ((F.1[p]?).getD p0) l i ≤ 1000000
  rw [getD_of (show p < F.1.length from hp)]
  unfold prI
  split
  · split
    · omega
    · omega
  · exact h

/-! ### Cells and the table -/

/-- The sums and counts of a table's cells. -/
def Bd (n : Nat) (f : Nat → Cell) : Prop := ∀ j s t, j ≤ n → f j = some (s, t) → 0 ≤ s ∧ s ≤ 1000000 * ((n : Int) - (j : Int)) ∧ t.length ≤ n - j
def RelC (c : Cell) (r : RestT) : Prop := match c with
  | none => r.1 = false
  | some (s, t) => r.1 = true ∧ r.2.1 = s ∧ r.2.2.1 = (t.length : Int) ∧ ∀ x t', t = x :: t' → r.2.2.2.1 = x
def RelT (f : Nat → Cell) (T : List RestT) : Prop := T.length = 9 ∧ ∀ j, j ≤ 8 → ∃ r, T[j]? = some r ∧ RelC (f j) r

theorem RelT.congr {f g : Nat → Cell} {T : List RestT} (h : RelT f T) (e : ∀ j, j ≤ 8 → g j = f j) : RelT g T :=
  ⟨h.1, fun j hj => by rw [e j hj]; exact h.2 j hj⟩
def upd1 (f : Nat → Cell) (i : Nat) (c : Cell) : Nat → Cell := fun j => if j = i then c else f j

theorem RelT.set {f : Nat → Cell} {T : List RestT} (h : RelT f T) {i : Nat} (hi : i ≤ 8) {c : Cell} {r : RestT} (hr : RelC c r) : RelT (upd1 f i c) (T.set i r) := by
  refine ⟨by rw [List.length_set]; exact h.1, fun j hj => ?_⟩
  unfold upd1
  by_cases hji : j = i
  · subst hji
    rw [if_pos rfl, List.getElem?_set_self (by rw [h.1]; omega)]
    exact ⟨r, rfl, hr⟩
  · rw [if_neg hji, List.getElem?_set_ne (Ne.symm hji)]
    exact h.2 j hj
theorem RelC.ok {s : Int} {t : List Tk} {r : RestT} (h : RelC (some (s, t)) r) : r.1 = true ∧ r.2.1 = s ∧ r.2.2.1 = (t.length : Int) ∧ ∀ x t', t = x :: t' → r.2.2.2.1 = x := h

theorem better_val {cur : Cell} {r : RestT} (h : RelC cur r) (s : Int) (c : Nat) : F_fare_rest_better r s (c : Int) = some (better cur s c) := by
  cases cur with
  | none =>
    unfold F_fare_rest_better
    rw [show r.1 = false from h]; rfl
  | some x =>
    obtain ⟨cs, ct⟩ := x
    obtain ⟨h1, h2, h3, _⟩ := RelC.ok h
    unfold F_fare_rest_better
    rw [h1, h2, h3]
    have e : decide ((c : Int) < (ct.length : Int)) = decide (c < ct.length) := decide_eq_decide.2 (by omega)
    rw [e]
    show _ = some (decide (s < cs) || (decide (s = cs) && decide (c < ct.length)))
    generalize decide (s < cs) = b1
    generalize decide (s = cs) = b2
    generalize decide (c < ct.length) = b3
    cases b1 <;> cases b2 <;> cases b3 <;> rfl

/-- One try. -/
theorem try_val {F : FaresT} (hF : FareOk F) {l : List RideT} (hl : l.length ≤ 8) {f : Nat → Cell} {T : List RestT} (hT : RelT f T) (hB : Bd l.length f) {i k p : Nat} (hik : i ≤ k) (hk : k < l.length) (hp : p < F.1.length) {s : Int} {t : List Tk} (hn : f (k + 1) = some (s, t)) :
    ∃ T', F_fare_divide_1 (i : Int) (k : Int) (p : Int) F l T = some T' ∧ RelT (upd1 f i (cand (lawOf F l) (f (k + 1)) i k p (f i))) T' := by
  unfold F_fare_divide_1
  have hprice := hF.price _ (List.getElem_mem hp)
  obtain ⟨b1, b2, b3⟩ := hB (k + 1) s t (by omega) hn
  have e1 : IntKind.wrap .i64 ((k : Int) + 1) = ((k + 1 : Nat) : Int) := by rw [wrap_i64 (by omega) (by omega)]; omega
  have hs : Tr.sliceB l.length l.length (some (i : Int)) (some ((k + 1 : Nat) : Int)) = some (i, k + 1) := by
    unfold Tr.sliceB
    simp only
    rw [if_pos ⟨by omega, by omega⟩]
    simp only [Option.bind_some]
    rw [if_pos ⟨by omega, by omega⟩]
    rfl
  have hsl : ((l.drop i).take (k + 1 - i)).length ≤ 100 := by rw [List.length_take, List.length_drop]; omega
  obtain ⟨rk, hrk, hck⟩ := hT.2 (k + 1) (by omega)
  obtain ⟨ri, hri, hci⟩ := hT.2 i (by omega)
  rw [hn] at hck
  obtain ⟨c1, c2, c3, c4⟩ := RelC.ok hck
  have hb9 : Tr.inb ((k + 1 : Nat) : Int) 9 = some (k + 1) := inb_nat (by omega)
  have hi9 : Tr.inb (i : Int) 9 = some i := inb_nat (by omega)
  have hpr : F_fare_ticketPrice F F.1[p] l (i : Int) = some ((lawOf F l).pr p i) := by
    rw [price_val F F.1[p] l i (by omega) (by omega) hprice hF.disc]
    show _ = some (prI F ((F.1[p]?).getD p0) l i)
    rw [getD_of hp]
  have hpb := pr_bound hF (l := l) (i := i) (show p < (lawOf F l).np from hp)
  have hcv : covB F.1[p] ((l.drop i).take (k + 1 - i)) = (lawOf F l).cov p i k := by
    show _ = covB ((F.1[p]?).getD p0) ((l.drop i).take (k + 1 - i))
    rw [getD_of hp]
  have w1 : IntKind.wrap .i64 ((lawOf F l).pr p i + s) = (lawOf F l).pr p i + s := wrap_i64 (by omega) (by omega)
  have w2 : IntKind.wrap .i64 ((t.length : Int) + 1) = ((1 + t.length : Nat) : Int) := by rw [wrap_i64 (by omega) (by omega)]; omega
  simp only [idx_nat hp, Option.bind_some, e1, hs, covers_val F.1[p] _ hsl, hcv, hpr, hb9, hi9, hrk, hri, c2, c3, w1, w2]
  rw [hn]
  unfold cand
  simp only
  cases hcov : (lawOf F l).cov p i k with
  | false =>
    refine ⟨T, rfl, hT.congr fun j hj => ?_⟩
    unfold upd1
    by_cases hj : j = i
    · subst hj; rw [if_pos rfl]; simp
    · rw [if_neg hj]
  | true =>
    simp only [Bool.not_true, cond_false, better_val hci, Option.bind_some, if_true]
    cases hbt : better (f i) ((lawOf F l).pr p i + s) (1 + t.length) with
    | false =>
      refine ⟨T, rfl, hT.congr fun j hj => ?_⟩
      unfold upd1
      by_cases hj : j = i
      · subst hj; rw [if_pos rfl]; simp
      · rw [if_neg hj]
    | true =>
      refine ⟨_, rfl, hT.set (by omega) ⟨rfl, rfl, ?_, fun x t' e => ?_⟩⟩
      · show ((1 + t.length : Nat) : Int) = ((_ :: t).length : Int)
        rw [List.length_cons]; omega
      · obtain ⟨rfl, _⟩ := List.cons.inj e
        rfl
end Q

/-! Chapter 38: the table of divisions, the price and the cost. Conditions: sound fares. -/
namespace Q
open Tr Go Dv

def BdC (n i : Nat) (c : Cell) : Prop := ∀ s t, c = some (s, t) → 0 ≤ s ∧ s ≤ 1000000 * ((n : Int) - (i : Int)) ∧ t.length ≤ n - i
theorem cand_bd {L : Law} {n i k p : Nat} {nx cur : Cell} (hpr : 0 ≤ L.pr p i ∧ L.pr p i ≤ 1000000) (hik : i ≤ k) (hk : k < n) (hn : BdC n (k + 1) nx) (hc : BdC n i cur) : BdC n i (cand L nx i k p cur) := by
  unfold cand
  cases nx with
  | none => exact hc
  | some x =>
    obtain ⟨s, t⟩ := x
    obtain ⟨h1, h2, h3⟩ := hn s t rfl
    simp only
    split
    · split
      · intro s' t' e
        simp only [Option.some.injEq, Prod.mk.injEq] at e
        obtain ⟨rfl, rfl⟩ := e
        refine ⟨by omega, by omega, ?_⟩
        rw [List.length_cons]; omega
      · exact hc
    · exact hc
theorem rowP_bd {L : Law} {n i k : Nat} {nx cur : Cell} (hpr : ∀ p, p < L.np → 0 ≤ L.pr p i ∧ L.pr p i ≤ 1000000) (hik : i ≤ k) (hk : k < n) (hn : BdC n (k + 1) nx) (hc : BdC n i cur) : ∀ m, m ≤ L.np → BdC n i (rowP L nx i k cur m)
  | 0, _ => hc
  | m + 1, h => cand_bd (hpr m (by omega)) hik hk hn (rowP_bd hpr hik hk hn hc m (by omega))
theorem rowK_bd {L : Law} {n i : Nat} {B : Nat → Cell} (hpr : ∀ p, p < L.np → 0 ≤ L.pr p i ∧ L.pr p i ≤ 1000000) (hB : ∀ j, BdC n j (B j)) : ∀ m, i + m ≤ n → BdC n i (rowK L B i m)
  | 0, _ => fun s t h => by simp [Dv.rowK] at h
  | m + 1, h => rowP_bd hpr (by omega) (by omega) (hB (i + m + 1)) (rowK_bd hpr hB m (by omega)) L.np (Nat.le_refl _)
theorem tab_bd {L : Law} (hpr : ∀ p i, p < L.np → 0 ≤ L.pr p i ∧ L.pr p i ≤ 1000000) : ∀ d, d ≤ L.n → ∀ j, BdC L.n j (tab L d j)
  | 0, _, j => by
    intro s t h
    rw [tab] at h
    split at h
    · next hj =>
      subst hj
      simp only [Option.some.injEq, Prod.mk.injEq] at h
      obtain ⟨rfl, rfl⟩ := h
      exact ⟨by omega, by omega, Nat.zero_le _⟩
    · cases h
  | d + 1, hd, j => by
    rw [tab]
    split
    · next hj => exact rowK_bd (fun p hp => hpr p j hp) (tab_bd hpr d (by omega)) _ (by omega)
    · exact tab_bd hpr d (by omega) j
theorem tab_none (L : Law) : ∀ d, d ≤ L.n → ∀ j, j < L.n - d → tab L d j = none
  | 0, _, j, h => by rw [tab, if_neg (by omega)]
  | d + 1, hd, j, h => by rw [tab, if_neg (by omega)]; exact tab_none L d (by omega) j (by omega)

theorem upd1_upd1 (f : Nat → Cell) (i : Nat) (c c' : Cell) : upd1 (upd1 f i c) i c' = upd1 f i c' := by
  funext j
  unfold upd1
  by_cases h : j = i
  · rw [if_pos h, if_pos h]
  · rw [if_neg h, if_neg h, if_neg h]
theorem upd1_same (f : Nat → Cell) (i : Nat) (c : Cell) : upd1 f i c i = c := if_pos rfl
theorem upd1_ne (f : Nat → Cell) {i j : Nat} (c : Cell) (h : j ≠ i) : upd1 f i c j = f j := if_neg h

def rz : RestT := (false, 0, 0, (0, 0, 0, 0, ()), ())

theorem divide_val {F : FaresT} (hF : FareOk F) {l : List RideT} (hl : l.length ≤ 8) : ∃ T, F_fare_divide F l = some T ∧ RelT (tab (lawOf F l) l.length) T := by
  have hpr : ∀ p i, p < (lawOf F l).np → 0 ≤ (lawOf F l).pr p i ∧ (lawOf F l).pr p i ≤ 1000000 := fun p i hp => pr_bound hF hp
  have hLn : (lawOf F l).n = l.length := rfl
  unfold F_fare_divide
  have hz : (Tr.zeroEl Y103 : List RestT) = List.replicate 9 rz := rfl
  have hin : Tr.inb (l.length : Int) 9 = some l.length := inb_nat (by omega)
  have hzi : (Tr.zeroEl Y103 : List RestT)[l.length]? = some rz := by rw [hz, List.getElem?_replicate, if_pos (by omega)]
  rw [hin]
  simp only [Option.bind_some]
  erw [hzi]
  simp only [Option.bind_some]
  have key : ∀ o : Option (List RestT), (∃ T, o = some T ∧ RelT (tab (lawOf F l) l.length) T) → ∃ T, (Option.bind o fun x10 => some x10) = some T ∧ RelT (tab (lawOf F l) l.length) T := by
    rintro o ⟨T, rfl, h⟩
    exact ⟨T, rfl, h⟩
  refine key _ (run_for l.length _ (fun c (s : List RestT × Int) => ∃ T, s = (T, (l.length : Int) - 1 - (c : Int)) ∧ RelT (tab (lawOf F l) c) T) ?_ ?_ _ ?_)
  · rintro c _ hc ⟨T, rfl, hT⟩
    left
    obtain ⟨i, hi⟩ : ∃ i : Nat, (l.length : Int) - 1 - (c : Int) = (i : Int) := ⟨l.length - 1 - c, by omega⟩
    have hil : i < l.length := by omega
    have hic : i = l.length - (c + 1) := by omega
    rw [hi]
    rw [decide_eq_true (show (0 : Int) ≤ (i : Int) by omega)]
    simp only [cond_true]
    refine bind_ex (fun T' => RelT (tab (lawOf F l) (c + 1)) T') ?_ ?_
    · refine run_for (l.length - i) _ (fun m (s : List RestT × Int) => ∃ T, s = (T, ((i + m : Nat) : Int)) ∧ RelT (upd1 (tab (lawOf F l) c) i (rowK (lawOf F l) (tab (lawOf F l) c) i m)) T) ?_ ?_ _ ⟨T, rfl, hT.congr fun j hj => ?_⟩
      · rintro m _ hm ⟨T, rfl, hT⟩
        left
        have hk : i + m < l.length := by omega
        simp only [lt_dec hk, cond_true]
        refine bind_ex (fun T' => RelT (upd1 (tab (lawOf F l) c) i (rowK (lawOf F l) (tab (lawOf F l) c) i (m + 1))) T') ?_ ?_
        · refine run_for F.1.length _ (fun p (s : List RestT × Int) => ∃ T, s = (T, (p : Int)) ∧ RelT (upd1 (tab (lawOf F l) c) i (rowP (lawOf F l) (tab (lawOf F l) c (i + m + 1)) i (i + m) (rowK (lawOf F l) (tab (lawOf F l) c) i m) p)) T) ?_ ?_ _ ⟨T, rfl, hT⟩
          · rintro p _ hp ⟨T, rfl, hT⟩
            left
            have e1 : IntKind.wrap .i64 (((i + m : Nat) : Int) + 1) = ((i + m + 1 : Nat) : Int) := by rw [wrap_i64 (by omega) (by omega)]; omega
            have hb9 : Tr.inb ((i + m + 1 : Nat) : Int) 9 = some (i + m + 1) := inb_nat (by omega)
            obtain ⟨r, hr, hcr⟩ := hT.2 (i + m + 1) (by omega)
            rw [upd1_ne _ _ (by omega)] at hcr
            simp only [lt_dec hp, cond_true, e1, hb9, hr, Option.bind_some, wrap_succ hp (show F.1.length ≤ 9223372036854775807 by have := hF.many; omega)]
            cases hnx : tab (lawOf F l) c (i + m + 1) with
            | none =>
              rw [hnx] at hcr
              rw [show r.1 = false from hcr]
              refine ⟨_, rfl, T, rfl, ?_⟩
              rw [hnx] at hT
              exact hT
            | some x =>
              obtain ⟨s, t⟩ := x
              rw [hnx] at hcr
              obtain ⟨q1, _⟩ := RelC.ok hcr
              rw [q1]
              simp only [cond_true]
              have hBd : Bd l.length (upd1 (tab (lawOf F l) c) i (rowP (lawOf F l) (tab (lawOf F l) c (i + m + 1)) i (i + m) (rowK (lawOf F l) (tab (lawOf F l) c) i m) p)) := by
                intro j s' t' hj e
                have htb := tab_bd hpr c (show c ≤ (lawOf F l).n by rw [hLn]; omega)
                by_cases hji : j = i
                · subst hji
                  rw [upd1_same] at e
                  exact rowP_bd (n := l.length) (fun p hp => hpr p j hp) (by omega) (by omega) (htb _) (rowK_bd (fun p hp => hpr p j hp) htb m (by omega)) p (show p ≤ F.1.length by omega) s' t' e
                · rw [upd1_ne _ _ hji] at e
                  exact htb j s' t' e
              obtain ⟨T', g1, g2⟩ := try_val hF hl hT hBd (i := i) (k := i + m) (p := p) (by omega) hk hp (s := s) (t := t) (by rw [upd1_ne _ _ (by omega)]; exact hnx)
              rw [g1]
              refine ⟨_, rfl, T', rfl, ?_⟩
              rw [upd1_upd1, upd1_same, upd1_ne _ _ (show i + m + 1 ≠ i by omega)] at g2
              rw [hnx] at g2
              exact g2
          · rintro _ ⟨T, rfl, hT⟩
            simp only [nlt_dec, cond_false]
            exact ⟨_, rfl, hT⟩
        · intro T' hT'
          have e1 : IntKind.wrap .i64 (((i + m : Nat) : Int) + 1) = ((i + (m + 1) : Nat) : Int) := by rw [wrap_i64 (by omega) (by omega)]; omega
          rw [e1]
          exact ⟨_, rfl, T', rfl, hT'⟩
      · rintro _ ⟨T, rfl, hT⟩
        rw [show i + (l.length - i) = l.length by omega]
        simp only [nlt_dec, cond_false]
        refine ⟨_, rfl, hT.congr fun j hj => ?_⟩
        rw [tab]
        by_cases hji : j = i
        · subst hji
          rw [if_pos (show j = (lawOf F l).n - (c + 1) from hic), upd1_same]
          rfl
        · rw [if_neg (show ¬ j = (lawOf F l).n - (c + 1) from fun e => hji (e.trans hic.symm)), upd1_ne _ _ hji]
      · by_cases hji : j = i
        · subst hji
          rw [upd1_same, tab_none (lawOf F l) c (by rw [hLn]; omega) j (by rw [hLn]; omega)]
          rfl
        · rw [upd1_ne _ _ hji]
    · intro T' hT'
      have e1 : IntKind.wrap .i64 ((i : Int) - 1) = (l.length : Int) - 1 - ((c + 1 : Nat) : Int) := by rw [wrap_i64 (by omega) (by omega)]; omega
      rw [e1]
      exact ⟨_, rfl, T', rfl, hT'⟩
  · rintro _ ⟨T, rfl, hT⟩
    rw [decide_eq_false (show ¬ (0 : Int) ≤ (l.length : Int) - 1 - (l.length : Int) by omega)]
    exact ⟨_, rfl, hT⟩
  · refine ⟨(List.replicate 9 rz).set l.length (true, rz.2), ?_, by simp, fun j hj => ?_⟩
    · rw [wrap_i64 (by omega) (by omega)]
      simp only [Int.natCast_zero, Int.sub_zero]
      rfl
    · rw [tab]
      by_cases hjn : j = l.length
      · subst hjn
        rw [if_pos hLn.symm, List.getElem?_set_self (by simp; omega)]
        exact ⟨_, rfl, rfl, rfl, rfl, fun x t' e => by cases e⟩
      · rw [if_neg (show ¬ j = (lawOf F l).n from hjn), List.getElem?_set_ne (Ne.symm hjn), List.getElem?_replicate, if_pos (by omega)]
        exact ⟨_, rfl, rfl⟩

def capI (F : FaresT) (s : Int) : Int := if 0 < F.2.2.2.1 ∧ F.2.2.2.1 < s then F.2.2.2.1 else s
theorem capped_val (F : FaresT) (s : Int) : F_fare_capped F s = some (capI F s) := by
  unfold F_fare_capped capI
  by_cases h : 0 < F.2.2.2.1
  · rw [decide_eq_true h]
    by_cases h2 : F.2.2.2.1 < s
    · rw [decide_eq_true h2, if_pos ⟨h, h2⟩]; rfl
    · rw [decide_eq_false h2, if_neg (fun e => h2 e.2)]; rfl
  · rw [decide_eq_false h, if_neg (fun e => h e.1)]; rfl

theorem tickets_run {F : FaresT} {l : List RideT} (hl : l.length ≤ 8) {T : List RestT} (hT : RelT (tab (lawOf F l) l.length) T) : ∀ (m i : Nat) (acc : List Tk), l.length - i = m → i ≤ l.length → acc.length ≤ i → (i < l.length → ∃ s t, tab (lawOf F l) l.length i = some (s, t)) → ∃ r, Tr.run
 (fun s3 : List Tk × Int =>
 bif decide (s3.2 < (↑(List.length l) : Int)) then
 Option.bind (inb s3.2 (9 : Nat)) fun x4 =>
 Option.bind T[x4]? fun x5 =>
 Option.bind (guardB (decide (List.length s3.1 + List.length [x5.2.2.2.1] ≤ maxApp))) fun _ =>
 Option.bind (inb s3.2 (9 : Nat)) fun x7 =>
 Option.bind T[x7]? fun x8 => some (.inl (s3.1 ++ [x5.2.2.2.1], IntKind.wrap .i64 (x8.2.2.2.1.2.2.1 + (1 : Int))))
 else some (.inr s3.1))
 (acc, (i : Int)) = some r := by
  intro m
  induction m using Nat.strongRecOn with
  | _ m ih =>
    intro i acc hm hi hacc hs
    by_cases hil : i < l.length
    · obtain ⟨s, t, hst⟩ := hs hil
      obtain ⟨p, k, q, s', t', h1, h2, h3, h4⟩ := tab_chain (lawOf F l) (show i < (lawOf F l).n from hil) s t hst
      obtain ⟨r, hr, hc⟩ := hT.2 i (by omega)
      rw [hst] at hc
      obtain ⟨_, _, _, c4⟩ := RelC.ok hc
      have hfirst := c4 _ _ h1
      have hi9 : Tr.inb (i : Int) 9 = some i := inb_nat (by omega)
      have hk : k < l.length := h3
      have e1 : IntKind.wrap .i64 ((k : Int) + 1) = ((k + 1 : Nat) : Int) := by rw [wrap_i64 (by omega) (by omega)]; omega
      have hstep : ∀ z : List Tk × Int, z = (acc ++ [((p : Int), (i : Int), ((k : Nat) : Int), (q : Int), ())], ((k + 1 : Nat) : Int)) → (bif decide ((i : Int) < (↑(List.length l) : Int)) then
         Option.bind (inb (i : Int) (9 : Nat)) fun x4 =>
         Option.bind T[x4]? fun x5 =>
         Option.bind (guardB (decide (List.length acc + List.length [x5.2.2.2.1] ≤ maxApp))) fun _ =>
         Option.bind (inb (i : Int) (9 : Nat)) fun x7 =>
         Option.bind T[x7]? fun x8 => (some (.inl (acc ++ [x5.2.2.2.1], IntKind.wrap .i64 (x8.2.2.2.1.2.2.1 + (1 : Int)))) : Option ((List Tk × Int) ⊕ List Tk))
         else some (.inr acc)) = some (.inl z) := by
        rintro z rfl
        simp only [lt_dec hil, cond_true, hi9, hr, Option.bind_some, hfirst, e1]
        rw [guard_app (by simp only [List.length_cons, List.length_nil]; omega)]
        rfl
      rw [run_inl (hstep _ rfl)]
      exact ih (l.length - (k + 1)) (by omega) (k + 1) _ rfl (by omega) (by rw [List.length_append, List.length_singleton]; omega) (fun _ => ⟨s', t', h4⟩)
    · have : i = l.length := by omega
      subst this
      exact ⟨acc, run_inr (by simp only [nlt_dec, cond_false])⟩

theorem fprice_val {F : FaresT} (h0 : (fareR F).2 = 0) (hg : ∀ x ∈ F.1, x.1.length ≤ 9223372036854775807) (l : List RideT) (hl : l.length ≤ 1000) :
    (8 < l.length ∧ F_fare_Price F l = some (0, [], 33)) ∨ (l.length ≤ 8 ∧ tab (lawOf F l) l.length 0 = none ∧ F_fare_Price F l = some (0, [], 34)) ∨ (l.length ≤ 8 ∧ ∃ s t x9, tab (lawOf F l) l.length 0 = some (s, t) ∧ F_fare_Price F l = some (capI F s, x9, 0)) := by
  have hF := fare_ok h0
  unfold F_fare_Price F_fare_valid
  rw [fare_val F hg]
  simp only [Option.bind_some, decide_eq_true h0, Bool.not_true, cond_false]
  by_cases h8 : 8 < l.length
  · left
    rw [decide_eq_true (show (8 : Int) < (l.length : Int) by omega)]
    exact ⟨h8, rfl⟩
  · right
    rw [decide_eq_false (show ¬ (8 : Int) < (l.length : Int) by omega)]
    simp only [cond_false, Option.bind_some, decide_true, Bool.not_true]
    obtain ⟨T, g1, hT⟩ := divide_val hF (show l.length ≤ 8 by omega)
    rw [g1]
    simp only [Option.bind_some]
    obtain ⟨r, hr, hc⟩ := hT.2 0 (by omega)
    rw [show Int.toNat (0 : Int) = 0 from rfl, hr]
    simp only [Option.bind_some]
    cases hst : tab (lawOf F l) l.length 0 with
    | none =>
      left
      rw [hst] at hc
      rw [show r.1 = false from hc]
      exact ⟨by omega, rfl, rfl⟩
    | some x =>
      right
      obtain ⟨s, t⟩ := x
      rw [hst] at hc
      obtain ⟨c1, c2, _, _⟩ := RelC.ok hc
      obtain ⟨x9, hx9⟩ := tickets_run (by omega) hT l.length 0 [] rfl (Nat.zero_le _) (Nat.le_refl _) (fun _ => ⟨s, t, hst⟩)
      refine ⟨by omega, s, t, x9, rfl, ?_⟩
      rw [c1]
      simp only [Bool.not_true, cond_false]
      refine bind_of (fun y => y = x9) ⟨_, hx9, rfl⟩ ?_
      rintro y rfl
      simp only [c2, capped_val, Option.bind_some]
end Q

/-! Chapter 38: the law of JourneyJoin in plain Lean. Conditions: texts and lists as a machine can hold them. -/
namespace Q
open Tr Go Dv

/-! ### Walks -/

def walk1 (x : LegT) : Int := if x.1 = true ∨ x.2.2.2.2.2.2.1 < 0 ∨ x.2.2.2.2.2.2.2.1 < x.2.2.2.2.2.2.1 ∨ 14400 < x.2.2.2.2.2.2.2.1 - x.2.2.2.2.2.2.1 then 0 else x.2.2.2.2.2.2.2.1 - x.2.2.2.2.2.2.1
def walkL (l : List LegT) : Int := (l.map walk1).sum
theorem walk1_bd (x : LegT) : 0 ≤ walk1 x ∧ walk1 x ≤ 14400 := by
  unfold walk1
  split
  · omega
  · omega
theorem walkL_app (a b : List LegT) : walkL (a ++ b) = walkL a + walkL b := by
  unfold walkL
  rw [List.map_append, List.sum_append]
theorem walkL_bd : ∀ l : List LegT, 0 ≤ walkL l ∧ walkL l ≤ 14400 * (l.length : Int)
  | [] => by simp [walkL]
  | x :: l => by
    have h1 := walk1_bd x
    have h2 := walkL_bd l
    unfold walkL at *
    simp only [List.map_cons, List.sum_cons, List.length_cons]
    omega
def LegOk (x : LegT) : Prop := x.2.2.2.2.2.2.2.1 ≤ 9223372036854775807
theorem walk_val (j : JouT) (hn : j.1.length ≤ 1000) (hg : ∀ x ∈ j.1, LegOk x) : F_journey_Walk j = some (walkL j.1) := by
  unfold F_journey_Walk
  refine bind_of (fun r => r = walkL j.1) ?_ (fun r hr => by rw [hr])
  refine run_for j.1.length _ (fun i (s : Int × Int) => s = (walkL (j.1.take i), (i : Int))) ?_ ?_ _ rfl
  · rintro i _ hi rfl
    left
    have hx := hg _ (List.getElem_mem hi)
    have hw := walkL_bd (j.1.take i)
    rw [List.length_take] at hw
    refine ⟨_, ?_, rfl⟩
    rw [List.take_succ_eq_append_getElem hi, walkL_app]
    generalize walkL (j.1.take i) = W at *
    simp only [lt_dec hi, cond_true, idx_nat hi, Option.bind_some, wrap_succ hi (show j.1.length ≤ 9223372036854775807 by omega)]
    generalize j.1[i] = x at *
    unfold LegOk at hx
    have e0 : walkL [x] = walk1 x := by simp [walkL]
    rw [e0]
    unfold walk1
    cases h1 : x.1 with
    | true =>
      rw [if_pos (.inl rfl), Int.add_zero]
      rfl
    | false =>
      simp only [cond_false]
      by_cases h2 : x.2.2.2.2.2.2.1 < 0
      · rw [decide_eq_true h2, if_pos (.inr (.inl h2)), Int.add_zero]; rfl
      · rw [decide_eq_false h2]
        by_cases h3 : x.2.2.2.2.2.2.2.1 < x.2.2.2.2.2.2.1
        · rw [decide_eq_true h3, if_pos (.inr (.inr (.inl h3))), Int.add_zero]; rfl
        · rw [decide_eq_false h3]
          have ew : IntKind.wrap .i64 (x.2.2.2.2.2.2.2.1 - x.2.2.2.2.2.2.1) = x.2.2.2.2.2.2.2.1 - x.2.2.2.2.2.2.1 := wrap_i64 (by omega) (by omega)
          simp only [cond_false, ew, Option.bind_some]
          by_cases h4 : 14400 < x.2.2.2.2.2.2.2.1 - x.2.2.2.2.2.2.1
          · rw [decide_eq_true h4, if_pos (.inr (.inr (.inr h4))), Int.add_zero]; rfl
          · rw [decide_eq_false h4, if_neg (fun h => by rcases h with h | h | h | h; cases h; exact h2 h; exact h3 h; exact h4 h), wrap_i64 (by omega) (by omega)]
            rfl
  · rintro _ rfl
    simp only [nlt_dec, cond_false]
    rw [List.take_length]
    exact ⟨_, rfl, rfl⟩

/-! ### Costs -/

theorem go_len2 (n : NetT) : ∀ (L : List LegT) (rode : Bool) (out : List RideT), (ridesGo n L rode out).1.length ≤ out.length + L.length
  | [], _, out => by simp [ridesGo]
  | x :: L, rode, out => by
    unfold ridesGo
    split
    · simp
    · split
      · simp
      · split
        · split
          · have := go_len2 n L true (addLast n x out)
            rw [addLast_len] at this
            simp only [List.length_cons]; omega
          · have := go_len2 n L true (out ++ [newRide n x])
            simp only [List.length_append, List.length_cons, List.length_nil] at this ⊢; omega
        · have := go_len2 n L false out
          simp only [List.length_cons]; omega


theorem cost_val (n : NetT) (q : El Y60) (j : JouT) (hf : Fit n) (hj : j.1.length ≤ 80) (hg : ∀ x ∈ j.1, LegOk x) : ∃ c, F_journey_Cost n q j = some c ∧
    (c.2.2 = 0 → Sound n ∧ F_ref26_Valid n = some true ∧ ∃ l s t, ridesGo n j.1 false [] = (l, 0) ∧ l.length ≤ 8 ∧ tab (lawOf n.2.2.2.2.2.1 l) l.length 0 = some (s, t) ∧ c.1.2.2.1 = (l.length : Int) ∧ c.1.2.2.2.1 = capI n.2.2.2.2.2.1 s) ∧
    (∀ l s t, F_ref26_Valid n = some true → ridesGo n j.1 false [] = (l, 0) → l.length ≤ 8 → tab (lawOf n.2.2.2.2.2.1 l) l.length 0 = some (s, t) → c.2.2 = 0 ∧ c.1.2.2.1 = (l.length : Int) ∧ c.1.2.2.2.1 = capI n.2.2.2.2.2.1 s) := by
  unfold F_journey_Cost
  have hw := walk_val j (by omega) hg
  rcases rides_val n j hf (by omega) with ⟨e1, e2⟩ | ⟨hS, e2, e1⟩
  · rw [e1]
    refine ⟨_, rfl, fun h => absurd h (by decide), fun l s t hV => ?_⟩
    rw [e2] at hV; cases hV
  · rw [e1]
    cases hr : ridesGo n j.1 false [] with
    | mk l e =>
      simp only [Option.bind_some]
      have hlen := go_len2 n j.1 false []
      rw [hr] at hlen
      simp only [List.length_nil] at hlen
      by_cases he : e = 0
      · subst he
        simp only [decide_true, Bool.not_true, cond_false]
        rcases fprice_val hS.fare (fun x hx => hf.prods x hx) l (by omega) with ⟨h8, hp⟩ | ⟨h8, hn, hp⟩ | ⟨h8, s, t, x9, hst, hp⟩
        · rw [hp]
          refine ⟨_, rfl, fun h => absurd h (by decide), fun l' s t _ hl' h8' _ => ?_⟩
          obtain ⟨rfl, _⟩ := Prod.mk.inj hl'
          omega
        · rw [hp]
          refine ⟨_, rfl, fun h => absurd h (by decide), fun l' s t _ hl' h8' hst => ?_⟩
          obtain ⟨rfl, _⟩ := Prod.mk.inj hl'
          rw [hn] at hst; cases hst
        · rw [hp]
          simp only [Option.bind_some, decide_true, Bool.not_true, cond_false, hw]
          have hx : ∃ d a, (bif decide ((0 : Int) < (↑(List.length j.1) : Int)) then
             Option.bind (idx j.1 (0 : Int)) fun x3 =>
             Option.bind (idx j.1 (IntKind.wrap .i64 ((↑(List.length j.1) : Int) - (1 : Int)))) fun x4 =>
             some (x3.2.2.2.2.2.2.1, x4.2.2.2.2.2.2.2.1, (↑(List.length l) : Int), capI n.2.2.2.2.2.1 s, walkL j.1, ())
             else some (q.2.2.1, q.2.2.1, (↑(List.length l) : Int), capI n.2.2.2.2.2.1 s, walkL j.1, ())) = some (d, a, (↑(List.length l) : Int), capI n.2.2.2.2.2.1 s, walkL j.1, ()) := by
            by_cases h0 : 0 < j.1.length
            · rw [decide_eq_true (show (0 : Int) < (j.1.length : Int) by omega)]
              have el : IntKind.wrap .i64 ((j.1.length : Int) - 1) = ((j.1.length - 1 : Nat) : Int) := by rw [wrap_i64 (by omega) (by omega)]; omega
              have i0 : Tr.idx j.1 (0 : Int) = some j.1[0] := idx_nat (i := 0) h0
              simp only [cond_true, el, i0, idx_nat (show j.1.length - 1 < j.1.length by omega), Option.bind_some]
              exact ⟨_, _, rfl⟩
            · rw [decide_eq_false (show ¬ (0 : Int) < (j.1.length : Int) by omega)]
              exact ⟨_, _, rfl⟩
          obtain ⟨d, a, hx⟩ := hx
          rw [hx]
          refine ⟨_, rfl, fun _ => ⟨hS, e2, l, s, t, rfl, h8, hst, rfl, rfl⟩, fun l' s' t' _ hl' h8' hst' => ?_⟩
          obtain ⟨rfl, _⟩ := Prod.mk.inj hl'
          rw [hst] at hst'
          obtain ⟨rfl, rfl⟩ := Prod.mk.inj (Option.some.inj hst')
          exact ⟨rfl, rfl, rfl⟩
      · rw [decide_eq_false he]
        refine ⟨_, rfl, fun h => absurd h he, fun l' s t _ hl' => ?_⟩
        exact absurd (Prod.mk.inj hl').2 he

/-! ### Joined -/

theorem addLast_app (n : NetT) (x : LegT) (pre : List RideT) {out : List RideT} (h : 0 < out.length) : addLast n x (pre ++ out) = pre ++ addLast n x out := by
  obtain ⟨v, hv⟩ : ∃ v, out[out.length - 1]? = some v := ⟨_, List.getElem?_eq_getElem (by omega)⟩
  have h2 : (pre ++ out)[(pre ++ out).length - 1]? = some v := by
    rw [List.length_append, List.getElem?_append_right (by omega), show pre.length + out.length - 1 - pre.length = out.length - 1 by omega, hv]
  unfold addLast
  rw [hv, h2]
  simp only
  unfold addRide
  rw [List.length_append, List.set_append_right _ _ (by omega), show pre.length + out.length - 1 - pre.length = out.length - 1 by omega]

theorem go_pre (n : NetT) (pre : List RideT) : ∀ (L : List LegT) (rode : Bool) (out l : List RideT), ridesGo n L rode out = (l, 0) → (rode = true → 0 < out.length) → ridesGo n L rode (pre ++ out) = (pre ++ l, 0)
  | [], _, out, l, h, _ => by
    unfold ridesGo at *
    obtain ⟨rfl, _⟩ := Prod.mk.inj h
    rfl
  | x :: L, rode, out, l, h, hr => by
    rw [ridesGo_cons] at h ⊢
    by_cases c1 : x.1 = true ∧ existsB n x = false
    · rw [if_pos c1] at h
      exact absurd (Prod.mk.inj h).2 (by decide)
    rw [if_neg c1] at h ⊢
    by_cases c2 : stayB x = true ∧ (x.1 = false ∨ rode = false)
    · rw [if_pos c2] at h
      exact absurd (Prod.mk.inj h).2 (by decide)
    rw [if_neg c2] at h ⊢
    by_cases c3 : x.1 = true
    · rw [if_pos c3] at h ⊢
      cases hs : stayB x with
      | false =>
        rw [hs] at h
        simp only [Bool.false_eq_true, if_false] at h ⊢
        rw [List.append_assoc]
        exact go_pre n pre L true _ l h (fun _ => by simp)
      | true =>
        rw [hs] at h
        simp only [if_true] at h ⊢
        have hrt : rode = true := by
          cases hrr : rode with
          | true => rfl
          | false => exact absurd ⟨hs, .inr hrr⟩ c2
        rw [addLast_app n x pre (hr hrt)]
        exact go_pre n pre L true _ l h (fun _ => by rw [addLast_len]; exact hr hrt)
    · rw [if_neg c3] at h ⊢
      exact go_pre n pre L false out l h (fun e => (nomatch e))

theorem go_rode (n : NetT) (L : List LegT) (hL : ∀ x, L.head? = some x → stayB x = false) (rode : Bool) (out : List RideT) : ridesGo n L rode out = ridesGo n L false out := by
  cases L with
  | nil => rfl
  | cons x L =>
    have hs := hL x rfl
    rw [ridesGo_cons, ridesGo_cons, hs]
    simp

theorem go_app (n : NetT) (B : List LegT) (hB : ∀ x, B.head? = some x → stayB x = false) : ∀ (A : List LegT) (rode : Bool) (out la : List RideT), ridesGo n A rode out = (la, 0) → ridesGo n (A ++ B) rode out = ridesGo n B false la
  | [], rode, out, la, h => by
    unfold ridesGo at h
    obtain ⟨rfl, _⟩ := Prod.mk.inj h
    exact go_rode n B hB rode out
  | x :: A, rode, out, la, h => by
    rw [List.cons_append]
    rw [ridesGo_cons] at h ⊢
    by_cases c1 : x.1 = true ∧ existsB n x = false
    · rw [if_pos c1] at h
      exact absurd (Prod.mk.inj h).2 (by decide)
    rw [if_neg c1] at h ⊢
    by_cases c2 : stayB x = true ∧ (x.1 = false ∨ rode = false)
    · rw [if_pos c2] at h
      exact absurd (Prod.mk.inj h).2 (by decide)
    rw [if_neg c2] at h ⊢
    by_cases c3 : x.1 = true
    · rw [if_pos c3] at h ⊢
      exact go_app n B hB A true _ la h
    · rw [if_neg c3] at h ⊢
      exact go_app n B hB A false out la h

theorem slice_left {la lb : List RideT} {i k : Nat} (hk : k < la.length) : ((la ++ lb).drop i).take (k + 1 - i) = (la.drop i).take (k + 1 - i) := by
  by_cases hi : i ≤ la.length
  · rw [List.drop_append_of_le_length hi, List.take_append_of_le_length (by rw [List.length_drop]; omega)]
  · rw [show k + 1 - i = 0 by omega]; simp
theorem slice_right {la lb : List RideT} {i k : Nat} : ((la ++ lb).drop (la.length + i)).take (la.length + k + 1 - (la.length + i)) = (lb.drop i).take (k + 1 - i) := by
  rw [List.drop_append, show la.length + k + 1 - (la.length + i) = k + 1 - i by omega, List.drop_eq_nil_of_le (by omega), List.nil_append, show la.length + i - la.length = i by omega]

theorem pr_left {F : FaresT} {p : ProdT} {la lb : List RideT} {i : Nat} (hi : i < la.length) : prI F p (la ++ lb) i = prI F p la i := by
  unfold prI
  rw [List.getElem?_append_left hi, List.getElem?_append_left (show i - 1 < la.length by omega)]
theorem pr_right {F : FaresT} {p : ProdT} {la lb : List RideT} {i : Nat} (hp : 0 ≤ p.2.1) (hd : 0 ≤ F.2.1) : prI F p (la ++ lb) (la.length + i) ≤ prI F p lb i := by
  by_cases h0 : 0 < i
  · have e1 : (la ++ lb)[la.length + i]? = lb[i]? := by rw [List.getElem?_append_right (by omega), show la.length + i - la.length = i by omega]
    have e2 : (la ++ lb)[la.length + i - 1]? = lb[i - 1]? := by rw [List.getElem?_append_right (by omega), show la.length + i - 1 - la.length = i - 1 by omega]
    unfold prI
    rw [e1, e2]
    by_cases hc : wthB ((lb[i - 1]?).getD rd0).2.1 ((lb[i]?).getD rd0).1 F.2.2.1 = true
    · have h0' : 0 < la.length + i := by omega
      simp [hc, h0, h0']
    · rw [if_neg (fun h => hc h.2), if_neg (fun h => hc h.2)]; exact Int.le_refl _
  · have : i = 0 := by omega
    subst this
    have e : prI F p lb 0 = p.2.1 := by unfold prI; rw [if_neg (fun h => absurd h.1 (by omega))]
    rw [e]
    unfold prI
    split
    · split
      · omega
      · exact hp
    · exact Int.le_refl _

theorem fare_join {F : FaresT} (hF : FareOk F) {la lb : List RideT} {a b : Int} {ta tb : List Tk} (h1 : tab (lawOf F la) la.length 0 = some (a, ta)) (h2 : tab (lawOf F lb) lb.length 0 = some (b, tb)) :
    ∃ c tc, tab (lawOf F (la ++ lb)) (la ++ lb).length 0 = some (c, tc) ∧ capI F c ≤ capI F a + capI F b := by
  have ba := tab_best (lawOf F la) la.length (Nat.le_refl _) 0 (by show la.length - la.length ≤ 0; omega) (Nat.zero_le _)
  have bb := tab_best (lawOf F lb) lb.length (Nat.le_refl _) 0 (by show lb.length - lb.length ≤ 0; omega) (Nat.zero_le _)
  rw [h1] at ba
  rw [h2] at bb
  have hgp : ∀ p, p < F.1.length → 0 ≤ ((F.1[p]?).getD p0).2.1 := fun p hp => by
    rw [getD_of hp]; exact (hF.price _ (List.getElem_mem hp)).1
  obtain ⟨c0, hc0, hd⟩ := div_cat (A := lawOf F la) (B := lawOf F lb) (C := lawOf F (la ++ lb)) (by show (la ++ lb).length = la.length + lb.length; simp) rfl rfl
    (fun p i k _ hk h => by show covB _ _ = true; rw [slice_left hk]; exact h)
    (fun p i k _ _ h => by show covB _ (((la ++ lb).drop (la.length + i)).take (la.length + k + 1 - (la.length + i))) = true; rw [slice_right]; exact h)
    (fun p i _ hi => by show prI F _ (la ++ lb) i ≤ prI F _ la i; rw [pr_left hi]; exact Int.le_refl _)
    (fun p i hp _ => pr_right (hgp p hp) hF.disc.1) ba.1 bb.1
  have bc := tab_best (lawOf F (la ++ lb)) (la ++ lb).length (Nat.le_refl _) 0 (by show (la ++ lb).length - (la ++ lb).length ≤ 0; omega) (Nat.zero_le _)
  have na := div_nonneg (fun p i hp => (pr_bound hF (l := la) (i := i) hp).1) ba.1
  have nb := div_nonneg (fun p i hp => (pr_bound hF (l := lb) (i := i) hp).1) bb.1
  cases hst : tab (lawOf F (la ++ lb)) (la ++ lb).length 0 with
  | none => rw [hst] at bc; exact absurd hd (bc c0)
  | some x =>
    obtain ⟨c, tc⟩ := x
    rw [hst] at bc
    have hle := bc.2 c0 hd
    refine ⟨c, tc, rfl, ?_⟩
    unfold capI
    have := hF.cap
    split <;> split <;> split <;> omega

theorem join_law (n : El Y31) (a b : El Y34) (h : Good Y31 n) (ha : Good Y34 a) (hb : Good Y34 b) : F_law38_JourneyJoin n a b = some true := by
  have hla : ∀ x ∈ a.1, LegOk x := fun x hx => by
    obtain ⟨⟨_, h1⟩, _⟩ := ha
    exact (h1 x hx).2.2.2.2.2.2.2.1.2
  have hlb : ∀ x ∈ b.1, LegOk x := fun x hx => by
    obtain ⟨⟨_, h1⟩, _⟩ := hb
    exact (h1 x hx).2.2.2.2.2.2.2.1.2
  unfold F_law38_JourneyJoin
  obtain ⟨c1, hc1, hd1⟩ := light_val n a
  obtain ⟨c2, hc2, hd2⟩ := light_val n b
  rw [hc1, hc2, example_true]
  simp only [Option.bind_some]
  cases c1 with
  | false => rfl
  | true =>
    cases c2 with
    | false => rfl
    | true =>
      obtain ⟨p1, p2⟩ := hd1 rfl
      obtain ⟨_, p4⟩ := hd2 rfl
      have p2 : a.1.length ≤ 20 := p2
      have p4 : b.1.length ≤ 20 := p4
      have hfit : Fit n := fit_of h (by have : n.2.2.2.2.1.length ≤ 200 := p1; omega)
      simp only [Bool.not_true, cond_false]
      have hst : ∃ st : Bool, (bif decide ((0 : Int) < (↑(List.length b.1) : Int)) then Option.bind (idx b.1 (0 : Int)) fun x2 => some x2.2.2.2.2.2.2.2.2.1 else some false) = some st ∧ (st = false → ∀ x, b.1.head? = some x → stayB x = false) := by
        by_cases h0 : 0 < b.1.length
        · rw [decide_eq_true (show (0 : Int) < (b.1.length : Int) by omega)]
          have i0 : Tr.idx b.1 (0 : Int) = some b.1[0] := idx_nat (i := 0) h0
          simp only [cond_true, i0, Option.bind_some]
          refine ⟨_, rfl, fun e x hx => ?_⟩
          rw [List.head?_eq_getElem?, List.getElem?_eq_getElem h0] at hx
          obtain rfl := Option.some.inj hx
          exact e
        · rw [decide_eq_false (show ¬ (0 : Int) < (b.1.length : Int) by omega)]
          refine ⟨false, rfl, fun _ x hx => ?_⟩
          have : b.1 = [] := List.length_eq_zero_iff.1 (by omega)
          rw [this] at hx; cases hx
      obtain ⟨st, hst1, hst2⟩ := hst
      rw [hst1]
      simp only [Option.bind_some]
      cases st with
      | true => rfl
      | false =>
        have hB := hst2 rfl
        simp only [cond_false]
        rw [(join_val a b (by omega) (by omega)).1]
        simp only [Option.bind_some]
        cases hj : joinOk a.1 b.1 with
        | false => rfl
        | true =>
          simp only [if_true, Bool.not_true, cond_false]
          have hlen : (a.1 ++ b.1, ()).1.length ≤ 40 := by simp only [List.length_append]; omega
          have hlj : ∀ x ∈ (a.1 ++ b.1, ()).1, LegOk x := fun x hx => by
            rcases List.mem_append.1 hx with hx | hx
            · exact hla x hx
            · exact hlb x hx
          have w1 := walkL_bd a.1
          have w2 := walkL_bd b.1
          rw [walk_val (a.1 ++ b.1, ()) (by omega) hlj, walk_val a (by omega) hla, walk_val b (by omega) hlb]
          simp only [Option.bind_some]
          rw [walkL_app, wrap_i64 (x := walkL a.1 + walkL b.1) (by omega) (by omega)]
          simp only [decide_true, Bool.not_true, cond_false]
          obtain ⟨x, hx1, hx2, _⟩ := cost_val n ((0 : Int), (0 : Int), (0 : Int), false, (0 : Int), (0 : Int), false, false, (0 : Int), false, ()) a hfit (by omega) hla
          obtain ⟨y, hy1, hy2, _⟩ := cost_val n ((0 : Int), (0 : Int), (0 : Int), false, (0 : Int), (0 : Int), false, false, (0 : Int), false, ()) b hfit (by omega) hlb
          obtain ⟨z, hz1, _, hz3⟩ := cost_val n ((0 : Int), (0 : Int), (0 : Int), false, (0 : Int), (0 : Int), false, false, (0 : Int), false, ()) (a.1 ++ b.1, ()) hfit (by omega) hlj
          rw [hx1]
          simp only [Option.bind_some]
          rw [hy1]
          simp only [Option.bind_some]
          rw [hz1]
          simp only [Option.bind_some]
          by_cases hxe : x.2.2 = 0
          · rw [decide_eq_true hxe]
            by_cases hye : y.2.2 = 0
            · rw [decide_eq_true hye]
              obtain ⟨hS, hV, la, sa, ta, q1, q2, q3, q4, q5⟩ := hx2 hxe
              obtain ⟨_, _, lb, sb, tb, r1, r2, r3, r4, r5⟩ := hy2 hye
              simp only [Bool.not_true, cond_false, q4, r4, q5, r5]
              have e1 : IntKind.wrap .i64 ((la.length : Int) + (lb.length : Int)) = ((la.length + lb.length : Nat) : Int) := by rw [wrap_i64 (by omega) (by omega)]; omega
              rw [e1]
              by_cases h8 : 8 < la.length + lb.length
              · rw [decide_eq_true (show (8 : Int) < ((la.length + lb.length : Nat) : Int) by omega)]; rfl
              · rw [decide_eq_false (show ¬ (8 : Int) < ((la.length + lb.length : Nat) : Int) by omega)]
                have hF := fare_ok hS.fare
                obtain ⟨c, tc, g1, g2⟩ := fare_join hF q3 r3
                have hgo : ridesGo n (a.1 ++ b.1) false [] = (la ++ lb, 0) := by
                  rw [go_app n b.1 hB a.1 false [] la q1]
                  have := go_pre n la b.1 false [] lb r1 (fun e => (nomatch e))
                  rwa [List.append_nil] at this
                obtain ⟨z1, z2, z3⟩ := hz3 (la ++ lb) c tc hV hgo (by rw [List.length_append]; omega) g1
                have bnd : ∀ (l : List RideT) (s : Int) (t : List Tk), l.length ≤ 8 → tab (lawOf n.2.2.2.2.2.1 l) l.length 0 = some (s, t) → 0 ≤ capI n.2.2.2.2.2.1 s ∧ capI n.2.2.2.2.2.1 s ≤ 8000000 := fun l s t hl hst => by
                  obtain ⟨b1, b2, _⟩ := tab_bd (L := lawOf n.2.2.2.2.2.1 l) (fun p i hp => pr_bound hF hp) l.length (Nat.le_refl _) 0 s t hst
                  have b2 : s ≤ 1000000 * ((l.length : Int) - ((0 : Nat) : Int)) := b2
                  have := hF.cap
                  unfold capI
                  split <;> omega
                have u1 := bnd la sa ta q2 q3
                have u2 := bnd lb sb tb r2 r3
                rw [wrap_i64 (x := capI n.2.2.2.2.2.1 sa + capI n.2.2.2.2.2.1 sb) (by omega) (by omega)]
                simp only [cond_false, Option.bind_some, z1, z2, z3, decide_true, cond_true, List.length_append]
                rw [decide_eq_true g2]
                rfl
            · rw [decide_eq_false hye]; rfl
          · rw [decide_eq_false hxe]; rfl

theorem joinP (x : ElPs F_law38_JourneyJoinA) (hx : GoodPs F_law38_JourneyJoinA x) : F_law38_JourneyJoin x.1 x.2.1 x.2.2.1 = some true := join_law x.1 x.2.1 x.2.2.1 hx.1 hx.2.1 hx.2.2.1
end Q
