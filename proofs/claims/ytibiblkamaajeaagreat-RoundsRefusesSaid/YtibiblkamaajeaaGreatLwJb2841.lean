/- Plain laws: what network.Check computes. -/
import Derived.Test.YtibiblkamaajeaaGreatLwJa2841
namespace Q
open Tr Go
def firstBad (n : Nat) (chk : Nat → Int) : Option Nat := (List.range n).find? fun i => decide (chk i ≠ 0)
theorem firstBad_some {n i : Nat} {chk : Nat → Int} (hi : i < n) (h : ∀ j, j < i → chk j = 0) (hb : chk i ≠ 0) : firstBad n chk = some i := by
  unfold firstBad
  rw [List.find?_eq_some_iff_getElem]
  refine ⟨by simpa using hb, i, by simpa using hi, by simp, fun j hj => ?_⟩
  simp [h j hj]
theorem firstBad_none {n : Nat} {chk : Nat → Int} (h : ∀ j, j < n → chk j = 0) : firstBad n chk = none := by
  unfold firstBad
  rw [List.find?_eq_none]
  intro x hx
  simp [h x (by simpa using hx)]
theorem firstBad_iff {n : Nat} {chk : Nat → Int} : firstBad n chk = none ↔ ∀ j, j < n → chk j = 0 := by
  refine ⟨fun h j hj => ?_, firstBad_none⟩
  unfold firstBad at h
  rw [List.find?_eq_none] at h
  have := h j (by simpa using hj)
  simpa using this
theorem firstBad_spec {n i : Nat} {chk : Nat → Int} (h : firstBad n chk = some i) : i < n ∧ chk i ≠ 0 := by
  unfold firstBad at h
  have h1 := List.find?_some h
  have h2 := List.mem_of_find?_eq_some h
  exact ⟨by simpa using h2, by simpa using h1⟩
def pick {τ : Type} (n : Nat) (chk : Nat → Int) (R : Nat → τ) (E : τ) : τ := match firstBad n chk with
  | some i => R i
  | none => E
theorem scan_run {σ τ : Type} {step : σ → Option (σ ⊕ τ)} {n : Nat} (St : Nat → σ → Prop) (chk : Nat → Int) (R : Nat → τ) (E : τ)
    (hok : ∀ i s, i < n → St i s → chk i = 0 → ∃ s', step s = some (.inl s') ∧ St (i + 1) s')
    (hbad : ∀ i s, i < n → St i s → chk i ≠ 0 → step s = some (.inr (R i)))
    (hend : ∀ s, St n s → step s = some (.inr E)) : ∀ s, St 0 s → run step s = some (pick n chk R E) := by
  have key : ∀ (k i : Nat) (s : σ), n - i = k → i ≤ n → St i s → (∀ j, j < i → chk j = 0) → run step s = some (pick n chk R E) := by
    intro k
    induction k with
    | zero =>
      intro i s hk hi hs hj
      have : i = n := by omega
      subst this
      rw [run_inr (hend s hs)]
      unfold pick
      rw [firstBad_none hj]
    | succ k ih =>
      intro i s hk hi hs hj
      by_cases hc : chk i = 0
      · obtain ⟨s', h1, h2⟩ := hok i s (by omega) hs hc
        rw [run_inl h1]
        refine ih (i + 1) s' (by omega) (by omega) h2 fun j hji => ?_
        by_cases hje : j = i
        · subst hje; exact hc
        · exact hj j (by omega)
      · rw [run_inr (hbad i s (by omega) hs hc)]
        unfold pick
        rw [firstBad_some (by omega) hj hc]
  intro s hs
  exact key n 0 s (by omega) (Nat.zero_le _) hs fun j hj => by omega
def Seen {t : Ty} (key : Nat → El t) (i : Nat) (m : List (El t × Bool)) : Prop := ∀ k, Option.getD (amGet (keyEq t) k m) false = true ↔ ∃ j, j < i ∧ key j = k
theorem Seen.nil {t : Ty} (key : Nat → El t) : Seen key 0 [] := fun k => by
  simp [amGet]
theorem Seen.add {t : Ty} (hk : t.key = true) {key : Nat → El t} {i : Nat} {m : List (El t × Bool)} (h : Seen key i m) : Seen key (i + 1) (amSet (keyEq t) (key i) true m) := by
  classical
  intro k
  rw [amGet_set hk]
  by_cases hki : k = key i
  · rw [if_pos hki]
    simp only [Option.getD_some, true_iff]
    exact ⟨i, by omega, hki.symm⟩
  · rw [if_neg hki, h k]
    constructor
    · rintro ⟨j, h1, h2⟩
      exact ⟨j, by omega, h2⟩
    · rintro ⟨j, h1, h2⟩
      by_cases hj : j = i
      · subst hj; exact absurd h2.symm hki
      · exact ⟨j, by omega, h2⟩
theorem wrap_succ {i n : Nat} (h : i < n) (hn : n ≤ 9223372036854775807) : IntKind.wrap .i64 ((i : Int) + 1) = ((i + 1 : Nat) : Int) := by
  rw [wrap_i64 (by omega) (by omega)]; omega
theorem lt_dec {i n : Nat} (h : i < n) : decide ((i : Int) < (n : Int)) = true := decide_eq_true (by omega)
theorem nlt_dec (n : Nat) : decide ((n : Int) < (n : Int)) = false := decide_eq_false (by omega)
def okx (x : Int) : Bool :=
  ((decide (97 ≤ x) && decide (x ≤ 122)) || (decide (65 ≤ x) && decide (x ≤ 90)) || (decide (48 ≤ x) && decide (x ≤ 57))) || (decide (x = 45) || decide (x = 95) || decide (x = 46))
def okc (c : UInt8) : Bool := okx (c.toNat : Int)
def validB (s : List UInt8) : Bool := decide (1 ≤ s.length ∧ s.length ≤ 32) && s.all okc
theorem bsome (b : Bool) (x y : Bool) : (bif b then some x else some y) = some (bif b then x else y) := by cases b <;> rfl
def chkc (s : List UInt8) (i : Nat) : Int := if okc ((s[i]?).getD 0) then 0 else 1
theorem chkc_all (s : List UInt8) : firstBad s.length (chkc s) = none ↔ s.all okc = true := by
  rw [firstBad_iff, List.all_eq_true]
  constructor
  · intro h c hc
    obtain ⟨i, hi, rfl⟩ := List.getElem_of_mem hc
    have := h i hi
    unfold chkc at this
    rw [List.getElem?_eq_getElem hi] at this
    simp only [Option.getD_some] at this
    by_cases ho : okc s[i] = true
    · exact ho
    · rw [if_neg ho] at this; omega
  · intro h i hi
    unfold chkc
    rw [List.getElem?_eq_getElem hi]
    simp only [Option.getD_some]
    rw [if_pos (h _ (List.getElem_mem hi))]
theorem valid_val (s : List UInt8) (hs : s.length ≤ 9223372036854775807) : F25 s = some (validB s) := by
  unfold F25
  rw [scan_run (n := s.length) (fun i st => st = (i : Int)) (chkc s) (fun _ => .inr false) (.inl ()) ?_ ?_ ?_ (0 : Int) rfl]
  · unfold pick
    simp only [Option.bind_some]
    cases hb : firstBad s.length (chkc s) with
    | none =>
      have ha := (chkc_all s).1 hb
      simp only [Sum.elim_inl]
      unfold validB
      rw [ha, Bool.and_true]
      by_cases h1 : 0 < s.length
      · rw [decide_eq_true (show (0 : Int) < (s.length : Int) by omega)]
        simp only [cond_true, Option.bind_some]
        congr 1
        exact decide_eq_decide.2 (by omega)
      · rw [decide_eq_false (show ¬ (0 : Int) < (s.length : Int) by omega)]
        simp only [cond_false, Option.bind_some]
        rw [decide_eq_false (by omega)]
    | some i =>
      simp only [Sum.elim_inr]
      have ha : s.all okc = false := by
        cases hc : s.all okc with
        | false => rfl
        | true => rw [(chkc_all s).2 hc] at hb; cases hb
      unfold validB
      rw [ha, Bool.and_false]
  · rintro i _ hi rfl hc
    refine ⟨_, ?_, rfl⟩
    have ho : okc s[i] = true := by
      unfold chkc at hc
      rw [List.getElem?_eq_getElem hi] at hc
      simp only [Option.getD_some] at hc
      by_cases ho : okc s[i] = true
      · exact ho
      · rw [if_neg ho] at hc; omega
    simp only [lt_dec hi, cond_true, idx_nat hi, Option.bind_some, bsome, wrap_succ hi hs]
    unfold okc okx at ho
    generalize decide ((97 : Int) ≤ (s[i].toNat : Int)) = a1 at ho ⊢
    generalize decide ((s[i].toNat : Int) ≤ 122) = a2 at ho ⊢
    generalize decide ((65 : Int) ≤ (s[i].toNat : Int)) = b1 at ho ⊢
    generalize decide ((s[i].toNat : Int) ≤ 90) = b2 at ho ⊢
    generalize decide ((48 : Int) ≤ (s[i].toNat : Int)) = c1 at ho ⊢
    generalize decide ((s[i].toNat : Int) ≤ 57) = c2 at ho ⊢
    generalize decide ((s[i].toNat : Int) = 45) = d1 at ho ⊢
    generalize decide ((s[i].toNat : Int) = 95) = d2 at ho ⊢
    generalize decide ((s[i].toNat : Int) = 46) = d3 at ho ⊢
    revert ho
    cases a1 <;> cases a2 <;> cases b1 <;> cases b2 <;> cases c1 <;> cases c2 <;> cases d1 <;> cases d2 <;> cases d3 <;> first | (intro ho; rfl) | (intro ho; cases ho)
  · rintro i _ hi rfl hc
    have ho : okc s[i] = false := by
      unfold chkc at hc
      rw [List.getElem?_eq_getElem hi] at hc
      simp only [Option.getD_some] at hc
      by_cases ho : okc s[i] = true
      · rw [if_pos ho] at hc; omega
      · simpa using ho
    simp only [lt_dec hi, cond_true, idx_nat hi, Option.bind_some, bsome, wrap_succ hi hs]
    unfold okc okx at ho
    generalize decide ((97 : Int) ≤ (s[i].toNat : Int)) = a1 at ho ⊢
    generalize decide ((s[i].toNat : Int) ≤ 122) = a2 at ho ⊢
    generalize decide ((65 : Int) ≤ (s[i].toNat : Int)) = b1 at ho ⊢
    generalize decide ((s[i].toNat : Int) ≤ 90) = b2 at ho ⊢
    generalize decide ((48 : Int) ≤ (s[i].toNat : Int)) = c1 at ho ⊢
    generalize decide ((s[i].toNat : Int) ≤ 57) = c2 at ho ⊢
    generalize decide ((s[i].toNat : Int) = 45) = d1 at ho ⊢
    generalize decide ((s[i].toNat : Int) = 95) = d2 at ho ⊢
    generalize decide ((s[i].toNat : Int) = 46) = d3 at ho ⊢
    revert ho
    cases a1 <;> cases a2 <;> cases b1 <;> cases b2 <;> cases c1 <;> cases c2 <;> cases d1 <;> cases d2 <;> cases d3 <;> first | (intro ho; rfl) | (intro ho; cases ho)
  · rintro _ rfl
    simp only [nlt_dec, cond_false]
theorem validR_val (s : List UInt8) : F63 s = some (validB s) := by
  unfold F63
  by_cases h1 : s.length < 1
  · rw [decide_eq_true (show (s.length : Int) < 1 by omega)]
    simp only [cond_true, Option.bind_some]
    unfold validB
    rw [decide_eq_false (by omega)]; rfl
  · rw [decide_eq_false (show ¬ (s.length : Int) < 1 by omega)]
    simp only [cond_false, Option.bind_some]
    by_cases h2 : 32 < s.length
    · rw [decide_eq_true (show (32 : Int) < (s.length : Int) by omega)]
      simp only [cond_true]
      unfold validB
      rw [decide_eq_false (by omega)]; rfl
    · rw [decide_eq_false (show ¬ (32 : Int) < (s.length : Int) by omega)]
      simp only [cond_false]
      have hs : s.length ≤ 9223372036854775807 := by omega
      rw [scan_run (n := s.length) (fun i st => st = (i : Int)) (chkc s) (fun _ => .inr false) (.inl ()) ?_ ?_ ?_ (0 : Int) rfl]
      · unfold pick
        simp only [Option.bind_some]
        unfold validB
        rw [decide_eq_true (show 1 ≤ s.length ∧ s.length ≤ 32 by omega), Bool.true_and]
        cases hb : firstBad s.length (chkc s) with
        | none => rw [(chkc_all s).1 hb]; rfl
        | some i =>
          have ha : s.all okc = false := by
            cases hc : s.all okc with
            | false => rfl
            | true => rw [(chkc_all s).2 hc] at hb; cases hb
          rw [ha]; rfl
      · rintro i _ hi rfl hc
        refine ⟨_, ?_, rfl⟩
        have ho : okc s[i] = true := by
          unfold chkc at hc
          rw [List.getElem?_eq_getElem hi] at hc
          simp only [Option.getD_some] at hc
          by_cases ho : okc s[i] = true
          · exact ho
          · rw [if_neg ho] at hc; omega
        simp only [lt_dec hi, cond_true, idx_nat hi, Option.bind_some, wrap_succ hi hs]
        unfold okc okx at ho
        generalize decide ((97 : Int) ≤ (s[i].toNat : Int)) = a1 at ho ⊢
        generalize decide ((s[i].toNat : Int) ≤ 122) = a2 at ho ⊢
        generalize decide ((65 : Int) ≤ (s[i].toNat : Int)) = b1 at ho ⊢
        generalize decide ((s[i].toNat : Int) ≤ 90) = b2 at ho ⊢
        generalize decide ((48 : Int) ≤ (s[i].toNat : Int)) = c1 at ho ⊢
        generalize decide ((s[i].toNat : Int) ≤ 57) = c2 at ho ⊢
        generalize decide ((s[i].toNat : Int) = 45) = d1 at ho ⊢
        generalize decide ((s[i].toNat : Int) = 95) = d2 at ho ⊢
        generalize decide ((s[i].toNat : Int) = 46) = d3 at ho ⊢
        revert ho
        cases a1 <;> cases a2 <;> cases b1 <;> cases b2 <;> cases c1 <;> cases c2 <;> cases d1 <;> cases d2 <;> cases d3 <;> first | (intro ho; rfl) | (intro ho; cases ho)
      · rintro i _ hi rfl hc
        have ho : okc s[i] = false := by
          unfold chkc at hc
          rw [List.getElem?_eq_getElem hi] at hc
          simp only [Option.getD_some] at hc
          by_cases ho : okc s[i] = true
          · rw [if_pos ho] at hc; omega
          · simpa using ho
        simp only [lt_dec hi, cond_true, idx_nat hi, Option.bind_some, wrap_succ hi hs]
        unfold okc okx at ho
        generalize decide ((97 : Int) ≤ (s[i].toNat : Int)) = a1 at ho ⊢
        generalize decide ((s[i].toNat : Int) ≤ 122) = a2 at ho ⊢
        generalize decide ((65 : Int) ≤ (s[i].toNat : Int)) = b1 at ho ⊢
        generalize decide ((s[i].toNat : Int) ≤ 90) = b2 at ho ⊢
        generalize decide ((48 : Int) ≤ (s[i].toNat : Int)) = c1 at ho ⊢
        generalize decide ((s[i].toNat : Int) ≤ 57) = c2 at ho ⊢
        generalize decide ((s[i].toNat : Int) = 45) = d1 at ho ⊢
        generalize decide ((s[i].toNat : Int) = 95) = d2 at ho ⊢
        generalize decide ((s[i].toNat : Int) = 46) = d3 at ho ⊢
        revert ho
        cases a1 <;> cases a2 <;> cases b1 <;> cases b2 <;> cases c1 <;> cases c2 <;> cases d1 <;> cases d2 <;> cases d3 <;> first | (intro ho; rfl) | (intro ho; cases ho)
      · rintro _ rfl
        simp only [nlt_dec, cond_false]
end Q
namespace Q
open Tr Go
open Classical in
noncomputable def fault (name dup num : Prop) : Int := if name then 12 else if dup then 6 else if num then 2 else 0
theorem fault_zero {a b c : Prop} : fault a b c = 0 ↔ ¬ a ∧ ¬ b ∧ ¬ c := by
  unfold fault
  by_cases h1 : a
  · simp [h1]
  · by_cases h2 : b
    · simp [h1, h2]
    · by_cases h3 : c
      · simp [h1, h2, h3]
      · simp [h1, h2, h3]
theorem fault_name {a b c : Prop} (h : a) : fault a b c = 12 := by unfold fault; rw [if_pos h]
theorem fault_dup {a b c : Prop} (h : ¬ a) (h2 : b) : fault a b c = 6 := by unfold fault; rw [if_neg h, if_pos h2]
theorem fault_num {a b c : Prop} (h : ¬ a) (h2 : ¬ b) (h3 : c) : fault a b c = 2 := by unfold fault; rw [if_neg h, if_neg h2, if_pos h3]
theorem fault_none {a b c : Prop} (h : ¬ a) (h2 : ¬ b) (h3 : ¬ c) : fault a b c = 0 := by unfold fault; rw [if_neg h, if_neg h2, if_neg h3]
theorem dup_run {τ : Type} {step : Int → Option (Int ⊕ τ)} {i : Nat} {p : Nat → Prop} {R E : τ} (hno : ∀ j : Nat, j < i → ¬ p j → step (j : Int) = some (.inl ((j + 1 : Nat) : Int))) (hyes : ∀ j : Nat, j < i → p j → step (j : Int) = some (.inr R))
    (hend : step (i : Int) = some (.inr E)) : ((∃ j, j < i ∧ p j) → run step (0 : Int) = some R) ∧ ((¬ ∃ j, j < i ∧ p j) → run step (0 : Int) = some E) := by
  classical
  have key := scan_run (n := i) (step := step) (fun j st => st = (j : Int)) (fun j => if p j then 1 else 0) (fun _ => R) E (fun j s hj hs hc => by
    subst hs
    refine ⟨_, hno j hj fun hp => ?_, rfl⟩
    rw [if_pos hp] at hc; omega) (fun j s hj hs hc => by
    subst hs
    refine hyes j hj ?_
    by_cases hp : p j
    · exact hp
    · rw [if_neg hp] at hc; exact absurd rfl hc) (fun s hs => by subst hs; exact hend) (0 : Int) rfl
  constructor
  · rintro ⟨j, hj, hp⟩
    rw [key]
    unfold pick
    cases hb : firstBad i (fun j => if p j then 1 else 0) with
    | some k => rfl
    | none =>
      have := firstBad_iff.1 hb j hj
      simp only [if_pos hp] at this; omega
  · intro hno'
    rw [key]
    unfold pick
    rw [firstBad_none fun j hj => if_neg fun hp => hno' ⟨j, hj, hp⟩]
theorem in_val (x a b : Int) : F64 x a b = some (decide (a ≤ x ∧ x ≤ b)) := by
  unfold F64
  by_cases h : a ≤ x
  · rw [decide_eq_true h]
    simp only [cond_true, Option.bind_some]
    exact congrArg some (decide_eq_decide.2 ⟨fun hb => ⟨h, hb⟩, fun hb => hb.2⟩)
  · rw [decide_eq_false h]
    simp only [cond_false, Option.bind_some]
    rw [decide_eq_false (fun hb => h hb.1)]
theorem within_val (x a b : Int) : F56 x a b = some (decide (a ≤ x ∧ x ≤ b)) := in_val x a b
abbrev StopT := List UInt8 × Int × Bool × Int × Unit
abbrev RouteT := List UInt8 × Int × Bool × Unit
noncomputable def stopF (l : List StopT) (i : Nat) : Int :=
  let x : StopT := (l[i]?).getD ([], 0, false, 0, ())
  fault (validB x.1 = false) (∃ j, j < i ∧ ((l[j]?).getD ([], 0, false, 0, ())).1 = x.1) (x.2.1 < 0 ∨ 16 ≤ x.2.1 ∨ x.2.2.2.1 < 0 ∨ 3600 < x.2.2.2.1)
noncomputable def stopR (l : List StopT) : Int × Int := if 64 < l.length then (0, 5) else pick l.length (stopF l) (fun i => ((i : Int), stopF l i)) (0, 0)
theorem stop_val (l : List StopT) (hg : ∀ x ∈ l, x.1.length ≤ 9223372036854775807) : F100 l = some (stopR l) := by
  unfold F100 stopR
  by_cases h64 : 64 < l.length
  · rw [if_pos h64, decide_eq_true (show (64 : Int) < (l.length : Int) by omega)]; rfl
  · rw [if_neg h64, decide_eq_false (show ¬ (64 : Int) < (l.length : Int) by omega)]
    simp only [cond_false]
    rw [scan_run (n := l.length) (fun i st => ∃ m, st = (m, (i : Int)) ∧ Seen (t := Y9) (fun j => ((l[j]?).getD ([], 0, false, 0, ())).1) i m) (stopF l) (fun i => .inr ((i : Int), stopF l i)) (.inl ()) ?_ ?_ ?_ ([], (0 : Int)) ⟨[], rfl, Seen.nil _⟩]
    · unfold pick
      cases firstBad l.length (stopF l) <;> rfl
    · rintro i _ hi ⟨m, rfl, hS⟩ hc
      have hx : (l[i]?).getD ([], 0, false, 0, ()) = l[i] := by rw [List.getElem?_eq_getElem hi]; rfl
      unfold stopF at hc
      simp only [hx] at hc
      obtain ⟨h1, h2, h3⟩ := fault_zero.1 hc
      have h1 : validB (l[i]).1 = true := by simpa using h1
      have h2' : Option.getD (amGet (keyEq Y9) (l[i]).1 m) false = false := by
        cases hb : Option.getD (amGet (keyEq Y9) (l[i]).1 m) false with
        | false => rfl
        | true => exact absurd ((hS _).1 hb) h2
      refine ⟨(amSet (keyEq Y9) (l[i]).1 true m, ((i + 1 : Nat) : Int)), ?_, _, rfl, ?_⟩
      · simp only [lt_dec hi, cond_true, idx_nat hi, Option.bind_some, valid_val _ (hg _ (List.getElem_mem hi)), h1, Bool.not_true, cond_false, h2', wrap_succ hi (show l.length ≤ 9223372036854775807 by omega),
          show decide ((l[i]).2.1 < 0) = false from decide_eq_false (by omega), show decide ((16 : Int) ≤ (l[i]).2.1) = false from decide_eq_false (by omega), show decide ((l[i]).2.2.2.1 < 0) = false from decide_eq_false (by omega), show decide ((3600 : Int) < (l[i]).2.2.2.1) = false from decide_eq_false (by omega)]
      · have := Seen.add (t := Y9) rfl hS
        simp only [hx] at this
        exact this
    · rintro i _ hi ⟨m, rfl, hS⟩ hc
      have hx : (l[i]?).getD ([], 0, false, 0, ()) = l[i] := by rw [List.getElem?_eq_getElem hi]; rfl
      simp only [lt_dec hi, cond_true, idx_nat hi, Option.bind_some, valid_val _ (hg _ (List.getElem_mem hi))]
      unfold stopF at hc ⊢
      simp only [hx] at hc ⊢
      by_cases h1 : validB (l[i]).1 = false
      · rw [fault_name h1, h1]; rfl
      · have h1' : validB (l[i]).1 = true := by simpa using h1
        simp only [h1', Bool.not_true, cond_false]
        by_cases h2 : ∃ j, j < i ∧ ((l[j]?).getD ([], 0, false, 0, ())).1 = (l[i]).1
        · rw [fault_dup (by simp) h2, (hS _).2 h2]; rfl
        · have h2' : Option.getD (amGet (keyEq Y9) (l[i]).1 m) false = false := by
            cases hb : Option.getD (amGet (keyEq Y9) (l[i]).1 m) false with
            | false => rfl
            | true => exact absurd ((hS _).1 hb) h2
          simp only [h2', cond_false]
          have h3 : (l[i]).2.1 < 0 ∨ 16 ≤ (l[i]).2.1 ∨ (l[i]).2.2.2.1 < 0 ∨ 3600 < (l[i]).2.2.2.1 := by
            by_cases h3 : (l[i]).2.1 < 0 ∨ 16 ≤ (l[i]).2.1 ∨ (l[i]).2.2.2.1 < 0 ∨ 3600 < (l[i]).2.2.2.1
            · exact h3
            · exact absurd (fault_none h1 h2 h3) hc
          rw [fault_num (by simp) h2 h3]
          by_cases e1 : (l[i]).2.1 < 0
          · rw [decide_eq_true e1]; rfl
          · rw [decide_eq_false e1]
            by_cases e2 : 16 ≤ (l[i]).2.1
            · rw [decide_eq_true e2]; rfl
            · rw [decide_eq_false e2]
              by_cases e3 : (l[i]).2.2.2.1 < 0
              · rw [decide_eq_true e3]; rfl
              · rw [decide_eq_false e3, decide_eq_true (show 3600 < (l[i]).2.2.2.1 by omega)]; rfl
    · rintro _ ⟨m, rfl, _⟩
      simp only [nlt_dec, cond_false]
theorem stopsR_val (l : List StopT) : F70 l = some (stopR l) := by
  unfold F70 stopR
  by_cases h64 : 64 < l.length
  · rw [if_pos h64, decide_eq_true (show (64 : Int) < (l.length : Int) by omega)]; rfl
  · rw [if_neg h64, decide_eq_false (show ¬ (64 : Int) < (l.length : Int) by omega)]
    simp only [cond_false]
    have hdup : ∀ i (hi : i < l.length) (τ : Type) (R E : τ) (f : Int → τ), f (i : Int) = R → ((∃ j, j < i ∧ ((l[j]?).getD ([], 0, false, 0, ())).1 = (l[i]).1) → Tr.run (fun s3 : Int =>
              bif Decidable.decide (s3 < (i : Int)) then
                Option.bind (Tr.idx l s3) fun x4 =>
                    bif Decidable.decide (x4.fst = (l[i]).fst) then Option.some (Sum.inr (f (i : Int))) else Option.some (Sum.inl (Go.IntKind.wrap Go.IntKind.i64 (s3 + (1 : Int))))
              else Option.some (Sum.inr E)) (0 : Int) = some R) ∧ ((¬ ∃ j, j < i ∧ ((l[j]?).getD ([], 0, false, 0, ())).1 = (l[i]).1) → Tr.run (fun s3 : Int =>
              bif Decidable.decide (s3 < (i : Int)) then
                Option.bind (Tr.idx l s3) fun x4 =>
                    bif Decidable.decide (x4.fst = (l[i]).fst) then Option.some (Sum.inr (f (i : Int))) else Option.some (Sum.inl (Go.IntKind.wrap Go.IntKind.i64 (s3 + (1 : Int))))
              else Option.some (Sum.inr E)) (0 : Int) = some E) := by
      intro i hi τ R E f hf
      refine dup_run (p := fun j => ((l[j]?).getD ([], 0, false, 0, ())).1 = (l[i]).1) (fun j hj hp => ?_) (fun j hj hp => ?_) ?_
      · have hjl : j < l.length := by omega
        have hx : (l[j]?).getD ([], 0, false, 0, ()) = l[j] := by rw [List.getElem?_eq_getElem hjl]; rfl
        rw [hx] at hp
        simp only [lt_dec hj, cond_true, idx_nat hjl, Option.bind_some, decide_eq_false hp, cond_false, wrap_succ hj (show i ≤ 9223372036854775807 by omega)]
      · have hjl : j < l.length := by omega
        have hx : (l[j]?).getD ([], 0, false, 0, ()) = l[j] := by rw [List.getElem?_eq_getElem hjl]; rfl
        rw [hx] at hp
        simp only [lt_dec hj, cond_true, idx_nat hjl, Option.bind_some, decide_eq_true hp, hf]
      · simp only [nlt_dec, cond_false]
    rw [scan_run (n := l.length) (fun i st => st = (i : Int)) (stopF l) (fun i => .inr ((i : Int), stopF l i)) (.inl ()) ?_ ?_ ?_ (0 : Int) rfl]
    · unfold pick
      cases firstBad l.length (stopF l) <;> rfl
    · rintro i _ hi rfl hc
      have hx : (l[i]?).getD ([], 0, false, 0, ()) = l[i] := by rw [List.getElem?_eq_getElem hi]; rfl
      unfold stopF at hc
      simp only [hx] at hc
      obtain ⟨h1, h2, h3⟩ := fault_zero.1 hc
      have h1 : validB (l[i]).1 = true := by simpa using h1
      refine ⟨((i + 1 : Nat) : Int), ?_, rfl⟩
      simp only [lt_dec hi, cond_true, idx_nat hi, Option.bind_some, validR_val, h1, Bool.not_true, cond_false]
      rw [(hdup i hi _ _ (Sum.inl ()) (fun x => Sum.inr (x, (6 : Int))) rfl).2 h2]
      simp only [Option.bind_some, Sum.elim_inl, in_val, decide_eq_true (show (0 : Int) ≤ (l[i]).2.1 ∧ (l[i]).2.1 ≤ 15 by omega), Bool.not_true, cond_false, decide_eq_true (show (0 : Int) ≤ (l[i]).2.2.2.1 ∧ (l[i]).2.2.2.1 ≤ 3600 by omega), wrap_succ hi (show l.length ≤ 9223372036854775807 by omega)]
    · rintro i _ hi rfl hc
      have hx : (l[i]?).getD ([], 0, false, 0, ()) = l[i] := by rw [List.getElem?_eq_getElem hi]; rfl
      simp only [lt_dec hi, cond_true, idx_nat hi, Option.bind_some, validR_val]
      unfold stopF at hc ⊢
      simp only [hx] at hc ⊢
      by_cases h1 : validB (l[i]).1 = false
      · rw [fault_name h1, h1]; rfl
      · have h1' : validB (l[i]).1 = true := by simpa using h1
        simp only [h1', Bool.not_true, cond_false]
        by_cases h2 : ∃ j, j < i ∧ ((l[j]?).getD ([], 0, false, 0, ())).1 = (l[i]).1
        · rw [fault_dup (by simp) h2, (hdup i hi _ _ (Sum.inl ()) (fun x => Sum.inr (x, (6 : Int))) rfl).1 h2]; rfl
        · rw [(hdup i hi _ _ (Sum.inl ()) (fun x => Sum.inr (x, (6 : Int))) rfl).2 h2]
          have h3 : (l[i]).2.1 < 0 ∨ 16 ≤ (l[i]).2.1 ∨ (l[i]).2.2.2.1 < 0 ∨ 3600 < (l[i]).2.2.2.1 := by
            by_cases h3 : (l[i]).2.1 < 0 ∨ 16 ≤ (l[i]).2.1 ∨ (l[i]).2.2.2.1 < 0 ∨ 3600 < (l[i]).2.2.2.1
            · exact h3
            · exact absurd (fault_none h1 h2 h3) hc
          rw [fault_num (by simp) h2 h3]
          simp only [Option.bind_some, Sum.elim_inl, in_val]
          by_cases e1 : (0 : Int) ≤ (l[i]).2.1 ∧ (l[i]).2.1 ≤ 15
          · rw [decide_eq_true e1, decide_eq_false (show ¬ ((0 : Int) ≤ (l[i]).2.2.2.1 ∧ (l[i]).2.2.2.1 ≤ 3600) by omega)]; rfl
          · rw [decide_eq_false e1]; rfl
    · rintro _ rfl
      simp only [nlt_dec, cond_false]
end Q
namespace Q
open Tr Go
theorem known_val (x : Int) : F91 x = some (decide (0 ≤ x ∧ x ≤ 7)) := by
  unfold F91
  by_cases h : 0 ≤ x
  · rw [decide_eq_true h]
    simp only [cond_true, Option.bind_some]
    exact congrArg some (decide_eq_decide.2 ⟨fun hb => ⟨h, by have : x < 8 := hb; omega⟩, fun hb => by show x < 8; omega⟩)
  · rw [decide_eq_false h]
    simp only [cond_false, Option.bind_some]
    rw [decide_eq_false (fun hb => h hb.1)]
theorem dup_names {α : Type} {l : List α} {nm : α → List UInt8} {d : α} {i : Nat} (hi : i < l.length) (hl : l.length ≤ 9223372036854775807) {y : List UInt8} {τ : Type} (R E : τ) :
    ((∃ j, j < i ∧ nm ((l[j]?).getD d) = y) → Tr.run (fun s3 : Int =>
              bif Decidable.decide (s3 < (i : Int)) then
                Option.bind (Tr.idx l s3) fun x4 =>
                    bif Decidable.decide (nm x4 = y) then Option.some (Sum.inr R) else Option.some (Sum.inl (Go.IntKind.wrap Go.IntKind.i64 (s3 + (1 : Int))))
              else Option.some (Sum.inr E)) (0 : Int) = some R) ∧ ((¬ ∃ j, j < i ∧ nm ((l[j]?).getD d) = y) → Tr.run (fun s3 : Int =>
              bif Decidable.decide (s3 < (i : Int)) then
                Option.bind (Tr.idx l s3) fun x4 =>
                    bif Decidable.decide (nm x4 = y) then Option.some (Sum.inr R) else Option.some (Sum.inl (Go.IntKind.wrap Go.IntKind.i64 (s3 + (1 : Int))))
              else Option.some (Sum.inr E)) (0 : Int) = some E) := by
  refine dup_run (p := fun j => nm ((l[j]?).getD d) = y) (fun j hj hp => ?_) (fun j hj hp => ?_) ?_
  · have hjl : j < l.length := by omega
    have hx : (l[j]?).getD d = l[j] := by rw [List.getElem?_eq_getElem hjl]; rfl
    rw [hx] at hp
    simp only [lt_dec hj, cond_true, idx_nat hjl, Option.bind_some, decide_eq_false hp, cond_false, wrap_succ hj (show i ≤ 9223372036854775807 by omega)]
  · have hjl : j < l.length := by omega
    have hx : (l[j]?).getD d = l[j] := by rw [List.getElem?_eq_getElem hjl]; rfl
    rw [hx] at hp
    simp only [lt_dec hj, cond_true, idx_nat hjl, Option.bind_some, decide_eq_true hp]
  · simp only [nlt_dec, cond_false]
def r0 : RouteT := ([], 0, false, ())
noncomputable def routeF (l : List RouteT) (i : Nat) : Int :=
  fault (validB ((l[i]?).getD r0).1 = false) (∃ j, j < i ∧ ((l[j]?).getD r0).1 = ((l[i]?).getD r0).1) (¬ (0 ≤ ((l[i]?).getD r0).2.1 ∧ ((l[i]?).getD r0).2.1 ≤ 7))
noncomputable def routeR (l : List RouteT) : Int × Int := if 64 < l.length then (0, 5) else pick l.length (routeF l) (fun i => ((i : Int), routeF l i)) (0, 0)
theorem getD_of {α : Type} {l : List α} {i : Nat} (h : i < l.length) (d : α) : (l[i]?).getD d = l[i] := by rw [List.getElem?_eq_getElem h]; rfl
theorem unseen {t : Ty} {key : Nat → El t} {i : Nat} {m : List (El t × Bool)} (h : Seen key i m) {k : El t} (hn : ¬ ∃ j, j < i ∧ key j = k) : Option.getD (amGet (keyEq t) k m) false = false := by
  cases hb : Option.getD (amGet (keyEq t) k m) false with
  | false => rfl
  | true => exact absurd ((h k).1 hb) hn
theorem route_val (l : List RouteT) (hg : ∀ x ∈ l, x.1.length ≤ 9223372036854775807) : F90 l = some (routeR l) := by
  unfold F90 routeR
  by_cases h64 : 64 < l.length
  · rw [if_pos h64, decide_eq_true (show (64 : Int) < (l.length : Int) by omega)]; rfl
  · rw [if_neg h64, decide_eq_false (show ¬ (64 : Int) < (l.length : Int) by omega)]
    simp only [cond_false]
    rw [scan_run (n := l.length) (fun i st => ∃ m, st = (m, (i : Int)) ∧ Seen (t := Y9) (fun j => ((l[j]?).getD r0).1) i m) (routeF l) (fun i => .inr ((i : Int), routeF l i)) (.inl ()) ?_ ?_ ?_ ([], (0 : Int)) ⟨[], rfl, Seen.nil _⟩]
    · unfold pick
      cases firstBad l.length (routeF l) <;> rfl
    · rintro i _ hi ⟨m, rfl, hS⟩ hc
      have hx := getD_of hi r0
      unfold routeF at hc
      rw [hx] at hc
      obtain ⟨h1, h2, h3⟩ := fault_zero.1 hc
      have h1 : validB (l[i]).1 = true := by simpa using h1
      have h2' := unseen hS h2
      have h3 : 0 ≤ (l[i]).2.1 ∧ (l[i]).2.1 ≤ 7 := by omega
      refine ⟨(amSet (keyEq Y9) (l[i]).1 true m, ((i + 1 : Nat) : Int)), ?_, _, rfl, ?_⟩
      · simp only [lt_dec hi, cond_true, idx_nat hi, Option.bind_some, valid_val _ (hg _ (List.getElem_mem hi)), h1, Bool.not_true, cond_false, h2', wrap_succ hi (show l.length ≤ 9223372036854775807 by omega), known_val, decide_eq_true h3]
      · have := Seen.add (t := Y9) rfl hS
        simp only [hx] at this
        exact this
    · rintro i _ hi ⟨m, rfl, hS⟩ hc
      have hx := getD_of hi r0
      simp only [lt_dec hi, cond_true, idx_nat hi, Option.bind_some, valid_val _ (hg _ (List.getElem_mem hi))]
      unfold routeF at hc ⊢
      rw [hx] at hc
      simp only [hx]
      by_cases h1 : validB (l[i]).1 = false
      · rw [fault_name h1, h1]; rfl
      · have h1' : validB (l[i]).1 = true := by simpa using h1
        simp only [h1', Bool.not_true, cond_false]
        by_cases h2 : ∃ j, j < i ∧ ((l[j]?).getD r0).1 = (l[i]).1
        · rw [fault_dup (by simp) h2, (hS _).2 h2]; rfl
        · simp only [unseen hS h2, cond_false]
          have h3 : ¬ (0 ≤ (l[i]).2.1 ∧ (l[i]).2.1 ≤ 7) := fun h3 => hc (fault_none h1 h2 (fun h => h h3))
          rw [fault_num (by simp) h2 h3, known_val, decide_eq_false h3]; rfl
    · rintro _ ⟨m, rfl, _⟩
      simp only [nlt_dec, cond_false]
theorem routesR_val (l : List RouteT) : F68 l = some (routeR l) := by
  unfold F68 routeR
  by_cases h64 : 64 < l.length
  · rw [if_pos h64, decide_eq_true (show (64 : Int) < (l.length : Int) by omega)]; rfl
  · rw [if_neg h64, decide_eq_false (show ¬ (64 : Int) < (l.length : Int) by omega)]
    simp only [cond_false]
    have hl : l.length ≤ 9223372036854775807 := by omega
    rw [scan_run (n := l.length) (fun i st => st = (i : Int)) (routeF l) (fun i => .inr ((i : Int), routeF l i)) (.inl ()) ?_ ?_ ?_ (0 : Int) rfl]
    · unfold pick
      cases firstBad l.length (routeF l) <;> rfl
    · rintro i _ hi rfl hc
      have hx := getD_of hi r0
      unfold routeF at hc
      rw [hx] at hc
      obtain ⟨h1, h2, h3⟩ := fault_zero.1 hc
      have h1 : validB (l[i]).1 = true := by simpa using h1
      have h3 : 0 ≤ (l[i]).2.1 ∧ (l[i]).2.1 ≤ 7 := by omega
      refine ⟨((i + 1 : Nat) : Int), ?_, rfl⟩
      simp only [lt_dec hi, cond_true, idx_nat hi, Option.bind_some, validR_val, h1, Bool.not_true, cond_false]
      rw [(dup_names (nm := fun x : RouteT => x.1) (d := r0) hi hl (y := (l[i]).1) _ _).2 h2]
      simp only [Option.bind_some, Sum.elim_inl, in_val, decide_eq_true h3, Bool.not_true, cond_false, wrap_succ hi hl]
    · rintro i _ hi rfl hc
      have hx := getD_of hi r0
      simp only [lt_dec hi, cond_true, idx_nat hi, Option.bind_some, validR_val]
      unfold routeF at hc ⊢
      rw [hx] at hc
      simp only [hx]
      by_cases h1 : validB (l[i]).1 = false
      · rw [fault_name h1, h1]; rfl
      · have h1' : validB (l[i]).1 = true := by simpa using h1
        simp only [h1', Bool.not_true, cond_false]
        by_cases h2 : ∃ j, j < i ∧ ((l[j]?).getD r0).1 = (l[i]).1
        · rw [fault_dup (by simp) h2, (dup_names (nm := fun x : RouteT => x.1) (d := r0) hi hl (y := (l[i]).1) _ _).1 h2]; rfl
        · rw [(dup_names (nm := fun x : RouteT => x.1) (d := r0) hi hl (y := (l[i]).1) _ _).2 h2]
          have h3 : ¬ (0 ≤ (l[i]).2.1 ∧ (l[i]).2.1 ≤ 7) := fun h3 => hc (fault_none h1 h2 (fun h => h h3))
          rw [fault_num (by simp) h2 h3]
          simp only [Option.bind_some, Sum.elim_inl, in_val, decide_eq_false h3]
          rfl
    · rintro _ rfl
      simp only [nlt_dec, cond_false]
abbrev ProdT := List UInt8 × Int × Int × Int × Int × Int × Unit
abbrev FaresT := List ProdT × Int × Int × Int × Unit
def p0 : ProdT := ([], 0, 0, 0, 0, 0, ())
def numsB (x : ProdT) : Bool := decide (0 ≤ x.2.1 ∧ x.2.1 ≤ 1000000) && (decide (1 ≤ x.2.2.1 ∧ x.2.2.1 ≤ 8) && (decide (1 ≤ x.2.2.2.1 ∧ x.2.2.2.1 ≤ 16) && (decide (0 ≤ x.2.2.2.2.1 ∧ x.2.2.2.2.1 ≤ 86400) && decide (1 ≤ x.2.2.2.2.2.1 ∧ x.2.2.2.2.2.1 ≤ 255))))
noncomputable def prodF (l : List ProdT) (i : Nat) : Int :=
  fault (validB ((l[i]?).getD p0).1 = false) (∃ j, j < i ∧ ((l[j]?).getD p0).1 = ((l[i]?).getD p0).1) (numsB ((l[i]?).getD p0) = false)
def headB (f : FaresT) : Bool := decide (0 ≤ f.2.1 ∧ f.2.1 ≤ 1000000) && (decide (0 ≤ f.2.2.1 ∧ f.2.2.1 ≤ 86400) && decide (0 ≤ f.2.2.2.1 ∧ f.2.2.2.1 ≤ 1000000))
noncomputable def fareR (f : FaresT) : Int × Int :=
  if headB f = false then (-1, 2) else if 16 < f.1.length then (0, 5) else pick f.1.length (prodF f.1) (fun i => ((i : Int), prodF f.1 i)) (0, 0)
theorem three {w : Int → Int → Int → Option Bool} (hw : ∀ x a b, w x a b = some (decide (a ≤ x ∧ x ≤ b))) (f : FaresT) :
    (Option.bind (w f.2.1 0 1000000) fun x0 => bif !x0 then Option.some Bool.true else Option.bind (w f.2.2.1 0 86400) fun x1 => bif !x1 then Option.some Bool.true else Option.bind (w f.2.2.2.1 0 1000000) fun x2 => Option.some !x2) = some (!headB f) := by
  unfold headB
  simp only [hw, Option.bind_some]
  generalize decide (0 ≤ f.2.1 ∧ f.2.1 ≤ 1000000) = p
  generalize decide (0 ≤ f.2.2.1 ∧ f.2.2.1 ≤ 86400) = q
  generalize decide (0 ≤ f.2.2.2.1 ∧ f.2.2.2.1 ≤ 1000000) = r
  cases p <;> cases q <;> cases r <;> rfl
theorem five {w : Int → Int → Int → Option Bool} (hw : ∀ x a b, w x a b = some (decide (a ≤ x ∧ x ≤ b))) (x : ProdT) :
    (Option.bind (w x.2.1 0 1000000) fun x0 => bif !x0 then Option.some Bool.true else Option.bind (w x.2.2.1 1 8) fun x1 => bif !x1 then Option.some Bool.true else Option.bind (w x.2.2.2.1 1 16) fun x2 => bif !x2 then Option.some Bool.true else
      Option.bind (w x.2.2.2.2.1 0 86400) fun x3 => bif !x3 then Option.some Bool.true else Option.bind (w x.2.2.2.2.2.1 1 255) fun x4 => Option.some !x4) = some (!numsB x) := by
  unfold numsB
  simp only [hw, Option.bind_some]
  generalize decide (0 ≤ x.2.1 ∧ x.2.1 ≤ 1000000) = p
  generalize decide (1 ≤ x.2.2.1 ∧ x.2.2.1 ≤ 8) = q
  generalize decide (1 ≤ x.2.2.2.1 ∧ x.2.2.2.1 ≤ 16) = r
  generalize decide (0 ≤ x.2.2.2.2.1 ∧ x.2.2.2.2.1 ≤ 86400) = s
  generalize decide (1 ≤ x.2.2.2.2.2.1 ∧ x.2.2.2.2.2.1 ≤ 255) = t
  cases p <;> cases q <;> cases r <;> cases s <;> cases t <;> rfl
theorem fare_val (f : FaresT) (hg : ∀ x ∈ f.1, x.1.length ≤ 9223372036854775807) : F55 f = some (fareR f) := by
  unfold F55 fareR
  rw [three (w := F56) within_val f]
  simp only [Option.bind_some]
  cases hr : headB f with
  | true =>
    rw [if_neg (by simp)]
    simp only [Bool.not_true, cond_false]
    by_cases h16 : 16 < f.1.length
    · rw [if_pos h16, decide_eq_true (show (16 : Int) < (f.1.length : Int) by omega)]; rfl
    · rw [if_neg h16, decide_eq_false (show ¬ (16 : Int) < (f.1.length : Int) by omega)]
      simp only [cond_false]
      rw [scan_run (n := f.1.length) (fun i st => ∃ m, st = (m, (i : Int)) ∧ Seen (t := Y9) (fun j => ((f.1[j]?).getD p0).1) i m) (prodF f.1) (fun i => .inr ((i : Int), prodF f.1 i)) (.inl ()) ?_ ?_ ?_ ([], (0 : Int)) ⟨[], rfl, Seen.nil _⟩]
      · unfold pick
        cases firstBad f.1.length (prodF f.1) <;> rfl
      · rintro i _ hi ⟨m, rfl, hS⟩ hc
        have hx := getD_of hi p0
        unfold prodF at hc
        rw [hx] at hc
        obtain ⟨h1, h2, h3⟩ := fault_zero.1 hc
        have h1 : validB (f.1[i]).1 = true := by simpa using h1
        have h2' := unseen hS h2
        have h3 : numsB f.1[i] = true := by simpa using h3
        refine ⟨(amSet (keyEq Y9) (f.1[i]).1 true m, ((i + 1 : Nat) : Int)), ?_, _, rfl, ?_⟩
        · simp only [lt_dec hi, cond_true, idx_nat hi, Option.bind_some, valid_val _ (hg _ (List.getElem_mem hi)), h1, Bool.not_true, cond_false, h2', wrap_succ hi (show f.1.length ≤ 9223372036854775807 by omega)]
          rw [five (w := F56) within_val, h3]; rfl
        · have := Seen.add (t := Y9) rfl hS
          simp only [hx] at this
          exact this
      · rintro i _ hi ⟨m, rfl, hS⟩ hc
        have hx := getD_of hi p0
        simp only [lt_dec hi, cond_true, idx_nat hi, Option.bind_some, valid_val _ (hg _ (List.getElem_mem hi))]
        unfold prodF at hc ⊢
        rw [hx] at hc
        simp only [hx]
        by_cases h1 : validB (f.1[i]).1 = false
        · rw [fault_name h1, h1]; rfl
        · have h1' : validB (f.1[i]).1 = true := by simpa using h1
          simp only [h1', Bool.not_true, cond_false]
          by_cases h2 : ∃ j, j < i ∧ ((f.1[j]?).getD p0).1 = (f.1[i]).1
          · rw [fault_dup (by simp) h2, (hS _).2 h2]; rfl
          · simp only [unseen hS h2, cond_false]
            have h3 : numsB f.1[i] = false := by
              cases hb : numsB f.1[i] with
              | false => rfl
              | true => exact absurd (fault_none h1 h2 (by rw [hb]; simp)) hc
            rw [fault_num (by simp) h2 h3, five (w := F56) within_val, h3]; rfl
      · rintro _ ⟨m, rfl, _⟩
        simp only [nlt_dec, cond_false]
  | false => rw [if_pos rfl]; rfl
theorem faresR_val (f : FaresT) : F60 f = some (fareR f) := by
  unfold F60 fareR
  rw [three (w := F64) in_val f]
  simp only [Option.bind_some]
  cases hr : headB f with
  | true =>
    rw [if_neg (by simp)]
    simp only [Bool.not_true, cond_false]
    by_cases h16 : 16 < f.1.length
    · rw [if_pos h16, decide_eq_true (show (16 : Int) < (f.1.length : Int) by omega)]; rfl
    · rw [if_neg h16, decide_eq_false (show ¬ (16 : Int) < (f.1.length : Int) by omega)]
      simp only [cond_false]
      have hl : f.1.length ≤ 9223372036854775807 := by omega
      rw [scan_run (n := f.1.length) (fun i st => st = (i : Int)) (prodF f.1) (fun i => .inr ((i : Int), prodF f.1 i)) (.inl ()) ?_ ?_ ?_ (0 : Int) rfl]
      · unfold pick
        cases firstBad f.1.length (prodF f.1) <;> rfl
      · rintro i _ hi rfl hc
        have hx := getD_of hi p0
        unfold prodF at hc
        rw [hx] at hc
        obtain ⟨h1, h2, h3⟩ := fault_zero.1 hc
        have h1 : validB (f.1[i]).1 = true := by simpa using h1
        have h3 : numsB f.1[i] = true := by simpa using h3
        refine ⟨((i + 1 : Nat) : Int), ?_, rfl⟩
        simp only [lt_dec hi, cond_true, idx_nat hi, Option.bind_some, validR_val, h1, Bool.not_true, cond_false]
        rw [(dup_names (nm := fun x : ProdT => x.1) (d := p0) hi hl (y := (f.1[i]).1) _ _).2 h2]
        simp only [Option.bind_some, Sum.elim_inl]
        rw [five (w := F64) in_val, h3]
        simp only [Bool.not_true, Option.bind_some, cond_false, wrap_succ hi hl]
      · rintro i _ hi rfl hc
        have hx := getD_of hi p0
        simp only [lt_dec hi, cond_true, idx_nat hi, Option.bind_some, validR_val]
        unfold prodF at hc ⊢
        rw [hx] at hc
        simp only [hx]
        by_cases h1 : validB (f.1[i]).1 = false
        · rw [fault_name h1, h1]; rfl
        · have h1' : validB (f.1[i]).1 = true := by simpa using h1
          simp only [h1', Bool.not_true, cond_false]
          by_cases h2 : ∃ j, j < i ∧ ((f.1[j]?).getD p0).1 = (f.1[i]).1
          · rw [fault_dup (by simp) h2, (dup_names (nm := fun x : ProdT => x.1) (d := p0) hi hl (y := (f.1[i]).1) _ _).1 h2]; rfl
          · rw [(dup_names (nm := fun x : ProdT => x.1) (d := p0) hi hl (y := (f.1[i]).1) _ _).2 h2]
            have h3 : numsB f.1[i] = false := by
              cases hb : numsB f.1[i] with
              | false => rfl
              | true => exact absurd (fault_none h1 h2 (by rw [hb]; simp)) hc
            rw [fault_num (by simp) h2 h3]
            simp only [Option.bind_some, Sum.elim_inl]
            rw [five (w := F64) in_val, h3]
            rfl
      · rintro _ rfl
        simp only [nlt_dec, cond_false]
  | false => rw [if_pos rfl]; rfl
end Q
namespace Q
open Tr Go
abbrev CallT := Int × Int × Int × Bool × Bool × Unit
def c0 : CallT := (0, 0, 0, false, false, ())
def callB1 (l : List CallT) (i : Nat) (n : Int) : Bool := decide (((l[i]?).getD c0).1 < 0) || decide (n ≤ ((l[i]?).getD c0).1)
def callB2 (l : List CallT) (i : Nat) : Bool := decide (0 < i) && decide (((l[i - 1]?).getD c0).1 = ((l[i]?).getD c0).1)
def callB3 (l : List CallT) (i : Nat) (lo hi : Int) : Bool := decide (((l[i]?).getD c0).2.1 < lo) || (decide (((l[i]?).getD c0).2.2.1 < ((l[i]?).getD c0).2.1) || (decide (hi < ((l[i]?).getD c0).2.2.1) || (decide (0 < i) && decide (((l[i]?).getD c0).2.1 < ((l[i - 1]?).getD c0).2.2.1))))
def oneF (l : List CallT) (n lo hi : Int) (i : Nat) : Int := if callB1 l i n then 9 else if callB2 l i then 13 else if callB3 l i lo hi then 10 else 0
theorem ipos (i : Nat) : decide ((0 : Int) < (i : Int)) = decide (0 < i) := decide_eq_decide.2 (by omega)
theorem prev_val {l : List CallT} {i : Nat} (hi : i < l.length) (hl : l.length ≤ 9223372036854775807) (h0 : 0 < i) : Tr.idx l (IntKind.wrap .i64 ((i : Int) - 1)) = some ((l[i - 1]?).getD c0) := by
  have e : IntKind.wrap .i64 ((i : Int) - 1) = ((i - 1 : Nat) : Int) := by rw [wrap_i64 (by omega) (by omega)]; omega
  rw [e, idx_nat (show i - 1 < l.length by omega), getD_of (show i - 1 < l.length by omega)]
theorem one_val {l : List CallT} {i : Nat} (hi : i < l.length) (hl : l.length ≤ 9223372036854775807) (n lo hi' : Int) : F1 l (i : Int) n lo hi' = some (oneF l n lo hi' i) := by
  unfold F1 oneF callB1 callB2 callB3
  rw [getD_of hi, idx_nat hi]
  simp only [Option.bind_some, ipos]
  by_cases h0 : 0 < i
  · simp only [prev_val hi hl h0, Option.bind_some, decide_eq_true h0, cond_true, Bool.true_and]
    generalize decide ((l[i]).1 < 0) = a1
    generalize decide (n ≤ (l[i]).1) = a2
    generalize decide (((l[i - 1]?).getD c0).1 = (l[i]).1) = a3
    generalize decide ((l[i]).2.1 < lo) = a4
    generalize decide ((l[i]).2.2.1 < (l[i]).2.1) = a5
    generalize decide (hi' < (l[i]).2.2.1) = a6
    generalize decide ((l[i]).2.1 < ((l[i - 1]?).getD c0).2.2.1) = a7
    cases a1 <;> cases a2 <;> cases a3 <;> cases a4 <;> cases a5 <;> cases a6 <;> cases a7 <;> rfl
  · simp only [decide_eq_false h0, cond_false, Bool.false_and, Option.bind_some]
    generalize decide ((l[i]).1 < 0) = a1
    generalize decide (n ≤ (l[i]).1) = a2
    generalize decide ((l[i]).2.1 < lo) = a4
    generalize decide ((l[i]).2.2.1 < (l[i]).2.1) = a5
    generalize decide (hi' < (l[i]).2.2.1) = a6
    cases a1 <;> cases a2 <;> cases a4 <;> cases a5 <;> cases a6 <;> rfl
noncomputable def callE (l : List CallT) (n lo hi : Int) : Int := if l.length < 2 ∨ 32 < l.length then 5 else pick l.length (oneF l n lo hi) (oneF l n lo hi) 0
theorem call_val (l : List CallT) (n lo hi : Int) : ∃ i, F0 l n lo hi = some (i, callE l n lo hi) := by
  unfold F0 callE
  by_cases h1 : l.length < 2
  · rw [decide_eq_true (show (l.length : Int) < 2 by omega), if_pos (.inl h1)]
    exact ⟨_, rfl⟩
  · rw [decide_eq_false (show ¬ (l.length : Int) < 2 by omega)]
    by_cases h2 : 32 < l.length
    · rw [if_pos (.inr h2)]
      simp only [cond_false, Option.bind_some, decide_eq_true (show (32 : Int) < (l.length : Int) by omega), cond_true]
      exact ⟨_, rfl⟩
    · rw [if_neg (by omega)]
      simp only [cond_false, Option.bind_some, decide_eq_false (show ¬ (32 : Int) < (l.length : Int) by omega)]
      have hl : l.length ≤ 9223372036854775807 := by omega
      rw [scan_run (n := l.length) (fun i st => st = (i : Int)) (oneF l n lo hi) (fun i => .inr ((i : Int), oneF l n lo hi i)) (.inl ()) ?_ ?_ ?_ (0 : Int) rfl]
      · unfold pick
        cases firstBad l.length (oneF l n lo hi) <;> exact ⟨_, rfl⟩
      · rintro i _ hil rfl hc
        refine ⟨((i + 1 : Nat) : Int), ?_, rfl⟩
        simp only [lt_dec hil, cond_true, one_val hil hl, Option.bind_some, hc, decide_true, Bool.not_true, cond_false, wrap_succ hil hl]
      · rintro i _ hil rfl hc
        simp only [lt_dec hil, cond_true, one_val hil hl, Option.bind_some, decide_eq_false hc, Bool.not_false]
      · rintro _ rfl
        simp only [nlt_dec, cond_false]
theorem callsR_val (l : List CallT) (n lo hi : Int) : F57 l n lo hi = some (callE l n lo hi) := by
  unfold F57 callE
  by_cases h1 : l.length < 2
  · rw [decide_eq_true (show (l.length : Int) < 2 by omega), if_pos (.inl h1)]; rfl
  · rw [decide_eq_false (show ¬ (l.length : Int) < 2 by omega)]
    by_cases h2 : 32 < l.length
    · rw [if_pos (.inr h2)]
      simp only [cond_false, Option.bind_some, decide_eq_true (show (32 : Int) < (l.length : Int) by omega), cond_true]
    · rw [if_neg (by omega)]
      simp only [cond_false, Option.bind_some, decide_eq_false (show ¬ (32 : Int) < (l.length : Int) by omega)]
      have hl : l.length ≤ 9223372036854775807 := by omega
      have step : ∀ i (hil : i < l.length), (bif Decidable.decide ((i : Int) < (↑(List.length l) : Int)) then
              Option.bind (Tr.idx l (i : Int)) fun x2 =>
                Option.bind (bif Decidable.decide (x2.fst < (0 : Int)) then Option.some Bool.true else Option.some (Decidable.decide (n ≤ x2.fst))) fun x3 =>
                  bif x3 then Option.some (Sum.inr (Sum.inr (9 : Int)))
                  else
                    Option.bind
                      (bif Decidable.decide ((0 : Int) < (i : Int)) then Option.bind (Tr.idx l (Go.IntKind.wrap Go.IntKind.i64 ((i : Int) - (1 : Int)))) fun x4 => Option.some (Decidable.decide (x4.fst = x2.fst))
                      else Option.some Bool.false)
                      fun x5 =>
                      bif x5 then Option.some (Sum.inr (Sum.inr (13 : Int)))
                      else
                        Option.bind
                          (bif Decidable.decide (x2.snd.fst < lo) then Option.some Bool.true
                          else
                            bif Decidable.decide (x2.snd.snd.fst < x2.snd.fst) then Option.some Bool.true
                            else
                              bif Decidable.decide (hi < x2.snd.snd.fst) then Option.some Bool.true
                              else
                                bif Decidable.decide ((0 : Int) < (i : Int)) then
                                  Option.bind (Tr.idx l (Go.IntKind.wrap Go.IntKind.i64 ((i : Int) - (1 : Int)))) fun x6 => Option.some (Decidable.decide (x2.snd.fst < x6.snd.snd.fst))
                                else Option.some Bool.false)
                          fun x7 => bif x7 then Option.some (Sum.inr (Sum.inr (10 : Int))) else Option.some (Sum.inl (Go.IntKind.wrap Go.IntKind.i64 ((i : Int) + (1 : Int))))
            else Option.some (Sum.inr (Sum.inl ()))) = (if oneF l n lo hi i = 0 then some (Sum.inl ((i + 1 : Nat) : Int)) else some (Sum.inr (Sum.inr (oneF l n lo hi i))) : Option (Int ⊕ (Unit ⊕ Int))) := by
        intro i hil
        simp only [lt_dec hil, cond_true, idx_nat hil, Option.bind_some, ipos, wrap_succ hil hl]
        unfold oneF callB1 callB2 callB3
        rw [getD_of hil]
        by_cases h0 : 0 < i
        · simp only [prev_val hil hl h0, Option.bind_some, decide_eq_true h0, cond_true, Bool.true_and]
          generalize decide ((l[i]).1 < 0) = a1
          generalize decide (n ≤ (l[i]).1) = a2
          generalize decide (((l[i - 1]?).getD c0).1 = (l[i]).1) = a3
          generalize decide ((l[i]).2.1 < lo) = a4
          generalize decide ((l[i]).2.2.1 < (l[i]).2.1) = a5
          generalize decide (hi < (l[i]).2.2.1) = a6
          generalize decide ((l[i]).2.1 < ((l[i - 1]?).getD c0).2.2.1) = a7
          cases a1 <;> cases a2 <;> cases a3 <;> cases a4 <;> cases a5 <;> cases a6 <;> cases a7 <;> rfl
        · simp only [decide_eq_false h0, cond_false, Bool.false_and, Option.bind_some]
          generalize decide ((l[i]).1 < 0) = a1
          generalize decide (n ≤ (l[i]).1) = a2
          generalize decide ((l[i]).2.1 < lo) = a4
          generalize decide ((l[i]).2.2.1 < (l[i]).2.1) = a5
          generalize decide (hi < (l[i]).2.2.1) = a6
          cases a1 <;> cases a2 <;> cases a4 <;> cases a5 <;> cases a6 <;> rfl
      rw [scan_run (n := l.length) (fun i st => st = (i : Int)) (oneF l n lo hi) (fun i => .inr (oneF l n lo hi i)) (.inl ()) ?_ ?_ ?_ (0 : Int) rfl]
      · unfold pick
        cases firstBad l.length (oneF l n lo hi) <;> rfl
      · rintro i _ hil rfl hc
        refine ⟨((i + 1 : Nat) : Int), ?_, rfl⟩
        have := step i hil
        rw [if_pos hc] at this
        exact this
      · rintro i _ hil rfl hc
        have := step i hil
        rw [if_neg hc] at this
        exact this
      · rintro _ rfl
        simp only [nlt_dec, cond_false]
abbrev RunT := Int × Int × Int × List UInt8 × Int × Bool × Bool × List CallT × Unit
abbrev LinkT := Int × Int × Int × Int × Bool × Unit
abbrev NetT := List StopT × List RouteT × List RunT × List LinkT × List Foot × FaresT × Unit
def u0 : RunT := (0, 0, 0, [], 0, false, false, [], ())
abbrev KeyT := List UInt8 × Int × Int × Unit
def runK (x : RunT) : KeyT := (x.2.2.2.1, x.2.1, x.2.2.1, ())
open Classical in
noncomputable def runF (n : NetT) (i : Nat) : Int :=
  let x := (n.2.2.1[i]?).getD u0
  if validB x.2.2.2.1 = false then 12 else if (decide (x.1 < -1) || decide (x.2.2.1 < 0)) = true then 2 else if (decide (x.2.1 < 0) || decide (36524 < x.2.1)) = true then 11
  else if (decide (x.2.2.2.2.1 < 0) || decide ((n.2.1.length : Int) ≤ x.2.2.2.2.1)) = true then 9
  else if callE x.2.2.2.2.2.2.2.1 (n.1.length : Int) 0 3155932800 ≠ 0 then callE x.2.2.2.2.2.2.2.1 (n.1.length : Int) 0 3155932800
  else if ∃ j, j < i ∧ runK ((n.2.2.1[j]?).getD u0) = runK x then 6 else 0
noncomputable def runsR (n : NetT) : Int × Int × Int × Unit := if 1024 < n.2.2.1.length then (2, 0, 5, ()) else pick n.2.2.1.length (runF n) (fun i => (2, (i : Int), runF n i, ())) (0, 0, 0, ())
theorem runs_val (n : NetT) (hg : ∀ x ∈ n.2.2.1, x.2.2.2.1.length ≤ 9223372036854775807) : F43 n = some (runsR n) := by
  unfold F43 runsR F53
  by_cases h1 : 1024 < n.2.2.1.length
  · rw [if_pos h1, decide_eq_true (show (1024 : Int) < (n.2.2.1.length : Int) by omega)]; rfl
  · rw [if_neg h1, decide_eq_false (show ¬ (1024 : Int) < (n.2.2.1.length : Int) by omega)]
    simp only [cond_false]
    have hl : n.2.2.1.length ≤ 9223372036854775807 := by omega
    rw [scan_run (n := n.2.2.1.length) (fun i st => ∃ m, st = ((0, 0, 0, ()), m, (i : Int)) ∧ Seen (t := Y183) (fun j => runK ((n.2.2.1[j]?).getD u0)) i m) (runF n) (fun i => .inr (2, (i : Int), runF n i, ())) (.inl (0, 0, 0, ())) ?_ ?_ ?_ _ ⟨[], rfl, Seen.nil _⟩]
    · unfold pick
      cases firstBad n.2.2.1.length (runF n) <;> rfl
    · rintro i _ hi ⟨m, rfl, hS⟩ hc
      have hx := getD_of hi u0
      unfold runF at hc
      simp only [hx] at hc
      obtain ⟨ci, hcv⟩ := call_val (n.2.2.1[i]).2.2.2.2.2.2.2.1 (n.1.length : Int) 0 3155932800
      by_cases b1 : validB (n.2.2.1[i]).2.2.2.1 = false
      · rw [if_pos b1] at hc; simp at hc
      rw [if_neg b1] at hc
      by_cases b2 : (decide ((n.2.2.1[i]).1 < -1) || decide ((n.2.2.1[i]).2.2.1 < 0)) = true
      · rw [if_pos b2] at hc; simp at hc
      rw [if_neg b2] at hc
      by_cases b3 : (decide ((n.2.2.1[i]).2.1 < 0) || decide (36524 < (n.2.2.1[i]).2.1)) = true
      · rw [if_pos b3] at hc; simp at hc
      rw [if_neg b3] at hc
      by_cases b4 : (decide ((n.2.2.1[i]).2.2.2.2.1 < 0) || decide ((n.2.1.length : Int) ≤ (n.2.2.1[i]).2.2.2.2.1)) = true
      · rw [if_pos b4] at hc; simp at hc
      rw [if_neg b4] at hc
      by_cases b5 : callE (n.2.2.1[i]).2.2.2.2.2.2.2.1 (n.1.length : Int) 0 3155932800 = 0
      · rw [if_neg (fun h => h b5)] at hc
        by_cases b6 : ∃ j, j < i ∧ runK ((n.2.2.1[j]?).getD u0) = runK n.2.2.1[i]
        · rw [if_pos b6] at hc; simp at hc
        · have b1' : validB (n.2.2.1[i]).2.2.2.1 = true := by simpa using b1
          have hu := unseen hS b6
          refine ⟨((0, 0, 0, ()), amSet (keyEq Y183) (runK n.2.2.1[i]) true m, ((i + 1 : Nat) : Int)), ?_, _, rfl, ?_⟩
          · simp only [lt_dec hi, cond_true, idx_nat hi, Option.bind_some, valid_val _ (hg _ (List.getElem_mem hi)), b1', Bool.not_true, cond_false, hcv, b5, decide_true, wrap_succ hi hl]
            simp only [Bool.not_eq_true, Bool.or_eq_false_iff] at b2 b3 b4
            simp only [b2.1, b2.2, b3.1, b3.2, b4.1, b4.2, cond_false, Option.bind_some]
            rw [show Option.getD (amGet (keyEq Y183) ((n.2.2.1[i]).2.2.2.1, (n.2.2.1[i]).2.1, (n.2.2.1[i]).2.2.1, ()) m) false = false from hu]
            rfl
          · have := Seen.add (t := Y183) rfl hS
            simp only [hx] at this
            exact this
      · rw [if_pos b5] at hc; exact absurd hc b5
    · rintro i _ hi ⟨m, rfl, hS⟩ hc
      have hx := getD_of hi u0
      obtain ⟨ci, hcv⟩ := call_val (n.2.2.1[i]).2.2.2.2.2.2.2.1 (n.1.length : Int) 0 3155932800
      simp only [lt_dec hi, cond_true, idx_nat hi, Option.bind_some, valid_val _ (hg _ (List.getElem_mem hi))]
      unfold runF at hc ⊢
      simp only [hx] at hc ⊢
      by_cases b1 : validB (n.2.2.1[i]).2.2.2.1 = false
      · rw [if_pos b1, b1]; rfl
      have b1' : validB (n.2.2.1[i]).2.2.2.1 = true := by simpa using b1
      rw [if_neg b1] at hc ⊢
      simp only [b1', Bool.not_true, cond_false]
      by_cases b2 : (decide ((n.2.2.1[i]).1 < -1) || decide ((n.2.2.1[i]).2.2.1 < 0)) = true
      · rw [if_pos b2]
        revert b2
        generalize decide ((n.2.2.1[i]).1 < -1) = a1
        generalize decide ((n.2.2.1[i]).2.2.1 < 0) = a2
        cases a1 <;> cases a2 <;> intro b2 <;> first | rfl | cases b2
      rw [if_neg b2] at hc ⊢
      by_cases b3 : (decide ((n.2.2.1[i]).2.1 < 0) || decide (36524 < (n.2.2.1[i]).2.1)) = true
      · rw [if_pos b3]
        simp only [Bool.not_eq_true, Bool.or_eq_false_iff] at b2
        simp only [b2.1, b2.2, cond_false, Option.bind_some]
        revert b3
        generalize decide ((n.2.2.1[i]).2.1 < 0) = a1
        generalize decide (36524 < (n.2.2.1[i]).2.1) = a2
        cases a1 <;> cases a2 <;> intro b3 <;> first | rfl | cases b3
      rw [if_neg b3] at hc ⊢
      simp only [Bool.not_eq_true, Bool.or_eq_false_iff] at b2 b3
      simp only [b2.1, b2.2, b3.1, b3.2, cond_false, Option.bind_some]
      by_cases b4 : (decide ((n.2.2.1[i]).2.2.2.2.1 < 0) || decide ((n.2.1.length : Int) ≤ (n.2.2.1[i]).2.2.2.2.1)) = true
      · rw [if_pos b4]
        revert b4
        generalize decide ((n.2.2.1[i]).2.2.2.2.1 < 0) = a1
        generalize decide ((n.2.1.length : Int) ≤ (n.2.2.1[i]).2.2.2.2.1) = a2
        cases a1 <;> cases a2 <;> intro b4 <;> first | rfl | cases b4
      rw [if_neg b4] at hc ⊢
      simp only [Bool.not_eq_true, Bool.or_eq_false_iff] at b4
      simp only [b4.1, b4.2, cond_false, Option.bind_some, hcv]
      by_cases b5 : callE (n.2.2.1[i]).2.2.2.2.2.2.2.1 (n.1.length : Int) 0 3155932800 = 0
      · rw [if_neg (fun h => h b5)] at hc ⊢
        simp only [b5, decide_true, Bool.not_true, cond_false]
        by_cases b6 : ∃ j, j < i ∧ runK ((n.2.2.1[j]?).getD u0) = runK n.2.2.1[i]
        · rw [if_pos b6]
          rw [show Option.getD (amGet (keyEq Y183) ((n.2.2.1[i]).2.2.2.1, (n.2.2.1[i]).2.1, (n.2.2.1[i]).2.2.1, ()) m) false = true from (hS _).2 b6]
          rfl
        · rw [if_neg b6] at hc; exact absurd rfl hc
      · rw [if_pos b5]
        simp only [decide_eq_false b5, Bool.not_false, cond_true]
    · rintro _ ⟨m, rfl, _⟩
      simp only [nlt_dec, cond_false]
theorem runR_val (n : NetT) {i : Nat} (hi : i < n.2.2.1.length) (hl : n.2.2.1.length ≤ 9223372036854775807) : F69 n (i : Int) = some (runF n i) := by
  unfold F69 runF
  have hx := getD_of hi u0
  simp only [hx, idx_nat hi, Option.bind_some, validR_val, callsR_val, in_val]
  by_cases b1 : validB (n.2.2.1[i]).2.2.2.1 = false
  · rw [if_pos b1, b1]; rfl
  have b1' : validB (n.2.2.1[i]).2.2.2.1 = true := by simpa using b1
  rw [if_neg b1]
  simp only [b1', Bool.not_true, cond_false]
  by_cases b2 : (decide ((n.2.2.1[i]).1 < -1) || decide ((n.2.2.1[i]).2.2.1 < 0)) = true
  · rw [if_pos b2]
    revert b2
    generalize decide ((n.2.2.1[i]).1 < -1) = a1
    generalize decide ((n.2.2.1[i]).2.2.1 < 0) = a2
    cases a1 <;> cases a2 <;> intro b2 <;> first | rfl | cases b2
  rw [if_neg b2]
  simp only [Bool.not_eq_true, Bool.or_eq_false_iff] at b2
  simp only [b2.1, b2.2, cond_false, Option.bind_some]
  by_cases b3 : (decide ((n.2.2.1[i]).2.1 < 0) || decide (36524 < (n.2.2.1[i]).2.1)) = true
  · rw [if_pos b3]
    have : ¬ (0 ≤ (n.2.2.1[i]).2.1 ∧ (n.2.2.1[i]).2.1 ≤ 36524) := by
      simp only [Bool.or_eq_true, decide_eq_true_eq] at b3; omega
    rw [decide_eq_false this]; rfl
  rw [if_neg b3]
  have hd : 0 ≤ (n.2.2.1[i]).2.1 ∧ (n.2.2.1[i]).2.1 ≤ 36524 := by
    simp only [Bool.not_eq_true, Bool.or_eq_false_iff, decide_eq_false_iff_not] at b3; omega
  simp only [decide_eq_true hd, Bool.not_true, cond_false]
  by_cases b4 : (decide ((n.2.2.1[i]).2.2.2.2.1 < 0) || decide ((n.2.1.length : Int) ≤ (n.2.2.1[i]).2.2.2.2.1)) = true
  · rw [if_pos b4]
    revert b4
    generalize decide ((n.2.2.1[i]).2.2.2.2.1 < 0) = a1
    generalize decide ((n.2.1.length : Int) ≤ (n.2.2.1[i]).2.2.2.2.1) = a2
    cases a1 <;> cases a2 <;> intro b4 <;> first | rfl | cases b4
  rw [if_neg b4]
  simp only [Bool.not_eq_true, Bool.or_eq_false_iff] at b4
  simp only [b4.1, b4.2, cond_false, Option.bind_some]
  by_cases b5 : callE (n.2.2.1[i]).2.2.2.2.2.2.2.1 (n.1.length : Int) 0 3155932800 = 0
  · rw [if_neg (fun h => h b5)]
    simp only [b5, decide_true, Bool.not_true, cond_false]
    have hdup := dup_run (i := i) (p := fun j => runK ((n.2.2.1[j]?).getD u0) = runK n.2.2.1[i]) (τ := Unit ⊕ Int) (R := .inr 6) (E := .inl ()) (step := fun s6 : Int =>
        bif Decidable.decide (s6 < (i : Int)) then
          Option.bind (Tr.idx n.2.2.1 s6) fun x7 =>
            Option.bind
              (bif Decidable.decide (x7.snd.snd.snd.fst = (n.2.2.1[i]).snd.snd.snd.fst) then
                bif Decidable.decide (x7.snd.fst = (n.2.2.1[i]).snd.fst) then Option.some (Decidable.decide (x7.snd.snd.fst = (n.2.2.1[i]).snd.snd.fst)) else Option.some Bool.false
              else Option.some Bool.false)
              fun x8 => bif x8 then Option.some (Sum.inr (Sum.inr (6 : Int))) else Option.some (Sum.inl (Go.IntKind.wrap Go.IntKind.i64 (s6 + (1 : Int))))
        else Option.some (Sum.inr (Sum.inl ()))) (fun j hj hp => ?_) (fun j hj hp => ?_) (by simp only [nlt_dec, cond_false])
    · by_cases b6 : ∃ j, j < i ∧ runK ((n.2.2.1[j]?).getD u0) = runK n.2.2.1[i]
      · rw [if_pos b6, hdup.1 b6]; rfl
      · rw [if_neg b6, hdup.2 b6]; rfl
    · have hjl : j < n.2.2.1.length := by omega
      have hp : ¬ runK n.2.2.1[j] = runK n.2.2.1[i] := by rw [← getD_of hjl u0]; exact hp
      simp only [lt_dec hj, cond_true, idx_nat hjl, Option.bind_some, wrap_succ hj (show i ≤ 9223372036854775807 by omega)]
      by_cases e1 : (n.2.2.1[j]).2.2.2.1 = (n.2.2.1[i]).2.2.2.1
      · rw [decide_eq_true e1]
        by_cases e2 : (n.2.2.1[j]).2.1 = (n.2.2.1[i]).2.1
        · rw [decide_eq_true e2]
          have e3 : ¬ (n.2.2.1[j]).2.2.1 = (n.2.2.1[i]).2.2.1 := fun e3 => hp (by unfold runK; rw [e1, e2, e3])
          rw [decide_eq_false e3]; rfl
        · rw [decide_eq_false e2]; rfl
      · rw [decide_eq_false e1]; rfl
    · have hjl : j < n.2.2.1.length := by omega
      have hp : runK n.2.2.1[j] = runK n.2.2.1[i] := by rw [← getD_of hjl u0]; exact hp
      unfold runK at hp
      simp only [Prod.mk.injEq, and_true] at hp
      simp only [lt_dec hj, cond_true, idx_nat hjl, Option.bind_some, decide_eq_true hp.1, decide_eq_true hp.2.1, decide_eq_true hp.2.2]
  · rw [if_pos b5]
    simp only [decide_eq_false b5, Bool.not_false, cond_true]
end Q
namespace Q
open Tr Go Gr
def f0 : Foot := (0, 0, 0, false, ())
def pathK (p : Foot) : Foot := (p.1, p.2.1, 0, p.2.2.2.1, ())
def pathB1 (n : Nat) (p : Foot) : Bool := !decide (0 ≤ p.1 ∧ p.1 < (n : Int)) || (!decide (0 ≤ p.2.1 ∧ p.2.1 < (n : Int)) || decide (p.1 = p.2.1))
def pathB2 (p : Foot) : Bool := decide (p.2.2.1 < 1) || decide (14400 < p.2.2.1)
open Classical in
noncomputable def pathF (n : Nat) (l : List Foot) (i : Nat) : Int :=
  if pathB1 n ((l[i]?).getD f0) = true then 9 else if pathB2 ((l[i]?).getD f0) = true then 2 else if ∃ j, j < i ∧ pathK ((l[j]?).getD f0) = pathK ((l[i]?).getD f0) then 6 else 0
theorem pathF_zero {n : Nat} {l : List Foot} {i : Nat} (h : pathF n l i = 0) : pathB1 n ((l[i]?).getD f0) = false ∧ pathB2 ((l[i]?).getD f0) = false ∧ ¬ ∃ j, j < i ∧ pathK ((l[j]?).getD f0) = pathK ((l[i]?).getD f0) := by
  unfold pathF at h
  by_cases h1 : pathB1 n ((l[i]?).getD f0) = true
  · rw [if_pos h1] at h; simp at h
  · rw [if_neg h1] at h
    by_cases h2 : pathB2 ((l[i]?).getD f0) = true
    · rw [if_pos h2] at h; simp at h
    · rw [if_neg h2] at h
      by_cases h3 : ∃ j, j < i ∧ pathK ((l[j]?).getD f0) = pathK ((l[i]?).getD f0)
      · rw [if_pos h3] at h; simp at h
      · exact ⟨by simpa using h1, by simpa using h2, h3⟩
theorem pathB1_false {n : Nat} {p : Foot} (h : pathB1 n p = false) : (0 ≤ p.1 ∧ p.1 < n) ∧ (0 ≤ p.2.1 ∧ p.2.1 < n) ∧ p.1 ≠ p.2.1 := by
  unfold pathB1 at h
  simp only [Bool.or_eq_false_iff, Bool.not_eq_false', decide_eq_true_eq, decide_eq_false_iff_not] at h
  exact h
theorem pathB2_false {p : Foot} (h : pathB2 p = false) : 1 ≤ p.2.2.1 ∧ p.2.2.1 ≤ 14400 := by
  unfold pathB2 at h
  simp only [Bool.or_eq_false_iff, decide_eq_false_iff_not] at h
  omega
theorem fok_of {n : Nat} {l : List Foot} (h : ∀ i, i < l.length → pathF n l i = 0) : FOk n l := by
  intro p hp
  obtain ⟨i, hi, rfl⟩ := List.getElem_of_mem hp
  obtain ⟨h1, h2, _⟩ := pathF_zero (h i hi)
  rw [getD_of hi] at h1 h2
  have := pathB1_false h1
  have := pathB2_false h2
  omega
theorem withinN_val (x : Int) (n : Nat) : F54 x (n : Int) = some (decide (0 ≤ x ∧ x < (n : Int))) := by
  unfold F54
  by_cases h : 0 ≤ x
  · rw [decide_eq_true h]
    simp only [cond_true, Option.bind_some]
    exact congrArg some (decide_eq_decide.2 ⟨fun hb => ⟨h, hb⟩, fun hb => hb.2⟩)
  · rw [decide_eq_false h]
    simp only [cond_false, Option.bind_some]
    rw [decide_eq_false (fun hb => h hb.1)]
theorem b1_code (n : Nat) (p : Foot) : (Option.bind (F54 p.1 (n : Int)) fun x2 => bif !x2 then Option.some Bool.true else Option.bind (F54 p.2.1 (n : Int)) fun x3 => bif !x3 then Option.some Bool.true else Option.some (Decidable.decide (p.1 = p.2.1))) = some (pathB1 n p) := by
  unfold pathB1
  simp only [withinN_val, Option.bind_some]
  generalize decide (0 ≤ p.1 ∧ p.1 < (n : Int)) = a
  generalize decide (0 ≤ p.2.1 ∧ p.2.1 < (n : Int)) = b
  generalize decide (p.1 = p.2.1) = c
  cases a <;> cases b <;> cases c <;> rfl
theorem b1_ref {n : Nat} (hn : n ≤ 9223372036854775807) (p : Foot) : (Option.bind (F64 p.1 0 (IntKind.wrap .i64 ((n : Int) - 1))) fun x2 => bif !x2 then Option.some Bool.true else Option.bind (F64 p.2.1 0 (IntKind.wrap .i64 ((n : Int) - 1))) fun x3 => bif !x3 then Option.some Bool.true else Option.some (Decidable.decide (p.1 = p.2.1))) = some (pathB1 n p) := by
  have e : IntKind.wrap .i64 ((n : Int) - 1) = (n : Int) - 1 := wrap_i64 (by omega) (by omega)
  have h : ∀ x : Int, decide (0 ≤ x ∧ x ≤ (n : Int) - 1) = decide (0 ≤ x ∧ x < (n : Int)) := fun x => decide_eq_decide.2 (by omega)
  unfold pathB1
  simp only [e, in_val, Option.bind_some, h]
  generalize decide (0 ≤ p.1 ∧ p.1 < (n : Int)) = a
  generalize decide (0 ≤ p.2.1 ∧ p.2.1 < (n : Int)) = b
  generalize decide (p.1 = p.2.1) = c
  cases a <;> cases b <;> cases c <;> rfl
theorem b2_code (p : Foot) : (bif Decidable.decide (p.2.2.1 < (1 : Int)) then Option.some Bool.true else Option.some (Decidable.decide ((14400 : Int) < p.2.2.1))) = some (pathB2 p) := by
  unfold pathB2
  generalize decide (p.2.2.1 < 1) = a
  generalize decide (14400 < p.2.2.1) = b
  cases a <;> cases b <;> rfl
theorem b2_ref (p : Foot) : decide ((1 : Int) ≤ p.2.2.1 ∧ p.2.2.1 ≤ 14400) = !pathB2 p := by
  unfold pathB2
  by_cases h1 : p.2.2.1 < 1
  · rw [decide_eq_true h1, decide_eq_false (by omega)]; rfl
  · by_cases h2 : 14400 < p.2.2.1
    · rw [decide_eq_true h2, decide_eq_false (show ¬ ((1 : Int) ≤ p.2.2.1 ∧ p.2.2.1 ≤ 14400) by omega)]; simp
    · rw [decide_eq_false h1, decide_eq_false h2, decide_eq_true (show (1 : Int) ≤ p.2.2.1 ∧ p.2.2.1 ≤ 14400 by omega)]; rfl
def sameF (a b : Foot) : Bool := decide (a.1 = b.1) && (decide (a.2.1 = b.2.1) && (decide (a.2.2.1 = b.2.2.1) && a.2.2.2.1 == b.2.2.2.1))
def eqF (c l : List Foot) (i : Nat) : Int := if sameF ((c[i]?).getD f0) ((l[i]?).getD f0) then 0 else 1
def closedB (c l : List Foot) : Bool := decide (c.length = l.length) && (firstBad c.length (eqF c l)).isNone
theorem cmp_run {τ : Type} {c l : List Foot} (hcl : c.length = l.length) (hl : c.length ≤ 9223372036854775807) (R E : τ) : Tr.run (fun s2 : Int =>
                  bif Decidable.decide (s2 < (↑(List.length c) : Int)) then
                    Option.bind (Tr.idx c s2) fun x3 =>
                      Option.bind (Tr.idx l s2) fun x4 =>
                        bif !(Decidable.decide (x3.fst = x4.fst) && (Decidable.decide (x3.snd.fst = x4.snd.fst) && (Decidable.decide (x3.snd.snd.fst = x4.snd.snd.fst) && x3.snd.snd.snd.fst == x4.snd.snd.snd.fst))) then
                          Option.some (Sum.inr R)
                        else Option.some (Sum.inl (Go.IntKind.wrap Go.IntKind.i64 (s2 + (1 : Int))))
                  else Option.some (Sum.inr E)) (0 : Int) = some (if (firstBad c.length (eqF c l)).isNone then E else R) := by
  rw [scan_run (n := c.length) (fun i st => st = (i : Int)) (eqF c l) (fun _ => R) E ?_ ?_ ?_ (0 : Int) rfl]
  · unfold pick
    cases firstBad c.length (eqF c l) <;> rfl
  · rintro i _ hi rfl hc
    have hi' : i < l.length := by omega
    refine ⟨((i + 1 : Nat) : Int), ?_, rfl⟩
    unfold eqF at hc
    rw [getD_of hi, getD_of hi'] at hc
    have hs : sameF c[i] l[i] = true := by
      by_cases hs : sameF c[i] l[i] = true
      · exact hs
      · rw [if_neg hs] at hc; simp at hc
    unfold sameF at hs
    simp only [lt_dec hi, cond_true, idx_nat hi, idx_nat hi', Option.bind_some, hs, Bool.not_true, cond_false, wrap_succ hi hl]
  · rintro i _ hi rfl hc
    have hi' : i < l.length := by omega
    unfold eqF at hc
    rw [getD_of hi, getD_of hi'] at hc
    have hs : sameF c[i] l[i] = false := by
      by_cases hs : sameF c[i] l[i] = true
      · rw [if_pos hs] at hc; exact absurd rfl hc
      · simpa using hs
    unfold sameF at hs
    simp only [lt_dec hi, cond_true, idx_nat hi, idx_nat hi', Option.bind_some, hs, Bool.not_false]
  · rintro _ rfl
    simp only [nlt_dec, cond_false]
theorem sound_ok {n : Nat} {l : List Foot} (hl : l.length ≤ 4096) (h : ∀ i, i < l.length → pathF n l i = 0) : F16 l (n : Int) = some (0, 0) := by
  unfold F16
  have hdup : ∀ i (_ : i < l.length), ¬ ∃ j, j < i ∧ (fun j => (((l[j]?).getD f0).1, ((l[j]?).getD f0).2.1, ((l[j]?).getD f0).2.2.2.1, ())) j = (((l[i]?).getD f0).1, ((l[i]?).getD f0).2.1, ((l[i]?).getD f0).2.2.2.1, ()) := by
    rintro i hi ⟨j, hj, he⟩
    refine (pathF_zero (h i hi)).2.2 ⟨j, hj, ?_⟩
    simp only [Prod.mk.injEq, and_true] at he
    unfold pathK
    rw [he.1, he.2.1, he.2.2]
  rw [scan_run (n := l.length) (fun i st => ∃ m, st = (m, (i : Int)) ∧ Seen (t := Y198) (fun j => (((l[j]?).getD f0).1, ((l[j]?).getD f0).2.1, ((l[j]?).getD f0).2.2.2.1, ())) i m) (pathF n l) (fun i => .inr ((i : Int), pathF n l i)) (.inl ()) ?_ ?_ ?_ ([], (0 : Int)) ⟨[], rfl, Seen.nil _⟩]
  · unfold pick
    rw [firstBad_none h]; rfl
  · rintro i _ hi ⟨m, rfl, hS⟩ hc
    have hx := getD_of hi f0
    have hu := unseen hS (hdup i hi)
    obtain ⟨h1, h2, _⟩ := pathF_zero hc
    rw [hx] at h1 h2
    obtain ⟨g1, g2, g3⟩ := pathB1_false h1
    have g4 := pathB2_false h2
    refine ⟨(amSet (keyEq Y198) ((l[i]).1, (l[i]).2.1, (l[i]).2.2.2.1, ()) true m, ((i + 1 : Nat) : Int)), ?_, _, rfl, ?_⟩
    · simp only [lt_dec hi, cond_true, idx_nat hi, Option.bind_some, show decide ((l[i]).1 < 0) = false from decide_eq_false (by omega), show decide ((n : Int) ≤ (l[i]).1) = false from decide_eq_false (by omega), show decide ((l[i]).2.1 < 0) = false from decide_eq_false (by omega),
        show decide ((n : Int) ≤ (l[i]).2.1) = false from decide_eq_false (by omega), decide_eq_false g3, cond_false, show decide ((l[i]).2.2.1 < 1) = false from decide_eq_false (by omega), show decide ((14400 : Int) < (l[i]).2.2.1) = false from decide_eq_false (by omega), wrap_succ hi (show l.length ≤ 9223372036854775807 by omega)]
      rw [hx] at hu
      rw [show Option.getD (amGet (keyEq Y198) ((l[i]).1, (l[i]).2.1, (l[i]).2.2.2.1, ()) m) false = false from hu]
      rfl
    · have := Seen.add (t := Y198) rfl hS
      simp only [hx] at this
      exact this
  · rintro i _ hi _ hc
    exact absurd (h i hi) hc
  · rintro _ ⟨m, rfl, _⟩
    simp only [nlt_dec, cond_false]
theorem isClosed_val {n : Nat} (hn : n ≤ 64) {l : List Foot} (hl : l.length ≤ 4096) (h : ∀ i, i < l.length → pathF n l i = 0) : ∃ c, F59 l (n : Int) = some c ∧ c.length ≤ 8192 ∧ F11 l (n : Int) = some (closedB c l) := by
  obtain ⟨c, h1, h2, h3⟩ := closed_same hn (fok_of h) hl
  refine ⟨c, h2, h3, ?_⟩
  unfold F11 closedB
  rw [sound_ok hl h]
  have em : Tr.imax (n : Int) 0 = (n : Int) := by
    unfold Tr.imax
    split <;> omega
  simp only [show decide ((64 : Int) < (n : Int)) = false from decide_eq_false (by omega), cond_false, Option.bind_some, decide_true, Bool.not_true, em]
  rw [h1]
  simp only [Option.bind_some]
  by_cases hcl : c.length = l.length
  · rw [decide_eq_true (show (c.length : Int) = (l.length : Int) by omega), decide_eq_true hcl]
    simp only [Bool.not_true, cond_false, Bool.true_and]
    rw [cmp_run hcl (by omega) _ _]
    cases firstBad c.length (eqF c l) <;> rfl
  · rw [decide_eq_false (show ¬ (c.length : Int) = (l.length : Int) by omega), decide_eq_false hcl]; rfl
theorem paths_val (n : NetT) (hn : n.1.length ≤ 64) (hl : n.2.2.2.2.1.length ≤ 4096) : ∃ c, ((∀ i, i < n.2.2.2.2.1.length → pathF n.1.length n.2.2.2.2.1 i = 0) → F59 n.2.2.2.2.1 (n.1.length : Int) = some c) ∧ F42 n = some (match firstBad n.2.2.2.2.1.length (pathF n.1.length n.2.2.2.2.1) with
      | some i => (4, (i : Int), pathF n.1.length n.2.2.2.2.1 i, ())
      | none => if closedB c n.2.2.2.2.1 then (0, 0, 0, ()) else (4, 0, 18, ())) ∧
    F67 n = some (match firstBad n.2.2.2.2.1.length (pathF n.1.length n.2.2.2.2.1) with
      | some i => ((i : Int), pathF n.1.length n.2.2.2.2.1 i)
      | none => if closedB c n.2.2.2.2.1 then (0, 0) else (0, 18)) := by
  have hl' : n.2.2.2.2.1.length ≤ 9223372036854775807 := by omega
  have code : Tr.run (fun s0 : (Int × Int × Int × Unit) × List (Foot × Bool) × Int =>
        bif Decidable.decide (s0.snd.snd < (↑(List.length n.snd.snd.snd.snd.fst) : Int)) then
          Option.bind (Tr.idx n.snd.snd.snd.snd.fst s0.snd.snd) fun x1 =>
            Option.bind
              (Option.bind (F54 x1.fst (↑(List.length n.fst) : Int)) fun x2 =>
                bif !x2 then Option.some Bool.true
                else Option.bind (F54 x1.snd.fst (↑(List.length n.fst) : Int)) fun x3 => bif !x3 then Option.some Bool.true else Option.some (Decidable.decide (x1.fst = x1.snd.fst)))
              fun x4 =>
              bif x4 then Option.bind (F53 (4 : Int) s0.snd.snd (9 : Int)) fun x5 => Option.some (Sum.inr (Sum.inr x5))
              else
                Option.bind (bif Decidable.decide (x1.snd.snd.fst < (1 : Int)) then Option.some Bool.true else Option.some (Decidable.decide ((14400 : Int) < x1.snd.snd.fst))) fun x6 =>
                  bif x6 then Option.bind (F53 (4 : Int) s0.snd.snd (2 : Int)) fun x7 => Option.some (Sum.inr (Sum.inr x7))
                  else
                    bif Option.getD (Tr.amGet (Tr.keyEq Y79) (x1.fst, x1.snd.fst, (0 : Int), x1.snd.snd.snd.fst, ()) s0.snd.fst) (Bool.false) then
                      Option.bind (F53 (4 : Int) s0.snd.snd (6 : Int)) fun x8 => Option.some (Sum.inr (Sum.inr x8))
                    else
                      Option.some
                        (Sum.inl
                          (s0.fst, Tr.amSet (Tr.keyEq Y79) (x1.fst, x1.snd.fst, (0 : Int), x1.snd.snd.snd.fst, ()) Bool.true s0.snd.fst, Go.IntKind.wrap Go.IntKind.i64 (s0.snd.snd + (1 : Int))))
        else Option.some (Sum.inr (Sum.inl s0.fst)))
      (((0 : Int), (0 : Int), (0 : Int), ()), [], (0 : Int)) = some (pick n.2.2.2.2.1.length (pathF n.1.length n.2.2.2.2.1) (fun i => .inr (4, (i : Int), pathF n.1.length n.2.2.2.2.1 i, ())) (.inl (0, 0, 0, ()))) := by
    refine scan_run (n := n.2.2.2.2.1.length) (fun i st => ∃ m, st = ((0, 0, 0, ()), m, (i : Int)) ∧ Seen (t := Y79) (fun j => pathK ((n.2.2.2.2.1[j]?).getD f0)) i m) (pathF n.1.length n.2.2.2.2.1) _ _ ?_ ?_ ?_ _ ⟨[], rfl, Seen.nil _⟩
    · rintro i _ hi ⟨m, rfl, hS⟩ hc
      have hx := getD_of hi f0
      obtain ⟨h1, h2, h3⟩ := pathF_zero hc
      have hu := unseen hS h3
      rw [hx] at h1 h2 hu
      refine ⟨((0, 0, 0, ()), amSet (keyEq Y79) (pathK n.2.2.2.2.1[i]) true m, ((i + 1 : Nat) : Int)), ?_, _, rfl, ?_⟩
      · simp only [lt_dec hi, cond_true, idx_nat hi, Option.bind_some, wrap_succ hi hl']
        rw [b1_code, b2_code]
        simp only [Option.bind_some, h1, h2, cond_false]
        rw [show Option.getD (amGet (keyEq Y79) ((n.2.2.2.2.1[i]).1, (n.2.2.2.2.1[i]).2.1, (0 : Int), (n.2.2.2.2.1[i]).2.2.2.1, ()) m) false = false from hu]
        rfl
      · have := Seen.add (t := Y79) rfl hS
        simp only [hx] at this
        exact this
    · rintro i _ hi ⟨m, rfl, hS⟩ hc
      have hx := getD_of hi f0
      simp only [lt_dec hi, cond_true, idx_nat hi, Option.bind_some]
      rw [b1_code, b2_code]
      simp only [Option.bind_some]
      unfold pathF at hc ⊢
      rw [hx] at hc
      simp only [hx]
      by_cases h1 : pathB1 n.1.length n.2.2.2.2.1[i] = true
      · rw [if_pos h1, h1]; rfl
      rw [if_neg h1] at hc ⊢
      have h1' : pathB1 n.1.length n.2.2.2.2.1[i] = false := by simpa using h1
      simp only [h1', cond_false]
      by_cases h2 : pathB2 n.2.2.2.2.1[i] = true
      · rw [if_pos h2, h2]; rfl
      rw [if_neg h2] at hc ⊢
      have h2' : pathB2 n.2.2.2.2.1[i] = false := by simpa using h2
      simp only [h2', cond_false]
      by_cases h3 : ∃ j, j < i ∧ pathK ((n.2.2.2.2.1[j]?).getD f0) = pathK n.2.2.2.2.1[i]
      · rw [if_pos h3]
        rw [show Option.getD (amGet (keyEq Y79) ((n.2.2.2.2.1[i]).1, (n.2.2.2.2.1[i]).2.1, (0 : Int), (n.2.2.2.2.1[i]).2.2.2.1, ()) m) false = true from (hS _).2 h3]
        rfl
      · rw [if_neg h3] at hc; exact absurd rfl hc
    · rintro _ ⟨m, rfl, _⟩
      simp only [nlt_dec, cond_false]
  have hdup : ∀ i (hi : i < n.2.2.2.2.1.length) (τ : Type) (R E : τ), ((∃ j, j < i ∧ pathK ((n.2.2.2.2.1[j]?).getD f0) = pathK n.2.2.2.2.1[i]) → Tr.run (fun s6 : Int =>
                          bif Decidable.decide (s6 < (i : Int)) then
                            Option.bind (Tr.idx n.snd.snd.snd.snd.fst s6) fun x7 =>
                              Option.bind
                                (bif Decidable.decide (x7.fst = (n.2.2.2.2.1[i]).fst) then
                                  bif Decidable.decide (x7.snd.fst = (n.2.2.2.2.1[i]).snd.fst) then Option.some (x7.snd.snd.snd.fst == (n.2.2.2.2.1[i]).snd.snd.snd.fst) else Option.some Bool.false
                                else Option.some Bool.false)
                                fun x8 => bif x8 then Option.some (Sum.inr R) else Option.some (Sum.inl (Go.IntKind.wrap Go.IntKind.i64 (s6 + (1 : Int))))
                          else Option.some (Sum.inr E)) (0 : Int) = some R) ∧ ((¬ ∃ j, j < i ∧ pathK ((n.2.2.2.2.1[j]?).getD f0) = pathK n.2.2.2.2.1[i]) → Tr.run (fun s6 : Int =>
                          bif Decidable.decide (s6 < (i : Int)) then
                            Option.bind (Tr.idx n.snd.snd.snd.snd.fst s6) fun x7 =>
                              Option.bind
                                (bif Decidable.decide (x7.fst = (n.2.2.2.2.1[i]).fst) then
                                  bif Decidable.decide (x7.snd.fst = (n.2.2.2.2.1[i]).snd.fst) then Option.some (x7.snd.snd.snd.fst == (n.2.2.2.2.1[i]).snd.snd.snd.fst) else Option.some Bool.false
                                else Option.some Bool.false)
                                fun x8 => bif x8 then Option.some (Sum.inr R) else Option.some (Sum.inl (Go.IntKind.wrap Go.IntKind.i64 (s6 + (1 : Int))))
                          else Option.some (Sum.inr E)) (0 : Int) = some E) := by
    intro i hi τ R E
    refine dup_run (p := fun j => pathK ((n.2.2.2.2.1[j]?).getD f0) = pathK n.2.2.2.2.1[i]) (fun j hj hp => ?_) (fun j hj hp => ?_) (by simp only [nlt_dec, cond_false])
    · have hjl : j < n.2.2.2.2.1.length := by omega
      rw [getD_of hjl f0] at hp
      simp only [lt_dec hj, cond_true, idx_nat hjl, Option.bind_some, wrap_succ hj (show i ≤ 9223372036854775807 by omega)]
      by_cases e1 : (n.2.2.2.2.1[j]).1 = (n.2.2.2.2.1[i]).1
      · rw [decide_eq_true e1]
        by_cases e2 : (n.2.2.2.2.1[j]).2.1 = (n.2.2.2.2.1[i]).2.1
        · rw [decide_eq_true e2]
          have e3 : ((n.2.2.2.2.1[j]).2.2.2.1 == (n.2.2.2.2.1[i]).2.2.2.1) = false := by
            cases hb : ((n.2.2.2.2.1[j]).2.2.2.1 == (n.2.2.2.2.1[i]).2.2.2.1) with
            | false => rfl
            | true => exact absurd (by unfold pathK; rw [e1, e2, beq_iff_eq.1 hb]) hp
          simp only [cond_true, Option.bind_some]
          rw [e3]; rfl
        · rw [decide_eq_false e2]; rfl
      · rw [decide_eq_false e1]; rfl
    · have hjl : j < n.2.2.2.2.1.length := by omega
      rw [getD_of hjl f0] at hp
      unfold pathK at hp
      simp only [Prod.mk.injEq, and_true, true_and] at hp
      have e3 : ((n.2.2.2.2.1[j]).2.2.2.1 == (n.2.2.2.2.1[i]).2.2.2.1) = true := beq_iff_eq.2 hp.2.2
      simp only [lt_dec hj, cond_true, idx_nat hjl, Option.bind_some, decide_eq_true hp.1, decide_eq_true hp.2.1]
      rw [e3]; rfl
  have hrefscan : ∀ (step : Int → Option (Int ⊕ (Unit ⊕ (Int × Int)))), (∀ i, i < n.2.2.2.2.1.length → step (i : Int) = if pathF n.1.length n.2.2.2.2.1 i = 0 then some (.inl ((i + 1 : Nat) : Int)) else some (.inr (.inr ((i : Int), pathF n.1.length n.2.2.2.2.1 i)))) → step (n.2.2.2.2.1.length : Int) = some (.inr (.inl ())) →
      Tr.run step (0 : Int) = some (pick n.2.2.2.2.1.length (pathF n.1.length n.2.2.2.2.1) (fun i => .inr ((i : Int), pathF n.1.length n.2.2.2.2.1 i)) (.inl ())) := by
    intro step h1 h2
    refine scan_run (fun i st => st = (i : Int)) _ _ _ ?_ ?_ ?_ _ rfl
    · rintro i _ hi rfl hc
      exact ⟨_, by rw [h1 i hi, if_pos hc], rfl⟩
    · rintro i _ hi rfl hc
      rw [h1 i hi, if_neg hc]
    · rintro _ rfl
      exact h2
  have key : ∀ c, (∀ (_ : ∀ i, i < n.2.2.2.2.1.length → pathF n.1.length n.2.2.2.2.1 i = 0), F59 n.2.2.2.2.1 (n.1.length : Int) = some c ∧ c.length ≤ 8192 ∧ F11 n.2.2.2.2.1 (n.1.length : Int) = some (closedB c n.2.2.2.2.1)) →
      F42 n = some (match firstBad n.2.2.2.2.1.length (pathF n.1.length n.2.2.2.2.1) with
      | some i => (4, (i : Int), pathF n.1.length n.2.2.2.2.1 i, ())
      | none => if closedB c n.2.2.2.2.1 then (0, 0, 0, ()) else (4, 0, 18, ())) ∧
    F67 n = some (match firstBad n.2.2.2.2.1.length (pathF n.1.length n.2.2.2.2.1) with
      | some i => ((i : Int), pathF n.1.length n.2.2.2.2.1 i)
      | none => if closedB c n.2.2.2.2.1 then (0, 0) else (0, 18)) := by
    intro c hc
    constructor
    · unfold F42
      rw [show Tr.run _ _ = some _ from code]
      unfold pick
      simp only [Option.bind_some]
      cases hb : firstBad n.2.2.2.2.1.length (pathF n.1.length n.2.2.2.2.1) with
      | some i => rfl
      | none =>
        obtain ⟨_, _, h3⟩ := hc (firstBad_iff.1 hb)
        simp only [Sum.elim_inl]
        rw [h3]
        cases closedB c n.2.2.2.2.1 <;> rfl
    · unfold F67
      rw [hrefscan _ (fun i hi => ?_) (by simp only [nlt_dec, cond_false])]
      · unfold pick
        simp only [Option.bind_some]
        cases hb : firstBad n.2.2.2.2.1.length (pathF n.1.length n.2.2.2.2.1) with
        | some i => rfl
        | none =>
          obtain ⟨h1, h2, _⟩ := hc (firstBad_iff.1 hb)
          simp only [Sum.elim_inl]
          rw [h1]
          simp only [Option.bind_some]
          unfold closedB
          by_cases hcl : c.length = n.2.2.2.2.1.length
          · rw [decide_eq_true (show (c.length : Int) = (n.2.2.2.2.1.length : Int) by omega), decide_eq_true hcl]
            simp only [Bool.not_true, cond_false, Bool.true_and]
            rw [cmp_run hcl (by omega) _ _]
            cases firstBad c.length (eqF c n.2.2.2.2.1) <;> rfl
          · rw [decide_eq_false (show ¬ (c.length : Int) = (n.2.2.2.2.1.length : Int) by omega), decide_eq_false hcl]; rfl
      · have hx := getD_of hi f0
        simp only [lt_dec hi, cond_true, idx_nat hi, Option.bind_some, wrap_succ hi hl']
        rw [b1_ref (by omega), in_val, b2_ref]
        simp only [Option.bind_some]
        unfold pathF
        rw [hx]
        by_cases h1 : pathB1 n.1.length n.2.2.2.2.1[i] = true
        · rw [if_pos h1, h1]; rfl
        have h1' : pathB1 n.1.length n.2.2.2.2.1[i] = false := by simpa using h1
        rw [if_neg h1, h1']
        simp only [cond_false]
        by_cases h2 : pathB2 n.2.2.2.2.1[i] = true
        · rw [if_pos h2, h2]; rfl
        have h2' : pathB2 n.2.2.2.2.1[i] = false := by simpa using h2
        rw [if_neg h2, h2']
        simp only [Bool.not_false, Bool.not_true, cond_false]
        by_cases h3 : ∃ j, j < i ∧ pathK ((n.2.2.2.2.1[j]?).getD f0) = pathK n.2.2.2.2.1[i]
        · rw [if_pos h3, (hdup i hi _ _ _).1 h3]; rfl
        · rw [if_neg h3, (hdup i hi _ _ _).2 h3]; rfl
  by_cases hall : ∀ i, i < n.2.2.2.2.1.length → pathF n.1.length n.2.2.2.2.1 i = 0
  · obtain ⟨c, h1, h2, h3⟩ := isClosed_val hn hl hall
    exact ⟨c, fun _ => h1, key c fun _ => ⟨h1, h2, h3⟩⟩
  · exact ⟨[], fun h => absurd h hall, key [] fun h => absurd h hall⟩
end Q
namespace Q
open Tr Go
def orb (f : Int → Option Int) (a : Int) : Nat → Option Int
  | 0 => some a
  | k + 1 => (f a).bind fun b => orb f b k
inductive Ends (f : Int → Option Int) : Int → Prop
  | stop {a : Int} : f a = none → Ends f a
  | step {a b : Int} : f a = some b → Ends f b → Ends f a
theorem Ends.next {f : Int → Option Int} {a b : Int} (h : Ends f a) (hb : f a = some b) : Ends f b := by
  cases h with
  | stop h0 => rw [h0] at hb; cases hb
  | step h0 h1 => rw [h0] at hb; cases hb; exact h1
theorem orb_tail (f : Int → Option Int) : ∀ (k : Nat) (a : Int), orb f a (k + 1) = (orb f a k).bind f
  | 0, a => by
    show (f a).bind (fun b => some b) = f a
    cases f a <;> rfl
  | k + 1, a => by
    show (f a).bind (fun b => orb f b (k + 1)) = ((f a).bind fun b => orb f b k).bind f
    cases h : f a with
    | none => rfl
    | some b => exact orb_tail f k b
theorem no_cycle {f : Int → Option Int} {a : Int} (h : Ends f a) : ∀ k, orb f a (k + 1) ≠ some a := by
  induction h with
  | stop h0 => intro k hk; simp [orb, h0] at hk
  | @step a b h0 h1 ih =>
    intro k hk
    have e : orb f b k = some a := by simpa [orb, h0] using hk
    refine ih k ?_
    rw [orb_tail, e]
    exact h0
theorem few : ∀ (i : Nat) (l : List Nat), l.Nodup → (∀ j ∈ l, j < i) → l.length ≤ i
  | 0, l, _, h => by
    cases l with
    | nil => simp
    | cons a t => exact absurd (h a (by simp)) (by omega)
  | i + 1, l, hn, h => by
    have h1 := few i (l.erase i) (hn.erase i) (fun j hj => by
      have h2 := (List.Nodup.mem_erase_iff hn).1 hj
      have := h j h2.2
      omega)
    rw [List.length_erase] at h1
    split at h1 <;> omega
def nx (from_ to_ : Nat → Int) (st : Nat → Bool) : Nat → Int → Option Int
  | 0, _ => none
  | i + 1, a => if st i = true ∧ from_ i = a then some (to_ i) else nx from_ to_ st i a
variable {from_ to_ : Nat → Int} {st : Nat → Bool}
theorem nx_some : ∀ {i : Nat} {a b : Int}, nx from_ to_ st i a = some b → ∃ j, j < i ∧ st j = true ∧ from_ j = a ∧ to_ j = b
  | 0, a, b, h => by cases h
  | i + 1, a, b, h => by
    unfold nx at h
    split at h
    · next hc => cases h; exact ⟨i, by omega, hc.1, hc.2, rfl⟩
    · obtain ⟨j, h1, h2⟩ := nx_some h
      exact ⟨j, by omega, h2⟩
theorem nx_none : ∀ {i : Nat} {a : Int}, nx from_ to_ st i a = none → ∀ j, j < i → st j = true → from_ j ≠ a
  | 0, a, _, j, hj, _ => by omega
  | i + 1, a, h, j, hj, hs => by
    unfold nx at h
    split at h
    · cases h
    · next hc =>
      by_cases hji : j = i
      · subst hji; exact fun e => hc ⟨hs, e⟩
      · exact nx_none h j (by omega) hs
theorem path_links {i : Nat} : ∀ (k : Nat) (a c : Int), Ends (nx from_ to_ st i) a → orb (nx from_ to_ st i) a k = some c →
    ∃ l : List Nat, l.length = k ∧ l.Nodup ∧ ∀ j ∈ l, j < i ∧ ∃ t, orb (nx from_ to_ st i) a t = some (from_ j)
  | 0, _, _, _, _ => ⟨[], rfl, List.nodup_nil, fun j hj => absurd hj (by simp)⟩
  | k + 1, a, c, he, h => by
    cases hb : nx from_ to_ st i a with
    | none => simp [orb, hb] at h
    | some b =>
      have h' : orb (nx from_ to_ st i) b k = some c := by simpa [orb, hb] using h
      obtain ⟨l, h1, h2, h3⟩ := path_links k b c (he.next hb) h'
      obtain ⟨j, hj1, hj2, hj3, hj4⟩ := nx_some hb
      refine ⟨j :: l, by simp [h1], List.nodup_cons.2 ⟨fun hm => ?_, h2⟩, fun x hx => ?_⟩
      · obtain ⟨_, t, ht⟩ := h3 j hm
        rw [hj3] at ht
        refine no_cycle he t ?_
        simpa [orb, hb] using ht
      · rcases List.mem_cons.1 hx with rfl | hx
        · exact ⟨hj1, 0, by rw [hj3]; rfl⟩
        · obtain ⟨h4, t, ht⟩ := h3 x hx
          exact ⟨h4, t + 1, by simpa [orb, hb] using ht⟩
theorem path_short {i k : Nat} {a c : Int} (he : Ends (nx from_ to_ st i) a) (h : orb (nx from_ to_ st i) a k = some c) : k ≤ i := by
  obtain ⟨l, h1, h2, h3⟩ := path_links k a c he h
  have := few i l h2 fun j hj => (h3 j hj).1
  omega
theorem ends_keep {f g : Int → Option Int} {fr : Int} (hg : ∀ a, a ≠ fr → g a = f a) {a : Int} (h : Ends f a) (hn : ∀ k, orb f a k ≠ some fr) : Ends g a := by
  induction h with
  | @stop a h0 =>
    have : a ≠ fr := fun e => hn 0 (by rw [e]; rfl)
    exact .stop ((hg a this).trans h0)
  | @step a b h0 h1 ih =>
    have : a ≠ fr := fun e => hn 0 (by rw [e]; rfl)
    refine .step ((hg a this).trans h0) (ih fun k hk => hn (k + 1) ?_)
    simpa [orb, h0] using hk
theorem ends_add {f g : Int → Option Int} {fr to : Int} (hg : ∀ a, a ≠ fr → g a = f a) (hf : g fr = some to) (ht : Ends g to) {a : Int} (h : Ends f a) : Ends g a := by
  induction h with
  | @stop a h0 =>
    by_cases e : a = fr
    · subst e; exact .step hf ht
    · exact .stop ((hg a e).trans h0)
  | @step a b h0 h1 ih =>
    by_cases e : a = fr
    · subst e; exact .step hf ht
    · exact .step ((hg a e).trans h0) ih
theorem ends_succ {i : Nat} (h : ∀ a, Ends (nx from_ to_ st i) a) (hc : st i = true → to_ i ≠ from_ i ∧ ∀ k, orb (nx from_ to_ st i) (to_ i) (k + 1) ≠ some (from_ i)) (a : Int) : Ends (nx from_ to_ st (i + 1)) a := by
  by_cases hs : st i = true
  · obtain ⟨h1, h2⟩ := hc hs
    have hg : ∀ a, a ≠ from_ i → nx from_ to_ st (i + 1) a = nx from_ to_ st i a := fun a ha => if_neg fun e => ha e.2.symm
    refine ends_add hg (if_pos ⟨hs, rfl⟩) (ends_keep hg (h _) fun k => ?_) (h a)
    cases k with
    | zero => exact fun e => h1 (Option.some.inj e)
    | succ k => exact h2 k
  · have : nx from_ to_ st (i + 1) = nx from_ to_ st i := funext fun a => if_neg fun e => hs e.1
    rw [this]; exact h a
theorem ends_zero (a : Int) : Ends (nx from_ to_ st 0) a := .stop rfl
theorem leads_val {f : Int → Option Int} {m : List (Int × Int)} (hm : ∀ a, amGet (keyEq Y3) a m = f a) {a fr : Int} (he : Ends f a) : F52 m a fr = some (m, @decide (∃ k, orb f a (k + 1) = some fr) (Classical.propDecidable _)) := by
  classical
  unfold F52
  have key : ∀ a, Ends f a → run (fun s0 : Int × Bool =>
        bif s0.snd then
          bif Decidable.decide (s0.fst = fr) then Option.some (Sum.inr (Sum.inr Bool.true))
          else Option.some (Sum.inl (Option.getD (Tr.amGet (Tr.keyEq Y3) s0.fst m) ((0 : Int)), Option.isSome (Tr.amGet (Tr.keyEq Y3) s0.fst m)))
        else Option.some (Sum.inr (Sum.inl ())))
      (Option.getD (Tr.amGet (Tr.keyEq Y3) a m) ((0 : Int)), Option.isSome (Tr.amGet (Tr.keyEq Y3) a m)) = some (if ∃ k, orb f a (k + 1) = some fr then Sum.inr true else Sum.inl ()) := by
    intro a he
    induction he with
    | @stop a h0 =>
      rw [hm a, h0, if_neg (by rintro ⟨k, hk⟩; simp [orb, h0] at hk)]
      exact run_inr rfl
    | @step a b h0 h1 ih =>
      rw [hm a, h0]
      by_cases hb : b = fr
      · rw [if_pos ⟨0, by simp [orb, h0, hb]⟩]
        exact run_inr (by simp [hb])
      · rw [run_inl (s' := (Option.getD (Tr.amGet (Tr.keyEq Y3) b m) ((0 : Int)), Option.isSome (Tr.amGet (Tr.keyEq Y3) b m))) (by simp [hb]), ih]
        have hiff : (∃ k, orb f b (k + 1) = some fr) ↔ ∃ k, orb f a (k + 1) = some fr := by
          refine ⟨fun ⟨k, hk⟩ => ⟨k + 1, by simpa [orb, h0] using hk⟩, fun ⟨k, hk⟩ => ?_⟩
          cases k with
          | zero => exact absurd (by simpa [orb, h0] using hk) hb
          | succ k => exact ⟨k, by simpa [orb, h0] using hk⟩
        by_cases h : ∃ k, orb f b (k + 1) = some fr
        · rw [if_pos h, if_pos (hiff.1 h)]
        · rw [if_neg h, if_neg fun e => h (hiff.2 e)]
  refine (congrArg (Option.bind · _) (key a he)).trans ?_
  by_cases h : ∃ k, orb f a (k + 1) = some fr
  · rw [if_pos h, decide_eq_true h]; rfl
  · rw [if_neg h, decide_eq_false h]; rfl
end Q
namespace Q
open Tr Go
theorem scan_run2 {σ τ : Type} {step : σ → Option (σ ⊕ τ)} {n : Nat} (St : Nat → σ → Prop) (chk : Nat → Int) (R : Nat → τ) (E : τ)
    (hstep : ∀ i s, i < n → (∀ j, j < i → chk j = 0) → St i s → (chk i = 0 ∧ ∃ s', step s = some (.inl s') ∧ St (i + 1) s') ∨ (chk i ≠ 0 ∧ step s = some (.inr (R i))))
    (hend : ∀ s, St n s → step s = some (.inr E)) (s : σ) (h0 : St 0 s) : run step s = some (pick n chk R E) := by
  refine scan_run (fun i s => St i s ∧ ∀ j, j < i → chk j = 0) chk R E ?_ ?_ (fun s h => hend s h.1) s ⟨h0, fun j hj => by omega⟩
  · rintro i s hi ⟨hs, hj⟩ hc
    rcases hstep i s hi hj hs with ⟨_, s', h1, h2⟩ | ⟨h, _⟩
    · refine ⟨s', h1, h2, fun j hji => ?_⟩
      by_cases e : j = i
      · subst e; exact hc
      · exact hj j (by omega)
    · exact absurd hc h
  · rintro i s hi ⟨hs, hj⟩ hc
    rcases hstep i s hi hj hs with ⟨h, _⟩ | ⟨_, h⟩
    · exact absurd h hc
    · exact h
def l0 : LinkT := (0, 0, 0, 0, false, ())
def lk (n : NetT) (j : Nat) : LinkT := (n.2.2.2.1[j]?).getD l0
def rn (n : NetT) (a : Int) : RunT := (n.2.2.1[a.toNat]?).getD u0
def cl (l : List CallT) (a : Int) : CallT := (l[a.toNat]?).getD c0
def inR (x : Int) (m : Nat) : Bool := decide (0 ≤ x) && decide (x < (m : Int))
def nxL (n : NetT) (i : Nat) : Int → Option Int := nx (fun j => (lk n j).1) (fun j => (lk n j).2.2.1) (fun j => (lk n j).2.2.2.2.1) i
abbrev LKey := List Int
def linkK (x : LinkT) : LKey := [x.1, x.2.1, x.2.2.1, x.2.2.2.1]
theorem withinL_val (x : Int) (m : Nat) : F54 x (m : Int) = some (inR x m) := by
  unfold F54 inR
  generalize decide (0 ≤ x) = a
  generalize decide (x < (m : Int)) = b
  cases a <;> cases b <;> rfl
theorem idx_int {α : Type} {l : List α} {x : Int} (h : inR x l.length = true) (d : α) : Tr.idx l x = some ((l[x.toNat]?).getD d) := by
  unfold inR at h
  simp only [Bool.and_eq_true, decide_eq_true_eq] at h
  have e : x = (x.toNat : Int) := by omega
  have hl : x.toNat < l.length := by omega
  rw [e, idx_nat hl, Int.toNat_natCast, getD_of hl]
def bad1 (n : NetT) (x : LinkT) : Bool := !inR x.1 n.2.2.1.length || (!inR x.2.2.1 n.2.2.1.length || decide (x.1 = x.2.2.1))
def bad2 (n : NetT) (x : LinkT) : Bool := !inR x.2.1 (rn n x.1).2.2.2.2.2.2.2.1.length || !inR x.2.2.2.1 (rn n x.2.2.1).2.2.2.2.2.2.2.1.length
open Classical in
noncomputable def linkF (n : NetT) (i : Nat) : Int :=
  let x := lk n i
  if bad1 n x = true then 9 else if bad2 n x = true then 9
  else if ¬ (cl (rn n x.1).2.2.2.2.2.2.2.1 x.2.1).1 = (cl (rn n x.2.2.1).2.2.2.2.2.2.2.1 x.2.2.2.1).1 then 13
  else if x.2.2.2.2.1 = true ∧ ¬ x.2.1 + 1 = ((rn n x.1).2.2.2.2.2.2.2.1.length : Int) then 19
  else if x.2.2.2.2.1 = true ∧ ¬ x.2.2.2.1 = 0 then 19
  else if x.2.2.2.2.1 = true ∧ ∃ j, j < i ∧ (lk n j).2.2.2.2.1 = true ∧ ((lk n j).1 = x.1 ∨ (lk n j).2.2.1 = x.2.2.1) then 19
  else if x.2.2.2.2.1 = true ∧ ∃ k, orb (nxL n i) x.2.2.1 (k + 1) = some x.1 then 19
  else if ∃ j, j < i ∧ linkK (lk n j) = linkK x then 6 else 0
theorem linkF_zero {n : NetT} {i : Nat} (h : linkF n i = 0) : bad1 n (lk n i) = false ∧ bad2 n (lk n i) = false ∧ ((lk n i).2.2.2.2.1 = true →
    (¬ ∃ j, j < i ∧ (lk n j).2.2.2.2.1 = true ∧ ((lk n j).1 = (lk n i).1 ∨ (lk n j).2.2.1 = (lk n i).2.2.1)) ∧ ¬ ∃ k, orb (nxL n i) (lk n i).2.2.1 (k + 1) = some (lk n i).1) := by
  unfold linkF at h
  simp only at h
  by_cases b1 : bad1 n (lk n i) = true
  · rw [if_pos b1] at h; omega
  rw [if_neg b1] at h
  by_cases b2 : bad2 n (lk n i) = true
  · rw [if_pos b2] at h; omega
  rw [if_neg b2] at h
  refine ⟨by simpa using b1, by simpa using b2, fun hs => ?_⟩
  repeat (split at h; · omega)
  next h5 h6 _ => exact ⟨fun e => h5 ⟨hs, e⟩, fun e => h6 ⟨hs, e⟩⟩
theorem ends_links {n : NetT} : ∀ {i : Nat}, (∀ j, j < i → linkF n j = 0) → ∀ a, Ends (nxL n i) a
  | 0, _, a => ends_zero a
  | i + 1, h, a => by
    obtain ⟨h1, _, h3⟩ := linkF_zero (h i (by omega))
    refine ends_succ (ends_links fun j hj => h j (by omega)) (fun hs => ⟨fun e => ?_, fun k hk => (h3 hs).2 ⟨k, hk⟩⟩) a
    unfold bad1 at h1
    simp only [Bool.or_eq_false_iff, decide_eq_false_iff_not] at h1
    exact h1.2.2 e.symm
theorem from_nonneg {n : NetT} {j : Nat} (h : linkF n j = 0) : 0 ≤ (lk n j).1 := by
  obtain ⟨h1, _⟩ := linkF_zero h
  unfold bad1 inR at h1
  simp only [Bool.or_eq_false_iff, Bool.not_eq_false', Bool.and_eq_true, decide_eq_true_eq] at h1
  exact h1.1.1
end Q
namespace Q
open Tr Go
noncomputable def linksR (n : NetT) : Int × Int × Int × Unit := if 1024 < n.2.2.2.1.length then (3, 0, 5, ()) else pick n.2.2.2.1.length (linkF n) (fun i => (3, (i : Int), linkF n i, ())) (0, 0, 0, ())
theorem rn_mem {n : NetT} {a : Int} (h : inR a n.2.2.1.length = true) : rn n a ∈ n.2.2.1 := by
  unfold inR at h
  simp only [Bool.and_eq_true, decide_eq_true_eq] at h
  have hl : a.toNat < n.2.2.1.length := by omega
  unfold rn
  rw [getD_of hl]
  exact List.getElem_mem hl
def LSt (n : NetT) (i : Nat) (s : (Int × Int × Int × Unit) × List (Int × Int) × List (Int × Bool) × List (LKey × Bool) × Int) : Prop :=
  ∃ mN mI mS, s = ((0, 0, 0, ()), mN, mI, mS, (i : Int)) ∧ (∀ a, amGet (keyEq Y3) a mN = nxL n i a) ∧ (∀ b, Option.getD (amGet (keyEq Y3) b mI) false = true ↔ ∃ j, j < i ∧ (lk n j).2.2.2.2.1 = true ∧ (lk n j).2.2.1 = b)
    ∧ Seen (t := Y188) (fun j => linkK (lk n j)) i mS
theorem nx_isSome {n : NetT} {i : Nat} {a : Int} : (nxL n i a).isSome = true ↔ ∃ j, j < i ∧ (lk n j).2.2.2.2.1 = true ∧ (lk n j).1 = a := by
  cases h : nxL n i a with
  | none =>
    refine ⟨fun e => (nomatch e), fun ⟨j, h1, h2, h3⟩ => absurd h3 (nx_none h j h1 h2)⟩
  | some b =>
    obtain ⟨j, h1, h2, h3, _⟩ := nx_some h
    exact ⟨fun _ => ⟨j, h1, h2, h3⟩, fun _ => rfl⟩
theorem links_val (n : NetT) (hC : ∀ x ∈ n.2.2.1, x.2.2.2.2.2.2.2.1.length ≤ 9223372036854775807) : F41 n = some (linksR n) := by
  unfold F41 linksR F53
  by_cases h1 : 1024 < n.2.2.2.1.length
  · rw [if_pos h1, decide_eq_true (show (1024 : Int) < (n.2.2.2.1.length : Int) by omega)]; rfl
  rw [if_neg h1, decide_eq_false (show ¬ (1024 : Int) < (n.2.2.2.1.length : Int) by omega)]
  simp only [cond_false]
  have hl : n.2.2.2.1.length ≤ 9223372036854775807 := by omega
  rw [scan_run2 (n := n.2.2.2.1.length) (LSt n) (linkF n) (fun i => .inr (3, (i : Int), linkF n i, ())) (.inl (0, 0, 0, ())) ?_ ?_ ((0, 0, 0, ()), [], [], [], (0 : Int))
    ⟨[], [], [], rfl, fun _ => rfl, fun b => ⟨fun h => (nomatch h), fun ⟨j, hj, _⟩ => by omega⟩, Seen.nil _⟩]
  · unfold pick
    cases firstBad n.2.2.2.1.length (linkF n) <;> rfl
  · rintro i _ hi hj ⟨mN, mI, mS, rfl, hN, hI, hS⟩
    have hx : n.2.2.2.1[i] = lk n i := (getD_of hi l0).symm
    simp only [lt_dec hi, cond_true, idx_nat hi, Option.bind_some, hx, withinL_val]
    have hF : linkF n i = linkF n i := rfl
    conv at hF => rhs; unfold linkF
    simp only at hF
    generalize hy : lk n i = x at hF ⊢
    by_cases b1 : bad1 n x = true
    · rw [if_pos b1] at hF
      refine .inr ⟨by rw [hF]; omega, ?_⟩
      rw [hF]
      unfold bad1 at b1
      revert b1
      generalize inR x.1 n.2.2.1.length = a1
      generalize inR x.2.2.1 n.2.2.1.length = a2
      generalize decide (x.1 = x.2.2.1) = a3
      cases a1 <;> cases a2 <;> cases a3 <;> intro b1 <;> first | rfl | cases b1
    rw [if_neg b1] at hF
    unfold bad1 at b1
    simp only [Bool.not_eq_true, Bool.or_eq_false_iff, Bool.not_eq_false'] at b1
    obtain ⟨p1, p2, p3⟩ := b1
    have e1 : Tr.idx n.2.2.1 x.1 = some (rn n x.1) := idx_int p1 u0
    have e2 : Tr.idx n.2.2.1 x.2.2.1 = some (rn n x.2.2.1) := idx_int p2 u0
    simp only [p1, p2, p3, Bool.not_true, cond_false, Option.bind_some, e1, e2]
    by_cases b2 : bad2 n x = true
    · rw [if_pos b2] at hF
      refine .inr ⟨by rw [hF]; omega, ?_⟩
      rw [hF]
      unfold bad2 at b2
      revert b2
      generalize inR x.2.1 (rn n x.1).2.2.2.2.2.2.2.1.length = a1
      generalize inR x.2.2.2.1 (rn n x.2.2.1).2.2.2.2.2.2.2.1.length = a2
      cases a1 <;> cases a2 <;> intro b2 <;> first | rfl | cases b2
    rw [if_neg b2] at hF
    unfold bad2 at b2
    simp only [Bool.not_eq_true, Bool.or_eq_false_iff, Bool.not_eq_false'] at b2
    obtain ⟨q1, q2⟩ := b2
    have e3 : Tr.idx (rn n x.1).2.2.2.2.2.2.2.1 x.2.1 = some (cl (rn n x.1).2.2.2.2.2.2.2.1 x.2.1) := idx_int q1 c0
    have e4 : Tr.idx (rn n x.2.2.1).2.2.2.2.2.2.2.1 x.2.2.2.1 = some (cl (rn n x.2.2.1).2.2.2.2.2.2.2.1 x.2.2.2.1) := idx_int q2 c0
    simp only [q1, q2, Bool.not_true, cond_false, Option.bind_some, e3, e4]
    by_cases b3 : (cl (rn n x.1).2.2.2.2.2.2.2.1 x.2.1).1 = (cl (rn n x.2.2.1).2.2.2.2.2.2.2.1 x.2.2.2.1).1
    case neg =>
      rw [if_pos b3] at hF
      refine .inr ⟨by rw [hF]; omega, ?_⟩
      rw [hF]
      simp only [decide_eq_false b3, Bool.not_false, cond_true]
    rw [if_neg (fun h => h b3)] at hF
    simp only [decide_eq_true b3, Bool.not_true, cond_false]
    by_cases hs : x.2.2.2.2.1 = true
    · simp only [hs, true_and, cond_true] at hF ⊢
      have hw : IntKind.wrap .i64 (x.2.1 + 1) = x.2.1 + 1 := by
        have h2 := hC _ (rn_mem p1)
        unfold inR at q1
        simp only [Bool.and_eq_true, decide_eq_true_eq] at q1
        exact wrap_i64 (by omega) (by omega)
      rw [hw]
      by_cases b4 : x.2.1 + 1 = ((rn n x.1).2.2.2.2.2.2.2.1.length : Int)
      case neg =>
        rw [if_pos b4] at hF
        refine .inr ⟨by rw [hF]; omega, ?_⟩
        rw [hF]
        simp only [decide_eq_false b4, Bool.not_false, cond_true]
      rw [if_neg (fun h => h b4)] at hF
      simp only [decide_eq_true b4, Bool.not_true, cond_false]
      by_cases b5 : x.2.2.2.1 = 0
      case neg =>
        rw [if_pos b5] at hF
        refine .inr ⟨by rw [hF]; omega, ?_⟩
        rw [hF]
        simp only [decide_eq_false b5, Bool.not_false, cond_true]
      rw [if_neg (fun h => h b5)] at hF
      simp only [decide_eq_true b5, Bool.not_true, cond_false, hN, leads_val hN (ends_links hj x.2.2.1), Option.bind_some]
      by_cases b6 : ∃ j, j < i ∧ (lk n j).2.2.2.2.1 = true ∧ ((lk n j).1 = x.1 ∨ (lk n j).2.2.1 = x.2.2.1)
      · rw [if_pos b6] at hF
        refine .inr ⟨by rw [hF]; omega, ?_⟩
        rw [hF]
        by_cases b6a : (nxL n i x.1).isSome = true
        · simp only [b6a, cond_true]
        · have b6b : Option.getD (amGet (keyEq Y3) x.2.2.1 mI) false = true := by
            obtain ⟨j, h1, h2, h3⟩ := b6
            rcases h3 with h3 | h3
            · exact absurd (nx_isSome.2 ⟨j, h1, h2, h3⟩) b6a
            · exact (hI _).2 ⟨j, h1, h2, h3⟩
          simp only [b6b, show (nxL n i x.1).isSome = false by simpa using b6a, cond_false, cond_true]
      rw [if_neg b6] at hF
      have b6a : (nxL n i x.1).isSome = false := by
        cases hq : (nxL n i x.1).isSome with
        | false => rfl
        | true => obtain ⟨j, h1, h2, h3⟩ := nx_isSome.1 hq; exact absurd ⟨j, h1, h2, .inl h3⟩ b6
      have b6b : Option.getD (amGet (keyEq Y3) x.2.2.1 mI) false = false := by
        cases hq : Option.getD (amGet (keyEq Y3) x.2.2.1 mI) false with
        | false => rfl
        | true => obtain ⟨j, h1, h2, h3⟩ := (hI _).1 hq; exact absurd ⟨j, h1, h2, .inr h3⟩ b6
      simp only [b6a, b6b, cond_false]
      by_cases b7 : ∃ k, orb (nxL n i) x.2.2.1 (k + 1) = some x.1
      · rw [if_pos ⟨hs, b7⟩] at hF
        refine .inr ⟨by rw [hF]; omega, ?_⟩
        rw [hF]
        simp only [@decide_eq_true _ (Classical.propDecidable _) b7, cond_true]
      rw [if_neg fun h => b7 h.2] at hF
      simp only [@decide_eq_false _ (Classical.propDecidable _) b7, cond_false]
      by_cases b8 : ∃ j, j < i ∧ linkK (lk n j) = linkK x
      · rw [if_pos b8] at hF
        refine .inr ⟨by rw [hF]; omega, ?_⟩
        rw [hF]
        rw [show Option.getD (amGet (keyEq Y188) [x.1, x.2.1, x.2.2.1, x.2.2.2.1] mS) false = true from (hS _).2 b8]
        rfl
      rw [if_neg b8] at hF
      refine .inl ⟨hF, _, ?_, amSet (keyEq Y3) x.1 x.2.2.1 mN, amSet (keyEq Y3) x.2.2.1 true mI, amSet (keyEq Y188) (linkK x) true mS, rfl, ?_, ?_, ?_⟩
      · rw [show Option.getD (amGet (keyEq Y188) [x.1, x.2.1, x.2.2.1, x.2.2.2.1] mS) false = false from unseen hS b8]
        simp only [cond_false, wrap_succ hi hl]
        rfl
      · intro a
        rw [amGet_set rfl, hN]
        show _ = nx _ _ _ (i + 1) a
        unfold nx
        simp only [hy, hs, true_and]
        by_cases ha : a = x.1
        · rw [if_pos ha, if_pos ha.symm]
        · rw [if_neg ha, if_neg fun h => ha h.symm]; rfl
      · intro b
        rw [amGet_set rfl]
        by_cases hb : b = x.2.2.1
        · rw [if_pos hb]
          exact ⟨fun _ => ⟨i, by omega, by rw [hy]; exact hs, by rw [hy, hb]⟩, fun _ => rfl⟩
        · rw [if_neg hb, hI]
          refine ⟨fun ⟨j, h1, h2⟩ => ⟨j, by omega, h2⟩, fun ⟨j, h1, h2, h3⟩ => ⟨j, ?_, h2, h3⟩⟩
          by_cases e : j = i
          · subst e; rw [hy] at h3; exact absurd h3.symm hb
          · omega
      · have := Seen.add (t := Y188) rfl hS
        simp only [hy] at this
        exact this
    · have hs' : x.2.2.2.2.1 = false := by simpa using hs
      simp only [hs', Bool.false_eq_true, false_and, if_false, cond_false] at hF ⊢
      by_cases b8 : ∃ j, j < i ∧ linkK (lk n j) = linkK x
      · rw [if_pos b8] at hF
        refine .inr ⟨by rw [hF]; omega, ?_⟩
        rw [hF]
        rw [show Option.getD (amGet (keyEq Y188) [x.1, x.2.1, x.2.2.1, x.2.2.2.1] mS) false = true from (hS _).2 b8]
        rfl
      rw [if_neg b8] at hF
      refine .inl ⟨hF, _, ?_, mN, mI, amSet (keyEq Y188) (linkK x) true mS, rfl, ?_, ?_, ?_⟩
      · rw [show Option.getD (amGet (keyEq Y188) [x.1, x.2.1, x.2.2.1, x.2.2.2.1] mS) false = false from unseen hS b8]
        simp only [cond_false, wrap_succ hi hl]
        rfl
      · intro a
        rw [hN]
        show _ = nx _ _ _ (i + 1) a
        unfold nx
        simp only [hy, hs', Bool.false_eq_true, false_and, if_false]
        rfl
      · intro b
        rw [hI]
        refine ⟨fun ⟨j, h1, h2⟩ => ⟨j, by omega, h2⟩, fun ⟨j, h1, h2, h3⟩ => ⟨j, ?_, h2, h3⟩⟩
        by_cases e : j = i
        · subst e; rw [hy] at h2; exact absurd h2 hs
        · omega
      · have := Seen.add (t := Y188) rfl hS
        simp only [hy] at this
        exact this
  · rintro _ ⟨mN, mI, mS, rfl, _⟩
    simp only [nlt_dec, cond_false]
end Q
namespace Q
open Tr Go
theorem inR_val (x : Int) {m : Nat} (hm : m ≤ 9223372036854775807) : F64 x 0 (IntKind.wrap .i64 ((m : Int) - 1)) = some (inR x m) := by
  rw [in_val, wrap_i64 (by omega) (by omega)]
  unfold inR
  by_cases h1 : 0 ≤ x
  · by_cases h2 : x < (m : Int)
    · rw [decide_eq_true h1, decide_eq_true h2, decide_eq_true ⟨h1, by omega⟩]; rfl
    · rw [decide_eq_true h1, decide_eq_false h2, decide_eq_false (fun h => h2 (by omega))]; rfl
  · rw [decide_eq_false h1, decide_eq_false (fun h => h1 h.1)]; rfl
theorem last_val (n : NetT) {i : Nat} (hi : i ≤ n.2.2.2.1.length) (hl : n.2.2.2.1.length ≤ 9223372036854775807) (a : Int) :
    Tr.run (fun s1 : Int × Int =>
                bif Decidable.decide (s1.snd < (i : Int)) then
                  Option.bind
                    (Option.bind (Tr.idx n.snd.snd.snd.fst s1.snd) fun x2 =>
                      bif x2.snd.snd.snd.snd.fst then Option.bind (Tr.idx n.snd.snd.snd.fst s1.snd) fun x3 => Option.some (Decidable.decide (x3.fst = a)) else Option.some Bool.false)
                    fun x4 =>
                    bif x4 then Option.bind (Tr.idx n.snd.snd.snd.fst s1.snd) fun x5 => Option.some (Sum.inl (x5.snd.snd.fst, Go.IntKind.wrap Go.IntKind.i64 (s1.snd + (1 : Int))))
                    else Option.some (Sum.inl (s1.fst, Go.IntKind.wrap Go.IntKind.i64 (s1.snd + (1 : Int))))
                else Option.some (Sum.inr s1.fst))
              ((-1 : Int), (0 : Int)) = some ((nxL n i a).getD (-1)) := by
  have h := scan_run (n := i) (fun j (st : Int × Int) => st = ((nxL n j a).getD (-1), (j : Int))) (fun _ => 0) (fun _ => (nxL n i a).getD (-1)) ((nxL n i a).getD (-1)) (step := fun s1 : Int × Int =>
                bif Decidable.decide (s1.snd < (i : Int)) then
                  Option.bind
                    (Option.bind (Tr.idx n.snd.snd.snd.fst s1.snd) fun x2 =>
                      bif x2.snd.snd.snd.snd.fst then Option.bind (Tr.idx n.snd.snd.snd.fst s1.snd) fun x3 => Option.some (Decidable.decide (x3.fst = a)) else Option.some Bool.false)
                    fun x4 =>
                    bif x4 then Option.bind (Tr.idx n.snd.snd.snd.fst s1.snd) fun x5 => Option.some (Sum.inl (x5.snd.snd.fst, Go.IntKind.wrap Go.IntKind.i64 (s1.snd + (1 : Int))))
                    else Option.some (Sum.inl (s1.fst, Go.IntKind.wrap Go.IntKind.i64 (s1.snd + (1 : Int))))
                else Option.some (Sum.inr s1.fst)) ?_ ?_ ?_ ((-1 : Int), (0 : Int)) rfl
  · rw [h]
    unfold pick
    rw [firstBad_none fun _ _ => rfl]
  · rintro j _ hj rfl _
    have hjl : j < n.2.2.2.1.length := by omega
    have hx : n.2.2.2.1[j] = lk n j := (getD_of hjl l0).symm
    refine ⟨((nxL n (j + 1) a).getD (-1), ((j + 1 : Nat) : Int)), ?_, rfl⟩
    simp only [lt_dec hj, cond_true, idx_nat hjl, Option.bind_some, hx, wrap_succ hjl hl]
    have hn : nxL n (j + 1) a = if (lk n j).2.2.2.2.1 = true ∧ (lk n j).1 = a then some (lk n j).2.2.1 else nxL n j a := rfl
    rw [hn]
    cases hs : (lk n j).2.2.2.2.1 with
    | false =>
      rw [if_neg (fun h => (nomatch h.1))]; rfl
    | true =>
      by_cases ha : (lk n j).1 = a
      · rw [if_pos ⟨rfl, ha⟩, decide_eq_true ha]; rfl
      · rw [if_neg (fun h => ha h.2), decide_eq_false ha]; rfl
  · intro j s _ _ h; exact absurd rfl h
  · rintro _ rfl
    simp only [nlt_dec, cond_false]
theorem leadsR_val (n : NetT) {i : Nat} (hi : i ≤ n.2.2.2.1.length) (hl : n.2.2.2.1.length ≤ 9223372036854775806) (hj : ∀ j, j < i → linkF n j = 0) (to fr : Int) (hfr : 0 ≤ fr) :
    F65 n (i : Int) to fr = some (@decide (∃ k, orb (nxL n i) to (k + 1) = some fr) (Classical.propDecidable _)) := by
  classical
  unfold F65
  have hneg : nxL n i (-1) = none := by
    cases h : nxL n i (-1) with
    | none => rfl
    | some b =>
      obtain ⟨j, h1, h2, h3, _⟩ := nx_some h
      have := from_nonneg (hj j h1)
      have h4 : (lk n j).1 = -1 := h3
      omega
  have hlast := last_val n hi (by omega)
  have key : ∀ (r k : Nat) (a : Int), i + 1 - k = r → k ≤ i + 1 → run (fun s0 : Int × Int =>
        bif Decidable.decide (s0.snd ≤ (i : Int)) then
          Option.bind
            (Tr.run
              (fun s1 =>
                bif Decidable.decide (s1.snd < (i : Int)) then
                  Option.bind
                    (Option.bind (Tr.idx n.snd.snd.snd.fst s1.snd) fun x2 =>
                      bif x2.snd.snd.snd.snd.fst then Option.bind (Tr.idx n.snd.snd.snd.fst s1.snd) fun x3 => Option.some (Decidable.decide (x3.fst = s0.fst)) else Option.some Bool.false)
                    fun x4 =>
                    bif x4 then Option.bind (Tr.idx n.snd.snd.snd.fst s1.snd) fun x5 => Option.some (Sum.inl (x5.snd.snd.fst, Go.IntKind.wrap Go.IntKind.i64 (s1.snd + (1 : Int))))
                    else Option.some (Sum.inl (s1.fst, Go.IntKind.wrap Go.IntKind.i64 (s1.snd + (1 : Int))))
                else Option.some (Sum.inr s1.fst))
              ((-1 : Int), (0 : Int)))
            fun x6 => bif Decidable.decide (x6 = fr) then Option.some (Sum.inr (Sum.inr Bool.true)) else Option.some (Sum.inl (x6, Go.IntKind.wrap Go.IntKind.i64 (s0.snd + (1 : Int))))
        else Option.some (Sum.inr (Sum.inl ())))
      (a, (k : Int)) = some (if ∃ t, k + t ≤ i ∧ orb (nxL n i) a (t + 1) = some fr then Sum.inr true else Sum.inl ()) := by
    intro r
    induction r with
    | zero =>
      intro k a hr hk
      rw [if_neg (by rintro ⟨t, h, _⟩; omega)]
      exact run_inr (by simp only [decide_eq_false (show ¬ (k : Int) ≤ (i : Int) by omega), cond_false])
    | succ r ih =>
      intro k a hr hk
      have hw : IntKind.wrap .i64 ((k : Int) + 1) = ((k + 1 : Nat) : Int) := by rw [wrap_i64 (by omega) (by omega)]; omega
      by_cases hf : (nxL n i a).getD (-1) = fr
      · have : nxL n i a = some fr := by
          cases h : nxL n i a with
          | none => rw [h] at hf; simp at hf; omega
          | some b => rw [h] at hf; simp at hf; rw [hf]
        rw [if_pos ⟨0, by omega, by simp [orb, this]⟩]
        refine run_inr ?_
        simp only [decide_eq_true (show (k : Int) ≤ (i : Int) by omega), cond_true, hlast, Option.bind_some, decide_eq_true hf]
      · rw [run_inl (s' := ((nxL n i a).getD (-1), ((k + 1 : Nat) : Int))) (by
          simp only [decide_eq_true (show (k : Int) ≤ (i : Int) by omega), cond_true, hlast, Option.bind_some, decide_eq_false hf, cond_false, hw]), ih (k + 1) _ (by omega) (by omega)]
        have hiff : (∃ t, k + 1 + t ≤ i ∧ orb (nxL n i) ((nxL n i a).getD (-1)) (t + 1) = some fr) ↔ ∃ t, k + t ≤ i ∧ orb (nxL n i) a (t + 1) = some fr := by
          cases h : nxL n i a with
          | none =>
            refine ⟨fun ⟨t, _, ht⟩ => ?_, fun ⟨t, _, ht⟩ => ?_⟩
            · simp [orb, hneg] at ht
            · simp [orb, h] at ht
          | some b =>
            refine ⟨fun ⟨t, h1, ht⟩ => ⟨t + 1, by omega, ?_⟩, fun ⟨t, h1, ht⟩ => ?_⟩
            · show (nxL n i a).bind (fun b => orb (nxL n i) b (t + 1)) = _
              rw [h]; exact ht
            · have ht' : (nxL n i a).bind (fun b => orb (nxL n i) b t) = some fr := ht
              rw [h] at ht'
              cases t with
              | zero => rw [h] at hf; exact absurd (Option.some.inj ht') hf
              | succ t => exact ⟨t, by omega, ht'⟩
        by_cases h : ∃ t, k + 1 + t ≤ i ∧ orb (nxL n i) ((nxL n i a).getD (-1)) (t + 1) = some fr
        · rw [if_pos h, if_pos (hiff.1 h)]
        · rw [if_neg h, if_neg fun e => h (hiff.2 e)]
  refine (congrArg (Option.bind · _) (key _ 0 to rfl (by omega))).trans ?_
  have hiff : (∃ t, 0 + t ≤ i ∧ orb (nxL n i) to (t + 1) = some fr) ↔ ∃ k, orb (nxL n i) to (k + 1) = some fr := by
    refine ⟨fun ⟨t, _, h⟩ => ⟨t, h⟩, fun ⟨t, h⟩ => ⟨t, ?_, h⟩⟩
    have := path_short (ends_links hj to) h
    omega
  by_cases h : ∃ k, orb (nxL n i) to (k + 1) = some fr
  · rw [if_pos (hiff.2 h), decide_eq_true h]; rfl
  · rw [if_neg (fun e => h (hiff.1 e)), decide_eq_false h]; rfl
end Q
namespace Q
open Tr Go
theorem dup_if {τ : Type} {step : Int → Option (Int ⊕ τ)} {i : Nat} {p : Nat → Prop} {R E : τ} (hno : ∀ j : Nat, j < i → ¬ p j → step (j : Int) = some (.inl ((j + 1 : Nat) : Int))) (hyes : ∀ j : Nat, j < i → p j → step (j : Int) = some (.inr R))
    (hend : step (i : Int) = some (.inr E)) : run step (0 : Int) = some (@ite _ (∃ j, j < i ∧ p j) (Classical.propDecidable _) R E) := by
  classical
  obtain ⟨h1, h2⟩ := dup_run hno hyes hend
  by_cases h : ∃ j, j < i ∧ p j
  · rw [if_pos h]; exact h1 h
  · rw [if_neg h]; exact h2 h
theorem linkR_val (n : NetT) {i : Nat} (hi : i < n.2.2.2.1.length) (hl : n.2.2.2.1.length ≤ 9223372036854775806) (hr : n.2.2.1.length ≤ 9223372036854775807)
    (hC : ∀ x ∈ n.2.2.1, x.2.2.2.2.2.2.2.1.length ≤ 9223372036854775807) (hj : ∀ j, j < i → linkF n j = 0) : F66 n (i : Int) = some (linkF n i) := by
  classical
  unfold F66
  have hx : n.2.2.2.1[i] = lk n i := (getD_of hi l0).symm
  have hl' : n.2.2.2.1.length ≤ 9223372036854775807 := by omega
  simp only [idx_nat hi, Option.bind_some, hx, inR_val _ hr]
  have hF : linkF n i = linkF n i := rfl
  conv at hF => rhs; unfold linkF
  simp only at hF
  generalize hy : lk n i = x at hF ⊢
  by_cases b1 : bad1 n x = true
  · rw [if_pos b1] at hF
    rw [hF]
    unfold bad1 at b1
    revert b1
    generalize inR x.1 n.2.2.1.length = a1
    generalize inR x.2.2.1 n.2.2.1.length = a2
    generalize decide (x.1 = x.2.2.1) = a3
    cases a1 <;> cases a2 <;> cases a3 <;> intro b1 <;> first | rfl | cases b1
  rw [if_neg b1] at hF
  unfold bad1 at b1
  simp only [Bool.not_eq_true, Bool.or_eq_false_iff, Bool.not_eq_false'] at b1
  obtain ⟨p1, p2, p3⟩ := b1
  have e1 : Tr.idx n.2.2.1 x.1 = some (rn n x.1) := idx_int p1 u0
  have e2 : Tr.idx n.2.2.1 x.2.2.1 = some (rn n x.2.2.1) := idx_int p2 u0
  have c1 := hC _ (rn_mem p1)
  have c2 := hC _ (rn_mem p2)
  simp only [p1, p2, p3, Bool.not_true, cond_false, Option.bind_some, e1, e2, inR_val _ c1, inR_val _ c2]
  by_cases b2 : bad2 n x = true
  · rw [if_pos b2] at hF
    rw [hF]
    unfold bad2 at b2
    revert b2
    generalize inR x.2.1 (rn n x.1).2.2.2.2.2.2.2.1.length = a1
    generalize inR x.2.2.2.1 (rn n x.2.2.1).2.2.2.2.2.2.2.1.length = a2
    cases a1 <;> cases a2 <;> intro b2 <;> first | rfl | cases b2
  rw [if_neg b2] at hF
  unfold bad2 at b2
  simp only [Bool.not_eq_true, Bool.or_eq_false_iff, Bool.not_eq_false'] at b2
  obtain ⟨q1, q2⟩ := b2
  have e3 : Tr.idx (rn n x.1).2.2.2.2.2.2.2.1 x.2.1 = some (cl (rn n x.1).2.2.2.2.2.2.2.1 x.2.1) := idx_int q1 c0
  have e4 : Tr.idx (rn n x.2.2.1).2.2.2.2.2.2.2.1 x.2.2.2.1 = some (cl (rn n x.2.2.1).2.2.2.2.2.2.2.1 x.2.2.2.1) := idx_int q2 c0
  simp only [q1, q2, Bool.not_true, cond_false, Option.bind_some, e3, e4]
  by_cases b3 : (cl (rn n x.1).2.2.2.2.2.2.2.1 x.2.1).1 = (cl (rn n x.2.2.1).2.2.2.2.2.2.2.1 x.2.2.2.1).1
  case neg =>
    rw [if_pos b3] at hF
    rw [hF]
    simp only [decide_eq_false b3, Bool.not_false, cond_true]
  rw [if_neg (fun h => h b3)] at hF
  simp only [decide_eq_true b3, Bool.not_true, cond_false]
  have hw : IntKind.wrap .i64 (((rn n x.1).2.2.2.2.2.2.2.1.length : Int) - 1) = ((rn n x.1).2.2.2.2.2.2.2.1.length : Int) - 1 := wrap_i64 (by omega) (by omega)
  have hdup := dup_if (i := i) (p := fun j => linkK (lk n j) = linkK x) (τ := Unit ⊕ Int) (R := .inr 6) (E := .inl ()) (step := fun s19 : Int =>
                                        bif Decidable.decide (s19 < (i : Int)) then
                                            Option.bind (Tr.idx n.snd.snd.snd.fst s19) fun x20 =>
                                              Option.bind
                                                (bif Decidable.decide (x20.fst = x.fst) then
                                                  bif Decidable.decide (x20.snd.fst = x.snd.fst) then
                                                    bif Decidable.decide (x20.snd.snd.fst = x.snd.snd.fst) then Option.some (Decidable.decide (x20.snd.snd.snd.fst = x.snd.snd.snd.fst))
                                                    else Option.some Bool.false
                                                  else Option.some Bool.false
                                                else Option.some Bool.false)
                                                fun x21 => bif x21 then Option.some (Sum.inr (Sum.inr (6 : Int))) else Option.some (Sum.inl (Go.IntKind.wrap Go.IntKind.i64 (s19 + (1 : Int))))
                                          else Option.some (Sum.inr (Sum.inl ()))) (fun j hj' hp => by
      have hjl : j < n.2.2.2.1.length := by omega
      have hxj : n.2.2.2.1[j] = lk n j := (getD_of hjl l0).symm
      simp only [lt_dec hj', cond_true, idx_nat hjl, Option.bind_some, hxj, wrap_succ hj' (show i ≤ 9223372036854775807 by omega)]
      by_cases d1 : (lk n j).1 = x.1
      · rw [decide_eq_true d1]
        by_cases d2 : (lk n j).2.1 = x.2.1
        · rw [decide_eq_true d2]
          by_cases d3 : (lk n j).2.2.1 = x.2.2.1
          · rw [decide_eq_true d3]
            have d4 : ¬ (lk n j).2.2.2.1 = x.2.2.2.1 := fun d4 => hp (by unfold linkK; rw [d1, d2, d3, d4])
            rw [decide_eq_false d4]; rfl
          · rw [decide_eq_false d3]; rfl
        · rw [decide_eq_false d2]; rfl
      · rw [decide_eq_false d1]; rfl) (fun j hj' hp => by
      have hjl : j < n.2.2.2.1.length := by omega
      have hxj : n.2.2.2.1[j] = lk n j := (getD_of hjl l0).symm
      unfold linkK at hp
      simp only [List.cons.injEq, and_true] at hp
      simp only [lt_dec hj', cond_true, idx_nat hjl, Option.bind_some, hxj, decide_eq_true hp.1, decide_eq_true hp.2.1, decide_eq_true hp.2.2.1, decide_eq_true hp.2.2.2]) (by simp only [nlt_dec, cond_false])
  by_cases hs : x.2.2.2.2.1 = true
  · simp only [hs, true_and, cond_true, hw] at hF hdup ⊢
    by_cases b4 : x.2.1 + 1 = ((rn n x.1).2.2.2.2.2.2.2.1.length : Int)
    case neg =>
      rw [if_pos b4] at hF
      rw [hF]
      simp only [decide_eq_false (show ¬ x.2.1 = ((rn n x.1).2.2.2.2.2.2.2.1.length : Int) - 1 by omega), Bool.not_false, cond_true, Option.bind_some]
    rw [if_neg (fun h => h b4)] at hF
    simp only [decide_eq_true (show x.2.1 = ((rn n x.1).2.2.2.2.2.2.2.1.length : Int) - 1 by omega), Bool.not_true, cond_false, Option.bind_some]
    by_cases b5 : x.2.2.2.1 = 0
    case neg =>
      rw [if_pos b5] at hF
      rw [hF]
      simp only [decide_eq_false b5, Bool.not_false, cond_true]
    rw [if_neg (fun h => h b5)] at hF
    have hfr : 0 ≤ x.1 := by
      unfold inR at p1
      simp only [Bool.and_eq_true, decide_eq_true_eq] at p1
      exact p1.1
    have hclash := dup_if (i := i) (p := fun j => (lk n j).2.2.2.2.1 = true ∧ ((lk n j).1 = x.1 ∨ (lk n j).2.2.1 = x.2.2.1)) (τ := Unit ⊕ Int) (R := .inr 19) (E := .inl ()) (step := fun s12 : Int =>
                                bif Decidable.decide (s12 < (i : Int)) then
                                  Option.bind (Tr.idx n.snd.snd.snd.fst s12) fun x13 =>
                                    Option.bind
                                      (
                                        bif x13.snd.snd.snd.snd.fst then
                                          bif Decidable.decide (x13.fst = x.fst) then Option.some Bool.true else Option.some (Decidable.decide (x13.snd.snd.fst = x.snd.snd.fst))
                                        else Option.some Bool.false)
                                      fun x14 => bif x14 then Option.some (Sum.inr (Sum.inr (19 : Int))) else Option.some (Sum.inl (Go.IntKind.wrap Go.IntKind.i64 (s12 + (1 : Int))))
                                else Option.some (Sum.inr (Sum.inl ()))) (fun j hj' hp => by
      have hjl : j < n.2.2.2.1.length := by omega
      have hxj : n.2.2.2.1[j] = lk n j := (getD_of hjl l0).symm
      simp only [lt_dec hj', cond_true, idx_nat hjl, Option.bind_some, hxj, wrap_succ hj' (show i ≤ 9223372036854775807 by omega)]
      cases hsj : (lk n j).2.2.2.2.1 with
      | false => rfl
      | true =>
        rw [decide_eq_false (fun e => hp ⟨hsj, .inl e⟩), decide_eq_false (fun e => hp ⟨hsj, .inr e⟩)]; rfl) (fun j hj' hp => by
      have hjl : j < n.2.2.2.1.length := by omega
      have hxj : n.2.2.2.1[j] = lk n j := (getD_of hjl l0).symm
      simp only [lt_dec hj', cond_true, idx_nat hjl, Option.bind_some, hxj, hp.1]
      by_cases d1 : (lk n j).1 = x.1
      · rw [decide_eq_true d1]; rfl
      · rw [decide_eq_false d1, decide_eq_true (hp.2.resolve_left d1)]; rfl) (by simp only [nlt_dec, cond_false])
    simp only [decide_eq_true b5, Bool.not_true, cond_false]
    refine (congrArg (Option.bind · _) hclash).trans ?_
    simp only [Option.bind_some]
    by_cases b6 : ∃ j, j < i ∧ (lk n j).2.2.2.2.1 = true ∧ ((lk n j).1 = x.1 ∨ (lk n j).2.2.1 = x.2.2.1)
    · rw [if_pos b6] at hF
      rw [hF, if_pos b6]
      rfl
    rw [if_neg b6] at hF
    rw [if_neg b6]
    simp only [Sum.elim_inl, leadsR_val n (Nat.le_of_lt hi) hl hj x.2.2.1 x.1 hfr, Option.bind_some]
    by_cases b7 : ∃ k, orb (nxL n i) x.2.2.1 (k + 1) = some x.1
    · rw [if_pos b7] at hF
      rw [hF, decide_eq_true b7]
      rfl
    rw [if_neg b7] at hF
    rw [decide_eq_false b7]
    simp only [cond_false]
    refine (congrArg (Option.bind · _) hdup).trans ?_
    rw [hF]
    by_cases b8 : ∃ j, j < i ∧ linkK (lk n j) = linkK x
    · rw [if_pos b8, if_pos b8]; rfl
    · rw [if_neg b8, if_neg b8]; rfl
  · have hs' : x.2.2.2.2.1 = false := by simpa using hs
    have hrun := dup_if (i := i) (p := fun _ => False) (τ := Unit ⊕ Int) (R := .inr 19) (E := .inl ()) (step := fun s12 : Int =>
                                bif Decidable.decide (s12 < (i : Int)) then
                                  Option.bind (Tr.idx n.snd.snd.snd.fst s12) fun _ =>
                                    Option.bind
                                      (Option.some Bool.false)
                                      fun x14 => bif x14 then Option.some (Sum.inr (Sum.inr (19 : Int))) else Option.some (Sum.inl (Go.IntKind.wrap Go.IntKind.i64 (s12 + (1 : Int))))
                                else Option.some (Sum.inr (Sum.inl ()))) (fun j hj' _ => by
      have hjl : j < n.2.2.2.1.length := by omega
      simp only [lt_dec hj', cond_true, idx_nat hjl, Option.bind_some, cond_false, wrap_succ hj' (show i ≤ 9223372036854775807 by omega)]) (fun j _ h => h.elim) (by simp only [nlt_dec, cond_false])
    rw [if_neg (by simp)] at hrun
    simp only [hs', Bool.false_eq_true, false_and, if_false, cond_false, Option.bind_some] at hF hrun hdup ⊢
    refine (congrArg (Option.bind · _) hrun).trans ?_
    simp only [Option.bind_some, Sum.elim_inl]
    refine (congrArg (Option.bind · _) hdup).trans ?_
    rw [hF]
    by_cases b8 : ∃ j, j < i ∧ linkK (lk n j) = linkK x
    · rw [if_pos b8, if_pos b8]; rfl
    · rw [if_neg b8, if_neg b8]; rfl
end Q
namespace Q
open Tr Go
abbrev FauT := Int × Int × Int × Unit
def okOr (a b : FauT) : FauT := if a.2.2.1 = 0 then b else a
theorem first_val (a b : El Y163) : F44 [a, b] = some (okOr a (okOr b (0, 0, 0, ()))) := by
  revert a b
  show ∀ a b : FauT, F44 [a, b] = some (okOr a (okOr b (0, 0, 0, ())))
  intro a b
  unfold F44 okOr
  by_cases ha : a.2.2.1 = 0
  · rw [if_pos ha]
    by_cases hb : b.2.2.1 = 0
    · rw [if_pos hb, run_inl (s' := ((0, 0, 0, ()), (1 : Int))) (by simp [Tr.idx, ha, IntKind.wrap, IntKind.signed, IntKind.bits]), run_inl (s' := ((0, 0, 0, ()), (2 : Int))) (by simp [Tr.idx, hb, IntKind.wrap, IntKind.signed, IntKind.bits]), run_inr (r := .inl (0, 0, 0, ())) (by simp)]
      rfl
    · rw [if_neg hb, run_inl (s' := ((0, 0, 0, ()), (1 : Int))) (by simp [Tr.idx, ha, IntKind.wrap, IntKind.signed, IntKind.bits]), run_inr (r := .inr b) (by simp [Tr.idx, hb])]
      rfl
  · rw [if_neg ha, run_inr (r := .inr a) (by simp [Tr.idx, ha])]
    rfl
structure Fit (n : NetT) : Prop where
  stops : ∀ x ∈ n.1, x.1.length ≤ 9223372036854775807
  routes : ∀ x ∈ n.2.1, x.1.length ≤ 9223372036854775807
  runs : ∀ x ∈ n.2.2.1, x.2.2.2.1.length ≤ 9223372036854775807
  calls : ∀ x ∈ n.2.2.1, x.2.2.2.2.2.2.2.1.length ≤ 9223372036854775807
  paths : n.2.2.2.2.1.length ≤ 4096
  prods : ∀ x ∈ n.2.2.2.2.2.1.1, x.1.length ≤ 9223372036854775807
def TimeP (l : List CallT) : Prop := ∀ i (hi : i < l.length), 0 ≤ l[i].2.1 ∧ l[i].2.1 ≤ l[i].2.2.1 ∧ l[i].2.2.1 ≤ 3155932800 ∧ (0 < i → (l[i - 1]'(by omega)).1 ≠ l[i].1 ∧ (l[i - 1]'(by omega)).2.2.1 ≤ l[i].2.1)
structure Sound (n : NetT) : Prop where
  stops : n.1.length ≤ 64
  runs : n.2.2.1.length ≤ 1024
  links : n.2.2.2.1.length ≤ 1024
  zone : ∀ x ∈ n.1, 0 ≤ x.2.1 ∧ x.2.1 < 16
  mode : ∀ x ∈ n.2.1, 0 ≤ x.2.1 ∧ x.2.1 ≤ 7
  route : ∀ x ∈ n.2.2.1, 0 ≤ x.2.2.2.2.1 ∧ x.2.2.2.2.1 < (n.2.1.length : Int)
  many : ∀ x ∈ n.2.2.1, 2 ≤ x.2.2.2.2.2.2.2.1.length ∧ x.2.2.2.2.2.2.2.1.length ≤ 32
  call : ∀ x ∈ n.2.2.1, ∀ c ∈ x.2.2.2.2.2.2.2.1, 0 ≤ c.1 ∧ c.1 < (n.1.length : Int)
  time : ∀ x ∈ n.2.2.1, TimeP x.2.2.2.2.2.2.2.1
  base : ∀ x ∈ n.2.2.1, -1 ≤ x.1 ∧ 0 ≤ x.2.2.1 ∧ 0 ≤ x.2.1 ∧ x.2.1 ≤ 36524
  fare : (fareR n.2.2.2.2.2.1).2 = 0
theorem pick_zero {n : Nat} {chk : Nat → Int} {E : Int × Int} (h : (pick n chk (fun i => ((i : Int), chk i)) E).2 = 0) : ∀ j, j < n → chk j = 0 := by
  unfold pick at h
  cases hf : firstBad n chk with
  | none => exact firstBad_iff.1 hf
  | some i => rw [hf] at h; exact absurd h (firstBad_spec hf).2
theorem call_time {l : List CallT} {n : Int} (h : callE l n 0 3155932800 = 0) : TimeP l := by
  unfold callE at h
  split at h
  · omega
  · intro i hi
    have hz : oneF l n 0 3155932800 i = 0 := by
      unfold pick at h
      cases hf : firstBad l.length (oneF l n 0 3155932800) with
      | none => exact firstBad_iff.1 hf i hi
      | some i => rw [hf] at h; exact absurd h (firstBad_spec hf).2
    unfold oneF at hz
    split at hz
    · omega
    split at hz
    · omega
    next h2 =>
      split at hz
      · omega
      next h3 =>
        unfold callB2 at h2
        unfold callB3 at h3
        rw [getD_of hi] at h2 h3
        simp only [Bool.or_eq_true, Bool.and_eq_true, decide_eq_true_eq, not_or, not_and] at h2 h3
        refine ⟨by omega, by omega, by omega, fun h0 => ?_⟩
        have hi' : i - 1 < l.length := by omega
        have a := h2 h0
        have b := h3.2.2.2 h0
        rw [getD_of hi'] at a b
        exact ⟨a, by omega⟩
theorem call_zero {l : List CallT} {n lo hi : Int} (h : callE l n lo hi = 0) : (2 ≤ l.length ∧ l.length ≤ 32) ∧ ∀ c ∈ l, 0 ≤ c.1 ∧ c.1 < n := by
  unfold callE at h
  split at h
  · omega
  · refine ⟨by omega, fun c hc => ?_⟩
    obtain ⟨j, hj, rfl⟩ := List.getElem_of_mem hc
    have hz : oneF l n lo hi j = 0 := by
      unfold pick at h
      cases hf : firstBad l.length (oneF l n lo hi) with
      | none => exact firstBad_iff.1 hf j hj
      | some i => rw [hf] at h; exact absurd h (firstBad_spec hf).2
    unfold oneF at hz
    split at hz
    · omega
    · next hb =>
      unfold callB1 at hb
      rw [getD_of hj] at hb
      simp only [Bool.or_eq_true, decide_eq_true_eq] at hb
      omega
theorem sound_of {n : NetT} (s : (stopR n.1).2 = 0) (t : (routeR n.2.1).2 = 0) (u : n.2.2.1.length ≤ 1024) (hf : firstBad n.2.2.1.length (runF n) = none) (v : n.2.2.2.1.length ≤ 1024) (z : (fareR n.2.2.2.2.2.1).2 = 0) : Sound n := by
  unfold stopR at s
  unfold routeR at t
  split at s
  · exact absurd s (by decide)
  split at t
  · exact absurd t (by decide)
  have hs := pick_zero s
  have ht := pick_zero t
  have hr := firstBad_iff.1 hf
  have key : ∀ x ∈ n.2.2.1, ((0 ≤ x.2.2.2.2.1 ∧ x.2.2.2.2.1 < (n.2.1.length : Int)) ∧ -1 ≤ x.1 ∧ 0 ≤ x.2.2.1 ∧ 0 ≤ x.2.1 ∧ x.2.1 ≤ 36524) ∧ callE x.2.2.2.2.2.2.2.1 (n.1.length : Int) 0 3155932800 = 0 := by
    intro x hx
    obtain ⟨j, hj, rfl⟩ := List.getElem_of_mem hx
    have h := hr j hj
    unfold runF at h
    simp only [getD_of hj] at h
    split at h
    · omega
    split at h
    · omega
    next h2 =>
    split at h
    · omega
    next h3 =>
    split at h
    · omega
    next h4 =>
      split at h
      · next h5 => exact absurd h h5
      · next h5 =>
        simp only [Bool.or_eq_true, decide_eq_true_eq] at h2 h3 h4
        exact ⟨by omega, by simpa using h5⟩
  refine ⟨by omega, u, v, fun x hx => ?_, fun x hx => ?_, fun x hx => (key x hx).1.1, fun x hx => (call_zero (key x hx).2).1, fun x hx => (call_zero (key x hx).2).2, fun x hx => call_time (key x hx).2, fun x hx => (key x hx).1.2, z⟩
  · obtain ⟨j, hj, rfl⟩ := List.getElem_of_mem hx
    have h := hs j hj
    unfold stopF fault at h
    simp only [getD_of hj] at h
    split at h
    · omega
    split at h
    · omega
    split at h
    · omega
    next h3 => omega
  · obtain ⟨j, hj, rfl⟩ := List.getElem_of_mem hx
    have h := ht j hj
    unfold routeF fault at h
    simp only [getD_of hj] at h
    split at h
    · omega
    split at h
    · omega
    split at h
    · omega
    next h3 => omega
structure Whole (n : NetT) : Prop where
  s : (stopR n.1).2 = 0
  t : (routeR n.2.1).2 = 0
  u : n.2.2.1.length ≤ 1024
  f : firstBad n.2.2.1.length (runF n) = none
  v : n.2.2.2.1.length ≤ 1024
  g : firstBad n.2.2.2.1.length (linkF n) = none
  q : firstBad n.2.2.2.2.1.length (pathF n.1.length n.2.2.2.2.1) = none
  w : ∀ c, F59 n.2.2.2.2.1 (n.1.length : Int) = some c → closedB c n.2.2.2.2.1 = true
  z : (fareR n.2.2.2.2.2.1).2 = 0
theorem Whole.sound {n : NetT} (h : Whole n) : Sound n := sound_of h.s h.t h.u h.f h.v h.z
theorem valid_len {s : List UInt8} (h : ¬ validB s = false) : s.length ≤ 32 := by
  have : validB s = true := by simpa using h
  unfold validB at this
  simp only [Bool.and_eq_true, decide_eq_true_eq] at this
  exact this.1.2
theorem Whole.names {n : NetT} (h : Whole n) : (∀ x ∈ n.1, x.1.length ≤ 32) ∧ (∀ x ∈ n.2.1, x.1.length ≤ 32) ∧ ∀ x ∈ n.2.2.1, x.2.2.2.1.length ≤ 32 := by
  have s := h.s
  have t := h.t
  unfold stopR at s
  unfold routeR at t
  split at s
  · exact absurd s (by decide)
  split at t
  · exact absurd t (by decide)
  have hs := pick_zero s
  have ht := pick_zero t
  have hr := firstBad_iff.1 h.f
  refine ⟨fun x hx => ?_, fun x hx => ?_, fun x hx => ?_⟩
  · obtain ⟨j, hj, rfl⟩ := List.getElem_of_mem hx
    have h := hs j hj
    unfold stopF at h
    simp only [getD_of hj] at h
    exact valid_len (fault_zero.1 h).1
  · obtain ⟨j, hj, rfl⟩ := List.getElem_of_mem hx
    have h := ht j hj
    unfold routeF at h
    simp only [getD_of hj] at h
    exact valid_len (fault_zero.1 h).1
  · obtain ⟨j, hj, rfl⟩ := List.getElem_of_mem hx
    have h := hr j hj
    unfold runF at h
    simp only [getD_of hj] at h
    split at h
    · omega
    next h1 => exact valid_len h1
theorem check_iff (n : NetT) (h : Fit n) : ∃ r : Int × Int × Int, F39 n = some r ∧ F58 n = some r ∧ (r.2.2 = 0 ↔ Whole n) := by
  unfold F39 F58
  rw [stop_val n.1 h.stops, route_val n.2.1 h.routes, stopsR_val n.1, routesR_val n.2.1, runs_val n h.runs, links_val n h.calls, fare_val _ h.prods, faresR_val]
  simp only [Option.bind_some, F53]
  erw [first_val]
  simp only [Option.bind_some]
  by_cases s : (stopR n.1).2 = 0
  case neg =>
    refine ⟨(0, (stopR n.1).1, (stopR n.1).2), ?_, ?_, ⟨fun e => absurd e s, fun W => absurd W.s s⟩⟩
    · simp only [okOr, if_neg s, decide_eq_false s, cond_false, Option.bind_some]
    · simp only [decide_eq_false s, Bool.not_false, cond_true]
  have hs : n.1.length ≤ 64 := by
    unfold stopR at s
    split at s
    · exact absurd s (by decide)
    · omega
  obtain ⟨c, hcc, hp1, hp2⟩ := paths_val n hs h.paths
  rw [hp1, hp2]
  clear hp1 hp2
  simp only [Option.bind_some]
  erw [first_val]
  simp only [okOr, if_pos s, decide_eq_true s, Bool.not_true, cond_false, Option.bind_some]
  by_cases t : (routeR n.2.1).2 = 0
  case neg =>
    refine ⟨(1, (routeR n.2.1).1, (routeR n.2.1).2), ?_, ?_, ⟨fun e => absurd e t, fun W => absurd W.t t⟩⟩
    · simp only [if_neg t, decide_eq_false t, cond_false, Option.bind_some]
    · simp only [decide_eq_false t, Bool.not_false, cond_true]
  simp only [if_pos t, decide_eq_true t, Bool.not_true, cond_false]
  by_cases u : 1024 < n.2.2.1.length
  · refine ⟨(2, 0, 5), ?_, ?_, ⟨fun e => absurd e (show ¬ (5 : Int) = 0 by decide), fun W => absurd W.u (by omega)⟩⟩
    · simp [runsR, u]
    · rw [decide_eq_true (show (1024 : Int) < (n.2.2.1.length : Int) by omega)]; rfl
  rw [decide_eq_false (show ¬ (1024 : Int) < (n.2.2.1.length : Int) by omega)]
  simp only [cond_false]
  rw [scan_run (n := n.2.2.1.length) (fun i (st : Int) => st = (i : Int)) (runF n) (fun i => .inr ((2 : Int), (i : Int), runF n i)) (.inl ()) ?_ ?_ ?_ (0 : Int) rfl]
  rotate_left
  · rintro i _ hi rfl hc
    refine ⟨((i + 1 : Nat) : Int), ?_, rfl⟩
    simp only [lt_dec hi, cond_true, runR_val n hi (by omega), Option.bind_some, hc, decide_true, Bool.not_true, cond_false, wrap_succ hi (show n.2.2.1.length ≤ 9223372036854775807 by omega)]
  · rintro i _ hi rfl hc
    simp only [lt_dec hi, cond_true, runR_val n hi (by omega), Option.bind_some, decide_eq_false hc, Bool.not_false]
  · rintro _ rfl
    simp only [nlt_dec, cond_false]
  unfold runsR
  rw [if_neg u]
  unfold pick
  cases hf : firstBad n.2.2.1.length (runF n) with
  | some i =>
    have hb := (firstBad_spec hf).2
    refine ⟨(2, (i : Int), runF n i), ?_, ?_, ⟨fun e => absurd e hb, fun W => by rw [W.f] at hf; cases hf⟩⟩
    · simp only [decide_true, cond_true, Option.bind_some, decide_eq_false hb, cond_false]
    · simp only [Option.bind_some, Sum.elim_inr]
  | none =>
  simp only [Option.bind_some, Sum.elim_inl, decide_true, cond_true]
  by_cases v : 1024 < n.2.2.2.1.length
  · refine ⟨(3, 0, 5), ?_, ?_, ⟨fun e => absurd e (show ¬ (5 : Int) = 0 by decide), fun W => absurd W.v (by omega)⟩⟩
    · simp [linksR, v]
    · rw [decide_eq_true (show (1024 : Int) < (n.2.2.2.1.length : Int) by omega)]; rfl
  rw [decide_eq_false (show ¬ (1024 : Int) < (n.2.2.2.1.length : Int) by omega)]
  simp only [cond_false]
  rw [scan_run2 (n := n.2.2.2.1.length) (fun i (st : Int) => st = (i : Int)) (linkF n) (fun i => .inr ((3 : Int), (i : Int), linkF n i)) (.inl ()) ?_ ?_ (0 : Int) rfl]
  rotate_left
  · rintro i _ hi hj rfl
    have hv := linkR_val n hi (by omega) (by omega) h.calls hj
    by_cases hc : linkF n i = 0
    · refine .inl ⟨hc, ((i + 1 : Nat) : Int), ?_, rfl⟩
      simp only [lt_dec hi, cond_true, hv, Option.bind_some, hc, decide_true, Bool.not_true, cond_false, wrap_succ hi (show n.2.2.2.1.length ≤ 9223372036854775807 by omega)]
    · refine .inr ⟨hc, ?_⟩
      simp only [lt_dec hi, cond_true, hv, Option.bind_some, decide_eq_false hc, Bool.not_false]
  · rintro _ rfl
    simp only [nlt_dec, cond_false]
  unfold linksR
  rw [if_neg v]
  unfold pick
  cases hg : firstBad n.2.2.2.1.length (linkF n) with
  | some i =>
    have hb := (firstBad_spec hg).2
    refine ⟨(3, (i : Int), linkF n i), ?_, ?_, ⟨fun e => absurd e hb, fun W => by rw [W.g] at hg; cases hg⟩⟩
    · simp only [decide_eq_false hb, cond_false, Option.bind_some]
    · simp only [Option.bind_some, Sum.elim_inr]
  | none =>
  simp only [Option.bind_some, Sum.elim_inl, decide_true, cond_true]
  cases hq : firstBad n.2.2.2.2.1.length (pathF n.1.length n.2.2.2.2.1) with
  | some i =>
    have hb := (firstBad_spec hq).2
    refine ⟨(4, (i : Int), pathF n.1.length n.2.2.2.2.1 i), ?_, ?_, ⟨fun e => absurd e hb, fun W => by rw [W.q] at hq; cases hq⟩⟩
    · simp only [if_neg hb]
    · simp only [decide_eq_false hb, Bool.not_false, cond_true]
  | none =>
  by_cases w : closedB c n.2.2.2.2.1 = true
  case neg =>
    refine ⟨(4, 0, 18), ?_, ?_, ⟨fun e => absurd e (show ¬ (18 : Int) = 0 by decide), fun W => absurd (W.w c (hcc (firstBad_iff.1 hq))) w⟩⟩
    · simp only [if_neg w]; rfl
    · simp only [if_neg w]; rfl
  simp only [if_pos w, if_true, decide_true, Bool.not_true, cond_false]
  by_cases z : (fareR n.2.2.2.2.2.1).2 = 0
  · refine ⟨(0, 0, 0), ?_, ?_, ⟨fun _ => ⟨s, t, by omega, hf, by omega, hg, hq, fun c2 h2 => by rw [hcc (firstBad_iff.1 hq)] at h2; cases h2; exact w, z⟩, fun _ => rfl⟩⟩
    · simp only [if_pos z]
    · simp only [decide_eq_true z, Bool.not_true, cond_false]
  · refine ⟨(5, (fareR n.2.2.2.2.2.1).1, (fareR n.2.2.2.2.2.1).2), ?_, ?_, ⟨fun e => absurd e z, fun W => absurd W.z z⟩⟩
    · simp only [if_neg z]
    · simp only [decide_eq_false z, Bool.not_false, cond_true]
theorem check_same (n : NetT) (h : Fit n) : ∃ r : Int × Int × Int, F39 n = some r ∧ F58 n = some r ∧ (r.2.2 = 0 → Sound n) := by
  obtain ⟨r, h1, h2, h3⟩ := check_iff n h
  exact ⟨r, h1, h2, fun h => (h3.1 h).sound⟩
end Q
