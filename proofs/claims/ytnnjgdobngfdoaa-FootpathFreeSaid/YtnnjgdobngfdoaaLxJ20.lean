/- Chapter 20 in plain Lean. -/
import Derived.Test.YtnnjgdobngfdoaaTsH
import Derived.Test.YtnnjgdobngfdoaaLwJa20
import Derived.Test.YtnnjgdobngfdoaaTsF

/-! Loops in plain Lean: with an invariant by rounds, and halving. Conditions: those of the theorems. -/
namespace Q
open Tr Go

theorem run_for {σ τ : Type} {step : σ → Option (σ ⊕ τ)} (n : Nat) (P : τ → Prop) (Inv : Nat → σ → Prop)
    (hstep : ∀ i s, i < n → Inv i s → (∃ s', step s = some (.inl s') ∧ Inv (i + 1) s') ∨ ∃ r, step s = some (.inr r) ∧ P r)
    (hend : ∀ s, Inv n s → ∃ r, step s = some (.inr r) ∧ P r) (s : σ) (h0 : Inv 0 s) : ∃ r, run step s = some r ∧ P r := by
  have key : ∀ (k i : Nat) (s : σ), n - i = k → i ≤ n → Inv i s → ∃ r, run step s = some r ∧ P r := by
    intro k
    induction k with
    | zero =>
      intro i s hk hi hs
      have : i = n := by omega
      subst this
      obtain ⟨r, h1, h2⟩ := hend s hs
      exact ⟨r, run_inr h1, h2⟩
    | succ k ih =>
      intro i s hk hi hs
      rcases hstep i s (by omega) hs with ⟨s', h1, h2⟩ | ⟨r, h1, h2⟩
      · rw [run_inl h1]
        exact ih (i + 1) s' (by omega) (by omega) h2
      · exact ⟨r, run_inr h1, h2⟩
  exact key n 0 s (by omega) (by omega) h0

theorem bind_of {α β : Type} {o : Option α} {f : α → Option β} {z : Option β} (P : α → Prop) (h : ∃ r, o = some r ∧ P r) (k : ∀ r, P r → f r = z) : Option.bind o f = z := by
  obtain ⟨r, rfl, hr⟩ := h
  exact k r hr

/-- The same for one round of an outer loop. -/
theorem bind_ex {α β γ : Type} {o : Option α} {f : α → Option (β ⊕ γ)} {Q : β → Prop} (P : α → Prop) (h : ∃ r, o = some r ∧ P r) (k : ∀ r, P r → ∃ s, f r = some (.inl s) ∧ Q s) : ∃ s, Option.bind o f = some (.inl s) ∧ Q s := by
  obtain ⟨r, rfl, hr⟩ := h
  exact k r hr

/-- Halving: the number of places for which the condition holds. -/
theorem run_half {step : Int × Int → Option ((Int × Int) ⊕ Int)} {n k : Nat} (hk : k ≤ n)
    (hstep : ∀ lo hi : Nat, lo < hi → hi ≤ n → step ((lo : Int), (hi : Int)) = some (.inl (if lo + (hi - lo) / 2 < k then (((lo + (hi - lo) / 2 + 1 : Nat) : Int), (hi : Int)) else ((lo : Int), ((lo + (hi - lo) / 2 : Nat) : Int)))))
    (hend : ∀ lo : Nat, step ((lo : Int), (lo : Int)) = some (.inr (lo : Int))) : run step ((0 : Int), (n : Int)) = some (k : Int) := by
  have key : ∀ (m lo hi : Nat), hi - lo = m → lo ≤ k → k ≤ hi → hi ≤ n → run step ((lo : Int), (hi : Int)) = some (k : Int) := by
    intro m
    induction m using Nat.strongRecOn with
    | _ m ih =>
      intro lo hi hm h1 h2 h3
      by_cases hlt : lo < hi
      · rw [run_inl (hstep lo hi hlt h3)]
        split
        · exact ih (hi - (lo + (hi - lo) / 2 + 1)) (by omega) _ _ rfl (by omega) h2 h3
        · exact ih ((lo + (hi - lo) / 2) - lo) (by omega) _ _ rfl h1 (by omega) (by omega)
      · have : lo = hi := by omega
        subst this
        have : lo = k := by omega
        subst this
        exact run_inr (hend lo)
  exact key (n - 0) 0 n rfl (Nat.zero_le _) hk (Nat.le_refl _)

/-- The middle, as the machine reckons it. -/
theorem mid_val {lo hi : Nat} (h : lo ≤ hi) (hn : hi ≤ 4611686018427387904) :
    IntKind.wrap .i64 ((lo : Int) + IntKind.wrap .i64 (Int.tdiv (IntKind.wrap .i64 ((hi : Int) - (lo : Int))) 2)) = ((lo + (hi - lo) / 2 : Nat) : Int) := by
  have e1 : IntKind.wrap .i64 ((hi : Int) - (lo : Int)) = ((hi - lo : Nat) : Int) := by rw [wrap_i64 (by omega) (by omega)]; omega
  have e2 : Int.tdiv ((hi - lo : Nat) : Int) 2 = (((hi - lo) / 2 : Nat) : Int) := by
    rw [Int.tdiv_eq_ediv_of_nonneg (by omega)]; omega
  rw [e1, e2, wrap_i64 (x := (((hi - lo) / 2 : Nat) : Int)) (by omega) (by omega), wrap_i64 (by omega) (by omega)]
  omega
end Q

/-! Plain laws of scans: two loops that look along a list for the first fault find the same. Conditions: none beyond those of the theorems. -/
namespace Q
open Tr Go

/-- The first index with a fault. -/
def firstBad (n : Nat) (chk : Nat → Int) : Option Nat := (List.range n).find? fun i => decide (chk i ≠ 0)

theorem firstBad_some {n i : Nat} {chk : Nat → Int} (hi : i < n) (h : ∀ j, j < i → chk j = 0) (hb : chk i ≠ 0) : firstBad n chk = some i := by
  unfold firstBad
  rw [List.find?_eq_some_iff_getElem]
  refine ⟨by simpa using hb, i, by simpa using hi, by simp, fun j hj => ?_⟩
  simp [h j hj]

theorem firstBad_none {n : Nat} {chk : Nat → Int} (h : ∀ j, j < n → chk j = 0) : firstBad n chk = none := by
  unfold firstBad
  rw [List.find?_eq_none]
  intro x hx
  simp [h x (by simpa using hx)]

theorem firstBad_iff {n : Nat} {chk : Nat → Int} : firstBad n chk = none ↔ ∀ j, j < n → chk j = 0 := by
  refine ⟨fun h j hj => ?_, firstBad_none⟩
  unfold firstBad at h
  rw [List.find?_eq_none] at h
  have := h j (by simpa using hj)
  simpa using this

theorem firstBad_spec {n i : Nat} {chk : Nat → Int} (h : firstBad n chk = some i) : i < n ∧ chk i ≠ 0 := by
  unfold firstBad at h
  have h1 := List.find?_some h
  have h2 := List.mem_of_find?_eq_some h
  exact ⟨by simpa using h2, by simpa using h1⟩

def pick {τ : Type} (n : Nat) (chk : Nat → Int) (R : Nat → τ) (E : τ) : τ := match firstBad n chk with
  | some i => R i
  | none => E

/-- A loop that looks for the first fault. -/
theorem scan_run {σ τ : Type} {step : σ → Option (σ ⊕ τ)} {n : Nat} (St : Nat → σ → Prop) (chk : Nat → Int) (R : Nat → τ) (E : τ)
    (hok : ∀ i s, i < n → St i s → chk i = 0 → ∃ s', step s = some (.inl s') ∧ St (i + 1) s')
    (hbad : ∀ i s, i < n → St i s → chk i ≠ 0 → step s = some (.inr (R i)))
    (hend : ∀ s, St n s → step s = some (.inr E)) : ∀ s, St 0 s → run step s = some (pick n chk R E) := by
  have key : ∀ (k i : Nat) (s : σ), n - i = k → i ≤ n → St i s → (∀ j, j < i → chk j = 0) → run step s = some (pick n chk R E) := by
    intro k
    induction k with
    | zero =>
      intro i s hk hi hs hj
      have : i = n := by omega
      subst this
      rw [run_inr (hend s hs)]
      unfold pick
      rw [firstBad_none hj]
    | succ k ih =>
      intro i s hk hi hs hj
      by_cases hc : chk i = 0
      · obtain ⟨s', h1, h2⟩ := hok i s (by omega) hs hc
        rw [run_inl h1]
        refine ih (i + 1) s' (by omega) (by omega) h2 fun j hji => ?_
        by_cases hje : j = i
        · subst hje; exact hc
        · exact hj j (by omega)
      · rw [run_inr (hbad i s (by omega) hs hc)]
        unfold pick
        rw [firstBad_some (by omega) hj hc]
  intro s hs
  exact key n 0 s (by omega) (Nat.zero_le _) hs fun j hj => by omega

/-- The map of what has been seen. -/
def Seen {t : Ty} (key : Nat → El t) (i : Nat) (m : List (El t × Bool)) : Prop := ∀ k, Option.getD (amGet (keyEq t) k m) false = true ↔ ∃ j, j < i ∧ key j = k

theorem Seen.nil {t : Ty} (key : Nat → El t) : Seen key 0 [] := fun k => by
  simp [amGet]

theorem Seen.add {t : Ty} (hk : t.key = true) {key : Nat → El t} {i : Nat} {m : List (El t × Bool)} (h : Seen key i m) : Seen key (i + 1) (amSet (keyEq t) (key i) true m) := by
  classical
  intro k
  rw [amGet_set hk]
  by_cases hki : k = key i
  · rw [if_pos hki]
    simp only [Option.getD_some, true_iff]
    exact ⟨i, by omega, hki.symm⟩
  · rw [if_neg hki, h k]
    constructor
    · rintro ⟨j, h1, h2⟩
      exact ⟨j, by omega, h2⟩
    · rintro ⟨j, h1, h2⟩
      by_cases hj : j = i
      · subst hj; exact absurd h2.symm hki
      · exact ⟨j, by omega, h2⟩

theorem wrap_succ {i n : Nat} (h : i < n) (hn : n ≤ 9223372036854775807) : IntKind.wrap .i64 ((i : Int) + 1) = ((i + 1 : Nat) : Int) := by
  rw [wrap_i64 (by omega) (by omega)]; omega

theorem lt_dec {i n : Nat} (h : i < n) : decide ((i : Int) < (n : Int)) = true := decide_eq_true (by omega)
theorem nlt_dec (n : Nat) : decide ((n : Int) < (n : Int)) = false := decide_eq_false (by omega)

theorem getD_of {α : Type} {l : List α} {i : Nat} (h : i < l.length) (d : α) : (l[i]?).getD d = l[i] := by rw [List.getElem?_eq_getElem h]; rfl

theorem unseen {t : Ty} {key : Nat → El t} {i : Nat} {m : List (El t × Bool)} (h : Seen key i m) {k : El t} (hn : ¬ ∃ j, j < i ∧ key j = k) : Option.getD (amGet (keyEq t) k m) false = false := by
  cases hb : Option.getD (amGet (keyEq t) k m) false with
  | false => rfl
  | true => exact absurd ((h k).1 hb) hn

end Q

/-! Chapter 20: the check of footpaths, the time and the surroundings, by the program and by the reference. Conditions: at most 4096 footpaths. -/
namespace Q
open Tr Go

def f0 : Foot := (0, 0, 0, false, ())
def keyP (p : Foot) : Int × Int × Bool × Unit := (p.1, p.2.1, p.2.2.2.1, ())
def b1 (s : Int) (p : Foot) : Bool := decide (p.1 < 0) || (decide (s ≤ p.1) || (decide (p.2.1 < 0) || (decide (s ≤ p.2.1) || decide (p.1 = p.2.1))))
def b2 (p : Foot) : Bool := decide (p.2.2.1 < 1) || decide (14400 < p.2.2.1)
open Classical in
noncomputable def pF (s : Int) (l : List Foot) (i : Nat) : Int :=
  if b1 s ((l[i]?).getD f0) = true then 9 else if b2 ((l[i]?).getD f0) = true then 2 else if ∃ j, j < i ∧ keyP ((l[j]?).getD f0) = keyP ((l[i]?).getD f0) then 6 else 0
noncomputable def ansP (s : Int) (l : List Foot) : Int × Int := pick l.length (pF s l) (fun i => ((i : Int), pF s l i)) (0, 0)

theorem b1_code (s : Int) (p : Foot) : (bif decide (p.1 < (0 : Int)) then some (decide (p.1 < (0 : Int))) else Option.bind (bif decide (s ≤ p.1) then some (decide (s ≤ p.1)) else Option.bind (bif decide (p.2.1 < (0 : Int)) then some (decide (p.2.1 < (0 : Int))) else Option.bind (bif decide (s ≤ p.2.1) then some (decide (s ≤ p.2.1)) else some (decide (p.1 = p.2.1))) fun x2 => some x2) fun x3 => some x3) fun x4 => some x4) = some (b1 s p) := by
  unfold b1
  generalize decide (p.1 < 0) = a
  generalize decide (s ≤ p.1) = b
  generalize decide (p.2.1 < 0) = c
  generalize decide (s ≤ p.2.1) = d
  generalize decide (p.1 = p.2.1) = e
  cases a <;> cases b <;> cases c <;> cases d <;> rfl
theorem b1_ref (s : Int) (p : Foot) : (bif decide (p.1 < (0 : Int)) then some true else bif decide (s ≤ p.1) then some true else bif decide (p.2.1 < (0 : Int)) then some true else bif decide (s ≤ p.2.1) then some true else some (decide (p.1 = p.2.1))) = some (b1 s p) := by
  unfold b1
  generalize decide (p.1 < 0) = a
  generalize decide (s ≤ p.1) = b
  generalize decide (p.2.1 < 0) = c
  generalize decide (s ≤ p.2.1) = d
  generalize decide (p.1 = p.2.1) = e
  cases a <;> cases b <;> cases c <;> cases d <;> rfl
theorem b2_code (p : Foot) : (bif decide (p.2.2.1 < (1 : Int)) then some (decide (p.2.2.1 < (1 : Int))) else some (decide ((14400 : Int) < p.2.2.1))) = some (b2 p) := by
  unfold b2
  generalize decide (p.2.2.1 < 1) = a
  generalize decide (14400 < p.2.2.1) = b
  cases a <;> rfl
theorem b2_ref (p : Foot) : (bif decide (p.2.2.1 < (1 : Int)) then some true else some (decide ((14400 : Int) < p.2.2.1))) = some (b2 p) := by
  unfold b2
  generalize decide (p.2.2.1 < 1) = a
  generalize decide (14400 < p.2.2.1) = b
  cases a <;> rfl

theorem pF_zero {s : Int} {l : List Foot} {i : Nat} (h : pF s l i = 0) : b1 s ((l[i]?).getD f0) = false ∧ b2 ((l[i]?).getD f0) = false ∧ ¬ ∃ j, j < i ∧ keyP ((l[j]?).getD f0) = keyP ((l[i]?).getD f0) := by
  unfold pF at h
  by_cases h1 : b1 s ((l[i]?).getD f0) = true
  · rw [if_pos h1] at h; simp at h
  · rw [if_neg h1] at h
    by_cases h2 : b2 ((l[i]?).getD f0) = true
    · rw [if_pos h2] at h; simp at h
    · rw [if_neg h2] at h
      by_cases h3 : ∃ j, j < i ∧ keyP ((l[j]?).getD f0) = keyP ((l[i]?).getD f0)
      · rw [if_pos h3] at h; simp at h
      · exact ⟨by simpa using h1, by simpa using h2, h3⟩
theorem b1_false {s : Int} {p : Foot} (h : b1 s p = false) : 0 ≤ p.1 ∧ p.1 < s ∧ 0 ≤ p.2.1 ∧ p.2.1 < s ∧ p.1 ≠ p.2.1 := by
  unfold b1 at h
  simp only [Bool.or_eq_false_iff, decide_eq_false_iff_not] at h
  obtain ⟨a, b, c, d, e⟩ := h
  exact ⟨by omega, by omega, by omega, by omega, e⟩
theorem b2_false {p : Foot} (h : b2 p = false) : 1 ≤ p.2.2.1 ∧ p.2.2.1 ≤ 14400 := by
  unfold b2 at h
  simp only [Bool.or_eq_false_iff, decide_eq_false_iff_not] at h
  omega

theorem sound_val {s : Int} {l : List Foot} (hl : l.length ≤ 4096) : F_footpath_sound l s = some (ansP s l) := by
  unfold F_footpath_sound
  rw [scan_run (n := l.length) (fun i st => ∃ m, st = (m, (i : Int)) ∧ Seen (t := Y50) (fun j => keyP ((l[j]?).getD f0)) i m) (pF s l) (fun i => .inr ((i : Int), pF s l i)) (.inl ()) ?_ ?_ ?_ ([], (0 : Int)) ⟨[], rfl, Seen.nil _⟩]
  · unfold ansP pick
    cases firstBad l.length (pF s l) <;> rfl
  · rintro i _ hi ⟨m, rfl, hS⟩ hc
    obtain ⟨h1, h2, h3⟩ := pF_zero hc
    have hu := unseen hS h3
    rw [getD_of hi] at h1 h2 hu
    refine ⟨(amSet (keyEq Y50) (keyP l[i]) true m, ((i + 1 : Nat) : Int)), ?_, _, rfl, ?_⟩
    · simp only [lt_dec hi, cond_true, idx_nat hi, Option.bind_some, b1_code, b2_code, h1, h2, cond_false, wrap_succ hi (show l.length ≤ 9223372036854775807 by omega)]
      unfold keyP at hu ⊢
      rw [show Option.getD (amGet (keyEq Y50) ((l[i]).1, (l[i]).2.1, (l[i]).2.2.2.1, ()) m) false = false from hu]
      rfl
    · have := Seen.add (t := Y50) rfl hS
      rw [getD_of hi] at this
      exact this
  · rintro i _ hi ⟨m, rfl, hS⟩ hc
    unfold pF at hc ⊢
    rw [getD_of hi] at hc ⊢
    simp only [lt_dec hi, cond_true, idx_nat hi, Option.bind_some, b1_code, b2_code]
    cases h1 : b1 s l[i] with
    | true => simp
    | false =>
      cases h2 : b2 l[i] with
      | true => simp
      | false =>
        simp only [h1, h2, Bool.false_eq_true, if_false] at hc
        have h3 : ∃ j, j < i ∧ keyP ((l[j]?).getD f0) = keyP l[i] := by
          by_cases h3 : ∃ j, j < i ∧ keyP ((l[j]?).getD f0) = keyP l[i]
          · exact h3
          · rw [if_neg h3] at hc; exact absurd rfl hc
        have h4 : Option.getD (amGet (keyEq Y50) (keyP l[i]) m) false = true := (hS _).2 h3
        simp only [cond_false, Bool.false_eq_true, if_false, if_pos h3]
        unfold keyP at h4
        rw [show Option.getD (amGet (keyEq Y50) ((l[i]).1, (l[i]).2.1, (l[i]).2.2.2.1, ()) m) false = true from h4]
        rfl
  · rintro _ ⟨m, rfl, _⟩
    simp only [nlt_dec, cond_false]

theorem dup_run {l : List Foot} {i : Nat} (hi : i < l.length) (hl : l.length ≤ 4096) : ∃ r, Tr.run
 (fun s4 : Int =>
 bif decide (s4 < (i : Int)) then
 Option.bind
 (Option.bind (idx l s4) fun x5 =>
 bif decide (x5.1 = (l[i]).1) then
 Option.bind (idx l s4) fun x6 =>
 bif decide (x6.2.1 = (l[i]).2.1) then Option.bind (idx l s4) fun x7 => some (x7.2.2.2.1 == (l[i]).2.2.2.1)
 else some false
 else some false)
 fun x8 => bif x8 then some (.inr (.inr ((i : Int), (6 : Int)))) else some (.inl (IntKind.wrap .i64 (s4 + (1 : Int))))
 else some (.inr (.inl ())))
 (0 : Int) = some r ∧ ((r = (.inl () : Unit ⊕ (Int × Int)) ∧ ¬ ∃ j, j < i ∧ keyP ((l[j]?).getD f0) = keyP l[i]) ∨ (r = .inr ((i : Int), 6) ∧ ∃ j, j < i ∧ keyP ((l[j]?).getD f0) = keyP l[i])) := by
  refine run_for i _ (fun k (s : Int) => s = (k : Int) ∧ ¬ ∃ j, j < k ∧ keyP ((l[j]?).getD f0) = keyP l[i]) ?_ ?_ _ ⟨rfl, by rintro ⟨j, h, _⟩; omega⟩
  · rintro k s hk ⟨rfl, hn⟩
    have hkl : k < l.length := by omega
    have hb : (bif decide ((l[k]).1 = (l[i]).1) then bif decide ((l[k]).2.1 = (l[i]).2.1) then some ((l[k]).2.2.2.1 == (l[i]).2.2.2.1) else some false else some false) = some (decide (keyP l[k] = keyP l[i])) := by
      have e : decide (keyP l[k] = keyP l[i]) = (decide ((l[k]).1 = (l[i]).1) && (decide ((l[k]).2.1 = (l[i]).2.1) && ((l[k]).2.2.2.1 == (l[i]).2.2.2.1))) := by
        rw [Bool.eq_iff_iff]
        unfold keyP
        simp
      rw [e]
      generalize decide ((l[k]).1 = (l[i]).1) = a
      generalize decide ((l[k]).2.1 = (l[i]).2.1) = b
      cases a <;> cases b <;> rfl
    simp only [lt_dec hk, cond_true, idx_nat hkl, Option.bind_some, hb, wrap_succ hk (show i ≤ 9223372036854775807 by omega)]
    by_cases he : keyP l[k] = keyP l[i]
    · right
      refine ⟨_, by rw [decide_eq_true he]; rfl, .inr ⟨rfl, k, hk, by rw [getD_of hkl]; exact he⟩⟩
    · left
      refine ⟨_, by rw [decide_eq_false he]; rfl, rfl, ?_⟩
      rintro ⟨j, h1, h2⟩
      by_cases hj : j = k
      · subst hj; rw [getD_of hkl] at h2; exact he h2
      · exact hn ⟨j, by omega, h2⟩
  · rintro s ⟨rfl, hn⟩
    simp only [nlt_dec, cond_false]
    exact ⟨_, rfl, .inl ⟨rfl, hn⟩⟩

theorem valid_val {s : Int} {l : List Foot} (hl : l.length ≤ 4096) : F_ref20_valid l s = some (ansP s l) := by
  unfold F_ref20_valid
  rw [scan_run (n := l.length) (fun i st => st = (i : Int)) (pF s l) (fun i => .inr ((i : Int), pF s l i)) (.inl ()) ?_ ?_ ?_ (0 : Int) rfl]
  · unfold ansP pick
    cases firstBad l.length (pF s l) <;> rfl
  · rintro i _ hi rfl hc
    obtain ⟨h1, h2, h3⟩ := pF_zero hc
    rw [getD_of hi] at h1 h2 h3
    obtain ⟨r, hr, hd⟩ := dup_run hi hl
    simp only [lt_dec hi, cond_true, idx_nat hi, Option.bind_some, b1_ref, b2_ref, h1, h2, cond_false]
    rcases hd with ⟨rfl, _⟩ | ⟨_, h⟩
    · refine ⟨((i + 1 : Nat) : Int), ?_, rfl⟩
      rw [← wrap_succ hi (show l.length ≤ 9223372036854775807 by omega)]
      exact (congrArg (fun o => Option.bind o _) hr).trans rfl
    · exact absurd h h3
  · rintro i _ hi rfl hc
    unfold pF at hc ⊢
    rw [getD_of hi] at hc ⊢
    obtain ⟨r, hr, hd⟩ := dup_run hi hl
    simp only [lt_dec hi, cond_true, idx_nat hi, Option.bind_some, b1_ref, b2_ref]
    cases h1 : b1 s l[i] with
    | true => simp
    | false =>
      cases h2 : b2 l[i] with
      | true => simp
      | false =>
        simp only [h1, h2, Bool.false_eq_true, if_false] at hc
        have h3 : ∃ j, j < i ∧ keyP ((l[j]?).getD f0) = keyP l[i] := by
          by_cases h3 : ∃ j, j < i ∧ keyP ((l[j]?).getD f0) = keyP l[i]
          · exact h3
          · rw [if_neg h3] at hc; exact absurd rfl hc
        simp only [cond_false, Bool.false_eq_true, if_false, if_pos h3]
        rcases hd with ⟨_, h⟩ | ⟨rfl, _⟩
        · exact absurd h3 h
        · exact (congrArg (fun o => Option.bind o _) hr).trans rfl
  · rintro _ rfl
    simp only [nlt_dec, cond_false]

/-- Without a fault: the footpaths are sound. -/
theorem ans_zero {s : Int} {l : List Foot} (h : (ansP s l).2 = 0) : ansP s l = (0, 0) ∧ ∀ i, i < l.length → pF s l i = 0 := by
  unfold ansP pick at h ⊢
  cases hf : firstBad l.length (pF s l) with
  | none => exact ⟨rfl, fun i hi => firstBad_iff.1 hf i hi⟩
  | some i => rw [hf] at h; exact absurd h (firstBad_spec hf).2
theorem ans_of {s : Int} {l : List Foot} (h : ∀ i, i < l.length → pF s l i = 0) : ansP s l = (0, 0) := by
  unfold ansP pick
  rw [firstBad_none h]
theorem fok_of {n : Nat} {l : List Foot} (h : ∀ i, i < l.length → pF n l i = 0) : FOk n l := by
  intro p hp
  obtain ⟨i, hi, rfl⟩ := List.getElem_of_mem hp
  obtain ⟨h1, h2, _⟩ := pF_zero (h i hi)
  rw [getD_of hi] at h1 h2
  have := b1_false h1
  have := b2_false h2
  omega
theorem neg_nil {s : Int} {l : List Foot} (h : ∀ i, i < l.length → pF s l i = 0) (hs : s ≤ 0) : l = [] := by
  cases l with
  | nil => rfl
  | cons p l =>
    obtain ⟨h1, _, _⟩ := pF_zero (h 0 (by simp))
    have := b1_false h1
    omega

/-! ### Time -/

def okT (a b : Int) (f : Bool) (p : Foot) : Bool := decide (p.1 = a) && (decide (p.2.1 = b) && (p.2.2.2.1 || !f))
def tstep (a b : Int) (f : Bool) (acc : Int × Bool) (p : Foot) : Int × Bool := bif okT a b f p && (!acc.2 || decide (p.2.2.1 < acc.1)) then (p.2.2.1, true) else acc
def timeL (l : List Foot) (a b : Int) (f : Bool) : Int × Bool := l.foldl (tstep a b f) (0, false)

theorem time_val {l : List Foot} (hl : l.length ≤ 1000000) (a b : Int) (f : Bool) : F_footpath_Time l a b f = some (timeL l a b f) := by
  unfold F_footpath_Time
  refine bind_of (fun r => r = timeL l a b f) ?_ fun r hr => by rw [hr]
  refine run_for l.length _ (fun i (s : Int × Bool × Int) => s = (((l.take i).foldl (tstep a b f) (0, false)).1, ((l.take i).foldl (tstep a b f) (0, false)).2, (i : Int))) ?_ ?_ _ rfl
  · rintro i s hi rfl
    left
    refine ⟨_, ?_, rfl⟩
    rw [List.take_succ_eq_append_getElem hi, List.foldl_append]
    generalize (l.take i).foldl (tstep a b f) (0, false) = acc
    obtain ⟨x, y⟩ := acc
    simp only [lt_dec hi, cond_true, idx_nat hi, Option.bind_some, wrap_succ hi (show l.length ≤ 9223372036854775807 by omega), List.foldl_cons, List.foldl_nil]
    unfold tstep okT
    generalize decide ((l[i]).1 = a) = c1
    generalize decide ((l[i]).2.1 = b) = c2
    generalize decide ((l[i]).2.2.1 < x) = c4
    cases c1 <;> cases c2 <;> cases f <;> cases (l[i]).2.2.2.1 <;> cases y <;> cases c4 <;> rfl
  · rintro s rfl
    simp only [nlt_dec, cond_false]
    rw [List.take_length]
    exact ⟨_, rfl, rfl⟩
theorem timeR_val {l : List Foot} (hl : l.length ≤ 1000000) (a b : Int) (f : Bool) : F_ref20_Time l a b f = some (timeL l a b f) := by
  unfold F_ref20_Time
  refine bind_of (fun r => r = timeL l a b f) ?_ fun r hr => by rw [hr]
  refine run_for l.length _ (fun i (s : Int × Bool × Int) => s = (((l.take i).foldl (tstep a b f) (0, false)).1, ((l.take i).foldl (tstep a b f) (0, false)).2, (i : Int))) ?_ ?_ _ rfl
  · rintro i s hi rfl
    left
    refine ⟨_, ?_, rfl⟩
    rw [List.take_succ_eq_append_getElem hi, List.foldl_append]
    generalize (l.take i).foldl (tstep a b f) (0, false) = acc
    obtain ⟨x, y⟩ := acc
    simp only [lt_dec hi, cond_true, idx_nat hi, Option.bind_some, wrap_succ hi (show l.length ≤ 9223372036854775807 by omega), List.foldl_cons, List.foldl_nil]
    unfold tstep okT
    generalize decide ((l[i]).1 = a) = c1
    generalize decide ((l[i]).2.1 = b) = c2
    generalize decide ((l[i]).2.2.1 < x) = c4
    cases c1 <;> cases c2 <;> cases f <;> cases (l[i]).2.2.2.1 <;> cases y <;> cases c4 <;> rfl
  · rintro s rfl
    simp only [nlt_dec, cond_false]
    rw [List.take_length]
    exact ⟨_, rfl, rfl⟩

def TimeOk (l : List Foot) (a b : Int) (f : Bool) (r : Int × Bool) : Prop :=
  (r.2 = true → (∃ p ∈ l, okT a b f p = true ∧ p.2.2.1 = r.1) ∧ ∀ p ∈ l, okT a b f p = true → r.1 ≤ p.2.2.1) ∧ (r.2 = false → ∀ p ∈ l, okT a b f p = false)
theorem time_ok (a b : Int) (f : Bool) : ∀ (l D : List Foot) (acc : Int × Bool), TimeOk D a b f acc → TimeOk (D ++ l) a b f (l.foldl (tstep a b f) acc)
  | [], D, acc, h => by simpa using h
  | p :: l, D, acc, h => by
    rw [List.foldl_cons, show D ++ p :: l = (D ++ [p]) ++ l by simp]
    refine time_ok a b f l _ _ ?_
    unfold tstep
    cases ho : okT a b f p with
    | false =>
      refine ⟨fun h2 => ?_, fun h2 q hq => ?_⟩
      · obtain ⟨⟨q, h3, h4⟩, h5⟩ := h.1 h2
        refine ⟨⟨q, by simp [h3], h4⟩, fun q hq hoq => ?_⟩
        rcases List.mem_append.1 hq with hq | hq
        · exact h5 q hq hoq
        · simp at hq; subst hq; rw [ho] at hoq; cases hoq
      · rcases List.mem_append.1 hq with hq | hq
        · exact h.2 h2 q hq
        · simp at hq; subst hq; exact ho
    | true =>
      obtain ⟨x, y⟩ := acc
      cases y with
      | false =>
        have h0 := h.2 rfl
        refine ⟨fun _ => ⟨⟨p, by simp, ho, rfl⟩, fun q hq hoq => ?_⟩, fun h2 => by simp at h2⟩
        rcases List.mem_append.1 hq with hq | hq
        · rw [h0 q hq] at hoq; cases hoq
        · simp at hq; subst hq; exact Int.le_refl _
      | true =>
        obtain ⟨⟨q, h3, h4, h5⟩, h6⟩ := h.1 rfl
        by_cases hlt : p.2.2.1 < x
        · simp only [Bool.true_and, Bool.not_true, Bool.false_or, decide_eq_true hlt, cond_true]
          refine ⟨fun _ => ⟨⟨p, by simp, ho, rfl⟩, fun q hq hoq => ?_⟩, fun h2 => by simp at h2⟩
          rcases List.mem_append.1 hq with hq | hq
          · have := h6 q hq hoq
            simp only at this ⊢
            omega
          · simp at hq; subst hq; exact Int.le_refl _
        · simp only [Bool.true_and, Bool.not_true, Bool.false_or, decide_eq_false hlt, cond_false]
          refine ⟨fun _ => ⟨⟨q, by simp [h3], h4, h5⟩, fun q hq hoq => ?_⟩, fun h2 => by simp at h2⟩
          rcases List.mem_append.1 hq with hq | hq
          · exact h6 q hq hoq
          · simp at hq; subst hq; simp only; omega
theorem timeL_ok (l : List Foot) (a b : Int) (f : Bool) : TimeOk l a b f (timeL l a b f) := by
  have := time_ok a b f l [] (0, false) ⟨fun h => by simp at h, fun _ => by simp⟩
  rw [List.nil_append] at this
  exact this
end Q

/-! Chapter 20: the stops around a stop, by the program (sort and compact) and by the reference (insertion). Conditions: at most 4096 footpaths. -/
namespace Q
open Tr Go

def okA (a m : Int) (f : Bool) (p : Foot) : Bool := decide (p.1 = a) && (!decide (m < p.2.2.1) && (p.2.2.2.1 || !f))
def arL (l : List Foot) (a m : Int) (f : Bool) : List Int := (l.filter (okA a m f)).map fun p => p.2.1

theorem arL_snoc (l : List Foot) (p : Foot) (a m : Int) (f : Bool) : arL (l ++ [p]) a m f = arL l a m f ++ if okA a m f p = true then [p.2.1] else [] := by
  unfold arL
  rw [List.filter_append, List.map_append]
  congr 1
  by_cases h : okA a m f p = true
  · rw [if_pos h, List.filter_cons_of_pos h]; rfl
  · rw [if_neg h, List.filter_cons_of_neg h]; rfl
theorem arL_len (l : List Foot) (a m : Int) (f : Bool) : (arL l a m f).length ≤ l.length := by
  unfold arL
  rw [List.length_map]
  exact List.length_filter_le _ _

theorem around_val {l : List Foot} (hl : l.length ≤ 4096) (a m : Int) (f : Bool) : F_footpath_Around l a m f = some (compactL (isortI (arL l a m f))) := by
  unfold F_footpath_Around
  refine bind_of (fun r => r = arL l a m f) ?_ ?_
  · refine run_for l.length _ (fun i (s : List Int × Int) => s = (arL (l.take i) a m f, (i : Int))) ?_ ?_ _ rfl
    · rintro i s hi rfl
      left
      refine ⟨_, ?_, rfl⟩
      rw [List.take_succ_eq_append_getElem hi, arL_snoc]
      have hlen := arL_len (l.take i) a m f
      rw [List.length_take] at hlen
      generalize arL (l.take i) a m f = out at *
      simp only [lt_dec hi, cond_true, idx_nat hi, Option.bind_some, wrap_succ hi (show l.length ≤ 9223372036854775807 by omega)]
      have hc : (bif !decide ((l[i]).1 = a) then some true else bif decide (m < (l[i]).2.2.1) then some true else bif f then some !(l[i]).2.2.2.1 else some false) = some (!okA a m f l[i]) := by
        unfold okA
        generalize decide ((l[i]).1 = a) = c1
        generalize decide (m < (l[i]).2.2.1) = c2
        cases c1 <;> cases c2 <;> cases f <;> cases (l[i]).2.2.2.1 <;> rfl
      rw [hc]
      simp only [Option.bind_some]
      cases ho : okA a m f l[i] with
      | false => simp
      | true =>
        simp only [Bool.not_true, cond_false]
        rw [guard_app (by simp only [List.length_cons, List.length_nil]; omega)]
        simp
    · rintro s rfl
      simp only [nlt_dec, cond_false]
      rw [List.take_length]
      exact ⟨_, rfl, rfl⟩
  · rintro r rfl
    have hlen := arL_len l a m f
    have hs : F_slices_Sort_int_int (arL l a m f) = some (isortI (arL l a m f)) := by
      show Tr.sortI _ = _
      unfold Tr.sortI
      rw [decide_eq_true (by omega)]; rfl
    have hc : F_slices_Compact_int_int (isortI (arL l a m f)) = some (compactL (isortI (arL l a m f))) := by
      show Tr.compactI _ = _
      unfold Tr.compactI
      rw [decide_eq_true (by rw [(isortI_perm _).length_eq]; omega)]; rfl
    rw [hs]
    simp only [Option.bind_some]
    rw [hc]
    rfl

theorem compFrom_srt : ∀ {l : List Int} {x : Int}, l.Pairwise (· ≤ ·) → (∀ y ∈ l, x ≤ y) → (compFrom x l).Pairwise (· < ·) ∧ (∀ y ∈ compFrom x l, x < y) ∧ ∀ y, y ∈ x :: compFrom x l ↔ y ∈ x :: l
  | [], x, _, _ => by simp [compFrom]
  | z :: l, x, h, hx => by
    obtain ⟨h1, h2⟩ := List.pairwise_cons.1 h
    have hxz := hx z (by simp)
    simp only [compFrom]
    by_cases he : z = x
    · subst he
      simp only [decide_true, cond_true]
      obtain ⟨a, b, c⟩ := compFrom_srt h2 h1
      refine ⟨a, b, fun y => ?_⟩
      rw [c y]; simp
    · rw [decide_eq_false he]
      simp only [cond_false]
      obtain ⟨a, b, c⟩ := compFrom_srt h2 h1
      refine ⟨List.pairwise_cons.2 ⟨b, a⟩, fun y hy => ?_, fun y => ?_⟩
      · rcases List.mem_cons.1 hy with rfl | hy
        · omega
        · have := b y hy; omega
      · have := c y
        simp only [List.mem_cons] at this ⊢
        rw [this]
theorem compact_srt {l : List Int} (h : l.Pairwise (· ≤ ·)) : (compactL l).Pairwise (· < ·) ∧ ∀ y, y ∈ compactL l ↔ y ∈ l := by
  cases l with
  | nil => simp [compactL]
  | cons x l =>
    obtain ⟨h1, h2⟩ := List.pairwise_cons.1 h
    obtain ⟨a, b, c⟩ := compFrom_srt h2 h1
    exact ⟨List.pairwise_cons.2 ⟨b, a⟩, c⟩
theorem asc_uniq {l m : List Int} (h1 : l.Pairwise (· < ·)) (h2 : m.Pairwise (· < ·)) (h : ∀ y, y ∈ l ↔ y ∈ m) : l = m := by
  have n1 : l.Nodup := h1.imp fun h => by omega
  have n2 : m.Nodup := h2.imp fun h => by omega
  exact List.Perm.eq_of_pairwise (le := fun a b => a < b) (fun a b _ _ h3 h4 => by omega) h1 h2 ((List.perm_ext_iff_of_nodup n1 n2).2 h)

theorem cut_of (t : Int) : ∀ l : List Int, ∃ k, k ≤ l.length ∧ (∀ y ∈ l.take k, y < t) ∧ ∀ y, l[k]? = some y → ¬ y < t
  | [] => ⟨0, Nat.le_refl _, by simp, by simp⟩
  | x :: l => by
    by_cases h : x < t
    · obtain ⟨k, h1, h2, h3⟩ := cut_of t l
      refine ⟨k + 1, by simp; exact h1, fun y hy => ?_, by simpa using h3⟩
      rw [List.take_succ_cons] at hy
      rcases List.mem_cons.1 hy with rfl | hy
      · exact h
      · exact h2 y hy
    · exact ⟨0, Nat.zero_le _, by simp, fun y hy => by simp at hy; subst hy; exact h⟩

theorem cut_run {out : List Int} {t : Int} {k : Nat} (hk : k ≤ out.length) (hlen : out.length ≤ 4096) (h1 : ∀ y ∈ out.take k, y < t) (h2 : ∀ y, out[k]? = some y → ¬ y < t) : Tr.run
 (fun s3 : Int =>
 Option.bind
 (bif decide (s3 < (↑(List.length out) : Int)) then
 Option.bind (inb s3 (List.length out)) fun x4 => Option.bind out[x4]? fun x5 => some (decide (x5 < t))
 else some false)
 fun x6 => bif x6 then some (.inl (IntKind.wrap .i64 (s3 + (1 : Int)))) else some (.inr s3))
 (0 : Int) = some (k : Int) := by
  have key : ∃ r, Tr.run
   (fun s3 : Int =>
   Option.bind
   (bif decide (s3 < (↑(List.length out) : Int)) then
   Option.bind (inb s3 (List.length out)) fun x4 => Option.bind out[x4]? fun x5 => some (decide (x5 < t))
   else some false)
   fun x6 => bif x6 then some (.inl (IntKind.wrap .i64 (s3 + (1 : Int)))) else some (.inr s3))
   (0 : Int) = some r ∧ r = (k : Int) := by
    refine run_for k _ (fun i (s : Int) => s = (i : Int)) ?_ ?_ _ rfl
    · rintro i s hi rfl
      left
      have hil : i < out.length := by omega
      refine ⟨_, ?_, rfl⟩
      have hy : out[i] < t := h1 _ (List.mem_take_iff_getElem.2 ⟨i, by omega, rfl⟩)
      simp only [lt_dec hil, cond_true, inb_nat hil, Option.bind_some, List.getElem?_eq_getElem hil, decide_eq_true hy, wrap_succ hi (show k ≤ 9223372036854775807 by omega)]
    · rintro s rfl
      refine ⟨_, ?_, rfl⟩
      by_cases hkl : k < out.length
      · have := h2 _ (List.getElem?_eq_getElem hkl)
        simp only [lt_dec hkl, cond_true, inb_nat hkl, Option.bind_some, List.getElem?_eq_getElem hkl, decide_eq_false this, cond_false]
      · have : k = out.length := by omega
        subst this
        simp only [nlt_dec, cond_false, Option.bind_some]
  obtain ⟨r, h, rfl⟩ := key
  exact h

theorem aroundR_val {l : List Foot} (hl : l.length ≤ 4096) (a m : Int) (f : Bool) : ∃ r : List Int, F_ref20_Around l a m f = some r ∧ r.Pairwise (· < ·) ∧ ∀ y, y ∈ r ↔ y ∈ arL l a m f := by
  unfold F_ref20_Around
  have key : ∀ (o : Option (List Int)), (∃ r, o = some r ∧ (r.Pairwise (· < ·) ∧ ∀ y, y ∈ r ↔ y ∈ arL l a m f)) → ∃ r : List Int, (Option.bind o fun x16 => some x16) = some r ∧ r.Pairwise (· < ·) ∧ ∀ y, y ∈ r ↔ y ∈ arL l a m f := by
    rintro o ⟨r, rfl, h⟩
    exact ⟨r, rfl, h⟩
  refine key _ ?_
  refine run_for l.length _ (fun i (s : List Int × Int) => ∃ out : List Int, s = (out, (i : Int)) ∧ out.length ≤ i ∧ out.Pairwise (· < ·) ∧ ∀ y, y ∈ out ↔ y ∈ arL (l.take i) a m f) ?_ ?_ _ ⟨[], rfl, Nat.zero_le _, .nil, by simp [arL]⟩
  · rintro i s hi ⟨out, rfl, hlen, hP, hM⟩
    left
    rw [List.take_succ_eq_append_getElem hi, arL_snoc]
    simp only [lt_dec hi, cond_true, idx_nat hi, Option.bind_some, wrap_succ hi (show l.length ≤ 9223372036854775807 by omega)]
    have hc : (bif !decide ((l[i]).1 = a) then some true else bif !(l[i]).2.2.2.1 then bif f then some true else some (decide (m < (l[i]).2.2.1)) else some (decide (m < (l[i]).2.2.1))) = some (!okA a m f l[i]) := by
      unfold okA
      generalize decide ((l[i]).1 = a) = c1
      generalize decide (m < (l[i]).2.2.1) = c2
      cases c1 <;> cases c2 <;> cases f <;> cases (l[i]).2.2.2.1 <;> rfl
    rw [hc]
    simp only [Option.bind_some]
    cases ho : okA a m f l[i] with
    | false =>
      simp only [Bool.not_false, cond_true]
      exact ⟨_, rfl, out, rfl, by omega, hP, fun y => by rw [hM y]; simp⟩
    | true =>
      simp only [Bool.not_true, cond_false, if_true]
      generalize (l[i]).2.1 = t
      obtain ⟨k, hk, h1, h2⟩ := cut_of t out
      have hle : out.length ≤ 4096 := by omega
      have hr := cut_run hk hle h1 h2
      refine bind_ex (fun r => r = (k : Int)) ⟨_, hr, rfl⟩ ?_
      rintro r rfl
      have hb : (bif decide ((k : Int) < (out.length : Int)) then Option.bind (inb (k : Int) out.length) fun x8 => Option.bind out[x8]? fun x9 => some (decide (x9 = t)) else some false) = some (decide (out[k]? = some t)) := by
        by_cases hkl : k < out.length
        · simp only [lt_dec hkl, cond_true, inb_nat hkl, Option.bind_some, List.getElem?_eq_getElem hkl, Option.some.injEq]
        · have : k = out.length := by omega
          subst this
          simp
      rw [hb]
      simp only [Option.bind_some]
      by_cases he : out[k]? = some t
      · rw [decide_eq_true he]
        simp only [cond_true]
        refine ⟨_, rfl, out, rfl, by omega, hP, fun y => ?_⟩
        rw [List.mem_append, ← hM y]
        constructor
        · exact .inl
        · rintro (h | h)
          · exact h
          · simp at h; subst h; exact List.mem_of_getElem? he
      · rw [decide_eq_false he]
        simp only [cond_false]
        have s1 : Tr.sliceB out.length out.length none (some (k : Int)) = some (0, k) := by
          unfold Tr.sliceB
          simp only
          rw [if_pos ⟨by omega, by omega⟩]; rfl
        have s2 : Tr.sliceB out.length out.length (some (k : Int)) none = some (k, out.length) := by
          unfold Tr.sliceB
          simp only [Option.bind_some]
          rw [if_pos ⟨by omega, by omega⟩]; rfl
        simp only [s1, s2, Option.bind_some, List.drop_zero, List.nil_append]
        have g0 : Tr.guardB (decide (List.length ([] : List Unit) + List.length (List.take k out) ≤ Tr.maxApp)) = some () := by
          rw [decide_eq_true (by simp only [List.length_nil, List.length_take, Tr.maxApp]; omega)]; rfl
        rw [g0]
        simp only [Option.bind_some]
        rw [guard_app (by simp only [List.length_take, List.length_cons, List.length_nil]; omega)]
        simp only [Option.bind_some]
        rw [guard_app (by simp only [List.length_append, List.length_take, List.length_drop, List.length_cons, List.length_nil]; omega)]
        simp only [Option.bind_some]
        have hd : (out.drop k).take (out.length - k) = out.drop k := List.take_of_length_le (by simp)
        rw [hd]
        have hsplit : out.take k ++ out.drop k = out := List.take_append_drop k out
        have hP' := hP
        rw [← hsplit, List.pairwise_append] at hP'
        obtain ⟨p1, p2, p3⟩ := hP'
        have hgt : ∀ y ∈ out.drop k, t < y := by
          intro y hy
          obtain ⟨j, hj, rfl⟩ := List.getElem_of_mem hy
          rw [List.length_drop] at hj
          rw [List.getElem_drop]
          have hkl : k < out.length := by omega
          have g1 := h2 _ (List.getElem?_eq_getElem hkl)
          have g2 : out[k] ≠ t := fun h => he (by rw [List.getElem?_eq_getElem hkl, h])
          by_cases hj0 : j = 0
          · subst hj0
            simp only [Nat.add_zero]
            omega
          · have := List.pairwise_iff_getElem.1 hP k (k + j) hkl (by omega) (by omega)
            omega
        refine ⟨_, rfl, _, rfl, ?_, ?_, fun y => ?_⟩
        · simp only [List.length_append, List.length_take, List.length_drop, List.length_cons, List.length_nil]; omega
        · rw [List.append_assoc, List.pairwise_append]
          refine ⟨p1, List.pairwise_cons.2 ⟨hgt, p2⟩, fun x hx y hy => ?_⟩
          rcases List.mem_cons.1 hy with rfl | hy
          · exact h1 x hx
          · exact p3 x hx y hy
        · have e := hM y
          rw [← hsplit, List.mem_append] at e
          simp only [List.mem_append, List.mem_cons, List.not_mem_nil, or_false]
          rw [← e]
          constructor
          · rintro ((h | h) | h)
            · exact .inl (.inl h)
            · exact .inr h
            · exact .inl (.inr h)
          · rintro ((h | h) | h)
            · exact .inl (.inl h)
            · exact .inr h
            · exact .inl (.inr h)
  · rintro s ⟨out, rfl, hlen, hP, hM⟩
    simp only [nlt_dec, cond_false]
    rw [List.take_length] at hM
    exact ⟨_, rfl, hP, hM⟩

theorem around_same {l : List Foot} (hl : l.length ≤ 4096) (a m : Int) (f : Bool) : ∃ r : List Int, F_footpath_Around l a m f = some r ∧ F_ref20_Around l a m f = some r ∧ r.length ≤ l.length ∧ r.Pairwise (· < ·) ∧ ∀ y, y ∈ r ↔ y ∈ arL l a m f := by
  obtain ⟨r, h1, h2, h3⟩ := aroundR_val hl a m f
  obtain ⟨c1, c2⟩ := compact_srt (isortI_srt (arL l a m f))
  have e : compactL (isortI (arL l a m f)) = r := asc_uniq c1 h2 fun y => by rw [c2, h3, (isortI_perm _).mem_iff]
  refine ⟨r, by rw [around_val hl, e], h1, ?_, h2, h3⟩
  rw [← e]
  have g1 := compactL_len (isortI (arL l a m f))
  have g2 := (isortI_perm (arL l a m f)).length_eq
  have g3 := arL_len l a m f
  omega
end Q

/-! Chapter 20: what the closure holds, and that it is closed. Conditions: at most 64 stops, at most 4096 footpaths. -/
namespace Q
open Tr Go Gr

theorem wk_trans {Ed : Nat → Nat → Int → Prop} {s u v : Nat} {d e : Int} (h : Wk Ed s u d) (k : Wk Ed u v e) : Wk Ed s v (d + e) := by
  induction k with
  | nil => rw [Int.add_zero]; exact h
  | snoc _ e ih => rw [← Int.add_assoc]; exact .snoc ih e
theorem wk_lift {Ed Ed' : Nat → Nat → Int → Prop} (h : ∀ u v w, Ed' u v w → Wk Ed u v w) {s v : Nat} {d : Int} (k : Wk Ed' s v d) : Wk Ed s v d := by
  induction k with
  | nil => exact .nil
  | snoc _ e ih => exact wk_trans ih (h _ _ _ e)
theorem wk_free {l : List Foot} {s v : Nat} {d : Int} (h : Wk (EdP l true) s v d) (free : Bool) : Wk (EdP l free) s v d := by
  induction h with
  | nil => exact .nil
  | snoc _ e ih =>
    obtain ⟨p, hp, hm, h1⟩ := e
    exact .snoc ih ⟨p, hp, fun _ => hm rfl, h1⟩

theorem dist_cases {n : Nat} {l : List Foot} (hF : FOk n l) (free : Bool) (a b : Nat) : (distI (EdP l free) a b = -1 ∧ ∀ d, ¬ Wk (EdP l free) a b d) ∨ (Least (EdP l free) a b (distI (EdP l free) a b) ∧ 0 ≤ distI (EdP l free) a b) := by
  have hw : ∀ u v w, EdP l free u v w → 0 ≤ w := fun u v w h => by have := edp_ok hF free u v w h; omega
  by_cases h : ∃ d, Wk (EdP l free) a b d
  · right
    obtain ⟨d, hd⟩ := h
    obtain ⟨m, hm⟩ := least_exists hw _ d rfl hd
    rw [distI_of hm]
    exact ⟨hm, hm.1.nonneg hw⟩
  · left
    have h' : ∀ d, ¬ Wk (EdP l free) a b d := fun d hd => h ⟨d, hd⟩
    exact ⟨distI_none h', h'⟩
theorem dist_pos {n : Nat} {l : List Foot} (hF : FOk n l) (free : Bool) {a b : Nat} (hab : a ≠ b) : distI (EdP l free) a b = -1 ∨ 1 ≤ distI (EdP l free) a b := by
  rcases dist_cases hF free a b with ⟨h, _⟩ | ⟨h, _⟩
  · exact .inl h
  · right
    rcases h.1.wb (fun u v w h => ⟨(edp_ok hF free u v w h).1, (edp_ok hF free u v w h).2.1⟩) with ⟨h1, _⟩ | h1
    · exact absurd h1.symm hab
    · exact wb_pos (fun u v w h => (edp_ok hF free u v w h).2.2) h1

noncomputable def cloL (l : List Foot) (n : Nat) : List Foot := allL (fun a b => itemC a b (distI (EdP l false) a b) (distI (EdP l true) a b)) n n

theorem closure_both {n : Nat} (hn : n ≤ 64) {l : List Foot} (hF : FOk n l) (hl : l.length ≤ 4096) : F_footpath_closure l (n : Int) = some (cloL l n) ∧ F_ref20_closure l (n : Int) = some (cloL l n) := by
  have h1 := closure_val hn hF hl (fun a b => (dist_le hF a b).imp id fun h => h.2)
  obtain ⟨c, h2, h3, _⟩ := closed_same hn hF hl
  have e : c = cloL l n := Option.some.inj (h2.symm.trans h1)
  rw [e] at h3
  exact ⟨h1, h3⟩

theorem itemC_iff {a b : Nat} {d f : Int} {x : Foot} : x ∈ itemC a b d f ↔ x.1 = (a : Int) ∧ x.2.1 = (b : Int) ∧ 1 ≤ x.2.2.1 ∧ x.2.2.1 ≤ 14400 ∧ ((x.2.2.1 = d ∧ x.2.2.2.1 = decide (f = d)) ∨ (f ≠ d ∧ x.2.2.1 = f ∧ x.2.2.2.1 = true)) := by
  obtain ⟨x1, x2, x3, x4, x5⟩ := x
  unfold itemC
  rw [List.mem_append]
  have e1 : (x1, x2, x3, x4, x5) ∈ (if 0 < d ∧ d ≤ 14400 then [((a : Int), (b : Int), d, decide (f = d), ())] else []) ↔ (0 < d ∧ d ≤ 14400) ∧ x1 = (a : Int) ∧ x2 = (b : Int) ∧ x3 = d ∧ x4 = decide (f = d) := by
    split
    · rename_i h; simp [h]
    · rename_i h; simp [h]
  have e2 : (x1, x2, x3, x4, x5) ∈ (if f = d then [] else if 0 < f ∧ f ≤ 14400 then [((a : Int), (b : Int), f, true, ())] else []) ↔ f ≠ d ∧ (0 < f ∧ f ≤ 14400) ∧ x1 = (a : Int) ∧ x2 = (b : Int) ∧ x3 = f ∧ x4 = true := by
    split
    · rename_i h; simp [h]
    · rename_i h
      split
      · rename_i h2; simp [h, h2]
      · rename_i h2; simp [h2]
  rw [e1, e2]
  simp only
  constructor
  · rintro (⟨h, rfl, rfl, rfl, rfl⟩ | ⟨h0, h, rfl, rfl, rfl, rfl⟩)
    · exact ⟨rfl, rfl, by omega, h.2, .inl ⟨rfl, rfl⟩⟩
    · exact ⟨rfl, rfl, by omega, h.2, .inr ⟨h0, rfl, rfl⟩⟩
  · rintro ⟨rfl, rfl, h1, h2, ⟨rfl, rfl⟩ | ⟨h0, rfl, rfl⟩⟩
    · exact .inl ⟨⟨by omega, h2⟩, rfl, rfl, rfl, rfl⟩
    · exact .inr ⟨h0, ⟨by omega, h2⟩, rfl, rfl, rfl, rfl⟩

theorem clo_mem {l : List Foot} {n : Nat} {x : Foot} : x ∈ cloL l n ↔ ∃ a b, a < n ∧ b < n ∧ a ≠ b ∧ x ∈ itemC a b (distI (EdP l false) a b) (distI (EdP l true) a b) := by
  unfold cloL allL rowL
  simp only [List.mem_flatMap, List.mem_range]
  constructor
  · rintro ⟨a, ha, b, hb, h⟩
    by_cases hab : a = b
    · rw [if_pos hab] at h; simp at h
    · rw [if_neg hab] at h; exact ⟨a, b, ha, hb, hab, h⟩
  · rintro ⟨a, b, ha, hb, hab, h⟩
    exact ⟨a, ha, b, hb, by rw [if_neg hab]; exact h⟩

theorem clo_edge {l : List Foot} {n : Nat} (hF : FOk n l) {free : Bool} {u v : Nat} {w : Int} (h : EdP (cloL l n) free u v w) : Wk (EdP l free) u v w ∧ u < n ∧ v < n ∧ u ≠ v ∧ 1 ≤ w ∧ w ≤ 14400 := by
  obtain ⟨p, hp, hm, q1, q2, rfl⟩ := h
  obtain ⟨a, b, ha, hb, hab, hx⟩ := clo_mem.1 hp
  obtain ⟨h1, h2, h3, h4, h5⟩ := itemC_iff.1 hx
  have ea : a = u := by omega
  have eb : b = v := by omega
  subst ea eb
  refine ⟨?_, ha, hb, hab, h3, h4⟩
  rcases h5 with ⟨h5, h6⟩ | ⟨h5, h6, h7⟩
  · cases free with
    | false =>
      rcases dist_cases hF false a b with ⟨h, _⟩ | ⟨h, _⟩
      · omega
      · rw [h5]; exact h.1
    | true =>
      have h7 := hm rfl
      rw [h6] at h7
      have h7 := of_decide_eq_true h7
      rcases dist_cases hF true a b with ⟨h, _⟩ | ⟨h, _⟩
      · omega
      · rw [h5, ← h7]; exact h.1
  · rcases dist_cases hF true a b with ⟨h, _⟩ | ⟨h, _⟩
    · omega
    · rw [h6]; exact wk_free h.1 free

theorem clo_has {l : List Foot} {n : Nat} {free : Bool} {u v : Nat} (hu : u < n) (hv : v < n) (huv : u ≠ v) (h1 : 1 ≤ distI (EdP l free) u v) (h2 : distI (EdP l free) u v ≤ 14400) : EdP (cloL l n) free u v (distI (EdP l free) u v) := by
  cases free with
  | false =>
    exact ⟨((u : Int), (v : Int), distI (EdP l false) u v, decide (distI (EdP l true) u v = distI (EdP l false) u v), ()), clo_mem.2 ⟨u, v, hu, hv, huv, itemC_iff.2 ⟨rfl, rfl, h1, h2, .inl ⟨rfl, rfl⟩⟩⟩, (fun (h : false = true) => by cases h), rfl, rfl, rfl⟩
  | true =>
    refine ⟨((u : Int), (v : Int), distI (EdP l true) u v, true, ()), clo_mem.2 ⟨u, v, hu, hv, huv, itemC_iff.2 ⟨rfl, rfl, h1, h2, ?_⟩⟩, fun _ => rfl, rfl, rfl, rfl⟩
    by_cases h : distI (EdP l true) u v = distI (EdP l false) u v
    · exact .inl ⟨h, (decide_eq_true h).symm⟩
    · exact .inr ⟨h, rfl, rfl⟩

theorem clo_fok {l : List Foot} {n : Nat} : FOk n (cloL l n) := by
  intro p hp
  obtain ⟨a, b, ha, hb, _, hx⟩ := clo_mem.1 hp
  obtain ⟨h1, h2, h3, h4, _⟩ := itemC_iff.1 hx
  omega

theorem dist_clo {l : List Foot} {n : Nat} (hF : FOk n l) (free : Bool) {a b : Nat} (ha : a < n) (hb : b < n) (hab : a ≠ b) :
    (1 ≤ distI (EdP l free) a b ∧ distI (EdP l free) a b ≤ 14400 → distI (EdP (cloL l n) free) a b = distI (EdP l free) a b) ∧ (¬ (1 ≤ distI (EdP l free) a b ∧ distI (EdP l free) a b ≤ 14400) → ¬ (1 ≤ distI (EdP (cloL l n) free) a b ∧ distI (EdP (cloL l n) free) a b ≤ 14400)) := by
  have hlift : ∀ d, Wk (EdP (cloL l n) free) a b d → Wk (EdP l free) a b d := fun d hd => wk_lift (fun u v w h => (clo_edge hF h).1) hd
  constructor
  · rintro ⟨h1, h2⟩
    rcases dist_cases hF free a b with ⟨h, _⟩ | ⟨h, _⟩
    · omega
    · refine distI_of ⟨?_, fun d' hd' => h.2 d' (hlift d' hd')⟩
      have := Wk.snoc (Wk.nil (Ed := EdP (cloL l n) free) (s := a)) (clo_has ha hb hab h1 h2)
      rwa [Int.zero_add] at this
  · rintro h ⟨h1, h2⟩
    rcases dist_cases (clo_fok (l := l) (n := n)) free a b with ⟨h3, _⟩ | ⟨h3, _⟩
    · omega
    · have h4 := hlift _ h3.1
      rcases dist_cases hF free a b with ⟨_, h5⟩ | ⟨h5, h50⟩
      · exact h5 _ h4
      · have := h5.2 _ h4
        rcases dist_pos hF free hab with h6 | h6
        · omega
        · exact h ⟨h6, by omega⟩

theorem itemC_congr {a b : Nat} {d f d' f' : Int} (hd : d = -1 ∨ 1 ≤ d) (hd' : d' = -1 ∨ 1 ≤ d') (hf : f = -1 ∨ (d ≠ -1 ∧ d ≤ f)) (hf' : f' = -1 ∨ (d' ≠ -1 ∧ d' ≤ f')) (h1 : 1 ≤ d ∧ d ≤ 14400 → d' = d) (h2 : ¬ (1 ≤ d ∧ d ≤ 14400) → ¬ (1 ≤ d' ∧ d' ≤ 14400)) (h3 : 1 ≤ f ∧ f ≤ 14400 → f' = f) (h4 : ¬ (1 ≤ f ∧ f ≤ 14400) → ¬ (1 ≤ f' ∧ f' ≤ 14400)) : itemC a b d' f' = itemC a b d f := by
  unfold itemC
  by_cases hr : 1 ≤ d ∧ d ≤ 14400
  · have e := h1 hr
    subst e
    have ef : (f' = d') ↔ (f = d') := by
      by_cases hfr : 1 ≤ f ∧ f ≤ 14400
      · rw [h3 hfr]
      · have := h4 hfr
        constructor
        · intro h; omega
        · intro h; omega
    rw [decide_eq_decide.2 ef]
    congr 1
    by_cases h : f = d'
    · rw [if_pos h, if_pos (ef.2 h)]
    · rw [if_neg h, if_neg (fun h5 => h (ef.1 h5))]
      by_cases hfr : 1 ≤ f ∧ f ≤ 14400
      · rw [h3 hfr]
      · have := h4 hfr
        rw [if_neg (by omega), if_neg (by omega)]
  · have e := h2 hr
    rw [if_neg (show ¬ (0 < d' ∧ d' ≤ 14400) by omega), if_neg (show ¬ (0 < d ∧ d ≤ 14400) by omega)]
    have hfr : ¬ (0 < f ∧ f ≤ 14400) := by omega
    have hfr' : ¬ (0 < f' ∧ f' ≤ 14400) := by omega
    rw [if_neg hfr, if_neg hfr']
    simp

theorem clo_clo {l : List Foot} {n : Nat} (hF : FOk n l) : cloL (cloL l n) n = cloL l n := by
  have hF' : FOk n (cloL l n) := clo_fok
  have := allL_congr (it := fun a b => itemC a b (distI (EdP (cloL l n) false) a b) (distI (EdP (cloL l n) true) a b)) (it' := fun a b => itemC a b (distI (EdP l false) a b) (distI (EdP l true) a b)) (Nat.le_refl n) fun a b ha hb hab =>
    itemC_congr (dist_pos hF false hab) (dist_pos hF' false hab) (dist_le hF a b) (dist_le hF' a b) (dist_clo hF false ha hb hab).1 (dist_clo hF false ha hb hab).2 (dist_clo hF true ha hb hab).1 (dist_clo hF true ha hb hab).2
  exact this

theorem clo_srt {l : List Foot} {n : Nat} (hF : FOk n l) : (cloL l n).Pairwise ltF := by
  refine allL_srt (fun a b x hx => itemC_mem hx) fun a b => ?_
  unfold itemC
  split
  · split
    · simp
    · split
      · have := dist_le hF a b
        simp only [List.cons_append, List.nil_append, List.pairwise_cons, List.mem_cons, List.not_mem_nil, or_false, forall_eq, false_implies, implies_true, and_true, List.Pairwise.nil]
        simp
        omega
      · simp
  · split
    · simp
    · split
      · simp
      · simp

theorem clo_sound {l : List Foot} {n : Nat} (hF : FOk n l) : ∀ i, i < (cloL l n).length → pF (n : Int) (cloL l n) i = 0 := by
  intro i hi
  obtain ⟨a, b, ha, hb, hab, hx⟩ := clo_mem.1 (List.getElem_mem hi)
  obtain ⟨h1, h2, h3, h4, h5⟩ := itemC_iff.1 hx
  unfold pF
  rw [getD_of hi]
  have g1 : b1 (n : Int) (cloL l n)[i] = false := by
    unfold b1
    rw [decide_eq_false (by omega), decide_eq_false (by omega), decide_eq_false (by omega), decide_eq_false (by omega), decide_eq_false (by omega)]; rfl
  have g2 : b2 (cloL l n)[i] = false := by
    unfold b2
    rw [decide_eq_false (by omega), decide_eq_false (by omega)]; rfl
  rw [if_neg (by rw [g1]; simp), if_neg (by rw [g2]; simp), if_neg]
  rintro ⟨j, hj, he⟩
  have hjl : j < (cloL l n).length := by omega
  rw [getD_of hjl] at he
  unfold keyP at he
  simp only [Prod.mk.injEq, and_true] at he
  obtain ⟨e1, e2, e3⟩ := he
  have hlt := List.pairwise_iff_getElem.1 (clo_srt hF) j i hjl hi hj
  obtain ⟨a', b', _, _, _, hx'⟩ := clo_mem.1 (List.getElem_mem hjl)
  obtain ⟨k1, k2, k3, k4, k5⟩ := itemC_iff.1 hx'
  have ea : a' = a := by omega
  have eb : b' = b := by omega
  subst ea eb
  unfold ltF at hlt
  rcases h5 with ⟨h5, h6⟩ | ⟨h5, h6, h7⟩
  · rcases k5 with ⟨k5, k6⟩ | ⟨k5, k6, k7⟩
    · omega
    · rw [k7, h6] at e3
      exact k5 (of_decide_eq_true e3.symm)
  · rcases k5 with ⟨k5, k6⟩ | ⟨k5, k6, k7⟩
    · rw [k6, h7] at e3
      exact h5 (of_decide_eq_true e3)
    · omega

theorem clo_len {l : List Foot} {n : Nat} : (cloL l n).length ≤ 2 * n * n := allL_len (fun _ _ => itemC_len _ _ _ _) n n
end Q

/-! Chapter 20: the eight laws over the texts in pure form. Conditions: none. -/
namespace Q
open Tr Go Gr

def sameF (a b : Foot) : Bool := decide (a.1 = b.1) && (decide (a.2.1 = b.2.1) && (decide (a.2.2.1 = b.2.2.1) && a.2.2.2.1 == b.2.2.2.1))
def eqF (c l : List Foot) (i : Nat) : Int := if sameF ((c[i]?).getD f0) ((l[i]?).getD f0) then 0 else 1
theorem sameF_self (p : Foot) : sameF p p = true := by unfold sameF; simp
theorem eqF_self (c : List Foot) : firstBad c.length (eqF c c) = none := firstBad_none fun i hi => by unfold eqF; rw [sameF_self]; rfl

/-- The comparison of two lists of one length. -/
theorem cmp_run {τ : Type} {c l : List Foot} (hcl : c.length = l.length) (hl : c.length ≤ 9223372036854775807) (R E : τ) : Tr.run (fun s2 : Int =>
                  bif Decidable.decide (s2 < (↑(List.length c) : Int)) then
                    Option.bind (Tr.idx c s2) fun x3 =>
                      Option.bind (Tr.idx l s2) fun x4 =>
                        bif !(Decidable.decide (x3.fst = x4.fst) && (Decidable.decide (x3.snd.fst = x4.snd.fst) && (Decidable.decide (x3.snd.snd.fst = x4.snd.snd.fst) && x3.snd.snd.snd.fst == x4.snd.snd.snd.fst))) then
                          Option.some (Sum.inr R)
                        else Option.some (Sum.inl (Go.IntKind.wrap Go.IntKind.i64 (s2 + (1 : Int))))
                  else Option.some (Sum.inr E)) (0 : Int) = some (if (firstBad c.length (eqF c l)).isNone then E else R) := by
  rw [scan_run (n := c.length) (fun i st => st = (i : Int)) (eqF c l) (fun _ => R) E ?_ ?_ ?_ (0 : Int) rfl]
  · unfold pick
    cases firstBad c.length (eqF c l) <;> rfl
  · rintro i _ hi rfl hc
    have hi' : i < l.length := by omega
    refine ⟨((i + 1 : Nat) : Int), ?_, rfl⟩
    unfold eqF at hc
    rw [getD_of hi, getD_of hi'] at hc
    have hs : sameF c[i] l[i] = true := by
      by_cases hs : sameF c[i] l[i] = true
      · exact hs
      · rw [if_neg hs] at hc; simp at hc
    unfold sameF at hs
    simp only [lt_dec hi, cond_true, idx_nat hi, idx_nat hi', Option.bind_some, hs, Bool.not_true, cond_false, wrap_succ hi hl]
  · rintro i _ hi rfl hc
    have hi' : i < l.length := by omega
    unfold eqF at hc
    rw [getD_of hi, getD_of hi'] at hc
    have hs : sameF c[i] l[i] = false := by
      by_cases hs : sameF c[i] l[i] = true
      · rw [if_pos hs] at hc; exact absurd rfl hc
      · simpa using hs
    unfold sameF at hs
    simp only [lt_dec hi, cond_true, idx_nat hi, idx_nat hi', Option.bind_some, hs, Bool.not_false]
  · rintro _ rfl
    simp only [nlt_dec, cond_false]

theorem bsome (b : Bool) (x y : Bool) : (bif b then some x else some y) = some (bif b then x else y) := by cases b <;> rfl

theorem same_self {c : List Foot} (hc : c.length ≤ 100000) : F_law20_same c c = some true := by
  unfold F_law20_same
  rw [decide_eq_true (show (c.length : Int) = (c.length : Int) from rfl)]
  simp only [Bool.not_true, cond_false]
  rw [cmp_run rfl (by omega), eqF_self]
  rfl
theorem ints_self {r : List Int} (hr : r.length ≤ 100000) : F_law20_ints r r = some true := by
  unfold F_law20_ints
  rw [decide_eq_true (show (r.length : Int) = (r.length : Int) from rfl)]
  simp only [Bool.not_true, cond_false]
  refine bind_of (fun x => x = .inl ()) ?_ fun x hx => by rw [hx]; rfl
  refine run_for r.length _ (fun i (s : Int) => s = (i : Int)) ?_ ?_ _ rfl
  · rintro i s hi rfl
    left
    refine ⟨_, ?_, rfl⟩
    simp only [lt_dec hi, cond_true, idx_nat hi, Option.bind_some, decide_true, Bool.not_true, cond_false, wrap_succ hi (show r.length ≤ 9223372036854775807 by omega)]
  · rintro s rfl
    simp only [nlt_dec, cond_false]
    exact ⟨_, rfl, rfl⟩

theorem closureR_neg {s : Int} (hs : s ≤ 0) : F_ref20_closure [] s = some [] := by
  have hd : decide ((0 : Int) < s) = false := decide_eq_false (by omega)
  have ht : ∀ f : Bool, F_ref20_times [] s f = some [] := by
    intro f
    unfold F_ref20_times
    refine bind_of (fun r => r = []) ⟨_, run_inr (by simp only [hd, cond_false]), rfl⟩ ?_
    rintro r rfl
    refine bind_of (fun r => r = []) ⟨_, run_inr (by simp [decide_eq_false]), rfl⟩ ?_
    rintro r rfl
    refine bind_of (fun r => r = []) ⟨_, run_inr (by simp only [hd, cond_false]), rfl⟩ ?_
    rintro r rfl
    rfl
  unfold F_ref20_closure
  rw [ht false, Option.bind_some, ht true, Option.bind_some]
  refine bind_of (fun r => r = []) ⟨_, run_inr (by simp only [hd, cond_false]), rfl⟩ ?_
  rintro r rfl
  rfl

theorem imax_nat (s : Int) : Tr.imax s 0 = ((s.toNat : Nat) : Int) := by
  unfold Tr.imax
  split <;> omega

/-- What both closures are, where the footpaths are sound. -/
theorem closure_any {s : Int} {l : List Foot} (hs : s ≤ 64) (hl : l.length ≤ 4096) (h : ∀ i, i < l.length → pF s l i = 0) : F_footpath_closure l (Tr.imax s 0) = some (cloL l s.toNat) ∧ F_ref20_closure l s = some (cloL l s.toNat) ∧ FOk s.toNat l := by
  rw [imax_nat]
  by_cases h0 : 0 ≤ s
  · have e : ((s.toNat : Nat) : Int) = s := by omega
    have hF : FOk s.toNat l := fok_of (by rw [e]; exact h)
    obtain ⟨h1, h2⟩ := closure_both (by omega) hF hl
    rw [e] at h1 h2
    rw [e]
    exact ⟨h1, h2, hF⟩
  · have hn := neg_nil h (by omega)
    subst hn
    have e : s.toNat = 0 := by omega
    rw [e]
    have hF : FOk 0 ([] : List Foot) := by intro p hp; simp at hp
    obtain ⟨h1, h2⟩ := closure_both (n := 0) (by omega) hF (by simp)
    refine ⟨h1, ?_, hF⟩
    rw [closureR_neg (by omega)]
    exact h2.symm.trans (closureR_neg (Int.le_refl _)) |>.symm

noncomputable def ansC (s : Int) (l : List Foot) : Int × Int := if 512 < l.length then (0, 5) else ansP s l
theorem check20 {s : Int} {l : List Foot} (hl : l.length ≤ 4096) : F_footpath_Check l s = some (ansC s l) ∧ F_ref20_Check l s = some (ansC s l) := by
  unfold F_footpath_Check F_ref20_Check ansC
  rw [sound_val hl, valid_val hl]
  by_cases h : 512 < l.length
  · rw [if_pos h, decide_eq_true (show (512 : Int) < (l.length : Int) by omega)]; exact ⟨rfl, rfl⟩
  · rw [if_neg h, decide_eq_false (show ¬ (512 : Int) < (l.length : Int) by omega)]; exact ⟨rfl, rfl⟩

/-- Close, by both. -/
theorem close_val {s : Int} {l : List Foot} (hl : l.length ≤ 4096) : ∃ (c : List Foot) (e : Int), F_footpath_Close l s = some (c, e) ∧ F_ref20_Close l s = some (c, e) ∧ c.length ≤ 8192 ∧ (e ≠ 0 → c = []) ∧ (e = 0 → s ≤ 64 ∧ (∀ i, i < l.length → pF s l i = 0) ∧ FOk s.toNat l ∧ c = cloL l s.toNat) := by
  unfold F_footpath_Close F_ref20_Close
  by_cases hs : 64 < s
  · rw [decide_eq_true hs]
    exact ⟨[], 5, rfl, rfl, by simp, fun _ => rfl, fun h => by simp at h⟩
  · rw [decide_eq_false hs]
    simp only [cond_false, (check20 hl).1, (check20 hl).2, Option.bind_some]
    by_cases he : (ansC s l).2 = 0
    · rw [decide_eq_true he]
      have hle : ¬ 512 < l.length := by
        intro h
        unfold ansC at he
        rw [if_pos h] at he
        simp at he
      have he' : (ansP s l).2 = 0 := by unfold ansC at he; rw [if_neg hle] at he; exact he
      have hz := (ans_zero he').2
      obtain ⟨h1, h2, hF⟩ := closure_any (by omega) hl hz
      simp only [Bool.not_true, cond_false, h1, h2, Option.bind_some]
      refine ⟨_, 0, rfl, rfl, allL_bound (fun a b => itemC_len _ _ _ _) (by omega) (Nat.le_refl _), fun h => absurd rfl h, fun _ => ⟨by omega, hz, hF, rfl⟩⟩
    · rw [decide_eq_false he]
      simp only [Bool.not_false, cond_true]
      exact ⟨_, _, rfl, rfl, by simp, fun _ => rfl, fun h => absurd h he⟩

/-- IsClosed, by both. -/
theorem isClosed_val {s : Int} {l : List Foot} (hl : l.length ≤ 4096) : ∃ b : Bool, F_footpath_IsClosed l s = some b ∧ F_ref20_IsClosed l s = some b ∧ (s ≤ 64 → (∀ i, i < l.length → pF s l i = 0) → cloL l s.toNat = l → b = true) := by
  unfold F_footpath_IsClosed F_ref20_IsClosed
  by_cases hs : 64 < s
  · rw [decide_eq_true hs]
    exact ⟨false, rfl, rfl, fun h => by omega⟩
  · rw [decide_eq_false hs]
    simp only [cond_false, sound_val hl, valid_val hl, Option.bind_some]
    by_cases he : (ansP s l).2 = 0
    · rw [decide_eq_true he]
      have hz := (ans_zero he).2
      obtain ⟨h1, h2, hF⟩ := closure_any (by omega) hl hz
      simp only [Bool.not_true, cond_false, h1, h2, Option.bind_some]
      by_cases hlen : (cloL l s.toNat).length = l.length
      · rw [decide_eq_true (show ((cloL l s.toNat).length : Int) = (l.length : Int) by omega)]
        simp only [Bool.not_true, cond_false]
        rw [cmp_run hlen (by omega)]
        refine ⟨(firstBad (cloL l s.toNat).length (eqF (cloL l s.toNat) l)).isNone, ?_, ?_, fun _ _ h => ?_⟩
        · cases (firstBad (cloL l s.toNat).length (eqF (cloL l s.toNat) l)).isNone <;> rfl
        · cases (firstBad (cloL l s.toNat).length (eqF (cloL l s.toNat) l)).isNone <;> rfl
        · rw [h, eqF_self]; rfl
      · rw [decide_eq_false (show ¬ ((cloL l s.toNat).length : Int) = (l.length : Int) by omega)]
        exact ⟨false, rfl, rfl, fun _ _ h => absurd (by rw [h]) hlen⟩
    · rw [decide_eq_false he]
      exact ⟨false, rfl, rfl, fun _ h => absurd (by rw [ans_of h]) he⟩

/-! ### The example -/

def exL : List Foot := [(0, 1, 60, true, ()), (1, 2, 60, false, ()), (0, 2, 200, true, ())]
def exC : List Foot := [(0, 1, 60, true, ()), (0, 2, 120, false, ()), (0, 2, 200, true, ()), (1, 2, 60, false, ())]
theorem example_true : F_law20_exampleHolds = some true := by
  have r1 : F_ref20_Close exL 3 = some (exC, 0) := by kernel_rfl
  have r2 : F_ref20_IsClosed exC 3 = some true := by kernel_rfl
  have r3 : F_ref20_IsClosed exL 3 = some false := by kernel_rfl
  have h1 : F_footpath_Close exL 3 = some (exC, 0) := by
    obtain ⟨c, e, g1, g2, _⟩ := close_val (s := 3) (l := exL) (by decide)
    rw [g1, ← g2, r1]
  have h2 : F_footpath_IsClosed exC 3 = some true := by
    obtain ⟨b, g1, g2, _⟩ := isClosed_val (s := 3) (l := exC) (by decide)
    rw [g1, ← g2, r2]
  have h3 : F_footpath_IsClosed exL 3 = some false := by
    obtain ⟨b, g1, g2, _⟩ := isClosed_val (s := 3) (l := exL) (by decide)
    rw [g1, ← g2, r3]
  have t1 : F_footpath_Time exC 0 2 false = some (120, true) := by kernel_rfl
  have t2 : F_footpath_Time exC 0 2 true = some (200, true) := by kernel_rfl
  have t3 : F_footpath_Time exC 2 0 false = some (0, false) := by kernel_rfl
  have c1 : F_footpath_Check exL 2 = some (1, 9) := by kernel_rfl
  have a1 : F_footpath_Around exC 0 150 false = some [1, 2] := by kernel_rfl
  have a2 : F_footpath_Around exC 0 150 true = some [1] := by kernel_rfl
  have i1 : F_law20_ints [1, 2] [1, 2] = some true := by kernel_rfl
  have i2 : F_law20_ints [1] [1] = some true := by kernel_rfl
  have s1 : F_law20_same exC exC = some true := by kernel_rfl
  unfold F_law20_exampleHolds
  rw [show F_law20_example = some exL from rfl]
  simp only [Option.bind_some]
  rw [h1]
  simp only [Option.bind_some, decide_true, Bool.not_true, cond_false]
  rw [show decide ((exC.length : Int) = 4) = true from by kernel_rfl]
  simp only [Bool.not_true, cond_false]
  rw [t1, Option.bind_some, t2, Option.bind_some, t3, Option.bind_some, c1, Option.bind_some]
  rw [show F_law20_same exC [((0 : Int), (1 : Int), (60 : Int), true, ()), ((0 : Int), (2 : Int), (120 : Int), false, ()), ((0 : Int), (2 : Int), (200 : Int), true, ()), ((1 : Int), (2 : Int), (60 : Int), false, ())] = some true from s1]
  simp only [Option.bind_some, cond_true, decide_true, Bool.not_false]
  rw [a1, Option.bind_some, i1]
  simp only [Option.bind_some, cond_true]
  rw [a2, Option.bind_some, i2]
  simp only [Option.bind_some, cond_true]
  rw [h2, Option.bind_some]
  simp only [cond_true]
  rw [h3]
  rfl

theorem checks (l : List Foot) (s : Int) : F_law20_FootpathChecks l s = some true := by
  unfold F_law20_FootpathChecks
  by_cases h : 600 < l.length
  · rw [decide_eq_true (show (600 : Int) < (l.length : Int) by omega), example_true]; rfl
  · rw [decide_eq_false (show ¬ (600 : Int) < (l.length : Int) by omega)]
    simp only [cond_false, (check20 (s := s) (show l.length ≤ 4096 by omega)).1, (check20 (s := s) (show l.length ≤ 4096 by omega)).2, Option.bind_some, decide_true, cond_true, example_true]

theorem closes (l : List Foot) (s : Int) : F_law20_FootpathCloses l s = some true := by
  unfold F_law20_FootpathCloses
  by_cases h : 100 < l.length
  · rw [decide_eq_true (show (100 : Int) < (l.length : Int) by omega), example_true]; rfl
  · rw [decide_eq_false (show ¬ (100 : Int) < (l.length : Int) by omega)]
    simp only [cond_false, bsome, Option.bind_some]
    obtain ⟨c, e, h1, h2, h3, _⟩ := close_val (s := s) (l := l) (by omega)
    cases (bif decide ((12 : Int) < s) then decide (s ≤ 64) else false) with
    | true => rw [example_true]; rfl
    | false => simp only [cond_false, h1, h2, Option.bind_some, same_self (show c.length ≤ 100000 by omega), cond_true, decide_true, example_true]

theorem times (l : List Foot) (a b : Int) : F_law20_FootpathTimes l a b = some true := by
  unfold F_law20_FootpathTimes
  by_cases h : 100 < l.length
  · rw [decide_eq_true (show (100 : Int) < (l.length : Int) by omega), example_true]; rfl
  · rw [decide_eq_false (show ¬ (100 : Int) < (l.length : Int) by omega)]
    have hl : l.length ≤ 1000000 := by omega
    simp only [cond_false, time_val hl, timeR_val hl, Option.bind_some, decide_true, cond_true, example_true, beq_self_eq_true]

theorem arounds (l : List Foot) (a m : Int) : F_law20_FootpathArounds l a m = some true := by
  unfold F_law20_FootpathArounds
  by_cases h : 100 < l.length
  · rw [decide_eq_true (show (100 : Int) < (l.length : Int) by omega), example_true]; rfl
  · rw [decide_eq_false (show ¬ (100 : Int) < (l.length : Int) by omega)]
    obtain ⟨r1, a1, a2, a3, _⟩ := around_same (show l.length ≤ 4096 by omega) a m false
    obtain ⟨r2, c1, c2, c3, _⟩ := around_same (show l.length ≤ 4096 by omega) a m true
    simp only [cond_false, a1, a2, c1, c2, Option.bind_some, ints_self (show r1.length ≤ 100000 by omega), ints_self (show r2.length ≤ 100000 by omega), cond_true, example_true]

theorem isClosed (l : List Foot) (s : Int) : F_law20_FootpathIsClosed l s = some true := by
  unfold F_law20_FootpathIsClosed
  by_cases h : 200 < l.length
  · rw [decide_eq_true (show (200 : Int) < (l.length : Int) by omega), example_true]; rfl
  · rw [decide_eq_false (show ¬ (200 : Int) < (l.length : Int) by omega)]
    simp only [cond_false, bsome, Option.bind_some]
    obtain ⟨b, h1, h2, _⟩ := isClosed_val (s := s) (l := l) (by omega)
    cases (bif decide ((12 : Int) < s) then decide (s ≤ 64) else false) with
    | true => rw [example_true]; rfl
    | false => simp only [cond_false, h1, h2, Option.bind_some, beq_self_eq_true, cond_true, example_true]
theorem checksP (x : ElPs F_law20_FootpathChecksA) (_ : GoodPs F_law20_FootpathChecksA x) : F_law20_FootpathChecks x.1 x.2.1 = some true := checks x.1 x.2.1
theorem closesP (x : ElPs F_law20_FootpathClosesA) (_ : GoodPs F_law20_FootpathClosesA x) : F_law20_FootpathCloses x.1 x.2.1 = some true := closes x.1 x.2.1
theorem timesP (x : ElPs F_law20_FootpathTimesA) (_ : GoodPs F_law20_FootpathTimesA x) : F_law20_FootpathTimes x.1 x.2.1 x.2.2.1 = some true := times x.1 x.2.1 x.2.2.1
theorem aroundsP (x : ElPs F_law20_FootpathAroundsA) (_ : GoodPs F_law20_FootpathAroundsA x) : F_law20_FootpathArounds x.1 x.2.1 x.2.2.1 = some true := arounds x.1 x.2.1 x.2.2.1
theorem isClosedP (x : ElPs F_law20_FootpathIsClosedA) (_ : GoodPs F_law20_FootpathIsClosedA x) : F_law20_FootpathIsClosed x.1 x.2.1 = some true := isClosed x.1 x.2.1
end Q
