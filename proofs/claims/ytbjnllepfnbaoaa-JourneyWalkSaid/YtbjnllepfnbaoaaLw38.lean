/- Plain laws of chapter 38: Walk is the reference's sum; Stops are the first stop and the ends of all legs. -/
import Derived.Test.YtbjnllepfnbaoaaFin38
import Derived.Test.YtbjnllepfnbaoaaTsH
namespace Q
open Tr Go

theorem example_true : F_law38_exampleHolds = some true := by kernel_rfl

theorem wrap_eq (x : Int) : IntKind.wrap .i64 x = (x + 9223372036854775808) % 18446744073709551616 - 9223372036854775808 := by
  simp [IntKind.wrap, IntKind.signed, IntKind.bits]
  split <;> omega

abbrev Leg := El Y44

def toOf (x : Leg) : Int := x.2.2.2.2.2.1
def fromOf (x : Leg) : Int := x.2.2.2.2.1

theorem walk_same (j : El Y34) : F_journey_Walk j = F_ref38_Walk j := by
  unfold F_journey_Walk F_ref38_Walk
  congr 2
  funext s
  congr 1
  congr 1
  funext x
  cases hr : x.1 with
  | true => simp
  | false =>
    simp only [cond_false, Bool.not_false, cond_true]
    by_cases h1 : x.2.2.2.2.2.2.1 < 0
    · rw [show decide (x.2.2.2.2.2.2.1 < 0) = true from decide_eq_true h1, show decide ((0 : Int) ≤ x.2.2.2.2.2.2.1) = false from decide_eq_false (Int.not_le.2 h1)]
      simp
    · rw [show decide (x.2.2.2.2.2.2.1 < 0) = false from decide_eq_false h1, show decide ((0 : Int) ≤ x.2.2.2.2.2.2.1) = true from decide_eq_true (Int.not_lt.1 h1)]
      simp only [cond_false, cond_true]
      by_cases h2 : x.2.2.2.2.2.2.2.1 < x.2.2.2.2.2.2.1
      · rw [show decide (x.2.2.2.2.2.2.2.1 < x.2.2.2.2.2.2.1) = true from decide_eq_true h2, show decide (x.2.2.2.2.2.2.1 ≤ x.2.2.2.2.2.2.2.1) = false from decide_eq_false (Int.not_le.2 h2)]
        simp
      · rw [show decide (x.2.2.2.2.2.2.2.1 < x.2.2.2.2.2.2.1) = false from decide_eq_false h2, show decide (x.2.2.2.2.2.2.1 ≤ x.2.2.2.2.2.2.2.1) = true from decide_eq_true (Int.not_lt.1 h2)]
        simp only [cond_false, cond_true, Option.bind_some]
        by_cases h3 : (14400 : Int) < IntKind.wrap .i64 (x.2.2.2.2.2.2.2.1 - x.2.2.2.2.2.2.1)
        · rw [show decide ((14400 : Int) < IntKind.wrap .i64 (x.2.2.2.2.2.2.2.1 - x.2.2.2.2.2.2.1)) = true from decide_eq_true h3, show decide (IntKind.wrap .i64 (x.2.2.2.2.2.2.2.1 - x.2.2.2.2.2.2.1) ≤ (14400 : Int)) = false from decide_eq_false (Int.not_le.2 h3)]
          rfl
        · rw [show decide ((14400 : Int) < IntKind.wrap .i64 (x.2.2.2.2.2.2.2.1 - x.2.2.2.2.2.2.1)) = false from decide_eq_false h3, show decide (IntKind.wrap .i64 (x.2.2.2.2.2.2.2.1 - x.2.2.2.2.2.2.1) ≤ (14400 : Int)) = true from decide_eq_true (Int.not_lt.1 h3)]
          simp only [cond_false, cond_true]
          have : ∀ a b c : Int, IntKind.wrap .i64 (a + IntKind.wrap .i64 (b - c)) = IntKind.wrap .i64 (IntKind.wrap .i64 (a + b) - c) := by
            intro a b c
            simp only [wrap_eq]
            omega
          rw [this]

theorem walk_some (j : El Y34) (hn : j.1.length ≤ 1000) : ∃ w, F_journey_Walk j = some w := by
  have : ∃ w, F_journey_Walk j = some w ∧ True := by
    unfold F_journey_Walk
    refine run_bind' (fun st => ∃ (a : Int) (i : Nat), st = (a, (i : Int)) ∧ i ≤ j.1.length) (fun st => j.1.length - st.2.toNat) (fun _ => True) ⟨0, 0, rfl, Nat.zero_le _⟩ ?_ (fun r _ => ⟨r, rfl, trivial⟩)
    rintro st ⟨a, i, rfl, hi⟩
    by_cases hil : i < j.1.length
    · have e1 : IntKind.wrap .i64 ((i : Int) + 1) = ((i + 1 : Nat) : Int) := by rw [wrap_i64 (by omega) (by omega)]; omega
      simp only [show decide ((i : Int) < (j.1.length : Int)) = true from decide_eq_true (by omega), cond_true, idx_nat hil, Option.bind_some, e1]
      refine bind_some_iff (fun _ => True) ?_ ?_
      · refine Exists.elim (?_ : ∃ b : Bool, _ = some b) fun b hb => ⟨b, hb, trivial⟩
        cases (j.1[i]).1 with
        | true => exact ⟨_, rfl⟩
        | false =>
          simp only [cond_false]
          cases decide ((j.1[i]).2.2.2.2.2.2.1 < 0) with
          | true => exact ⟨_, rfl⟩
          | false =>
            simp only [cond_false]
            cases decide ((j.1[i]).2.2.2.2.2.2.2.1 < (j.1[i]).2.2.2.2.2.2.1) with
            | true => exact ⟨_, rfl⟩
            | false => exact ⟨_, rfl⟩
      · intro b _
        cases b with
        | true => exact ⟨_, rfl, ⟨_, i + 1, rfl, hil⟩, by simp only [Int.toNat_natCast]; omega⟩
        | false => exact ⟨_, rfl, ⟨_, i + 1, rfl, hil⟩, by simp only [Int.toNat_natCast]; omega⟩
    · have : i = j.1.length := by omega
      subst this
      simp only [show decide ((j.1.length : Int) < (j.1.length : Int)) = false from decide_eq_false (by omega), cond_false]
      exact ⟨_, rfl, trivial⟩
  obtain ⟨w, h, _⟩ := this
  exact ⟨w, h⟩

/-- The stops at which the first legs begin and end. -/
def stopsL : List Leg → List Int
  | [] => []
  | x :: l => fromOf x :: toOf x :: l.map toOf

theorem stops_val (j : El Y34) (hn : j.1.length ≤ 1000) : ∃ z, F_journey_Stops j = some z ∧ z = stopsL j.1 := by
  unfold F_journey_Stops
  refine run_bind' (fun st => ∃ (i : Nat), st = (stopsL (j.1.take i), (i : Int)) ∧ i ≤ j.1.length) (fun st => j.1.length - st.2.toNat) (fun r => r = stopsL j.1) ⟨0, by simp [stopsL], Nat.zero_le _⟩ ?_ (fun r hr => ⟨r, rfl, hr⟩)
  rintro st ⟨i, rfl, hi⟩
  by_cases hil : i < j.1.length
  · have e1 : IntKind.wrap .i64 ((i : Int) + 1) = ((i + 1 : Nat) : Int) := by rw [wrap_i64 (by omega) (by omega)]; omega
    have hlen : ∀ l : List Leg, (stopsL l).length ≤ l.length + 1 := fun l => by cases l <;> simp [stopsL]
    have hl2 := hlen (j.1.take i)
    rw [List.length_take] at hl2
    have hl3 : (stopsL (j.1.take i)).length ≤ i + 1 := Nat.le_trans hl2 (Nat.succ_le_succ (Nat.min_le_left _ _))
    clear hl2
    simp only [show decide ((i : Int) < (j.1.length : Int)) = true from decide_eq_true (by omega), cond_true, idx_nat hil, Option.bind_some, e1]
    have htake : j.1.take (i + 1) = j.1.take i ++ [j.1[i]] := List.take_succ_eq_append_getElem hil
    by_cases h0 : i = 0
    · subst h0
      simp only [List.take_zero, stopsL, List.length_nil, List.length_cons, Nat.zero_add, show decide (((0 : Nat) : Int) = 0) = true from rfl, cond_true, show Tr.guardB (decide (1 ≤ Tr.maxApp)) = some () from rfl, Option.bind_some, List.nil_append]
      refine ⟨_, rfl, ⟨1, ?_, hil⟩, by simp only [Int.toNat_natCast]; omega⟩
      rw [htake]
      simp [stopsL, fromOf, toOf]
    · have eg : Tr.guardB (Decidable.decide ((stopsL (j.1.take i)).length + [(j.1[i]).2.2.2.2.2.1].length ≤ Tr.maxApp)) = some () := by
        exact guard_app (by show (stopsL (j.1.take i)).length + 1 ≤ 4294967296; omega)
      simp only [show decide ((i : Int) = 0) = false from decide_eq_false (by omega), cond_false, Option.bind_some]
      rw [show Tr.guardB _ = some () from eg]
      simp only [Option.bind_some]
      refine ⟨_, rfl, ⟨i + 1, ?_, hil⟩, by simp only [Int.toNat_natCast]; omega⟩
      rw [htake]
      cases hl : j.1.take i with
      | nil =>
        have h5 : (j.1.take i).length = 0 := by rw [hl]; rfl
        rw [List.length_take, Nat.min_eq_left hi] at h5
        exact absurd h5 h0
      | cons x l => simp [stopsL, toOf]
  · have : i = j.1.length := by omega
    subst this
    simp only [show decide ((j.1.length : Int) < (j.1.length : Int)) = false from decide_eq_false (by omega), cond_false, List.take_length]
    exact ⟨_, rfl, rfl⟩

theorem stops_len (l : List Leg) : (stopsL l).length = if l.length = 0 then 0 else l.length + 1 := by cases l <;> simp [stopsL]
theorem stops_to {l : List Leg} {i : Nat} (h : i < l.length) : (stopsL l)[i + 1]? = some (toOf l[i]) := by
  cases l with
  | nil => simp at h
  | cons x l =>
    cases i with
    | zero => rfl
    | succ i => simp at h; simp [stopsL, h]
theorem stops_from {l : List Leg} (h : 0 < l.length) : (stopsL l)[0]? = some (fromOf l[0]) := by
  cases l with
  | nil => simp at h
  | cons x l => rfl

theorem walks (j : El Y34) : F_law38_JourneyWalk j = some true := by
  have key : ∃ z, F_law38_JourneyWalk j = some z ∧ z = true := by
    unfold F_law38_JourneyWalk
    by_cases hn : 300 < j.1.length
    · simp only [show decide ((300 : Int) < (j.1.length : Int)) = true from decide_eq_true (by omega), cond_true, example_true, Option.bind_some]
      exact ⟨_, rfl, rfl⟩
    · simp only [show decide ((300 : Int) < (j.1.length : Int)) = false from decide_eq_false (by omega), cond_false]
      obtain ⟨_, hs, rfl⟩ := stops_val j (by omega)
      obtain ⟨w, hw⟩ := walk_some j (by omega)
      rw [hs]
      simp only [Option.bind_some]
      have e0 : IntKind.wrap .i64 ((j.1.length : Int) + 1) = ((j.1.length + 1 : Nat) : Int) := by rw [wrap_i64 (by omega) (by omega)]; omega
      have hsl := stops_len j.1
      have hcond : (bif Decidable.decide ((0 : Int) < (j.1.length : Int)) then
          bif !Decidable.decide (((stopsL j.1).length : Int) = IntKind.wrap .i64 ((j.1.length : Int) + (1 : Int))) then Option.some Bool.true
          else bif Decidable.decide ((j.1.length : Int) = (0 : Int)) then Option.some !Decidable.decide (((stopsL j.1).length : Int) = (0 : Int)) else Option.some Bool.false
        else bif Decidable.decide ((j.1.length : Int) = (0 : Int)) then Option.some !Decidable.decide (((stopsL j.1).length : Int) = (0 : Int)) else Option.some Bool.false) = some false := by
        rw [e0, hsl]
        by_cases h0 : j.1.length = 0
        · rw [h0]; rfl
        · rw [if_neg h0, decide_eq_true (show (0 : Int) < (j.1.length : Int) by omega), decide_eq_true (show ((j.1.length + 1 : Nat) : Int) = ((j.1.length + 1 : Nat) : Int) from rfl), decide_eq_false (show ¬ ((j.1.length : Int) = 0) by omega)]
          rfl
      rw [show (bif Decidable.decide ((0 : Int) < (j.1.length : Int)) then _ else _ : Option Bool) = some false from hcond]
      simp only [Option.bind_some, cond_false]
      refine run_bind' (fun st => ∃ i : Nat, st = (i : Int) ∧ i ≤ j.1.length) (fun st => j.1.length - st.toNat) (fun r => r = .inl ()) ⟨0, rfl, Nat.zero_le _⟩ ?_ ?_
      · rintro st ⟨i, rfl, hi⟩
        by_cases hil : i < j.1.length
        · have e1 : IntKind.wrap .i64 ((i : Int) + 1) = ((i + 1 : Nat) : Int) := by rw [wrap_i64 (by omega) (by omega)]; omega
          have hne : j.1.length ≠ 0 := by omega
          rw [if_neg hne] at hsl
          have hi1 : i + 1 < (stopsL j.1).length := by omega
          have h1 : (stopsL j.1)[i + 1] = toOf j.1[i] := by have := stops_to hil; rw [List.getElem?_eq_getElem hi1] at this; exact Option.some.inj this
          simp only [show decide ((i : Int) < (j.1.length : Int)) = true from decide_eq_true (by omega), cond_true, e1, idx_nat hi1, idx_nat hil, Option.bind_some, h1]
          rw [show decide (toOf j.1[i] = (j.1[i]).2.2.2.2.2.1) = true from decide_eq_true rfl]
          simp only [Bool.not_true, cond_false]
          by_cases h0 : i = 0
          · subst h0
            have h00 : 0 < (stopsL j.1).length := by omega
            have h2 : (stopsL j.1)[0] = fromOf j.1[0] := by have := stops_from hil; rw [List.getElem?_eq_getElem h00] at this; exact Option.some.inj this
            simp only [show decide (((0 : Nat) : Int) = 0) = true from rfl, cond_true]
            rw [show (0 : Int) = ((0 : Nat) : Int) from rfl, idx_nat h00, idx_nat hil]
            simp only [Option.bind_some, h2]
            rw [show decide (fromOf j.1[0] = (j.1[0]).2.2.2.2.1) = true from decide_eq_true rfl]
            simp only [Bool.not_true, cond_false]
            exact ⟨_, rfl, ⟨1, rfl, hil⟩, by simp only [Int.toNat_natCast]; omega⟩
          · simp only [show decide ((i : Int) = 0) = false from decide_eq_false (by omega), cond_false, Option.bind_some]
            exact ⟨_, rfl, ⟨i + 1, rfl, hil⟩, by simp only [Int.toNat_natCast]; omega⟩
        · have : i = j.1.length := by omega
          subst this
          simp only [show decide ((j.1.length : Int) < (j.1.length : Int)) = false from decide_eq_false (by omega), cond_false]
          exact ⟨_, rfl, rfl⟩
      · rintro r rfl
        simp only [Sum.elim_inl, hw, ← walk_same, Option.bind_some, decide_true, cond_true, example_true]
        exact ⟨_, rfl, rfl⟩
  obtain ⟨z, h, rfl⟩ := key
  exact h
end Q
