/- Plain laws: shortest walks and closures. -/
import Derived.Test.YtibiblkamaajeaaGreatFin41
import Derived.Test.YtibiblkamaajeaaGreatTsH
import Derived.Test.YtibiblkamaajeaaGreatTtA
namespace Gr
inductive Wk (Ed : Nat → Nat → Int → Prop) (s : Nat) : Nat → Int → Prop
  | nil : Wk Ed s s 0
  | snoc {u v : Nat} {d w : Int} (h : Wk Ed s u d) (e : Ed u v w) : Wk Ed s v (d + w)
def Least (Ed : Nat → Nat → Int → Prop) (s v : Nat) (d : Int) : Prop := Wk Ed s v d ∧ ∀ d', Wk Ed s v d' → d ≤ d'
theorem Wk.nonneg {Ed : Nat → Nat → Int → Prop} (hw : ∀ u v w, Ed u v w → 0 ≤ w) {s v : Nat} {d : Int} (h : Wk Ed s v d) : 0 ≤ d := by
  induction h with
  | nil => exact Int.le_refl _
  | snoc h e ih => have := hw _ _ _ e; omega
theorem frontier {Ed : Nat → Nat → Int → Prop} (hw : ∀ u v w, Ed u v w → 0 ≤ w) {s : Nat} {S : Nat → Prop} {L : Nat → Int} {O : Nat → Int → Prop} {m : Int}
    (hA : ∀ u, S u → ∀ d, Wk Ed s u d → L u ≤ d) (hC : S s ∨ ∃ l, O s l ∧ l ≤ 0) (hD : ∀ u v w, S u → Ed u v w → S v ∨ ∃ l, O v l ∧ l ≤ L u + w) (hm : ∀ v l, O v l → m ≤ l) :
    ∀ {v : Nat} {d : Int}, Wk Ed s v d → S v ∨ m ≤ d := by
  intro v d h
  induction h with
  | nil =>
    rcases hC with h | ⟨l, h1, h2⟩
    · exact .inl h
    · exact .inr (Int.le_trans (hm _ _ h1) h2)
  | @snoc u v d w h e ih =>
    rcases ih with hu | hu
    · rcases hD u v w hu e with h1 | ⟨l, h1, h2⟩
      · exact .inl h1
      · have := hA u hu d h
        have := hm _ _ h1
        exact .inr (by omega)
    · have := hw _ _ _ e
      exact .inr (by omega)
theorem closed_all {Ed : Nat → Nat → Int → Prop} {s : Nat} {S : Nat → Prop} {L : Nat → Int} {O : Nat → Int → Prop}
    (hC : S s ∨ ∃ l, O s l ∧ l ≤ 0) (hD : ∀ u v w, S u → Ed u v w → S v ∨ ∃ l, O v l ∧ l ≤ L u + w) (hO : ∀ v l, ¬ O v l) : ∀ {v : Nat} {d : Int}, Wk Ed s v d → S v := by
  intro v d h
  induction h with
  | nil => exact hC.resolve_right fun ⟨l, h, _⟩ => hO _ _ h
  | @snoc u v d w h e ih => exact (hD u v w ih e).resolve_right fun ⟨l, h, _⟩ => hO _ _ h
theorem Wk.dom {Ed Ed' : Nat → Nat → Int → Prop} (h : ∀ u v w, Ed u v w → ∃ w', Ed' u v w' ∧ w' ≤ w) {s v : Nat} {d : Int} (k : Wk Ed s v d) : ∃ d', Wk Ed' s v d' ∧ d' ≤ d := by
  induction k with
  | nil => exact ⟨0, .nil, Int.le_refl _⟩
  | snoc k e ih =>
    obtain ⟨d', h1, h2⟩ := ih
    obtain ⟨w', h3, h4⟩ := h _ _ _ e
    exact ⟨_, .snoc h1 h3, by omega⟩
inductive Wb (Ed : Nat → Nat → Int → Prop) (k : Nat) : Nat → Nat → Int → Prop
  | one {i j : Nat} {w : Int} (e : Ed i j w) : Wb Ed k i j w
  | cons {i m j : Nat} {w d : Int} (e : Ed i m w) (hm : m < k) (h : Wb Ed k m j d) : Wb Ed k i j (w + d)
theorem Wb.nonneg {Ed : Nat → Nat → Int → Prop} (hw : ∀ u v w, Ed u v w → 0 ≤ w) {k i j : Nat} {d : Int} (h : Wb Ed k i j d) : 0 ≤ d := by
  induction h with
  | one e => exact hw _ _ _ e
  | cons e _ _ ih => have := hw _ _ _ e; omega
theorem Wb.round {Ed : Nat → Nat → Int → Prop} (hw : ∀ u v w, Ed u v w → 0 ≤ w) {k i j : Nat} {d : Int} (h : Wb Ed (k + 1) i j d) :
    (∃ d', d' ≤ d ∧ Wb Ed k i j d') ∨ ∃ d1 d2, d1 + d2 ≤ d ∧ Wb Ed k i k d1 ∧ Wb Ed k k j d2 := by
  induction h with
  | one e => exact .inl ⟨_, Int.le_refl _, .one e⟩
  | @cons i m j w d e hm h ih =>
    by_cases hmk : m = k
    · subst hmk
      rcases ih with ⟨d', h1, h2⟩ | ⟨d1, d2, h1, h2, h3⟩
      · exact .inr ⟨w, d', by omega, .one e, h2⟩
      · have := h2.nonneg hw
        exact .inr ⟨w, d2, by omega, .one e, h3⟩
    · have hm' : m < k := by omega
      rcases ih with ⟨d', h1, h2⟩ | ⟨d1, d2, h1, h2, h3⟩
      · exact .inl ⟨w + d', by omega, .cons e hm' h2⟩
      · exact .inr ⟨w + d1, d2, by omega, .cons e hm' h2, h3⟩
theorem Wb.mono {Ed : Nat → Nat → Int → Prop} {k k' i j : Nat} {d : Int} (hk : k ≤ k') (h : Wb Ed k i j d) : Wb Ed k' i j d := by
  induction h with
  | one e => exact .one e
  | cons e hm _ ih => exact .cons e (by omega) ih
theorem Wb.app {Ed : Nat → Nat → Int → Prop} {k i m j : Nat} {d1 d2 : Int} (hm : m < k) (h1 : Wb Ed k i m d1) (h2 : Wb Ed k m j d2) : Wb Ed k i j (d1 + d2) := by
  induction h1 with
  | one e => exact .cons e hm h2
  | @cons i m' j' w d e hm' _ ih =>
    have := Wb.cons e hm' (ih hm h2)
    rwa [← Int.add_assoc] at this
theorem Wb.wk {Ed : Nat → Nat → Int → Prop} {k s i j : Nat} {d d0 : Int} (h0 : Wk Ed s i d0) (h : Wb Ed k i j d) : Wk Ed s j (d0 + d) := by
  induction h generalizing d0 with
  | one e => exact .snoc h0 e
  | cons e _ _ ih =>
    have := ih (.snoc h0 e)
    rwa [Int.add_assoc] at this
theorem Wb.snoc {Ed : Nat → Nat → Int → Prop} {k i j v : Nat} {d w : Int} (hj : j < k) (h : Wb Ed k i j d) (e : Ed j v w) : Wb Ed k i v (d + w) := h.app hj (.one e)
theorem Wk.wb {Ed : Nat → Nat → Int → Prop} {n s v : Nat} {d : Int} (hn : ∀ u v w, Ed u v w → u < n ∧ v < n) (h : Wk Ed s v d) : (v = s ∧ d = 0) ∨ Wb Ed n s v d := by
  induction h with
  | nil => exact .inl ⟨rfl, rfl⟩
  | @snoc u v d w h e ih =>
    rcases ih with ⟨rfl, rfl⟩ | h1
    · right; rw [Int.zero_add]; exact .one e
    · exact .inr (h1.snoc (hn _ _ _ e).1 e)
end Gr
namespace Q
open Tr Go
abbrev Lab := Int × Int × Int × Unit
abbrev Nd := Lab × Int × Unit
abbrev Hp := Unit × List Nd × Int × Unit
def lessL (a b : Lab) : Bool := decide (a.2.1 < b.2.1 ∨ (a.2.1 = b.2.1 ∧ a.2.2.1 < b.2.2.1))
def bef (a b : Nd) : Bool := decide (a.1.2.1 < b.1.2.1 ∨ (a.1.2.1 = b.1.2.1 ∧ (a.1.2.2.1 < b.1.2.2.1 ∨ (a.1.2.2.1 = b.1.2.2.1 ∧ a.2.1 < b.2.1))))
def le (a b : Nd) : Prop := ¬ (b.1.2.1 < a.1.2.1 ∨ (b.1.2.1 = a.1.2.1 ∧ (b.1.2.2.1 < a.1.2.2.1 ∨ (b.1.2.2.1 = a.1.2.2.1 ∧ b.2.1 < a.2.1))))
theorem le_refl (a : Nd) : le a a := by unfold le; omega
theorem le_trans {a b c : Nd} (h : le a b) (k : le b c) : le a c := by unfold le at *; omega
theorem le_of_bef {a b : Nd} (h : bef a b = true) : le a b := by
  unfold bef at h; unfold le
  have := of_decide_eq_true h
  omega
theorem le_of_not {a b : Nd} (h : bef a b = false) : le b a := by
  unfold bef at h
  exact of_decide_eq_false h
theorem le_len {a b : Nd} (h : le a b) : a.1.2.1 ≤ b.1.2.1 := by unfold le at h; omega
def nd0 : Nd := ((0, 0, 0, ()), 0, ())
def at' (l : List Nd) (k : Nat) : Nd := (l[k]?).getD nd0
theorem at_get {l : List Nd} {k : Nat} (h : k < l.length) : l[k]? = some (at' l k) := by simp [at', h]
theorem at_set {l : List Nd} {i : Nat} (h : i < l.length) (b : Nd) (k : Nat) : at' (l.set i b) k = if k = i then b else at' l k := by
  unfold at'
  rw [List.getElem?_set]
  by_cases hk : i = k
  · subst hk; simp [h]
  · rw [if_neg hk, if_neg (fun e => hk e.symm)]
def swapL (l : List Nd) (i k : Nat) : List Nd := (l.set i (at' l k)).set k (at' l i)
theorem swap_len (l : List Nd) (i k : Nat) : (swapL l i k).length = l.length := by simp [swapL]
theorem at_swap {l : List Nd} {i k : Nat} (hi : i < l.length) (hk : k < l.length) (j : Nat) : at' (swapL l i k) j = if j = k then at' l i else if j = i then at' l k else at' l j := by
  unfold swapL
  rw [at_set (by simpa using hk), at_set hi]
theorem swap_perm {l : List Nd} {i k : Nat} (hi : i < l.length) (hk : k < l.length) : (swapL l i k).Perm l := by
  have h1 : at' l k = l[k] := by simp [at', hk]
  have h2 : at' l i = l[i] := by simp [at', hi]
  unfold swapL
  rw [h1, h2]
  exact List.set_set_perm hi hk
theorem less_val (a b : Lab) : F97 a b = some (lessL a b) := by
  unfold F97 lessL
  by_cases h1 : a.2.1 < b.2.1
  · simp [h1]
  · by_cases h2 : a.2.1 = b.2.1
    · simp [h2]
    · simp [h1, h2]
theorem before_val {l : List Nd} {c : Int} {i k : Nat} (hi : i < l.length) (hk : k < l.length) : F21 ((), l, c, ()) (i : Int) (k : Int) = some (((), l, c, ()), bef (at' l i) (at' l k)) := by
  unfold F21
  simp only [inb_nat hi, inb_nat hk, at_get hi, at_get hk, Option.bind_some, less_val]
  unfold lessL bef
  by_cases h1 : (at' l i).1.2.1 < (at' l k).1.2.1 ∨ ((at' l i).1.2.1 = (at' l k).1.2.1 ∧ (at' l i).1.2.2.1 < (at' l k).1.2.2.1)
  · rw [decide_eq_true h1]
    simp only [cond_true]
    rw [decide_eq_true (by omega)]
  · rw [decide_eq_false h1]
    simp only [cond_false]
    by_cases h2 : (at' l k).1.2.1 < (at' l i).1.2.1 ∨ ((at' l k).1.2.1 = (at' l i).1.2.1 ∧ (at' l k).1.2.2.1 < (at' l i).1.2.2.1)
    · rw [decide_eq_true h2]
      simp only [cond_true]
      rw [decide_eq_false (by omega)]
    · rw [decide_eq_false h2]
      simp only [cond_false]
      refine congrArg (fun b => some ((((), l, c, ()) : Hp), b)) (decide_eq_decide.2 ⟨fun h => ?_, fun h => ?_⟩)
      · exact .inr ⟨by omega, .inr ⟨by omega, h⟩⟩
      · rcases h with h | ⟨_, h | ⟨_, h⟩⟩
        · omega
        · omega
        · exact h
theorem swap_val {l : List Nd} {c : Int} {i k : Nat} (hi : i < l.length) (hk : k < l.length) : F23 ((), l, c, ()) (i : Int) (k : Int) = some ((), swapL l i k, c, ()) := by
  unfold F23
  have hk2 : k < (List.set l i (at' l k)).length := by simpa using hk
  simp only [inb_nat hi, inb_nat hk, at_get hi, at_get hk, Option.bind_some, inb_nat hk2]
  rw [List.getElem?_eq_getElem hk2]
  rfl
def HeapOk (l : List Nd) : Prop := ∀ k, 0 < k → k < l.length → le (at' l ((k - 1) / 2)) (at' l k)
theorem heap_min {l : List Nd} (h : HeapOk l) : ∀ k, k < l.length → le (at' l 0) (at' l k) := by
  intro k
  induction k using Nat.strongRecOn with
  | ind k ih =>
    intro hk
    by_cases h0 : k = 0
    · subst h0; exact le_refl _
    · exact le_trans (ih ((k - 1) / 2) (by omega) (by omega)) (h k (by omega) hk)
def Up (l : List Nd) (i : Nat) : Prop :=
  i < l.length ∧ (∀ k, 0 < k → k < l.length → k ≠ i → le (at' l ((k - 1) / 2)) (at' l k)) ∧ ∀ k, 0 < k → k < l.length → (k - 1) / 2 = i → 0 < i → le (at' l ((i - 1) / 2)) (at' l k)
theorem up_step {l : List Nd} {i : Nat} (h : Up l i) (hi : 0 < i) (hb : bef (at' l i) (at' l ((i - 1) / 2)) = true) : Up (swapL l i ((i - 1) / 2)) ((i - 1) / 2) := by
  obtain ⟨h1, h2, h3⟩ := h
  have hp : (i - 1) / 2 < l.length := by omega
  have hle := le_of_bef hb
  refine ⟨by rw [swap_len]; exact hp, fun k k1 k2 k3 => ?_, fun k k1 k2 k3 k4 => ?_⟩
  · rw [swap_len] at k2
    rw [at_swap h1 hp, at_swap h1 hp]
    by_cases hki : k = i
    · subst hki
      rw [if_pos rfl, if_neg (by omega), if_pos rfl]
      exact hle
    · rw [if_neg k3, if_neg hki]
      by_cases hq : (k - 1) / 2 = i
      · rw [if_neg (by omega), if_pos hq]
        exact h3 k k1 k2 hq hi
      · by_cases hq2 : (k - 1) / 2 = (i - 1) / 2
        · rw [if_pos hq2]
          have := h2 k k1 k2 hki
          rw [hq2] at this
          exact le_trans hle this
        · rw [if_neg hq2, if_neg hq]
          exact h2 k k1 k2 hki
  · rw [swap_len] at k2
    rw [at_swap h1 hp, at_swap h1 hp, if_neg (by omega), if_neg (by omega)]
    by_cases hki : k = i
    · subst hki
      rw [if_neg (by omega), if_pos rfl]
      exact h2 _ k4 hp (by omega)
    · rw [if_neg (by omega), if_neg hki]
      have a := h2 _ k4 hp (by omega)
      have b := h2 k k1 k2 hki
      rw [k3] at b
      exact le_trans a b
theorem push_val {l : List Nd} {c : Int} (x : Lab) (h : HeapOk l) (hl : l.length < 2147483648) :
    ∃ z : Hp, F20 ((), l, c, ()) x = some z ∧ z.2.2.1 = IntKind.wrap .i64 (c + 1) ∧ HeapOk z.2.1 ∧ z.2.1.Perm (l ++ [(x, c, ())]) := by
  have hlen : (l ++ [(x, c, ())]).length = l.length + 1 := by simp
  have h0 : Up (l ++ [(x, c, ())]) l.length := by
    refine ⟨by omega, fun k k1 k2 k3 => ?_, fun k k1 k2 k3 k4 => by omega⟩
    have e : ∀ j, j < l.length → at' (l ++ [(x, c, ())]) j = at' l j := fun j hj => by simp [at', List.getElem?_append_left hj]
    rw [e _ (by omega), e _ (by omega)]
    exact h k k1 (by omega)
  unfold F20
  have eg : Tr.guardB (Decidable.decide (l.length + [((x, c, ()) : Nd)].length ≤ Tr.maxApp)) = some () := by
    rw [decide_eq_true (by simp [Tr.maxApp]; omega)]; rfl
  have ew : IntKind.wrap .i64 (((l ++ [(x, c, ())]).length : Int) - 1) = (l.length : Int) := by
    rw [hlen, wrap_i64 (by omega) (by omega)]; omega
  simp only [eg, Option.bind_some, ew]
  refine run_bind (fun s => ∃ (m : List Nd) (i : Nat), s = (((), m, IntKind.wrap .i64 (c + 1), ()), (i : Int)) ∧ Up m i ∧ m.Perm (l ++ [(x, c, ())])) (fun s => s.2.toNat)
    (fun r => ∃ m : List Nd, r = ((), m, IntKind.wrap .i64 (c + 1), ()) ∧ HeapOk m ∧ m.Perm (l ++ [(x, c, ())])) ⟨_, l.length, rfl, h0, .refl _⟩ ?_ ?_
  · rintro s ⟨m, i, rfl, hU, hP⟩
    have hml : m.length = l.length + 1 := by rw [hP.length_eq, hlen]
    by_cases hi : 0 < i
    · have e1 : IntKind.wrap .i64 ((i : Int) - 1) = ((i - 1 : Nat) : Int) := by
        have := hU.1
        rw [wrap_i64 (by omega) (by omega)]; omega
      have e2 : Int.tdiv ((i - 1 : Nat) : Int) 2 = (((i - 1) / 2 : Nat) : Int) := by
        rw [Int.tdiv_eq_ediv_of_nonneg (by omega)]; omega
      have e3 : IntKind.wrap .i64 ((((i - 1) / 2 : Nat)) : Int) = (((i - 1) / 2 : Nat) : Int) := by
        have := hU.1
        exact wrap_i64 (by omega) (by omega)
      have hp : (i - 1) / 2 < m.length := by have := hU.1; omega
      simp only [show decide ((0 : Int) < (i : Int)) = true from decide_eq_true (by omega), cond_true, e1, e2, e3, before_val hU.1 hp, Option.bind_some]
      cases hb : bef (at' m i) (at' m ((i - 1) / 2)) with
      | true =>
        left
        refine ⟨_, by simp only [cond_true, swap_val hU.1 hp, Option.bind_some], ⟨swapL m i ((i - 1) / 2), (i - 1) / 2, rfl, up_step hU hi hb, (swap_perm hU.1 hp).trans hP⟩, ?_⟩
        simp only [Int.toNat_natCast]; omega
      | false =>
        right
        refine ⟨_, rfl, m, rfl, fun k k1 k2 => ?_, hP⟩
        by_cases hk : k = i
        · subst hk; exact le_of_not hb
        · exact hU.2.1 k k1 k2 hk
    · right
      have : i = 0 := by omega
      subst this
      refine ⟨_, by simp only [show decide ((0 : Int) < ((0 : Nat) : Int)) = false by simp, cond_false], m, rfl, fun k k1 k2 => hU.2.1 k k1 k2 (by omega), hP⟩
  · rintro r ⟨m, rfl, h3, h4⟩
    exact ⟨_, rfl, rfl, h3, h4⟩
def Dn (l : List Nd) (i : Nat) : Prop :=
  (∀ k, 0 < k → k < l.length → (k - 1) / 2 ≠ i → le (at' l ((k - 1) / 2)) (at' l k)) ∧ ∀ k, 0 < k → k < l.length → (k - 1) / 2 = i → 0 < i → le (at' l ((i - 1) / 2)) (at' l k)
theorem dn_step {l : List Nd} {i c : Nat} (h : Dn l i) (hi : i < l.length) (hc : c < l.length) (hpc : (c - 1) / 2 = i) (hc0 : 0 < c) (hb : bef (at' l c) (at' l i) = true) (hs : ∀ k, 0 < k → k < l.length → (k - 1) / 2 = i → le (at' l c) (at' l k)) : Dn (swapL l i c) c := by
  obtain ⟨h1, h2⟩ := h
  have hle := le_of_bef hb
  refine ⟨fun k k1 k2 k3 => ?_, fun k k1 k2 k3 k4 => ?_⟩
  · rw [swap_len] at k2
    rw [at_swap hi hc, at_swap hi hc, if_neg k3]
    by_cases hki : k = i
    · subst hki
      rw [if_neg (by omega), if_neg (by omega), if_pos rfl]
      exact h2 c hc0 hc hpc k1
    · by_cases hp : (k - 1) / 2 = i
      · rw [if_pos hp]
        by_cases hkc : k = c
        · rw [if_pos hkc]; exact hle
        · rw [if_neg hkc, if_neg hki]; exact hs k k1 k2 hp
      · rw [if_neg hp, if_neg (by rintro rfl; exact hp hpc), if_neg hki]
        exact h1 k k1 k2 hp
  · rw [swap_len] at k2
    rw [hpc, at_swap hi hc, at_swap hi hc, if_neg (by omega), if_pos rfl, if_neg (by omega), if_neg (by omega)]
    have := h1 k k1 k2 (by omega)
    rw [k3] at this
    exact this
theorem dn_done {l : List Nd} {i : Nat} (h : Dn l i) (hs : ∀ k, 0 < k → k < l.length → (k - 1) / 2 = i → le (at' l i) (at' l k)) : HeapOk l := by
  intro k k1 k2
  by_cases hp : (k - 1) / 2 = i
  · rw [hp]; exact hs k k1 k2 hp
  · exact h.1 k k1 k2 hp
theorem sink_val {l : List Nd} {c : Int} (h : Dn l 0) (hl : l.length < 2147483648) : ∃ z : Hp, F22 ((), l, c, ()) = some z ∧ z.2.2.1 = c ∧ HeapOk z.2.1 ∧ z.2.1.Perm l := by
  unfold F22
  simp only
  refine run_bind (fun s => ∃ (m : List Nd) (i : Nat), s = (((), m, c, ()), (i : Int)) ∧ (i < m.length ∨ i = 0) ∧ Dn m i ∧ m.Perm l) (fun s => l.length - s.2.toNat)
    (fun r => ∃ m : List Nd, r = ((), m, c, ()) ∧ HeapOk m ∧ m.Perm l) ⟨l, 0, rfl, .inr rfl, h, .refl _⟩ ?_ ?_
  · rintro s ⟨m, i, rfl, hi, hD, hP⟩
    have hml : m.length = l.length := hP.length_eq
    have e1 : IntKind.wrap .i64 ((2 : Int) * (i : Int)) = ((2 * i : Nat) : Int) := by rw [wrap_i64 (by omega) (by omega)]; omega
    have e2 : IntKind.wrap .i64 (((2 * i : Nat) : Int) + 1) = ((2 * i + 1 : Nat) : Int) := by rw [wrap_i64 (by omega) (by omega)]; omega
    have e3 : IntKind.wrap .i64 (((2 * i + 1 : Nat) : Int) + 1) = ((2 * i + 2 : Nat) : Int) := by rw [wrap_i64 (by omega) (by omega)]; omega
    simp only [e1, e2, e3]
    by_cases hk : m.length ≤ 2 * i + 1
    · right
      refine ⟨_, by simp only [show decide ((m.length : Int) ≤ ((2 * i + 1 : Nat) : Int)) = true from decide_eq_true (by omega), cond_true], m, rfl, dn_done hD fun k k1 k2 k3 => by omega, hP⟩
    · simp only [show decide ((m.length : Int) ≤ ((2 * i + 1 : Nat) : Int)) = false from decide_eq_false (by omega), cond_false]
      have him : i < m.length := by omega
      -- one child is the lesser
      have fin : ∀ ch : Nat, (ch = 2 * i + 1 ∨ ch = 2 * i + 2) → ch < m.length → (∀ k, 0 < k → k < m.length → (k - 1) / 2 = i → le (at' m ch) (at' m k)) →
          (∃ s' : Hp × Int, (Option.bind (F21 ((), m, c, ()) (ch : Int) (i : Int)) fun x3 =>
                bif !x3.snd then Option.some (Sum.inr ((), x3.fst.snd.fst, x3.fst.snd.snd.fst, ()))
                else Option.bind (F23 ((), x3.fst.snd.fst, x3.fst.snd.snd.fst, ()) (i : Int) (ch : Int)) fun x4 => Option.some (Sum.inl (((), x4.snd.fst, x4.snd.snd.fst, ()), (ch : Int)))) = some (Sum.inl s' : (Hp × Int) ⊕ Hp) ∧
              (∃ (m' : List Nd) (i' : Nat), s' = (((), m', c, ()), (i' : Int)) ∧ (i' < m'.length ∨ i' = 0) ∧ Dn m' i' ∧ m'.Perm l) ∧ l.length - s'.2.toNat < l.length - (i : Int).toNat) ∨
          ∃ r : Hp, (Option.bind (F21 ((), m, c, ()) (ch : Int) (i : Int)) fun x3 =>
                bif !x3.snd then Option.some (Sum.inr ((), x3.fst.snd.fst, x3.fst.snd.snd.fst, ()))
                else Option.bind (F23 ((), x3.fst.snd.fst, x3.fst.snd.snd.fst, ()) (i : Int) (ch : Int)) fun x4 => Option.some (Sum.inl (((), x4.snd.fst, x4.snd.snd.fst, ()), (ch : Int)))) = some (Sum.inr r : (Hp × Int) ⊕ Hp) ∧
              ∃ m' : List Nd, r = ((), m', c, ()) ∧ HeapOk m' ∧ m'.Perm l := by
        intro ch hch hcl hs
        rw [before_val hcl him]
        simp only [Option.bind_some]
        cases hb : bef (at' m ch) (at' m i) with
        | true =>
          left
          refine ⟨_, by simp only [Bool.not_true, cond_false, swap_val him hcl, Option.bind_some], ⟨swapL m i ch, ch, rfl, .inl (by rw [swap_len]; exact hcl), dn_step hD him hcl (by omega) (by omega) hb hs, (swap_perm him hcl).trans hP⟩, ?_⟩
          simp only [Int.toNat_natCast]; omega
        | false =>
          right
          exact ⟨_, by simp only [Bool.not_false, cond_true], m, rfl, dn_done hD fun k k1 k2 k3 => le_trans (le_of_not hb) (hs k k1 k2 k3), hP⟩
      by_cases hk2 : 2 * i + 2 < m.length
      · simp only [show decide (((2 * i + 2 : Nat) : Int) < (m.length : Int)) = true from decide_eq_true (by omega), cond_true, before_val hk2 (show 2 * i + 1 < m.length by omega), Option.bind_some]
        cases hb : bef (at' m (2 * i + 2)) (at' m (2 * i + 1)) with
        | true =>
          simp only [cond_true, Option.bind_some]
          exact fin (2 * i + 2) (.inr rfl) hk2 fun k k1 k2 k3 => by
            have : k = 2 * i + 1 ∨ k = 2 * i + 2 := by omega
            rcases this with rfl | rfl
            · exact le_of_bef hb
            · exact le_refl _
        | false =>
          simp only [cond_false, Option.bind_some]
          exact fin (2 * i + 1) (.inl rfl) (by omega) fun k k1 k2 k3 => by
            have : k = 2 * i + 1 ∨ k = 2 * i + 2 := by omega
            rcases this with rfl | rfl
            · exact le_refl _
            · exact le_of_not hb
      · simp only [show decide (((2 * i + 2 : Nat) : Int) < (m.length : Int)) = false from decide_eq_false (by omega), cond_false]
        exact fin (2 * i + 1) (.inl rfl) (by omega) fun k k1 k2 k3 => by
          have : k = 2 * i + 1 := by omega
          subst this
          exact le_refl _
  · rintro r ⟨m, rfl, h3, h4⟩
    exact ⟨_, rfl, rfl, h3, h4⟩
theorem pop_empty (c : Int) : F19 ((), [], c, ()) = some (((), [], c, ()), (0, 0, 0, ()), false) := by
  unfold F19 F18 F17
  rfl
theorem pop_val {l : List Nd} {c : Int} (h : HeapOk l) (hne : l ≠ []) (hl : l.length < 2147483648) :
    ∃ l' x, F19 ((), l, c, ()) = some (((), l', c, ()), x.1, true) ∧ HeapOk l' ∧ l.Perm (x :: l') ∧ ∀ y ∈ l, x.1.2.1 ≤ y.1.2.1 := by
  have hpos : 0 < l.length := List.length_pos_iff.2 hne
  have hlast : l.length - 1 < l.length := by omega
  have hpeek : F18 ((), l, c, ()) = some (((), l, c, ()), (at' l 0).1, true) := by
    unfold F18 F17
    simp only [Option.bind_some, show decide ((l.length : Int) = 0) = false from decide_eq_false (by omega), cond_false]
    rw [show (0 : Int) = ((0 : Nat) : Int) from rfl, inb_nat hpos]
    simp only [Option.bind_some, at_get hpos]
  have ew : IntKind.wrap .i64 ((l.length : Int) - 1) = ((l.length - 1 : Nat) : Int) := by rw [wrap_i64 (by omega) (by omega)]; omega
  have hsl : Tr.sliceB (swapL l 0 (l.length - 1)).length (swapL l 0 (l.length - 1)).length none (some ((l.length - 1 : Nat) : Int)) = some (0, l.length - 1) := by
    unfold Tr.sliceB
    rw [swap_len]
    simp
  have hD : Dn (List.take (l.length - 1) (swapL l 0 (l.length - 1))) 0 := by
    refine ⟨fun k k1 k2 k3 => ?_, fun k k1 k2 k3 k4 => by omega⟩
    simp [swap_len] at k2
    have e : ∀ j, j < l.length - 1 → j ≠ 0 → at' (List.take (l.length - 1) (swapL l 0 (l.length - 1))) j = at' l j := fun j hj hj0 => by
      have : at' (List.take (l.length - 1) (swapL l 0 (l.length - 1))) j = at' (swapL l 0 (l.length - 1)) j := by
        unfold at'; rw [List.getElem?_take, if_pos hj]
      rw [this, at_swap hpos hlast, if_neg (by omega), if_neg hj0]
    rw [e _ (by omega) (by omega), e _ (by omega) (by omega)]
    exact h k k1 (by omega)
  obtain ⟨⟨_, l', c', _⟩, h1, rfl, h2, h3⟩ := sink_val (c := c) hD (by simp [swap_len]; omega)
  refine ⟨l', at' l 0, ?_, h2, ?_, fun y hy => ?_⟩
  · unfold F19
    rw [hpeek]
    simp only [Option.bind_some, Bool.not_true, cond_false, ew]
    rw [show (0 : Int) = ((0 : Nat) : Int) from rfl, swap_val hpos hlast]
    simp only [Option.bind_some, hsl, h1]
  · have hsw := swap_perm hpos hlast
    have e : swapL l 0 (l.length - 1) = List.take (l.length - 1) (swapL l 0 (l.length - 1)) ++ [at' l 0] := by
      conv => lhs; rw [← List.take_append_drop (l.length - 1) (swapL l 0 (l.length - 1))]
      congr 1
      have hl1 : (swapL l 0 (l.length - 1)).length = l.length := swap_len ..
      rw [List.drop_eq_getElem_cons (by omega)]
      have h4 : List.drop (l.length - 1 + 1) (swapL l 0 (l.length - 1)) = [] := List.drop_eq_nil_of_le (by omega)
      rw [h4]
      have h5 := at_swap hpos hlast (l.length - 1)
      rw [if_pos rfl] at h5
      rw [← h5]
      simp [at', hl1, hlast]
    rw [e] at hsw
    exact hsw.symm.trans ((List.perm_append_comm).trans (List.Perm.cons _ h3.symm))
  · obtain ⟨i, hi, rfl⟩ := List.getElem_of_mem hy
    have := le_len (heap_min h i hi)
    simpa [at', hi] using this
end Q
namespace Q
open Tr Go Gr
abbrev Edge := Int × Int × Int × Unit
abbrev Adj := List (Int × List Edge)
def nbs (m : Adj) (u : Nat) : List Edge := Option.getD (Tr.amGet (Tr.keyEq (.int .i64)) (u : Int) m) []
structure AdjOk (n : Nat) (m : Adj) (Ed : Nat → Nat → Int → Prop) : Prop where
  mem : ∀ u, u < n → ∀ y ∈ nbs m u, ∃ v : Nat, v < n ∧ y.2.1 = (v : Int) ∧ 0 ≤ y.2.2.1 ∧ y.2.2.1 ≤ 1073741824 ∧ Ed u v y.2.2.1
  all : ∀ u v w, Ed u v w → u < n ∧ ∃ y ∈ nbs m u, y.2.1 = (v : Int) ∧ y.2.2.1 = w
  len : ∀ u, u < n → (nbs m u).length ≤ 4096
def isSet (x : Lab) : Bool := decide (0 ≤ x.2.2.1)
def Set' (o : List Lab) (i : Nat) : Prop := ∃ x, o[i]? = some x ∧ 0 ≤ x.2.2.1
def lenOf (o : List Lab) (i : Nat) : Int := ((o[i]?).getD (0, 0, 0, ())).2.1
structure DI (n : Nat) (Ed : Nat → Nat → Int → Prop) (s : Nat) (o : List Lab) (h : List Nd) : Prop where
  len : o.length = n
  heap : HeapOk h
  lab : ∀ i x, o[i]? = some x → (x.2.2.1 < 0 → x.2.1 = -1) ∧ (0 ≤ x.2.2.1 → Least Ed s i x.2.1)
  opn : ∀ d ∈ h, ∃ v : Nat, v < n ∧ d.1.1 = (v : Int) ∧ Wk Ed s v d.1.2.1 ∧ 0 ≤ d.1.2.2.1 ∧ d.1.2.2.1 ≤ (o.countP isSet : Nat) ∧ d.1.2.1 ≤ d.1.2.2.1 * 1073741824
  src : Set' o s ∨ ∃ d ∈ h, d.1.1 = (s : Int) ∧ d.1.2.1 ≤ 0
  out : ∀ u v w, Set' o u → Ed u v w → Set' o v ∨ ∃ d ∈ h, d.1.1 = (v : Int) ∧ d.1.2.1 ≤ lenOf o u + w
  size : h.length + (n - o.countP isSet) * 4096 ≤ 1 + n * 4096
theorem cnt_le (o : List Lab) : o.countP isSet ≤ o.length := List.countP_le_length
theorem dij_drop {n : Nat} {Ed : Nat → Nat → Int → Prop} {s : Nat} {o : List Lab} {h h' : List Nd} {x : Nd} {v : Nat} (hI : DI n Ed s o h) (hh : HeapOk h') (hp : h.Perm (x :: h')) (hv : x.1.1 = (v : Int)) (hs : Set' o v) : DI n Ed s o h' where
  len := hI.len
  heap := hh
  lab := hI.lab
  opn := fun d hd => hI.opn d (hp.mem_iff.2 (List.mem_cons_of_mem _ hd))
  src := by
    rcases hI.src with h1 | ⟨d, h1, h2, h3⟩
    · exact .inl h1
    · rcases List.mem_cons.1 (hp.mem_iff.1 h1) with rfl | h4
      · have : s = v := by have := h2.symm.trans hv; omega
        subst this; exact .inl hs
      · exact .inr ⟨d, h4, h2, h3⟩
  out := fun u w' w hu he => by
    rcases hI.out u w' w hu he with h1 | ⟨d, h1, h2, h3⟩
    · exact .inl h1
    · rcases List.mem_cons.1 (hp.mem_iff.1 h1) with rfl | h4
      · have : w' = v := by have := h2.symm.trans hv; omega
        subst this; exact .inl hs
      · exact .inr ⟨d, h4, h2, h3⟩
  size := by
    have := hp.length_eq
    have := hI.size
    simp at *
    omega
theorem set_old {o : List Lab} {v : Nat} {x : Lab} (hx : 0 ≤ x.2.2.1) {i : Nat} (h : Set' o i) : Set' (o.set v x) i := by
  obtain ⟨y, h1, h2⟩ := h
  by_cases hi : v = i
  · subst hi
    have hl : v < o.length := (List.getElem?_eq_some_iff.1 h1).1
    exact ⟨x, by simp [hl], hx⟩
  · exact ⟨y, by rw [List.getElem?_set_ne hi]; exact h1, h2⟩
theorem dij_settle {n : Nat} {Ed : Nat → Nat → Int → Prop} {m : Adj} (hA : AdjOk n m Ed) {s : Nat} {o : List Lab} {h h' h2 : List Nd} {x : Nd} {v : Nat} {y : Lab} (hI : DI n Ed s o h) (hv : v < n) (hp : h.Perm (x :: h')) (hxv : x.1.1 = (v : Int))
    (hmin : ∀ d ∈ h, x.1.2.1 ≤ d.1.2.1) (ho : o[v]? = some y) (hy : y.2.2.1 < 0) (hh2 : HeapOk h2) (hl2 : h2.length ≤ h'.length + (nbs m v).length) (h1 : ∀ d ∈ h', d ∈ h2)
    (h3 : ∀ d ∈ h2, d ∈ h' ∨ ∃ e ∈ nbs m v, d.1.1 = e.2.1 ∧ d.1.2.1 = x.1.2.1 + e.2.2.1 ∧ d.1.2.2.1 = x.1.2.2.1 + 1)
    (h4 : ∀ e ∈ nbs m v, (∃ t : Nat, e.2.1 = (t : Int) ∧ Set' (o.set v x.1) t) ∨ ∃ d ∈ h2, d.1.1 = e.2.1 ∧ d.1.2.1 = x.1.2.1 + e.2.2.1) : DI n Ed s (o.set v x.1) h2 := by
  have hw : ∀ u v w, Ed u v w → 0 ≤ w := fun u v w e => by
    obtain ⟨hu, z, hz, h5, rfl⟩ := hA.all u v w e
    obtain ⟨v', _, _, h6, _⟩ := hA.mem u hu z hz
    exact h6
  have hxm : x ∈ h := hp.mem_iff.2 (by simp)
  obtain ⟨v', hv', hv2, hwk, he0, hec, hel⟩ := hI.opn x hxm
  have : v' = v := by have := hv2.symm.trans hxv; omega
  subst this
  have hol : v' < o.length := by rw [hI.len]; exact hv
  have hget : (o.set v' x.1)[v']? = some x.1 := by simp [hol]
  have hne : ∀ {i}, i ≠ v' → (o.set v' x.1)[i]? = o[i]? := fun {i} hi => List.getElem?_set_ne (fun e => hi e.symm)
  have hov : o[v'] = y := by
    have := (List.getElem?_eq_some_iff.1 ho).2; exact this
  have hcnt : (o.set v' x.1).countP isSet = o.countP isSet + 1 := by
    rw [List.countP_set hol, hov]
    have a : isSet y = false := by simp [isSet]; omega
    have b : isSet x.1 = true := by simp [isSet]; exact he0
    rw [a, b]; simp
  have hle : (o.set v' x.1).countP isSet ≤ n := by
    have := cnt_le (o.set v' x.1)
    rw [List.length_set, hI.len] at this; exact this
  have hleast : Least Ed s v' x.1.2.1 := by
    refine ⟨hwk, fun d hd => ?_⟩
    have := frontier (S := Set' o) (L := lenOf o) (O := fun v l => ∃ d ∈ h, d.1.1 = (v : Int) ∧ d.1.2.1 = l) (m := x.1.2.1) hw (fun u hu d hd => by
      obtain ⟨z, hz, hz0⟩ := hu
      have := ((hI.lab u z hz).2 hz0).2 d hd
      simpa [lenOf, hz] using this) (by
      rcases hI.src with h5 | ⟨d, h5, h6, h7⟩
      · exact .inl h5
      · exact .inr ⟨_, ⟨d, h5, h6, rfl⟩, h7⟩) (fun u v w hu he => by
      rcases hI.out u v w hu he with h5 | ⟨d, h5, h6, h7⟩
      · exact .inl h5
      · exact .inr ⟨_, ⟨d, h5, h6, rfl⟩, h7⟩) (fun v l ⟨d, h5, _, h6⟩ => h6 ▸ hmin d h5) hd
    rcases this with ⟨z, hz, hz0⟩ | h5
    · rw [ho] at hz; cases hz; omega
    · exact h5
  have hlen' : ∀ u, Set' o u → lenOf (o.set v' x.1) u = lenOf o u := fun u hu => by
    obtain ⟨z, hz, hz0⟩ := hu
    have hne' : u ≠ v' := by rintro rfl; rw [ho] at hz; cases hz; omega
    unfold lenOf
    rw [hne hne']
  refine ⟨by rw [List.length_set]; exact hI.len, hh2, fun i z hz => ?_, fun d hd => ?_, ?_, fun u w' w hu he => ?_, ?_⟩
  · by_cases hi : i = v'
    · subst hi
      rw [hget] at hz; cases hz
      exact ⟨fun h => by omega, fun _ => hleast⟩
    · rw [hne hi] at hz
      exact hI.lab i z hz
  · rcases h3 d hd with h5 | ⟨e, he, h5, h6, h7⟩
    · obtain ⟨t, a1, a2, a3, a4, a5, a6⟩ := hI.opn d (hp.mem_iff.2 (List.mem_cons_of_mem _ h5))
      exact ⟨t, a1, a2, a3, a4, by rw [hcnt]; omega, a6⟩
    · obtain ⟨t, a1, a2, a3, a4, a5⟩ := hA.mem v' hv e he
      refine ⟨t, a1, h5.trans a2, by rw [h6]; exact .snoc hwk a5, by omega, by rw [hcnt, h7]; omega, ?_⟩
      rw [h6, h7]; omega
  · rcases hI.src with h5 | ⟨d, h5, h6, h7⟩
    · exact .inl (set_old he0 h5)
    · rcases List.mem_cons.1 (hp.mem_iff.1 h5) with rfl | h8
      · have : s = v' := by have := h6.symm.trans hxv; omega
        subst this; exact .inl ⟨_, hget, he0⟩
      · exact .inr ⟨d, h1 d h8, h6, h7⟩
  · by_cases huv : u = v'
    · subst huv
      obtain ⟨_, e, he', h5, rfl⟩ := hA.all u w' w he
      rcases h4 e he' with ⟨t, h6, h7⟩ | ⟨d, h6, h7, h8⟩
      · have : t = w' := by have := h6.symm.trans h5; omega
        subst this; exact .inl h7
      · refine .inr ⟨d, h6, h7.trans h5, ?_⟩
        rw [h8]; simp [lenOf, hget]
    · have hu' : Set' o u := by
        obtain ⟨z, hz, hz0⟩ := hu
        rw [hne huv] at hz; exact ⟨z, hz, hz0⟩
      rcases hI.out u w' w hu' he with h5 | ⟨d, h5, h6, h7⟩
      · exact .inl (set_old he0 h5)
      · rcases List.mem_cons.1 (hp.mem_iff.1 h5) with rfl | h8
        · have : w' = v' := by have := h6.symm.trans hxv; omega
          subst this; exact .inl ⟨_, hget, he0⟩
        · exact .inr ⟨d, h1 d h8, h6, by rw [hlen' u hu']; exact h7⟩
  · have a := hp.length_eq
    have b := hI.size
    have c := hA.len v' hv
    rw [hcnt] at hle ⊢
    simp at a
    have e : n - o.countP isSet = (n - (o.countP isSet + 1)) + 1 := by omega
    rw [e] at b
    omega
end Q
namespace Q
open Tr Go Gr
def LabOk (n : Nat) (Ed : Nat → Nat → Int → Prop) (s : Nat) (o : List Lab) : Prop :=
  o.length = n ∧ ∀ i x, o[i]? = some x → (Least Ed s i x.2.1 ∧ 0 ≤ x.2.1) ∨ ((∀ d, ¬ Wk Ed s i d) ∧ x.2.1 = -1)
theorem labels_val {n : Nat} (hn : n ≤ 64) {m : Adj} {Ed : Nat → Nat → Int → Prop} (hA : AdjOk n m Ed) {s : Nat} (hs : s < n) :
    ∃ z, F95 (n : Int) m (s : Int) = some z ∧ z.1 = m ∧ LabOk n Ed s z.2 := by
  have hw : ∀ u v w, Ed u v w → 0 ≤ w := fun u v w e => by
    obtain ⟨hu, z, hz, h5, rfl⟩ := hA.all u v w e
    obtain ⟨v', _, _, h6, _⟩ := hA.mem u hu z hz
    exact h6
  unfold F95
  have eg : Tr.guardB (Decidable.decide ((0 : Int) ≤ (n : Int) ∧ (n : Int) ≤ (n : Int) ∧ (n : Int) ≤ (Tr.maxApp : Int))) = some () := by
    rw [decide_eq_true (by simp [Tr.maxApp]; omega)]; rfl
  rw [show Tr.guardB _ = some () from eg]
  simp only [Option.bind_some, List.length_replicate, Int.toNat_natCast]
  refine run_bind' (fun st => ∃ (o : List Lab) (i : Nat), st = (o, (i : Int)) ∧ o.length = n ∧ i ≤ n ∧ ∀ j, j < i → o[j]? = some ((j : Int), -1, -1, ())) (fun st => n - st.2.toNat)
    (fun o => o.length = n ∧ ∀ j, j < n → o[j]? = some ((j : Int), -1, -1, ())) ⟨_, 0, rfl, by simp, Nat.zero_le _, fun j hj => by omega⟩ ?_ ?_
  · rintro st ⟨o, i, rfl, h1, h2, h3⟩
    by_cases hi : i < n
    · have hio : i < o.length := by omega
      have e1 : IntKind.wrap .i64 ((i : Int) + 1) = ((i + 1 : Nat) : Int) := by rw [wrap_i64 (by omega) (by omega)]; omega
      simp only [show decide ((i : Int) < (n : Int)) = true from decide_eq_true (by omega), cond_true, inb_nat hio, Option.bind_some, List.getElem?_eq_getElem hio, e1]
      refine ⟨_, rfl, ⟨_, i + 1, rfl, by simpa using h1, hi, fun j hj => ?_⟩, by simp only [Int.toNat_natCast]; omega⟩
      by_cases hji : j = i
      · subst hji; simp [hio]
      · rw [List.getElem?_set_ne (fun e => hji e.symm)]; exact h3 j (by omega)
    · have : i = n := by omega
      subst this
      simp only [show decide ((i : Int) < (i : Int)) = false by simp, cond_false]
      exact ⟨_, rfl, h1, h3⟩
  · rintro o0 ⟨ho1, ho2⟩
    obtain ⟨⟨_, h0, c0, _⟩, hpush, _, hok, hperm⟩ := push_val (l := []) (c := 0) ((s : Int), 0, 0, ()) (fun k k1 k2 => by simp at k2) (by simp)
    simp only at hok hperm
    unfold F24
    simp only [Option.bind_some]
    rw [show F20 _ _ = some _ from hpush]
    simp only [Option.bind_some]
    have hmem0 : ∀ d, d ∈ h0 ↔ d = ((((s : Int), 0, 0, ()), 0, ()) : Nd) := fun d => by rw [hperm.mem_iff]; simp
    have hcnt0 : o0.countP isSet = 0 := by
      rw [List.countP_eq_zero]
      intro a ha
      obtain ⟨i, hi, rfl⟩ := List.getElem_of_mem ha
      have := ho2 i (by omega)
      rw [List.getElem?_eq_getElem hi] at this
      simp only [Option.some.injEq] at this
      rw [this]; simp [isSet]
    have hI0 : DI n Ed s o0 h0 := {
      len := ho1
      heap := hok
      lab := fun i x hx => by
        have hi : i < n := by have := (List.getElem?_eq_some_iff.1 hx).1; omega
        rw [ho2 i hi] at hx; cases hx
        exact ⟨fun _ => rfl, fun h => by simp at h⟩
      opn := fun d hd => by
        rw [hmem0] at hd; subst hd
        exact ⟨s, hs, rfl, .nil, Int.le_refl _, by simp, by simp⟩
      src := .inr ⟨_, (hmem0 _).2 rfl, rfl, Int.le_refl _⟩
      out := fun u v w hu => by
        obtain ⟨x, hx, hx0⟩ := hu
        have hi : u < n := by have := (List.getElem?_eq_some_iff.1 hx).1; omega
        rw [ho2 u hi] at hx; cases hx
        simp at hx0
      size := by
        have := hperm.length_eq
        rw [hcnt0]; simp at this; omega }
    refine run_bind' (fun st => ∃ (o : List Lab) (h : List Nd) (c : Int), st = (o, (), h, c, ()) ∧ DI n Ed s o h) (fun st => (n - st.1.countP isSet) * 8192 + st.2.2.1.length)
      (fun o => LabOk n Ed s o) ⟨o0, h0, c0, rfl, hI0⟩ ?_ (fun o ho => ⟨_, rfl, rfl, ho⟩)
    rintro st ⟨o, h, c, rfl, hI⟩
    simp only
    have hsz0 : h.length ≤ 300000 := by have := hI.size; omega
    have hsz : h.length < 2147483648 := by omega
    by_cases hne : h = []
    · subst hne
      rw [pop_empty]
      simp only [Option.bind_some, Bool.not_false, cond_true]
      refine ⟨_, rfl, hI.len, fun i x hx => ?_⟩
      by_cases hx0 : 0 ≤ x.2.2.1
      · have := (hI.lab i x hx).2 hx0
        exact .inl ⟨this, this.1.nonneg hw⟩
      · refine .inr ⟨fun d hd => ?_, (hI.lab i x hx).1 (by omega)⟩
        have := closed_all (S := Set' o) (L := lenOf o) (O := fun _ _ => False) (by
          rcases hI.src with h5 | ⟨d, h5, _⟩
          · exact .inl h5
          · simp at h5) (fun u v w hu he => by
          rcases hI.out u v w hu he with h5 | ⟨d, h5, _⟩
          · exact .inl h5
          · simp at h5) (fun _ _ h => h) hd
        obtain ⟨z, hz, hz0⟩ := this
        rw [hx] at hz; cases hz
        exact hx0 hz0
    · obtain ⟨h', x, hpop, hok', hp, hmin⟩ := pop_val (c := c) hI.heap hne hsz
      rw [hpop]
      simp only [Option.bind_some, Bool.not_true, cond_false]
      obtain ⟨v, hv, hxv, hwk, he0, hec, hel⟩ := hI.opn x (hp.mem_iff.2 (by simp))
      have hvo : v < o.length := by rw [hI.len]; exact hv
      have hpl := hp.length_eq
      simp only [List.length_cons] at hpl
      have hcn : o.countP isSet ≤ n := by have := cnt_le o; rw [hI.len] at this; exact this
      simp only [hxv, inb_nat hvo, Option.bind_some, List.getElem?_eq_getElem hvo]
      have hov : o[v]? = some o[v] := List.getElem?_eq_getElem hvo
      by_cases hset : 0 ≤ (o[v]).2.2.1
      · simp only [show decide ((0 : Int) ≤ (o[v]).2.2.1) = true from decide_eq_true (by omega), cond_true]
        exact ⟨_, rfl, ⟨o, h', c, rfl, dij_drop hI hok' hp hxv ⟨_, hov, hset⟩⟩, by simp only; omega⟩
      · simp only [show decide ((0 : Int) ≤ (o[v]).2.2.1) = false from decide_eq_false (by omega), cond_false]
        have hadj : Option.getD (Tr.amGet (Tr.keyEq Y3) (v : Int) m) [] = nbs m v := rfl
        have hcv := hA.len v hv
        have hx1 : 0 ≤ x.1.2.1 := hwk.nonneg hw
        have hxb : x.1.2.1 ≤ 68719476736 := by omega
        refine run_bind' (fun st => ∃ (g : List Nd) (c' : Int) (j : Nat), st = (((), g, c', ()), (j : Int)) ∧ j ≤ (nbs m v).length ∧ HeapOk g ∧ g.length ≤ h'.length + j ∧ (∀ d ∈ h', d ∈ g) ∧
            (∀ d ∈ g, d ∈ h' ∨ ∃ e ∈ nbs m v, d.1.1 = e.2.1 ∧ d.1.2.1 = x.1.2.1 + e.2.2.1 ∧ d.1.2.2.1 = x.1.2.2.1 + 1) ∧
            ∀ k e, k < j → (nbs m v)[k]? = some e → (∃ t : Nat, e.2.1 = (t : Int) ∧ Set' (o.set v x.1) t) ∨ ∃ d ∈ g, d.1.1 = e.2.1 ∧ d.1.2.1 = x.1.2.1 + e.2.2.1) (fun st => (nbs m v).length - st.2.toNat)
          (fun r => ∃ (g : List Nd) (c' : Int), r = ((), g, c', ()) ∧ HeapOk g ∧ g.length ≤ h'.length + (nbs m v).length ∧ (∀ d ∈ h', d ∈ g) ∧
            (∀ d ∈ g, d ∈ h' ∨ ∃ e ∈ nbs m v, d.1.1 = e.2.1 ∧ d.1.2.1 = x.1.2.1 + e.2.2.1 ∧ d.1.2.2.1 = x.1.2.2.1 + 1) ∧
            ∀ e ∈ nbs m v, (∃ t : Nat, e.2.1 = (t : Int) ∧ Set' (o.set v x.1) t) ∨ ∃ d ∈ g, d.1.1 = e.2.1 ∧ d.1.2.1 = x.1.2.1 + e.2.2.1)
          ⟨h', c, 0, rfl, Nat.zero_le _, hok', Nat.le_refl _, fun _ h => h, fun _ h => .inl h, fun k e hk => by omega⟩ ?_ ?_
        · rintro st ⟨g, c', j, rfl, hj, hg, hgl, g1, g2, g3⟩
          simp only [hadj]
          by_cases hjl : j < (nbs m v).length
          · obtain ⟨t, ht, he1, he2, he3, he4⟩ := hA.mem v hv _ (List.getElem_mem hjl)
            have hto : t < (List.set o v x.1).length := by rw [List.length_set, hI.len]; exact ht
            have e1 : IntKind.wrap .i64 ((j : Int) + 1) = ((j + 1 : Nat) : Int) := by rw [wrap_i64 (by omega) (by omega)]; omega
            simp only [show decide ((j : Int) < ((nbs m v).length : Int)) = true from decide_eq_true (by omega), cond_true, inb_nat hjl, Option.bind_some, List.getElem?_eq_getElem hjl, he1, inb_nat hto, List.getElem?_eq_getElem hto, e1]
            by_cases hts : (List.set o v x.1)[t].2.2.1 < 0
            · have e2 : IntKind.wrap .i64 (x.1.2.1 + ((nbs m v)[j]).2.2.1) = x.1.2.1 + ((nbs m v)[j]).2.2.1 := wrap_i64 (by omega) (by omega)
              have e3 : IntKind.wrap .i64 (x.1.2.2.1 + 1) = x.1.2.2.1 + 1 := wrap_i64 (by omega) (by omega)
              simp only [show decide ((List.set o v x.1)[t].2.2.1 < 0) = true from decide_eq_true (by omega), cond_true, e2, e3]
              obtain ⟨⟨_, g', c2, _⟩, hpush', _, hok2, hperm2⟩ := push_val (c := c') ((t : Int), x.1.2.1 + ((nbs m v)[j]).2.2.1, x.1.2.2.1 + 1, ()) hg (by omega)
              simp only at hok2 hperm2
              rw [show F20 _ _ = some _ from hpush']
              simp only [Option.bind_some]
              have hm2 : ∀ d, d ∈ g' ↔ d ∈ g ∨ d = (((t : Int), x.1.2.1 + ((nbs m v)[j]).2.2.1, x.1.2.2.1 + 1, ()), c', ()) := fun d => by rw [hperm2.mem_iff]; simp
              refine ⟨_, rfl, ⟨g', c2, j + 1, rfl, hjl, hok2, ?_, fun d hd => (hm2 d).2 (.inl (g1 d hd)), fun d hd => ?_, fun k e hk hke => ?_⟩, by simp only [Int.toNat_natCast]; omega⟩
              · have := hperm2.length_eq; simp at this; omega
              · rcases (hm2 d).1 hd with h5 | rfl
                · exact g2 d h5
                · exact .inr ⟨_, List.getElem_mem hjl, he1.symm, rfl, rfl⟩
              · by_cases hkj : k = j
                · subst hkj
                  rw [List.getElem?_eq_getElem hjl] at hke; cases hke
                  exact .inr ⟨_, (hm2 _).2 (.inr rfl), he1.symm, rfl⟩
                · rcases g3 k e (by omega) hke with h5 | ⟨d, h5, h6⟩
                  · exact .inl h5
                  · exact .inr ⟨d, (hm2 d).2 (.inl h5), h6⟩
            · simp only [show decide ((List.set o v x.1)[t].2.2.1 < 0) = false from decide_eq_false (by omega), cond_false]
              refine ⟨_, rfl, ⟨g, c', j + 1, rfl, hjl, hg, by omega, g1, g2, fun k e hk hke => ?_⟩, by simp only [Int.toNat_natCast]; omega⟩
              by_cases hkj : k = j
              · subst hkj
                rw [List.getElem?_eq_getElem hjl] at hke; cases hke
                exact .inl ⟨t, he1, _, List.getElem?_eq_getElem hto, by omega⟩
              · exact g3 k e (by omega) hke
          · have : j = (nbs m v).length := by omega
            subst this
            simp only [show decide (((nbs m v).length : Int) < ((nbs m v).length : Int)) = false by simp, cond_false]
            refine ⟨_, rfl, g, c', rfl, hg, hgl, g1, g2, fun e he => ?_⟩
            obtain ⟨k, hk, rfl⟩ := List.getElem_of_mem he
            exact g3 k _ hk (List.getElem?_eq_getElem hk)
        · rintro r ⟨g, c', rfl, hg, hgl, g1, g2, g3⟩
          have hD := dij_settle hA hI hv hp hxv hmin hov (by omega) hg hgl g1 g2 g3
          refine ⟨_, rfl, ⟨_, g, c', rfl, hD⟩, ?_⟩
          have hcnt : (o.set v x.1).countP isSet = o.countP isSet + 1 := by
            rw [List.countP_set hvo]
            have a : isSet o[v] = false := by simp [isSet]; omega
            have b : isSet x.1 = true := by simp [isSet]; exact he0
            rw [a, b]; simp
          have hcn' : (o.set v x.1).countP isSet ≤ n := by have := cnt_le (o.set v x.1); rw [hD.len] at this; exact this
          simp only
          rw [hcnt] at hcn' ⊢
          have e : n - o.countP isSet = (n - (o.countP isSet + 1)) + 1 := by omega
          rw [e]
          omega
end Q
namespace Q
open Tr Go Gr
open Classical in
theorem amGet_set {t : Ty} {β : Type} (hk : t.key = true) (k k' : El t) (v : β) : ∀ (l : List (El t × β)), amGet (keyEq t) k (amSet (keyEq t) k' v l) = if k = k' then some v else amGet (keyEq t) k l
  | [] => by
    simp only [amSet, amGet]
    by_cases h : k = k'
    · rw [(keyEq_iff hk).2 h, if_pos h]; rfl
    · rw [if_neg h]
      cases hb : keyEq t k k' with
      | true => exact absurd ((keyEq_iff hk).1 hb) h
      | false => rfl
  | e :: l => by
    simp only [amSet]
    cases hb : keyEq t k' e.1 with
    | true =>
      have he := (keyEq_iff hk).1 hb
      simp only [cond_true, amGet]
      by_cases h : k = k'
      · rw [(keyEq_iff hk).2 h, if_pos h]; rfl
      · rw [if_neg h, ← he]
        cases hc : keyEq t k k' with
        | true => exact absurd ((keyEq_iff hk).1 hc) h
        | false => rfl
    | false =>
      simp only [cond_false, amGet, amGet_set hk k k' v l]
      cases hc : keyEq t k e.1 with
      | false => rfl
      | true =>
        have he := (keyEq_iff hk).1 hc
        have : k ≠ k' := by
          rintro rfl
          rw [hc] at hb; cases hb
        simp only [cond_true]
        rw [if_neg this]
theorem nbs_set (m : Adj) (k : Int) (v : List Edge) (u : Nat) : nbs (amSet (keyEq (.int .i64)) k v m) u = if (u : Int) = k then v else nbs m u := by
  unfold nbs
  rw [amGet_set rfl]
  by_cases h : (u : Int) = k
  · rw [if_pos h, if_pos h]; rfl
  · rw [if_neg h, if_neg h]
def EdL (E : List Edge) (u v : Nat) (w : Int) : Prop := ∃ e ∈ E, e.1 = (u : Int) ∧ e.2.1 = (v : Int) ∧ e.2.2.1 = w
theorem neighbors_val (E : List Edge) (hE : E.length ≤ 4096) : ∃ z, F98 E false = some z ∧ ∀ u : Nat, nbs z u = E.filter fun e => decide (e.1 = (u : Int)) := by
  unfold F98
  refine run_bind' (fun st => ∃ (m : Adj) (i : Nat), st = (m, (i : Int)) ∧ i ≤ E.length ∧ ∀ k : Int, Option.getD (amGet (keyEq (.int .i64)) k m) [] = (E.take i).filter fun e => decide (e.1 = k)) (fun st => E.length - st.2.toNat)
    (fun m => ∀ u : Nat, nbs m u = E.filter fun e => decide (e.1 = (u : Int))) ⟨[], 0, rfl, Nat.zero_le _, fun k => by simp [amGet]⟩ ?_ (fun m hm => ⟨_, rfl, hm⟩)
  rintro st ⟨m, i, rfl, hi, hm⟩
  by_cases hil : i < E.length
  · have e1 : IntKind.wrap .i64 ((i : Int) + 1) = ((i + 1 : Nat) : Int) := by rw [wrap_i64 (by omega) (by omega)]; omega
    have hmk := hm (E[i]).1
    have hlen : (Option.getD (amGet (keyEq (.int .i64)) (E[i]).1 m) []).length ≤ 4096 := by
      rw [hmk]
      refine Nat.le_trans (List.length_filter_le _ _) ?_
      rw [List.length_take]; omega
    have eg : Tr.guardB (Decidable.decide ((Option.getD (amGet (keyEq (.int .i64)) (E[i]).1 m) []).length + [E[i]].length ≤ Tr.maxApp)) = some () := by
      rw [decide_eq_true (by simp [Tr.maxApp]; omega)]; rfl
    have eh : Tr.guardB (Tr.holeK (.int .i64) (some (E[i]).1) (E[i]).1) = some () := by
      have : Tr.holeK (.int .i64) (some (E[i]).1) (E[i]).1 = true := (keyEq_iff rfl).2 rfl
      rw [this]; rfl
    simp only [show decide ((i : Int) < (E.length : Int)) = true from decide_eq_true (by omega), cond_true, cond_false, idx_nat hil, Option.bind_some, e1]
    rw [show Tr.guardB _ = some () from eg]
    simp only [Option.bind_some]
    rw [show Tr.guardB _ = some () from eh]
    simp only [Option.bind_some]
    refine ⟨_, rfl, ⟨_, i + 1, rfl, hil, fun k => ?_⟩, by simp only [Int.toNat_natCast]; omega⟩
    rw [show Option.getD (amGet (keyEq (.int .i64)) k (amSet (keyEq (.int .i64)) (E[i]).1 (Option.getD (amGet (keyEq (.int .i64)) (E[i]).1 m) [] ++ [E[i]]) m)) [] = if k = (E[i]).1 then Option.getD (amGet (keyEq (.int .i64)) (E[i]).1 m) [] ++ [E[i]] else Option.getD (amGet (keyEq (.int .i64)) k m) [] by
      rw [amGet_set rfl]
      by_cases h : k = (E[i]).1
      · rw [if_pos h, if_pos h]; rfl
      · rw [if_neg h, if_neg h]]
    rw [List.take_succ_eq_append_getElem hil, List.filter_append]
    by_cases hk : k = (E[i]).1
    · subst hk
      rw [if_pos rfl, hmk]
      simp
    · rw [if_neg hk, hm k]
      simp [show ¬ (E[i]).1 = k from fun e => hk e.symm]
  · have : i = E.length := by omega
    subst this
    simp only [show decide ((E.length : Int) < (E.length : Int)) = false by simp, cond_false]
    exact ⟨_, rfl, fun u => by have := hm (u : Int); rw [List.take_length] at this; exact this⟩
def EOk (n : Nat) (E : List Edge) : Prop := ∀ e ∈ E, 0 ≤ e.1 ∧ e.1 < n ∧ 0 ≤ e.2.1 ∧ e.2.1 < n ∧ 0 ≤ e.2.2.1 ∧ e.2.2.1 ≤ 1073741824
theorem adj_ok {n : Nat} {E : List Edge} (hE : EOk n E) (hl : E.length ≤ 4096) {m : Adj} (hm : ∀ u : Nat, nbs m u = E.filter fun e => decide (e.1 = (u : Int))) : AdjOk n m (EdL E) where
  mem := fun u hu y hy => by
    rw [hm] at hy
    obtain ⟨h1, h2⟩ := List.mem_filter.1 hy
    have h2 := of_decide_eq_true h2
    obtain ⟨a, b, c, d, e, f⟩ := hE y h1
    exact ⟨y.2.1.toNat, by omega, by omega, e, f, y, h1, h2, by omega, rfl⟩
  all := fun u v w ⟨e, he, h1, h2, h3⟩ => by
    obtain ⟨a, b, _⟩ := hE e he
    refine ⟨by omega, e, ?_, h2, h3⟩
    rw [hm]
    exact List.mem_filter.2 ⟨he, by simpa using h1⟩
  len := fun u hu => by
    rw [hm]
    exact Nat.le_trans (List.length_filter_le _ _) hl
open Classical in
noncomputable def distI (Ed : Nat → Nat → Int → Prop) (i j : Nat) : Int := if h : ∃ d, Least Ed i j d then h.choose else -1
theorem Least.uniq {Ed : Nat → Nat → Int → Prop} {i j : Nat} {d d' : Int} (h : Least Ed i j d) (k : Least Ed i j d') : d = d' := by
  have := h.2 d' k.1
  have := k.2 d h.1
  omega
theorem distI_of {Ed : Nat → Nat → Int → Prop} {i j : Nat} {d : Int} (h : Least Ed i j d) : distI Ed i j = d := by
  unfold distI
  have hex : ∃ d, Least Ed i j d := ⟨d, h⟩
  rw [dif_pos hex]
  exact Least.uniq hex.choose_spec h
theorem distI_none {Ed : Nat → Nat → Int → Prop} {i j : Nat} (h : ∀ d, ¬ Wk Ed i j d) : distI Ed i j = -1 := by
  unfold distI
  rw [dif_neg]
  rintro ⟨d, hd⟩
  exact h d hd.1
noncomputable def mat (Ed : Nat → Nat → Int → Prop) (n : Nat) : List (List Int) := (List.range n).map fun i => (List.range n).map fun j => distI Ed i j
theorem mat_row {Ed : Nat → Nat → Int → Prop} {n i : Nat} (h : i < n) : (mat Ed n)[i]? = some ((List.range n).map fun j => distI Ed i j) := by
  unfold mat
  simp [h]
theorem lengths_val {n : Nat} (hn : n ≤ 64) {Ed : Nat → Nat → Int → Prop} {s : Nat} {o : List Lab} (h : LabOk n Ed s o) : ∃ z, F96 o = some z ∧ z = (List.range n).map fun j => distI Ed s j := by
  obtain ⟨h1, h2⟩ := h
  unfold F96
  have eg : Tr.guardB (Decidable.decide ((0 : Int) ≤ (o.length : Int) ∧ (o.length : Int) ≤ (o.length : Int) ∧ (o.length : Int) ≤ (Tr.maxApp : Int))) = some () := by
    rw [decide_eq_true (by simp [Tr.maxApp]; omega)]; rfl
  rw [show Tr.guardB _ = some () from eg]
  simp only [Option.bind_some, Int.toNat_natCast]
  refine run_bind' (fun st => ∃ (r : List Int) (i : Nat), st = (r, (i : Int)) ∧ r.length = n ∧ i ≤ n ∧ ∀ j, j < i → r[j]? = some (distI Ed s j)) (fun st => n - st.2.toNat)
    (fun r => r.length = n ∧ ∀ j, j < n → r[j]? = some (distI Ed s j)) ⟨_, 0, rfl, by simp [h1], Nat.zero_le _, fun j hj => by omega⟩ ?_ ?_
  · rintro st ⟨r, i, rfl, hr, hi, hj⟩
    by_cases hil : i < n
    · have hio : i < o.length := by omega
      have hir : i < r.length := by omega
      have e1 : IntKind.wrap .i64 ((i : Int) + 1) = ((i + 1 : Nat) : Int) := by rw [wrap_i64 (by omega) (by omega)]; omega
      simp only [show decide ((i : Int) < (o.length : Int)) = true from decide_eq_true (by omega), cond_true, idx_nat hio, inb_nat hir, Option.bind_some, List.getElem?_eq_getElem hir, e1]
      refine ⟨_, rfl, ⟨_, i + 1, rfl, by simpa using hr, hil, fun j hji => ?_⟩, by simp only [Int.toNat_natCast]; omega⟩
      by_cases hje : j = i
      · subst hje
        have : (o[j]).2.1 = distI Ed s j := by
          rcases h2 j _ (List.getElem?_eq_getElem hio) with ⟨h3, _⟩ | ⟨h3, h4⟩
          · exact (distI_of h3).symm
          · rw [h4, distI_none h3]
        simp [hir, this]
      · rw [List.getElem?_set_ne (fun e => hje e.symm)]; exact hj j (by omega)
    · have hin : i = n := by omega
      subst hin
      simp only [h1, show decide ((i : Int) < (i : Int)) = false by simp, cond_false]
      exact ⟨_, rfl, hr, hj⟩
  · rintro r ⟨hr, hj⟩
    refine ⟨_, rfl, ?_⟩
    apply List.ext_getElem?
    intro j
    by_cases hjn : j < n
    · rw [hj j hjn]; simp [hjn]
    · rw [List.getElem?_eq_none (by omega), List.getElem?_eq_none (by simp; omega)]
theorem check_val {n : Nat} (hn : n ≤ 64) {E : List Edge} (hE : EOk n E) (hl : E.length ≤ 4096) : F93 (n : Int) E [] = some 0 := by
  have key : ∃ z, F93 (n : Int) E [] = some z ∧ z = 0 := by
    unfold F93
    simp only [show decide ((n : Int) < 0) = false from decide_eq_false (by omega), cond_false, Option.bind_some, show decide ((64 : Int) < (n : Int)) = false from decide_eq_false (by omega), show decide ((4096 : Int) < (E.length : Int)) = false from decide_eq_false (by omega)]
    refine run_bind' (fun st => ∃ i : Nat, st = (i : Int) ∧ i ≤ E.length) (fun st => E.length - st.toNat) (fun r => r = .inl ()) ⟨0, rfl, Nat.zero_le _⟩ ?_ ?_
    · rintro st ⟨i, rfl, hi⟩
      by_cases hil : i < E.length
      · have e1 : IntKind.wrap .i64 ((i : Int) + 1) = ((i + 1 : Nat) : Int) := by rw [wrap_i64 (by omega) (by omega)]; omega
        obtain ⟨a, b, c, d, e, f⟩ := hE _ (List.getElem_mem hil)
        have m1 : ∀ x : Int, 0 ≤ x → x < (n : Int) → F94 x (n : Int) = some false := fun x h1 h2 => by
          unfold F94
          simp only [show decide (x < 0) = false from decide_eq_false (by omega), cond_false, Option.bind_some, show decide ((n : Int) ≤ x) = false from decide_eq_false (by omega)]
        simp only [show decide ((i : Int) < (E.length : Int)) = true from decide_eq_true (by omega), cond_true, idx_nat hil, Option.bind_some, m1 _ a b, m1 _ c d, cond_false, show decide ((E[i]).2.2.1 < 0) = false from decide_eq_false (by omega),
          show decide ((1073741824 : Int) < (E[i]).2.2.1) = false from decide_eq_false (by omega), e1]
        exact ⟨_, rfl, ⟨i + 1, rfl, hil⟩, by simp only [Int.toNat_natCast]; omega⟩
      · have : i = E.length := by omega
        subst this
        simp only [show decide ((E.length : Int) < (E.length : Int)) = false by simp, cond_false]
        exact ⟨_, rfl, rfl⟩
    · rintro r rfl
      simp only [Sum.elim_inl]
      refine run_bind' (fun st => st = (0 : Int)) (fun _ => 0) (fun r => r = .inl ()) rfl ?_ ?_
      · rintro st rfl
        exact ⟨.inr (.inl ()), rfl, rfl⟩
      · rintro r rfl
        exact ⟨0, rfl, rfl⟩
  obtain ⟨z, h, rfl⟩ := key
  exact h
theorem all_val {n : Nat} (hn : n ≤ 64) {E : List Edge} (hE : EOk n E) (hl : E.length ≤ 4096) : ∃ z, F92 (n : Int) E = some z ∧ z = (mat (EdL E) n, 0) := by
  unfold F92
  obtain ⟨m, hm1, hm2⟩ := neighbors_val E hl
  have hA := adj_ok hE hl hm2
  rw [check_val hn hE hl]
  simp only [Option.bind_some, decide_true, Bool.not_true, cond_false, hm1]
  have eg : Tr.guardB (Decidable.decide ((0 : Int) ≤ (n : Int) ∧ (n : Int) ≤ (n : Int) ∧ (n : Int) ≤ (Tr.maxApp : Int))) = some () := by
    rw [decide_eq_true (by simp [Tr.maxApp]; omega)]; rfl
  rw [show Tr.guardB _ = some () from eg]
  simp only [Option.bind_some, List.length_replicate, Int.toNat_natCast]
  refine run_bind' (fun st => ∃ (r : List (List Int)) (i : Nat), st = (m, r, (i : Int)) ∧ r.length = n ∧ i ≤ n ∧ ∀ j, j < i → r[j]? = (mat (EdL E) n)[j]?) (fun st => n - st.2.2.toNat)
    (fun r => r.length = n ∧ ∀ j, j < n → r[j]? = (mat (EdL E) n)[j]?) ⟨_, 0, rfl, by simp, Nat.zero_le _, fun j hj => by omega⟩ ?_ ?_
  · rintro st ⟨r, i, rfl, hr, hi, hj⟩
    by_cases hil : i < n
    · have hir : i < r.length := by omega
      have e1 : IntKind.wrap .i64 ((i : Int) + 1) = ((i + 1 : Nat) : Int) := by rw [wrap_i64 (by omega) (by omega)]; omega
      obtain ⟨⟨m', o⟩, h1, rfl, h2⟩ := labels_val hn hA hil
      obtain ⟨_, h3, rfl⟩ := lengths_val hn h2
      simp only [show decide ((i : Int) < (n : Int)) = true from decide_eq_true (by omega), cond_true, h1, Option.bind_some, h3, inb_nat hir, List.getElem?_eq_getElem hir, e1]
      refine ⟨_, rfl, ⟨_, i + 1, rfl, by simpa using hr, hil, fun j hji => ?_⟩, by simp only [Int.toNat_natCast]; omega⟩
      by_cases hje : j = i
      · subst hje
        rw [mat_row hil]; simp [hir]
      · rw [List.getElem?_set_ne (fun e => hje e.symm)]; exact hj j (by omega)
    · have hin : i = n := by omega
      subst hin
      simp only [show decide ((i : Int) < (i : Int)) = false by simp, cond_false]
      exact ⟨_, rfl, hr, hj⟩
  · rintro r ⟨hr, hj⟩
    refine ⟨_, rfl, ?_⟩
    congr 1
    apply List.ext_getElem?
    intro j
    by_cases hjn : j < n
    · exact hj j hjn
    · rw [List.getElem?_eq_none (by omega), List.getElem?_eq_none (by simp [mat]; omega)]
end Q
namespace Q
open Tr Go Gr
theorem DRun.uniq {σ τ ρ : Type} {cnt : σ → Nat} {step : σ → Nat → Option (σ ⊕ τ)} {k : τ → Option ρ} (hpos : ∀ s, 0 < cnt s) {z z' : ρ} : ∀ {n n' : Nat} {s : σ}, DRun cnt step k z n s → DRun cnt step k z' n' s → z = z'
  | 0, _, _, h, _ => h.elim
  | _ + 1, 0, _, _, h => h.elim
  | n + 1, n' + 1, s, h, h' => by
    rcases h 0 (hpos s) with ⟨s', h1, h2⟩ | ⟨t, h1, h2⟩
    · rcases h' 0 (hpos s) with ⟨s2, h3, h4⟩ | ⟨t, h3, _⟩
      · rw [h1] at h3
        simp only [Option.some.injEq, Sum.inl.injEq] at h3
        subst h3
        exact DRun.uniq hpos h2 h4
      · rw [h1] at h3; simp at h3
    · rcases h' 0 (hpos s) with ⟨s2, h3, _⟩ | ⟨t', h3, h4⟩
      · rw [h1] at h3; simp at h3
      · rw [h1] at h3
        simp only [Option.some.injEq, Sum.inr.injEq] at h3
        subst h3
        rw [h2] at h4
        exact Option.some.inj h4
theorem drun_goal {σ τ ρ : Type} {cnt : σ → Nat} {step : σ → Nat → Option (σ ⊕ τ)} {k : τ → Option ρ} {s : σ} {z : ρ} {P : ρ → Prop} (n : Nat) (hpos : ∀ s, 0 < cnt s) (h : DRun cnt step k z n s) (hP : P z) : ∃ z, Tr.drun cnt step k s = some z ∧ P z := by
  refine ⟨z, ?_, hP⟩
  have hex : ∃ r, Tr.drun cnt step k s = some r := by
    unfold Tr.drun
    split
    · exact ⟨_, rfl⟩
    · rw [dif_pos ⟨z, n, h⟩]; exact ⟨_, rfl⟩
  obtain ⟨r, hr⟩ := hex
  obtain ⟨m, hm⟩ := drun_some hr
  rw [hr, DRun.uniq hpos hm h]
theorem least_iff {Ed Ed' : Nat → Nat → Int → Prop} (h1 : ∀ u v w, Ed u v w → ∃ w', Ed' u v w' ∧ w' ≤ w) (h2 : ∀ u v w, Ed' u v w → ∃ w', Ed u v w' ∧ w' ≤ w) {s v : Nat} {d : Int} : Least Ed s v d → Least Ed' s v d := by
  rintro ⟨a, b⟩
  obtain ⟨d', c1, c2⟩ := Wk.dom h1 a
  obtain ⟨d2, c3, c4⟩ := Wk.dom h2 c1
  have := b d2 c3
  have : d' = d := by omega
  subst this
  refine ⟨c1, fun e he => ?_⟩
  obtain ⟨e', c5, c6⟩ := Wk.dom h2 he
  have := b e' c5
  omega
theorem mat_congr {Ed Ed' : Nat → Nat → Int → Prop} (h1 : ∀ u v w, Ed u v w → ∃ w', Ed' u v w' ∧ w' ≤ w) (h2 : ∀ u v w, Ed' u v w → ∃ w', Ed u v w' ∧ w' ≤ w) (n : Nat) : mat Ed n = mat Ed' n := by
  have : ∀ i j, distI Ed i j = distI Ed' i j := by
    intro i j
    by_cases h : ∃ d, Least Ed i j d
    · obtain ⟨d, hd⟩ := h
      rw [distI_of hd, distI_of (least_iff h1 h2 hd)]
    · have h' : ¬ ∃ d, Least Ed' i j d := fun ⟨d, hd⟩ => h ⟨d, least_iff h2 h1 hd⟩
      unfold distI
      rw [dif_neg h, dif_neg h']
  unfold mat
  simp only [this]
abbrev Foot := Int × Int × Int × Bool × Unit
abbrev Pr := Int × Int × Bool × Unit
abbrev PrTy : Ty := .prod (.int .i64) (.prod (.int .i64) (.prod .bool .unit))
def FOk (n : Nat) (l : List Foot) : Prop := ∀ p ∈ l, 0 ≤ p.1 ∧ p.1 < n ∧ 0 ≤ p.2.1 ∧ p.2.1 < n ∧ 1 ≤ p.2.2.1 ∧ p.2.2.1 ≤ 14400
def may (free : Bool) (p : Foot) : Prop := free = true → p.2.2.2.1 = true
def EdP (l : List Foot) (free : Bool) (u v : Nat) (w : Int) : Prop := ∃ p ∈ l, may free p ∧ p.1 = (u : Int) ∧ p.2.1 = (v : Int) ∧ p.2.2.1 = w
def edgeOf (e : Pr × Int) : Edge := (e.1.1, e.1.2.1, e.2, ())
theorem amSet_len {α β : Type} (eq : α → α → Bool) (k : α) (v : β) : ∀ l : List (α × β), (amSet eq k v l).length ≤ l.length + 1
  | [] => by simp [amSet]
  | e :: l => by
    simp only [amSet]
    cases eq k e.1 with
    | true => simp
    | false => simp only [cond_false, List.length_cons]; have := amSet_len eq k v l; omega
structure Best (free : Bool) (l : List Foot) (b : List (Pr × Int)) : Prop where
  nodup : (b.map Prod.fst).Nodup
  len : b.length ≤ l.length
  snd : ∀ e ∈ b, ∃ p ∈ l, may free p ∧ e.1 = (p.1, p.2.1, false, ()) ∧ e.2 = p.2.2.1
  all : ∀ p ∈ l, may free p → ∃ w, amGet (keyEq PrTy) (p.1, p.2.1, false, ()) b = some w ∧ w ≤ p.2.2.1
theorem Best.more {free : Bool} {l : List Foot} {b b' : List (Pr × Int)} {p : Foot} (h : Best free l b) (h1 : (b'.map Prod.fst).Nodup) (h2 : b'.length ≤ b.length + 1) (h3 : ∀ e ∈ b', e ∈ b ∨ (may free p ∧ e.1 = (p.1, p.2.1, false, ()) ∧ e.2 = p.2.2.1))
    (h4 : ∀ k w, amGet (keyEq PrTy) k b = some w → ∃ w', amGet (keyEq PrTy) k b' = some w' ∧ w' ≤ w) (h5 : may free p → ∃ w, amGet (keyEq PrTy) (p.1, p.2.1, false, ()) b' = some w ∧ w ≤ p.2.2.1) : Best free (l ++ [p]) b' where
  nodup := h1
  len := by have := h.len; simp; omega
  snd := fun e he => by
    rcases h3 e he with h6 | h6
    · obtain ⟨q, hq, h7⟩ := h.snd e h6
      exact ⟨q, by simp [hq], h7⟩
    · exact ⟨p, by simp, h6⟩
  all := fun q hq hm => by
    rcases List.mem_append.1 hq with h6 | h6
    · obtain ⟨w, h7, h8⟩ := h.all q h6 hm
      obtain ⟨w', h9, h10⟩ := h4 _ w h7
      exact ⟨w', h9, by omega⟩
    · simp at h6; subst h6; exact h5 hm
theorem erase_perm {α : Type} : ∀ {l : List α} {i : Nat} (h : i < l.length), (l[i] :: l.eraseIdx i).Perm l
  | [], i, h => by simp at h
  | x :: l, 0, _ => .refl _
  | x :: l, i + 1, h => by
    have h' : i < l.length := by simpa using h
    simp only [List.getElem_cons_succ, List.eraseIdx_cons_succ]
    exact (List.Perm.swap _ _ _).trans (List.Perm.cons _ (erase_perm h'))
theorem distances_val {n : Nat} (hn : n ≤ 64) {l : List Foot} (hF : FOk n l) (hl : l.length ≤ 4096) (free : Bool) : ∃ z, F15 l (n : Int) free = some z ∧ z = mat (EdP l free) n := by
  unfold F15
  refine run_bind' (fun st => ∃ (b : List (Pr × Int)) (i : Nat), st = (b, (i : Int)) ∧ i ≤ l.length ∧ Best free (l.take i) b) (fun st => l.length - st.2.toNat)
    (fun b => Best free l b) ⟨[], 0, rfl, Nat.zero_le _, ⟨by simp, by simp, by simp, by simp⟩⟩ ?_ ?_
  · rintro st ⟨b, i, rfl, hi, hB⟩
    by_cases hil : i < l.length
    · have e1 : IntKind.wrap .i64 ((i : Int) + 1) = ((i + 1 : Nat) : Int) := by rw [wrap_i64 (by omega) (by omega)]; omega
      simp only [show decide ((i : Int) < (l.length : Int)) = true from decide_eq_true (by omega), cond_true, idx_nat hil, Option.bind_some, e1]
      have htake : l.take (i + 1) = l.take i ++ [l[i]] := List.take_succ_eq_append_getElem hil
      have stay : (may free l[i] → ∃ w, amGet (keyEq PrTy) ((l[i]).1, (l[i]).2.1, false, ()) b = some w ∧ w ≤ (l[i]).2.2.1) → Best free (l.take (i + 1)) b := fun h5 => by
        rw [htake]
        exact hB.more hB.nodup (by omega) (fun e he => .inl he) (fun k w h => ⟨w, h, Int.le_refl _⟩) h5
      have put : may free l[i] → (∀ w, amGet (keyEq PrTy) ((l[i]).1, (l[i]).2.1, false, ()) b = some w → (l[i]).2.2.1 ≤ w) → Best free (l.take (i + 1)) (amSet (keyEq PrTy) ((l[i]).1, (l[i]).2.1, false, ()) (l[i]).2.2.1 b) := fun hm hw => by
        rw [htake]
        refine hB.more (amSet_nodup (t := PrTy) (β := Int) rfl hB.nodup) (amSet_len _ _ _ _) (fun e he => ?_) (fun k w h => ?_) fun _ => ⟨(l[i]).2.2.1, by rw [amGet_set rfl, if_pos rfl], Int.le_refl _⟩
        · obtain ⟨k', x⟩ := e
          rcases mem_amSet (t := PrTy) rfl hB.nodup he with ⟨rfl, rfl⟩ | ⟨_, h6⟩
          · exact .inr ⟨hm, rfl, rfl⟩
          · exact .inl h6
        · rw [amGet_set rfl]
          by_cases hk : k = ((l[i]).1, (l[i]).2.1, false, ())
          · rw [if_pos hk]
            exact ⟨_, rfl, hw w (hk ▸ h)⟩
          · rw [if_neg hk]
            exact ⟨w, h, Int.le_refl _⟩
      have hkey : Tr.keyEq Y198 = Tr.keyEq PrTy := rfl
      have rest : may free l[i] → ∃ z, (Option.bind
              (bif !Option.isSome (Tr.amGet (Tr.keyEq PrTy) ((l[i]).1, (l[i]).2.1, false, ()) b) then Option.some Bool.true
              else Option.some (Decidable.decide ((l[i]).2.2.1 < Option.getD (Tr.amGet (Tr.keyEq PrTy) ((l[i]).1, (l[i]).2.1, false, ()) b) (0 : Int))))
              fun x3 =>
              bif x3 then Option.some (Sum.inl (Tr.amSet (Tr.keyEq PrTy) ((l[i]).1, (l[i]).2.1, false, ()) (l[i]).2.2.1 b, ((i + 1 : Nat) : Int)))
              else Option.some (Sum.inl (b, ((i + 1 : Nat) : Int)))) = some (z : (List (Pr × Int) × Int) ⊕ List (Pr × Int)) ∧
            Sum.elim (fun s' => (∃ (b : List (Pr × Int)) (i : Nat), s' = (b, (i : Int)) ∧ i ≤ l.length ∧ Best free (l.take i) b) ∧ l.length - s'.2.toNat < l.length - ((i : Nat) : Int).toNat) (fun b => Best free l b) z := by
        intro hm
        cases hg : Tr.amGet (Tr.keyEq PrTy) ((l[i]).1, (l[i]).2.1, false, ()) b with
        | none =>
          simp only [Option.isSome_none, Bool.not_false, cond_true, Option.bind_some]
          exact ⟨_, rfl, ⟨_, i + 1, rfl, hil, put hm fun w h => by rw [hg] at h; cases h⟩, by simp only [Int.toNat_natCast]; omega⟩
        | some w =>
          simp only [Option.isSome_some, Bool.not_true, cond_false, Option.getD_some, Option.bind_some]
          by_cases hlt : (l[i]).2.2.1 < w
          · simp only [show decide ((l[i]).2.2.1 < w) = true from decide_eq_true (by omega), cond_true]
            exact ⟨_, rfl, ⟨_, i + 1, rfl, hil, put hm fun w' h => by rw [hg] at h; cases h; omega⟩, by simp only [Int.toNat_natCast]; omega⟩
          · simp only [show decide ((l[i]).2.2.1 < w) = false from decide_eq_false (by omega), cond_false]
            exact ⟨_, rfl, ⟨_, i + 1, rfl, hil, stay fun _ => ⟨w, hg, by omega⟩⟩, by simp only [Int.toNat_natCast]; omega⟩
      cases hfree : free with
      | false =>
        simp only [cond_false, Option.bind_some]
        have := rest (fun h => by rw [hfree] at h; cases h)
        rw [hfree] at this
        exact this
      | true =>
        simp only [cond_true, Option.bind_some]
        cases hsf : (l[i]).2.2.2.1 with
        | true =>
          simp only [Bool.not_true, cond_false]
          have := rest (fun _ => hsf)
          rw [hfree] at this
          exact this
        | false =>
          simp only [Bool.not_false, cond_true]
          refine ⟨_, rfl, ⟨b, i + 1, rfl, hil, ?_⟩, by simp only [Int.toNat_natCast]; omega⟩
          rw [← hfree]
          exact stay fun hm => by have := hm hfree; rw [hsf] at this; cases this
    · have hin : i = l.length := by omega
      subst hin
      simp only [show decide ((l.length : Int) < (l.length : Int)) = false by simp, cond_false]
      rw [List.take_length] at hB
      exact ⟨_, rfl, hB⟩
  · intro b hB
    have eg : Tr.guardB (Decidable.decide ((0 : Int) ≤ (0 : Int) ∧ (0 : Int) ≤ (b.length : Int) ∧ (b.length : Int) ≤ (Tr.maxApp : Int))) = some () := by
      have := hB.len
      rw [decide_eq_true (by simp [Tr.maxApp]; omega)]; rfl
    rw [show Tr.guardB _ = some () from eg]
    simp only [Option.bind_some]
    have hend : ∀ es : List Edge, es.Perm (b.map edgeOf) → F92 (n : Int) es = some (mat (EdP l free) n, 0) := by
      intro es hp
      have hlen : es.length ≤ 4096 := by have := hp.length_eq; have := hB.len; simp at *; omega
      have hok : EOk n es := fun e he => by
        obtain ⟨x, hx, rfl⟩ := List.mem_map.1 (hp.mem_iff.1 he)
        obtain ⟨p, hpl, _, h1, h2⟩ := hB.snd x hx
        obtain ⟨a, b', c, d, e, f⟩ := hF p hpl
        have h1' : x.1.1 = p.1 ∧ x.1.2.1 = p.2.1 := by rw [h1]; exact ⟨rfl, rfl⟩
        show 0 ≤ x.1.1 ∧ x.1.1 < n ∧ 0 ≤ x.1.2.1 ∧ x.1.2.1 < n ∧ 0 ≤ x.2 ∧ x.2 ≤ 1073741824
        rw [h1'.1, h1'.2, h2]
        omega
      obtain ⟨z, hz, rfl⟩ := all_val hn hok hlen
      rw [hz]
      congr 2
      refine mat_congr (fun u v w ⟨e, he, h1, h2, h3⟩ => ?_) (fun u v w ⟨p, hpl, hm, h1, h2, h3⟩ => ?_) n
      · obtain ⟨x, hx, rfl⟩ := List.mem_map.1 (hp.mem_iff.1 he)
        obtain ⟨p, hpl, hm, h4, h5⟩ := hB.snd x hx
        have h4' : x.1.1 = p.1 ∧ x.1.2.1 = p.2.1 := by rw [h4]; exact ⟨rfl, rfl⟩
        refine ⟨w, ⟨p, hpl, hm, ?_, ?_, ?_⟩, Int.le_refl _⟩
        · rw [← h4'.1]; exact h1
        · rw [← h4'.2]; exact h2
        · rw [← h5]; exact h3
      · obtain ⟨w', h4, h5⟩ := hB.all p hpl hm
        have hmem := amGet_some (t := PrTy) rfl h4
        refine ⟨w', ⟨_, hp.mem_iff.2 (List.mem_map.2 ⟨_, hmem, rfl⟩), h1, h2, rfl⟩, by omega⟩
    refine drun_goal (z := mat (EdP l free) n) (b.length + 1) (fun s => ?_) ?_ rfl
    · show 0 < (bif List.isEmpty s.2 then (1 : Nat) else List.length s.2)
      cases s.2 <;> simp
    · have key : ∀ (r : Nat) (es : List Edge) (rest : List (Pr × Int)), rest.length = r → (es ++ rest.map edgeOf).Perm (b.map edgeOf) →
          DRun (fun s6 : List Edge × List (Pr × Int) => bif List.isEmpty s6.snd then (1 : Nat) else List.length s6.snd)
            (fun s6 i7 => bif List.isEmpty s6.snd then Option.some (Sum.inr s6.fst)
              else Option.bind s6.snd[i7]? fun x8 =>
                Option.bind (Tr.guardB (Decidable.decide (List.length s6.fst + List.length [((x8.fst.fst, x8.fst.snd.fst, x8.snd, ()) : Edge)] ≤ Tr.maxApp))) fun _ =>
                  Option.some (Sum.inl (s6.fst ++ [(x8.fst.fst, x8.fst.snd.fst, x8.snd, ())], List.eraseIdx s6.snd i7)))
            (fun o10 => Option.bind (F92 (n : Int) o10) fun x11 => Option.some x11.fst) (mat (EdP l free) n) (r + 1) (es, rest) := by
        intro r
        induction r with
        | zero =>
          intro es rest hr hp i hi
          have : rest = [] := List.eq_nil_of_length_eq_zero hr
          subst this
          right
          refine ⟨es, rfl, ?_⟩
          show (F92 (n : Int) es).bind _ = _
          rw [hend es (by simpa using hp)]
          rfl
        | succ r ih =>
          intro es rest hr hp i hi
          have hne : rest.isEmpty = false := by cases rest <;> simp at hr ⊢
          simp only [hne, cond_false] at hi
          left
          have hpl := hp.length_eq
          have := hB.len
          simp only [List.length_append, List.length_map] at hpl
          have eg2 : Tr.guardB (Decidable.decide (es.length + [(((rest[i]).1.1, (rest[i]).1.2.1, (rest[i]).2, ()) : Edge)].length ≤ Tr.maxApp)) = some () := by
            rw [decide_eq_true (by simp [Tr.maxApp]; omega)]; rfl
          refine ⟨(es ++ [edgeOf rest[i]], rest.eraseIdx i), ?_, ih _ _ (by rw [List.length_eraseIdx_of_lt hi]; omega) ?_⟩
          · simp only [hne, cond_false, List.getElem?_eq_getElem hi, Option.bind_some]
            rw [show Tr.guardB _ = some () from eg2]
            rfl
          · refine List.Perm.trans ?_ hp
            have h1 : (rest[i] :: rest.eraseIdx i).Perm rest := erase_perm hi
            have h2 := h1.map edgeOf
            rw [List.append_assoc]
            exact List.Perm.append_left es h2
      exact key b.length [] b rfl (by simp)
end Q
namespace Q
open Tr Go Gr
def FAR : Int := 1099511627776
def gm (m : List (List Int)) (i j : Nat) : Int := (((m[i]?).getD [])[j]?).getD 0
def Shp (n : Nat) (m : List (List Int)) : Prop := m.length = n ∧ ∀ (i : Nat) (r : List Int), m[i]? = some r → r.length = n
def upd (m : List (List Int)) (i j : Nat) (v : Int) : List (List Int) := m.set i (((m[i]?).getD []).set j v)
theorem Shp.row {n : Nat} {m : List (List Int)} (h : Shp n m) {i : Nat} (hi : i < n) : ∃ r, m[i]? = some r ∧ r.length = n := by
  have : i < m.length := by rw [h.1]; exact hi
  exact ⟨m[i], List.getElem?_eq_getElem this, h.2 i _ (List.getElem?_eq_getElem this)⟩
theorem Shp.upd {n : Nat} {m : List (List Int)} (h : Shp n m) {i : Nat} (hi : i < n) (j : Nat) (v : Int) : Shp n (upd m i j v) := by
  obtain ⟨r, h1, h2⟩ := h.row hi
  refine ⟨by simp [Q.upd]; exact h.1, fun k r' hk => ?_⟩
  unfold Q.upd at hk
  by_cases hki : i = k
  · subst hki
    rw [List.getElem?_set_self (by rw [h.1]; exact hi), h1] at hk
    simp only [Option.getD_some, Option.some.injEq] at hk
    subst hk
    rw [List.length_set]; exact h2
  · rw [List.getElem?_set_ne hki] at hk
    exact h.2 k r' hk
theorem gm_upd {n : Nat} {m : List (List Int)} (h : Shp n m) {i j : Nat} (hi : i < n) (hj : j < n) (v : Int) (a b : Nat) : gm (upd m i j v) a b = if a = i ∧ b = j then v else gm m a b := by
  obtain ⟨r, h1, h2⟩ := h.row hi
  unfold gm upd
  by_cases ha : i = a
  · subst ha
    rw [List.getElem?_set_self (by rw [h.1]; exact hi), h1]
    simp only [Option.getD_some]
    by_cases hb : j = b
    · subst hb
      rw [List.getElem?_set_self (by omega)]; simp
    · rw [List.getElem?_set_ne hb, if_neg (fun h => hb h.2.symm)]
  · rw [List.getElem?_set_ne ha, if_neg (fun h => ha h.1.symm)]
theorem row_get {n : Nat} {m : List (List Int)} (h : Shp n m) {i j : Nat} (_hi : i < n) (hj : j < n) {r : List Int} (hr : m[i]? = some r) : r[j]? = some (gm m i j) := by
  have h2 := h.2 i r hr
  unfold gm
  rw [hr]
  simp only [Option.getD_some]
  rw [List.getElem?_eq_getElem (by omega)]; rfl
structure Ent (Ed : Nat → Nat → Int → Prop) (n k : Nat) (m : List (List Int)) : Prop where
  shp : Shp n m
  snd : ∀ i j, i < n → j < n → gm m i j = FAR ∨ (gm m i j ≤ FAR ∧ Wb Ed n i j (gm m i j))
  all : ∀ i j d, i < n → j < n → Wb Ed k i j d → gm m i j ≤ d
theorem Ent.bnd {Ed : Nat → Nat → Int → Prop} (hw : ∀ u v w, Ed u v w → 0 ≤ w) {n k : Nat} {m : List (List Int)} (h : Ent Ed n k m) {i j : Nat} (hi : i < n) (hj : j < n) : 0 ≤ gm m i j ∧ gm m i j ≤ FAR := by
  rcases h.snd i j hi hj with h1 | ⟨h1, h2⟩
  · rw [h1]; unfold FAR; omega
  · exact ⟨h2.nonneg hw, h1⟩
theorem Ent.step {Ed : Nat → Nat → Int → Prop} (hw : ∀ u v w, Ed u v w → 0 ≤ w) {n k : Nat} {m : List (List Int)} (h : Ent Ed n k m) {i j : Nat} (hi : i < n) (hj : j < n) (hk : k < n) :
    Ent Ed n k (upd m i j (min (gm m i j) (gm m i k + gm m k j))) ∧ (∀ d, Wb Ed (k + 1) i j d → min (gm m i j) (gm m i k + gm m k j) ≤ d) ∧ min (gm m i j) (gm m i k + gm m k j) ≤ gm m i j := by
  have b1 := h.bnd hw hi hj
  have b2 := h.bnd hw hi hk
  have b3 := h.bnd hw hk hj
  refine ⟨⟨h.shp.upd hi j _, fun a b ha hb => ?_, fun a b d ha hb hd => ?_⟩, fun d hd => ?_, Int.min_le_left _ _⟩
  · rw [gm_upd h.shp hi hj]
    by_cases hab : a = i ∧ b = j
    · obtain ⟨rfl, rfl⟩ := hab
      rw [if_pos ⟨rfl, rfl⟩]
      by_cases hle : gm m a b ≤ gm m a k + gm m k b
      · rw [Int.min_eq_left hle]; exact h.snd a b hi hj
      · rw [Int.min_eq_right (by omega)]
        right
        refine ⟨by omega, ?_⟩
        rcases h.snd a k hi hk with h1 | ⟨_, h1⟩
        · omega
        · rcases h.snd k b hk hj with h2 | ⟨_, h2⟩
          · omega
          · exact h1.app hk h2
    · rw [if_neg hab]; exact h.snd a b ha hb
  · rw [gm_upd h.shp hi hj]
    have := h.all a b d ha hb hd
    by_cases hab : a = i ∧ b = j
    · obtain ⟨rfl, rfl⟩ := hab
      rw [if_pos ⟨rfl, rfl⟩]
      exact Int.le_trans (Int.min_le_left _ _) this
    · rw [if_neg hab]; exact this
  · rcases hd.round hw with ⟨d', h1, h2⟩ | ⟨d1, d2, h1, h2, h3⟩
    · have := h.all i j d' hi hj h2
      exact Int.le_trans (Int.min_le_left _ _) (by omega)
    · have := h.all i k d1 hi hk h2
      have := h.all k j d2 hk hj h3
      exact Int.le_trans (Int.min_le_right _ _) (by omega)
structure Rnd (Ed : Nat → Nat → Int → Prop) (n k a b : Nat) (m : List (List Int)) : Prop where
  ent : Ent Ed n k m
  done : ∀ i j d, i < n → j < n → (i < a ∨ i = a ∧ j < b) → Wb Ed (k + 1) i j d → gm m i j ≤ d
theorem Rnd.step {Ed : Nat → Nat → Int → Prop} (hw : ∀ u v w, Ed u v w → 0 ≤ w) {n k a b : Nat} {m : List (List Int)} (h : Rnd Ed n k a b m) (ha : a < n) (hb : b < n) (hk : k < n) : Rnd Ed n k a (b + 1) (upd m a b (min (gm m a b) (gm m a k + gm m k b))) := by
  obtain ⟨h1, h2, h3⟩ := h.ent.step hw ha hb hk
  refine ⟨h1, fun i j d hi hj hp hd => ?_⟩
  rw [gm_upd h.ent.shp ha hb]
  by_cases hij : i = a ∧ j = b
  · obtain ⟨rfl, rfl⟩ := hij
    rw [if_pos ⟨rfl, rfl⟩]; exact h2 d hd
  · rw [if_neg hij]
    exact h.done i j d hi hj (by omega) hd
theorem Rnd.next {Ed : Nat → Nat → Int → Prop} {n k a : Nat} {m : List (List Int)} (h : Rnd Ed n k a n m) : Rnd Ed n k (a + 1) 0 m :=
  ⟨h.ent, fun i j d hi hj hp hd => h.done i j d hi hj (by omega) hd⟩
theorem Rnd.fin {Ed : Nat → Nat → Int → Prop} {n k : Nat} {m : List (List Int)} (h : Rnd Ed n k n 0 m) : Ent Ed n (k + 1) m :=
  ⟨h.ent.shp, h.ent.snd, fun i j d hi hj hd => h.done i j d hi hj (.inl hi) hd⟩
theorem Rnd.start {Ed : Nat → Nat → Int → Prop} {n k : Nat} {m : List (List Int)} (h : Ent Ed n k m) : Rnd Ed n k 0 0 m :=
  ⟨h, fun i j d hi hj hp => by omega⟩
theorem imin_eq (a b : Int) : Tr.imin a b = min a b := by
  unfold Tr.imin
  split <;> omega
theorem shortest_val {n : Nat} (hn : n ≤ 64) {l : List Foot} (hF : FOk n l) (hl : l.length ≤ 4096) (free : Bool) : ∃ z, F61 l (n : Int) free = some z ∧ Ent (EdP l free) n n z := by
  have hw : ∀ u v w, EdP l free u v w → 0 ≤ w := fun u v w ⟨p, hp, _, _, _, h⟩ => by
    have := hF p hp; omega
  unfold F61
  -- the matrix
  refine run_bind' (fun st => ∃ i : Nat, st = (List.replicate i (List.replicate n FAR), (i : Int)) ∧ i ≤ n) (fun st => n - st.2.toNat)
    (fun r => r = List.replicate n (List.replicate n FAR)) ⟨0, rfl, Nat.zero_le _⟩ ?_ ?_
  · rintro st ⟨i, rfl, hi⟩
    by_cases hil : i < n
    · have e1 : IntKind.wrap .i64 ((i : Int) + 1) = ((i + 1 : Nat) : Int) := by rw [wrap_i64 (by omega) (by omega)]; omega
      simp only [show decide ((i : Int) < (n : Int)) = true from decide_eq_true (by omega), cond_true, e1]
      refine run_bind' (fun st => ∃ j : Nat, st = (List.replicate i (List.replicate n FAR), List.replicate j FAR, (j : Int)) ∧ j ≤ n) (fun st => n - st.2.2.toNat)
        (fun r => r = (List.replicate i (List.replicate n FAR), List.replicate n FAR)) ⟨0, rfl, Nat.zero_le _⟩ ?_ ?_
      · rintro st ⟨j, rfl, hj⟩
        by_cases hjl : j < n
        · have e2 : IntKind.wrap .i64 ((j : Int) + 1) = ((j + 1 : Nat) : Int) := by rw [wrap_i64 (by omega) (by omega)]; omega
          simp only [show decide ((j : Int) < (n : Int)) = true from decide_eq_true (by omega), cond_true, e2]
          rw [guard_app (by simp; omega)]
          simp only [Option.bind_some]
          refine ⟨_, rfl, ⟨j + 1, ?_, hjl⟩, by simp only [Int.toNat_natCast]; omega⟩
          rw [List.replicate_succ']; rfl
        · have : j = n := by omega
          subst this
          simp only [show decide ((j : Int) < (j : Int)) = false from decide_eq_false (by omega), cond_false]
          exact ⟨_, rfl, rfl⟩
      · rintro r rfl
        simp only
        rw [guard_app (by simp; omega)]
        simp only [Option.bind_some]
        refine ⟨_, rfl, ⟨i + 1, ?_, hil⟩, by simp only [Int.toNat_natCast]; omega⟩
        rw [List.replicate_succ']
    · have : i = n := by omega
      subst this
      simp only [show decide ((i : Int) < (i : Int)) = false from decide_eq_false (by omega), cond_false]
      exact ⟨_, rfl, rfl⟩
  · rintro r rfl
    have hS0 : Shp n (List.replicate n (List.replicate n FAR)) := ⟨by simp, fun i r hr => by
      have := List.mem_of_getElem? hr
      have := (List.mem_replicate.1 this).2
      subst this; simp⟩
    have hg0 : ∀ i j, i < n → j < n → gm (List.replicate n (List.replicate n FAR)) i j = FAR := fun i j hi hj => by
      unfold gm; simp [hi, hj]
    -- the edges
    refine run_bind' (fun st => ∃ (m : List (List Int)) (i : Nat), st = (m, (i : Int)) ∧ i ≤ l.length ∧ Shp n m ∧ (∀ a b, a < n → b < n → gm m a b = FAR ∨ (gm m a b ≤ FAR ∧ Wb (EdP l free) n a b (gm m a b))) ∧
        ∀ p ∈ l.take i, may free p → gm m p.1.toNat p.2.1.toNat ≤ p.2.2.1) (fun st => l.length - st.2.toNat)
      (fun m => Ent (EdP l free) n 0 m) ⟨_, 0, rfl, Nat.zero_le _, hS0, fun a b ha hb => .inl (hg0 a b ha hb), by simp⟩ ?_ ?_
    · rintro st ⟨m, i, rfl, hi, hS, hsnd, hall⟩
      by_cases hil : i < l.length
      · have e1 : IntKind.wrap .i64 ((i : Int) + 1) = ((i + 1 : Nat) : Int) := by rw [wrap_i64 (by omega) (by omega)]; omega
        obtain ⟨p1, p2, p3, p4, p5, p6⟩ := hF _ (List.getElem_mem hil)
        have htake : l.take (i + 1) = l.take i ++ [l[i]] := List.take_succ_eq_append_getElem hil
        obtain ⟨u, hu⟩ : ∃ u : Nat, (l[i]).1 = (u : Int) := ⟨_, (Int.toNat_of_nonneg p1).symm⟩
        obtain ⟨v, hv⟩ : ∃ v : Nat, (l[i]).2.1 = (v : Int) := ⟨_, (Int.toNat_of_nonneg p3).symm⟩
        have hun : u < n := by omega
        have hvn : v < n := by omega
        obtain ⟨row, hrow, hrl⟩ := hS.row hun
        have hcell := row_get hS hun hvn hrow
        have hum : u < m.length := by rw [hS.1]; exact hun
        simp only [show decide ((i : Int) < (l.length : Int)) = true from decide_eq_true (by omega), cond_true, e1, idx_nat hil, Option.bind_some]
        have stay : ¬ may free l[i] → ∃ z, some (Sum.inl (m, ((i + 1 : Nat) : Int)) : (List (List Int) × Int) ⊕ List (List Int)) = some z ∧ Sum.elim (fun s' : List (List Int) × Int => (∃ (m : List (List Int)) (i : Nat), s' = (m, (i : Int)) ∧ i ≤ l.length ∧ Shp n m ∧ (∀ a b, a < n → b < n → gm m a b = FAR ∨ (gm m a b ≤ FAR ∧ Wb (EdP l free) n a b (gm m a b))) ∧
            ∀ p ∈ l.take i, may free p → gm m p.1.toNat p.2.1.toNat ≤ p.2.2.1) ∧ l.length - s'.2.toNat < l.length - ((i : Nat) : Int).toNat) (fun m => Ent (EdP l free) n 0 m) z := fun hm => by
          refine ⟨_, rfl, ⟨m, i + 1, rfl, hil, hS, hsnd, fun p hp hmp => ?_⟩, by simp only [Int.toNat_natCast]; omega⟩
          rw [htake] at hp
          rcases List.mem_append.1 hp with h | h
          · exact hall p h hmp
          · simp at h; subst h; exact absurd hmp hm
        have put : may free l[i] → ∀ b : Bool, b = true → ∃ z, (bif b then
                  Option.bind (Tr.inb (u : Int) (List.length m)) fun x9 =>
                    Option.bind m[x9]? fun _ =>
                      Option.bind (Tr.inb (u : Int) (List.length m)) fun x11 =>
                        Option.bind m[x11]? fun _ =>
                          Option.bind (Tr.idx m (x11 : Int)) fun x13 =>
                            Option.bind (Tr.inb (v : Int) (List.length x13)) fun x14 =>
                              Option.bind (Tr.idx m (x11 : Int)) fun x15 =>
                                Option.bind x15[x14]? fun x16 =>
                                  Option.bind (Tr.idx m (x9 : Int)) fun x17 =>
                                    Option.bind (Tr.inb (v : Int) (List.length x17)) fun x18 =>
                                      Option.bind (Tr.idx m (x9 : Int)) fun x19 =>
                                        Option.bind x19[x18]? fun _ =>
                                          Option.some
                                            (Sum.inl (List.set m (Int.toNat (x9 : Int)) (List.set x19 x18 (Tr.imin x16 (l[i]).2.2.1)), ((i + 1 : Nat) : Int)))
                else Option.some (Sum.inl (m, ((i + 1 : Nat) : Int)))) = some (z : (List (List Int) × Int) ⊕ List (List Int)) ∧ Sum.elim (fun s' : List (List Int) × Int => (∃ (m : List (List Int)) (i : Nat), s' = (m, (i : Int)) ∧ i ≤ l.length ∧ Shp n m ∧ (∀ a b, a < n → b < n → gm m a b = FAR ∨ (gm m a b ≤ FAR ∧ Wb (EdP l free) n a b (gm m a b))) ∧
            ∀ p ∈ l.take i, may free p → gm m p.1.toNat p.2.1.toNat ≤ p.2.2.1) ∧ l.length - s'.2.toNat < l.length - ((i : Nat) : Int).toNat) (fun m => Ent (EdP l free) n 0 m) z := by
          rintro hm b rfl
          have hvr : v < row.length := by omega
          have hidx : Tr.idx m (u : Int) = some row := by rw [idx_nat hum]; rw [List.getElem?_eq_getElem hum] at hrow; exact hrow
          simp only [cond_true, inb_nat hum, Option.bind_some, hrow, hidx, inb_nat hvr, hcell, Int.toNat_natCast]
          have hmat : List.set m u (List.set row v (Tr.imin (gm m u v) (l[i]).2.2.1)) = upd m u v (min (gm m u v) (l[i]).2.2.1) := by
            unfold upd; rw [hrow, imin_eq]; rfl
          rw [hmat]
          have hed : EdP l free u v (l[i]).2.2.1 := ⟨_, List.getElem_mem hil, hm, hu, hv, rfl⟩
          refine ⟨_, rfl, ⟨_, i + 1, rfl, hil, hS.upd hun v _, fun a b ha hb => ?_, fun p hp hmp => ?_⟩, by simp only [Int.toNat_natCast]; omega⟩
          · rw [gm_upd hS hun hvn]
            by_cases hab : a = u ∧ b = v
            · obtain ⟨rfl, rfl⟩ := hab
              rw [if_pos ⟨rfl, rfl⟩]
              by_cases hle : gm m a b ≤ (l[i]).2.2.1
              · rw [Int.min_eq_left hle]; exact hsnd a b ha hb
              · rw [Int.min_eq_right (by omega)]
                exact .inr ⟨by unfold FAR; omega, .one hed⟩
            · rw [if_neg hab]; exact hsnd a b ha hb
          · rw [gm_upd hS hun hvn]
            rw [htake] at hp
            rcases List.mem_append.1 hp with h | h
            · have := hall p h hmp
              by_cases hab : p.1.toNat = u ∧ p.2.1.toNat = v
              · rw [if_pos hab]
                rw [hab.1, hab.2] at this
                exact Int.le_trans (Int.min_le_left _ _) this
              · rw [if_neg hab]; exact this
            · simp at h; subst h
              rw [if_pos ⟨by rw [hu]; simp, by rw [hv]; simp⟩]
              exact Int.min_le_right _ _
        simp only [hu, hv]
        cases hsf : (l[i]).2.2.2.1 with
        | true =>
          simp only [cond_true, Option.bind_some]
          exact put (fun _ => hsf) true rfl
        | false =>
          simp only [cond_false, Option.bind_some]
          cases hfr : free with
          | false =>
            have := put (fun h => by rw [hfr] at h; cases h) true rfl
            rw [hfr] at this
            exact this
          | true =>
            have := stay (fun h => by have := h hfr; rw [hsf] at this; cases this)
            rw [hfr] at this
            exact this
      · have : i = l.length := by omega
        subst this
        simp only [show decide ((l.length : Int) < (l.length : Int)) = false from decide_eq_false (by omega), cond_false]
        rw [List.take_length] at hall
        refine ⟨_, rfl, hS, hsnd, fun a b d ha hb hd => ?_⟩
        cases hd with
        | one e =>
          obtain ⟨p, hp, hm, h1, h2, rfl⟩ := e
          have := hall p hp hm
          rwa [h1, h2] at this
        | cons e hm _ => omega
    · intro m hE
      refine run_bind' (fun st => ∃ (m : List (List Int)) (k : Nat), st = (m, (k : Int)) ∧ k ≤ n ∧ Ent (EdP l free) n k m) (fun st => n - st.2.toNat) (fun m => Ent (EdP l free) n n m) ⟨m, 0, rfl, Nat.zero_le _, hE⟩ ?_ (fun m hm => ⟨_, rfl, hm⟩)
      rintro st ⟨m, k, rfl, hk, hE⟩
      by_cases hkl : k < n
      · have e1 : IntKind.wrap .i64 ((k : Int) + 1) = ((k + 1 : Nat) : Int) := by rw [wrap_i64 (by omega) (by omega)]; omega
        simp only [show decide ((k : Int) < (n : Int)) = true from decide_eq_true (by omega), cond_true, e1]
        refine run_bind' (fun st => ∃ (m : List (List Int)) (a : Nat), st = (m, (a : Int)) ∧ a ≤ n ∧ Rnd (EdP l free) n k a 0 m) (fun st => n - st.2.toNat) (fun m => Rnd (EdP l free) n k n 0 m) ⟨m, 0, rfl, Nat.zero_le _, Rnd.start hE⟩ ?_ (fun m hm => ⟨_, rfl, ⟨m, k + 1, rfl, hkl, hm.fin⟩, by simp only [Int.toNat_natCast]; omega⟩)
        rintro st ⟨m, a, rfl, ha, hR⟩
        by_cases hal : a < n
        · have e2 : IntKind.wrap .i64 ((a : Int) + 1) = ((a + 1 : Nat) : Int) := by rw [wrap_i64 (by omega) (by omega)]; omega
          simp only [show decide ((a : Int) < (n : Int)) = true from decide_eq_true (by omega), cond_true, e2]
          refine run_bind' (fun st => ∃ (m : List (List Int)) (b : Nat), st = (m, (b : Int)) ∧ b ≤ n ∧ Rnd (EdP l free) n k a b m) (fun st => n - st.2.toNat) (fun m => Rnd (EdP l free) n k a n m) ⟨m, 0, rfl, Nat.zero_le _, hR⟩ ?_ (fun m hm => ⟨_, rfl, ⟨m, a + 1, rfl, hal, hm.next⟩, by simp only [Int.toNat_natCast]; omega⟩)
          rintro st ⟨m, b, rfl, hb, hR⟩
          by_cases hbl : b < n
          · have e3 : IntKind.wrap .i64 ((b : Int) + 1) = ((b + 1 : Nat) : Int) := by rw [wrap_i64 (by omega) (by omega)]; omega
            have hS := hR.ent.shp
            obtain ⟨ra, hra, hral⟩ := hS.row hal
            obtain ⟨rk, hrk, hrkl⟩ := hS.row hkl
            have ham : a < m.length := by rw [hS.1]; exact hal
            have hkm : k < m.length := by rw [hS.1]; exact hkl
            have hia : Tr.idx m (a : Int) = some ra := by rw [idx_nat ham]; rw [List.getElem?_eq_getElem ham] at hra; exact hra
            have hik : Tr.idx m (k : Int) = some rk := by rw [idx_nat hkm]; rw [List.getElem?_eq_getElem hkm] at hrk; exact hrk
            have hba : b < ra.length := by omega
            have hbk : b < rk.length := by omega
            have hka : k < ra.length := by omega
            have b1 := hR.ent.bnd hw hal hbl
            have b2 := hR.ent.bnd hw hal hkl
            have b3 := hR.ent.bnd hw hkl hbl
            have e4 : IntKind.wrap .i64 (gm m a k + gm m k b) = gm m a k + gm m k b := wrap_i64 (by unfold FAR at *; omega) (by unfold FAR at *; omega)
            simp only [show decide ((b : Int) < (n : Int)) = true from decide_eq_true (by omega), cond_true, e3, inb_nat ham, inb_nat hkm, Option.bind_some, hra, hrk, hia, hik, inb_nat hba, inb_nat hbk, inb_nat hka, row_get hS hal hbl hra, row_get hS hal hkl hra, row_get hS hkl hbl hrk, e4, Int.toNat_natCast, imin_eq]
            have hmat : List.set m a (List.set ra b (min (gm m a b) (gm m a k + gm m k b))) = upd m a b (min (gm m a b) (gm m a k + gm m k b)) := by
              unfold upd; rw [hra]; rfl
            rw [hmat]
            exact ⟨_, rfl, ⟨_, b + 1, rfl, hbl, hR.step hw hal hbl hkl⟩, by simp only [Int.toNat_natCast]; omega⟩
          · have : b = n := by omega
            subst this
            simp only [show decide ((b : Int) < (b : Int)) = false from decide_eq_false (by omega), cond_false]
            exact ⟨_, rfl, hR⟩
        · have : a = n := by omega
          subst this
          simp only [show decide ((a : Int) < (a : Int)) = false from decide_eq_false (by omega), cond_false]
          exact ⟨_, rfl, hR⟩
      · have : k = n := by omega
        subst this
        simp only [show decide ((k : Int) < (k : Int)) = false from decide_eq_false (by omega), cond_false]
        exact ⟨_, rfl, hE⟩
end Q
namespace Q
open Tr Go
abbrev FootS := Int × Int × Int × Bool × Unit
def ltF (a b : FootS) : Prop := a.1 < b.1 ∨ (a.1 = b.1 ∧ (a.2.1 < b.2.1 ∨ (a.2.1 = b.2.1 ∧ a.2.2.1 < b.2.2.1)))
def cmpI (a b : Int) : Int := if a < b then -1 else if b < a then 1 else 0
theorem cmpI_val (a b : Int) : F2 a b = some (cmpI a b) := by
  unfold F2 F4 cmpI
  simp only [decide_true, Bool.not_true, Option.bind_some, cond_false]
  by_cases h : a < b
  · simp [h]
  · by_cases h2 : b < a
    · simp [h, h2]
    · simp [h, h2]
theorem or_val (x y z : Int) : F3 [x, y, z] = some (if x ≠ 0 then x else if y ≠ 0 then y else z) := by
  unfold F3
  have w1 : IntKind.wrap .i64 (0 + 1 : Int) = 1 := by decide
  have w2 : IntKind.wrap .i64 (1 + 1 : Int) = 2 := by decide
  have w3 : IntKind.wrap .i64 (2 + 1 : Int) = 3 := by decide
  have i0 : Tr.idx [x, y, z] 0 = some x := rfl
  have i1 : Tr.idx [x, y, z] 1 = some y := rfl
  have i2 : Tr.idx [x, y, z] 2 = some z := rfl
  have hl : (([x, y, z] : List Int).length : Int) = 3 := rfl
  rw [run_unfold]
  simp only [hl, show decide ((0 : Int) < 3) = true from rfl, cond_true, i0, Option.bind_some, w1]
  by_cases hx : x = 0
  · subst hx
    simp only [decide_true, Bool.not_true, cond_false, Option.bind_some, Sum.elim_inl]
    rw [run_unfold]
    simp only [show decide ((1 : Int) < 3) = true from rfl, cond_true, i1, Option.bind_some, w2]
    by_cases hy : y = 0
    · subst hy
      simp only [decide_true, Bool.not_true, cond_false, Option.bind_some, Sum.elim_inl]
      rw [run_unfold]
      simp only [show decide ((2 : Int) < 3) = true from rfl, cond_true, i2, Option.bind_some, w3]
      by_cases hz : z = 0
      · subst hz
        simp only [decide_true, Bool.not_true, cond_false, Option.bind_some, Sum.elim_inl]
        rw [run_unfold]
        simp
      · simp [hz]
    · simp [hy]
  · simp [hx]
def c3 (a b : FootS) : Int := if cmpI a.1 b.1 ≠ 0 then cmpI a.1 b.1 else if cmpI a.2.1 b.2.1 ≠ 0 then cmpI a.2.1 b.2.1 else cmpI a.2.2.1 b.2.2.1
theorem c3_val (a b : FootS) : F14 a b = some (c3 a b) := by
  unfold F14
  simp only [cmpI_val, Option.bind_some]
  rw [show F3 [cmpI a.1 b.1, cmpI a.2.1 b.2.1, cmpI a.2.2.1 b.2.2.1] = _ from or_val _ _ _]
  rfl
theorem c3_lt (a b : FootS) : c3 a b < 0 ↔ ltF a b := by
  unfold c3 ltF cmpI
  by_cases h1 : a.1 < b.1
  · simp [h1]
  · by_cases h2 : b.1 < a.1
    · simp [h1, h2]; omega
    · have e1 : a.1 = b.1 := by omega
      by_cases h3 : a.2.1 < b.2.1
      · simp [e1, h3]
      · by_cases h4 : b.2.1 < a.2.1
        · simp [e1, h3, h4]; omega
        · have e2 : a.2.1 = b.2.1 := by omega
          by_cases h5 : a.2.2.1 < b.2.2.1
          · simp [e1, e2, h5]
          · by_cases h6 : b.2.2.1 < a.2.2.1
            · simp [e1, e2, h5, h6]
            · simp [e1, e2, h5, h6]
theorem c3_pos (a b : FootS) : 0 < c3 a b ↔ ltF b a := by
  unfold c3 ltF cmpI
  by_cases h1 : a.1 < b.1
  · simp [h1]; omega
  · by_cases h2 : b.1 < a.1
    · simp [h1, h2]
    · have e1 : a.1 = b.1 := by omega
      by_cases h3 : a.2.1 < b.2.1
      · simp [e1, h3]; omega
      · by_cases h4 : b.2.1 < a.2.1
        · simp [e1, h3, h4]
        · have e2 : a.2.1 = b.2.1 := by omega
          by_cases h5 : a.2.2.1 < b.2.2.1
          · simp [e1, e2, h5]; omega
          · by_cases h6 : b.2.2.1 < a.2.2.1
            · simp [e1, e2, h5, h6]
            · simp [e1, e2, h5, h6]
def Srt (l : List FootS) : Prop := l.Pairwise ltF
theorem sort_val {l : List FootS} (h : Srt l) (hl : l.length < 16384) : F99 l () = some l := by
  unfold F99
  refine Tr.sortF_sorted ltF l (by omega) (fun x _ y _ => ⟨_, c3_val x y, c3_lt x y, c3_pos x y⟩) (fun x _ => ?_) (fun a _ b _ c _ => ?_) h
  · unfold ltF; omega
  · unfold ltF; omega
end Q
namespace Q
open Tr Go Gr
def itemC (a b : Nat) (d f : Int) : List FootS :=
  (if 0 < d ∧ d ≤ 14400 then [((a : Int), (b : Int), d, decide (f = d), ())] else []) ++ (if f = d then [] else if 0 < f ∧ f ≤ 14400 then [((a : Int), (b : Int), f, true, ())] else [])
def itemR (a b : Nat) (e g : Int) : List FootS :=
  if 14400 < e then [] else ((a : Int), (b : Int), e, decide (g = e), ()) :: (if e < g ∧ g ≤ 14400 then [((a : Int), (b : Int), g, true, ())] else [])
def Rel (d e : Int) : Prop := (e = d ∧ 1 ≤ d) ∨ (e = FAR ∧ (d = -1 ∨ FAR ≤ d))
theorem items_eq {a b : Nat} {d e f g : Int} (h1 : Rel d e) (h2 : Rel f g) (h3 : f = -1 ∨ (d ≠ -1 ∧ d ≤ f)) : itemC a b d f = itemR a b e g := by
  unfold Rel FAR at *
  unfold itemC itemR
  by_cases hd : 0 < d ∧ d ≤ 14400
  · have he : e = d := by omega
    subst he
    rw [if_pos hd, if_neg (show ¬ (14400 : Int) < e by omega)]
    by_cases hf : f = e
    · have hg : g = e := by omega
      rw [if_pos hf, if_neg (show ¬ (e < g ∧ g ≤ 14400) by omega), hf, hg]
      rfl
    · rw [if_neg hf]
      have hg : ¬ g = e := by omega
      rw [decide_eq_false hf, decide_eq_false hg]
      by_cases hf2 : 0 < f ∧ f ≤ 14400
      · have hgf : g = f := by omega
        rw [if_pos hf2, if_pos (show e < g ∧ g ≤ 14400 by omega), hgf]
        rfl
      · rw [if_neg hf2, if_neg (show ¬ (e < g ∧ g ≤ 14400) by omega)]
        rfl
  · rw [if_neg hd, if_pos (show (14400 : Int) < e by omega)]
    by_cases hf : f = d
    · rw [if_pos hf]; rfl
    · rw [if_neg hf, if_neg (show ¬ (0 < f ∧ f ≤ 14400) by omega)]; rfl
theorem itemC_len (a b : Nat) (d f : Int) : (itemC a b d f).length ≤ 2 := by
  unfold itemC
  split <;> split <;> (try split) <;> simp
theorem closure1_val {a b : Nat} {d : Int} {s : Bool} {out : List FootS} (h : out.length < 4294967295) : F13 (a : Int) (b : Int) d s out = some (out ++ if 0 < d ∧ d ≤ 14400 then [((a : Int), (b : Int), d, s, ())] else []) := by
  unfold F13
  by_cases h1 : 0 < d
  · by_cases h2 : d ≤ 14400
    · simp only [show decide ((0 : Int) < d) = true from decide_eq_true h1, cond_true, Option.bind_some, show decide (d ≤ (14400 : Int)) = true from decide_eq_true h2]
      rw [guard_app (by simp; omega), if_pos ⟨h1, h2⟩]
      rfl
    · simp only [show decide ((0 : Int) < d) = true from decide_eq_true h1, cond_true, Option.bind_some, show decide (d ≤ (14400 : Int)) = false from decide_eq_false h2, cond_false]
      rw [if_neg (fun h => h2 h.2), List.append_nil]
  · simp only [show decide ((0 : Int) < d) = false from decide_eq_false h1, cond_false, Option.bind_some]
    rw [if_neg (fun h => h1 h.1), List.append_nil]
section
variable (it : Nat → Nat → List FootS) (n : Nat)
def rowL (a m : Nat) : List FootS := (List.range m).flatMap fun b => if a = b then [] else it a b
def allL (m : Nat) : List FootS := (List.range m).flatMap fun a => rowL it a n
end
theorem rowL_succ (it : Nat → Nat → List FootS) (a m : Nat) : rowL it a (m + 1) = rowL it a m ++ if a = m then [] else it a m := by
  unfold rowL
  rw [List.range_succ, List.flatMap_append]; simp
theorem allL_succ (it : Nat → Nat → List FootS) (n m : Nat) : allL it n (m + 1) = allL it n m ++ rowL it m n := by
  unfold allL
  rw [List.range_succ, List.flatMap_append]; simp
theorem rowL_len {it : Nat → Nat → List FootS} (h : ∀ a b, (it a b).length ≤ 2) (a : Nat) : ∀ m, (rowL it a m).length ≤ 2 * m
  | 0 => by simp [rowL]
  | m + 1 => by
    rw [rowL_succ, List.length_append]
    have := rowL_len h a m
    have := h a m
    split <;> simp <;> omega
theorem allL_len {it : Nat → Nat → List FootS} (h : ∀ a b, (it a b).length ≤ 2) (n : Nat) : ∀ m, (allL it n m).length ≤ 2 * n * m
  | 0 => by simp [allL]
  | m + 1 => by
    rw [allL_succ, List.length_append]
    have := allL_len h n m
    have := rowL_len h m n
    rw [Nat.mul_add]; omega
theorem allL_bound {it : Nat → Nat → List FootS} (h : ∀ a b, (it a b).length ≤ 2) {n m : Nat} (hn : n ≤ 64) (hm : m ≤ n) : (allL it n m).length ≤ 8192 := by
  have h1 := allL_len h n m
  have h2 : 2 * n * m ≤ 2 * 64 * 64 := Nat.mul_le_mul (Nat.mul_le_mul (Nat.le_refl 2) hn) (by omega)
  omega
theorem allL_congr {it it' : Nat → Nat → List FootS} {n m : Nat} (hm : m ≤ n) (h : ∀ a b, a < n → b < n → a ≠ b → it a b = it' a b) : allL it n m = allL it' n m := by
  induction m with
  | zero => rfl
  | succ m ih =>
    rw [allL_succ, allL_succ, ih (by omega)]
    congr 1
    have : ∀ k, k ≤ n → rowL it m k = rowL it' m k := by
      intro k
      induction k with
      | zero => intro _; rfl
      | succ k ihk =>
        intro hk
        rw [rowL_succ, rowL_succ, ihk (by omega)]
        by_cases hmk : m = k
        · rw [if_pos hmk, if_pos hmk]
        · rw [if_neg hmk, if_neg hmk, h m k (by omega) (by omega) hmk]
    exact this n (Nat.le_refl n)
theorem allL_srt {it : Nat → Nat → List FootS} {n m : Nat} (h1 : ∀ a b x, x ∈ it a b → x.1 = (a : Int) ∧ x.2.1 = (b : Int)) (h2 : ∀ a b, (it a b).Pairwise fun x y => x.2.2.1 < y.2.2.1) : Srt (allL it n m) := by
  show (allL it n m).Pairwise ltF
  · unfold allL
    rw [List.pairwise_flatMap]
    refine ⟨fun a _ => ?_, ?_⟩
    · unfold rowL
      rw [List.pairwise_flatMap]
      refine ⟨fun b _ => ?_, ?_⟩
      · split
        · exact List.Pairwise.nil
        · refine List.Pairwise.imp_of_mem ?_ (h2 a b)
          intro x y hx hy hxy
          obtain ⟨e1, e2⟩ := h1 a b x hx
          obtain ⟨e3, e4⟩ := h1 a b y hy
          unfold ltF; omega
      · refine List.Pairwise.imp ?_ List.pairwise_lt_range
        intro b b' hbb x hx y hy
        split at hx
        · simp at hx
        · split at hy
          · simp at hy
          · obtain ⟨e1, e2⟩ := h1 a b x hx
            obtain ⟨e3, e4⟩ := h1 a b' y hy
            unfold ltF; omega
    · refine List.Pairwise.imp ?_ List.pairwise_lt_range
      intro a a' haa x hx y hy
      unfold rowL at hx hy
      obtain ⟨b, _, hx⟩ := List.mem_flatMap.1 hx
      obtain ⟨b', _, hy⟩ := List.mem_flatMap.1 hy
      split at hx
      · simp at hx
      · split at hy
        · simp at hy
        · obtain ⟨e1, e2⟩ := h1 a b x hx
          obtain ⟨e3, e4⟩ := h1 a' b' y hy
          unfold ltF; omega
theorem itemC_mem {a b : Nat} {d f : Int} {x : FootS} (h : x ∈ itemC a b d f) : x.1 = (a : Int) ∧ x.2.1 = (b : Int) := by
  unfold itemC at h
  rcases List.mem_append.1 h with h | h
  · split at h
    · simp at h; subst h; exact ⟨rfl, rfl⟩
    · simp at h
  · split at h
    · simp at h
    · split at h
      · simp at h; subst h; exact ⟨rfl, rfl⟩
      · simp at h
theorem closure_val {n : Nat} (hn : n ≤ 64) {l : List Foot} (hF : FOk n l) (hl : l.length ≤ 4096)
    (hle : ∀ a b, distI (EdP l true) a b = -1 ∨ distI (EdP l false) a b ≤ distI (EdP l true) a b) :
    F12 l (n : Int) = some (allL (fun a b => itemC a b (distI (EdP l false) a b) (distI (EdP l true) a b)) n n) := by
  have key : ∃ z, F12 l (n : Int) = some z ∧ z = allL (fun a b => itemC a b (distI (EdP l false) a b) (distI (EdP l true) a b)) n n := by
    unfold F12
    obtain ⟨_, h1, rfl⟩ := distances_val hn hF hl false
    obtain ⟨_, h2, rfl⟩ := distances_val hn hF hl true
    rw [h1]
    simp only [Option.bind_some]
    rw [h2]
    simp only [Option.bind_some]
    have hlen : ∀ Ed, (mat Ed n).length = n := fun Ed => by simp [mat]
    have hitl : ∀ a b : Nat, ((fun a b => itemC a b (distI (EdP l false) a b) (distI (EdP l true) a b)) a b).length ≤ 2 := fun a b => itemC_len _ _ _ _
    have hrow : ∀ Ed (a : Nat), a < n → Tr.idx (mat Ed n) (a : Int) = some ((List.range n).map fun j => distI Ed a j) := fun Ed a ha => by
      have h := mat_row (Ed := Ed) ha
      have hal : a < (mat Ed n).length := by rw [hlen]; exact ha
      rw [idx_nat hal]
      rw [List.getElem?_eq_getElem hal] at h
      exact h
    have hcell : ∀ Ed (a b : Nat), b < n → Tr.idx ((List.range n).map fun j => distI Ed a j) (b : Int) = some (distI Ed a b) := fun Ed a b hb => by
      rw [idx_nat (by simp; exact hb)]
      simp
    refine run_bind' (fun st => ∃ a : Nat, st = (allL (fun a b => itemC a b (distI (EdP l false) a b) (distI (EdP l true) a b)) n a, (a : Int)) ∧ a ≤ n) (fun st => n - st.2.toNat)
      (fun r => r = allL (fun a b => itemC a b (distI (EdP l false) a b) (distI (EdP l true) a b)) n n) ⟨0, rfl, Nat.zero_le _⟩ ?_ ?_
    · rintro st ⟨a, rfl, ha⟩
      by_cases hal : a < n
      · have e1 : IntKind.wrap .i64 ((a : Int) + 1) = ((a + 1 : Nat) : Int) := by rw [wrap_i64 (by omega) (by omega)]; omega
        simp only [hlen, show decide ((a : Int) < (n : Int)) = true from decide_eq_true (by omega), cond_true, hrow _ a hal, Option.bind_some, e1, List.length_map, List.length_range]
        refine run_bind' (fun st => ∃ b : Nat, st = (allL (fun a b => itemC a b (distI (EdP l false) a b) (distI (EdP l true) a b)) n a ++ rowL (fun a b => itemC a b (distI (EdP l false) a b) (distI (EdP l true) a b)) a b, (b : Int)) ∧ b ≤ n) (fun st => n - st.2.toNat)
          (fun r => r = allL (fun a b => itemC a b (distI (EdP l false) a b) (distI (EdP l true) a b)) n (a + 1)) ⟨0, by simp [rowL], Nat.zero_le _⟩ ?_ ?_
        · rintro st ⟨b, rfl, hb⟩
          by_cases hbl : b < n
          · have e2 : IntKind.wrap .i64 ((b : Int) + 1) = ((b + 1 : Nat) : Int) := by rw [wrap_i64 (by omega) (by omega)]; omega
            simp only [show decide ((b : Int) < (n : Int)) = true from decide_eq_true (by omega), cond_true, hcell _ a b hbl, Option.bind_some, e2]
            by_cases hab : a = b
            · subst hab
              simp only [decide_true, cond_true]
              exact ⟨_, rfl, ⟨a + 1, by rw [rowL_succ, if_pos rfl, List.append_nil], hbl⟩, by simp only [Int.toNat_natCast]; omega⟩
            · have hl1 : (allL (fun a b => itemC a b (distI (EdP l false) a b) (distI (EdP l true) a b)) n a ++ rowL (fun a b => itemC a b (distI (EdP l false) a b) (distI (EdP l true) a b)) a b).length ≤ 10000 := by
                rw [List.length_append]
                have := allL_bound hitl hn ha
                have := rowL_len hitl a b
                omega
              simp only [show decide ((a : Int) = (b : Int)) = false from decide_eq_false (by omega), cond_false]
              rw [closure1_val (by omega)]
              simp only [Option.bind_some]
              by_cases hfd : distI (EdP l true) a b = distI (EdP l false) a b
              · simp only [hfd, decide_true, Bool.not_true, cond_false]
                refine ⟨_, rfl, ⟨b + 1, ?_, hbl⟩, by simp only [Int.toNat_natCast]; omega⟩
                rw [rowL_succ, if_neg hab, ← List.append_assoc]
                congr 1
                unfold itemC
                simp only [hfd, if_true, List.append_nil, decide_true]
              · simp only [decide_eq_false hfd, Bool.not_false, cond_true]
                rw [closure1_val (by rw [List.length_append]; split <;> simp at * <;> omega)]
                simp only [Option.bind_some]
                refine ⟨_, rfl, ⟨b + 1, ?_, hbl⟩, by simp only [Int.toNat_natCast]; omega⟩
                rw [rowL_succ, if_neg hab, List.append_assoc, ← List.append_assoc (allL _ _ _)]
                congr 1
                unfold itemC
                simp only [if_neg hfd, decide_eq_false hfd]
          · have : b = n := by omega
            subst this
            simp only [show decide ((b : Int) < (b : Int)) = false from decide_eq_false (by omega), cond_false]
            exact ⟨_, rfl, (allL_succ _ _ _).symm⟩
        · rintro r rfl
          exact ⟨_, rfl, ⟨a + 1, rfl, hal⟩, by simp only [Int.toNat_natCast]; omega⟩
      · have : a = n := by omega
        subst this
        simp only [hlen, show decide ((a : Int) < (a : Int)) = false from decide_eq_false (by omega), cond_false]
        exact ⟨_, rfl, rfl⟩
    · rintro r rfl
      have hs : Srt (allL (fun a b => itemC a b (distI (EdP l false) a b) (distI (EdP l true) a b)) n n) := allL_srt (fun a b x hx => itemC_mem hx) (fun a b => by
        unfold itemC
        have := hle a b
        split
        · split
          · simp
          · split
            · simp; omega
            · simp
        · split
          · simp
          · split <;> simp)
      rw [sort_val hs (by have := allL_bound hitl hn (Nat.le_refl n); omega)]
      exact ⟨_, rfl, rfl⟩
  obtain ⟨z, h, rfl⟩ := key
  exact h
end Q
namespace Q
open Tr Go Gr
theorem least_exists {Ed : Nat → Nat → Int → Prop} (hw : ∀ u v w, Ed u v w → 0 ≤ w) {s v : Nat} : ∀ (k : Nat) (d : Int), d.toNat = k → Wk Ed s v d → ∃ m, Least Ed s v m := by
  intro k
  induction k using Nat.strongRecOn with
  | ind k ih =>
    intro d hd h
    by_cases hex : ∃ d', Wk Ed s v d' ∧ d' < d
    · obtain ⟨d', h1, h2⟩ := hex
      have a := h1.nonneg hw
      exact ih d'.toNat (by omega) d' rfl h1
    · exact ⟨d, h, fun d' h' => by
        by_cases hlt : d' < d
        · exact absurd ⟨d', h', hlt⟩ hex
        · omega⟩
theorem wb_pos {Ed : Nat → Nat → Int → Prop} (hw : ∀ u v w, Ed u v w → 1 ≤ w) {k i j : Nat} {d : Int} (h : Wb Ed k i j d) : 1 ≤ d := by
  induction h with
  | one e => exact hw _ _ _ e
  | cons e _ _ ih => have := hw _ _ _ e; omega
theorem edp_ok {n : Nat} {l : List Foot} (hF : FOk n l) (free : Bool) : ∀ u v w, EdP l free u v w → u < n ∧ v < n ∧ 1 ≤ w := fun u v w ⟨p, hp, _, h1, h2, h3⟩ => by
  have := hF p hp; omega
theorem dist_le {n : Nat} {l : List Foot} (hF : FOk n l) (a b : Nat) : distI (EdP l true) a b = -1 ∨ (distI (EdP l false) a b ≠ -1 ∧ distI (EdP l false) a b ≤ distI (EdP l true) a b) := by
  by_cases h : ∃ d, Least (EdP l true) a b d
  · right
    obtain ⟨d, hd⟩ := h
    have hw : ∀ u v w, EdP l false u v w → 0 ≤ w := fun u v w h => by have := edp_ok hF false u v w h; omega
    have hwk : Wk (EdP l false) a b d := by
      -- the same edges, so the same walk
      have key : ∀ {v : Nat} {d : Int}, Wk (EdP l true) a v d → Wk (EdP l false) a v d := by
        intro v d h
        induction h with
        | nil => exact .nil
        | snoc _ e ih =>
          obtain ⟨p, hp, _, h1⟩ := e
          exact .snoc ih ⟨p, hp, (fun (h : false = true) => by cases h), h1⟩
      exact key hd.1
    obtain ⟨m, hm⟩ := least_exists hw _ d rfl hwk
    rw [distI_of hm, distI_of hd]
    have := hm.1.nonneg hw
    exact ⟨by omega, hm.2 d hwk⟩
  · left
    unfold distI
    rw [dif_neg h]
theorem rel_of {n : Nat} {l : List Foot} (hF : FOk n l) {free : Bool} {m : List (List Int)} (hE : Ent (EdP l free) n n m) {a b : Nat} (ha : a < n) (hb : b < n) (hab : a ≠ b) : Rel (distI (EdP l free) a b) (gm m a b) := by
  have hn : ∀ u v w, EdP l free u v w → u < n ∧ v < n := fun u v w h => ⟨(edp_ok hF free u v w h).1, (edp_ok hF free u v w h).2.1⟩
  have hall : ∀ d, Wk (EdP l free) a b d → gm m a b ≤ d := fun d hd => by
    rcases hd.wb hn with ⟨h, _⟩ | h
    · exact absurd h.symm hab
    · exact hE.all a b d ha hb h
  rcases hE.snd a b ha hb with h | ⟨_, h⟩
  · right
    refine ⟨h, ?_⟩
    by_cases hex : ∃ d, Least (EdP l free) a b d
    · obtain ⟨d, hd⟩ := hex
      rw [distI_of hd]
      have := hall d hd.1
      right; omega
    · left; unfold distI; rw [dif_neg hex]
  · left
    have hwk := Wb.wk (Wk.nil (Ed := EdP l free) (s := a)) h
    rw [Int.zero_add] at hwk
    rw [distI_of ⟨hwk, hall⟩]
    exact ⟨rfl, wb_pos (fun u v w h => (edp_ok hF free u v w h).2.2) h⟩
theorem itemR_len (a b : Nat) (d f : Int) : (itemR a b d f).length ≤ 2 := by
  unfold itemR
  split
  · simp
  · simp only [List.length_cons]; split <;> simp
theorem closedR_val {n : Nat} (hn : n ≤ 64) {l : List Foot} (hF : FOk n l) (hl : l.length ≤ 4096) :
    ∃ z1 z2, Ent (EdP l false) n n z1 ∧ Ent (EdP l true) n n z2 ∧ F59 l (n : Int) = some (allL (fun a b => itemR a b (gm z1 a b) (gm z2 a b)) n n) := by
  obtain ⟨z1, h1, hE1⟩ := shortest_val hn hF hl false
  obtain ⟨z2, h2, hE2⟩ := shortest_val hn hF hl true
  refine ⟨z1, z2, hE1, hE2, ?_⟩
  have key : ∃ z, F59 l (n : Int) = some z ∧ z = allL (fun a b => itemR a b (gm z1 a b) (gm z2 a b)) n n := by
    unfold F59
    rw [h1]
    simp only [Option.bind_some]
    rw [h2]
    simp only [Option.bind_some]
    have hitl : ∀ a b : Nat, ((fun a b => itemR a b (gm z1 a b) (gm z2 a b)) a b).length ≤ 2 := fun a b => itemR_len _ _ _ _
    refine run_bind' (fun st => ∃ a : Nat, st = (allL (fun a b => itemR a b (gm z1 a b) (gm z2 a b)) n a, (a : Int)) ∧ a ≤ n) (fun st => n - st.2.toNat)
      (fun r => r = allL (fun a b => itemR a b (gm z1 a b) (gm z2 a b)) n n) ⟨0, rfl, Nat.zero_le _⟩ ?_ (fun r hr => ⟨_, rfl, hr⟩)
    rintro st ⟨a, rfl, ha⟩
    by_cases hal : a < n
    · have e1 : IntKind.wrap .i64 ((a : Int) + 1) = ((a + 1 : Nat) : Int) := by rw [wrap_i64 (by omega) (by omega)]; omega
      obtain ⟨r1, hr1, hl1⟩ := hE1.shp.row hal
      obtain ⟨r2, hr2, hl2⟩ := hE2.shp.row hal
      have ha1 : a < z1.length := by rw [hE1.shp.1]; exact hal
      have ha2 : a < z2.length := by rw [hE2.shp.1]; exact hal
      have i1 : Tr.idx z1 (a : Int) = some r1 := by rw [idx_nat ha1]; rw [List.getElem?_eq_getElem ha1] at hr1; exact hr1
      have i2 : Tr.idx z2 (a : Int) = some r2 := by rw [idx_nat ha2]; rw [List.getElem?_eq_getElem ha2] at hr2; exact hr2
      simp only [show decide ((a : Int) < (n : Int)) = true from decide_eq_true (by omega), cond_true, e1]
      refine run_bind' (fun st => ∃ b : Nat, st = (allL (fun a b => itemR a b (gm z1 a b) (gm z2 a b)) n a ++ rowL (fun a b => itemR a b (gm z1 a b) (gm z2 a b)) a b, (b : Int)) ∧ b ≤ n) (fun st => n - st.2.toNat)
        (fun r => r = allL (fun a b => itemR a b (gm z1 a b) (gm z2 a b)) n (a + 1)) ⟨0, by simp [rowL], Nat.zero_le _⟩ ?_ ?_
      · rintro st ⟨b, rfl, hb⟩
        by_cases hbl : b < n
        · have e2 : IntKind.wrap .i64 ((b : Int) + 1) = ((b + 1 : Nat) : Int) := by rw [wrap_i64 (by omega) (by omega)]; omega
          have hb1 : b < r1.length := by omega
          have hb2 : b < r2.length := by omega
          have c1 : Tr.idx r1 (b : Int) = some (gm z1 a b) := by
            have := row_get hE1.shp hal hbl hr1
            rw [List.getElem?_eq_getElem hb1] at this
            rw [idx_nat hb1]; exact this
          have c2 : Tr.idx r2 (b : Int) = some (gm z2 a b) := by
            have := row_get hE2.shp hal hbl hr2
            rw [List.getElem?_eq_getElem hb2] at this
            rw [idx_nat hb2]; exact this
          simp only [show decide ((b : Int) < (n : Int)) = true from decide_eq_true (by omega), cond_true, i1, i2, c1, c2, Option.bind_some, e2]
          by_cases hab : a = b
          · subst hab
            simp only [decide_true, cond_true, Option.bind_some]
            exact ⟨_, rfl, ⟨a + 1, by rw [rowL_succ, if_pos rfl, List.append_nil], hbl⟩, by simp only [Int.toNat_natCast]; omega⟩
          · have hlen1 : (allL (fun a b => itemR a b (gm z1 a b) (gm z2 a b)) n a ++ rowL (fun a b => itemR a b (gm z1 a b) (gm z2 a b)) a b).length ≤ 10000 := by
              rw [List.length_append]
              have := allL_bound hitl hn ha
              have := rowL_len hitl a b
              omega
            simp only [show decide ((a : Int) = (b : Int)) = false from decide_eq_false (by omega), cond_false, Option.bind_some]
            by_cases hfar : 14400 < gm z1 a b
            · simp only [decide_eq_true hfar, cond_true]
              refine ⟨_, rfl, ⟨b + 1, ?_, hbl⟩, by simp only [Int.toNat_natCast]; omega⟩
              rw [rowL_succ, if_neg hab]
              unfold itemR
              rw [if_pos hfar, List.append_nil]
            · simp only [decide_eq_false hfar, cond_false]
              rw [guard_app (by simp only [List.length_cons, List.length_nil]; omega)]
              simp only [Option.bind_some]
              by_cases hlt : gm z1 a b < gm z2 a b
              · simp only [decide_eq_true hlt, cond_true, Option.bind_some]
                by_cases h14 : gm z2 a b ≤ 14400
                · simp only [decide_eq_true h14, cond_true]
                  rw [guard_app (by simp only [List.length_append, List.length_cons, List.length_nil] at hlen1 ⊢; omega)]
                  simp only [Option.bind_some]
                  refine ⟨_, rfl, ⟨b + 1, ?_, hbl⟩, by simp only [Int.toNat_natCast]; omega⟩
                  rw [rowL_succ, if_neg hab]
                  unfold itemR
                  rw [if_neg hfar, if_pos ⟨hlt, h14⟩]
                  simp
                · simp only [decide_eq_false h14, cond_false]
                  refine ⟨_, rfl, ⟨b + 1, ?_, hbl⟩, by simp only [Int.toNat_natCast]; omega⟩
                  rw [rowL_succ, if_neg hab]
                  unfold itemR
                  rw [if_neg hfar, if_neg (fun h => h14 h.2)]
                  simp
              · simp only [decide_eq_false hlt, cond_false, Option.bind_some]
                refine ⟨_, rfl, ⟨b + 1, ?_, hbl⟩, by simp only [Int.toNat_natCast]; omega⟩
                rw [rowL_succ, if_neg hab]
                unfold itemR
                rw [if_neg hfar, if_neg (fun h => hlt h.1)]
                simp
        · have : b = n := by omega
          subst this
          simp only [show decide ((b : Int) < (b : Int)) = false from decide_eq_false (by omega), cond_false]
          exact ⟨_, rfl, (allL_succ _ _ _).symm⟩
      · rintro r rfl
        exact ⟨_, rfl, ⟨a + 1, rfl, hal⟩, by simp only [Int.toNat_natCast]; omega⟩
    · have : a = n := by omega
      subst this
      simp only [show decide ((a : Int) < (a : Int)) = false from decide_eq_false (by omega), cond_false]
      exact ⟨_, rfl, rfl⟩
  obtain ⟨z, h, rfl⟩ := key
  exact h
theorem closed_same {n : Nat} (hn : n ≤ 64) {l : List Foot} (hF : FOk n l) (hl : l.length ≤ 4096) : ∃ c : List Foot, F12 l (n : Int) = some c ∧ F59 l (n : Int) = some c ∧ c.length ≤ 8192 := by
  obtain ⟨z1, z2, hE1, hE2, h⟩ := closedR_val hn hF hl
  refine ⟨_, closure_val hn hF hl (fun a b => (dist_le hF a b).imp id fun h => h.2), ?_, allL_bound (fun a b => itemC_len _ _ _ _) hn (Nat.le_refl n)⟩
  rw [h]
  congr 1
  refine (allL_congr (Nat.le_refl n) fun a b ha hb hab => ?_).symm
  exact items_eq (rel_of hF hE1 ha hb hab) (rel_of hF hE2 ha hb hab) (dist_le hF a b)
end Q
