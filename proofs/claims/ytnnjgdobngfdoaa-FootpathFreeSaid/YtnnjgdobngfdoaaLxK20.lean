/- Chapter 20: the laws without the reference (Closure, Triangle, Free). Conditions: none. -/
import Derived.Test.YtnnjgdobngfdoaaLxJ20
import Derived.Test.YtnnjgdobngfdoaaTsF
namespace Q
open Tr Go Gr

/-! ### Free -/

theorem okT_free {a b : Int} {p : Foot} (h : okT a b true p = true) : okT a b false p = true := by
  unfold okT at *
  cases h1 : decide (p.1 = a) <;> cases h2 : decide (p.2.1 = b) <;> rw [h1, h2] at h <;> simp at h ⊢
theorem okA_free {a m : Int} {p : Foot} (h : okA a m true p = true) : okA a m false p = true := by
  unfold okA at *
  cases h1 : decide (p.1 = a) <;> cases h2 : decide (m < p.2.2.1) <;> rw [h1, h2] at h <;> simp at h ⊢
theorem arL_free {l : List Foot} {a m y : Int} (h : y ∈ arL l a m true) : y ∈ arL l a m false := by
  unfold arL at *
  obtain ⟨p, hp, rfl⟩ := List.mem_map.1 h
  obtain ⟨h1, h2⟩ := List.mem_filter.1 hp
  exact List.mem_map.2 ⟨p, List.mem_filter.2 ⟨h1, okA_free h2⟩, rfl⟩

theorem free_cond (l : List Foot) (a b : Int) : (bif (timeL l a b true).2 then bif !(timeL l a b false).2 then some true else some (decide ((timeL l a b true).1 < (timeL l a b false).1)) else some false) = some false := by
  have h1 := timeL_ok l a b true
  have h2 := timeL_ok l a b false
  cases ht : (timeL l a b true).2 with
  | false => rfl
  | true =>
    obtain ⟨⟨p, hp, ho, he⟩, _⟩ := h1.1 ht
    cases hf : (timeL l a b false).2 with
    | false =>
      have := h2.2 hf p hp
      rw [okT_free ho] at this; cases this
    | true =>
      have := (h2.1 hf).2 p hp (okT_free ho)
      simp only [cond_true, Bool.not_true, cond_false]
      rw [decide_eq_false (by omega)]

theorem match_run {r1 r2 : List Int} (h1 : r1.Pairwise (· < ·)) (h2 : r2.Pairwise (· < ·)) (hs : ∀ y ∈ r2, y ∈ r1) (hl1 : r1.length ≤ 100000) (hl2 : r2.length ≤ 100000) : ∃ r, Tr.run
 (fun s6 : Int × Int =>
 bif decide (s6.2 < (↑(List.length r1) : Int)) then
 Option.bind
 (bif decide (s6.1 < (↑(List.length r2) : Int)) then
 Option.bind (idx r2 s6.1) fun x7 => Option.bind (idx r1 s6.2) fun x8 => some (decide (x7 = x8))
 else some false)
 fun x9 =>
 bif x9 then some (.inl (IntKind.wrap .i64 (s6.1 + (1 : Int)), IntKind.wrap .i64 (s6.2 + (1 : Int))))
 else some (.inl (s6.1, IntKind.wrap .i64 (s6.2 + (1 : Int))))
 else some (.inr s6.1))
 ((0 : Int), (0 : Int)) = some r ∧ r = (r2.length : Int) := by
  refine run_for r1.length _ (fun i (s : Int × Int) => ∃ k : Nat, s = ((k : Int), (i : Int)) ∧ k ≤ r2.length ∧ ∀ y ∈ r2.drop k, y ∈ r1.drop i) ?_ ?_ _ ⟨0, rfl, Nat.zero_le _, by simpa using hs⟩
  · rintro i s hi ⟨k, rfl, hk, hd⟩
    left
    have hd1 : r1.drop i = r1[i] :: r1.drop (i + 1) := List.drop_eq_getElem_cons hi
    simp only [lt_dec hi, cond_true, wrap_succ hi (show r1.length ≤ 9223372036854775807 by omega)]
    by_cases hkl : k < r2.length
    · have hd2 : r2.drop k = r2[k] :: r2.drop (k + 1) := List.drop_eq_getElem_cons hkl
      have hp2 : ∀ z ∈ r2.drop (k + 1), r2[k] < z := by
        have : (r2.drop k).Pairwise (· < ·) := h2.sublist (List.drop_sublist k r2)
        rw [hd2] at this
        exact (List.pairwise_cons.1 this).1
      have hp1 : ∀ z ∈ r1.drop (i + 1), r1[i] < z := by
        have : (r1.drop i).Pairwise (· < ·) := h1.sublist (List.drop_sublist i r1)
        rw [hd1] at this
        exact (List.pairwise_cons.1 this).1
      simp only [lt_dec hkl, cond_true, idx_nat hkl, idx_nat hi, Option.bind_some, wrap_succ hkl (show r2.length ≤ 9223372036854775807 by omega)]
      by_cases he : r2[k] = r1[i]
      · rw [decide_eq_true he]
        refine ⟨_, rfl, k + 1, rfl, hkl, fun z hz => ?_⟩
        have h3 := hd z (by rw [hd2]; exact List.mem_cons_of_mem _ hz)
        rw [hd1] at h3
        rcases List.mem_cons.1 h3 with h3 | h3
        · have := hp2 z hz; omega
        · exact h3
      · rw [decide_eq_false he]
        refine ⟨_, rfl, k, rfl, hk, fun z hz => ?_⟩
        have h3 := hd z hz
        rw [hd1] at h3
        rcases List.mem_cons.1 h3 with h3 | h3
        · exfalso
          have h4 := hd r2[k] (by rw [hd2]; exact List.mem_cons_self)
          rw [hd1] at h4
          rcases List.mem_cons.1 h4 with h4 | h4
          · exact he h4
          · have h5 := hp1 _ h4
            rw [hd2] at hz
            rcases List.mem_cons.1 hz with hz | hz
            · omega
            · have := hp2 z hz; omega
        · exact h3
    · have e : k = r2.length := by omega
      subst e
      simp only [nlt_dec, cond_false, Option.bind_some]
      refine ⟨_, rfl, r2.length, rfl, Nat.le_refl _, by simp⟩
  · rintro s ⟨k, rfl, hk, hd⟩
    simp only [nlt_dec, cond_false]
    refine ⟨_, rfl, ?_⟩
    rw [List.drop_length] at hd
    have : r2.drop k = [] := by
      cases hc : r2.drop k with
      | nil => rfl
      | cons y _ => have := hd y (by rw [hc]; exact List.mem_cons_self); simp at this
    have := congrArg List.length this
    rw [List.length_drop] at this
    simp at this
    omega

theorem frees (l : List Foot) (a b : Int) : F_law20_FootpathFree l a b = some true := by
  unfold F_law20_FootpathFree
  by_cases h : 100 < l.length
  · rw [decide_eq_true (show (100 : Int) < (l.length : Int) by omega), example_true]; rfl
  · rw [decide_eq_false (show ¬ (100 : Int) < (l.length : Int) by omega)]
    have hl : l.length ≤ 1000000 := by omega
    obtain ⟨r1, a1, _, a3, a4, a5⟩ := around_same (show l.length ≤ 4096 by omega) a 14400 false
    obtain ⟨r2, c1, _, c3, c4, c5⟩ := around_same (show l.length ≤ 4096 by omega) a 14400 true
    simp only [cond_false, time_val hl, Option.bind_some, free_cond, a1, c1]
    refine bind_of (fun r => r = (r2.length : Int)) (match_run a4 c4 (fun y hy => (a5 y).2 (arL_free ((c5 y).1 hy))) (by omega) (by omega)) ?_
    rintro r rfl
    simp only [decide_true, cond_true, example_true, Option.bind_some]

/-! ### Closure -/

theorem time_clo {l : List Foot} {n : Nat} {f : Bool} {u v : Nat} (hu : u < n) (hv : v < n) (huv : u ≠ v) (h1 : 1 ≤ distI (EdP l f) u v) (h2 : distI (EdP l f) u v ≤ 14400) :
    (timeL (cloL l n) (u : Int) (v : Int) f).2 = true ∧ 1 ≤ (timeL (cloL l n) (u : Int) (v : Int) f).1 ∧ (timeL (cloL l n) (u : Int) (v : Int) f).1 ≤ distI (EdP l f) u v := by
  obtain ⟨p, hp, hm, e1, e2, e3⟩ := clo_has hu hv huv h1 h2
  have ho : okT (u : Int) (v : Int) f p = true := by
    unfold okT
    rw [decide_eq_true e1, decide_eq_true e2]
    cases f with
    | false => simp
    | true => rw [hm rfl]; rfl
  have hok := timeL_ok (cloL l n) (u : Int) (v : Int) f
  cases ht : (timeL (cloL l n) (u : Int) (v : Int) f).2 with
  | false =>
    have := hok.2 ht p hp
    rw [ho] at this; cases this
  | true =>
    obtain ⟨⟨q, hq, _, he⟩, h3⟩ := hok.1 ht
    have h4 := h3 p hp ho
    have h5 := clo_fok q hq
    exact ⟨rfl, by omega, by omega⟩

theorem dist_edge {l : List Foot} {n : Nat} (hF : FOk n l) {f : Bool} {u v : Nat} {d : Int} (huv : u ≠ v) (h : Wk (EdP l f) u v d) : 1 ≤ distI (EdP l f) u v ∧ distI (EdP l f) u v ≤ d := by
  rcases dist_cases hF f u v with ⟨_, h1⟩ | ⟨h1, h2⟩
  · exact absurd h (h1 d)
  · rcases dist_pos hF f huv with h3 | h3
    · omega
    · exact ⟨h3, h1.2 d h⟩

theorem wk_one {Ed : Nat → Nat → Int → Prop} {u v : Nat} {w : Int} (h : Ed u v w) : Wk Ed u v w := by
  have := Wk.snoc (Wk.nil (Ed := Ed) (s := u)) h
  rwa [Int.zero_add] at this

theorem closure_law (l : List Foot) (s : Int) : F_law20_FootpathClosure l s = some true := by
  unfold F_law20_FootpathClosure
  by_cases h : 100 < l.length
  · rw [decide_eq_true (show (100 : Int) < (l.length : Int) by omega), example_true]; rfl
  rw [decide_eq_false (show ¬ (100 : Int) < (l.length : Int) by omega)]
  simp only [cond_false, Option.bind_some]
  by_cases hs : 12 < s
  · rw [decide_eq_true hs, example_true]; rfl
  rw [decide_eq_false hs]
  obtain ⟨c, e, h1, _, h3, h4, h5⟩ := close_val (s := s) (l := l) (by omega)
  simp only [cond_false, h1, Option.bind_some]
  by_cases he : e = 0
  · obtain ⟨_, hz, hF, hc⟩ := h5 he
    rw [decide_eq_true he]
    simp only [Bool.not_true, cond_false]
    refine bind_of (fun r => r = .inl ()) ?_ ?_
    · refine run_for l.length _ (fun i (s : Int) => s = (i : Int)) ?_ ?_ _ rfl
      · rintro i _ hi rfl
        left
        refine ⟨_, ?_, rfl⟩
        have hp := hF _ (List.getElem_mem hi)
        obtain ⟨g1, _, _⟩ := pF_zero (hz i hi)
        rw [getD_of hi] at g1
        have g2 := b1_false g1
        obtain ⟨u, hu⟩ : ∃ u : Nat, (l[i]).1 = (u : Int) := ⟨_, (Int.toNat_of_nonneg hp.1).symm⟩
        obtain ⟨v, hv⟩ : ∃ v : Nat, (l[i]).2.1 = (v : Int) := ⟨_, (Int.toNat_of_nonneg hp.2.2.1).symm⟩
        have hd := dist_edge hF (show u ≠ v by omega) (wk_one (Ed := EdP l (l[i]).2.2.2.1) (u := u) (v := v) ⟨_, List.getElem_mem hi, fun h => h, hu, hv, rfl⟩)
        obtain ⟨t1, t2, t3⟩ := time_clo (n := s.toNat) (show u < s.toNat by omega) (show v < s.toNat by omega) (show u ≠ v by omega) hd.1 (by omega)
        simp only [lt_dec hi, cond_true, idx_nat hi, Option.bind_some, wrap_succ hi (show l.length ≤ 9223372036854775807 by omega)]
        rw [time_val (by omega), hc, hu, hv]
        simp only [Option.bind_some, t1, Bool.not_true, cond_false]
        rw [decide_eq_false (show ¬ (timeL (cloL l s.toNat) (u : Int) (v : Int) (l[i]).2.2.2.1).1 < 1 by omega)]
        simp only [cond_false]
        rw [decide_eq_false (show ¬ (l[i]).2.2.1 < (timeL (cloL l s.toNat) (u : Int) (v : Int) (l[i]).2.2.2.1).1 by omega)]
        rfl
      · rintro _ rfl
        simp only [nlt_dec, cond_false]
        exact ⟨_, rfl, rfl⟩
    · rintro r rfl
      have hlen : (cloL l s.toNat).length ≤ 288 := by
        have g := clo_len (l := l) (n := s.toNat)
        have : 2 * s.toNat * s.toNat ≤ 24 * 12 := Nat.mul_le_mul (by omega) (by omega)
        omega
      obtain ⟨b, b1', _, b3⟩ := isClosed_val (s := s) (l := c) (by rw [hc]; omega)
      have hb : b = true := by
        refine b3 (by omega) (fun i hi => ?_) (by rw [hc]; exact clo_clo hF)
        rw [hc] at hi ⊢
        by_cases h0 : 0 ≤ s
        · have := clo_sound hF i hi
          rwa [show ((s.toNat : Nat) : Int) = s by omega] at this
        · have e0 : s.toNat = 0 := by omega
          have g := clo_len (l := l) (n := s.toNat)
          rw [e0] at g hi
          omega
      simp only [Sum.elim_inl, b1', Option.bind_some, hb, cond_true, example_true]
  · have hc := h4 he
    subst hc
    rw [decide_eq_false he]
    simp only [Bool.not_false, cond_true, List.length_nil]
    rw [example_true]; rfl

/-! ### Triangle -/

theorem triangle_law (l : List Foot) (s : Int) (f : Bool) : F_law20_FootpathTriangle l s f = some true := by
  unfold F_law20_FootpathTriangle
  by_cases h : 100 < l.length
  · rw [decide_eq_true (show (100 : Int) < (l.length : Int) by omega), example_true]; rfl
  rw [decide_eq_false (show ¬ (100 : Int) < (l.length : Int) by omega)]
  simp only [cond_false, Option.bind_some]
  by_cases hs : 12 < s
  · rw [decide_eq_true hs, example_true]; rfl
  rw [decide_eq_false hs]
  obtain ⟨c, e, h1, _, h3, h4, h5⟩ := close_val (s := s) (l := l) (by omega)
  simp only [cond_false, h1, Option.bind_some]
  by_cases he : e = 0
  · obtain ⟨_, hz, hF, hc⟩ := h5 he
    rw [decide_eq_true he]
    simp only [Bool.not_true, cond_false]
    have hcl : c.length ≤ 9223372036854775807 := by omega
    refine bind_of (fun r => r = .inl ()) ?_ (fun r hr => by rw [hr]; simp only [Sum.elim_inl, example_true, Option.bind_some])
    refine run_for c.length _ (fun i (s : Int) => s = (i : Int)) ?_ ?_ _ rfl
    · rintro i _ hi rfl
      left
      simp only [lt_dec hi, cond_true, wrap_succ hi hcl]
      refine bind_ex (fun r => r = .inl ()) ?_ (fun r hr => by rw [hr]; exact ⟨_, rfl, rfl⟩)
      refine run_for c.length _ (fun i (s : Int) => s = (i : Int)) ?_ ?_ _ rfl
      · rintro k _ hk rfl
        left
        refine ⟨_, ?_, rfl⟩
        simp only [lt_dec hk, cond_true, idx_nat hi, idx_nat hk, Option.bind_some, wrap_succ hk hcl]
        have hpm := List.getElem_mem hi
        have hqm := List.getElem_mem hk
        generalize c[i] = p at *
        generalize c[k] = q at *
        rw [hc] at hpm hqm
        have hp := clo_fok p hpm
        have hq := clo_fok q hqm
        by_cases c1 : p.2.1 = q.1
        · rw [decide_eq_true c1]
          by_cases c2 : p.1 = q.2.1
          · rw [decide_eq_true c2]; rfl
          · rw [decide_eq_false c2]
            simp only [Bool.not_true, cond_false]
            by_cases c3 : f = true → p.2.2.2.1 = true ∧ q.2.2.2.1 = true
            · have hb : (bif f then bif !p.2.2.2.1 then some true else some !q.2.2.2.1 else some false) = some false := by
                cases f with
                | false => rfl
                | true => obtain ⟨x, y⟩ := c3 rfl; rw [x, y]; rfl
              rw [hb]
              simp only [Option.bind_some, cond_false]
              rw [decide_eq_false (show ¬ p.2.2.1 < 1 by omega), decide_eq_false (show ¬ (14400 : Int) < p.2.2.1 by omega), decide_eq_false (show ¬ q.2.2.1 < 1 by omega), decide_eq_false (show ¬ (14400 : Int) < q.2.2.1 by omega)]
              simp only [cond_false, Option.bind_some]
              rw [time_val (by omega)]
              simp only [Option.bind_some]
              have ew : IntKind.wrap .i64 (p.2.2.1 + q.2.2.1) = p.2.2.1 + q.2.2.1 := wrap_i64 (by omega) (by omega)
              rw [ew]
              by_cases c4 : p.2.2.1 + q.2.2.1 ≤ 14400
              · obtain ⟨u, hu⟩ : ∃ u : Nat, p.1 = (u : Int) := ⟨_, (Int.toNat_of_nonneg hp.1).symm⟩
                obtain ⟨m, hm⟩ : ∃ m : Nat, p.2.1 = (m : Int) := ⟨_, (Int.toNat_of_nonneg hp.2.2.1).symm⟩
                obtain ⟨v, hv⟩ : ∃ v : Nat, q.2.1 = (v : Int) := ⟨_, (Int.toNat_of_nonneg hq.2.2.1).symm⟩
                have w1 := (clo_edge hF (free := f) (u := u) (v := m) (w := p.2.2.1) ⟨p, hpm, fun h => (c3 h).1, hu, hm, rfl⟩).1
                have w2 := (clo_edge hF (free := f) (u := m) (v := v) (w := q.2.2.1) ⟨q, hqm, fun h => (c3 h).2, by omega, hv, rfl⟩).1
                have hd := dist_edge hF (show u ≠ v by omega) (wk_trans w1 w2)
                obtain ⟨t1, t2, t3⟩ := time_clo (n := s.toNat) (show u < s.toNat by omega) (show v < s.toNat by omega) (show u ≠ v by omega) hd.1 (by omega)
                rw [hc, hu, hv, decide_eq_true c4, t1]
                simp only [Bool.not_true, cond_true, cond_false]
                rw [decide_eq_false (by omega)]
                rfl
              · rw [decide_eq_false c4]
                rfl
            · have hb : (bif f then bif !p.2.2.2.1 then some true else some !q.2.2.2.1 else some false) = some true := by
                cases f with
                | false => exact absurd (fun h => by cases h) c3
                | true =>
                  cases hx : p.2.2.2.1 with
                  | false => rfl
                  | true =>
                    cases hy : q.2.2.2.1 with
                    | false => rfl
                    | true => exact absurd (fun _ => ⟨hx, hy⟩) c3
              rw [hb]
              rfl
        · rw [decide_eq_false c1]; rfl
      · rintro _ rfl
        simp only [nlt_dec, cond_false]
        exact ⟨_, rfl, rfl⟩
    · rintro _ rfl
      simp only [nlt_dec, cond_false]
      exact ⟨_, rfl, rfl⟩
  · rw [decide_eq_false he]
    simp only [Bool.not_false, cond_true]
    rw [example_true]; rfl

theorem freesP (x : ElPs F_law20_FootpathFreeA) (_ : GoodPs F_law20_FootpathFreeA x) : F_law20_FootpathFree x.1 x.2.1 x.2.2.1 = some true := frees x.1 x.2.1 x.2.2.1
theorem closureP (x : ElPs F_law20_FootpathClosureA) (_ : GoodPs F_law20_FootpathClosureA x) : F_law20_FootpathClosure x.1 x.2.1 = some true := closure_law x.1 x.2.1
theorem triangleP (x : ElPs F_law20_FootpathTriangleA) (_ : GoodPs F_law20_FootpathTriangleA x) : F_law20_FootpathTriangle x.1 x.2.1 x.2.2.1 = some true := triangle_law x.1 x.2.1 x.2.2.1
end Q
