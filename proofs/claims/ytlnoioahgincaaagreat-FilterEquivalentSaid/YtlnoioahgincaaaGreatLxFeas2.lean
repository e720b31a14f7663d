/- feasible: the reference's rides, prices and costs; journeys. Conditions: the network is sound, its lists are short. -/
import Derived.Test.YtlnoioahgincaaaGreatLxFeas
namespace Q
open Tr Go
def rodeB (L : List LegT) (i : Nat) : Bool := decide (0 < i) && (lg L (i - 1)).1
theorem ridesR_val {n : NetT} (h : Sound n) (hv : F63 n = some true) (L : List LegT) (hj : L.length ≤ 1000) : F77 n (L, ()) = some (ridesGo n L false []) := by
  unfold F77
  rw [hv]
  simp only [Option.bind_some, Bool.not_true, cond_false]
  refine bind_of (fun r => ridesGo n L false [] = Sum.elim (fun l : List RideT => (l, (0 : Int))) (fun y => y) r) ?_ ?_
  · refine run_for L.length _ (fun i (s : List RideT × Int) => ∃ l, s = (l, (i : Int)) ∧ l.length ≤ i ∧ (rodeB L i = true → 0 < l.length) ∧ ridesGo n L false [] = ridesGo n (L.drop i) (rodeB L i) l) ?_ ?_ _ ⟨[], rfl, by simp, fun e => (nomatch e), rfl⟩
    · rintro i _ hi ⟨l, rfl, hl, hw, hgo⟩
      have hil : L.length ≤ 9223372036854775807 := by omega
      rw [List.drop_eq_getElem_cons hi] at hgo
      have hnx : rodeB L (i + 1) = (L[i]).1 := by
        unfold rodeB lg
        rw [Nat.add_sub_cancel, getD_of hi, decide_eq_true (Nat.succ_pos i)]; rfl
      have hro : (bif !(L[i]).1 then some true else bif decide ((i : Int) = (0 : Int)) then some true else Option.bind (idx L (IntKind.wrap .i64 ((i : Int) - (1 : Int)))) fun x5 => some !x5.1) = some (!((L[i]).1 && rodeB L i)) := by
        cases (L[i]).1 with
        | false => rfl
        | true =>
          unfold rodeB
          by_cases h0 : i = 0
          · subst h0; rfl
          · rw [decide_eq_false (show ¬ ((i : Int) = 0) by omega), decide_eq_true (show 0 < i by omega)]
            have e : IntKind.wrap .i64 ((i : Int) - 1) = ((i - 1 : Nat) : Int) := by rw [wrap_i64 (by omega) (by omega)]; omega
            rw [e, lg_idx (show i - 1 < L.length by omega)]
            rfl
      simp only [lt_dec hi, cond_true, idx_nat hi, Option.bind_some, wrap_succ hi hil, existsR_val]
      rw [hro]
      generalize L[i] = x at *
      rw [ridesGo_cons] at hgo
      generalize rodeB L i = w at *
      cases hx1 : x.1 with
      | false =>
        rw [hx1] at hgo hnx
        simp only [cond_false, Option.bind_some, Bool.not_false, cond_true]
        cases hs : stayB x with
        | true =>
          right
          rw [hs] at hgo
          unfold stayB at hs
          rw [hs]
          refine ⟨_, rfl, ?_⟩
          rw [hgo]; simp
        | false =>
          left
          rw [hs] at hgo
          unfold stayB at hs
          rw [hs]
          refine ⟨_, rfl, l, rfl, by omega, fun e => (by rw [hnx] at e; cases e), ?_⟩
          rw [hgo, hnx]; simp
      | true =>
        rw [hx1] at hgo hnx
        simp only [cond_true, Option.bind_some, Bool.not_true, cond_false, Bool.true_and]
        cases hx : existsB n x with
        | false =>
          right
          rw [hx] at hgo
          refine ⟨_, rfl, ?_⟩
          rw [hgo]; simp
        | true =>
          rw [hx] at hgo
          obtain ⟨e1, e2, e3, e4⟩ := route_ok h hx
          have ez := zonesR_val h hx
          simp only [Bool.not_true, cond_false]
          cases hs : stayB x with
          | false =>
            left
            rw [hs] at hgo
            have hs' := hs
            unfold stayB at hs'
            rw [hs']
            simp only [cond_false, Option.bind_some]
            rw [e1]
            simp only [Option.bind_some]
            rw [e2]
            simp only [Option.bind_some]
            rw [shl_i64 e3 e4, ez]
            simp only [Option.bind_some]
            rw [guard_app (by simp; omega)]
            refine ⟨_, rfl, l ++ [newRide n x], rfl, by simp; omega, fun _ => by simp, ?_⟩
            rw [hgo, hnx]; simp
          | true =>
            rw [hs] at hgo
            have hs' := hs
            unfold stayB at hs'
            rw [hs']
            simp only [cond_true, Option.bind_some]
            cases w with
            | false =>
              right
              refine ⟨_, rfl, ?_⟩
              rw [hgo]; simp
            | true =>
              left
              have hpos := hw rfl
              obtain ⟨v, hv⟩ : ∃ v, l[l.length - 1]? = some v := ⟨_, List.getElem?_eq_getElem (by omega)⟩
              simp only [Bool.not_true, cond_false]
              rw [e1]
              simp only [Option.bind_some]
              rw [e2]
              simp only [Option.bind_some]
              rw [shl_i64 e3 e4, ez]
              have hb := inb_last (k := l.length) hpos (by omega)
              simp only [Option.bind_some, List.length_set]
              rw [hb]
              simp only [Option.bind_some, hv, set_get (show l.length - 1 < l.length by omega)]
              rw [set_get (by rw [List.length_set]; omega)]
              simp only [Option.bind_some, List.set_set]
              have ea : addLast n x l = addRide n x l v := by unfold addLast; rw [hv]
              refine ⟨_, rfl, addRide n x l v, rfl, by rw [← ea, addLast_len]; omega, fun _ => by rw [← ea, addLast_len]; exact hpos, ?_⟩
              rw [hgo, ← ea, hnx]; simp
    · rintro _ ⟨l, rfl, hl, hw, hgo⟩
      simp only [nlt_dec, cond_false]
      refine ⟨_, rfl, ?_⟩
      rw [hgo, List.drop_length]
      rfl
  · rintro r hr
    rw [hr]
    cases r <;> rfl
theorem bits_some (z : Int) : ∃ r, F80 z = some r := by
  unfold F80
  suffices h : ∃ r, run _ ((0 : Int), (0 : Int)) = some r ∧ True by
    obtain ⟨r, h, _⟩ := h
    exact ⟨r, by rw [h]; rfl⟩
  refine run_for 62 (fun _ => True) (fun i (s : Int × Int) => s.2 = (i : Int)) ?_ ?_ _ rfl
  · rintro i ⟨a, b⟩ hi hb
    left
    simp only at hb
    subst hb
    have w2 : IntKind.wrap .i64 ((i : Int) + 1) = ((i + 1 : Nat) : Int) := by rw [wrap_i64 (by omega) (by omega)]; omega
    have hs : ∃ y, Tr.qshr .i64 z (i : Int) = some y := by
      unfold Tr.qshr
      rw [if_neg (by omega)]
      exact ⟨_, rfl⟩
    obtain ⟨y, hy⟩ := hs
    simp only [decide_eq_true (show (i : Int) < 62 by omega), cond_true, hy, Option.bind_some, w2]
    cases decide (Tr.qand .i64 y 1 = 1) with
    | true => exact ⟨_, rfl, rfl⟩
    | false => exact ⟨_, rfl, rfl⟩
  · rintro ⟨a, b⟩ hb
    simp only at hb
    subst hb
    exact ⟨_, rfl, trivial⟩
theorem withinR_some (a b d : Int) : ∃ r, F81 a b d = some r := by
  unfold F81
  cases decide (b ≤ a) <;> exact ⟨_, rfl⟩
theorem covers_some (p : ProdT) {l : List RideT} {i k : Nat} (hik : i ≤ k) (hk : k < l.length) (hl : l.length ≤ 100) : ∃ r, F74 p l (i : Int) (k : Int) = some r := by
  unfold F74
  suffices h : ∃ r, run _ ((0 : Int), (0 : Int), (i : Int)) = some r ∧ True by
    obtain ⟨r, h, _⟩ := h
    rw [h]
    simp only [Option.bind_some]
    obtain ⟨b, hb⟩ := bits_some r.1
    obtain ⟨c, hc⟩ := withinR_some (l[i]).1 (l[k]).1 p.2.2.2.2.1
    rw [hb]
    simp only [Option.bind_some, idx_nat (show i < l.length by omega), idx_nat hk, hc]
    cases decide (IntKind.wrap .i64 (IntKind.wrap .i64 ((k : Int) - (i : Int)) + 1) ≤ p.2.2.1) <;> cases decide (b ≤ p.2.2.2.1) <;> cases c <;> exact ⟨_, rfl⟩
  refine run_for (k + 1 - i) (fun _ => True) (fun c (t : Int × Int × Int) => t.2.2 = ((i + c : Nat) : Int)) ?_ ?_ _ rfl
  · rintro c ⟨a, b, d⟩ hc hd
    left
    simp only at hd
    subst hd
    have e1 : IntKind.wrap .i64 (((i + c : Nat) : Int) + 1) = ((i + (c + 1) : Nat) : Int) := by rw [wrap_i64 (by omega) (by omega)]; omega
    simp only [decide_eq_true (show ((i + c : Nat) : Int) ≤ (k : Int) by omega), cond_true, idx_nat (show i + c < l.length by omega), Option.bind_some, e1]
    exact ⟨_, rfl, rfl⟩
  · rintro ⟨a, b, d⟩ hd
    simp only at hd
    subst hd
    rw [decide_eq_false (show ¬ ((i + (k + 1 - i) : Nat) : Int) ≤ (k : Int) by omega)]
    exact ⟨_, rfl, trivial⟩
theorem ticket_some (F : FaresT) (p : ProdT) {l : List RideT} {i : Nat} (hi : i < l.length) (hl : l.length ≤ 100) : ∃ r, F78 F p l (i : Int) = some r := by
  unfold F78
  by_cases h0 : 0 < i
  · have e : IntKind.wrap .i64 ((i : Int) - 1) = ((i - 1 : Nat) : Int) := by rw [wrap_i64 (by omega) (by omega)]; omega
    obtain ⟨c, hc⟩ := withinR_some (l[i - 1]).2.1 (l[i]).1 F.2.2.1
    rw [decide_eq_true (show (0 : Int) < (i : Int) by omega), e]
    simp only [cond_true, idx_nat (show i - 1 < l.length by omega), idx_nat hi, Option.bind_some, hc]
    cases c <;> exact ⟨_, rfl⟩
  · rw [decide_eq_false (show ¬ (0 : Int) < (i : Int) by omega)]
    exact ⟨_, rfl⟩
abbrev TkT := Int × Int × Int × Int × Unit
abbrev BestT := Bool × Int × List TkT × Unit
def TabOk (n : Nat) (T : List BestT) : Prop := T.length = n + 1 ∧ ∀ j r, T[j]? = some r → r.2.2.1.length + j ≤ n
theorem TabOk.get {n : Nat} {T : List BestT} (h : TabOk n T) {j : Nat} (hj : j ≤ n) : ∃ r, T[j]? = some r ∧ r.2.2.1.length + j ≤ n := by
  have hl := h.1
  exact ⟨_, List.getElem?_eq_getElem (show j < T.length by omega), h.2 _ _ (List.getElem?_eq_getElem (show j < T.length by omega))⟩
theorem TabOk.put {n : Nat} {T : List BestT} (h : TabOk n T) {i : Nat} {r : BestT} (hr : r.2.2.1.length + i ≤ n) : TabOk n (T.set i r) := by
  refine ⟨by rw [List.length_set]; exact h.1, fun j s hs => ?_⟩
  by_cases hij : i = j
  · subst hij
    by_cases hi : i < T.length
    · rw [List.getElem?_set_self hi] at hs
      obtain rfl := Option.some.inj hs
      exact hr
    · rw [List.getElem?_eq_none (by rw [List.length_set]; omega)] at hs
      cases hs
  · rw [List.getElem?_set_ne hij] at hs
    exact h.2 j s hs
theorem bind_inl {β σ τ : Type} {o : Option β} {f : β → Option (σ ⊕ τ)} {Q : σ → Prop} (P : β → Prop) (h : ∃ r, o = some r ∧ P r) (k : ∀ r, P r → ∃ s, f r = some (.inl s) ∧ Q s) : ∃ s, Option.bind o f = some (.inl s) ∧ Q s := by
  obtain ⟨r, rfl, hr⟩ := h
  exact k r hr
theorem price_some (F : FaresT) (hF : F.1.length ≤ 4096) (l : List RideT) (hl : l.length ≤ 8) : ∃ R, F76 F l = some R := by
  unfold F76
  have w0 : IntKind.wrap .i64 ((l.length : Int) + 1) = ((l.length + 1 : Nat) : Int) := by rw [wrap_i64 (by omega) (by omega)]; omega
  have hg : Tr.guardB (decide ((0 : Int) ≤ ((l.length + 1 : Nat) : Int) ∧ ((l.length + 1 : Nat) : Int) ≤ ((l.length + 1 : Nat) : Int) ∧ ((l.length + 1 : Nat) : Int) ≤ (Tr.maxApp : Int))) = some () := by
    have hm : (Tr.maxApp : Int) = 4294967296 := by simp [Tr.maxApp]
    rw [decide_eq_true (by rw [hm]; omega)]; rfl
  have hrep : ∀ o : List BestT, o = List.replicate (l.length + 1) (false, 0, [], ()) → Tr.inb (l.length : Int) o.length = some l.length ∧ o[l.length]? = some (false, 0, [], ()) := by
    rintro o rfl
    exact ⟨inb_nat (by simp), by rw [List.getElem?_replicate, if_pos (by omega)]⟩
  obtain ⟨r1, r2⟩ := hrep _ rfl
  rw [w0]
  erw [hg]
  simp only [Option.bind_some, Int.toNat_natCast]
  erw [r1]
  simp only [Option.bind_some]
  erw [r2]
  simp only [Option.bind_some]
  have key : ∀ (o : Option (List BestT)) (k : List BestT → Option (Int × List TkT × Bool)), (∃ T, o = some T ∧ TabOk l.length T) → (∀ T, TabOk l.length T → ∃ R, k T = some R) → ∃ R, Option.bind o k = some R := by
    rintro o k ⟨T, rfl, h⟩ hk
    exact hk T h
  refine key _ _ (run_for l.length _ (fun c (s : List BestT × Int) => ∃ T, s = (T, (l.length : Int) - 1 - (c : Int)) ∧ TabOk l.length T) ?_ ?_ _ ?_) ?_
  · rintro c _ hc ⟨T, rfl, hT⟩
    left
    obtain ⟨i, hi⟩ : ∃ i : Nat, (l.length : Int) - 1 - (c : Int) = (i : Int) := ⟨l.length - 1 - c, by omega⟩
    have hil : i < l.length := by omega
    rw [hi]
    rw [decide_eq_true (show (0 : Int) ≤ (i : Int) by omega)]
    simp only [cond_true]
    refine bind_inl (fun T' => TabOk l.length T') ?_ ?_
    · refine run_for (l.length - i) _ (fun m (s : List BestT × Int) => ∃ T, s = (T, ((i + m : Nat) : Int)) ∧ TabOk l.length T) ?_ ?_ _ ⟨T, rfl, hT⟩
      · rintro m _ hm ⟨T, rfl, hT⟩
        left
        have hk : i + m < l.length := by omega
        have e1 : IntKind.wrap .i64 (((i + m : Nat) : Int) + 1) = ((i + m + 1 : Nat) : Int) := by rw [wrap_i64 (by omega) (by omega)]; omega
        have hTl := hT.1
        have hbk : Tr.inb ((i + m + 1 : Nat) : Int) T.length = some (i + m + 1) := inb_nat (by omega)
        obtain ⟨r, hr, hcr⟩ := hT.get (show i + m + 1 ≤ l.length by omega)
        simp only [lt_dec hk, cond_true, e1, hbk, hr, Option.bind_some]
        cases r.1 with
        | false => exact ⟨_, rfl, T, rfl, hT⟩
        | true =>
          simp only [Bool.not_true, cond_false]
          refine bind_inl (fun T' => TabOk l.length T') ?_ ?_
          · refine run_for F.1.length _ (fun p (s : List BestT × Int) => ∃ T, s = (T, (p : Int)) ∧ TabOk l.length T) ?_ ?_ _ ⟨T, rfl, hT⟩
            · rintro p _ hp ⟨T, rfl, hT⟩
              left
              have e2 : IntKind.wrap .i64 ((p : Int) + 1) = ((p + 1 : Nat) : Int) := by rw [wrap_i64 (by omega) (by omega)]; omega
              have hTl := hT.1
              have hbk : Tr.inb ((i + m + 1 : Nat) : Int) T.length = some (i + m + 1) := inb_nat (by omega)
              have hbi : Tr.inb (i : Int) T.length = some i := inb_nat (by omega)
              obtain ⟨rk, hrk, hck⟩ := hT.get (show i + m + 1 ≤ l.length by omega)
              obtain ⟨ri, hri, hci⟩ := hT.get (show i ≤ l.length by omega)
              obtain ⟨cv, hcv⟩ := covers_some F.1[p] (show i ≤ i + m by omega) hk (by omega)
              obtain ⟨pr, hpr⟩ := ticket_some F F.1[p] hil (by omega)
              simp only [lt_dec hp, cond_true, idx_nat hp, Option.bind_some, hcv, hpr, hbk, hbi, hrk, hri, e2]
              cases cv with
              | false => exact ⟨_, rfl, T, rfl, hT⟩
              | true =>
                simp only [Bool.not_true, cond_false]
                refine bind_inl (fun _ => True) ?_ fun b _ => ?_
                · cases ri.1 with
                  | false => exact ⟨_, rfl, trivial⟩
                  | true =>
                    simp only [cond_true]
                    cases decide (ri.2.1 < IntKind.wrap .i64 (pr + rk.2.1)) with
                    | true => exact ⟨_, rfl, trivial⟩
                    | false =>
                      simp only [cond_false]
                      cases decide (IntKind.wrap .i64 (pr + rk.2.1) = ri.2.1) <;> exact ⟨_, rfl, trivial⟩
                · cases b with
                  | true => exact ⟨_, rfl, T, rfl, hT⟩
                  | false =>
                    simp only [cond_false]
                    have hgd : Tr.guardB (decide (List.length [((p : Int), (i : Int), ((i + m : Nat) : Int), pr, ())] + List.length rk.2.2.1 ≤ Tr.maxApp)) = some () := by
                      rw [decide_eq_true (by simp only [List.length_cons, List.length_nil, Tr.maxApp]; omega)]; rfl
                    rw [hgd]
                    simp only [Option.bind_some]
                    exact ⟨_, rfl, _, rfl, hT.put (by simp only [List.length_append, List.length_cons, List.length_nil]; omega)⟩
            · rintro _ ⟨T, rfl, hT⟩
              simp only [nlt_dec, cond_false]
              exact ⟨_, rfl, hT⟩
          · intro T' hT'
            exact ⟨_, rfl, T', rfl, hT'⟩
      · rintro _ ⟨T, rfl, hT⟩
        rw [show i + (l.length - i) = l.length by omega]
        simp only [nlt_dec, cond_false]
        exact ⟨_, rfl, hT⟩
    · intro T' hT'
      have e1 : IntKind.wrap .i64 ((i : Int) - 1) = (l.length : Int) - 1 - ((c + 1 : Nat) : Int) := by rw [wrap_i64 (by omega) (by omega)]; omega
      rw [e1]
      exact ⟨_, rfl, T', rfl, hT'⟩
  · rintro _ ⟨T, rfl, hT⟩
    rw [decide_eq_false (show ¬ (0 : Int) ≤ (l.length : Int) - 1 - (l.length : Int) by omega)]
    exact ⟨_, rfl, hT⟩
  · refine ⟨(List.replicate (l.length + 1) ((false, 0, [], ()) : BestT)).set l.length (true, 0, [], ()), ?_, TabOk.put ⟨by simp, fun j r hr => ?_⟩ (by simp)⟩
    · rw [wrap_i64 (by omega) (by omega)]
      simp only [Int.natCast_zero, Int.sub_zero]
    · rw [List.getElem?_replicate] at hr
      split at hr
      · obtain rfl := Option.some.inj hr
        simp; omega
      · cases hr
  · intro T hT
    obtain ⟨r, hr, _⟩ := hT.get (Nat.zero_le _)
    have hb : Tr.inb (0 : Int) T.length = some 0 := inb_nat (i := 0) (by rw [hT.1]; omega)
    simp only [hb, Option.bind_some, hr]
    exact ⟨_, rfl⟩
end Q
