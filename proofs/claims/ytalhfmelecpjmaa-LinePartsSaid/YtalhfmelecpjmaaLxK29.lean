/- Chapter 29 in plain Lean: Lines. -/
import Derived.Test.YtalhfmelecpjmaaLxJ29

/-! Chapter 29: the runs in order, in both texts. Conditions: a valid network of at most 40 runs. -/
namespace Q
open Tr Go

def d0 (n : NetT) (o : Int) : Int := (cl (calls (rn n o)) 0).2.2.1
def pLe (n : NetT) (d o : Int) : Bool := decide (d0 n o ≤ d)
def insL (n : NetT) (out : List Int) (m : Int) : List Int := out.takeWhile (pLe n (d0 n m)) ++ m :: out.dropWhile (pLe n (d0 n m))
def ordL (n : NetT) : Nat → List Int
  | 0 => []
  | m + 1 => if canc (rn n m) then ordL n m else insL n (ordL n m) m

structure OrdI (n : NetT) (m : Nat) (out : List Int) : Prop where
  srt : out.Pairwise fun a b => d0 n a ≤ d0 n b
  el : ∀ o ∈ out, 0 ≤ o ∧ o < (m : Int) ∧ canc (rn n o) = false
  nd : out.Nodup
  len : out.length ≤ m
  all : ∀ k : Nat, k < m → canc (rn n k) = false → (k : Int) ∈ out

theorem dw_not {n : NetT} {d : Int} : ∀ {out : List Int}, (out.Pairwise fun a b => d0 n a ≤ d0 n b) → ∀ o ∈ out.dropWhile (pLe n d), d < d0 n o
  | [], _, o, h => by simp at h
  | x :: l, hs, o, h => by
    rw [List.pairwise_cons] at hs
    rw [List.dropWhile_cons] at h
    split at h
    · exact dw_not hs.2 o h
    · rename_i hx
      have hx' : d < d0 n x := by
        have : ¬ d0 n x ≤ d := by simpa [pLe] using hx
        omega
      rcases List.mem_cons.1 h with rfl | h
      · exact hx'
      · have := hs.1 o h; omega

theorem tw_yes {n : NetT} {d : Int} : ∀ {out : List Int}, ∀ o ∈ out.takeWhile (pLe n d), d0 n o ≤ d
  | [], o, h => by simp at h
  | x :: l, o, h => by
    rw [List.takeWhile_cons] at h
    split at h
    · rename_i hx
      rcases List.mem_cons.1 h with rfl | h
      · simpa [pLe] using hx
      · exact tw_yes o h
    · simp at h

theorem OrdI.ins {n : NetT} {m : Nat} {out : List Int} (h : OrdI n m out) (hc : canc (rn n m) = false) : OrdI n (m + 1) (insL n out m) := by
  have e : out.takeWhile (pLe n (d0 n m)) ++ out.dropWhile (pLe n (d0 n m)) = out := List.takeWhile_append_dropWhile
  have hp : (insL n out m).Perm ((m : Int) :: out) := by
    unfold insL
    refine (List.perm_middle).trans ?_
    rw [e]
  have hs := h.srt
  rw [← e] at hs
  obtain ⟨s1, s2, s3⟩ := List.pairwise_append.1 hs
  refine ⟨?_, fun o ho => ?_, ?_, by rw [hp.length_eq]; simp; exact h.len, fun k hk hck => ?_⟩
  · unfold insL
    refine List.pairwise_append.2 ⟨s1, List.pairwise_cons.2 ⟨fun o ho => ?_, s2⟩, fun a ha b hb => ?_⟩
    · have := dw_not h.srt o ho; omega
    · rcases List.mem_cons.1 hb with rfl | hb
      · exact tw_yes a ha
      · exact s3 a ha b hb
  · rcases List.mem_cons.1 (hp.mem_iff.1 ho) with rfl | ho
    · exact ⟨by omega, by omega, hc⟩
    · obtain ⟨a, b, c⟩ := h.el o ho; exact ⟨a, by omega, c⟩
  · refine hp.nodup_iff.2 (List.nodup_cons.2 ⟨fun hm => ?_, h.nd⟩)
    have := (h.el _ hm).2.1; omega
  · refine hp.mem_iff.2 ?_
    by_cases e : k = m
    · subst e; simp
    · exact List.mem_cons_of_mem _ (h.all k (by omega) hck)

theorem ordL_ok (n : NetT) : ∀ m, OrdI n m (ordL n m)
  | 0 => ⟨.nil, by simp [ordL], by simp [ordL], by simp [ordL], fun k hk => by omega⟩
  | m + 1 => by
    unfold ordL
    have ih := ordL_ok n m
    split
    · rename_i hc
      exact ⟨ih.srt, fun o ho => by obtain ⟨a, b, c⟩ := ih.el o ho; exact ⟨a, by omega, c⟩, ih.nd, by have := ih.len; omega, fun k hk hck => by
        by_cases e : k = m
        · subst e; rw [hc] at hck; exact absurd hck (by decide)
        · exact ih.all k (by omega) hck⟩
    · rename_i hc
      exact ih.ins (by simpa using hc)

/-- The cut of a list in order. -/
theorem cut_at {n : NetT} {d : Int} {out : List Int} (hs : out.Pairwise fun a b => d0 n a ≤ d0 n b) : ∀ (i : Nat) (hi : i < out.length), pLe n d out[i] = true ↔ i < (out.takeWhile (pLe n d)).length := by
  intro i hi
  have e : out.takeWhile (pLe n d) ++ out.dropWhile (pLe n d) = out := List.takeWhile_append_dropWhile
  constructor
  · intro hp
    apply Decidable.byContradiction
    intro hlt
    have hm : out[i] ∈ out.dropWhile (pLe n d) := by
      have h2 : i - (out.takeWhile (pLe n d)).length < (out.dropWhile (pLe n d)).length := by
        have := congrArg List.length e; simp only [List.length_append] at this; omega
      have : out[i] = (out.dropWhile (pLe n d))[i - (out.takeWhile (pLe n d)).length] := by
        have h3 : out[i]? = (out.dropWhile (pLe n d))[i - (out.takeWhile (pLe n d)).length]? := by
          conv => lhs; rw [← e]
          rw [List.getElem?_append_right (by omega)]
        rw [List.getElem?_eq_getElem hi, List.getElem?_eq_getElem h2] at h3
        exact Option.some.inj h3
      rw [this]; exact List.getElem_mem h2
    have := dw_not hs _ hm
    have h4 : d0 n out[i] ≤ d := by simpa [pLe] using hp
    omega
  · intro hlt
    have hm : out[i] ∈ out.takeWhile (pLe n d) := by
      have h3 : out[i]? = (out.takeWhile (pLe n d))[i]? := by
        conv => lhs; rw [← e]
        rw [List.getElem?_append_left hlt]
      rw [List.getElem?_eq_getElem hi, List.getElem?_eq_getElem hlt] at h3
      rw [Option.some.inj h3]; exact List.getElem_mem hlt
    simpa [pLe] using tw_yes _ hm

theorem tw_take {n : NetT} {d : Int} (out : List Int) : out.takeWhile (pLe n d) = out.take (out.takeWhile (pLe n d)).length ∧ out.dropWhile (pLe n d) = out.drop (out.takeWhile (pLe n d)).length := by
  have e : out.takeWhile (pLe n d) ++ out.dropWhile (pLe n d) = out := List.takeWhile_append_dropWhile
  constructor
  · have := List.take_left (l₁ := out.takeWhile (pLe n d)) (l₂ := out.dropWhile (pLe n d))
    rw [e] at this; exact this.symm
  · have := List.drop_left (l₁ := out.takeWhile (pLe n d)) (l₂ := out.dropWhile (pLe n d))
    rw [e] at this; exact this.symm

/-! ### The code's -/

theorem ordered1_val {n : NetT} (h : Sound n) {o d : Int} (hr : inR o n.2.2.1.length = true) : F_line_ordered_1 o n d = some (pLe n d o) := by
  unfold F_line_ordered_1
  have hm := h.many _ (rn_mem hr)
  rw [idx_rn hr]
  simp only [Option.bind_some]
  have h0 : inR 0 (calls (rn n o)).length = true := by
    unfold inR; rw [decide_eq_true (Int.le_refl 0), decide_eq_true (show (0 : Int) < ((calls (rn n o)).length : Int) by show (0 : Int) < ((rn n o).2.2.2.2.2.2.2.1.length : Int); omega)]; rfl
  rw [idx_cl h0]
  rfl

theorem findO_val {n : NetT} (h : Sound n) {out : List Int} {d : Int} (hl : out.length ≤ 4611686018427387904) (hr : ∀ o ∈ out, inR o n.2.2.1.length = true) {k : Nat} (hk : k ≤ out.length) (hp : ∀ (i : Nat) (hi : i < out.length), pLe n d out[i] = true ↔ i < k) :
    F_line_find_int_X_line_ordered_1 out (n, d, ()) = some (k : Int) := by
  unfold F_line_find_int_X_line_ordered_1
  rw [run_half (n := out.length) hk ?_ ?_]
  · rfl
  · intro lo hi hlt hhi
    have hm : lo + (hi - lo) / 2 < out.length := by omega
    simp only [decide_eq_true (show (lo : Int) < (hi : Int) by omega), cond_true, mid_val (show lo ≤ hi by omega) (show hi ≤ 4611686018427387904 by omega), idx_nat hm, Option.bind_some]
    rw [ordered1_val h (hr _ (List.getElem_mem hm))]
    simp only [Option.bind_some]
    have hp' := hp _ hm
    cases hd : pLe n d out[lo + (hi - lo) / 2] with
    | true =>
      rw [if_pos (hp'.1 hd)]
      rw [wrap_i64 (by omega) (by omega)]
      simp only [cond_true]
      rfl
    | false =>
      rw [if_neg (fun hh => by rw [hp'.2 hh] at hd; exact absurd hd (by decide))]
      rfl
  · intro lo
    simp only [decide_eq_false (show ¬ (lo : Int) < (lo : Int) by omega), cond_false]

theorem copy_ins (out : List Int) {k : Nat} (hk : k ≤ out.length) :
    (List.take (k + 1) (out ++ [(0 : Int)]) ++ List.take (min (List.length (List.take (out.length + 1 - k) (List.drop k (out ++ [(0 : Int)])))) (out.length + 1 - (k + 1))) (List.take (out.length + 1 - k) (List.drop k (out ++ [(0 : Int)]))) ++
      List.drop (k + 1 + min (List.length (List.take (out.length + 1 - k) (List.drop k (out ++ [(0 : Int)])))) (out.length + 1 - (k + 1))) (out ++ [(0 : Int)])) = List.take (k + 1) (out ++ [(0 : Int)]) ++ List.drop k out := by
  have e1 : List.take (out.length + 1 - k) (List.drop k (out ++ [(0 : Int)])) = List.drop k (out ++ [(0 : Int)]) := List.take_of_length_le (by simp)
  have e2 : min (List.length (List.drop k (out ++ [(0 : Int)]))) (out.length + 1 - (k + 1)) = out.length - k := by simp; omega
  have e3 : List.drop (out.length + 1) (out ++ [(0 : Int)]) = [] := List.drop_of_length_le (by simp)
  rw [e1, e2, show k + 1 + (out.length - k) = out.length + 1 by omega, e3, List.append_nil]
  congr 1
  rw [List.drop_append_of_le_length hk, List.take_append_of_le_length (by simp), List.take_of_length_le (by simp)]

theorem ins_set (out : List Int) {k : Nat} (hk : k ≤ out.length) (x m : Int) : (List.take (k + 1) (out ++ [x]) ++ List.drop k out).set k m = out.take k ++ m :: out.drop k := by
  have h1 : List.take (k + 1) (out ++ [x]) = out.take k ++ [((out ++ [x])[k]'(by simp; omega))] := by
    rw [List.take_succ_eq_append_getElem (by simp; omega), List.take_append_of_le_length hk]
  rw [h1, List.append_assoc, List.set_append_right _ _ (by simp; omega)]
  simp [Nat.min_eq_left hk]

theorem ordered_val {n : NetT} (h : Sound n) : F_line_ordered n = some (ordL n n.2.2.1.length) := by
  unfold F_line_ordered
  refine Exists.elim (run_for (τ := List Int) n.2.2.1.length (fun r => r = ordL n n.2.2.1.length) (fun i (s : List Int × Int) => s = (ordL n i, (i : Int)))
    ?_ ?_ ([], (0 : Int)) rfl) (fun r hr => (congrArg (Option.bind · _) hr.1).trans (by rw [hr.2]; rfl))
  · rintro i _ hi rfl
    have hI := ordL_ok n i
    have hin := h.runs
    have hr : inR (i : Int) n.2.2.1.length = true := by
      unfold inR; rw [decide_eq_true (show (0 : Int) ≤ (i : Int) by omega), decide_eq_true (show (i : Int) < (n.2.2.1.length : Int) by omega)]; rfl
    have hrn : n.2.2.1[i] = rn n (i : Int) := by unfold rn; rw [show ((i : Nat) : Int).toNat = i from rfl, getD_of hi]
    have hll := hI.len
    refine .inl ⟨(ordL n (i + 1), ((i + 1 : Nat) : Int)), ?_, rfl⟩
    simp only [lt_dec hi, cond_true, idx_nat hi, Option.bind_some, hrn]
    cases hc : canc (rn n (i : Int)) with
    | true =>
      rw [show (rn n (i : Int)).2.2.2.2.2.2.1 = true from hc]
      simp only [cond_true, wrap_succ hi (show n.2.2.1.length ≤ 9223372036854775807 by omega)]
      rw [show ordL n (i + 1) = ordL n i by unfold ordL; rw [if_pos hc]; cases i <;> rfl]
    | false =>
      rw [show (rn n (i : Int)).2.2.2.2.2.2.1 = false from hc]
      have h0 : inR 0 (calls (rn n (i : Int))).length = true := by
        have hm := h.many _ (rn_mem hr)
        unfold inR; rw [decide_eq_true (Int.le_refl 0), decide_eq_true (show (0 : Int) < ((calls (rn n (i : Int))).length : Int) by show (0 : Int) < ((rn n (i : Int)).2.2.2.2.2.2.2.1.length : Int); omega)]; rfl
      have hcl : Tr.idx (rn n (i : Int)).2.2.2.2.2.2.2.1 (0 : Int) = some (cl (calls (rn n (i : Int))) 0) := idx_cl h0
      have hkl : ((ordL n i).takeWhile (pLe n (d0 n i))).length ≤ (ordL n i).length := by
        have := congrArg List.length (List.takeWhile_append_dropWhile (p := pLe n (d0 n i)) (l := ordL n i)); simp only [List.length_append] at this; omega
      have hfind := findO_val h (d := d0 n i) (show (ordL n i).length ≤ 4611686018427387904 by omega) (fun o ho => by
        obtain ⟨a, b, _⟩ := hI.el o ho
        unfold inR; rw [decide_eq_true a, decide_eq_true (show o < (n.2.2.1.length : Int) by omega)]; rfl) hkl (cut_at hI.srt)
      rw [show ordL n (i + 1) = insL n (ordL n i) i by conv => lhs; unfold ordL
                                                       rw [if_neg (by rw [hc]; decide)]]
      simp only [cond_false, hcl, Option.bind_some]
      rw [show (cl (calls (rn n (i : Int))) 0).2.2.1 = d0 n i from rfl, hfind]
      unfold insL
      obtain ⟨t1, t2⟩ := tw_take (n := n) (d := d0 n i) (ordL n i)
      generalize hkk : ((ordL n i).takeWhile (pLe n (d0 n i))).length = k at *
      rw [t1, t2]
      clear t1 t2 hkk
      generalize ordL n i = out at *
      have hw : IntKind.wrap .i64 ((k : Int) + 1) = ((k + 1 : Nat) : Int) := by rw [wrap_i64 (by omega) (by omega)]; omega
      have s1 : Tr.sliceB (List.length (out ++ [(0 : Int)])) (List.length (out ++ [(0 : Int)])) (some ((k + 1 : Nat) : Int)) none = some (k + 1, out.length + 1) := by
        unfold Tr.sliceB
        simp only [Option.bind_some, List.length_append, List.length_singleton]
        rw [if_pos ⟨by omega, by omega⟩]
        rfl
      have s2 : Tr.sliceB (List.length (out ++ [(0 : Int)])) (List.length (out ++ [(0 : Int)])) (some (k : Int)) none = some (k, out.length + 1) := by
        unfold Tr.sliceB
        simp only [Option.bind_some, List.length_append, List.length_singleton]
        rw [if_pos ⟨by omega, by omega⟩]
        rfl
      have hg : Tr.guardB (decide (List.length out + List.length [(0 : Int)] ≤ Tr.maxApp)) = some () := guard_app (by simp; omega)
      have hg2 : Tr.guardB (Nat.ble (k + 1 + (out.length + 1 - (k + 1))) (List.length (out ++ [(0 : Int)]))) = some () := by
        rw [show Nat.ble (k + 1 + (out.length + 1 - (k + 1))) (List.length (out ++ [(0 : Int)])) = true from Nat.ble_eq_true_of_le (by simp; omega)]; rfl
      simp only [Option.bind_some, hg, hw, s1, s2, hg2]
      rw [copy_ins out hkl]
      have hlen : (List.take (k + 1) (out ++ [(0 : Int)]) ++ List.drop k out).length = out.length + 1 := by simp; omega
      have hinb : Tr.inb (k : Int) (List.take (k + 1) (out ++ [(0 : Int)]) ++ List.drop k out).length = some k := inb_nat (by omega)
      rw [hinb]
      simp only [Option.bind_some]
      rw [List.getElem?_eq_getElem (show k < (List.take (k + 1) (out ++ [(0 : Int)]) ++ List.drop k out).length by omega)]
      simp only [Option.bind_some, ins_set out hkl, wrap_succ hi (show n.2.2.1.length ≤ 9223372036854775807 by omega)]
  · rintro _ rfl
    exact ⟨_, by simp only [nlt_dec, cond_false], rfl⟩

/-! ### The reference's -/

theorem earlier_val {n : NetT} (h : Sound n) {a b : Int} (ha : inR a n.2.2.1.length = true) (hb : inR b n.2.2.1.length = true) (hlt : b < a) : F_ref29_earlier n a b = some (!pLe n (d0 n a) b) := by
  unfold F_ref29_earlier
  have h0 : ∀ o, inR o n.2.2.1.length = true → Tr.idx (rn n o).2.2.2.2.2.2.2.1 (0 : Int) = some (cl (calls (rn n o)) 0) := fun o ho => by
    have hm := h.many _ (rn_mem ho)
    refine idx_cl ?_
    unfold inR; rw [decide_eq_true (Int.le_refl 0), decide_eq_true (show (0 : Int) < ((rn n o).2.2.2.2.2.2.2.1.length : Int) by omega)]; rfl
  rw [idx_rn ha, idx_rn hb]
  simp only [Option.bind_some, h0 a ha, h0 b hb]
  unfold pLe d0
  by_cases h1 : (cl (calls (rn n a)) 0).2.2.1 < (cl (calls (rn n b)) 0).2.2.1
  · rw [decide_eq_true h1, decide_eq_false (show ¬ (cl (calls (rn n b)) 0).2.2.1 ≤ (cl (calls (rn n a)) 0).2.2.1 by omega)]; rfl
  · rw [decide_eq_false h1, decide_eq_true (show (cl (calls (rn n b)) 0).2.2.1 ≤ (cl (calls (rn n a)) 0).2.2.1 by omega), decide_eq_false (show ¬ a < b by omega)]
    cases decide ((cl (calls (rn n a)) 0).2.2.1 = (cl (calls (rn n b)) 0).2.2.1) <;> rfl

def shL (out : List Int) (m : Int) (j : Nat) : List Int := List.take (j + 1) (out ++ [m]) ++ List.drop j out

theorem shL_len {out : List Int} {m : Int} {j : Nat} (h : j ≤ out.length) : (shL out m j).length = out.length + 1 := by unfold shL; simp; omega

theorem shL_prev {out : List Int} {m : Int} {j : Nat} (h : j < out.length) : (shL out m (j + 1))[j]? = some out[j] := by
  unfold shL
  rw [List.getElem?_append_left (by simp; omega), List.getElem?_take, if_pos (by omega), List.getElem?_append_left h, List.getElem?_eq_getElem h]

theorem shL_step {out : List Int} {m : Int} {j : Nat} (h : j < out.length) : (shL out m (j + 1)).set (j + 1) out[j] = shL out m j := by
  unfold shL
  have h1 : List.take (j + 1 + 1) (out ++ [m]) = List.take (j + 1) (out ++ [m]) ++ [((out ++ [m])[j + 1]'(by simp; omega))] := List.take_succ_eq_append_getElem (by simp; omega)
  have h2 : List.drop j out = out[j] :: List.drop (j + 1) out := List.drop_eq_getElem_cons h
  have hl : (List.take (j + 1) (out ++ [m])).length = j + 1 := by simp; omega
  rw [h1, List.append_assoc, List.set_append_right _ _ (by omega), hl, h2]
  simp

theorem order_val {n : NetT} (h : Sound n) : F_ref29_order n = some (ordL n n.2.2.1.length) := by
  unfold F_ref29_order
  refine Exists.elim (run_for (τ := List Int) n.2.2.1.length (fun r => r = ordL n n.2.2.1.length) (fun i (s : List Int × Int) => s = (ordL n i, (i : Int)))
    ?_ ?_ ([], (0 : Int)) rfl) (fun r hr => (congrArg (Option.bind · _) hr.1).trans (by rw [hr.2]; rfl))
  · rintro i _ hi rfl
    have hI := ordL_ok n i
    have hin := h.runs
    have hr : inR (i : Int) n.2.2.1.length = true := by
      unfold inR; rw [decide_eq_true (show (0 : Int) ≤ (i : Int) by omega), decide_eq_true (show (i : Int) < (n.2.2.1.length : Int) by omega)]; rfl
    have hrn : n.2.2.1[i] = rn n (i : Int) := by unfold rn; rw [show ((i : Nat) : Int).toNat = i from rfl, getD_of hi]
    have hll := hI.len
    refine .inl ⟨(ordL n (i + 1), ((i + 1 : Nat) : Int)), ?_, rfl⟩
    simp only [lt_dec hi, cond_true, idx_nat hi, Option.bind_some, hrn]
    cases hc : canc (rn n (i : Int)) with
    | true =>
      rw [show (rn n (i : Int)).2.2.2.2.2.2.1 = true from hc]
      simp only [cond_true, wrap_succ hi (show n.2.2.1.length ≤ 9223372036854775807 by omega)]
      rw [show ordL n (i + 1) = ordL n i by unfold ordL; rw [if_pos hc]; cases i <;> rfl]
    | false =>
      rw [show (rn n (i : Int)).2.2.2.2.2.2.1 = false from hc]
      have hkl : ((ordL n i).takeWhile (pLe n (d0 n i))).length ≤ (ordL n i).length := by
        have := congrArg List.length (List.takeWhile_append_dropWhile (p := pLe n (d0 n i)) (l := ordL n i)); simp only [List.length_append] at this; omega
      rw [show ordL n (i + 1) = insL n (ordL n i) i by conv => lhs; unfold ordL
                                                       rw [if_neg (by rw [hc]; decide)]]
      have hcut := cut_at (d := d0 n i) hI.srt
      have hel := hI.el
      unfold insL
      obtain ⟨t1, t2⟩ := tw_take (n := n) (d := d0 n i) (ordL n i)
      generalize hkk : ((ordL n i).takeWhile (pLe n (d0 n i))).length = k at *
      rw [t1, t2]
      clear t1 t2 hkk
      generalize ordL n i = out at *
      have hg : Tr.guardB (decide (List.length out + List.length [(i : Int)] ≤ Tr.maxApp)) = some () := guard_app (by simp; omega)
      simp only [cond_false, hg, Option.bind_some]
      have hrun : ∀ step : List Int × Int → Option ((List Int × Int) ⊕ (List Int × Int)),
          (∀ j, k ≤ j → j < out.length → step (shL out (i : Int) (j + 1), ((j + 1 : Nat) : Int)) = some (.inl (shL out (i : Int) j, (j : Int)))) → step (shL out (i : Int) k, (k : Int)) = some (.inr (shL out (i : Int) k, (k : Int))) →
          run step (out ++ [(i : Int)], (out.length : Int)) = some (shL out (i : Int) k, (k : Int)) := by
        intro step h1 h2
        have key : ∀ q j, j = k + q → j ≤ out.length → run step (shL out (i : Int) j, (j : Int)) = some (shL out (i : Int) k, (k : Int)) := by
          intro q
          induction q with
          | zero => intro j hj _; have : j = k := by omega
                    subst this; exact run_inr h2
          | succ q ih =>
            intro j hj hjl
            obtain ⟨j', rfl⟩ : ∃ j', j = j' + 1 := ⟨j - 1, by omega⟩
            rw [run_inl (h1 j' (by omega) (by omega))]
            exact ih j' (by omega) (by omega)
        have e0 : shL out (i : Int) out.length = out ++ [(i : Int)] := by unfold shL; rw [List.take_of_length_le (by simp)]; simp
        have := key (out.length - k) out.length (by omega) (Nat.le_refl _)
        rw [e0] at this; exact this
      rw [hrun _ ?_ ?_]
      · have hlen := shL_len (m := (i : Int)) hkl
        have hinb : Tr.inb (k : Int) (shL out (i : Int) k).length = some k := inb_nat (by omega)
        simp only [Option.bind_some, hinb]
        rw [List.getElem?_eq_getElem (show k < (shL out (i : Int) k).length by omega)]
        simp only [Option.bind_some, wrap_succ hi (show n.2.2.1.length ≤ 9223372036854775807 by omega)]
        unfold shL
        rw [ins_set out hkl]
      · intro j hkj hjl
        have e1 : IntKind.wrap .i64 (((j + 1 : Nat) : Int) - 1) = (j : Int) := by rw [wrap_i64 (by omega) (by omega)]; omega
        have hlen := shL_len (m := (i : Int)) (show j + 1 ≤ out.length by omega)
        have hinb : Tr.inb (j : Int) (shL out (i : Int) (j + 1)).length = some j := inb_nat (by omega)
        have hinb2 : Tr.inb ((j + 1 : Nat) : Int) (shL out (i : Int) (j + 1)).length = some (j + 1) := inb_nat (by omega)
        obtain ⟨a, b, _⟩ := hel out[j] (List.getElem_mem hjl)
        have hr2 : inR out[j] n.2.2.1.length = true := by
          unfold inR; rw [decide_eq_true a, decide_eq_true (show out[j] < (n.2.2.1.length : Int) by omega)]; rfl
        have hp : pLe n (d0 n i) out[j] = false := by
          cases hp : pLe n (d0 n i) out[j] with
          | false => rfl
          | true => have := (hcut j hjl).1 hp; omega
        simp only [decide_eq_true (show (0 : Int) < ((j + 1 : Nat) : Int) by omega), cond_true, e1, hinb, Option.bind_some, shL_prev hjl, earlier_val h hr hr2 b, hp, Bool.not_false, hinb2]
        rw [List.getElem?_eq_getElem (show j + 1 < (shL out (i : Int) (j + 1)).length by omega)]
        simp only [Option.bind_some, shL_step hjl]
      · by_cases h0 : k = 0
        · subst h0; rfl
        · obtain ⟨j, rfl⟩ : ∃ j, k = j + 1 := ⟨k - 1, by omega⟩
          have e1 : IntKind.wrap .i64 (((j + 1 : Nat) : Int) - 1) = (j : Int) := by rw [wrap_i64 (by omega) (by omega)]; omega
          have hjl : j < out.length := by omega
          have hlen := shL_len (m := (i : Int)) (show j + 1 ≤ out.length by omega)
          have hinb : Tr.inb (j : Int) (shL out (i : Int) (j + 1)).length = some j := inb_nat (by omega)
          obtain ⟨a, b, _⟩ := hel out[j] (List.getElem_mem hjl)
          have hr2 : inR out[j] n.2.2.1.length = true := by
            unfold inR; rw [decide_eq_true a, decide_eq_true (show out[j] < (n.2.2.1.length : Int) by omega)]; rfl
          have hp : pLe n (d0 n i) out[j] = true := (hcut j hjl).2 (by omega)
          simp only [decide_eq_true (show (0 : Int) < ((j + 1 : Nat) : Int) by omega), cond_true, e1, hinb, Option.bind_some, shL_prev hjl, earlier_val h hr hr2 b, hp, Bool.not_true, cond_false]
  · rintro _ rfl
    exact ⟨_, by simp only [nlt_dec, cond_false], rfl⟩
end Q

/-! Chapter 29: Lines, in both texts, and the laws about it. Conditions: a valid network of at most 40 runs. -/
namespace Q
open Tr Go

def rowAt (rows : List (List Int)) (k : Nat) : List Int := (rows[k]?).getD []
def lastE (row : List Int) : Int := ln row (row.length - 1)
def folK (n : NetT) (rows : List (List Int)) (r : Int) (k : Nat) : Int := if folB (rn n (lastE (rowAt rows k))) (rn n r) then 1 else 0
def addRow (n : NetT) (rows : List (List Int)) (r : Int) : List (List Int) := match firstBad rows.length (folK n rows r) with
  | some k => rows.set k (rowAt rows k ++ [r])
  | none => rows ++ [[r]]
def linesL (n : NetT) (rs : List Int) : List (List Int) := rs.foldl (addRow n) []

structure RowsI (n : NetT) (i : Nat) (rows : List (List Int)) : Prop where
  row : ∀ x ∈ rows, x ≠ [] ∧ (∀ o ∈ x, inR o n.2.2.1.length = true) ∧ x.length ≤ i
  len : rows.length ≤ i

theorem rowAt_of {rows : List (List Int)} {k : Nat} (h : k < rows.length) : rowAt rows k = rows[k] := getD_of h []

theorem RowsI.add {n : NetT} {i : Nat} {rows : List (List Int)} (h : RowsI n i rows) {r : Int} (hr : inR r n.2.2.1.length = true) : RowsI n (i + 1) (addRow n rows r) := by
  unfold addRow
  cases hb : firstBad rows.length (folK n rows r) with
  | none =>
    refine ⟨fun x hx => ?_, by simp; exact h.len⟩
    rcases List.mem_append.1 hx with hx | hx
    · obtain ⟨a, b, c⟩ := h.row x hx; exact ⟨a, b, by omega⟩
    · simp at hx; subst hx
      exact ⟨by simp, by simpa using hr, by simp⟩
  | some k =>
    have hk := (firstBad_spec hb).1
    refine ⟨fun x hx => ?_, by simp; have := h.len; omega⟩
    rcases List.mem_or_eq_of_mem_set hx with hx | rfl
    · obtain ⟨a, b, c⟩ := h.row x hx; exact ⟨a, b, by omega⟩
    · rw [rowAt_of hk]
      obtain ⟨a, b, c⟩ := h.row _ (List.getElem_mem hk)
      refine ⟨by simp, fun o ho => ?_, by simp; exact c⟩
      rcases List.mem_append.1 ho with ho | ho
      · exact b o ho
      · simp at ho; subst ho; exact hr

theorem linesL_snoc (n : NetT) (rs : List Int) (r : Int) : linesL n (rs ++ [r]) = addRow n (linesL n rs) r := by simp [linesL]

theorem rowsI_take {n : NetT} {rs : List Int} (hr : ∀ o ∈ rs, inR o n.2.2.1.length = true) : ∀ i, i ≤ rs.length → RowsI n i (linesL n (rs.take i))
  | 0, _ => ⟨by simp [linesL], by simp [linesL]⟩
  | i + 1, h => by
    rw [List.take_succ_eq_append_getElem (by omega), linesL_snoc]
    exact (rowsI_take hr i (by omega)).add (hr _ (List.getElem_mem (by omega)))

/-- What is read of a row that is not empty. -/
theorem last_of {n : NetT} {i : Nat} {rows : List (List Int)} (h : RowsI n i rows) (hi : i ≤ 4096) {j : Nat} (hj : j < rows.length) :
    0 < rows[j].length ∧ rows[j].length ≤ 4096 ∧ Tr.inb (IntKind.wrap .i64 ((rows[j].length : Int) - 1)) rows[j].length = some (rows[j].length - 1) ∧ rows[j][rows[j].length - 1]? = some (lastE rows[j]) ∧ inR (lastE rows[j]) n.2.2.1.length = true := by
  obtain ⟨a, b, c⟩ := h.row _ (List.getElem_mem hj)
  have h0 : 0 < rows[j].length := List.length_pos_iff.2 a
  have h1 : rows[j].length - 1 < rows[j].length := by omega
  have e : IntKind.wrap .i64 ((rows[j].length : Int) - 1) = ((rows[j].length - 1 : Nat) : Int) := by rw [wrap_i64 (by omega) (by omega)]; omega
  refine ⟨h0, by omega, by rw [e, inb_nat h1], ?_, ?_⟩
  · unfold lastE; rw [ln_of h1, List.getElem?_eq_getElem h1]
  · unfold lastE; rw [ln_of h1]; exact b _ (List.getElem_mem h1)

theorem hole_ok (j : Nat) : Tr.guardB (Tr.holeIs (some (Int.toNat (j : Int))) j) = some () := by
  rw [show Tr.holeIs (some (Int.toNat (j : Int))) j = true from Nat.beq_refl j]; rfl

theorem lines_val {n : NetT} {vb : Bool} (hv : F_line_valid n = some vb) (hs : vb = true → Sound n) (hc : ∀ x ∈ n.2.2.1, x.2.2.2.2.2.2.2.1.length ≤ 9223372036854775807) :
    F_line_Lines n = some (if vb then (linesL n (ordL n n.2.2.1.length), 0) else ([], 21)) := by
  unfold F_line_Lines
  rw [hv]
  cases vb with
  | false => rfl
  | true =>
    have h := hs rfl
    simp only [Option.bind_some, Bool.not_true, cond_false, ordered_val h, if_true]
    have hO := ordL_ok n n.2.2.1.length
    have hr : ∀ o ∈ ordL n n.2.2.1.length, inR o n.2.2.1.length = true := fun o ho => by
      obtain ⟨a, b, _⟩ := hO.el o ho
      unfold inR; rw [decide_eq_true a, decide_eq_true b]; rfl
    have hlen : (ordL n n.2.2.1.length).length ≤ 1024 := by have := hO.len; have := h.runs; omega
    generalize ordL n n.2.2.1.length = rs at *
    refine Exists.elim (run_for (τ := List (List Int)) rs.length (fun r => r = linesL n rs) (fun i (s : List (List Int) × Int) => s = (linesL n (rs.take i), (i : Int)))
      ?_ ?_ ([], (0 : Int)) rfl) (fun r hr => (congrArg (Option.bind · _) hr.1).trans (by rw [hr.2]; rfl))
    · rintro i _ hi rfl
      have hI := rowsI_take hr i (by omega)
      have hri := hr _ (List.getElem_mem hi)
      refine .inl ⟨(linesL n (rs.take (i + 1)), ((i + 1 : Nat) : Int)), ?_, rfl⟩
      rw [List.take_succ_eq_append_getElem hi, linesL_snoc]
      generalize linesL n (rs.take i) = rows at *
      have hrl := hI.len
      simp only [lt_dec hi, cond_true, idx_nat hi, Option.bind_some]
      rw [scan_run (n := rows.length) (fun j (s : List (List Int) × Bool × Int) => s = (rows, false, (j : Int))) (folK n rows rs[i]) (fun k => (rows.set k (rowAt rows k ++ [rs[i]]), true)) (rows, false) ?_ ?_ ?_ (rows, false, (0 : Int)) rfl]
      · unfold pick addRow
        cases firstBad rows.length (folK n rows rs[i]) with
        | some k => simp only [Option.bind_some, Bool.not_true, cond_false, wrap_succ hi (show rs.length ≤ 9223372036854775807 by omega)]
        | none =>
          have hg : Tr.guardB (decide (List.length rows + List.length [[rs[i]]] ≤ Tr.maxApp)) = some () := guard_app (by simp; omega)
          simp only [Option.bind_some, Bool.not_false, cond_true, hg, wrap_succ hi (show rs.length ≤ 9223372036854775807 by omega)]
      · rintro j _ hj rfl hchk
        obtain ⟨l0, l1, l2, l3, l4⟩ := last_of hI (by omega) hj
        refine ⟨_, ?_, rfl⟩
        have hf : folB (rn n (lastE rows[j])) (rn n rs[i]) = false := by
          unfold folK at hchk
          rw [rowAt_of hj] at hchk
          cases hf : folB (rn n (lastE rows[j])) (rn n rs[i]) with
          | false => rfl
          | true => rw [hf, if_pos rfl] at hchk; omega
        simp only [lt_dec hj, cond_true, inb_nat hj, Option.bind_some, List.getElem?_eq_getElem hj, idx_nat hj, l2, l3, idx_rn l4, idx_rn hri, follows_val _ _ (calls_of hc _), hf, cond_false, wrap_succ hj (show rows.length ≤ 9223372036854775807 by omega)]
      · rintro j _ hj rfl hchk
        obtain ⟨l0, l1, l2, l3, l4⟩ := last_of hI (by omega) hj
        have hf : folB (rn n (lastE rows[j])) (rn n rs[i]) = true := by
          unfold folK at hchk
          rw [rowAt_of hj] at hchk
          cases hf : folB (rn n (lastE rows[j])) (rn n rs[i]) with
          | true => rfl
          | false => rw [hf] at hchk; exact absurd rfl hchk
        have hg : Tr.guardB (decide (List.length rows[j] + List.length [rs[i]] ≤ Tr.maxApp)) = some () := guard_app (by simp; omega)
        simp only [lt_dec hj, cond_true, inb_nat hj, Option.bind_some, List.getElem?_eq_getElem hj, idx_nat hj, l2, l3, idx_rn l4, idx_rn hri, follows_val _ _ (calls_of hc _), hf, hg, hole_ok, rowAt_of hj]
      · rintro _ rfl
        simp only [nlt_dec, cond_false]
    · rintro _ rfl
      exact ⟨_, by simp only [nlt_dec, cond_false]; rfl, by rw [List.take_length]⟩

theorem linesR_val {n : NetT} (h : Sound n) (hc : ∀ x ∈ n.2.2.1, x.2.2.2.2.2.2.2.1.length ≤ 9223372036854775807) : F_ref29_Lines n = some (linesL n (ordL n n.2.2.1.length)) := by
  unfold F_ref29_Lines
  rw [order_val h]
  simp only [Option.bind_some]
  have hO := ordL_ok n n.2.2.1.length
  have hr : ∀ o ∈ ordL n n.2.2.1.length, inR o n.2.2.1.length = true := fun o ho => by
    obtain ⟨a, b, _⟩ := hO.el o ho
    unfold inR; rw [decide_eq_true a, decide_eq_true b]; rfl
  have hlen : (ordL n n.2.2.1.length).length ≤ 1024 := by have := hO.len; have := h.runs; omega
  generalize ordL n n.2.2.1.length = rs at *
  refine Exists.elim (run_for (τ := List (List Int)) rs.length (fun r => r = linesL n rs) (fun i (s : List (List Int) × Int) => s = (linesL n (rs.take i), (i : Int)))
    ?_ ?_ ([], (0 : Int)) rfl) (fun r hr => (congrArg (Option.bind · _) hr.1).trans (by rw [hr.2]; rfl))
  · rintro i _ hi rfl
    have hI := rowsI_take hr i (by omega)
    have hri := hr _ (List.getElem_mem hi)
    refine .inl ⟨(linesL n (rs.take (i + 1)), ((i + 1 : Nat) : Int)), ?_, rfl⟩
    rw [List.take_succ_eq_append_getElem hi, linesL_snoc]
    generalize linesL n (rs.take i) = rows at *
    have hrl := hI.len
    simp only [lt_dec hi, cond_true, idx_nat hi, Option.bind_some]
    rw [scan_run (n := rows.length) (fun j (s : Int) => s = (j : Int)) (folK n rows rs[i]) (fun k => (k : Int)) (rows.length : Int) ?_ ?_ ?_ (0 : Int) rfl]
    · unfold pick addRow
      cases hb : firstBad rows.length (folK n rows rs[i]) with
      | some k =>
        have hk := (firstBad_spec hb).1
        have hrk := (hI.row _ (List.getElem_mem hk)).2.2
        have hg : Tr.guardB (decide (List.length rows[k] + List.length [rs[i]] ≤ Tr.maxApp)) = some () := guard_app (by simp; omega)
        simp only [Option.bind_some, decide_eq_false (show ¬ (k : Int) = (rows.length : Int) by omega), cond_false, inb_nat hk, List.getElem?_eq_getElem hk, idx_nat hk, hg, hole_ok, rowAt_of hk, wrap_succ hi (show rs.length ≤ 9223372036854775807 by omega)]
      | none =>
        have hg1 : Tr.guardB (decide (List.length rows + List.length ([[]] : List (List Unit)) ≤ Tr.maxApp)) = some () := by
          rw [decide_eq_true (show List.length rows + List.length ([[]] : List (List Unit)) ≤ Tr.maxApp from (show List.length rows + 1 ≤ 4294967296 by omega))]; rfl
        have hk : rows.length < (rows ++ [([] : List Int)]).length := by simp
        have hkk : (rows ++ [([] : List Int)])[rows.length]'hk = [] := by simp
        have hg : Tr.guardB (decide (List.length ([] : List Int) + List.length [rs[i]] ≤ Tr.maxApp)) = some () := guard_app (by simp)
        have hset : (rows ++ [([] : List Int)]).set rows.length ([] ++ [rs[i]]) = rows ++ [[rs[i]]] := by
          rw [List.set_append_right _ _ (Nat.le_refl _)]; simp
        simp only [Option.bind_some, decide_true, cond_true, hg1]
        erw [inb_nat hk]
        simp only [Option.bind_some]
        erw [List.getElem?_eq_getElem hk, idx_nat hk]
        simp only [Option.bind_some]
        erw [hkk, hg]
        simp only [Option.bind_some]
        erw [hole_ok]
        simp only [Option.bind_some]
        erw [hset]
        rw [wrap_succ hi (show rs.length ≤ 9223372036854775807 by omega)]
    · rintro j _ hj rfl hchk
      obtain ⟨l0, l1, l2, l3, l4⟩ := last_of hI (by omega) hj
      refine ⟨_, ?_, rfl⟩
      have hf : folB (rn n (lastE rows[j])) (rn n rs[i]) = false := by
        unfold folK at hchk
        rw [rowAt_of hj] at hchk
        cases hf : folB (rn n (lastE rows[j])) (rn n rs[i]) with
        | false => rfl
        | true => rw [hf, if_pos rfl] at hchk; omega
      simp only [lt_dec hj, cond_true, inb_nat hj, Option.bind_some, List.getElem?_eq_getElem hj, idx_nat hj, l2, l3, idx_rn l4, idx_rn hri, followsR_val _ _ (calls_of hc _), hf, Bool.not_false, wrap_succ hj (show rows.length ≤ 9223372036854775807 by omega)]
    · rintro j _ hj rfl hchk
      obtain ⟨l0, l1, l2, l3, l4⟩ := last_of hI (by omega) hj
      have hf : folB (rn n (lastE rows[j])) (rn n rs[i]) = true := by
        unfold folK at hchk
        rw [rowAt_of hj] at hchk
        cases hf : folB (rn n (lastE rows[j])) (rn n rs[i]) with
        | true => rfl
        | false => rw [hf] at hchk; exact absurd rfl hchk
      simp only [lt_dec hj, cond_true, inb_nat hj, Option.bind_some, List.getElem?_eq_getElem hj, idx_nat hj, l2, l3, idx_rn l4, idx_rn hri, followsR_val _ _ (calls_of hc _), hf, Bool.not_true, cond_false]
    · rintro _ rfl
      simp only [nlt_dec, cond_false, Option.bind_some]
  · rintro _ rfl
    exact ⟨_, by simp only [nlt_dec, cond_false]; rfl, by rw [List.take_length]⟩

theorem same_self (l : List Int) (hl : l.length ≤ 9223372036854775807) : F_ref29_Same l l = some true := by
  unfold F_ref29_Same
  rw [decide_eq_true rfl]
  simp only [Bool.not_true, cond_false]
  rw [scan_run (n := l.length) (fun i (st : Int) => st = (i : Int)) (fun _ => 0) (fun _ => .inr false) (.inl ()) ?_ ?_ ?_ (0 : Int) rfl]
  · unfold pick
    rw [firstBad_none fun _ _ => rfl]
    rfl
  · rintro i _ hi rfl _
    refine ⟨((i + 1 : Nat) : Int), ?_, rfl⟩
    simp only [lt_dec hi, cond_true, idx_nat hi, Option.bind_some, decide_true, Bool.not_true, cond_false, wrap_succ hi hl]
  · intro i s _ _ hh; exact absurd rfl hh
  · rintro _ rfl
    simp only [nlt_dec, cond_false]

theorem lists (n : NetT) (h : Good Y31 n) : F_law29_LineLists n = some true := by
  unfold F_law29_LineLists
  obtain ⟨b, hb1, hb2⟩ := few_val n
  rw [hb1, example_true]
  simp only [Option.bind_some]
  cases b with
  | false => rfl
  | true =>
    obtain ⟨h1, h2⟩ := hb2 rfl
    have hf := fit_of h (by omega)
    obtain ⟨vb, e1, e2, e3⟩ := nvalid_val hf
    rw [lines_val e1 e3 hf.calls, e2]
    simp only [Bool.not_true, cond_false, Option.bind_some]
    cases vb with
    | false => rfl
    | true =>
      have hs := e3 rfl
      rw [linesR_val hs hf.calls]
      simp only [if_true, Option.bind_some, Bool.not_true, cond_false, decide_true]
      have hO := ordL_ok n n.2.2.1.length
      have hr : ∀ o ∈ ordL n n.2.2.1.length, inR o n.2.2.1.length = true := fun o ho => by
        obtain ⟨a, b, _⟩ := hO.el o ho
        unfold inR; rw [decide_eq_true a, decide_eq_true b]; rfl
      have hlen : (ordL n n.2.2.1.length).length ≤ 1024 := by have := hO.len; omega
      have hI := rowsI_take hr _ (Nat.le_refl _)
      rw [List.take_length] at hI
      have hIl := hI.len
      rw [scan_run (n := (linesL n (ordL n n.2.2.1.length)).length) (fun i (st : Int) => st = (i : Int)) (fun _ => 0) (fun _ => .inr false) (.inl ()) ?_ ?_ ?_ (0 : Int) rfl]
      · unfold pick
        rw [firstBad_none fun _ _ => rfl]
        rfl
      · rintro i _ hi rfl _
        refine ⟨((i + 1 : Nat) : Int), ?_, rfl⟩
        have := (hI.row _ (List.getElem_mem hi)).2.2
        simp only [lt_dec hi, cond_true, idx_nat hi, Option.bind_some, same_self _ (show (linesL n (ordL n n.2.2.1.length))[i].length ≤ 9223372036854775807 by omega), Bool.not_true, cond_false, wrap_succ hi (show (linesL n (ordL n n.2.2.1.length)).length ≤ 9223372036854775807 by omega)]
      · intro i s _ _ hh; exact absurd rfl hh
      · rintro _ rfl
        simp only [nlt_dec, cond_false]

theorem listsP (x : ElPs F_law29_LineListsA) (hx : GoodPs F_law29_LineListsA x) : F_law29_LineLists x.1 = some true := lists x.1 hx.1
end Q

/-! Chapter 29: the lists of Lines are lines and part the runs: the law of LineParts in plain Lean. Conditions: texts and lists as a machine can hold them. -/
namespace Q
open Tr Go

theorem flatten_set {α : Type} (r : α) : ∀ (rows : List (List α)) (k : Nat) (h : k < rows.length), (rows.set k (rows[k] ++ [r])).flatten.Perm (rows.flatten ++ [r])
  | x :: l, 0, _ => by
    simp only [List.set_cons_zero, List.flatten_cons, List.getElem_cons_zero, List.append_assoc]
    exact (List.perm_append_comm).append_left _
  | x :: l, k + 1, h => by
    simp only [List.set_cons_succ, List.flatten_cons, List.getElem_cons_succ, List.append_assoc]
    exact (flatten_set r l k (by simpa using h)).append_left _

structure PartI (n : NetT) (rs : List Int) (rows : List (List Int)) : Prop where
  perm : rows.flatten.Perm rs
  chain : ∀ x ∈ rows, ∀ i, i + 1 < x.length → folB (rn n (ln x i)) (rn n (ln x (i + 1))) = true

theorem PartI.add {n : NetT} {rs : List Int} {rows : List (List Int)} (h : PartI n rs rows) (hne : ∀ x ∈ rows, x ≠ []) (r : Int) : PartI n (rs ++ [r]) (addRow n rows r) := by
  unfold addRow
  cases hb : firstBad rows.length (folK n rows r) with
  | none =>
    refine ⟨by simpa using h.perm.append_right [r], fun x hx i hi => ?_⟩
    rcases List.mem_append.1 hx with hx | hx
    · exact h.chain x hx i hi
    · simp at hx; subst hx; simp at hi
  | some k =>
    obtain ⟨hk, hf⟩ := firstBad_spec hb
    have hf : folB (rn n (lastE rows[k])) (rn n r) = true := by
      unfold folK at hf
      rw [rowAt_of hk] at hf
      cases hf' : folB (rn n (lastE rows[k])) (rn n r) with
      | true => rfl
      | false => rw [hf'] at hf; exact absurd rfl hf
    show PartI n (rs ++ [r]) (rows.set k (rowAt rows k ++ [r]))
    rw [rowAt_of hk]
    refine ⟨(flatten_set r rows k hk).trans (h.perm.append_right [r]), fun x hx i hi => ?_⟩
    rcases List.mem_or_eq_of_mem_set hx with hx | rfl
    · exact h.chain x hx i hi
    · have h0 : 0 < rows[k].length := List.length_pos_iff.2 (hne _ (List.getElem_mem hk))
      have hl : ∀ j, j < rows[k].length → ln (rows[k] ++ [r]) j = ln rows[k] j := fun j hj => by
        unfold ln; rw [List.getElem?_append_left hj]
      simp at hi
      by_cases hi2 : i + 1 < rows[k].length
      · rw [hl i (by omega), hl (i + 1) hi2]
        exact h.chain _ (List.getElem_mem hk) i hi2
      · have e : i = rows[k].length - 1 := by omega
        have e2 : ln (rows[k] ++ [r]) (i + 1) = r := by
          unfold ln; rw [List.getElem?_append_right (by omega), show i + 1 - rows[k].length = 0 by omega]; rfl
        rw [hl i (by omega), e2, e]
        exact hf

theorem partI_take {n : NetT} {rs : List Int} (hr : ∀ o ∈ rs, inR o n.2.2.1.length = true) : ∀ i, i ≤ rs.length → PartI n (rs.take i) (linesL n (rs.take i))
  | 0, _ => ⟨by simp [linesL], by simp [linesL]⟩
  | i + 1, h => by
    rw [List.take_succ_eq_append_getElem (by omega), linesL_snoc]
    exact (partI_take hr i (by omega)).add (fun x hx => ((rowsI_take hr i (by omega)).row x hx).1) _

theorem line_row {n : NetT} {rs : List Int} (hr : ∀ o ∈ rs, inR o n.2.2.1.length = true) (hc : ∀ o ∈ rs, canc (rn n o) = false) (hn : rs.Nodup) {rows : List (List Int)} (hP : PartI n rs rows) (hI : RowsI n rs.length rows) {x : List Int} (hx : x ∈ rows) : LineP n x := by
  have hm : ∀ o ∈ x, o ∈ rs := fun o ho => hP.perm.mem_iff.1 (List.mem_flatten.2 ⟨x, hx, ho⟩)
  have hnf : rows.flatten.Nodup := hP.perm.nodup_iff.2 hn
  have hnx : x.Nodup := (List.pairwise_flatten.1 hnf).1 x hx
  refine ⟨List.length_pos_iff.2 (hI.row x hx).1, fun i hi => ?_, fun i hi => ?_, fun i j hij hj e => ?_, hP.chain x hx⟩
  · rw [ln_of hi]; exact hr _ (hm _ (List.getElem_mem hi))
  · rw [ln_of hi]; exact hc _ (hm _ (List.getElem_mem hi))
  · rw [ln_of (show i < x.length by omega), ln_of hj] at e
    exact List.pairwise_iff_getElem.1 hnx i j (by omega) hj hij e

theorem take_flat_le {rows : List (List Int)} (i : Nat) : (rows.take i).flatten.length ≤ rows.flatten.length := by
  have : rows.flatten = (rows.take i).flatten ++ (rows.drop i).flatten := by rw [← List.flatten_append, List.take_append_drop]
  rw [this, List.length_append]; omega

def TI (n : NetT) (P : List Int) (t : List Int) : Prop := t.length = n.2.2.1.length ∧ ∀ k : Nat, k < n.2.2.1.length → t[k]? = some ((P.count (k : Int) : Nat) : Int)

theorem TI.step {n : NetT} {P t : List Int} (h : TI n P t) {o : Int} (ho : inR o n.2.2.1.length = true) (hP : P.length ≤ 4096) :
    ∃ v, t[o.toNat]? = some v ∧ TI n (P ++ [o]) (t.set o.toNat (IntKind.wrap .i64 (v + 1))) := by
  obtain ⟨e1, e2, e3, e4⟩ := inR_nat ho
  have hv := h.2 _ e2
  rw [e1] at hv
  have hcl : P.count o ≤ P.length := List.count_le_length
  refine ⟨_, hv, by simp [h.1], fun k hk => ?_⟩
  have hw : IntKind.wrap .i64 (((P.count o : Nat) : Int) + 1) = ((P.count o + 1 : Nat) : Int) := by rw [wrap_i64 (by omega) (by omega)]; omega
  rw [hw, List.getElem?_set, List.count_append]
  by_cases hk2 : o.toNat = k
  · subst hk2
    rw [if_pos rfl, if_pos (by rw [h.1]; exact e2), e1]
    simp
  · rw [if_neg hk2, h.2 k hk]
    have : List.count (k : Int) [o] = 0 := by
      rw [List.count_eq_zero]; simp; omega
    rw [this]; rfl

theorem parts (n : NetT) (h : Good Y31 n) : F_law29_LineParts n = some true := by
  unfold F_law29_LineParts
  obtain ⟨b, hb1, hb2⟩ := few_val n
  rw [hb1, example_true]
  simp only [Option.bind_some]
  cases b with
  | false => rfl
  | true =>
    obtain ⟨h1, h2⟩ := hb2 rfl
    have hf := fit_of h (by omega)
    obtain ⟨vb, e1, e2, e3⟩ := nvalid_val hf
    rw [e2]
    simp only [Bool.not_true, cond_false, Option.bind_some]
    cases vb with
    | false => rfl
    | true =>
      have hs := e3 rfl
      rw [lines_val e1 e3 hf.calls]
      simp only [if_true, Option.bind_some, Bool.not_true, cond_false, decide_true]
      have hO := ordL_ok n n.2.2.1.length
      have hr : ∀ o ∈ ordL n n.2.2.1.length, inR o n.2.2.1.length = true := fun o ho => by
        obtain ⟨a, b, _⟩ := hO.el o ho
        unfold inR; rw [decide_eq_true a, decide_eq_true b]; rfl
      have hcn : ∀ o ∈ ordL n n.2.2.1.length, canc (rn n o) = false := fun o ho => (hO.el o ho).2.2
      have hI := rowsI_take hr _ (Nat.le_refl _)
      have hP := partI_take hr _ (Nat.le_refl _)
      rw [List.take_length] at hI hP
      have hOl := hO.len
      have hline : ∀ x ∈ linesL n (ordL n n.2.2.1.length), LineP n x := fun x hx => line_row hr hcn hO.nd hP hI hx
      generalize linesL n (ordL n n.2.2.1.length) = rows at *
      have hrl := hI.len
      have hfl : rows.flatten.length ≤ n.2.2.1.length := by rw [hP.perm.length_eq]; exact hOl
      rw [decide_eq_false (show ¬ (n.2.2.1.length : Int) < (rows.length : Int) by omega)]
      have hg : Tr.guardB (decide ((0 : Int) ≤ (n.2.2.1.length : Int) ∧ (n.2.2.1.length : Int) ≤ (n.2.2.1.length : Int) ∧ (n.2.2.1.length : Int) ≤ ((Tr.maxApp : Nat) : Int))) = some () := by
        rw [decide_eq_true ⟨by omega, by omega, by show _ ≤ ((4294967296 : Nat) : Int); omega⟩]; rfl
      rw [show (Tr.guardB (decide ((0 : Tr.El (Tr.Ty.int Go.IntKind.i64)) ≤ (n.2.2.1.length : Int) ∧ (n.2.2.1.length : Int) ≤ (n.2.2.1.length : Int) ∧ (n.2.2.1.length : Int) ≤ (((Tr.maxApp : Nat) : Int) : Tr.El (Tr.Ty.int Go.IntKind.i64))))) = some () from hg]
      simp only [Option.bind_some, cond_false]
      refine bind_of (fun r => ∃ t, r = .inl t ∧ TI n rows.flatten t) (run_for (τ := List Int ⊕ Bool) rows.length _ (fun i (s : List Int × Int) => s.2 = (i : Int) ∧ TI n (rows.take i).flatten s.1)
        ?_ ?_ (List.replicate (Int.toNat (n.2.2.1.length : Int)) (0 : Int), (0 : Int)) ?_) ?_
      · rintro i ⟨t, ii⟩ hi ⟨hii, hT⟩
        simp only at hii hT
        subst hii
        have hx := List.getElem_mem hi
        have hL := hline _ hx
        have hxl := (hI.row _ hx).2.2
        have hline' : F_line_IsLine n rows[i] = some true := by
          rw [isLine_val e1 hf.calls (by omega) (by omega), line_iff.2 hL]; rfl
        have htk : (rows.take (i + 1)).flatten = (rows.take i).flatten ++ rows[i] := by
          rw [List.take_succ_eq_append_getElem hi, List.flatten_append]; simp
        have hle : (rows.take i).flatten.length + rows[i].length ≤ n.2.2.1.length := by
          have := take_flat_le (rows := rows) (i + 1); rw [htk, List.length_append] at this; omega
        simp only [lt_dec hi, cond_true, idx_nat hi, Option.bind_some, decide_eq_false (show ¬ (n.2.2.1.length : Int) < (rows[i].length : Int) by omega), cond_false, hline', Bool.not_true]
        refine .inl ?_
        refine bind_ex (fun r => ∃ t, r = .inl t ∧ TI n (rows.take (i + 1)).flatten t) (run_for (τ := List Int ⊕ Bool) rows[i].length _ (fun j (s : List Int × Int) => s.2 = (j : Int) ∧ TI n ((rows.take i).flatten ++ rows[i].take j) s.1)
          ?_ ?_ (t, (0 : Int)) ⟨rfl, by simpa using hT⟩) ?_
        · rintro j ⟨t, jj⟩ hj ⟨hjj, hT⟩
          simp only at hjj hT
          subst hjj
          have hro := hr _ (hP.perm.mem_iff.1 (List.mem_flatten.2 ⟨_, hx, List.getElem_mem hj⟩))
          obtain ⟨_, e5, e6, e7⟩ := inR_nat hro
          obtain ⟨v, hv, hT2⟩ := hT.step hro (by rw [List.length_append, List.length_take]; omega)
          have hinb : Tr.inb rows[i][j] t.length = some rows[i][j].toNat := inb_int (by rw [hT.1]; exact hro)
          refine .inl ⟨(t.set rows[i][j].toNat (IntKind.wrap .i64 (v + 1)), ((j + 1 : Nat) : Int)), ?_, rfl, ?_⟩
          · simp only [lt_dec hj, cond_true, idx_nat hj, Option.bind_some, decide_eq_false (show ¬ rows[i][j] < 0 by omega), decide_eq_false (show ¬ (n.2.2.1.length : Int) ≤ rows[i][j] by omega), cond_false, hinb, hv, wrap_succ hj (show rows[i].length ≤ 9223372036854775807 by omega)]
          · show TI n ((rows.take i).flatten ++ rows[i].take (j + 1)) _
            rw [List.take_succ_eq_append_getElem hj, ← List.append_assoc]
            exact hT2
        · rintro ⟨t, jj⟩ ⟨hjj, hT⟩
          simp only at hjj hT
          subst hjj
          refine ⟨.inl t, by simp only [nlt_dec, cond_false], t, rfl, ?_⟩
          rw [htk]
          rw [List.take_length] at hT; exact hT
        · rintro _ ⟨t', rfl, hT'⟩
          refine ⟨(t', ((i + 1 : Nat) : Int)), ?_, rfl, hT'⟩
          simp only [Sum.elim_inl, wrap_succ hi (show rows.length ≤ 9223372036854775807 by omega)]
      · rintro ⟨t, ii⟩ ⟨hii, hT⟩
        simp only at hii hT
        subst hii
        exact ⟨.inl t, by simp only [nlt_dec, cond_false], t, rfl, by rw [List.take_length] at hT; exact hT⟩
      · refine ⟨rfl, by simp, fun k hk => ?_⟩
        simp [hk]
      · rintro _ ⟨t, rfl, hT⟩
        simp only [Sum.elim_inl]
        have hl : n.2.2.1.length ≤ 9223372036854775807 := by omega
        rw [scan_run (n := n.2.2.1.length) (fun i (st : Int) => st = (i : Int)) (fun _ => 0) (fun _ => .inr false) (.inl ()) ?_ ?_ ?_ (0 : Int) rfl]
        · unfold pick
          rw [firstBad_none fun _ _ => rfl]
          rfl
        · rintro i _ hi rfl _
          refine ⟨((i + 1 : Nat) : Int), ?_, rfl⟩
          have hrn : n.2.2.1[i] = rn n (i : Int) := by unfold rn; rw [show ((i : Nat) : Int).toNat = i from rfl, getD_of hi]
          have htv := hT.2 i hi
          have hinb : Tr.inb (i : Int) t.length = some i := inb_nat (by rw [hT.1]; exact hi)
          rw [hP.perm.count_eq] at htv
          simp only [lt_dec hi, cond_true, idx_nat hi, Option.bind_some, hrn, hinb, htv]
          cases hcc : canc (rn n (i : Int)) with
          | true =>
            have hz : List.count (i : Int) (ordL n n.2.2.1.length) = 0 := by
              rw [List.count_eq_zero]; intro hm; rw [hcn _ hm] at hcc; exact absurd hcc (by decide)
            rw [show (rn n (i : Int)).2.2.2.2.2.2.1 = true from hcc, hz]
            simp only [cond_true, Bool.not_true, cond_false, Int.natCast_zero, decide_true, Option.bind_some, wrap_succ hi hl]
          | false =>
            have hz : List.count (i : Int) (ordL n n.2.2.1.length) = 1 := by
              have h1 : List.count (i : Int) (ordL n n.2.2.1.length) ≤ 1 := List.nodup_iff_count.1 hO.nd _
              have h2 := List.count_pos_iff.2 (hO.all i hi hcc)
              omega
            rw [show (rn n (i : Int)).2.2.2.2.2.2.1 = false from hcc, hz]
            simp only [cond_true, Bool.not_false, cond_false, Int.natCast_one, decide_true, Bool.not_true, Option.bind_some, wrap_succ hi hl]
        · intro i s _ _ hh; exact absurd rfl hh
        · rintro _ rfl
          simp only [nlt_dec, cond_false]

theorem partsP (x : ElPs F_law29_LinePartsA) (hx : GoodPs F_law29_LinePartsA x) : F_law29_LineParts x.1 = some true := parts x.1 hx.1
end Q
