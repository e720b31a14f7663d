/- feasible: the reference's checks of legs, and costs, as functions. Conditions: the network is sound, its lists are short. -/
import Derived.Test.YtlnoioahgincaaaGreatLxFilt
namespace Q
open Tr Go
theorem or_i64 {a b : Nat} (ha : a < 65536) (hb : b < 65536) : Tr.qor .i64 (a : Int) (b : Int) = ((a ||| b : Nat) : Int) := by
  have hor : a ||| b < 2 ^ 16 := Nat.or_lt_two_pow (n := 16) (by omega) (by omega)
  unfold Tr.qor
  have h1 : (BitVec.ofInt IntKind.i64.bits (a : Int) ||| BitVec.ofInt IntKind.i64.bits (b : Int)).toNat = a ||| b := by
    rw [BitVec.toNat_or, BitVec.ofInt_natCast, BitVec.ofInt_natCast, BitVec.toNat_ofNat, BitVec.toNat_ofNat]
    show a % 2 ^ 64 ||| b % 2 ^ 64 = a ||| b
    rw [Nat.mod_eq_of_lt (show a < 2 ^ 64 by omega), Nat.mod_eq_of_lt (show b < 2 ^ 64 by omega)]
  rw [h1, wrap_i64 (by omega) (by omega)]
theorem shl_i64 {z : Int} (h0 : 0 ≤ z) (h1 : z < 16) : Tr.qshl .i64 1 z = some ((2 ^ z.toNat : Nat) : Int) := by
  have : z = 0 ∨ z = 1 ∨ z = 2 ∨ z = 3 ∨ z = 4 ∨ z = 5 ∨ z = 6 ∨ z = 7 ∨ z = 8 ∨ z = 9 ∨ z = 10 ∨ z = 11 ∨ z = 12 ∨ z = 13 ∨ z = 14 ∨ z = 15 := by omega
  rcases this with rfl | rfl | rfl | rfl | rfl | rfl | rfl | rfl | rfl | rfl | rfl | rfl | rfl | rfl | rfl | rfl <;> decide
theorem pow_small {z : Int} (h1 : z < 16) : 2 ^ z.toNat < 65536 := Nat.pow_lt_pow_right (by omega) (show z.toNat < 16 by omega)
abbrev LegT := Bool × Int × Int × Int × Int × Int × Int × Int × Bool × Unit
abbrev RideT := Int × Int × Int × Int × Unit
abbrev JouT := List LegT × Unit
def callsOf (n : NetT) (x : LegT) : List CallT := (rn n x.2.1).2.2.2.2.2.2.2.1
def existsB (n : NetT) (x : LegT) : Bool := inR x.2.1 n.2.2.1.length && (decide (0 ≤ x.2.2.1) && (decide (x.2.2.1 < x.2.2.2.1) && decide (x.2.2.2.1 < ((callsOf n x).length : Int))))
theorem existsR_val (n : NetT) (x : LegT) : F75 n x = some (existsB n x) := by
  unfold F75 existsB
  by_cases h : inR x.2.1 n.2.2.1.length = true
  · have e : Tr.idx n.2.2.1 x.2.1 = some (rn n x.2.1) := idx_int h u0
    simp only [e, Option.bind_some, h]
    unfold inR at h
    simp only [Bool.and_eq_true, decide_eq_true_eq] at h
    rw [decide_eq_false (show ¬ x.2.1 < 0 by omega), decide_eq_false (show ¬ (n.2.2.1.length : Int) ≤ x.2.1 by omega)]
    simp only [cond_false, Option.bind_some]
    unfold callsOf
    generalize decide (0 ≤ x.2.2.1) = a1
    generalize decide (x.2.2.1 < x.2.2.2.1) = a2
    generalize decide (x.2.2.2.1 < ((rn n x.2.1).2.2.2.2.2.2.2.1.length : Int)) = a3
    cases a1 <;> cases a2 <;> cases a3 <;> rfl
  · have h' : inR x.2.1 n.2.2.1.length = false := by simpa using h
    rw [h']
    unfold inR at h
    simp only [Bool.and_eq_true, decide_eq_true_eq] at h
    by_cases h1 : x.2.1 < 0
    · rw [decide_eq_true h1]; rfl
    · rw [decide_eq_false h1, decide_eq_true (show (n.2.2.1.length : Int) ≤ x.2.1 by omega)]; rfl
def zn (n : NetT) (l : List CallT) (j : Nat) : Nat := 2 ^ (stOf n ((l[j]?).getD c0).1).2.1.toNat
def zN (n : NetT) (l : List CallT) (a : Nat) : Nat → Nat
  | 0 => 0
  | k + 1 => zN n l a k ||| zn n l (a + k)
theorem stop_sound {n : NetT} (h : Sound n) {a : Int} (h0 : 0 ≤ a) (h1 : a < (n.1.length : Int)) : Tr.idx n.1 a = some (stOf n a) ∧ 0 ≤ (stOf n a).2.1 ∧ (stOf n a).2.1 < 16 := by
  have hi : inR a n.1.length = true := by unfold inR; rw [decide_eq_true h0, decide_eq_true h1]; rfl
  refine ⟨idx_int hi s0, ?_⟩
  have hl : a.toNat < n.1.length := by omega
  unfold stOf
  rw [getD_of hl]
  exact h.zone _ (List.getElem_mem hl)
theorem zN_small {n : NetT} (h : Sound n) {l : List CallT} (hc : ∀ c ∈ l, 0 ≤ c.1 ∧ c.1 < (n.1.length : Int)) {a : Nat} : ∀ k, a + k ≤ l.length → zN n l a k < 65536
  | 0, _ => by unfold zN; omega
  | k + 1, hk => by
    have ih := zN_small h hc (a := a) k (by omega)
    have hj : a + k < l.length := by omega
    have hcj := hc _ (List.getElem_mem hj)
    have hz := (stop_sound h hcj.1 hcj.2).2
    have : zn n l (a + k) < 65536 := by
      unfold zn
      rw [getD_of hj]
      exact pow_small hz.2
    exact Nat.or_lt_two_pow (n := 16) ih this
theorem zonesR_val {n : NetT} (h : Sound n) {x : LegT} (hx : existsB n x = true) : F82 n x = some ((zN n (callsOf n x) x.2.2.1.toNat (x.2.2.2.1.toNat + 1 - x.2.2.1.toNat) : Nat) : Int) := by
  unfold existsB at hx
  simp only [Bool.and_eq_true, decide_eq_true_eq] at hx
  obtain ⟨hr, h0, h1, h2⟩ := hx
  have hm := rn_mem hr
  have hmany := (h.many _ hm).2
  have hc : ∀ c ∈ callsOf n x, 0 ≤ c.1 ∧ c.1 < (n.1.length : Int) := h.call _ hm
  have e : Tr.idx n.2.2.1 x.2.1 = some (rn n x.2.1) := idx_int hr u0
  unfold F82
  rw [e]
  simp only [Option.bind_some]
  have hfold : (rn n x.2.1).2.2.2.2.2.2.2.1 = callsOf n x := rfl
  simp only [hfold] at hmany ⊢
  generalize callsOf n x = l at *
  obtain ⟨a, ha⟩ : ∃ a : Nat, x.2.2.1 = (a : Int) := ⟨x.2.2.1.toNat, by omega⟩
  obtain ⟨b, hb⟩ : ∃ b : Nat, x.2.2.2.1 = (b : Int) := ⟨x.2.2.2.1.toNat, by omega⟩
  rw [ha] at h0 h1
  rw [hb] at h1 h2
  rw [ha, hb]
  simp only [Int.toNat_natCast]
  rw [scan_run (n := b + 1 - a) (fun i (st : Int × Int) => st = (((zN n l a i : Nat) : Int), ((a + i : Nat) : Int))) (fun _ => 0) (fun _ => ((zN n l a (b + 1 - a) : Nat) : Int)) ((zN n l a (b + 1 - a) : Nat) : Int) ?_ ?_ ?_ ((0 : Int), (a : Int)) rfl]
  · unfold pick
    rw [firstBad_none fun _ _ => rfl]
    rfl
  · rintro i _ hi rfl _
    have hj : a + i < l.length := by omega
    have hcj := hc _ (List.getElem_mem hj)
    obtain ⟨hs1, hs2, hs3⟩ := stop_sound h hcj.1 hcj.2
    refine ⟨(((zN n l a (i + 1) : Nat) : Int), ((a + (i + 1) : Nat) : Int)), ?_, rfl⟩
    have hw : IntKind.wrap .i64 (((a + i : Nat) : Int) + 1) = ((a + (i + 1) : Nat) : Int) := by rw [wrap_i64 (by omega) (by omega)]; omega
    simp only [decide_eq_true (show ((a + i : Nat) : Int) ≤ (b : Int) by omega), cond_true, idx_nat hj, Option.bind_some, hs1, shl_i64 hs2 hs3, hw]
    rw [or_i64 (zN_small h hc (a := a) i (by omega)) (pow_small hs3)]
    have : zN n l a (i + 1) = zN n l a i ||| 2 ^ (stOf n l[a + i].1).2.1.toNat := by
      show zN n l a i ||| zn n l (a + i) = _
      unfold zn
      rw [getD_of hj]
    rw [this]
  · intro i s _ _ hh; exact absurd rfl hh
  · rintro _ rfl
    simp only [decide_eq_false (show ¬ ((a + (b + 1 - a) : Nat) : Int) ≤ (b : Int) by omega), cond_false]
theorem inb_last {k : Nat} (h : 0 < k) (hk : k ≤ 9223372036854775807) : Tr.inb (IntKind.wrap .i64 ((k : Int) - 1)) k = some (k - 1) := by
  have e : IntKind.wrap .i64 ((k : Int) - 1) = ((k - 1 : Nat) : Int) := by rw [wrap_i64 (by omega) (by omega)]; omega
  rw [e, inb_nat (by omega)]
theorem set_get {α : Type} {l : List α} {k : Nat} (h : k < l.length) (w : α) : (l.set k w)[k]? = some w := by simp [h]
theorem wrap_mask {m : Nat} (h : m < 65536) : IntKind.wrap .i64 (m : Int) = (m : Int) := wrap_i64 (by omega) (by omega)
def zmask (n : NetT) (x : LegT) : Nat := zN n (callsOf n x) x.2.2.1.toNat (x.2.2.2.1.toNat + 1 - x.2.2.1.toNat)
theorem zmask_small {n : NetT} (h : Sound n) {x : LegT} (hx : existsB n x = true) : zmask n x < 65536 := by
  unfold existsB at hx
  simp only [Bool.and_eq_true, decide_eq_true_eq] at hx
  obtain ⟨hr, h0, h1, h2⟩ := hx
  exact zN_small h (h.call _ (rn_mem hr)) _ (by unfold callsOf at h2; omega)
def r00 : RouteT := ([], 0, false, ())
def routeAt (n : NetT) (x : LegT) : RouteT := (n.2.1[(rn n x.2.1).2.2.2.2.1.toNat]?).getD r00
theorem route_ok {n : NetT} (h : Sound n) {x : LegT} (hx : existsB n x = true) : Tr.idx n.2.2.1 x.2.1 = some (rn n x.2.1) ∧ Tr.idx n.2.1 (rn n x.2.1).2.2.2.2.1 = some (routeAt n x) ∧ 0 ≤ (routeAt n x).2.1 ∧ (routeAt n x).2.1 < 16 := by
  unfold existsB at hx
  simp only [Bool.and_eq_true] at hx
  have hm := rn_mem hx.1
  have h1 := h.route _ hm
  have hi : inR (rn n x.2.1).2.2.2.2.1 n.2.1.length = true := by unfold inR; rw [decide_eq_true h1.1, decide_eq_true h1.2]; rfl
  refine ⟨idx_int hx.1 u0, idx_int hi r00, ?_⟩
  have hl : (rn n x.2.1).2.2.2.2.1.toNat < n.2.1.length := by omega
  unfold routeAt
  rw [getD_of hl]
  have := h.mode _ (List.getElem_mem hl)
  omega
def newRide (n : NetT) (x : LegT) : RideT := (x.2.2.2.2.2.2.1, x.2.2.2.2.2.2.2.1, ((zmask n x : Nat) : Int), ((2 ^ (routeAt n x).2.1.toNat : Nat) : Int), ())
def addRide (n : NetT) (x : LegT) (l : List RideT) (v : RideT) : List RideT :=
  l.set (l.length - 1) (v.1, x.2.2.2.2.2.2.2.1, Tr.qor .i64 v.2.2.1 ((zmask n x : Nat) : Int), Tr.qor .i64 v.2.2.2.1 ((2 ^ (routeAt n x).2.1.toNat : Nat) : Int), ())
abbrev stayB (x : LegT) : Bool := x.2.2.2.2.2.2.2.2.1
def addLast (n : NetT) (x : LegT) (out : List RideT) : List RideT := match out[out.length - 1]? with
  | some v => addRide n x out v
  | none => out
def ridesGo (n : NetT) : List LegT → Bool → List RideT → List RideT × Int
  | [], _, out => (out, 0)
  | x :: l, rode, out =>
    if x.1 = true ∧ existsB n x = false then ([], 9)
    else if stayB x = true ∧ (x.1 = false ∨ rode = false) then ([], 19)
    else if x.1 = true then ridesGo n l true (if stayB x = true then addLast n x out else out ++ [newRide n x])
    else ridesGo n l false out
theorem ridesGo_cons (n : NetT) (x : LegT) (l : List LegT) (rode : Bool) (out : List RideT) : ridesGo n (x :: l) rode out = if x.1 = true ∧ existsB n x = false then ([], 9)
    else if stayB x = true ∧ (x.1 = false ∨ rode = false) then ([], 19)
    else if x.1 = true then ridesGo n l true (if stayB x = true then addLast n x out else out ++ [newRide n x])
    else ridesGo n l false out := rfl
theorem addLast_len (n : NetT) (x : LegT) (out : List RideT) : (addLast n x out).length = out.length := by
  unfold addLast
  split
  · unfold addRide; rw [List.length_set]
  · rfl
theorem or_step {c d : Bool} {e : Int} {K : Option Int} {k : Int} (h : K = some k) : (Option.bind (bif c then some true else some d) fun x => bif x then some e else K) = some (bif c || d then e else k) := by
  subst h; cases c <;> cases d <;> rfl
theorem and_step {c d : Bool} {e : Int} {K : Option Int} {k : Int} (h : K = some k) : (Option.bind (bif c then some d else some false) fun x => bif x then some e else K) = some (bif c && d then e else k) := by
  subst h; cases c <;> cases d <;> rfl
theorem one_step {c : Bool} {e : Int} {K : Option Int} {k : Int} (h : K = some k) : (bif c then some e else K) = some (bif c then e else k) := by
  subst h; cases c <;> rfl
theorem bind_step {o : Option Bool} {c : Bool} {e : Int} {K : Option Int} {k : Int} (ho : o = some c) (h : K = some k) : (Option.bind o fun x => bif x then some e else K) = some (bif c then e else k) := by
  subst ho; subst h; cases c <;> rfl
theorem zero_step {c : Bool} {e k : Int} (he : e ≠ 0) : (bif c then e else k) = 0 ↔ c = false ∧ k = 0 := by
  cases c <;> simp [he]
def modeB (q : QueT) (t : RouteT) : Bool := decide (q.2.2.2.2.2.2.2.2.1 = (0 : Int)) || decide (Tr.qand .i64 (Int.fdiv q.2.2.2.2.2.2.2.2.1 (2 ^ (min (Int.toNat t.2.1) 64))) 1 = 1)
theorem qand_one (a : Int) : Tr.qand .i64 a 1 = 0 ∨ Tr.qand .i64 a 1 = 1 := by
  unfold Tr.qand
  have h : (BitVec.ofInt IntKind.i64.bits a &&& BitVec.ofInt IntKind.i64.bits 1).toNat = (BitVec.ofInt IntKind.i64.bits a).toNat % 2 := by
    rw [BitVec.toNat_and]
    show _ &&& 1 = _
    rw [Nat.and_one_is_mod]
  rw [h]
  have : (BitVec.ofInt IntKind.i64.bits a).toNat % 2 = 0 ∨ (BitVec.ofInt IntKind.i64.bits a).toNat % 2 = 1 := by omega
  rcases this with h | h <;> rw [h]
  · left; rfl
  · right; rfl
theorem mode_val (q : QueT) (t : RouteT) (h0 : 0 ≤ t.2.1) : (bif !decide (q.2.2.2.2.2.2.2.2.1 = (0 : Int)) then Option.bind (Tr.qshr .i64 q.2.2.2.2.2.2.2.2.1 t.2.1) fun x => some (decide (Tr.qand .i64 x (1 : Int) = (0 : Int))) else some false) = some (!modeB q t) := by
  unfold modeB
  have hs : Tr.qshr .i64 q.2.2.2.2.2.2.2.2.1 t.2.1 = some (Int.fdiv q.2.2.2.2.2.2.2.2.1 (2 ^ (min (Int.toNat t.2.1) 64))) := by
    unfold Tr.qshr
    rw [if_neg (by omega)]
    rfl
  rw [hs]
  simp only [Option.bind_some]
  cases decide (q.2.2.2.2.2.2.2.2.1 = (0 : Int)) with
  | true => rfl
  | false =>
    rcases qand_one (Int.fdiv q.2.2.2.2.2.2.2.2.1 (2 ^ (min (Int.toNat t.2.1) 64))) with h | h <;> rw [h] <;> rfl
def rideE (n : NetT) (q : QueT) (x : LegT) : Int :=
  bif !decide ((cl (callsOf n x) x.2.2.1).1 = x.2.2.2.2.1) || !decide ((cl (callsOf n x) x.2.2.2.1).1 = x.2.2.2.2.2.1) then 24 else
  bif !decide ((cl (callsOf n x) x.2.2.1).2.2.1 = x.2.2.2.2.2.2.1) || !decide ((cl (callsOf n x) x.2.2.2.1).2.1 = x.2.2.2.2.2.2.2.1) then 10 else
  bif (rn n x.2.1).2.2.2.2.2.2.1 then 27 else
  bif q.2.2.2.2.2.2.1 && !(rn n x.2.1).2.2.2.2.2.1 then 29 else
  bif q.2.2.2.2.2.2.2.1 && !(roOf n (rn n x.2.1)).2.2.1 then 30 else
  bif !modeB q (roOf n (rn n x.2.1)) then 31 else
  bif !stayB x && !(cl (callsOf n x) x.2.2.1).2.2.2.1 then 25 else
  bif !stayB x && !opnS n q x.2.2.2.2.1 then 29 else 0
theorem exists_ok {n : NetT} {x : LegT} (hx : existsB n x = true) : Tr.idx n.2.2.1 x.2.1 = some (rn n x.2.1) ∧ rn n x.2.1 ∈ n.2.2.1 ∧ Tr.idx (rn n x.2.1).2.2.2.2.2.2.2.1 x.2.2.1 = some (cl (callsOf n x) x.2.2.1) ∧ Tr.idx (rn n x.2.1).2.2.2.2.2.2.2.1 x.2.2.2.1 = some (cl (callsOf n x) x.2.2.2.1) := by
  unfold existsB at hx
  simp only [Bool.and_eq_true, decide_eq_true_eq] at hx
  obtain ⟨hr, h0, h1, h2⟩ := hx
  unfold callsOf at h2
  refine ⟨idx_int hr u0, rn_mem hr, idx_int ?_ c0, idx_int ?_ c0⟩ <;> (unfold inR; rw [Bool.and_eq_true, decide_eq_true_eq, decide_eq_true_eq]; omega)
theorem openR_val {n : NetT} (q : QueT) {s : Int} (h : inR s n.1.length = true) : F86 n q s = some (opnS n q s) := by
  unfold F86 opnS
  rw [show Tr.idx n.1 s = some (stOf n s) from idx_int h s0]
  simp only [Option.bind_some]
  cases q.2.2.2.2.2.2.1 <;> cases (stOf n s).2.2.1 <;> rfl
theorem ride_val {n : NetT} (hS : Sound n) (q : QueT) {x : LegT} (hx : existsB n x = true) (hf : inR x.2.2.2.2.1 n.1.length = true) : F95 n q x = some (rideE n q x) := by
  obtain ⟨h1, h2, h3, h4⟩ := exists_ok hx
  obtain ⟨h5, h6⟩ := ro_idx hS h2
  have hm := (hS.mode _ h6).1
  unfold F95 rideE
  rw [h1]
  simp only [Option.bind_some]
  rw [h3, h4, h5]
  simp only [Option.bind_some]
  refine or_step (or_step (one_step (and_step (and_step (bind_step (mode_val q _ hm) (and_step (bind_step (c := !stayB x && !opnS n q x.2.2.2.2.1) ?_ rfl)))))))
  rw [openR_val q hf]
  unfold stayB
  cases x.2.2.2.2.2.2.2.2.1 <;> rfl
def matchW (x : LegT) (p : Foot) : Bool := decide (p.1 = x.2.2.2.2.1) && (decide (p.2.1 = x.2.2.2.2.2.1) && decide (p.2.2.1 = IntKind.wrap .i64 (x.2.2.2.2.2.2.2.1 - x.2.2.2.2.2.2.1)))
def freeW (q : QueT) (p : Foot) : Bool := p.2.2.2.1 || !q.2.2.2.2.2.2.1
def walkE (n : NetT) (q : QueT) (x : LegT) : Int := bif n.2.2.2.2.1.any fun p => matchW x p && freeW q p then 0 else bif n.2.2.2.2.1.any (matchW x) then 29 else 18
theorem any_take {α : Type} {l : List α} {i : Nat} (h : i < l.length) (f : α → Bool) : (l.take (i + 1)).any f = ((l.take i).any f || f l[i]) := by
  rw [List.take_succ_eq_append_getElem h, List.any_append]
  simp
theorem any_at {α : Type} {l : List α} {i : Nat} (h : i < l.length) {f : α → Bool} (hf : f l[i] = true) : l.any f = true := List.any_eq_true.2 ⟨_, List.getElem_mem h, hf⟩
theorem walkLeg_val {n : NetT} (hp : n.2.2.2.2.1.length ≤ 4096) (q : QueT) (x : LegT) : F96 n q x = some (walkE n q x) := by
  unfold F96
  refine bind_of (fun r : Int ⊕ Int => Sum.elim id id r = walkE n q x) ?_ ?_
  · refine run_for n.2.2.2.2.1.length _ (fun i (s : Int × Int) => s = ((bif (n.2.2.2.2.1.take i).any (matchW x) then 29 else 18), (i : Int)) ∧ ((n.2.2.2.2.1.take i).any fun p => matchW x p && freeW q p) = false) ?_ ?_ _ ⟨rfl, rfl⟩
    · rintro i _ hi ⟨rfl, ha⟩
      simp only [lt_dec hi, cond_true, idx_nat hi, Option.bind_some, wrap_succ hi (show _ ≤ 9223372036854775807 by omega)]
      have e1 : (bif !decide ((n.2.2.2.2.1[i]).1 = x.2.2.2.2.1) then some true else bif !decide ((n.2.2.2.2.1[i]).2.1 = x.2.2.2.2.2.1) then some true else some !decide ((n.2.2.2.2.1[i]).2.2.1 = IntKind.wrap .i64 (x.2.2.2.2.2.2.2.1 - x.2.2.2.2.2.2.1))) = some (!matchW x n.2.2.2.2.1[i]) := by
        unfold matchW
        cases decide ((n.2.2.2.2.1[i]).1 = x.2.2.2.2.1) <;> cases decide ((n.2.2.2.2.1[i]).2.1 = x.2.2.2.2.2.1) <;> rfl
      have e2 : (bif (n.2.2.2.2.1[i]).2.2.2.1 then some true else some !q.2.2.2.2.2.2.1) = some (freeW q n.2.2.2.2.1[i]) := by
        unfold freeW
        cases (n.2.2.2.2.1[i]).2.2.2.1 <;> rfl
      rw [e1, e2]
      simp only [Option.bind_some]
      cases hm : matchW x n.2.2.2.2.1[i] with
      | false =>
        left
        refine ⟨_, rfl, ?_, ?_⟩
        · rw [any_take hi, hm, Bool.or_false]
        · rw [any_take hi, ha, hm]; rfl
      | true =>
        cases hfr : freeW q n.2.2.2.2.1[i] with
        | true =>
          right
          refine ⟨_, rfl, ?_⟩
          unfold walkE
          rw [any_at hi (f := fun p => matchW x p && freeW q p) (by rw [hm, hfr]; rfl)]
          rfl
        | false =>
          left
          refine ⟨_, rfl, ?_, ?_⟩
          · rw [any_take hi, hm, Bool.or_true]; rfl
          · rw [any_take hi, ha, hm, hfr]; rfl
    · rintro _ ⟨rfl, ha⟩
      simp only [nlt_dec, cond_false]
      refine ⟨_, rfl, ?_⟩
      rw [List.take_length] at ha ⊢
      unfold walkE
      rw [ha]; rfl
  · rintro (r | r) hr
    · exact congrArg some hr
    · exact congrArg some hr
def legE (n : NetT) (q : QueT) (x : LegT) : Int :=
  bif !inR x.2.2.2.2.1 n.1.length || !inR x.2.2.2.2.2.1 n.1.length then 9 else
  bif (bif x.1 then !existsB n x else !decide (x.2.1 = 0) || (!decide (x.2.2.1 = 0) || (!decide (x.2.2.2.1 = 0) || stayB x))) then 9 else
  bif !decide (0 ≤ x.2.2.2.2.2.2.1 ∧ x.2.2.2.2.2.2.1 ≤ 3155932800) || !decide (0 ≤ x.2.2.2.2.2.2.2.1 ∧ x.2.2.2.2.2.2.2.1 ≤ 3155932800) then 10 else
  bif x.1 then rideE n q x else walkE n q x
theorem bind_step' {o : Option Bool} {c : Bool} {e : Int} {K : Option Int} {k : Int} (ho : o = some c) (h : c = false → K = some k) : (Option.bind o fun x => bif x then some e else K) = some (bif c then e else k) := by
  subst ho
  cases c
  · exact h rfl
  · rfl
theorem leg_val {n : NetT} (hS : Sound n) (hp : n.2.2.2.2.1.length ≤ 4096) (q : QueT) (x : LegT) : F93 n q x = some (legE n q x) := by
  have hk : n.1.length ≤ 9223372036854775807 := by have := hS.stops; omega
  unfold F93 legE
  rw [inRQ_val _ hk, inRQ_val _ hk]
  refine bind_step' (c := !inR x.2.2.2.2.1 n.1.length || !inR x.2.2.2.2.2.1 n.1.length) (by cases inR x.2.2.2.2.1 n.1.length <;> rfl) fun hst => ?_
  rw [existsR_val]
  refine bind_step' (c := bif x.1 then !existsB n x else !decide (x.2.1 = 0) || (!decide (x.2.2.1 = 0) || (!decide (x.2.2.2.1 = 0) || stayB x))) ?_ fun hex => ?_
  · unfold stayB
    cases x.1 with
    | true => cases existsB n x <;> rfl
    | false => cases decide (x.2.1 = 0) <;> cases decide (x.2.2.1 = 0) <;> cases decide (x.2.2.2.1 = 0) <;> rfl
  · rw [inQ_val, inQ_val]
    refine bind_step' (c := !decide (0 ≤ x.2.2.2.2.2.2.1 ∧ x.2.2.2.2.2.2.1 ≤ 3155932800) || !decide (0 ≤ x.2.2.2.2.2.2.2.1 ∧ x.2.2.2.2.2.2.2.1 ≤ 3155932800)) ?_ fun _ => ?_
    · simp only [Option.bind_some]
      cases decide (0 ≤ x.2.2.2.2.2.2.1 ∧ x.2.2.2.2.2.2.1 ≤ 3155932800) <;> rfl
    · cases hx1 : x.1 with
      | false =>
        simp only [cond_false]
        rw [walkLeg_val hp]; rfl
      | true =>
        rw [hx1] at hex
        simp only [cond_true] at hex ⊢
        rw [ride_val hS q (by simpa using hex) (by
          rw [Bool.or_eq_false_iff] at hst
          simpa using hst.1)]
        rfl
def linkM (a b : LegT) (stay : Bool) (l : LinkT) : Bool := decide (l.1 = a.2.1) && (decide (l.2.1 = a.2.2.2.1) && (decide (l.2.2.1 = b.2.1) && (decide (l.2.2.2.1 = b.2.2.1) && (l.2.2.2.2.1 == stay))))
def linkB (n : NetT) (a b : LegT) (stay : Bool) : Bool := n.2.2.2.1.any (linkM a b stay)
theorem linked_val {n : NetT} (hl : n.2.2.2.1.length ≤ 4096) (a b : LegT) (stay : Bool) : F94 n a b stay = some (linkB n a b stay) := by
  unfold F94
  refine bind_of (fun r : Unit ⊕ Bool => Sum.elim (fun _ => false) id r = linkB n a b stay) ?_ ?_
  · unfold linkB
    refine run_for n.2.2.2.1.length _ (fun i (s : Int) => s = (i : Int) ∧ (n.2.2.2.1.take i).any (linkM a b stay) = false) ?_ ?_ _ ⟨rfl, rfl⟩
    · rintro i _ hi ⟨rfl, ha⟩
      simp only [lt_dec hi, cond_true, idx_nat hi, Option.bind_some, wrap_succ hi (show _ ≤ 9223372036854775807 by omega)]
      have e1 : (bif decide ((n.2.2.2.1[i]).1 = a.2.1) then
 bif decide ((n.2.2.2.1[i]).2.1 = a.2.2.2.1) then
 bif decide ((n.2.2.2.1[i]).2.2.1 = b.2.1) then
 bif decide ((n.2.2.2.1[i]).2.2.2.1 = b.2.2.1) then some ((n.2.2.2.1[i]).2.2.2.2.1 == stay) else some false
 else some false
 else some false
 else some false) = some (linkM a b stay n.2.2.2.1[i]) := by
        unfold linkM
        cases decide ((n.2.2.2.1[i]).1 = a.2.1) <;> cases decide ((n.2.2.2.1[i]).2.1 = a.2.2.2.1) <;> cases decide ((n.2.2.2.1[i]).2.2.1 = b.2.1) <;> cases decide ((n.2.2.2.1[i]).2.2.2.1 = b.2.2.1) <;> rfl
      erw [e1]
      simp only [Option.bind_some]
      cases hm : linkM a b stay n.2.2.2.1[i] with
      | false =>
        left
        refine ⟨_, rfl, rfl, ?_⟩
        rw [any_take hi, ha, hm]; rfl
      | true =>
        right
        refine ⟨_, rfl, ?_⟩
        rw [any_at hi hm]; rfl
    · rintro _ ⟨rfl, ha⟩
      simp only [nlt_dec, cond_false]
      refine ⟨_, rfl, ?_⟩
      rw [List.take_length] at ha
      rw [ha]; rfl
  · rintro (r | r) hr
    · exact congrArg some hr
    · exact congrArg some hr
def followE (n : NetT) (a b : LegT) : Int :=
  bif !decide (a.2.2.2.2.2.1 = b.2.2.2.2.1) then 24 else
  bif !a.1 && !b.1 then 32 else
  bif stayB b then (bif !a.1 || !linkB n a b true then 19 else bif decide (b.2.2.2.2.2.2.1 < a.2.2.2.2.2.2.2.1) then 10 else 0) else
  bif !b.1 then (bif !decide (b.2.2.2.2.2.2.1 = a.2.2.2.2.2.2.2.1) then 10 else 0) else
  bif !a.1 then (bif decide (b.2.2.2.2.2.2.1 < a.2.2.2.2.2.2.2.1) then 28 else 0) else
  bif decide (IntKind.wrap .i64 (a.2.2.2.2.2.2.2.1 + (stOf n a.2.2.2.2.2.1).2.2.2.1) ≤ b.2.2.2.2.2.2.1) || (linkB n a b false && decide (a.2.2.2.2.2.2.2.1 ≤ b.2.2.2.2.2.2.1)) then 0 else 28
theorem follow_val {n : NetT} (hl : n.2.2.2.1.length ≤ 4096) {a b : LegT} (ha : inR b.2.2.2.2.1 n.1.length = true) : F91 n a b = some (followE n a b) := by
  unfold F91 followE
  rw [linked_val hl, linked_val hl]
  by_cases h24 : a.2.2.2.2.2.1 = b.2.2.2.2.1
  case neg => rw [decide_eq_false h24]; rfl
  rw [decide_eq_true h24]
  simp only [Bool.not_true, cond_false, Option.bind_some]
  refine and_step ?_
  unfold stayB
  cases b.2.2.2.2.2.2.2.2.1 with
  | true =>
    simp only [cond_true]
    exact or_step (by cases decide (b.2.2.2.2.2.2.1 < a.2.2.2.2.2.2.2.1) <;> rfl)
  | false =>
    simp only [cond_false]
    cases b.1 with
    | false =>
      simp only [Bool.not_false, cond_true]
      cases decide (b.2.2.2.2.2.2.1 = a.2.2.2.2.2.2.2.1) <;> rfl
    | true =>
      simp only [Bool.not_true, cond_false]
      cases a.1 with
      | false =>
        simp only [Bool.not_false, cond_true]
        cases decide (b.2.2.2.2.2.2.1 < a.2.2.2.2.2.2.2.1) <;> rfl
      | true =>
        simp only [Bool.not_true, cond_false]
        have hi : Tr.idx n.1 a.2.2.2.2.2.1 = some (stOf n a.2.2.2.2.2.1) := by rw [h24]; exact idx_int ha s0
        rw [hi]
        simp only [Option.bind_some]
        cases decide (IntKind.wrap .i64 (a.2.2.2.2.2.2.2.1 + (stOf n a.2.2.2.2.2.1).2.2.2.1) ≤ b.2.2.2.2.2.2.1) <;> cases linkB n a b false <;> cases decide (a.2.2.2.2.2.2.2.1 ≤ b.2.2.2.2.2.2.1) <;> rfl
def g0 : LegT := (false, 0, 0, 0, 0, 0, 0, 0, false, ())
def lg (L : List LegT) (i : Nat) : LegT := (L[i]?).getD g0
def firstE (n : NetT) (q : QueT) (L : List LegT) : Int :=
  bif !decide ((lg L 0).2.2.2.2.1 = q.1) then 24 else
  bif stayB (lg L 0) then 19 else
  bif !(lg L 0).1 && (decide (1 < L.length) && ((lg L 1).1 && !decide ((lg L 1).2.2.2.2.2.2.1 = (lg L 0).2.2.2.2.2.2.2.1))) then 10 else
  bif !(lg L 0).1 && (decide (L.length = 1) && (bif q.2.2.2.1 then !decide ((lg L 0).2.2.2.2.2.2.2.1 = q.2.2.1) else !decide ((lg L 0).2.2.2.2.2.2.1 = q.2.2.1))) then 10 else
  bif !q.2.2.2.1 && decide ((lg L 0).2.2.2.2.2.2.1 < q.2.2.1) then 10 else
  bif q.2.2.2.2.2.2.2.2.2.1 && ((lg L 0).1 && decide ((lg L 0).2.2.2.2.2.2.1 < IntKind.wrap .i64 (q.2.2.1 + (stOf n q.1).2.2.2.1))) then 28 else 0
theorem lg_idx {L : List LegT} {i : Nat} (h : i < L.length) : Tr.idx L (i : Int) = some (lg L i) := by
  rw [idx_nat h]
  unfold lg
  rw [getD_of h]
theorem firstR_val {n : NetT} {q : QueT} {L : List LegT} (h0 : 0 < L.length) (hq : inR q.1 n.1.length = true) : F90 n q (L, ()) = some (firstE n q L) := by
  unfold F90 firstE
  have e0 : Tr.idx (L, ()).1 (0 : Int) = some (lg L 0) := lg_idx h0
  rw [e0]
  simp only [Option.bind_some]
  refine one_step (bind_step (c := stayB (lg L 0)) rfl ?_ : (Option.bind (some _) fun _ => _) = _)
  refine bind_step (c := !(lg L 0).1 && (decide (1 < L.length) && ((lg L 1).1 && !decide ((lg L 1).2.2.2.2.2.2.1 = (lg L 0).2.2.2.2.2.2.2.1)))) ?_ (bind_step (c := !(lg L 0).1 && (decide (L.length = 1) && (bif q.2.2.2.1 then !decide ((lg L 0).2.2.2.2.2.2.2.1 = q.2.2.1) else !decide ((lg L 0).2.2.2.2.2.2.1 = q.2.2.1)))) ?_ (and_step (bind_step (c := q.2.2.2.2.2.2.2.2.2.1 && ((lg L 0).1 && decide ((lg L 0).2.2.2.2.2.2.1 < IntKind.wrap .i64 (q.2.2.1 + (stOf n q.1).2.2.2.1)))) ?_ rfl)))
  · by_cases h1 : 1 < L.length
    · have e1 : Tr.idx L (1 : Int) = some (lg L 1) := lg_idx h1
      rw [decide_eq_true (show (1 : Int) < (L.length : Int) by omega), decide_eq_true h1, e1]
      simp only [Option.bind_some]
      cases (lg L 0).1 <;> cases (lg L 1).1 <;> rfl
    · rw [decide_eq_false (show ¬ (1 : Int) < (L.length : Int) by omega), decide_eq_false h1]
      cases (lg L 0).1 <;> rfl
  · rw [show decide ((L.length : Int) = 1) = decide (L.length = 1) from decide_eq_decide.2 (by omega)]
    cases (lg L 0).1 <;> cases decide (L.length = 1) <;> cases q.2.2.2.1 <;> cases decide ((lg L 0).2.2.2.2.2.2.2.1 = q.2.2.1) <;> cases decide ((lg L 0).2.2.2.2.2.2.1 = q.2.2.1) <;> rfl
  · rw [show Tr.idx n.1 q.1 = some (stOf n q.1) from idx_int hq s0]
    simp only [Option.bind_some]
    cases q.2.2.2.2.2.2.2.2.2.1 <;> cases (lg L 0).1 <;> rfl
end Q
