/- strings.Builder's WriteString and String, strconv.Itoa and strings.Join as specs of the abstract machine. Conditions: the program bears the library's texts (the laying); sizes below Go's own limit. -/
import Derived.Test.YtbjnllepfnbaoaaGreatDoorTtB
import Derived.Shelf.Strings.OnBuilder
import Derived.Shelf.Strconv.Itoa3
namespace Tr
open Go Go.Proofs Go.Shelf Go.RowKit
def bldW (a b : List UInt8) : Option (List UInt8) := bif decide (a.length + b.length ≤ 140737488355328) then some (a ++ b) else none
def itoaF (n : Int) : Option (List UInt8) := bif decide (-9223372036854775808 ≤ n ∧ n ≤ 9223372036854775807) then some (Lib.itoa n) else none
def joinF (xs : List (List UInt8)) (sep : List UInt8) : Option (List UInt8) := bif decide (xs.length ≤ 140737488355328 ∧ (Lib.join xs sep).length ≤ 140737488355328) then some (Lib.join xs sep) else none
def wsSpec (T e : TypeId) : Spec := { args := .cons (.bld T e true) (.cons (.pd .str) .nil), res := .cons .any (.cons .any .nil), fns := [], α := List UInt8, f := fun x => bldW x.1 x.2.1, unp := fun z => ((z, (), ()), ((), (), ())), pl := false }
def bsSpec (T e : TypeId) : Spec := { args := .cons (.bld T e false) .nil, res := .cons (.pd .str) .nil, fns := [], α := List UInt8, f := fun x => some x.1, unp := fun z => (((), ()), (z, ())), pl := false }
def itoaSpec : Spec := { args := .cons (.pd (.int .i64)) .nil, res := .cons (.pd .str) .nil, fns := [], α := List UInt8, f := fun x => itoaF x.1, unp := fun z => (((), ()), (z, ())), pl := false }
def joinSpec : Spec := { args := .cons (.pd (.sl .str)) (.cons (.pd .str) .nil), res := .cons (.pd .str) .nil, fns := [], α := List UInt8, f := fun x => joinF x.1 x.2.1, unp := fun z => (((), (), ()), (z, ())), pl := false }
theorem guard_some {α : Type} {p : Prop} [Decidable p] {x z : α} (h : (bif decide p then some x else none) = some z) : p ∧ x = z := by
  cases hd : decide p with
  | false => rw [hd] at h; simp at h
  | true => rw [hd] at h; simp only [cond_true, Option.some.injEq] at h; exact ⟨of_decide_eq_true hd, h⟩
theorem str_u8s (l : List UInt8) : Lib.strCells ⟨l.toArray⟩ = u8s l := by simp [Lib.strCells, u8s]
section
variable {P : Program} {ρ : Ren}
theorem back_plain {S : Spec} {w w' : World} {I : Nat → Prop} {vals : List Value} {z : OutPs S.args × ElPs S.res} {rv : Value} (h1 : POVs w' I S.args z.1 [] vals) (h2 : RV w' I S.res z.2 [] rv) (hI : ∀ b, I b → b < w.heap.size)
    (hos : w'.os = w.os) (ht : w'.tape = w.tape) (ho : OutW S.pl w' w) (hsz : w.heap.size ≤ w'.heap.size) (hh : ∀ b, b < w.heap.size → w'.heap[b]? = w.heap[b]?) : Back S w I [] vals z rv w' :=
  ⟨I, [], [], h1, h2, .nil, by simp, fun _ h => h, fun b hb => ⟨Nat.lt_of_lt_of_le (hI b hb) hsz, .inl hb⟩, hos, ht, ho, hsz, fun b hb _ => hh b hb⟩
theorem itoa_ok (L : LaysM.n171 P ρ) (hf : ∃ fn, P.funcs[ρ.f 171]? = some fn ∧ fn.body.isNone = false ∧ (fn.name == "runtime.NumGoroutine") = false) (hg : (P.globalNamed "internal/strconv.uint64pow10").isSome = true) : FnOK P (ρ.f 171) itoaSpec where
  wf := rfl
  fn := hf
  run := by
    intro w I vals js x (z : List UInt8) hpv hnd hfree hI hA hz
    obtain ⟨j1, j2, v, r, rfl, rfl, ⟨⟨rfl, hc⟩, hag⟩, rfl, rfl⟩ := hpv
    have hv : v = .int .i64 x.1 := one_of_cells hc (hag.resolve_left fun h => by cases h)
    subst hv
    obtain ⟨hr, rfl⟩ := guard_some (show itoaF x.1 = some z from hz)
    obtain ⟨b, hb⟩ := Option.isSome_iff_exists.1 hg
    have htab := (hA rfl b hb).2.2
    refine (Any.strconv_Itoa L x.1 hr.1 hr.2 w htab).mono ?_
    rintro e w' ⟨rfl, k, os, rfl⟩
    refine ⟨_, rfl, back_plain (S := itoaSpec) ⟨[], [], _, _, rfl, rfl, rfl, rfl⟩ ⟨[.string ⟨(Lib.itoa x.1).toArray⟩], ⟨[], [], _, _, rfl, rfl, ⟨⟨rfl, rfl⟩, .inr rfl⟩, rfl, rfl⟩, rfl⟩ hI rfl rfl ⟨rfl, fun h => by cases h⟩ ?_ fun b hb => ?_⟩
    · show w.heap.size ≤ (w.heap ++ os).size
      simp
    · show (w.heap ++ os)[b]? = _
      rw [Array.getElem?_append_left hb]
theorem join_ok (L : Lays.n156 P ρ) (X : Builder.Extra P ρ) (hf : ∃ fn, P.funcs[ρ.f 156]? = some fn ∧ fn.body.isNone = false ∧ (fn.name == "runtime.NumGoroutine") = false) : FnOK P (ρ.f 156) joinSpec where
  wf := rfl
  fn := hf
  run := by
    intro w I vals js x (z : List UInt8) hpv hnd hfree hI hA hz
    obtain ⟨j1, j2, v, r, rfl, rfl, ⟨⟨rfl, hc⟩, hag⟩, j3, j4, v2, r2, rfl, rfl, ⟨⟨rfl, hc2⟩, hag2⟩, rfl, rfl⟩ := hpv
    obtain ⟨a, cap, css, hc, hfa, hl, hcap⟩ := hc
    have hv : v = .slice a x.1.length cap := one_of_cells hc (hag.resolve_left fun h => by cases h)
    have hv2 : v2 = .string ⟨x.2.1.toArray⟩ := one_of_cells hc2 (hag2.resolve_left fun h => by cases h)
    subst hv; subst hv2
    obtain ⟨hr, rfl⟩ := guard_some (show joinF x.1 x.2.1 = some z from hz)
    have fin : ∀ w', Below w.heap.size w w' → ∃ rv, Ending.returned (.string ⟨(Lib.join x.1 x.2.1).toArray⟩) = .returned rv ∧ Back joinSpec w I ([] ++ ([] ++ [])) [.slice a x.1.length cap, .string ⟨x.2.1.toArray⟩] (joinSpec.unp (Lib.join x.1 x.2.1)) rv w' := fun w' hb =>
      ⟨_, rfl, back_plain (S := joinSpec) ⟨[], [], _, _, rfl, rfl, rfl, [], [], _, _, rfl, rfl, rfl, rfl⟩ ⟨[.string ⟨(Lib.join x.1 x.2.1).toArray⟩], ⟨[], [], _, _, rfl, rfl, ⟨⟨rfl, rfl⟩, .inr rfl⟩, rfl, rfl⟩, rfl⟩ hI hb.os hb.tape ⟨hb.output, fun h => by cases h⟩ hb.size hb.block⟩
    by_cases hne : x.1 = []
    · rw [hne] at fin ⊢
      refine (Any.strings_Join_none L X a cap _ w).mono ?_
      rintro e w' ⟨rfl, rfl⟩
      exact fin w' (Below.refl _ _)
    · obtain ⟨b, off, rfl, hIb, hlies⟩ := hl hne
      have hcs : ∀ (xs : List (List UInt8)) (css : List (List Value)), Fa (Rd w I .str) xs css → css.flatten = xs.map fun l => Value.string ⟨l.toArray⟩ := by
        intro xs
        induction xs with
        | nil => intro css h; cases css with
          | nil => rfl
          | cons _ _ => exact h.elim
        | cons y ys ih => intro css h; cases css with
          | nil => exact h.elim
          | cons c cs =>
            obtain ⟨h1, h2⟩ := h
            rw [List.flatten_cons, ih cs h2, show c = _ from h1]; rfl
      have hfl := hcs _ _ hfa
      have e1 : (x.1.map fun l => (⟨l.toArray⟩ : ByteArray)).length = x.1.length := by simp
      have e2 : (x.1.map fun l => (⟨l.toArray⟩ : ByteArray)).map (·.data.toList) = x.1 := by simp [Function.comp_def]
      have hJ := Any.strings_Join L X b off cap (x.1.map fun l => ⟨l.toArray⟩) ⟨x.2.1.toArray⟩ w (fun j y hy => by
          simp only [List.getElem?_map, Option.map_eq_some_iff] at hy
          obtain ⟨l, hl, rfl⟩ := hy
          have hj := (List.getElem?_eq_some_iff.1 hl).1
          have := hlies j (by rw [hfl]; simpa using hj)
          rw [this]
          congr 1
          rw [List.getElem_of_eq hfl]
          simp [(List.getElem?_eq_some_iff.1 hl).2]) (hI b hIb) (by rw [e1]; exact hr.1) (by rw [e1]; exact hcap) (by rw [e2]; exact hr.2)
      rw [e1, e2] at hJ
      refine hJ.mono ?_
      rintro e w' ⟨rfl, hb⟩
      exact fin w' hb
theorem app_str (w : World) (t u ty e : TypeId) (i : TypeInfo) (ht : P.underlying t = some (.slice e)) (hu : P.underlying u = some .string) (hi : P.info? e = some i) (hz : i.zero = some (.int .u8 0)) (hsize : i.size = 1) (hby : i.bytes = 1)
    (v : Value) (n : Nat) (xs : List Value) (hown : w.ownsRow 0 e 1 v n xs) (s : ByteArray) (h63 : n + s.size ≤ maxLen) (hbytes : n + s.size ≤ 140737488355328) :
    ∃ v' w', (Builtin.append_ #[t, u] ty #[v, .string s]).run P w = .ok v' w' ∧ w'.ownsRow 0 e 1 v' (n + s.size) (xs ++ Lib.strCells s) ∧ w.grownBy w' v.ownBlock ∧ (v' = .slice none 0 0 ↔ v = .slice none 0 0 ∧ s.size = 0) ∧
      ∀ g, v'.ownBlock = some g → v.ownBlock = some g ∨ w.heap.size ≤ g := by
  obtain ⟨v', w', hr, h1, h2, h3⟩ := Lib.run_append_own_string (P := P) w 0 t u ty e i ht hu hi hz hsize hby v n xs hown s h63 hbytes (Nat.zero_le _)
  refine ⟨v', w', hr, h1, h2, h3, ?_⟩
  have hxl : xs.length = n := by simpa using hown.1
  rcases hown.2 with ⟨rfl, rfl⟩ | ⟨g, cap, cur, rfl, hbg, hg, hnc, hcm, hcs, htake⟩
  · by_cases hm : s.size = 0
    · rw [h3.2 ⟨rfl, hm⟩]; intro g hg; simp [Value.ownBlock] at hg
    · have hr2 := run_append_nil_string (P := P) w t u ty e i (.int .u8 0) ht hu hi hz s (by omega) (by simp only [maxLen] at h63; omega) (by rw [hby]; omega)
      rw [hr] at hr2
      simp only [Result.ok.injEq] at hr2
      obtain ⟨rfl, _⟩ := hr2
      intro g hg
      simp only [Value.ownBlock, Option.some.injEq] at hg
      exact .inr (by rw [← hg]; exact Nat.le_refl _)
  · by_cases hroom : n + s.size ≤ cap
    · have hr2 := Lib.run_append_room_string (P := P) w t u ty e i ht hu hi hsize g n cap cur hg s hroom (by simp only [maxLen] at h63; omega)
      rw [hr] at hr2
      simp only [Result.ok.injEq] at hr2
      obtain ⟨rfl, _⟩ := hr2
      intro k hk
      exact .inl hk
    · have holds : ∀ j u, xs[j]? = some u → w.cell? ((⟨g, 0, none⟩ : Addr).add j) = some u := hown.cells (g := g) rfl
      have hr2 := Lib.run_append_grow_string (P := P) w t u ty e i (.int .u8 0) ht hu hi hz ⟨g, 0, none⟩ n cap xs (by rw [hsize]; simpa using hxl) holds s (by omega) (by simp only [maxLen] at h63; omega) (by rw [hby]; exact growslice_fits (by omega) (by omega))
      rw [hr] at hr2
      simp only [Result.ok.injEq] at hr2
      obtain ⟨rfl, _⟩ := hr2
      intro k hk
      simp only [Value.ownBlock, Option.some.injEq] at hk
      exact .inr (by rw [← hk]; exact Nat.le_refl _)
theorem wp_app_str {ops : Array Oper} {rest : List Oper} {o : Oper} {a : Act} {Q : Exit → Act → World → Prop} {w : World} (hgd : o.guard = none) (sl x : Operand) (t u : TypeId) (ho : o.op = .call { callee := .builtin .append, args := #[sl, x], argTypes := #[t, u] })
    (e : TypeId) (i : TypeInfo) (ht : P.underlying t = some (.slice e)) (hu : P.underlying u = some .string) (hi : P.info? e = some i) (hz : i.zero = some (.int .u8 0)) (hsize : i.size = 1) (hby : i.bytes = 1)
    (v : Value) (n : Nat) (xs : List Value) (hs : a.eval sl = v) (hown : w.ownsRow 0 e 1 v n xs) (s : ByteArray) (hx : a.eval x = .string s) (h63 : n + s.size ≤ maxLen) (hbytes : n + s.size ≤ 140737488355328)
    (h : ∀ v' w', w'.ownsRow 0 e 1 v' (n + s.size) (xs ++ Lib.strCells s) → w.grownBy w' v.ownBlock → (v' = .slice none 0 0 ↔ v = .slice none 0 0 ∧ s.size = 0) → (∀ g, v'.ownBlock = some g → v.ownBlock = some g ∨ w.heap.size ≤ g) → wpList P ops Q rest (a.put o.dst v') w') : wpList P ops Q (o :: rest) a w := by
  refine wpList_plain hgd fun K hK => ?_
  obtain ⟨v', w', hr, h2, h3, h4, h5⟩ := app_str (P := P) w t u o.type e i ht hu hi hz hsize hby v n xs hown s h63 hbytes
  unfold Oper.wp execOp
  simp only [ho, resolve, invoke, builtin, Sem.run_bind, Sem.run_pure, Result.andThen_ok, List.map_toArray, List.map_cons, List.map_nil, hs, hx, hr]
  exact hK _ _ (h v' w' h2 h3 h4 h5)
set_option maxHeartbeats 2000000 in
set_option maxRecDepth 100000 in
theorem ws_calls (L : Lays.n166 P ρ) (X : Builder.Extra P ρ) (b : Nat) (p row : Value) (bs : List Value) (s : ByteArray) (w : World) (hp : p = .pointer none ∨ p = .pointer (some ⟨b, 0, none⟩)) (hbk : w.heap[b]? = some (.cells #[p, row] (ρ.t 72) (0, 0)))
    (hown : w.ownsRow 0 (ρ.t 5) 1 row bs.length bs) (hne : row.ownBlock ≠ some b) (hlen : bs.length + s.size ≤ 140737488355328) :
    Calls P (ρ.f 166) #[.pointer (some ⟨b, 0, none⟩), .string s] w fun e w' => e = .returned (.tuple #[.int .i64 s.size, .nilIface]) ∧ ∃ row', w'.heap[b]? = some (.cells #[.pointer (some ⟨b, 0, none⟩), row'] (ρ.t 72) (0, 0)) ∧ w'.ownsRow 0 (ρ.t 5) 1 row' (bs.length + s.size) (bs ++ Lib.strCells s) ∧
      (∀ g, row'.ownBlock = some g → row.ownBlock = some g ∨ w.heap.size ≤ g) ∧ (row' = .slice none 0 0 ↔ row = .slice none 0 0 ∧ s.size = 0) ∧ w'.os = w.os ∧ w'.tape = w.tape ∧ w'.output = w.output ∧ w.heap.size ≤ w'.heap.size ∧ ∀ k, k < w.heap.size → k ≠ b → row.ownBlock ≠ some k → w'.heap[k]? = w.heap[k]? := by
  obtain ⟨i0, hi, hz0, hz1, hz2⟩ := info_parts X.infoByte
  have hlt : b < w.heap.size := (Array.getElem?_eq_some_iff.1 hbk).1
  have mixed := L.mixed
  have t72 := L.t72; have a72 := L.a72; have z72 := L.z72; have v72 := L.v72; have u72 := run_underlying L.t72
  have t70 := L.t70; have a70 := L.a70; have z70 := L.z70; have v70 := L.v70; have u70 := run_underlying L.t70
  have t37 := L.t37; have a37 := L.a37; have z37 := L.z37; have v37 := L.v37; have u37 := run_underlying L.t37
  have t3 := L.t3; have a3 := L.a3; have z3 := L.z3; have v3 := L.v3; have u3 := run_underlying L.t3
  have t9 := L.t9; have a9 := L.a9; have z9 := L.z9; have v9 := L.v9; have u9 := run_underlying L.t9
  have t4 := L.t4; have a4 := L.a4; have z4 := L.z4; have v4 := L.v4; have u4 := run_underlying L.t4
  have t164 := L.t164; have a164 := L.a164; have z164 := L.z164; have v164 := L.v164; have u164 := run_underlying L.t164
  have t5 := X.t5; have a5 := X.a5; have z5 := X.z5; have v5 := X.v5; have u5 := run_underlying X.t5
  have e240 : ∀ args w, (callFunc (ρ.f 240) args).run P w = .ok (.enter (ρ.f 240) args) w := enters_of L.f240 (by kernel_rfl) rfl
  -- copyCheck leaves the builder used, all else as it was
  have hcc : Calls P (ρ.f 240) #[.pointer (some ⟨b, 0, none⟩)] w fun e w1 => e = .returned (.tuple #[]) ∧ w1.heap[b]? = some (.cells #[.pointer (some ⟨b, 0, none⟩), row] (ρ.t 72) (0, 0)) ∧ w1.os = w.os ∧ w1.tape = w.tape ∧ w1.output = w.output ∧ w1.heap.size = w.heap.size ∧ ∀ k, k ≠ b → w1.heap[k]? = w.heap[k]? := by
    rcases hp with rfl | rfl
    · refine (Any.Builder_copyCheck_fresh { L with } X.toX72 b w (by rw [Lib.cell_of_heap hbk]; rfl) (by simp [World.shape?, hbk]) (Lib.frozen_of_heap hbk 0)).mono ?_
      rintro e w1 ⟨rfl, rfl⟩
      refine ⟨rfl, ?_, rfl, rfl, rfl, by simp [World.setCell], fun k hk => ?_⟩
      · simp [World.setCell, Array.getElem?_modify, hbk]
      · simp [World.setCell, Array.getElem?_modify, Ne.symm hk]
    · refine (Any.Builder_copyCheck_used { L with } X.toX72 b w (by rw [Lib.cell_of_heap hbk]; rfl)).mono ?_
      rintro e w1 ⟨rfl, rfl⟩
      exact ⟨rfl, hbk, rfl, rfl, rfl, rfl, fun _ _ => rfl⟩
  go_enter L.f166, Body.n166_ntmps ρ
  go_wp2_with (go_at_fn (ρ.f 240); refine hcc.mono ?_)
  rintro e w1 ⟨rfl, hb1, hos1, ht1, ho1, hs1, hk1⟩
  have c0 : w1.cell? ⟨b, 0, none⟩ = some (.pointer (some ⟨b, 0, none⟩)) := by rw [Lib.cell_of_heap hb1]; rfl
  have c1 : w1.cell? ⟨b, 1, none⟩ = some row := by rw [Lib.cell_of_heap hb1]; rfl
  have hown1 : w1.ownsRow 0 (ρ.t 5) 1 row bs.length bs := by
    refine ⟨hown.1, ?_⟩
    rcases hown.2 with h | ⟨g, cap, cur, rfl, h1, h2, h3⟩
    · exact .inl h
    · exact .inr ⟨g, cap, cur, rfl, h1, (hk1 g fun e => hne (by rw [e]; rfl)).trans h2, h3⟩
  go_wp2_with (at_builtin; refine wp_app_str rfl _ _ (ρ.t 37) (ρ.t 9) rfl (ρ.t 5) i0 L.t37 L.t9 hi hz0 hz1 hz2 _ _ _ rfl hown1 s rfl ?c3 ?c4 ?_)
  case c3 => unfold maxLen; omega
  case c4 => omega
  intro v' w2 hown' hgrow hiff hblk
  have hlt1 : b < w1.heap.size := by omega
  have hb2 : w2.heap[b]? = some (.cells #[.pointer (some ⟨b, 0, none⟩), row] (ρ.t 72) (0, 0)) := by
    rw [hgrow.block b hlt1 (fun e => hne e.symm)]; exact hb1
  have d0 : w2.cell? ⟨b, 0, none⟩ = some (.pointer (some ⟨b, 0, none⟩)) := by rw [Lib.cell_of_heap hb2]; rfl
  have d1 : w2.cell? ⟨b, 1, none⟩ = some row := by rw [Lib.cell_of_heap hb2]; rfl
  have f1 : w2.frozen? ⟨b, 1, none⟩ = false := Lib.frozen_of_heap hb2 1
  have hne' : v'.ownBlock ≠ some b := fun e => (hblk b e).elim hne fun h => by omega
  obtain ⟨ao, n', cap, rfl⟩ : ∃ ao n' cap, v' = .slice ao n' cap := by
    rcases hown'.2 with ⟨hv, _⟩ | ⟨g, cap, cur, hv, _⟩
    · exact ⟨_, _, _, hv⟩
    · exact ⟨_, _, _, hv⟩
  go_wp2
  go_ret2
  refine ⟨rfl, _, by simp [World.setCell, Array.getElem?_modify, hb2], ?_, fun g hg => ?_, ⟨fun h => ⟨(hiff.1 h).1, by simp [(hiff.1 h).2]⟩, fun h => hiff.2 ⟨h.1, by simpa using h.2⟩⟩, hgrow.os.trans hos1, hgrow.tape.trans ht1, hgrow.output.trans ho1, ?_, fun k hk hkb hkr => ?_⟩
  · refine ⟨hown'.1, ?_⟩
    rcases hown'.2 with h | ⟨g, cap, cur, hv, h1, h2, h3⟩
    · exact .inl h
    · refine .inr ⟨g, cap, cur, hv, h1, ?_, h3⟩
      rw [← h2]
      have : g ≠ b := fun e => hne' (by rw [hv, e]; rfl)
      simp [World.setCell, Array.getElem?_modify, Ne.symm this]
  · rcases hblk g hg with h | h
    · exact .inl h
    · exact .inr (by omega)
  · have := hgrow.size; simp [World.setCell]; omega
  · rw [← hk1 k hkb, ← hgrow.block k (by omega) (fun e => hkr e.symm)]
    simp [World.setCell, Array.getElem?_modify, Ne.symm hkb]
theorem writeString_ok (L : Lays.n166 P ρ) (X : Builder.Extra P ρ) (hf : ∃ fn, P.funcs[ρ.f 166]? = some fn ∧ fn.body.isNone = false ∧ (fn.name == "runtime.NumGoroutine") = false) : FnOK P (ρ.f 166) (wsSpec (ρ.t 72) (ρ.t 5)) where
  wf := rfl
  fn := hf
  run := by
    intro w I vals js x (z : List UInt8) hpv hnd hfree hI hA hz
    obtain ⟨j1, j2, v, r, rfl, rfl, ⟨hpc, hag⟩, j3, j4, v2, r2, rfl, rfl, ⟨⟨rfl, hc2⟩, hag2⟩, rfl, rfl⟩ := hpv
    obtain ⟨b, hc, hJ, p, row, hp, hbk, hown, hrow, hnil⟩ := hpc
    have hv : v = .pointer (some ⟨b, 0, none⟩) := one_of_cells hc (hag.resolve_left fun h => by cases h)
    have hv2 : v2 = .string ⟨x.2.1.toArray⟩ := one_of_cells hc2 (hag2.resolve_left fun h => by cases h)
    subst hv; subst hv2
    obtain ⟨hr, rfl⟩ := guard_some (show bldW x.1 x.2.1 = some z from hz)
    have hul : (u8s x.1).length = x.1.length := by simp [u8s]
    have hsz : (⟨x.2.1.toArray⟩ : ByteArray).size = x.2.1.length := by simp [ByteArray.size]
    refine (ws_calls L X b p row (u8s x.1) ⟨x.2.1.toArray⟩ w hp hbk (by rw [hul]; exact hown) (fun h => (hrow b h).1 rfl) (by rw [hul, hsz]; exact hr)).mono ?_
    rintro e w' ⟨rfl, row', h1, h2, h3, h4, hos, ht, ho, hs, hk⟩
    have hjs : ∀ k, k ∈ j1 ++ ([] ++ []) ↔ k ∈ j1 := fun k => by simp
    have hne' : row'.ownBlock ≠ some b := fun e => (h3 b e).elim (fun h => (hrow b h).1 rfl) fun h => by have := (hfree b ((hjs b).2 hJ)).2; omega
    refine ⟨_, rfl, I, b :: row'.ownBlock.toList, [], ⟨b :: row'.ownBlock.toList, [], _, _, (List.append_nil _).symm, rfl, ⟨b, rfl, List.mem_cons_self, _, row', .inr rfl, h1, ?_, fun k hk' => ⟨fun e => hne' (e ▸ hk'), List.mem_cons_of_mem _ (by rw [hk']; exact List.mem_singleton.2 rfl)⟩, fun he => ?_⟩, [], [], _, _, rfl, rfl, rfl, rfl⟩, ⟨[.int .i64 (⟨x.2.1.toArray⟩ : ByteArray).size, .nilIface], ⟨[], [], _, _, rfl, rfl, ⟨rfl, .inl rfl⟩, [], [], _, _, rfl, rfl, ⟨rfl, .inl rfl⟩, rfl, rfl⟩, rfl⟩, ?_, ?_, fun _ h => h, fun b hb => ⟨Nat.lt_of_lt_of_le (hI b hb) hs, .inl hb⟩, hos, ht, ⟨ho, fun h => by cases h⟩, hs, fun k hk1 hk2 => hk k hk1 (fun e => hk2 ((hjs k).2 (e ▸ hJ))) fun e => hk2 ((hjs k).2 (hrow k e).2)⟩
    · have e1 : u8s (x.1 ++ x.2.1) = u8s x.1 ++ Lib.strCells ⟨x.2.1.toArray⟩ := by rw [str_u8s]; simp [u8s]
      show w'.ownsRow 0 (ρ.t 5) 1 row' (x.1 ++ x.2.1).length (u8s (x.1 ++ x.2.1))
      rw [e1, List.length_append, ← hul, ← hsz]; exact h2
    · have he : x.1 ++ x.2.1 = [] := he
      rw [List.append_eq_nil_iff] at he
      exact h4.2 ⟨hnil he.1, by rw [hsz, he.2]; rfl⟩
    · rw [List.append_nil]
      cases hrb : row'.ownBlock with
      | none => simp
      | some g => simp; exact fun e => hne' (by rw [hrb, e])
    · intro k hk'
      rw [List.append_nil] at hk'
      rcases List.mem_cons.1 hk' with rfl | hk'
      · have := hfree k ((hjs k).2 hJ)
        exact ⟨this.1, by omega, .inl ((hjs k).2 hJ)⟩
      · have hk' : row'.ownBlock = some k := by simpa using hk'
        have hlt : k < w'.heap.size := by
          rcases h2.2 with ⟨rfl, _⟩ | ⟨g, cap, cur, rfl, _, hg, _⟩
          · simp [Value.ownBlock] at hk'
          · simp only [Value.ownBlock, Option.some.injEq] at hk'
            subst hk'
            exact (Array.getElem?_eq_some_iff.1 hg).1
        rcases h3 k hk' with h | h
        · have := hfree k ((hjs k).2 (hrow k h).2)
          exact ⟨this.1, hlt, .inl ((hjs k).2 (hrow k h).2)⟩
        · exact ⟨fun hI' => by have := hI k hI'; omega, hlt, .inr h⟩
set_option maxHeartbeats 2000000 in
set_option maxRecDepth 100000 in
theorem str_nil (L : Lays.n169 P ρ) (X : Builder.Extra P ρ) (b : Nat) (p : Value) (w : World) (hbk : w.heap[b]? = some (.cells #[p, .slice none 0 0] (ρ.t 72) (0, 0))) :
    Calls P (ρ.f 169) #[.pointer (some ⟨b, 0, none⟩)] w fun e w' => e = .returned (.string ⟨#[]⟩) ∧ w' = w.drew := by
  have hUS := Any.unsafeString_none L X
  have c1 : w.drew.cell? ⟨b, 1, none⟩ = some (.slice none 0 0) := by
    have : w.drew.heap[b]? = some (.cells #[p, .slice none 0 0] (ρ.t 72) (0, 0)) := hbk
    rw [Lib.cell_of_heap this]; rfl
  have hSD : (Builtin.unsafeSliceData_ #[(ρ.t 37)] (ρ.t 127) #[.slice none 0 0]).run P w.drew = .ok (.pointer none) w.drew := rfl
  have mixed := L.mixed
  have t72 := L.t72; have a72 := L.a72; have z72 := L.z72; have v72 := L.v72; have u72 := run_underlying L.t72
  have t70 := L.t70; have a70 := L.a70; have z70 := L.z70; have v70 := L.v70; have u70 := run_underlying L.t70
  have t37 := L.t37; have a37 := L.a37; have z37 := L.z37; have v37 := L.v37; have u37 := run_underlying L.t37
  have t127 := L.t127; have a127 := L.a127; have z127 := L.z127; have v127 := L.v127; have u127 := run_underlying L.t127
  have t3 := L.t3; have a3 := L.a3; have z3 := L.z3; have v3 := L.v3; have u3 := run_underlying L.t3
  have t9 := L.t9; have a9 := L.a9; have z9 := L.z9; have v9 := L.v9; have u9 := run_underlying L.t9
  have t5 := X.t5; have a5 := X.a5; have z5 := X.z5; have v5 := X.v5; have u5 := run_underlying X.t5
  go_enter L.f169, Body.n169_ntmps ρ
  go_wp2
  go_region_o
  all_goals (go_wp2; go_ret; exact ⟨rfl, rfl⟩)
set_option maxHeartbeats 2000000 in
set_option maxRecDepth 100000 in
theorem str_some (L : Lays.n169 P ρ) (X : Builder.Extra P ρ) (b g cap : Nat) (cur : Array Value) (p : Value) (l : List UInt8) (w : World) (h0 : l ≠ []) (hbk : w.heap[b]? = some (.cells #[p, .slice (some ⟨g, 0, none⟩) l.length cap] (ρ.t 72) (0, 0)))
    (hown : w.ownsRow 0 (ρ.t 5) 1 (.slice (some ⟨g, 0, none⟩) l.length cap) l.length (Lib.byteCells l)) (hg : w.heap[g]? = some (.cells cur (ρ.t 5) (0, 0))) (hnc : l.length ≤ cap) (hcm : cap ≤ maxLen) (hcs : cur.size = cap * 1) :
    Calls P (ρ.f 169) #[.pointer (some ⟨b, 0, none⟩)] w fun e w' => e = .returned (.string ⟨l.toArray⟩) ∧ w' = w.drew.freeze ⟨g, 0, none⟩ l.length := by
  have hl0 : l.length ≠ 0 := by simpa using h0
  have c1 : w.drew.cell? ⟨b, 1, none⟩ = some (.slice (some ⟨g, 0, none⟩) l.length cap) := by
    have : w.drew.heap[b]? = some (.cells #[p, .slice (some ⟨g, 0, none⟩) l.length cap] (ρ.t 72) (0, 0)) := hbk
    rw [Lib.cell_of_heap this]; rfl
  have hSD : (Builtin.unsafeSliceData_ #[(ρ.t 37)] (ρ.t 127) #[.slice (some ⟨g, 0, none⟩) l.length cap]).run P w.drew = .ok (.pointer (some ⟨g, 0, none⟩)) w.drew :=
    Lib.run_unsafeSliceData_row _ _ _ _ _ _ (by omega)
  have hUS : (Builtin.unsafeString_ #[(ρ.t 127), (ρ.t 3)] (ρ.t 9) #[.pointer (some ⟨g, 0, none⟩), .int .i64 l.length]).run P w.drew = .ok (.string ⟨l.toArray⟩) (w.drew.freeze ⟨g, 0, none⟩ l.length) := by
    refine Lib.run_unsafeString_row w.drew (ρ.t 127) (ρ.t 3) (ρ.t 9) (ρ.t 5) L.t127 X.cellsByte g cur.size (by have hg' : w.drew.heap[g]? = some (.cells cur (ρ.t 5) (0, 0)) := hg; simp [World.shape?, hg']) l h0 (by omega) (by unfold maxLen at hcm; omega) ?_
    intro j x hx
    exact hown.cells (g := g) rfl j (.int .u8 x.toNat) (by simp [Lib.byteCells, hx])
  have mixed := L.mixed
  have t72 := L.t72; have a72 := L.a72; have z72 := L.z72; have v72 := L.v72; have u72 := run_underlying L.t72
  have t70 := L.t70; have a70 := L.a70; have z70 := L.z70; have v70 := L.v70; have u70 := run_underlying L.t70
  have t37 := L.t37; have a37 := L.a37; have z37 := L.z37; have v37 := L.v37; have u37 := run_underlying L.t37
  have t127 := L.t127; have a127 := L.a127; have z127 := L.z127; have v127 := L.v127; have u127 := run_underlying L.t127
  have t3 := L.t3; have a3 := L.a3; have z3 := L.z3; have v3 := L.v3; have u3 := run_underlying L.t3
  have t9 := L.t9; have a9 := L.a9; have z9 := L.z9; have v9 := L.v9; have u9 := run_underlying L.t9
  have t5 := X.t5; have a5 := X.a5; have z5 := X.z5; have v5 := X.v5; have u5 := run_underlying X.t5
  go_enter L.f169, Body.n169_ntmps ρ
  go_wp2
  go_region_o
  all_goals (go_wp2; go_ret; exact ⟨rfl, rfl⟩)
theorem freeze_heap (w : World) (a : Addr) (n k : Nat) (h : k ≠ a.block) : (w.freeze a n).heap[k]? = w.heap[k]? := by
  unfold World.freeze
  split
  · rfl
  · show (w.heap.modify a.block _)[k]? = _
    rw [Array.getElem?_modify, if_neg (Ne.symm h)]
theorem freeze_size (w : World) (a : Addr) (n : Nat) : (w.freeze a n).heap.size = w.heap.size ∧ (w.freeze a n).os = w.os ∧ (w.freeze a n).tape = w.tape ∧ (w.freeze a n).output = w.output := by
  unfold World.freeze
  split
  · exact ⟨rfl, rfl, rfl, rfl⟩
  · exact ⟨Array.size_modify .., rfl, rfl, rfl⟩
theorem builderString_ok (L : Lays.n169 P ρ) (X : Builder.Extra P ρ) (hf : ∃ fn, P.funcs[ρ.f 169]? = some fn ∧ fn.body.isNone = false ∧ (fn.name == "runtime.NumGoroutine") = false) : FnOK P (ρ.f 169) (bsSpec (ρ.t 72) (ρ.t 5)) where
  wf := rfl
  fn := hf
  run := by
    intro w I vals js x (z : List UInt8) hpv hnd hfree hI hA hz
    obtain ⟨j1, j2, v, r, rfl, rfl, ⟨hpc, hag⟩, rfl, rfl⟩ := hpv
    obtain ⟨b, hc, hJ, p, row, hp, hbk, hown, hrow, hnil⟩ := hpc
    have hv : v = .pointer (some ⟨b, 0, none⟩) := one_of_cells hc (hag.resolve_left fun h => by cases h)
    subst hv
    have hz : x.1 = z := Option.some.inj (show some x.1 = some z from hz)
    subst hz
    have fin : ∀ w', w'.os = w.os → w'.tape = w.tape → w'.output = w.output → w.heap.size ≤ w'.heap.size → (∀ k, k < w.heap.size → row.ownBlock ≠ some k → w'.heap[k]? = w.heap[k]?) → ∃ rv, Ending.returned (.string ⟨x.1.toArray⟩) = .returned rv ∧ Back (bsSpec (ρ.t 72) (ρ.t 5)) w I (j1 ++ []) [.pointer (some ⟨b, 0, none⟩)] ((bsSpec (ρ.t 72) (ρ.t 5)).unp x.1) rv w' := fun w' h1 h2 h3 h4 h5 =>
      ⟨_, rfl, I, [], [], ⟨[], [], _, _, rfl, rfl, rfl, rfl⟩, ⟨[.string ⟨x.1.toArray⟩], ⟨[], [], _, _, rfl, rfl, ⟨⟨rfl, rfl⟩, .inr rfl⟩, rfl, rfl⟩, rfl⟩, .nil, by simp, fun _ h => h, fun b hb => ⟨Nat.lt_of_lt_of_le (hI b hb) h4, .inl hb⟩, h1, h2, ⟨h3, fun h => by cases h⟩, h4, fun k hk hkj => h5 k hk fun e => hkj (by simp [(hrow k e).2])⟩
    by_cases hne : x.1 = []
    · have hr := hnil hne
      subst hr
      rw [hne] at fin ⊢
      refine (str_nil L X b p w hbk).mono ?_
      rintro e w' ⟨rfl, rfl⟩
      exact fin w.drew rfl rfl rfl (Nat.le_refl _) fun _ _ _ => rfl
    · rcases hown.2 with ⟨_, h0⟩ | ⟨g, cap, cur, rfl, _, hg, hnc, hcm, hcs, _⟩
      · exact absurd (List.eq_nil_of_length_eq_zero h0) hne
      · refine (str_some L X b g cap cur p x.1 w hne hbk hown hg hnc hcm hcs).mono ?_
        rintro e w' ⟨rfl, rfl⟩
        have hz := freeze_size w.drew ⟨g, 0, none⟩ x.1.length
        refine fin _ hz.2.1 hz.2.2.1 hz.2.2.2 (Nat.le_of_eq hz.1.symm) fun k hk hkr => ?_
        rw [freeze_heap _ _ _ _ (fun e => hkr (by rw [e]; rfl))]
        rfl
end
end Tr
