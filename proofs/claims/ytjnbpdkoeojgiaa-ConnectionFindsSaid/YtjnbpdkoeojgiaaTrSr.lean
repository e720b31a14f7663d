/- A range over a map that is empty. Conditions: the table of types is the program's. -/
import Derived.Test.YtjnbpdkoeojgiaaTrS
import Derived.Maps.RangeRun
namespace Tr
open Go

section ops
variable {P : Program} {E : Env} {B : Base} {H : AH} {w : World} {g : Gh} {ow : Nat → Nat → Prop} {nid : Nat} {a : Act} {F : Nat → AV} {v : AV} {patch : Patch} {rd : List Nat} {o : Oper}

theorem aop_range {T : TypeId} {x : Operand} (hT : TypesOk P E) (hR : RH B H w g ow) (hF : Fr w g F a.tmps) (hk : ∀ id, g.K id → id < nid ∨ nid + idStep ≤ id) (ho : o.op = .range T x)
    (h : (aop E nid o.op o.type (aev F)).run H [] = some ((v, patch), rd)) : Did B (patchH H patch) w g nid v ((execOp a.eval o).run P w) := by
  rw [ho] at h
  simp only [aop, run_opt] at h
  obtain ⟨m, hm, h⟩ := h
  obtain ⟨K, V, hu, hK, hV⟩ := hT.mty T m hm
  split at h
  · rename_i id hy
    rw [run_getH] at h
    split at h
    · rename_i kt vt m hH
      simp only [run_opt, run_ret, Prod.mk.injEq] at h
      obtain ⟨_, hg, ⟨rfl, rfl⟩, _⟩ := h
      have hg := guardB_true hg
      rw [List.isEmpty_iff] at hg
      subst hg
      obtain ⟨_, b, hb, he⟩ := (hy ▸ hF.eval x).mp
      obtain ⟨_, b', es, clock, hb', hob, hh, hfa⟩ := hR.objs id _ hH
      rw [hb] at hb'; cases hb'
      have hes : es = #[] := by
        cases hl : es.toList with
        | nil => simpa using hl
        | cons e l => rw [hl] at hfa; exact hfa.elim
      subst hes
      have hrun : (execOp a.eval o).run P w = .ok (.value (.pointer (some ⟨w.heap.size, 0, none⟩))) (w.alloc (.mapIter (some b) clock #[] clock)) := by
        simp only [execOp, ho, Sem.run_bind, he, run_range_map w T K V b #[] clock hu hh, Result.andThen_ok]; rfl
      have hlt : ∀ k, k < w.heap.size → (w.alloc (.mapIter (some b) clock #[] clock)).heap[k]? = w.heap[k]? := fun k hk => by
        show (w.heap.push _)[k]? = _; rw [Array.getElem?_push, if_neg (by omega)]
      have hsz : (w.alloc (.mapIter (some b) clock #[] clock)).heap.size = w.heap.size + 1 := Array.size_push ..
      obtain ⟨p1, p2, p3⟩ := hR.sep id b (by rw [hH]; simp) hob
      simp only [patchH]
      refine ⟨_, _, g.add nid .ref (some w.heap.size) undef, addOw ow nid (fun k => k = w.heap.size ∨ k = b), .inl hrun, ?_, Gh.le_add (fresh hk) _ _ _, fun k hk' => hlt k (hR.ilt k hk'), ?_, ?_⟩
      · refine (hR.drop id).add (fresh hk) hlt (by omega) rfl rfl rfl (fun k hkj => ?_) ?_
        · rcases hkj with rfl | rfl
          · refine ⟨fun hI => absurd (hR.ilt _ hI) (by omega), by omega, .inr hR.size, fun id' h1 h2 => ?_⟩
            have := (hR.sep id' _ (updH_none_ne h1).2 h2).2.1
            omega
          · refine ⟨p1, by omega, p3, fun id' h1 h2 => ?_⟩
            obtain ⟨h3, h4⟩ := updH_none_ne h1
            exact h3 (hR.dist id' id _ h4 (by rw [hH]; simp) h2 hob)
        · exact ⟨w.heap.size, b, clock, by simp [Gh.add], by simp [Gh.add], .inl rfl, .inr rfl, alloc_new _ _, (hlt b p2).trans hh⟩
      · refine VR_one ?_ rfl rfl
        simp only [CV]
        exact ⟨.inl rfl, 0, .ref, w.heap.size, by simp [Gh.add, offT_nil], by simp [Gh.add], rfl⟩
      · intro id h
        rcases h with rfl | h
        · exact .inr ⟨Nat.le_refl _, by unfold idStep; omega⟩
        · exact .inl h
    · simp [run_fail] at h
  · simp [run_fail] at h

theorem aop_next {it : Operand} (hR : RH B H w g ow) (hF : Fr w g F a.tmps) (ho : o.op = .next it false)
    (h : (aop E nid o.op o.type (aev F)).run H [] = some ((v, patch), rd)) : Did B (patchH H patch) w g nid v ((execOp a.eval o).run P w) := by
  rw [ho] at h
  simp only [aop] at h
  split at h
  · rename_i id hy
    rw [run_getH] at h
    split at h
    · rename_i hH
      simp only [run_ret, Prod.mk.injEq] at h
      obtain ⟨⟨rfl, rfl⟩, _⟩ := h
      obtain ⟨_, o', t, b, h1, h2, he⟩ := (hy ▸ hF.eval it).ptr
      obtain ⟨_, b', mb, clock, hty, hb', _, _, hh, hm⟩ := hR.objs id _ hH
      rw [offT_nil] at h1
      cases h1
      rw [h2] at hb'; cases hb'
      rcases run_next_at (P := P) w o.type b mb clock clock #[] #[] clock hh hm (by simp) (Nat.le_refl _) with ⟨_, hrun⟩ | ⟨e, he', _⟩
      · refine Did.pure hR (val := .tuple #[.bool false]) ?_ ⟨[.bool false], rfl, .bool false, [], rfl, ⟨?_, ?_⟩, rfl⟩
        · simp only [execOp, ho, Sem.run_bind, he, hrun, Result.andThen_ok]; rfl
        · simp only [CV]; rfl
        · exact .inr rfl
      · simp [leftOf] at he'
    · simp [run_fail] at h
  · simp [run_fail] at h

end ops
end Tr
