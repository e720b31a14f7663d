/- From a function's spec to the step of a row that lists tables of the library. Conditions: those of the theorem. -/
import Derived.Test.YtbjnllepfnbaoaaGreatDoorTsG
import Derived.Lay
import Derived.LaidLaws
import Derived.SevenTiedAt
import Derived.Stop.LaidErr
import Derived.MakeChecks
namespace Tr
open Go Go.RowKit Go.ChangeShapes
section
variable {H : Type} {enc : TypeId × Value → H}
theorem amb_of {P : Program} {W : World} (h : ∀ b, P.globalNamed "internal/strconv.uint64pow10" = some b → Lib.TabIs P W "internal/strconv.uint64pow10" .u64 Lib.pow10Tab) : Amb P W (· ∈ []) := by
  intro b hb
  have ht := h b hb
  refine ⟨?_, by simp, ht⟩
  unfold Lib.TabIs World.var? at ht
  rw [hb] at ht
  simp only [Option.bind_some] at ht
  rcases Nat.lt_or_ge b W.heap.size with h' | h'
  · exact h'
  · rw [Array.getElem?_eq_none h'] at ht; cases ht
theorem tab_of {P : Program} {W : World} {t e : TypeId} {d : DataW Unit} {rest : List (String × DataW Unit)} (hty : ((P.globalNamed "internal/strconv.uint64pow10").bind fun g => (P.globals[g]?).map (·.type)) = some t) (ht : P.underlying t = some (.array 20 e)) (he : P.underlying e = some (.int .u64))
    (hce : P.cellsOf e = 1) (hct : P.cellsOf t = 20) (hd : d = Lib.tabData .u64 Lib.pow10Tab) (h : laidMet P (("internal/strconv.uint64pow10", d) :: rest) W) : Lib.TabIs P W "internal/strconv.uint64pow10" .u64 Lib.pow10Tab := by
  rw [Option.bind_eq_some_iff] at hty
  obtain ⟨g, hg, hgt⟩ := hty
  subst hd
  exact Lib.tabIs_of_head hg hgt ht he hce hct h
theorem law_lifted_laid {C : Checked} {os : Os} {f : FuncId} {fn : Func} {s : ChangeSpec} {apart : Bool} {S : Spec} {θ : TypeId → Option Ty} {tb : TypeId} (laid : List (String × DataW Unit))
    (own : ownKnob C.prog.godebug = none) (started : os.Started) (noInit : C.prog.inits.idxOf? f = none) (hfn : C.prog.funcs[f]? = some fn)
    (witness : ∃ (w : World) (tape : Tape) (i : Input), w.os = os ∧ (w.forCall tape i).Shaped C.prog ∧ i.vars = [] ∧ Input.okWide C.prog (w.forCall tape i) .any w.heap.size f i ∧
      ((s.pre enc C.prog fn [] apart (w.forCall tape i).memory i.args ∧ laidMetH C.prog laid (w.forCall tape i).memory) ∧ sizedMet enc C.prog fn (OpenSpec.ofChange s) apart (w.forCall tape i).memory i.args) ∧ Assume.holds {} C.prog (lone (Frame.enter C.prog f i.args .normal) [] (w.forCall tape i)))
    (hl : laidOutB C.prog = true) (hread : (fn.params.toList.all fun t => C.prog.readableRec t && decide (t < C.prog.types.size)) = true)
    (hvars : s.vars = []) (hspec : ∀ ds : List (DataW H), ds.length = fn.params.toList.length → s.fn H ds = { results := [.lit (.bool true)], args := ds })
    (hres : fn.resultTypes = #[tb]) (htb : C.prog.underlying tb = some .bool)
    (hF : FnOK C.prog f S) (hθ : ∀ T t, θ T = some t → TOk C.prog θ T t) (hargs : argsOk θ S.args fn.params.toList = true)
    (htab : ∀ W, laidMetH C.prog laid W → ∀ b, C.prog.globalNamed "internal/strconv.uint64pow10" = some b → Lib.TabIs C.prog W "internal/strconv.uint64pow10" .u64 Lib.pow10Tab)
    (hlaw : ∀ x, GoodPs S.args x → ∃ z, S.f x = some z ∧ ∀ w I js rv, RV w I S.res (S.unp z).2 js rv → rv = .bool true) :
    ReturnsInHanded {} C os f .any (fun w args => (s.pre enc C.prog fn [] apart w args ∧ laidMetH C.prog laid w) ∧ sizedMet enc C.prog fn (OpenSpec.ofChange s) apart w args) (s.post enc C.prog fn apart true false false) := by
  refine returnsInHanded_of_change_and (C := C) (X := fun w _ => laidMetH C.prog laid w) (fun _ _ _ hh h => h.of_heap hh) own started noInit hfn witness ?_
  intro W base args ds gs before hval hW _ _ hL _
  have hW' := hW
  have hlt := hW.lt
  obtain ⟨p, q, hA, hV, rfl, hfz, hnd⟩ := hW
  have hgs : gs = [] ∧ q = [] := by
    rw [hvars] at hV
    cases gs with
    | nil => exact ⟨rfl, hV⟩
    | cons g gs => simp [DataW.TrodVars] at hV
  obtain ⟨rfl, rfl⟩ := hgs
  obtain ⟨x, hx, hg⟩ := pvs_of_trod (enc := enc) hθ S.args fn.params.toList args.toList ds p hargs hA (fun j t v ht hv => ⟨base, hval j t v (by simpa using ht) (by simpa using hv)⟩)
  obtain ⟨z, hz, hrv⟩ := hlaw x hg
  have hcall := hF.run W (fun b => b < W.heap.size) args.toList [] x z hx .nil (by simp) (fun _ h => h) (fun _ => amb_of (htab W hL)) hz
  simp only [Array.toArray_toList] at hcall
  refine hcall.mono fun e W' h => ?_
  obtain ⟨rv, rfl, I', jo, jr, _, hR, _, _, _, _, hos, htape, hout, hsize, hkept⟩ := h
  have hrv' := hrv _ _ _ _ hR
  subst hrv'
  have hb : Below W.heap.size W W' := ⟨hos, htape, hout.out, hsize, fun k hk => hkept k hk (by simp)⟩
  have hsp := hspec (ds ++ []) (by rw [List.append_nil]; exact trodAll_len _ _ _ _ hA)
  have hrd : ∀ t ∈ fn.params.toList, C.prog.readableRec t = true ∧ t < C.prog.types.size := by
    intro t ht
    have := List.all_eq_true.1 hread t ht
    simpa using this
  refine ⟨_, rfl, post_of_below (pa := p) (pv := []) hW' (fun b sp hd => ?_) (fun sp hs => ?_) (fun sp hs => ?_) rfl hb ?_⟩
  · rw [hsp, hres]
    exact trodAll_cons_mk (p := []) (p' := []) ⟨1, by simp [DataW.trod, htb, Value.cells]⟩ rfl
  · rw [hsp]
    simp only [List.append_nil] at hs ⊢
    exact trodAll_below hl hb sp _ _ _ _ hrd hA (by simpa using hlt) hs
  · rw [hsp, hvars]
    rfl
  · intro j t r hj hr
    rw [hres] at hj hr
    match j, hj, hr with
    | 0, hj, hr =>
      simp [Value.resultList] at hj hr
      subst hj; subst hr
      simp [Value.okWide, htb, Cell.okWide, Cell.ok]
    | j + 1, hj, _ => simp at hj
end
end Tr
