/- All operations together: a step of the abstract machine is a step of the model. Conditions: the table of types is the program's, the specs are true. -/
import Derived.Test.YtckebckjnfcniaaGreatTrX
import Derived.Test.YtckebckjnfcniaaGreatTrSc
import Derived.Test.YtckebckjnfcniaaGreatTrSr
namespace Tr
open Go
def Zli (P:Program) (B:ZbU) (H' :AH) (w:World) (g:Gh) (nid:Nat) (v:AV) (o:Oper) (a:Act):Prop:=
 ∀ (next:Act→World→Prop) (Q:Exit→Act→World→Prop),
  (∀val w' g' ow',RH B H' w' g' ow' →g.Le g' →Za9 g.I w w' →VR w' g' v val→(∀id,g'.K id→g.K id∨(nid≤id∧id<nid+ZaD))→next (a.put o.dst val) w')→o.wp P a w next Q
section ops
variable {P:Program} {E:Env} {B:ZbU} {H:AH} {w:World} {g:Gh} {ow:Nat→Nat→Prop} {nid:Nat} {a:Act} {F:Nat→AV} {v:AV} {patch:Zbe} {rd:List Nat} {o:Oper}
theorem Zli.of_did {H' :AH} (h:Did B H' w g nid v ((execOp a.eval o).run P w)):Zli P B H' w g nid v o a:=by
 intro next Q hn
 obtain⟨val,w',g',ow',hr,h1,h2,h3,h4,h5⟩:=h
 have:=hn val w' g' ow' h1 h2 h3 h4 h5
 unfold Oper.wp
 rcases hr with hr| ⟨hr,rfl⟩
 ·rw[hr];exact this
 ·rw[hr];exact this
structure Zb5 (P:Program) (E:Env) (B:ZbU):Prop where
 ok: ∀f, ∀S∈E.specs f,ZaV P f S
 amb:B.pl=false→Amb P B.w0 B.own0
 pl:B.pl=true→ ∀f, ∀S∈E.specs f,S.pl=true
theorem ZbE {fns:List FuncId} : ∀ {l:List Spec} {S:Spec},S∈Zch fns l→S∈l∧S.fns=fns
 | [],_,h=>by simp [Zch] at h
 |T::l,S,h=>by
  simp only[Zch] at h
  cases hb:T.fns==fns with
  |true=>
   rw[hb] at h
   simp only[cond_true] at h
   rcases List.mem_cons.1 h with rfl|h
   ·exact⟨by simp,by simpa using hb⟩
   ·exact⟨List.mem_cons_of_mem _ (ZbE h).1,(ZbE h).2⟩
  |false=>rw[hb] at h;simp only[cond_false] at h;exact⟨List.mem_cons_of_mem _ (ZbE h).1,(ZbE h).2⟩
theorem ZlW: ∀ (xs:List Operand),Fr w g F a.tmps→ZjF (xs.map (aev F))=true→VRs w g (AVs.ofList (xs.map (aev F))) (xs.map a.eval)
 | [],_,_=>rfl
 |x::l,hF,h=>by
  have h2: (∀m,aev F x≠ .tup m)∧ZjF (l.map (aev F))=true:=by
   simp only[List.map_cons] at h
   cases hx:aev F x<;>rw[hx] at h<;>simp [ZjF] at h<;>exact⟨by simp,by simpa using h⟩
  exact⟨a.eval x,l.map a.eval,rfl,(hF.eval x).to1 h2.1,ZlW l hF h2.2⟩
theorem ZnC: ∀ {l m:AVs} {vs us:List Value},VRs w g l vs→VRs w g m us→VRs w g (l.app m) (vs++us)
 | .nil,_,_,_,h,h' =>by simp only[VRs] at h;subst h;exact h'
 | .cons _ _,_,_,_,h,h' =>by
  obtain⟨v,r,rfl,h1,h2⟩:=h
  exact⟨v,r++_,rfl,h1,ZnC h2 h'⟩
theorem Zjh {f:FuncId} {S:Spec} (hS:ZaV P f S) (args:Array Value) (w:World): (callFunc f args).run P w= .ok (.enter f args) w:=by
 obtain⟨fn,h1,h2,h3⟩:=hS.fn
 simp only[callFunc,Sem.run_bind,run_program,Result.andThen_ok,h1,h3,h2,if_false,Bool.false_eq_true,Sem.run_pure]
theorem Zn3 {c:Call} {fo:Operand} (hS:Zb5 P E B) (hR:RH B H w g ow) (hF:Fr w g F a.tmps) (hk: ∀id,g.K id→id<nid∨nid+ZaD≤id) (ho:o.op= .call c) (hc:c.callee= .value fo)
  (h: (aop E nid o.op o.type (aev F)).run H []=some ((v,patch),rd)):Zli P B (Zae H patch) w g nid v o a:=by
 rw[ho] at h
 simp only[aop,hc] at h
 split at h
 ·rename_i f caps hf
  simp only[Zak,Zaa,and_false,false_or,Bool.not_eq_false',Bool.and_eq_true] at h
  obtain⟨⟨hcap,hnt⟩,h⟩:=h
  have hfv:=hF.eval fo
  rw[hf] at hfv
  obtain⟨cc,hfv,hcc⟩:=hfv.fn
  have hv:=ZnC (ZlW c.args.toList hF hnt) (ZhM caps cc hcap hcc)
  have hsp: ∀S∈Zch (Zod ((AVs.ofList (c.args.toList.map (aev F))).app caps)) (E.specs f),ZaV P f S∧(B.pl=true→S.pl=true):=fun S h=>⟨hS.ok f S (ZbE h).1,fun hb=>hS.pl hb f S (ZbE h).1⟩
  obtain⟨S,hSf⟩: ∃S,ZaV P f S:=by
   cases hfs:Zch (Zod ((AVs.ofList (c.args.toList.map (aev F))).app caps)) (E.specs f) with
   |nil=>rw[hfs] at h;simp [Zev,Zaa] at h
   |cons S l=>exact⟨S,(hsp S (by rw[hfs];simp)).1⟩
  have hcall:=ZgA hS.amb hR hk hv _ hsp h
  intro next Q hn
  unfold Oper.wp
  have hrun: (execOp a.eval o).run P w= .ok (.enter f (c.args.toList.map a.eval++cc).toArray) w:=by
   simp only[execOp,ho,resolve,hc,Deferred.ofValue,hfv,Sem.run_bind,Sem.run_pure,Result.andThen_ok,invoke]
   rw[Zjh hSf]
   congr 2
   rw[←Array.toList_inj];simp
  rw[hrun,Oper.upon_enter]
  refine hcall.mono ?_
  rintro e w' ⟨rv,g',ow',rfl,h1,h2,h3,h4,h5⟩
  exact hn rv w' g' ow' h1 h2 h3 h4 h5
 ·simp [Zaa] at h
theorem Zsl (hT:Zaw P E) (hS:Zb5 P E B) (hR:RH B H w g ow) (hF:Fr w g F a.tmps) (hk: ∀id,g.K id→id<nid∨nid+ZaD≤id)
  (h: (aop E nid o.op o.type (aev F)).run H []=some ((v,patch),rd)):Zli P B (Zae H patch) w g nid v o a:=by
 cases ho:o.op with
 |move x=>exact .of_did (ZlE hR hF (.inl ho) h)
 |assign x=>exact .of_did (ZlE hR hF (.inr ho) h)
 |pick c x y=>exact .of_did (ZpZ hR hF ho h)
 |alloc T=>exact .of_did (Zpf hT hR hk ho h)
 |box T x=>exact .of_did (Zrh hR hF hk ho h)
 |build T ps=>exact .of_did (Zok hT hR hF ho h)
 |buildSlice T n ps=>exact .of_did (Zhz hT hR hF hk ho h)
 |load T x=>exact .of_did (Zqa hT hR hF ho h)
 |store T x y=>exact .of_did (Zon hT hR hF ho h)
 |nilCheck x=>exact .of_did (Zjq hR hF ho h)
 |binOp op T x y T' =>exact .of_did (ZoA hT hR hF ho h)
 |unOp op T x=>exact .of_did (ZqA hR hF ho h)
 |convert S T x=>exact .of_did (ZkR hT hR hF ho h)
 |makeFunc fn first caps=>
  cases fn with
  |func f=>exact .of_did (ZjR hR hF ho h)
  |_=>rw[ho] at h;simp [aop,Zaa] at h
 |makeMap T r=>exact .of_did (Zlc hT hR hF hk ho h)
 |makeSlice T l c=>exact .of_did (ZiN hT hR hF hk ho h)
 |slice T x lo hi mx=>
  cases mx with
  |none=>exact .of_did (ZnK hT hR hF ho h)
  |some m=>cases hi with
   |none=>rw[ho] at h;simp [aop,Zaa] at h
   |some hi=>exact .of_did (Zm6 hT hR hF ho h)
 |fieldAddr T x f=>exact .of_did (Ziy hT hR hF ho h)
 |field T x f=>exact .of_did (Znz hT hR hF ho h)
 |indexAddr T x i=>exact .of_did (Zin hT hR hF ho h)
 |index T x i=>exact .of_did (Zou hT hR hF ho h)
 |lookup T m k ok=>exact .of_did (ZmC hT hR hF ho h)
 |mapUpdate T m k x=>exact .of_did (Zik hT hR hF ho h)
 |range T x=>exact .of_did (Zpo hT hR hF hk ho h)
 |next it s=>
  cases s with
  |false=>exact .of_did (Zqh hR hF ho h)
  |true=>rw[ho] at h;simp [aop,Zaa] at h
 |entry it=>exact .of_did (Zo6 hR hF ho h)
 |extract t i=>exact .of_did (ZkY hR hF ho h)
 |call c=>
  cases hc:c.callee with
  |value f=>exact Zn3 hS hR hF hk ho hc h
  |invoke r m=>rw[ho] at h;simp [aop,hc,Zaa] at h
  |builtin b=>
   cases b with
   |len=>exact .of_did (ZrD hT hR hF ho hc h)
   |min=>exact .of_did (Zr1 hR hF ho hc h)
   |max=>exact .of_did (ZrS hR hF ho hc h)
   |append=>exact .of_did (ZmQ hT hR hF hk ho hc h)
   |copy=>exact .of_did (Zqp hT hR hF ho hc h)
   |cap=>exact .of_did (Zrx hT hR hF ho hc h)
   |_=>rw[ho] at h;simp [aop,hc,Zaa] at h
 |_=>rw[ho] at h;simp [aop,Zaa] at h
end ops
end Tr
