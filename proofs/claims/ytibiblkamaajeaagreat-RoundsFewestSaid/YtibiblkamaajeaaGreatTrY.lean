/- All operations together: a step of the abstract machine is a step of the model. Conditions: the table of types is the program's, the specs are true. -/
import Derived.Test.YtibiblkamaajeaaGreatTrX
import Derived.Test.YtibiblkamaajeaaGreatTrSc
import Derived.Test.YtibiblkamaajeaaGreatTrSr
open List renaming mem_cons_of_mem ->Va
open Go.Result renaming andThen_ok ->Vb
namespace Tr
open Go
def Zpa(P:Program)(B:Zcs)(H' :AH)(w:World)(g:Gh)(nid:Nat)(v:AV)(o:Oper)(a:Act):Prop:=
 ∀ (next:Act->World->Prop) (Q:Exit->Act->World->Prop),
  (∀val w' g' ow',RH B H' w' g' ow' ->g.Le g' ->Zbm g.I w w' ->VR w' g' v val->(∀id,g'.K id->g.K id\/(nid<=id/\id<nid+ZaI))->next (a.put o.dst val) w')->o.wp P a w next Q
section ops
variable {P:Program}{E:Env}{B:Zcs}{H:AH}{w:World}{g:Gh}{ow:Nat->Nat->Prop}{nid:Nat}{a:Act}{F:Nat->AV}{v:AV}{patch:Zbt}{rd:List Nat}{o:Oper}
theorem Zpa.of_did{H' :AH}(h:Did B H' w g nid v ((execOp a.eval o).run P w)):Zpa P B H' w g nid v o a:=by
 intro next Q hn
 obtain⟨val,w',g',ow',hr,h1,h2,h3,h4,h5⟩:=h;have:=hn val w' g' ow' h1 h2 h3 h4 h5;unfold Oper.wp;rcases hr with hr| ⟨hr,rfl⟩
 ·rw[hr];exact this
 ·rw[hr];exact this
structure ZcE (P:Program) (E:Env) (B:Zcs):Prop where
 ok: ∀f, ∀S∈E.specs f,ZaS P f S
 amb:B.pl=false->Amb P B.w0 B.own0
 pl:B.pl=true-> ∀f, ∀S∈E.specs f,S.pl=true
theorem Zb6{fns:List FuncId} : ∀ {l:List Spec}{S:Spec},S∈ZcK fns l->S∈l/\S.fns=fns
 | [],_,h=>by simp [ZcK]at h
 |T::l,S,h=>by
  simp only[ZcK]at h
  cases hb:T.fns==fns with
  |true=>
   rw[hb]at h;simp only[cond_true]at h;rcases List.mem_cons.1 h with rfl|h
   ·exact⟨by simp,by simpa using hb⟩
   ·exact⟨Va _ (Zb6 h).1,(Zb6 h).2⟩
  |false=>rw[hb]at h;simp only[cond_false]at h;exact⟨Va _ (Zb6 h).1,(Zb6 h).2⟩
theorem Zpm: ∀ (xs:List Operand),Fr w g F a.tmps->Zm4 (xs.map (aev F))=true->VRs w g (AVs.ofList (xs.map (aev F))) (xs.map a.eval)
 | [],_,_=>rfl
 |x::l,hF,h=>by
  have h2: (∀m,aev F x≠ .tup m)/\Zm4 (l.map (aev F))=true:=by
   simp only[List.map_cons]at h
   cases hx:aev F x<;>rw[hx]at h<;>simp [Zm4]at h<;>exact⟨by simp,by simpa using h⟩
  exact⟨a.eval x,l.map a.eval,rfl,(hF.eval x).to1 h2.1,Zpm l hF h2.2⟩
theorem ZsA: ∀ {l m:AVs}{vs us:List Value},VRs w g l vs->VRs w g m us->VRs w g (l.app m) (vs++us)
 | .nil,_,_,_,h,h' =>by simp only[VRs]at h;subst h;exact h'
 | .cons _ _,_,_,_,h,h' =>by obtain⟨v,r,rfl,h1,h2⟩:=h;exact⟨v,r++_,rfl,h1,ZsA h2 h'⟩
theorem ZmX{f:FuncId}{S:Spec}(hS:ZaS P f S)(args:Array Value)(w:World): (callFunc f args).run P w= .ok (.enter f args) w:=by obtain⟨fn,h1,h2,h3⟩:=hS.fn;simp only[callFunc,Sem.run_bind,run_program,Vb,h1,h3,h2,if_false,Bool.false_eq_true,Sem.run_pure]
theorem Zr4{c:Call}{fo:Operand}(hS:ZcE P E B)(hR:RH B H w g ow)(hF:Fr w g F a.tmps)(hk: ∀id,g.K id->id<nid\/nid+ZaI<=id)(ho:o.op= .call c)(hc:c.callee= .value fo)
  (h: (aop E nid o.op o.type (aev F)).run H []=some ((v,patch),rd)):Zpa P B (Zag H patch) w g nid v o a:=by
 rw[ho]at h;simp only[aop,hc]at h;split at h
 ·rename_i f caps hf;simp only[Zao,Zaa,and_false,false_or,Bool.not_eq_false',Bool.and_eq_true]at h;obtain⟨⟨hcap,hnt⟩,h⟩:=h;have hfv:=hF.eval fo;rw[hf]at hfv;obtain⟨cc,hfv,hcc⟩:=hfv.fn;have hv:=ZsA (Zpm c.args.toList hF hnt) (Zj0 caps cc hcap hcc);have hsp: ∀S∈ZcK (Zsp ((AVs.ofList (c.args.toList.map (aev F))).app caps)) (E.specs f),ZaS P f S/\(B.pl=true->S.pl=true):=fun S h=>⟨hS.ok f S (Zb6 h).1,fun hb=>hS.pl hb f S (Zb6 h).1⟩
  obtain⟨S,hSf⟩: ∃S,ZaS P f S:=by
   cases hfs:ZcK (Zsp ((AVs.ofList (c.args.toList.map (aev F))).app caps)) (E.specs f) with
   |nil=>rw[hfs]at h;simp [Zf8,Zaa]at h
   |cons S l=>exact⟨S,(hsp S (by rw[hfs];simp)).1⟩
  have hcall:=ZiF hS.amb hR hk hv _ hsp h
  intro next Q hn
  unfold Oper.wp
  have hrun: (execOp a.eval o).run P w= .ok (.enter f (c.args.toList.map a.eval++cc).toArray) w:=by simp only[execOp,ho,resolve,hc,Deferred.ofValue,hfv,Sem.run_bind,Sem.run_pure,Vb,invoke];rw[ZmX hSf];congr 2;rw[<-Array.toList_inj];simp
  rw[hrun,Oper.upon_enter];refine hcall.mono ?_;rintro e w' ⟨rv,g',ow',rfl,h1,h2,h3,h4,h5⟩;exact hn rv w' g' ow' h1 h2 h3 h4 h5
 ·simp [Zaa]at h
theorem Zxn(hT:ZaB P E)(hS:ZcE P E B)(hR:RH B H w g ow)(hF:Fr w g F a.tmps)(hk: ∀id,g.K id->id<nid\/nid+ZaI<=id)
  (h: (aop E nid o.op o.type (aev F)).run H []=some ((v,patch),rd)):Zpa P B (Zag H patch) w g nid v o a:=by
 cases ho:o.op with
 |move x=>exact .of_did (Zpv hR hF (.inl ho) h)
 |assign x=>exact .of_did (Zpv hR hF (.inr ho) h)
 |pick c x y=>exact .of_did (Zuc hR hF ho h)
 |alloc T=>exact .of_did (Zs5 hT hR hk ho h)
 |box T x=>exact .of_did (Zv7 hR hF hk ho h)
 |build T ps=>exact .of_did (Ztv hT hR hF ho h)
 |buildSlice T n ps=>exact .of_did (ZjO hT hR hF hk ho h)
 |load T x=>exact .of_did (Zut hT hR hF ho h)
 |store T x y=>exact .of_did (Zsn hT hR hF ho h)
 |nilCheck x=>exact .of_did (ZmK hR hF ho h)
 |binOp op T x y T' =>exact .of_did (Zse hT hR hF ho h)
 |unOp op T x=>exact .of_did (Zus hR hF ho h)
 |convert S T x=>exact .of_did (ZoD hT hR hF ho h)
 |makeFunc fn first caps=>
  cases fn with
  |func f=>exact .of_did (Zl7 hR hF ho h)
  |_=>rw[ho]at h;simp [aop,Zaa]at h
 |makeMap T r=>exact .of_did (ZoC hT hR hF hk ho h)
 |makeSlice T l c=>exact .of_did (ZkR hT hR hF hk ho h)
 |slice T x lo hi mx=>
  cases mx with
  |none=>exact .of_did (ZrY hT hR hF ho h)
  |some m=>cases hi with
   |none=>rw[ho]at h;simp [aop,Zaa]at h
   |some hi=>exact .of_did (ZqD hT hR hF ho h)
 |fieldAddr T x f=>exact .of_did (Zk2 hT hR hF ho h)
 |field T x f=>exact .of_did (Zs2 hT hR hF ho h)
 |indexAddr T x i=>exact .of_did (Zk7 hT hR hF ho h)
 |index T x i=>exact .of_did (ZrP hT hR hF ho h)
 |lookup T m k ok=>exact .of_did (Zp8 hT hR hF ho h)
 |mapUpdate T m k x=>exact .of_did (Zk9 hT hR hF ho h)
 |range T x=>exact .of_did (Zs6 hT hR hF hk ho h)
 |next it s=>
  cases s with
  |false=>exact .of_did (ZtU hR hF ho h)
  |true=>rw[ho]at h;simp [aop,Zaa]at h
 |entry it=>exact .of_did (Zrn hR hF ho h)
 |extract t i=>exact .of_did (ZnS hR hF ho h)
 |call c=>
  cases hc:c.callee with
  |value f=>exact Zr4 hS hR hF hk ho hc h
  |invoke r m=>rw[ho]at h;simp [aop,hc,Zaa]at h
  |builtin b=>
   cases b with
   |len=>exact .of_did (Zv2 hT hR hF ho hc h)
   |min=>exact .of_did (ZvE hR hF ho hc h)
   |max=>exact .of_did (Zwj hR hF ho hc h)
   |append=>exact .of_did (Zp1 hT hR hF hk ho hc h)
   |copy=>exact .of_did (ZtO hT hR hF ho hc h)
   |cap=>exact .of_did (Zwy hT hR hF ho hc h)
   |_=>rw[ho]at h;simp [aop,hc,Zaa]at h
 |_=>rw[ho]at h;simp [aop,Zaa]at h
end ops
end Tr
