/- All operations together: a step of the abstract machine is a step of the model. Conditions: the table of types is the program's, the specs are true. -/
import Derived.Test.YtdpenljjnfmgiaaGreatTrYb
open Array renaming toList_inj ->Vh
open Bool renaming and_eq_true ->Vb,not_eq_false' ->Vd,or_eq_false_iff ->Vj,false_eq_true ->Vk
open List renaming mem_cons_of_mem ->Vi
open Option renaming bind_eq_some_iff ->Ve,bind_some ->Vl
open Prod.mk renaming injEq ->Va
open Go.Result renaming andThen_ok ->Vc
open Go.Sem renaming run_bind ->Vf,run_pure ->Vg
namespace Tr
open Go
def Zhg(P:Program)(B:Zbr)(H' :AH)(w:World)(g:Gh)(nid n:Nat)(v:AV)(o:Oper)(a:Act):Prop:=
 ∀ (next:Act->World->Prop) (Q:Exit->Act->World->Prop),
  (∀val w' g' ow',RH B H' w' g' ow' ->g.Le g' ->ZaV g.I w w' ->VR w' g' v val->(∀id,g'.K id->g.K id\/(nid<=id/\id<nid+n))->next (a.put o.dst val) w')->o.wp P a w next Q
section ops
variable {P:Program}{E:Env}{B:Zbr}{H:AH}{w:World}{g:Gh}{ow:Nat->Nat->Prop}{nid:Nat}{a:Act}{F:Nat->AV}{v:AV}{patch:ZaY}{rd:List Nat}{o:Oper}
theorem Zhg.of_did{H' :AH}{n:Nat}(hn0:ZaU<=n)(h:Did B H' w g nid v ((execOp a.eval o).run P w)):Zhg P B H' w g nid n v o a:=by
 intro next Q hn
 obtain⟨val,w',g',ow',hr,h1,h2,h3,h4,h5⟩:=h;have:=hn val w' g' ow' h1 h2 h3 h4 fun id hid=>(h5 id hid).imp (fun h=>h) fun h=>⟨h.1,by omega⟩;unfold Oper.wp;rcases hr with hr| ⟨hr,rfl⟩
 ·rw[hr];exact this
 ·rw[hr];exact this
structure ZoS (P:Program) (B:Zbr) (n:Nat) (f:FuncId) (h:Nat->AVs->Acc (AV×ZaY)):Prop where
 fn: ∃fn,P.funcs[f]? =some fn∧fn.body.isNone=false∧(fn.name== "runtime.NumGoroutine")=false
 run: ∀ {H:AH}{w:World}{g:Gh}{ow:Nat->Nat->Prop}{nid:Nat}{avs:AVs}{vals:List Value}{v:AV}{patch:ZaY}{rd:List Nat},RH B H w g ow->(∀id,g.K id->id<nid\/nid+n<=id)->VRs w g avs vals->(h nid avs).run H []=some ((v,patch),rd)->
  Calls P f vals.toArray w fun e w' => ∃rv g' ow',e= .returned rv/\RH B (Zad H patch) w' g' ow' /\g.Le g' /\ZaV g.I w w' /\VR w' g' v rv/\ ∀id,g'.K id->g.K id\/(nid<=id/\id<nid+n)
theorem Zl9(E:Env):ZaU<=E.stp:=by unfold Env.stp ZaU;omega
structure Zbg (P:Program) (E:Env) (B:Zbr):Prop where
 ok: ∀f, ∀S∈E.specs f,ZaF P f S
 amb:B.pl=false->Amb P B.w0 B.own0
 pl:B.pl=true-> ∀f, ∀S∈E.specs f,S.pl=true
 inl: ∀f h,E.inl f=some h->ZoS P B E.stp f h
theorem Zbv{fns:List FuncId} : ∀ {l:List Spec}{S:Spec},S∈ZbZ fns l->S∈l/\S.fns=fns
 | [],_,h=>by simp [ZbZ]at h
 |T::l,S,h=>by
  simp only[ZbZ]at h
  cases hb:T.fns==fns with
  |true=>
   rw[hb]at h;simp only[cond_true]at h;rcases List.mem_cons.1 h with rfl|h
   ·exact⟨by simp,by simpa using hb⟩
   ·exact⟨Vi _ (Zbv h).1,(Zbv h).2⟩
  |false=>rw[hb]at h;simp only[cond_false]at h;exact⟨Vi _ (Zbv h).1,(Zbv h).2⟩
theorem Zid: ∀ (xs:List Operand),Fr w g F a.tmps->Zha (xs.map (aev F))=true->VRs w g (AVs.ofList (xs.map (aev F))) (xs.map a.eval)
 | [],_,_=>rfl
 |x::l,hF,h=>by
  have h2: (∀m,aev F x≠ .tup m)/\Zha (l.map (aev F))=true:=by
   simp only[List.map_cons]at h
   cases hx:aev F x<;>rw[hx]at h<;>simp [Zha]at h<;>exact⟨by simp,by simpa using h⟩
  exact⟨a.eval x,l.map a.eval,rfl,(hF.eval x).to1 h2.1,Zid l hF h2.2⟩
theorem ZjH: ∀ {l m:AVs}{vs us:List Value},VRs w g l vs->VRs w g m us->VRs w g (l.app m) (vs++us)
 | .nil,_,_,_,h,h' =>by simp only[VRs]at h;subst h;exact h'
 | .cons _ _,_,_,_,h,h' =>by obtain⟨v,r,rfl,h1,h2⟩:=h;exact⟨v,r++_,rfl,h1,ZjH h2 h'⟩
theorem Zi3{f:FuncId}{S:Spec}(hS:ZaF P f S)(args:Array Value)(w:World): (callFunc f args).run P w= .ok (.enter f args) w:=by obtain⟨fn,h1,h2,h3⟩:=hS.fn;simp only[callFunc,Vf,run_program,Vc,h1,h3,h2,if_false,Vk,Vg]
theorem Zm9{c:Call}{fo:Operand}(hS:Zbg P E B)(hR:RH B H w g ow)(hF:Fr w g F a.tmps)(hk: ∀id,g.K id->id<nid\/nid+ZaU<=id)(ho:o.op= .call c)(hc:c.callee= .value fo)
  (h: (Za1 E nid o.op o.type (aev F)).run H []=some ((v,patch),rd)):Zhg P B (Zad H patch) w g nid E.stp v o a:=by
 rw[ho]at h;simp only[Za1,hc]at h;split at h
 ·rename_i f caps hf;simp only[Zae,Zaa,and_false,false_or,Vd,Vb]at h;obtain⟨⟨hcap,hnt⟩,h⟩:=h;have hfv:=hF.eval fo;rw[hf]at hfv;obtain⟨cc,hfv,hcc⟩:=hfv.fn;have hv:=ZjH (Zid c.args.toList hF hnt) (Zfd caps cc hcap hcc);have hsp: ∀S∈ZbZ (Zmi ((AVs.ofList (c.args.toList.map (aev F))).app caps)) (E.specs f),ZaF P f S/\(B.pl=true->S.pl=true):=fun S h=>⟨hS.ok f S (Zbv h).1,fun hb=>hS.pl hb f S (Zbv h).1⟩
  obtain⟨S,hSf⟩: ∃S,ZaF P f S:=by
   cases hfs:ZbZ (Zmi ((AVs.ofList (c.args.toList.map (aev F))).app caps)) (E.specs f) with
   |nil=>rw[hfs]at h;simp [ZdW,Zaa]at h
   |cons S l=>exact⟨S,(hsp S (by rw[hfs];simp)).1⟩
  have hcall:=Zf1 hS.amb hR hk hv _ hsp h
  intro next Q hn
  unfold Oper.wp
  have hrun: (execOp a.eval o).run P w= .ok (.enter f (c.args.toList.map a.eval++cc).toArray) w:=by simp only[execOp,ho,resolve,hc,Deferred.ofValue,hfv,Vf,Vg,Vc,invoke];rw[Zi3 hSf];congr 2;rw[<-Vh];simp
  rw[hrun,Oper.upon_enter];refine hcall.mono ?_;rintro e w' ⟨rv,g',ow',rfl,h1,h2,h3,h4,h5⟩;exact hn rv w' g' ow' h1 h2 h3 h4 fun id hid=>(h5 id hid).imp (fun h=>h) fun h=>⟨h.1,by have:=Zl9 E;omega⟩
 ·simp [Zaa]at h
theorem ZpM(hT:Zah P E)(hS:Zbg P E B)(hR:RH B H w g ow)(hF:Fr w g F a.tmps)(hk: ∀id,g.K id->id<nid\/nid+ZaU<=id)
  (h: (Za1 E nid o.op o.type (aev F)).run H []=some ((v,patch),rd)):Zhg P B (Zad H patch) w g nid E.stp v o a:=by
 have hn:=Zl9 E
 cases ho:o.op with
 |move x=>exact .of_did hn (ZkX hR hF (.inl ho) h)
 |assign x=>exact .of_did hn (ZkX hR hF (.inr ho) h)
 |pick c x y=>exact .of_did hn (Zob hR hF ho h)
 |alloc T=>exact .of_did hn (Zmf hT hR hk ho h)
 |box T x=>exact .of_did hn (Zpv hR hF hk ho h)
 |build T ps=>exact .of_did hn (Zl1 hT hR hF ho h)
 |buildSlice T n ps=>exact .of_did hn (ZgR hT hR hF hk ho h)
 |load T x=>exact .of_did hn (Zoj hT hR hF ho h)
 |store T x y=>exact .of_did hn (ZnR hT hR hF ho h)
 |nilCheck x=>exact .of_did hn (ZiN hR hF ho h)
 |binOp op T x y T' =>exact .of_did hn (ZmP hT hR hF ho h)
 |unOp op T x=>exact .of_did hn (Zoe hR hF ho h)
 |convert S T x=>exact .of_did hn (ZjC hT hR hF ho h)
 |makeFunc fn first caps=>
  cases fn with
  |func f=>exact .of_did hn (ZiA hR hF ho h)
  |_=>rw[ho]at h;simp [Za1,Zaa]at h
 |makeMap T r=>exact .of_did hn (ZjG hT hR hF hk ho h)
 |makeSlice T l c=>exact .of_did hn (ZhB hT hR hF hk ho h)
 |slice T x lo hi mx=>
  cases mx with
  |none=>exact .of_did hn (Zny hT hR hF ho h)
  |some m=>cases hi with
   |none=>rw[ho]at h;simp [Za1,Zaa]at h
   |some hi=>exact .of_did hn (ZlH hT hR hF ho h)
 |fieldAddr T x f=>exact .of_did hn (Zh9 hT hR hF ho h)
 |field T x f=>exact .of_did hn (Zmu hT hR hF ho h)
 |indexAddr T x i=>exact .of_did hn (ZhO hT hR hF ho h)
 |index T x i=>exact .of_did hn (Zmx hT hR hF ho h)
 |lookup T m k ok=>exact .of_did hn (Zk7 hT hR hF ho h)
 |mapUpdate T m k x=>exact .of_did hn (ZhW hT hR hF ho h)
 |range T x=>exact .of_did hn (ZlY hT hR hF hk ho h)
 |next it s=>
  cases s with
  |false=>exact .of_did hn (ZoH hR hF ho h)
  |true=>rw[ho]at h;simp [Za1,Zaa]at h
 |entry it=>exact .of_did hn (Zmy hR hF ho h)
 |extract t i=>exact .of_did hn (ZjM hR hF ho h)
 |call c=>
  cases hc:c.callee with
  |value f=>exact Zm9 hS hR hF hk ho hc h
  |invoke r m=>rw[ho]at h;simp [Za1,hc,Zaa]at h
  |builtin b=>
   cases b with
   |len=>exact .of_did hn (ZpI hT hR hF ho hc h)
   |min=>exact .of_did hn (Zpj hR hF ho hc h)
   |max=>exact .of_did hn (Zpw hR hF ho hc h)
   |append=>exact .of_did hn (Zln hT hR hF hk ho hc h)
   |copy=>exact .of_did hn (ZoO hT hR hF ho hc h)
   |cap=>exact .of_did hn (Zp9 hT hR hF ho hc h)
   |_=>rw[ho]at h;simp [Za1,hc,Zaa]at h
 |_=>rw[ho]at h;simp [Za1,Zaa]at h
theorem ZpE{α:Type}{H:AH} : ∀ (a:Acc α) (l:List Nat) {r:α}{l' :List Nat},a.run H l=some (r,l')-> ∃m,a.run H []=some (r,m):=by
 intro a
 induction a with
 |ret a=>intro l r l' h;simp only[Acc.run,Option.some.injEq,Va]at h;exact⟨[],by simp [Acc.run,h.1]⟩
 |fail=>intro l r l' h;simp [Acc.run]at h
 |getH id k ih=>
  intro l r l' h;simp only[Acc.run]at h ⊢
  have key: ∀ (a:Acc α) (l1 l2:List Nat) {r:α}{l' :List Nat},a.run H l1=some (r,l')-> ∃m,a.run H l2=some (r,m):=by
   intro a
   induction a with
   |ret a=>intro l1 l2 r l' h;simp only[Acc.run,Option.some.injEq,Va]at h;exact⟨l2,by simp [Acc.run,h.1]⟩
   |fail=>intro l1 l2 r l' h;simp [Acc.run]at h
   |getH id k ih=>intro l1 l2 r l' h;simp only[Acc.run]at h ⊢;exact ih _ _ _ h
   |opt o k ih=>intro l1 l2 r l' h;cases o with
    |none=>simp [Acc.run]at h
    |some b=>simp only[Acc.run,Vl]at h ⊢;exact ih _ _ _ h
   |bool b k ih=>intro l1 l2 r l' h;simp only[Acc.run]at h ⊢;exact ih _ _ _ h
  exact key _ _ _ h
 |opt o k ih=>
  intro l r l' h
  cases o with
  |none=>simp [Acc.run]at h
  |some b=>simp only[Acc.run,Vl]at h ⊢;exact ih _ _ h
 |bool b k ih=>intro l r l' h;simp only[Acc.run]at h ⊢;exact ih _ _ h
theorem ZqD(hT:Zah P E)(hS:Zbg P E B)(hR:RH B H w g ow)(hF:Fr w g F a.tmps)(hk: ∀id,g.K id->id<nid\/nid+E.stp<=id)
  (h: (aop E nid o.op o.type (aev F)).run H []=some ((v,patch),rd)):Zhg P B (Zad H patch) w g nid E.stp v o a:=by
 have hn:=Zl9 E;have hk0: ∀id,g.K id->id<nid\/nid+ZaU<=id:=fun id hid=>(hk id hid).imp (fun h=>h) fun h=>by omega
 have old: ∀ {l:List Nat},(Za1 E nid o.op o.type (aev F)).run H l=some ((v,patch),rd)->Zhg P B (Zad H patch) w g nid E.stp v o a:=fun h=>by obtain⟨m,hm⟩:=ZpE _ _ h;exact ZpM hT hS hR hF hk0 hm
 cases ho:o.op with
 |call c=>
  cases hc:c.callee with
  |value fo=>
   rw[ho]at h old;simp only[aop,hc]at h;split at h
   ·rename_i f caps hf;split at h
    ·rename_i hh hi;rw[Zae]at h;rcases h with ⟨hb,h⟩ | ⟨_,h⟩
     ·simp only[Vb]at hb;have hI:=hS.inl f hh hi;have hfv:=hF.eval fo;rw[hf]at hfv;obtain⟨cc,hfv,hcc⟩:=hfv.fn;have hv:=ZjH (Zid c.args.toList hF hb.2) (Zfd caps cc hb.1 hcc);have hcall:=hI.run hR hk hv h
      intro next Q hn
      unfold Oper.wp
      have hrun: (execOp a.eval o).run P w= .ok (.enter f (c.args.toList.map a.eval++cc).toArray) w:=by
       obtain⟨fn,h1,h2,h3⟩:=hI.fn;simp only[execOp,ho,resolve,hc,Deferred.ofValue,hfv,Vf,Vg,Vc,invoke]
       have: ∀args,(callFunc f args).run P w= .ok (.enter f args) w:=fun args=>by simp only[callFunc,Vf,run_program,Vc,h1,h3,h2,if_false,Vk,Vg]
       rw[this];congr 2;rw[<-Vh];simp
      rw[hrun,Oper.upon_enter];refine hcall.mono ?_;rintro e w' ⟨rv,g',ow',rfl,h1,h2,h3,h4,h5⟩;exact hn rv w' g' ow' h1 h2 h3 h4 h5
     ·simp [Zaa]at h
    ·exact old h
   ·exact old h
  |invoke r m=>rw[ho]at h old;simp only[aop,hc]at h;exact old h
  |builtin b=>
   rw[ho]at h old
   cases b with
   |len=>
    simp only[aop,hc]at h;split at h
    ·rename_i x T hargs hty;split at h
     ·rename_i id hx;rw[Zag]at h;split at h
      ·rename_i t l hH;simp only[Zae,Zab,Zaa,and_false,or_false,beq_iff_eq,Va]at h;obtain⟨ht,⟨rfl,rfl⟩,_⟩:=h;exact .of_did hn (Zpo hT hR hF ho hc hargs hty hx hH ht)
      ·exact old h
     ·exact old h
    ·exact old h
   |append=>
    simp only[aop,hc]at h;split at h
    ·rename_i s x t t' hargs hty hty1;simp only[Zae,Zaa,and_false,false_or,Vd,beq_iff_eq]at h;obtain⟨rfl,h⟩:=h;simp only[Zaj,Zac,Zab,Va]at h;obtain⟨⟨xs,ids1⟩,m1,hS1,⟨ys,ids2⟩,m2,hX1,u,hg,⟨rfl,rfl⟩,_⟩:=h;have hg:=ZaK hg;simp only[Vb,decide_eq_true_eq]at hg;obtain⟨T0,h0,ht0⟩:=Ve.1 hty;obtain⟨T1,h1,ht1⟩:=Ve.1 hty1;obtain⟨ht0,hs1,_⟩:=ZhE ht0;obtain⟨Et,hu,hEt⟩:=Zar hT ht0;obtain⟨E1,hu1,_⟩:=Zar hT ht1;obtain⟨ie,z,hie,hsz,hby,hz,hzok,hzag⟩:=(hT.ty Et _ hEt).info
     have hzc:z.cells.size=1:=by have:=(ZdU (w:=w) (g:=g) hzok);have h3:=CV.length _ _ _ this.2 this.1;rw[hs1.1]at h3;simpa using h3
     have hargs' :c.args.map a.eval= #[a.eval s,a.eval x]:=by
      have:c.args= #[s,x]:=by rw[<-Vh];exact hargs
      rw[this];simp
     have hrun: ∀val w',(Builtin.append_ c.argTypes o.type #[a.eval s,a.eval x]).run P w= .ok val w' ->(execOp a.eval o).run P w= .ok (.value val) w' :=fun val w' hr=>by simp only[execOp,ho,ZaL hc,builtin,hargs',Vf,hr,Vc,Vg]
     rw[Zau];exact .of_did hn (ZjS (ty:=o.type) hR (ZdF hk0) hs1 h0 h1 hu hu1 hie hz hzc (hsz.trans hs1.1) ((hT.ty _ _ ht0).small _ _ hu hie) hg.2 (Zkv hR (hF.eval s) hS1) (Zkv hR (hF.eval x) hX1) hrun)
    ·exact old h
   |clear=>
    simp only[aop,hc]at h;split at h
    ·rename_i x t hargs hty;obtain⟨T0,h0,ht0⟩:=Ve.1 hty;split at h
     ·rename_i id lo n hx;rw[Zag]at h;split at h
      ·rename_i t' xs hH;simp only[Zae,Zac,Zab,Zaa,and_false,or_false,beq_iff_eq,Va,Vb]at h;obtain⟨⟨rfl,hd⟩,u,hg,⟨rfl,rfl⟩,_⟩:=h;exact .of_did hn (Zm3 hT hR hF ho hc hargs h0 ht0 hx hH hd (of_decide_eq_true (ZaK hg)))
      ·simp [Zaa]at h
     ·simp [Zaa]at h
    ·simp [Zaa]at h
   |_=>simp only[aop,hc]at h;exact old h
 |makeFunc fn first caps=>
  rw[ho]at h old;simp only[aop,Zae,Zab,Va]at h;rcases h with ⟨_,h⟩ | ⟨_,⟨rfl,rfl⟩,_⟩
  ·exact old h
  ·have hr: ∃val,(execOp a.eval o).run P w= .ok (.value val) w:=by simp only[execOp,ho];exact⟨_,rfl⟩
   obtain⟨val,hr⟩:=hr
   exact .of_did hn (Did.pure hR hr Zdj)
 |load T x=>
  rw[ho]at h old;simp only[aop]at h;split at h
  ·rename_i id i hx;rw[Zag]at h;split at h
   ·rename_i t l hH;simp only[Zae,Zac,Zab,Zaa,and_false,or_false,beq_iff_eq,Va]at h;obtain⟨ht,u,hu,⟨rfl,rfl⟩,_⟩:=h;exact .of_did hn (Zou hT hR hF ho hx hH ht hu)
   ·exact old h
  ·exact old h
 |store T x y=>
  rw[ho]at h old;simp only[aop]at h;split at h
  ·rename_i id i hx;rw[Zag]at h;split at h
   ·rename_i t l hH;simp only[Zae,Zac,Zab,Zaa,and_false,or_false,beq_iff_eq,Va,Vb]at h;obtain⟨⟨ht,hc⟩,u,hu,⟨rfl,rfl⟩,_⟩:=h;exact .of_did hn (Zng hT hR hF ho hx hH ht hc hu)
   ·exact old h
  ·exact old h
 |indexAddr T x i=>
  rw[ho]at h old;simp only[aop]at h;split at h
  ·rename_i id k n hx hi;rw[Zag]at h;split at h
   ·rename_i t l hH;simp only[Zae,Zac,Zab,Zaa,and_false,or_false,beq_iff_eq,Va]at h;obtain⟨ht,u,hu,⟨rfl,rfl⟩,_⟩:=h;exact .of_did hn (ZhC hT hR hF ho hx hi hH ht hu)
   ·exact old h
  ·rename_i id e p k n hx hi;rw[Zag]at h;split at h
   ·rename_i t0 xs hH;simp only[Zac]at h;obtain⟨q,hq,h⟩:=h;split at h
    ·rename_i m t hm;simp only[Zae,Zac,Zab,Zaa,and_false,or_false,beq_iff_eq,Va]at h;obtain⟨ht,u,hu,⟨rfl,rfl⟩,_⟩:=h;exact .of_did hn (ZiP hT hR hF ho hx hi hH hq hm ht hu)
    ·simp [Zaa]at h
   ·exact old h
  ·exact old h
 |slice T x lo hi mx=>
  cases mx with
  |none=>
   rw[ho]at h old;simp only[aop]at h;split at h
   ·rename_i id hx;rw[Zag]at h;split at h
    ·rename_i t l hH;simp only[Zae,Zac,Zab,Zaa,and_false,false_or,beq_iff_eq,Va,Vj,Vd,Vb]at h;obtain⟨⟨⟨hlo,hhi⟩,ht⟩,⟨l1,h1⟩,hs,⟨rfl,rfl⟩,_⟩:=h;exact .of_did hn (Zne hT hR hF ho hx hH ht hlo hhi hs)
    ·exact old h
   ·rename_i id hx;rw[Zag]at h;split at h
    ·rename_i t0 n t xs hH;simp only[Zae,Zac,Zab,Zaa,and_false,false_or,beq_iff_eq,Va,Vj,Vd,Vb]at h;obtain⟨⟨⟨⟨hlo,hhi⟩,ht⟩,rfl⟩,⟨l1,h1⟩,hs,⟨rfl,rfl⟩,_⟩:=h;exact .of_did hn (ZlT hT hR hF ho hx hH ht hlo hhi hs)
    ·exact old h
   ·exact old h
  |some m=>rw[ho]at h old;simp only[aop]at h;exact old h
 |makeSlice T l c=>
  rw[ho]at h old;simp only[aop]at h;split at h
  ·rename_i e k1 n k2 m ht hl hc;simp only[Zac,Zab,Va]at h;obtain⟨u,hg,⟨rfl,rfl⟩,_⟩:=h;exact .of_did hn (Zor hT hR hF hk0 ho ht hl hc (of_decide_eq_true (ZaK hg)))
  ·exact old h
 |buildSlice T n ps=>
  rw[ho]at h old;simp only[aop]at h;split at h
  ·rename_i t x ht hps;simp only[Zae,Zab,Zaa,and_false,or_false,Va]at h;obtain⟨hx,⟨rfl,rfl⟩,_⟩:=h;exact .of_did hn (Zmv hT hR hF hk0 ho ht hps hx)
  ·exact old h
 |binOp b T x y T' =>
  rw[ho]at h old;simp only[aop]at h;split at h
  ·rename_i i j hx hy;rw[Zae]at h;rcases h with ⟨hb,h⟩ | ⟨_,h⟩
   ·simp only[Vb]at hb;obtain rfl:=Nat.eq_of_beq_eq_true hb.1;have hq:=Zqu (nid:=nid) hT hR hF ho hx hy hb.2;split at h
    ·simp only[Zab,Va]at h;obtain⟨⟨rfl,rfl⟩,_⟩:=h;exact .of_did hn (hq.1 rfl)
    ·simp only[Zab,Va]at h;obtain⟨⟨rfl,rfl⟩,_⟩:=h;exact .of_did hn (hq.2 rfl)
    ·simp [Zaa]at h
   ·exact old h
  ·have hy:aev F y= .nils:=by assumption
   rw[Zae]at h;rcases h with ⟨hb,h⟩ | ⟨_,h⟩
   ·rw[Zaj]at h;obtain⟨r,m,h1,h⟩:=h;have hq:=ZqA (nid:=nid) hT hR hF ho hy hb h1;split at h
    ·simp only[Zab,Va]at h;obtain⟨⟨rfl,rfl⟩,_⟩:=h;exact .of_did hn (hq.1 rfl)
    ·simp only[Zab,Va]at h;obtain⟨⟨rfl,rfl⟩,_⟩:=h;exact .of_did hn (hq.2 rfl)
    ·simp [Zaa]at h
   ·exact old h
  ·exact old h
 |_=>rw[ho]at h old;exact old h
end ops
end Tr
