/- All operations together: a step of the abstract machine is a step of the model. Conditions: the table of types is the program's, the specs are true. -/
import Derived.Scope
import Derived.KernelRfl
import Derived.Test.YtdpenljjnfmgiaaGreatETrSc
open Array renaming getElem?_toList ->Vm,getD_eq_getD_getElem? ->Vn,mem_toList_iff ->Vr,getElem?_eq_getElem ->Vea,toList_inj ->Vga,replicate ->Vja,getElem?_push ->Vla,foldl_toList ->Vna
open Bool renaming and_eq_true ->Va,not_eq_true' ->Vl,not_eq_false' ->Vda,or_eq_false_iff ->Vka,false_eq_true ->Vma,not_true ->Vxa,false_or ->Vya
open Go.Code renaming region ->Vra
open List renaming mem_append_left ->Ve,mem_append_right ->Vf,mem_append ->Vh,nodup_append ->Vi,mem_cons ->Vj,all_eq_true ->Vt,map_cons ->Vv,mem_singleton ->Vw,nodup_range ->Vz,mem_cons_of_mem ->Vaa,nodup_cons ->Vba,mem_map ->Vca,range ->Vha,mem_filterMap ->Voa,map_append ->Vsa,mem_range ->Vua,mapM_cons ->Vva,replicate ->Vwa
open Nat renaming eq_of_beq_eq_true ->Vd,beq ->Vg,mul_le_mul_right ->Vs,lt_succ_self ->Vu,le_of_ble_eq_true ->Vy,succ_mul ->Via,succ_le_of_lt ->Vpa,blt ->Vqa,ble ->Vza
open Option renaming bind_eq_some_iff ->Vb,mem_def ->Vta
open Prod renaming fst ->Vq,snd ->Vx
open Prod.mk renaming injEq ->Vc
open Go.Result renaming andThen_ok ->Vk
open Go.Sem renaming run_bind ->Vo,run_pure ->Vp
open Sum.inl renaming injEq ->Vab
open Sum.inr renaming injEq ->Vfa
open Go.Value renaming pointer ->Vbb
section
namespace Tr
open Go
def Rf(P:Program)(B:ZS)(H' :AH)(w:World)(g:Gh)(nid n:Nat)(v:AV)(o:Oper)(a:Act):Prop:=
 ∀(next:Act->World->Prop) (Q:Exit->Act->World->Prop),
  (∀val c b d,RH B H' c b d->g.Le b->Kf g.I w c->VR c b v val->(∀id,b.K id->g.K id\/(nid<=id/\id<nid+n))->next (a.put o.dst val) c)->o.wp P a w next Q
section ops
variable {P:Program}{E:Z3}{B:ZS}{H:AH}{w:World}{g:Gh}{ow:Nat->Nat->Prop}{nid:Nat}{a:Act}{F:Nat->AV}{v:AV}{patch:Kq}{rd:List Nat}{o:Oper}
theorem Rf.of_did{H' :AH}{n:Nat}(p:K8<=n)(h:Zo B H' w g nid v ((execOp a.eval o).run P w)):Rf P B H' w g nid n v o a:=by
 intro next Q m
 obtain⟨val,q,e,d,b,f,i,j,k,l⟩:=h;have:=m val q e d f i j k fun id c=>(l id c).imp (fun h=>h) fun h=>⟨h.1,by omega⟩;unfold Oper.wp;rcases b with b|⟨b,rfl⟩
 ·rw[b];exact this
 ·rw[b];exact this
structure ZcO (P:Program) (B:ZS) (n:Nat) (f:FuncId) (h:Nat->Zl->Zq (AV×Kq)):Prop where
 fn:∃fn,P.funcs[f]? =some fn∧fn.body.isNone=false∧(fn.name== "runtime.NumGoroutine")=false
 run:∀{H:AH}{w:World}{g:Gh}{ow:Nat->Nat->Prop}{nid:Nat}{avs:Zl}{vals:List Value}{v:AV}{patch:Kq}{rd:List Nat},RH B H w g ow->(∀id,g.K id->id<nid\/nid+n<=id)->Wt w g avs vals->(h nid avs).run H []=some ((v,patch),rd)->
  Calls P f vals.toArray w fun e w' =>∃rv g' ow',e=.returned rv/\RH B (Zn H patch) w' g' ow' /\g.Le g' /\Kf g.I w w' /\VR w' g' v rv/\ ∀id,g'.K id->g.K id\/(nid<=id/\id<nid+n)
theorem Zhx(E:Z3):K8<=E.stp:=by unfold Z3.stp K8;omega
structure Jv (P:Program) (E:Z3) (B:ZS):Prop where
 ok:∀f,∀S∈E.specs f,ZL P f S
 amb:B.pl=false->Hr P B.w0 B.own0
 pl:B.pl=true->∀f,∀S∈E.specs f,S.pl=true
 inl:∀f h,E.inl f=some h->ZcO P B E.stp f h
theorem ZaG{fns:List FuncId} :∀{l:List Spec}{S:Spec},S∈DP fns l->S∈l/\S.fns=fns
 |[],_,h=>by simp [DP]at h
 |T::l,S,h=>by
  simp only[DP]at h
  cases b:T.fns==fns with
  |true=>
   rw[b]at h;simp only[Zc]at h;rcases Vj.1 h with rfl|h
   ·exact⟨by simp,by simpa using b⟩
   ·exact⟨Vaa _ (ZaG h).1,(ZaG h).2⟩
  |false=>rw[b]at h;simp only[Ze]at h;exact⟨Vaa _ (ZaG h).1,(ZaG h).2⟩
theorem Ziu:∀(xs:List Operand),Fr w g F a.tmps->Zch (xs.map (Zt F))=true->Wt w g (Zl.ofList (xs.map (Zt F))) (xs.map a.eval)
 |[],_,_=>rfl
 |x::l,c,h=>by
  have b:(∀m,Zt F x≠ .tup m)/\Zch (l.map (Zt F))=true:=by
   simp only[Vv]at h
   cases d:Zt F x<;>rw[d]at h<;>simp [Zch]at h<;>exact⟨by simp,by simpa using h⟩
  exact⟨a.eval x,l.map a.eval,rfl,(c.eval x).to1 b.1,Ziu l c b.2⟩
theorem Zfi:∀{l m:Zl}{vs us:List Value},Wt w g l vs->Wt w g m us->Wt w g (l.app m) (vs++us)
 |.nil,_,_,_,h,b=>by simp only[Wt]at h;subst h;exact b
 |.cons _ _,_,_,_,h,b=>by obtain⟨v,r,rfl,c,d⟩:=h;exact⟨v,r++_,rfl,c,Zfi d b⟩
theorem Zhl{f:FuncId}{S:Spec}(e:ZL P f S)(args:Array Value)(w:World):(callFunc f args).run P w=.ok (.enter f args) w:=by obtain⟨fn,b,c,d⟩:=e.fn;simp only[callFunc,Vo,run_program,Vk,b,d,c,if_false,Vma,Vp]
theorem ZqF{f:FuncId}(h:Vqa f Wu=true):HE f=f:=by unfold HE;rw[h,Zc]
theorem ZqE{f:FuncId}(h:Vqa f Wu=false):HE f=f - Wu:=by unfold HE;rw[h,Ze]
theorem Zoa{c:Call}{R:Operand}(C:Jv P E B)(hR:RH B H w g ow)(hF:Fr w g F a.tmps)(hk:∀id,g.K id->id<nid\/nid+K8<=id)(N:o.op=.call c)(D:c.callee=.value R)
 (h:(ZG E nid o.op o.type (Zt F)).run H []=some ((v,patch),rd)):Rf P B (Zn H patch) w g nid E.stp v o a:=by
 rw[N]at h;simp only[ZG,D]at h;split at h
 ·rename_i f k hf;simp only[ZD,Zb,ZJ,false_or,Vda,Va]at h;obtain⟨⟨t,M⟩,h⟩:=h;have b:=hF.eval R;rw[hf]at b;obtain⟨A,b,G⟩:=b.fn;have s:=ZiT k A t G;have r:=Ziu c.args.toList hF M
  obtain⟨j,n⟩:∃j,j=bif Vqa f Wu then(Zl.ofList (c.args.toList.map (Zt F))).app k else k.app (Zl.ofList (c.args.toList.map (Zt F))):=⟨_,rfl⟩
  obtain⟨i,d⟩:∃i,i=bif Vqa f Wu then c.args.toList.map a.eval++A else A++c.args.toList.map a.eval:=⟨_,rfl⟩
  simp only[<-n]at h
  have hv:Wt w g j i:=by
   rw[n,d]
   cases Vqa f Wu with
   |true=>exact Zfi r s
   |false=>exact Zfi s r
  have z:∀S∈DP (ZbX j) (E.specs (HE f)),ZL P (HE f) S/\(B.pl=true->S.pl=true):=fun S h=>⟨C.ok _ S (ZaG h).1,fun p=>C.pl p _ S (ZaG h).1⟩
  obtain⟨S,m⟩:∃S,ZL P (HE f) S:=by
   cases x:DP (ZbX j) (E.specs (HE f)) with
   |nil=>rw[x]at h;simp [Zap,Zb]at h
   |cons S l=>exact⟨S,(z S (by rw[x];simp)).1⟩
  have q:=ZiP C.amb hR hk hv _ z h
  intro next Q hn
  unfold Oper.wp
  have y:(execOp a.eval o).run P w=.ok (.enter (HE f) i.toArray) w:=by
   rcases ZaK f A with ⟨p,J⟩|⟨p,J⟩
   ·rw[J]at b;rw[d,p];simp only[execOp,N,resolve,D,Deferred.ofValue,b,Vo,Vp,Vk,invoke];have:HE f=f:=ZqF p;rw[this]at m⊢;rw[Zhl m];congr 2;rw[<-Vga];simp
   ·rw[J]at b;rw[d,p];simp only[execOp,N,resolve,D,Deferred.ofValue,b,Vo,Vp,Vk,invoke];have:HE f=f - Wu:=ZqE p;rw[this]at m⊢;rw[Zhl m];congr 2;rw[<-Vga];simp
  rw[y,Oper.upon_enter];refine q.mono ?_;rintro e w' ⟨rv,U,O,rfl,V,W,X,Y,Z⟩;exact hn rv w' U O V W X Y fun id L=>(Z id L).imp (fun h=>h) fun h=>⟨h.1,by have:=Zhx E;omega⟩
 ·simp [Zb]at h
theorem ZnC(p:ZX P E)(D:Jv P E B)(e:RH B H w g ow)(hF:Fr w g F a.tmps)(z:∀id,g.K id->id<nid\/nid+K8<=id)
 (h:(ZG E nid o.op o.type (Zt F)).run H []=some ((v,patch),rd)):Rf P B (Zn H patch) w g nid E.stp v o a:=by
 have j:=Zhx E
 cases d:o.op with
 |move x=>exact .of_did j (Zis e hF (.inl d) h)
 |assign x=>exact .of_did j (Zis e hF (.inr d) h)
 |pick c x y=>exact .of_did j (Zn4 e hF d h)
 |alloc T=>exact .of_did j (ZnD p e z d h)
 |box T x=>exact .of_did j (ZnH e hF z d h)
 |build T J=>exact .of_did j (ZnI p e hF d h)
 |buildSlice T n J=>exact .of_did j (ZnJ p e hF z d h)
 |load T x=>exact .of_did j (Zir p e hF d h)
 |store T x y=>exact .of_did j (Zn8 p e hF d h)
 |nilCheck x=>exact .of_did j (Zn2 e hF d h)
 |binOp op T x y L=>exact .of_did j (ZnF p e hF d h)
 |unOp op T x=>exact .of_did j (Zn9 e hF d h)
 |convert S T x=>exact .of_did j (ZnM p e hF d h)
 |makeFunc fn first A=>
  cases fn with
  |func f=>exact .of_did j (ZnV e hF d h)
  |_=>rw[d]at h;simp [ZG,Zb]at h
 |makeMap T r=>exact .of_did j (ZnW p e hF z d h)
 |makeSlice T l c=>exact .of_did j (ZnX p e hF z d h)
 |slice T x M C G=>
  cases G with
  |none=>exact .of_did j (Zn6 p e hF d h)
  |some m=>cases C with
   |none=>rw[d]at h;simp [ZG,Zb]at h
   |some C=>exact .of_did j (Zn7 p e hF d h)
 |fieldAddr T x f=>exact .of_did j (Ziq p e hF d h)
 |field T x f=>exact .of_did j (ZnQ p e hF d h)
 |indexAddr T x i=>exact .of_did j (ZnS p e hF d h)
 |index T x i=>exact .of_did j (ZnR p e hF d h)
 |lookup T m k ok=>exact .of_did j (ZnU p e hF d h)
 |mapUpdate T m k x=>exact .of_did j (ZnY p e hF d h)
 |range T x=>exact .of_did j (Zn5 p e hF z d h)
 |next it s=>
  cases s with
  |false=>exact .of_did j (Zn1 e hF d h)
  |true=>rw[d]at h;simp [ZG,Zb]at h
 |entry it=>exact .of_did j (ZnO e hF d h)
 |extract t i=>exact .of_did j (ZnP e hF d h)
 |call c=>
  cases q:c.callee with
  |value f=>exact Zoa D e hF z d q h
  |invoke r m=>rw[d]at h;simp [ZG,q,Zb]at h
  |builtin b=>
   cases b with
   |len=>exact .of_did j (ZnT p e hF d q h)
   |min=>exact .of_did j (Zn0 e hF d q h)
   |max=>exact .of_did j (ZnZ e hF d q h)
   |append=>exact .of_did j (ZnE p e hF z d q h)
   |copy=>exact .of_did j (ZnN p e hF d q h)
   |cap=>exact .of_did j (ZnK p e hF d q h)
   |_=>rw[d]at h;simp [ZG,q,Zb]at h
 |_=>rw[d]at h;simp [ZG,Zb]at h
theorem Zti{α:Type}{H:AH} :∀(a:Zq α) (l:List Nat) {r:α}{c:List Nat},a.run H l=some (r,c)->∃m,a.run H []=some (r,m):=by
 intro a
 induction a with
 |ret a=>intro l r c h;simp only[Zq.run,Option.some.injEq,Vc]at h;exact⟨[],by simp [Zq.run,h.1]⟩
 |fail=>intro l r c h;simp [Zq.run]at h
 |getH id k d=>
  intro l r c h;simp only[Zq.run]at h⊢
  have key:∀(a:Zq α) (f e:List Nat) {r:α}{c:List Nat},a.run H f=some (r,c)->∃m,a.run H e=some (r,m):=by
   intro a
   induction a with
   |ret a=>intro f e r c h;simp only[Zq.run,Option.some.injEq,Vc]at h;exact⟨e,by simp [Zq.run,h.1]⟩
   |fail=>intro f e r c h;simp [Zq.run]at h
   |getH id k d=>intro f e r c h;simp only[Zq.run]at h⊢;exact d _ _ _ h
   |opt o k d=>intro f e r c h;cases o with
    |none=>simp [Zq.run]at h
    |some b=>simp only[Zq.run,Za]at h⊢;exact d _ _ _ h
   |bool b k d=>intro f e r c h;simp only[Zq.run]at h⊢;exact d _ _ _ h
  exact key _ _ _ h
 |opt o k d=>
  intro l r c h
  cases o with
  |none=>simp [Zq.run]at h
  |some b=>simp only[Zq.run,Za]at h⊢;exact d _ _ h
 |bool b k d=>intro l r c h;simp only[Zq.run]at h⊢;exact d _ _ h
theorem Zn3(L:ZX P E)(hS:Jv P E B)(C:RH B H w g ow)(hF:Fr w g F a.tmps)(hk:∀id,g.K id->id<nid\/nid+E.stp<=id)
 (h:(WD E nid o.op o.type (Zt F)).run H []=some ((v,patch),rd)):Rf P B (Zn H patch) w g nid E.stp v o a:=by
 have A:=Zhx E;have V:∀id,g.K id->id<nid\/nid+K8<=id:=fun id a7=>(hk id a7).imp (fun h=>h) fun h=>by omega
 have q:∀{l:List Nat},(ZG E nid o.op o.type (Zt F)).run H l=some ((v,patch),rd)->Rf P B (Zn H patch) w g nid E.stp v o a:=fun h=>by obtain⟨m,W⟩:=Zti _ _ h;exact ZnC L hS C hF V W
 cases z:o.op with
 |call c=>
  cases Q:c.callee with
  |value fo=>
   rw[z]at h q
   simp only[WD,Q]at h;exact q h
  |invoke r m=>rw[z]at h q;simp only[WD,Q]at h;exact q h
  |builtin b=>
   rw[z]at h q
   cases b with
   |clear=>
    simp only[WD,Q]at h;split at h
    ·rename_i x t J Z;obtain⟨T0,h0,Y⟩:=Vb.1 Z;split at h
     ·rename_i id lo n G;rw[ZN]at h;split at h
      ·rename_i t' xs D;simp only[ZD,Zu,Zd,Zb,ZJ,ZY,Kd,Vc,Va]at h;obtain⟨⟨rfl,hd⟩,u,hg,⟨rfl,rfl⟩,_⟩:=h;exact .of_did A (ZoU L C hF z Q J h0 Y G D hd (J9 (X9 hg)))
      ·simp [Zb]at h
     ·simp [Zb]at h
    ·simp [Zb]at h
   |append=>
    simp only[WD,Q]at h;split at h
    ·rename_i s x lb J Z;obtain⟨T0,h0,Y⟩:=Vb.1 Z;split at h
     ·rename_i id G;rw[ZN]at h;split at h
      ·rename_i b7 xs D;simp only[ZD,Zu,ZQ,Zd,Zb,false_and,false_or,ZJ,ZY,Vl,Vc]at h;obtain⟨b2,b8,U,⟨ys,ids⟩,m,a2,_,hg,⟨rfl,rfl⟩,_⟩:=h;obtain⟨he,rfl⟩:=Kv U;cases he;exact .of_did A (Zui L C hF (X7 V) z Q J h0 Y (by simpa using b2) G D a2 (J9 (X9 hg)))
      ·exact q h
     ·exact q h
    ·exact q h
   |_=>simp only[WD,Q]at h;exact q h
 |indexAddr T x i=>
  rw[z]at h q;simp only[WD]at h;split at h
  ·rename_i id k n G hi;rw[ZN]at h;split at h
   ·rename_i lb xs D;simp only[ZD,Zu,Zd,Zb,ZJ,ZY,Kd,Vc]at h;obtain⟨N,j,hj,⟨rfl,rfl⟩,_⟩:=h;exact .of_did A (Zuj L C hF z G hi D N hj)
   ·exact q h
  ·exact q h
 |slice T x lo hi mx=>
  rw[z]at h q;simp only[WD]at h;split at h
  ·rename_i id G;rw[ZN]at h;split at h
   ·rename_i lb xs D;simp only[ZD,Zu,Zd,Zb,ZJ,false_or,Vka,Vda,Va,Kd,Vc]at h;obtain⟨⟨N,a3,a4⟩,r,X,⟨rfl,rfl⟩,_⟩:=h;exact .of_did A (Zul L C hF (X7 V) z G D N a3 a4 X)
   ·exact q h
  ·rename_i id G;rw[ZN]at h;split at h
   ·rename_i t0 n t xs D;simp only[ZD,Zu,Zd,Zb,ZJ,false_or,Kd,Vc,Vka,Vda,Va]at h;obtain⟨⟨⟨⟨a9,a5⟩,N⟩,rfl⟩,⟨l1,O⟩,hs,⟨rfl,rfl⟩,_⟩:=h;exact .of_did A (ZtB L C hF z G D N a9 a5 hs)
   ·exact q h
  ·exact q h
 |makeFunc fn first b5=>
  rw[z]at h q;simp only[WD,ZD,Zd,Vc]at h;rcases h with ⟨_,h⟩|⟨_,h⟩
  ·exact q h
  have junk:v=.junk->patch=[]->Rf P B (Zn H patch) w g nid E.stp v o a:=by
   rintro rfl rfl
   have X:∃val,(execOp a.eval o).run P w=.ok (.value val) w:=by simp only[execOp,z];exact⟨_,rfl⟩
   obtain⟨val,X⟩:=X;exact .of_did A (Zo.pure C X Hb)
  split at h
  ·rename_i f;simp only[ZD,Zd,Vc,Va]at h;rcases h with ⟨⟨Q,h2⟩,⟨rfl,rfl⟩,_⟩|⟨_,⟨rfl,rfl⟩,_⟩
   ·exact .of_did A (ZnG C hF z Q h2)
   ·exact junk rfl rfl
  ·simp only[Zd,Vc]at h;obtain⟨⟨rfl,rfl⟩,_⟩:=h
   exact junk rfl rfl
 |mapEntry T m k=>
  rw[z]at h q;simp only[WD]at h;rw[Zu]at h;obtain⟨mt,a0,h⟩:=h;split at h
  ·rename_i id kt x W a8;rw[ZN]at h;split at h
   ·rename_i b4 t es u D;simp only[ZD,Zu,Zd,Zb,ZJ,ZY,Va,Kd,Vc]at h;obtain⟨⟨⟨M,O⟩,h2⟩,y,R,⟨rfl,rfl⟩,_⟩:=h;obtain⟨rfl,rfl⟩:=Kv R;exact .of_did A (ZrR L C hF z a0 O h2 M W a8 D)
   ·simp [Zb]at h
  ·simp [Zb]at h
 |entryStore T m s x=>
  rw[z]at h q;simp only[WD]at h;rw[Zu]at h;obtain⟨mt,a0,h⟩:=h;split at h
  ·rename_i id ik n i2 W b1 b3;rw[ZN]at h;split at h
   ·rename_i b4 t es u b6 D;simp only[ZD,Zu,ZQ,Zd,Zb,ZJ,ZY,Va,Kd,Vc]at h;obtain⟨⟨⟨⟨M,O⟩,h2⟩,b0⟩,e,he,_,a6,⟨ys,ids⟩,m2,a1,⟨rfl,rfl⟩,_⟩:=h;exact .of_did A (Zqe C hF z M W b1 b3 D (Vy b0) he (X9 a6) a1)
   ·simp [Zb]at h
  ·simp [Zb]at h
 |nilCheck x=>
  rw[z]at h q;simp only[WD]at h;rw[ZD]at h;rcases h with ⟨hp,h⟩|⟨_,h⟩
  ·rw[ZQ]at h;obtain⟨u,m,O,h⟩:=h;simp only[Zd,Vc]at h;obtain⟨⟨rfl,rfl⟩,_⟩:=h;exact .of_did A (ZsC C hF z O)
  ·exact q h
 |fieldAddr T x f=>
  rw[z]at h q;simp only[WD]at h;rw[ZD]at h;rcases h with ⟨hp,h⟩|⟨_,h⟩
  ·exact .of_did A (Zsz L C hF z hp h)
  ·exact q h
 |load T x=>
  rw[z]at h q;simp only[WD]at h;rw[ZD]at h;rcases h with ⟨hp,h⟩|⟨_,h⟩
  ·exact .of_did A (ZsA L C hF z hp h)
  split at h
  ·rename_i id j G;rw[ZN]at h;split at h
   ·rename_i lb xs D;simp only[ZD,Zu,Zd,Zb,ZJ,ZY,Kd,Vc]at h;obtain⟨N,y,R,⟨rfl,rfl⟩,_⟩:=h;exact .of_did A (Zuk L C hF z G D N R)
   ·simp [Zb]at h
  ·exact q h
 |store T x y=>
  rw[z]at h q;simp only[WD]at h;rw[ZD]at h;rcases h with ⟨hp,h⟩|⟨_,h⟩
  ·rw[Zu]at h;obtain⟨t,N,h⟩:=h;rw[ZQ]at h;obtain⟨⟨d,ids⟩,m,O,h⟩:=h;split at h
   ·rename_i id p G;rw[ZD]at h;rcases h with ⟨_,h⟩|⟨W,h⟩
    ·simp [Zb]at h
    rw[ZN]at h;split at h
    ·rename_i t0 c D;rw[ZQ]at h;obtain⟨c',m',h2,h⟩:=h;simp only[Zd,Vc]at h;obtain⟨⟨rfl,rfl⟩,_⟩:=h;exact .of_did A (ZsD L C hF z N G O W D h2)
    ·simp [Zb]at h
   ·simp [Zb]at h
  exact q h
 |binOp b T x y T' =>
  rw[z]at h q;simp only[WD]at h;split at h
  ·rename_i t d G R;rw[Zu]at h;obtain⟨r,X,h⟩:=h;rw[ZD]at h;rcases h with ⟨hb,h⟩|⟨_,h⟩
   ·have S:=ZsB (nid:=nid) L C hF z G R X (beq_iff_eq.1 hb);split at h
    ·simp only[Zd,Vc]at h;obtain⟨⟨rfl,rfl⟩,_⟩:=h;exact .of_did A (S.1 rfl)
    ·simp only[Zd,Vc]at h;obtain⟨⟨rfl,rfl⟩,_⟩:=h;exact .of_did A (S.2 rfl)
    ·simp [Zb]at h
   ·simp [Zb]at h
  ·rename_i t d t' d' G R;rw[ZD]at h;rcases h with ⟨hb,h⟩|⟨_,h⟩
   ·simp only[Va,Kd]at hb;obtain⟨⟨N,rfl⟩,hz⟩:=hb
    have hz:t'.size≠0:=by intro e;rw[e]at hz;simp at hz
    have S:=Zsp (nid:=nid) L C hF z G R N hz;split at h
    ·simp only[Zd,Vc]at h;obtain⟨⟨rfl,rfl⟩,_⟩:=h;exact .of_did A (S.1 rfl)
    ·simp only[Zd,Vc]at h;obtain⟨⟨rfl,rfl⟩,_⟩:=h;exact .of_did A (S.2 rfl)
    ·simp [Zb]at h
   ·simp [Zb]at h
  ·have R:Zt F y=.nils:=by assumption
   rw[ZD]at h;rcases h with ⟨hb,h⟩|⟨_,h⟩
   ·rw[ZQ]at h;obtain⟨r,m,O,h⟩:=h;have S:=Zsa (nid:=nid) L C hF z R hb O;split at h
    ·simp only[Zd,Vc]at h;obtain⟨⟨rfl,rfl⟩,_⟩:=h;exact .of_did A (S.1 rfl)
    ·simp only[Zd,Vc]at h;obtain⟨⟨rfl,rfl⟩,_⟩:=h;exact .of_did A (S.2 rfl)
    ·simp [Zb]at h
   ·exact q h
  ·exact q h
 |_=>rw[z]at h q;exact q h
end ops
end Tr
end
section
namespace Tr
open Go
section congr
variable {E:Z3}{nid:Nat}{T:TypeId}{ev ev' :Operand->AV}
theorem Zao{o:Option Operand}(h:∀x∈o,ev x=ev' x):Xr ev o=Xr ev' o:=by
 cases o with
 |none=>rfl
 |some x=>simp [Xr,h x (by simp)]
theorem ZbC{o:Option Operand}(h:∀x∈o,ev x=ev' x):(o.bind fun o=>KF (ev o))=o.bind fun o=>KF (ev' o):=by
 cases o with
 |none=>rfl
 |some x=>grind
theorem ZnB(op:Op)(h:∀x∈op.operands,ev x=ev' x):ZG E nid op T ev=ZG E nid op T ev' :=by
 have A:∀e:Array (Nat×Operand),(∀x∈e.toList.map (·.2),ev x=ev' x)->(e.toList.map fun p=>(p.1,ev p.2))=(e.toList.map fun p=>(p.1,ev' p.2)):=fun e Q=>
  List.map_congr_left (by grind)
 have lists:∀xs:List Operand,(∀x∈xs,ev x=ev' x)->xs.map ev=xs.map ev' :=by simp
 cases op<;>simp only[Op.operands]at h<;>simp only[ZG]
 case move x=>grind
 case assign x=>grind
 case pick c x y=>grind
 case box T x=>grind
 case build T e=>grind
 case buildSlice T n e=>grind
 case load T x=>grind
 case store T x y=>simp_all
 case nilCheck x=>grind
 case binOp op T x y N=>grind
 case unOp op T x=>grind
 case convert S T x=>grind
 case makeFunc fn first C=>
  cases fn<;>simp only
  grind
 case makeMap T r=>
  grind
 case makeSlice T l c=>grind
 case slice T x D d M=>
  cases M with
  |some m=>
   cases d with
   |none=>rfl
   |some d=>
    have j:∀y∈D,ev y=ev' y:=by simp_all
    have q:ev d=ev' d:=by grind
    have G:ev m=ev' m:=h m (by simp);have J:Xr ev (some d)=Xr ev' (some d):=Zao (by grind);simp only
    rw[h x (by simp),Zao j,J,ZbC j,q,G]
  |none=>
   simp only;have j:∀y∈D,ev y=ev' y:=by simp_all
   have q:∀y∈d,ev y=ev' y:=by simp_all
   rw[h x (by simp),Zao j,Zao q,ZbC j,ZbC q]
 case fieldAddr T x f=>grind
 case field T x f=>grind
 case indexAddr T x i=>grind
 case index T x i=>grind
 case lookup T m k ok=>grind
 case mapUpdate T m k x=>grind
 case range T x=>grind
 case next it s=>cases s<;>simp only;grind
 case entry it=>grind
 case extract t i=>grind
 case call c=>
  have z:∀x∈c.args.toList,ev x=ev' x:=fun x L=>h x (by simp [Call.operands,Vr.1 L])
  cases K:c.callee with
  |value f=>
   have O:ev f=ev' f:=h f (by simp [Call.operands,K])
   grind
  |invoke r m=>rfl
  |builtin b=>
   cases b<;>simp only
   all_goals grind
theorem ZnL(op:Op)(h:∀x∈op.operands,ev x=ev' x):WD E nid op T ev=WD E nid op T ev' :=by
 have A:=ZnB (E:=E) (nid:=nid) (T:=T) op h;have lists:∀xs:List Operand,(∀x∈xs,ev x=ev' x)->xs.map ev=xs.map ev' :=by simp
 cases op
 all_goals simp only[Op.operands]at h
 all_goals simp only[WD,A]
 case load T x=>rw[h x (by simp)]
 case nilCheck x=>rw[h x (by simp)]
 case indexAddr T x i=>rw[h x (by simp),h i (by simp)]
 case slice T x D C K=>
  have e:∀y∈D,ev y=ev' y:=by simp_all
  have j:∀y∈C,ev y=ev' y:=by simp_all
  rw[h x (by simp),Zao e,Zao j,ZbC e,ZbC j]
 case mapEntry T m k=>rw[h m (by simp),h k (by simp)]
 case entryStore T m s x=>rw[h m (by simp),h s (by simp),h x (by simp)]
 case fieldAddr T x f=>rw[h x (by simp)]
 case store T x y=>rw[h x (by simp),h y (by simp)]
 case binOp op T x y G=>rw[h x (by simp),h y (by simp)]
 case makeFunc fn first q=>rw[lists first.toList fun x p=>h x (by simp [Vr.1 p])]
 case call c=>
  have d:∀x∈c.args.toList,ev x=ev' x:=fun x p=>h x (by simp [Call.operands,Vr.1 p])
  cases J:c.callee with
  |value f=>rfl
  |invoke r m=>rfl
  |builtin b=>
   cases b<;>simp only
   case clear=>
    rcases n:c.args.toList with _|⟨x,_|⟨y,l⟩⟩
    ·rfl
    ·have e:=d x (by simp [n])
     cases (c.argTypes[0]?).bind E.ty with
     |none=>rfl
     |some t=>cases t<;>first|rfl|(simp only[e])
    ·rfl
   case append=>
    rcases n:c.args.toList with _|⟨x,_|⟨y,_|⟨z,l⟩⟩⟩
    ·rfl
    ·rfl
    ·have e:=d x (by simp [n]);have j:=d y (by simp [n])
     cases (c.argTypes[0]?).bind E.ty with
     |none=>rfl
     |some t=>cases t<;>first|rfl|(rename_i u;cases u<;>first|rfl|(simp only[e,j]))
    ·rfl
   all_goals grind
end congr
theorem Zky{t:Nat} :∀{l:List Operand},t∈R4 l↔.tmp t∈l
 |[]=>by simp [R4]
 |x::l=>by cases x<;>simp [R4,Zky]
theorem Znn{F b:Nat->AV}{l:List Operand}(h:∀t∈R4 l,F t=b t):∀x∈l,Zt F x=Zt b x:=by
 intro x c
 cases x with
 |tmp t=>exact h t (Zky.2 c)
 |_=>rfl
def YE(ops:Array Oper)(o:Oper)(F:Nat->AV):Option Bool:=
 match o.guard with
 |none=>some true
 |some (j,want)=>match (ops[j]?).bind (·.dst) with
  |none=>none
  |some g=>match F g with
   |.d .bool b=>some (b==want)
   |.tup .nil=>some false
   |_=>none
noncomputable def Xa(E:Z3)(ops:Array Oper)(base:Nat)(fz:List Nat)(i:Nat)(o:Oper)(F:Nat->AV)(H:AH):Option ((Nat->AV) ×AH×Option K3):=
 match YE ops o F with
 |none=>none
 |some false=>if Yy E o.dst=true then some (WL F o.dst Zbe,H,none) else none
 |some true=>if Yy E o.dst=true then((WD E (base+i*E.stp) o.op o.type (Zt F)).run H []).bind fun r=>
   if JJ (r.1.2.map Vq) fz=true then some (WL F o.dst r.1.1,Zn H r.1.2,some ⟨i,r.2,r.1.2.map Vq⟩) else none else none
theorem Zmv{F:Nat->AV}{g:Nat}{v:AV}(h:F g=v):Xi F g v=F:=by
 funext k;unfold Xi
 cases b:Vg k g with
 |true=>simp_all
 |false=>rfl
section
variable {E:Z3}{ops:Array Oper}{base:Nat}{fz:List Nat}
theorem Zob{ρ:Type}{o:Oper}{i:Nat}{rest:List (Oper×Nat)}{F:Nat->AV}{H:AH}{l:List K3}{k:(Nat->AV)->AH->List K3->Option ρ}{r:ρ}(h:Yv E ops base fz ρ ((o,i)::rest) F H l k=some r):
 ∃d H1 t,Xa E ops base fz i o F H=some (d,H1,t)/\Yv E ops base fz ρ rest d H1 (t.toList++l) k=some r:=by
 have go:YE ops o F=some true->(bif Yy E o.dst then
  (WD E (base+i*E.stp) o.op o.type (Zt F)).runK H [] fun r rd=>
    bif JJ (r.2.map Vq) fz then
     Yv E ops base fz ρ rest (WL F o.dst r.1) (Zn H r.2) (⟨i,rd,r.2.map Vq⟩::l) k else none else none)=some r->
  ∃d H1 t,Xa E ops base fz i o F H=some (d,H1,t)/\Yv E ops base fz ρ rest d H1 (t.toList++l) k=some r:=by
  intro n h
  cases m:Yy E o.dst with
  |false=>grind
  |true=>
   rw[m]at h;simp only[Zc,Zq.runK_eq]at h
   cases q:(WD E (base+i*E.stp) o.op o.type (Zt F)).run H [] with
   |none=>grind
   |some y=>
    rw[q]at h;simp only[Za]at h
    cases p:JJ (y.1.2.map Vq) fz with
    |false=>grind
    |true=>
     rw[p]at h;exact⟨WL F o.dst y.1.1,Zn H y.1.2,some ⟨i,y.2,y.1.2.map Vq⟩,by simp [Xa,n,m,q,p],by grind⟩
 have skip:YE ops o F=some false->(bif Yy E o.dst then Yv E ops base fz ρ rest (WL F o.dst Zbe) H l k else none)=some r->
  ∃d H1 t,Xa E ops base fz i o F H=some (d,H1,t)/\Yv E ops base fz ρ rest d H1 (t.toList++l) k=some r:=by
  intro n h
  cases m:Yy E o.dst with
  |false=>grind
  |true=>
   rw[m]at h;exact⟨WL F o.dst Zbe,H,none,by simp [Xa,n,m],by grind⟩
 simp only[Yv]at h
 cases f:o.guard with
 |none=>
  rw[f]at h
  exact go (by simp [YE,f]) h
 |some s=>
  obtain⟨j,want⟩:=s;rw[f]at h;simp only at h;split at h
  ·grind
  ·rename_i g c;split at h
   ·rename_i b e
    cases b with
    |true=>
     rw[Zmv e]at h;simp only[Zc]at h
     cases want with
     |true=>exact go (by simp [YE,f,c,e]) h
     |false=>exact skip (by simp [YE,f,c,e]) h
    |false=>
     rw[Zmv e]at h;simp only[Ze]at h
     cases want with
     |true=>exact skip (by simp [YE,f,c,e]) h
     |false=>exact go (by simp [YE,f,c,e]) h
   ·rename_i e;exact skip (by simp [YE,f,c,e]) h
   grind
inductive AE (E:Z3) (ops:Array Oper) (base:Nat) (fz:List Nat):List (Oper×Nat)->(Nat->AV)->AH->List K3->(Nat->AV)->AH->List K3->Prop
 |nil {F H tr} :AE E ops base fz [] F H tr F H tr
 |cons {o i rest F H tr F1 H1 t F' H' tr'} (h:Xa E ops base fz i o F H=some (F1,H1,t)) (h' :AE E ops base fz rest F1 H1 (t.toList++tr) F' H' tr'):AE E ops base fz ((o,i)::rest) F H tr F' H' tr'
theorem Zc9{ρ:Type} :∀{l:List (Oper×Nat)}{F:Nat->AV}{H:AH}{c:List K3}{k:(Nat->AV)->AH->List K3->Option ρ}{r:ρ},Yv E ops base fz ρ l F H c k=some r->∃d H' b,AE E ops base fz l F H c d H' b/\k d H' b=some r
 |[],F,H,c,k,r,h=>⟨F,H,c,.nil,by assumption⟩
 |(o,i)::rest,F,H,c,k,r,h=>by obtain⟨n,H1,t,e,f⟩:=Zob h;obtain⟨d,H',b,j,m⟩:=Zc9 f;exact⟨d,H',b,.cons e j,m⟩
inductive YI (E:Z3) (ops:Array Oper) (base:Nat) (fz:List Nat) (T:Nat->Option K3):List Nat->(Nat->AV)->AH->(Nat->AV)->AH->Prop
 |nil {F H} :YI E ops base fz T [] F H F H
 |cons {o i rest F H F1 H1 F' H'} (ho:ops[i]? =some o) (h:Xa E ops base fz i o F H=some (F1,H1,T i)) (h' :YI E ops base fz T rest F1 H1 F' H'):YI E ops base fz T (i::rest) F H F' H'
theorem Zfv{i:Nat}{o:Oper}{F b:Nat->AV}{H H1:AH}{t:K3}(h:Xa E ops base fz i o F H=some (b,H1,some t)):t.i=i:=by
 unfold Xa at h;split at h
 ·grind
 ·grind
 ·split at h
  ·cases c:(WD E (base+i*E.stp) o.op o.type (Zt F)).run H [] with
   |none=>grind
   |some y=>
    grind
  grind
theorem Zml{i:Nat}{t:Option K3}{b:List K3}(h:∀u∈t,u.i≠i):XT i (t.toList++b)=XT i b:=by
 cases t with
 |none=>rfl
 |some u=>
  have:Vg u.i i=false:=by
   cases c:Vg u.i i
   all_goals simp_all
  simp [XT,this]
theorem AE.other:∀{l:List (Oper×Nat)}{F:Nat->AV}{H:AH}{c:List K3}{d:Nat->AV}{H' :AH}{b:List K3},AE E ops base fz l F H c d H' b->∀i,(∀p∈l,p.2≠i)->XT i b=XT i c:=by
 intro l F H c d H' b h
 induction h with
 |nil=>simp
 |cons h j f=>
  intro i k;rw[f i (by grind)];refine Zml fun u e=>?_;simp only[Vta]at e;subst e;rw[Zfv h]
  simp_all
theorem AE.ex:∀{l:List (Oper×Nat)}{F:Nat->AV}{H:AH}{d:List K3}{c:Nat->AV}{H' :AH}{b:List K3},AE E ops base fz l F H d c H' b->(l.map Vx).Nodup->(∀p∈l,ops[p.2]? =some p.1)->(∀p∈l,XT p.2 d=none)->
 YI E ops base fz (fun i=>XT i b) (l.map Vx) F H c H' :=by
 intro l F H d c H' b h
 induction h with
 |nil=>intros;exact .nil
 | @cons o i rest F H d q H1 t c H' b h j n=>
   intro e k s;simp only[Vv,Vba]at e
   have m:XT i b=t:=by
    rw[j.other i (by grind)]
    cases t with
    |none=>simp_all
    |some u=>simp [XT,Zfv h]
   refine .cons (k _ (List.mem_cons_self ..)) (by grind) (n e.2 (by grind) fun p r=>?_);rw[Zml fun u f=>?_]
   ·grind
   ·simp only[Vta]at f;subst f;rw[Zfv h]
    grind
theorem Dh{F:Nat->AV}{d:Option Nat}{v:AV}{k:Nat}(h:∀e,d=some e->k≠e):WL F d v k=F k:=by
 cases d with
 |none=>rfl
 |some e=>
  have:Vg k e=false:=by
   cases b:Vg k e
   all_goals simp_all
  simp [WL,Xi,this]
theorem ZsE{F:Nat->AV}{d e:Option Nat}{v u:AV}(h:∀x,d=some x->e≠some x):WL (WL F d v) e u=WL (WL F e u) d v:=by
 funext k;by_cases i:∃x,d=some x/\k=x
 ·obtain⟨x,rfl,rfl⟩:=i;have f:∀y,e=some y->k≠y:=by grind
  rw[Dh f];simp [WL,Xi]
 ·have b:∀x,d=some x->k≠x:=by grind
  rw[Dh b];by_cases f:∃y,e=some y/\k=y
  ·obtain⟨y,rfl,rfl⟩:=f;simp [WL,Xi]
  ·have c:∀x,e=some x->k≠x:=by grind
   rw[Dh c,Dh c,Dh b]
theorem Zk4:∀{l m:Kq}{H:AH},(∀p∈l,∀q∈m,p.1≠q.1)->Zn (Zn H l) m=Zn (Zn H m) l
 |[],m,H,_=>rfl
 |p::l,m,H,h=>by simp only[Zn];rw[Zk4 (by grind),Zem (by grind)]
structure Stp (E:Z3) (ops:Array Oper) (i:Nat) (o:Oper) (F:Nat->AV) (H:AH) (F1:Nat->AV) (H1:AH) (t:Option K3) (v:AV) (pa:Kq):Prop where
 dst:Yy E o.dst=true
 F:F1=WL F o.dst v
 H:H1=Zn H pa
 wr:∀p∈pa,∃u,t=some u/\p.1∈u.wr
theorem Zda{i:Nat}{o:Oper}{F z:Nat->AV}{H H1:AH}{t:Option K3}(h:Xa E ops base fz i o F H=some (z,H1,t)):
 ∃v pa,Stp E ops i o F H z H1 t v pa/\ ∀b d,(∀k∈Gk ops o,b k=F k)->(∀u,t=some u->∀id∈u.rd,d id=H id)->Xa E ops base fz i o b d=some (WL b o.dst v,Zn d pa,t):=by
 have n:∀b:Nat->AV,(∀k∈Gk ops o,b k=F k)->YE ops o b=YE ops o F:=by
  intro b c;unfold YE
  cases G:o.guard with
  |none=>rfl
  |some M=>
   obtain⟨j,want⟩:=M;simp only
   cases q:(ops[j]?).bind (·.dst) with
   |none=>rfl
   |some g=>simp only;rw[c g (by simp [Gk,G,q])]
 have p:∀b:Nat->AV,(∀k∈Gk ops o,b k=F k)->WD E (base+i*E.stp) o.op o.type (Zt b)=WD E (base+i*E.stp) o.op o.type (Zt F):=by intro b c;refine ZnL o.op fun x L=>Znn (l:=o.op.operands.toList) (fun t K=>c t (by simp [Gk,K])) x (Vr.2 L)
 unfold Xa at h;split at h
 ·grind
 ·rename_i s;split at h
  ·rename_i e;simp only[Option.some.injEq,Vc]at h;obtain⟨rfl,rfl,rfl⟩:=h;exact⟨Zbe,[],⟨e,rfl,rfl,by simp⟩,fun b d c _=>by simp [Xa,n b c,s,e,Zn]⟩
  grind
 ·rename_i s;split at h
  ·rename_i e
   cases C:(WD E (base+i*E.stp) o.op o.type (Zt F)).run H [] with
   |none=>grind
   |some y=>
    obtain⟨⟨v,pa⟩,rd⟩:=y;rw[C]at h;simp only[Za]at h;split at h
    ·rename_i J;simp only[Option.some.injEq,Vc]at h;obtain⟨rfl,rfl,rfl⟩:=h;refine⟨v,pa,⟨e,rfl,rfl,by grind⟩,fun b d c D=>?_⟩;obtain⟨m,A,f⟩:=Zq.run_local (H' :=d) _ _ _ _ C;simp only[List.append_nil]at A;have:=f fun id r=>D _ rfl id (by rw[A];exact r);simp [Xa,n b c,s,e,p b c,this,J]
    grind
  grind
def Ze8(ops:Array Oper)(T:Nat->Option K3)(i j:Nat):Prop:=
 ∀a b,ops[i]? =some a->ops[j]? =some b->ZeA ops a b=true/\ ∀u v,T i=some u->T j=some v->JJ u.wr v.rd=true/\JJ u.wr v.wr=true/\JJ v.wr u.rd=true
theorem ZtC{a b:Oper}(h:ZeA ops a b=true):(∀d,a.dst=some d->d ∉ Gk ops b/\b.dst≠some d)/\ ∀d,b.dst=some d->d ∉ Gk ops a:=by
 unfold ZeA at h;simp only[Va]at h;refine⟨fun d f=>?_,fun d f=>?_⟩
 ·have c:=h.1;rw[f]at c;simp only[Va,Vl]at c;refine⟨fun i=>?_,fun j=>?_⟩
  ·rw[W9.2 i]at c;grind
  simp_all
 ·have e:=h.2;rw[f]at e;simp only[Vl]at e;intro i;rw[W9.2 i]at e;grind
theorem YI.swap{T:Nat->Option K3}{i j:Nat}{l:List Nat}{F N:Nat->AV}{H H' :AH}(h:YI E ops base fz T (i::j::l) F H N H')(hi:Ze8 ops T i j):YI E ops base fz T (j::i::l) F H N H' :=by
 cases h with
 | @cons K _ _ _ _ Q H1 _ _ d h1 Z=>
   cases Z with
   | @cons n _ _ _ _ R S _ _ f h2 s=>
     obtain⟨hs,ht⟩:=hi K n d f;obtain⟨a0,a3⟩:=ZtC hs;obtain⟨v1,p1,c,V⟩:=Zda h1;obtain⟨M,L,r,W⟩:=Zda h2
     have t:∀k∈Gk ops n,F k=Q k:=fun k hk=>by rw[c.F,Dh (by grind)]
     have y:∀u,T j=some u->∀id∈u.rd,H id=H1 id:=fun u hu id b=>by rw[c.H,Zco fun p m e=>?_];obtain⟨u1,A,D⟩:=c.wr p m;exact DN.1 (by grind) _ D (e▸b)
     have U:=W F H t y;have x:∀k∈Gk ops K,WL F n.dst M k=F k:=fun k hk=>Dh (by grind)
     have z:∀u,T i=some u->∀id∈u.rd,Zn H L id=H id:=fun u hu id b=>Zco fun p m e=>by obtain⟨u2,C,D⟩:=r.wr p m;exact DN.1 (by grind) _ D (e▸b)
     have O:=V (WL F n.dst M) (Zn H L) x z
     have X:WL (WL F n.dst M) K.dst v1=R:=by rw[r.F,c.F,ZsE (by grind)]
     have Y:Zn (Zn H L) p1=S:=by rw[r.H,c.H];refine Zk4 fun p m q hq e=>?_;obtain⟨u2,C,J⟩:=r.wr p m;obtain⟨u1,A,G⟩:=c.wr q hq;exact DN.1 (by grind) _ G (e▸J)
     rw[X,Y]at O;exact .cons f U (.cons d O s)
theorem YI.front{T:Nat->Option K3}{i:Nat}{l:List Nat}{b:Nat->AV}{H' :AH} :∀{pre:List Nat}{F:Nat->AV}{H:AH},YI E ops base fz T (pre++i::l) F H b H' ->(∀j∈pre,Ze8 ops T j i)->YI E ops base fz T (i::(pre++l)) F H b H'
 |[],_,_,h,_=>h
 |j::pre,F,H,h,f=>by
  cases h with
  |cons e d c=>exact(YI.cons e d (YI.front c (by grind))).swap (by grind)
end
end Tr
end
section
namespace Tr
open Go
theorem Kf.trans{w w1 d:World}{I J:Nat->Prop}(e:Kf I w w1)(f:Kf J w1 d)(h:∀b,I b->J b):Kf I w d:=fun b c=>(f b (h b c)).trans (e b c)
theorem Zg6{a:Act}{d:Option Nat}{v:Value}{t:Nat}(h:∀e,d=some e->t≠e):(a.put d v).tmps.getD t undef=a.tmps.getD t undef:=by
 cases d with
 |none=>rfl
 |some e=>simp [Act.put,Array.getElem?_setIfInBounds_ne (Ne.symm (h e rfl))]
theorem ZsF{a:Act}{d:Nat}{v:Value}(h:d<a.tmps.size):(a.put (some d) v).tmps.getD d undef=v:=by simp [Act.put,h]
theorem Zg7{a:Act}{d:Option Nat}{v:Value} :(a.put d v).tmps.size=a.tmps.size:=by cases d<;>simp [Act.put]
theorem Zg5{a:Act}{d:Option Nat}{v:Value} :(a.put d v).defers=a.defers:=by cases d<;>rfl
theorem Zeg{E:Z3}{d:Nat}(h:Yy E (some d)=true):d<E.nt/\d ∉ E.ks:=by simp only[Yy,Va,Vl]at h;refine⟨by simp_all,fun b=>?_⟩;rw[W9.2 b]at h;grind
theorem Fr.put{w:World}{g:Gh}{F:Nat->AV}{a:Act}{d:Option Nat}{v:AV}{val:Value}(h:Fr w g F a.tmps)(i:VR w g v val)(c:∀e,d=some e->e<a.tmps.size):Fr w g (WL F d v) (a.put d val).tmps:=by
 intro t;by_cases f:d=some t
 ·subst f;rw[ZsF (c t rfl)];simpa [WL,Xi] using i
 ·have b:∀e,d=some e->t≠e:=by grind
  rw[Dh b,Zg6 b];exact h t
section
variable {P:Program}{E:Z3}{B:ZS}{ops:Array Oper}{base:Nat}{fz:List Nat}
theorem ZhO{w:World}{g:Gh}{F:Nat->AV}{a:Act}{o:Oper}{b:Bool}(hF:Fr w g F a.tmps)(h:YE ops o F=some b):Region.wanted o (yielded ops a.tmps)=b:=by
 unfold YE at h;unfold Region.wanted
 cases m:o.guard with
 |none=>grind
 |some n=>
  obtain⟨j,want⟩:=n;rw[m]at h;simp only at h⊢
  cases c:(ops[j]?).bind (·.dst) with
  |none=>grind
  |some d=>
   rw[c]at h;simp only at h;have e:=hF d;split at h
   ·rename_i x i;rw[i]at e;have e:=e.bool
    have l:a.tmps[d]? =some (.bool x):=by
     cases k:a.tmps[d]? with
     |none=>simp [k,undef]at e
     |some u=>simp_all
    simp only[yielded,c,Za,l]
    simp_all
   ·rename_i i;rw[i]at e;obtain⟨vs,e,f⟩:=e;simp only[Wt]at f;subst f
    have l:yielded ops a.tmps j=none:=by
     simp only[yielded,c,Za]
     cases k:a.tmps[d]? with
     |none=>rfl
     |some u=>simp_all
    grind
   grind
theorem Zon(J:ZX P E)(G:Jv P E B){i:Nat}{o:Oper}{F p:Nat->AV}{H H1:AH}{t:Option K3}{w:World}{g:Gh}{ow:Nat->Nat->Prop}{a:Act}(L:ops[i]? =some o)
 (h:Xa E ops base fz i o F H=some (p,H1,t)) (x:RH B H w g ow) (hF:Fr w g F a.tmps) (c:a.tmps.size=E.nt) (M:∀id,g.K id->id<base+i*E.stp\/base+i*E.stp+E.stp<=id) {K:Act->World->Prop}{Q:Exit->Act->World->Prop}
 (s:∀f w' g' d,RH B H1 w' g' d->Fr w' g' p f.tmps->f.tmps.size=E.nt->f.defers=a.defers->g.Le g' ->Kf g.I w w' ->(∀id,g'.K id->g.K id\/(base+i*E.stp<=id/\id<base+i*E.stp+E.stp))->
   (∀t∈E.ks,f.tmps.getD t undef=a.tmps.getD t undef)->K f w'):wpOp P ops Q i K a w:=by
 unfold wpOp;rw[L];simp only
 have j:∀v,Yy E o.dst=true->∀t∈E.ks,(a.put o.dst v).tmps.getD t undef=a.tmps.getD t undef:=fun v b t N=>Zg6 fun e l m=>by rw[l]at b;exact(Zeg b).2 (m▸N)
 have k:Yy E o.dst=true->∀e,o.dst=some e->e<a.tmps.size:=fun b e l=>by rw[l]at b;rw[c];exact(Zeg b).1
 unfold Xa at h;split at h
 ·grind
 ·rename_i n;split at h
  ·rename_i b;simp only[Option.some.injEq,Vc]at h;obtain⟨rfl,rfl,rfl⟩:=h;rw[ZhO hF n];simp only[Vma,if_false];exact s _ w g ow x (hF.put ⟨[],rfl,rfl⟩ (k b)) (Zg7.trans c) Zg5 (.refl g) (fun _ _=>rfl) (by grind) (j _ b)
  grind
 ·rename_i n;split at h
  ·rename_i b
   cases z:(WD E (base+i*E.stp) o.op o.type (Zt F)).run H [] with
   |none=>grind
   |some y=>
    obtain⟨⟨v,O⟩,rd⟩:=y;rw[z]at h;simp only[Za]at h;split at h
    ·simp only[Option.some.injEq,Vc]at h;obtain⟨rfl,rfl,rfl⟩:=h;rw[ZhO hF n];simp only[if_true];refine .inl (Zn3 J G x hF M z _ _ fun val w' g' d A q r C D=>?_);exact s _ w' g' d A ((hF.mono r q).put C (k b)) (Zg7.trans c) Zg5 q r D (j _ b)
    grind
  grind
theorem Zs1{b s i j id:Nat}(c:j≠i)(d:b+j*s<=id)(e:id<b+j*s+s):id<b+i*s\/b+i*s+s<=id:=by
 rcases Nat.lt_or_ge j i with h|h
 ·left;have:=Vs s (show j+1<=i from h);rw[Via]at this;omega
 ·right;have:=Vs s (show i+1<=j by omega);rw[Via]at this;omega
theorem Zhd{b s n j id:Nat}(h:j<n)(c:id<b+j*s+s):id<b+n*s:=by have:=Vs s (Vpa h);rw[Via]at this;omega
structure RI (E:Z3) (B:ZS) (base:Nat) (U:Nat->Prop) (F:Nat->AV) (H:AH) (w:World) (a:Act) (g:Gh) (ow:Nat->Nat->Prop) (L:Nat->Prop):Prop where
 rh:RH B H w g ow
 fr:Fr w g F a.tmps
 nt:a.tmps.size=E.nt
 df:a.defers=[]
 ids:∀id,g.K id->(id<base\/U id)\/ ∃j,L j/\base+j*E.stp<=id/\id<base+j*E.stp+E.stp
structure Lk (E:Z3) (w:World) (g:Gh) (a:Act) (w' :World) (g' :Gh) (a' :Act):Prop where
 le:g.Le g'
 ag:Kf g.I w w'
 ks:∀t∈E.ks,a'.tmps.getD t undef=a.tmps.getD t undef
theorem Lk.refl(w:World)(g:Gh)(a:Act):Lk E w g a w g a:=⟨.refl g,fun _ _=>rfl,by simp⟩
theorem Lk.trans{w w1 i:World}{g d e:Gh}{a b c:Act}(h:Lk E w g a w1 d b)(k:Lk E w1 d b i e c):Lk E w g a i e c:=
 ⟨h.le.trans k.le,h.ag.trans k.ag h.le.I,fun t f=>(k.ks t f).trans (h.ks t f)⟩
structure Lb (E:Z3) (b t:Nat) (w:World) (g:Gh) (a:Act) (w' :World) (g' :Gh) (a' :Act):Prop extends Lk E w g a w' g' a' where
 nw:∀id,g'.K id->g.K id\/(b<=id/\id<t)
theorem Lb.refl{b t:Nat}(w:World)(g:Gh)(a:Act):Lb E b t w g a w g a:=⟨.refl w g a,fun _ h=>.inl h⟩
theorem Lb.trans{b t:Nat}{w w1 j:World}{g f i:Gh}{a d e:Act}(h:Lb E b t w g a w1 f d)(k:Lb E b t w1 f d j i e):Lb E b t w g a j i e:=
 ⟨h.toLk.trans k.toLk,fun id c=>(k.nw id c).elim (h.nw id) .inr⟩
theorem RI.step(O:ZX P E)(N:Jv P E B){i:Nat}{o:Oper}{F y:Nat->AV}{H H1:AH}{t:Option K3}{w:World}{g:Gh}{ow:Nat->Nat->Prop}{a:Act}{L U:Nat->Prop}(A:ops[i]? =some o)
 (h:Xa E ops base fz i o F H=some (y,H1,t)) (e:RI E B base U F H w a g ow L) (R:∀id,U id->base+ops.size*E.stp<=id) (hL:¬L i) {K:Act->World->Prop}{Q:Exit->Act->World->Prop}
 (M:∀f w' g' d,RI E B base U y H1 w' f g' d (fun j=>j=i\/L j)->Lb E base (base+ops.size*E.stp) w g a w' g' f->K f w'):wpOp P ops Q i K a w:=by
 have m:i<ops.size:=(Array.getElem?_eq_some_iff.1 A).1;refine Zon O N A h e.rh e.fr e.nt (fun id b=>?_) fun f w' g' d k l r C D G z J=>M f w' g' d ⟨k,l,r,C.trans e.df,fun id b=>?_⟩ ⟨⟨D,G,J⟩,fun id b=>(z id b).imp (fun h=>h) fun h=>⟨by omega,Zhd m h.2⟩⟩
 ·rcases e.ids id b with (k|k) |⟨j,k,l,r⟩
  ·omega
  ·have:=R id k;have l:=Vs E.stp (Vpa m);rw[Via]at l;omega
  ·have x:j≠i:=by grind
   exact Zs1 x l r
 ·rcases z id b with s|⟨s,n⟩
  ·rcases e.ids id s with c|⟨j,c,p,q⟩
   ·exact .inl c
   ·exact .inr ⟨j,.inr c,p,q⟩
  ·exact .inr ⟨i,.inl rfl,s,n⟩
theorem ZhR(y:ZX P E)(x:Jv P E B){T:Nat->Option K3}{Q:Exit->Act->World->Prop}{r:Nat->AV}{H' :AH} :∀{l:List Nat}{F:Nat->AV}{H:AH}{w:World}{g:Gh}{ow:Nat->Nat->Prop}{a:Act}{L U:Nat->Prop},
 YI E ops base fz T l F H r H' ->l.Nodup->(∀i∈l,¬L i)->(∀id,U id->base+ops.size*E.stp<=id)->RI E B base U F H w a g ow L->(∀c w' g' p,RI E B base U r H' w' c g' p (fun j=>j∈l\/L j)->Lb E base (base+ops.size*E.stp) w g a w' g' c->Q .normal c w')->wpOps P ops Q l a w
 |[],F,H,w,g,ow,a,L,U,h,_,_,_,t,e=>by
  cases h with
  |nil=>exact e a w g ow (by simp_all) (.refl w g a)
 |i::l,F,H,w,g,ow,a,L,U,h,J,hL,z,t,e=>by
  cases h with
  |cons M s D=>
   rw[wpOps_cons];obtain⟨K,n⟩:=Vba.1 J;refine t.step y x M s z (hL i (by simp)) fun R W S N d k=>ZhR y x D n (fun j V=>?_) z d fun A O C q b m=>e A O C q ⟨b.rh,b.fr,b.nt,b.df,fun id f=>?_⟩ (k.trans m)
   ·grind
   ·refine(b.ids id f).imp (fun h=>h) fun⟨j,s,G⟩=>⟨j,?_,G⟩
    grind
theorem ZiE:∀(l:List Oper) (acc:Array Nat),let r:=l.foldl (fun acc o=>acc.push (o.after.foldl (fun s e=>if Region.binds .any e then s ||| 2 ^ e.on ||| acc.getD e.on 0 else s) 0)) acc
 r.size=acc.size+l.length/\(∀k,k<acc.size->r.getD k 0=acc.getD k 0)/\
 ∀k o,l[k]? =some o->∀j,(r.getD (acc.size+k) 0).testBit j=true->∃e∈o.after,Region.binds .any e=true/\(e.on=j\/(e.on<acc.size+k/\(r.getD e.on 0).testBit j=true))
 |[],acc=>by simp
 |o::l,acc=>by
  intro r
  have i:=ZiE l (acc.push (o.after.foldl (fun s e=>if Region.binds .any e then s ||| 2 ^ e.on ||| acc.getD e.on 0 else s) 0))
  simp only[Array.size_push]at i;obtain⟨y,m,z⟩:=i;refine⟨by grind,fun k t=>?_,fun k A c j f=>?_⟩
  ·rw[show r.getD k 0=_ from m k (by omega)];simp [Vla,Nat.ne_of_lt t]
  ·cases k with
   |zero=>
    simp only[List.getElem?_cons_zero,Option.some.injEq]at c;subst c;rw[Nat.add_zero,show r.getD acc.size 0=_ from m acc.size (by omega)]at f;have q:∀X:Nat,(acc.push X).getD acc.size 0=X:=by simp
    rw[q]at f
    have key:∀(es:List Edge) (s:Nat),(es.foldl (fun s e=>if Region.binds .any e then s ||| 2 ^ e.on ||| acc.getD e.on 0 else s) s).testBit j=true->s.testBit j=true\/ ∃e∈es,Region.binds .any e=true/\(e.on=j\/(acc.getD e.on 0).testBit j=true):=by
     intro es
     induction es with
     |nil=>simp
     |cons e es i=>
      intro s h;simp only[List.foldl_cons]at h;rcases i _ h with h|⟨x,p,n⟩
      all_goals grind
    rw[<-Vna]at f;rcases key _ _ f with h|⟨e,p,n,d⟩
    ·grind
    ·refine⟨e,by grind,n,?_⟩;rcases d with d|d
     ·omega
     ·right
      have b:e.on<acc.size:=by
       grind
      refine⟨b,?_⟩;rw[show r.getD e.on 0=_ from m e.on (by omega)]
      simpa [Vla,Nat.ne_of_lt b] using d
   |succ k=>
    grind
theorem Zot{i:Nat}{o:Oper}(b:ops[i]? =some o){j:Nat}(h:((Region.before ops).getD i 0).testBit j=true):∃e∈o.after,Region.binds .any e=true/\(e.on=j\/(e.on<i/\((Region.before ops).getD e.on 0).testBit j=true)):=by have key:=ZiE ops.toList #[];simp only[Vna]at key;have:=key.2.2 i o (by simpa using b) j;simp only[List.size_toArray,List.length_nil,Nat.zero_add]at this;exact this h
theorem Zos{b:Array Bool}(f:∀i o,ops[i]? =some o->b.getD i false=true->∀e∈o.after,Region.binds .any e=true->b.getD e.on false=true)(h:∀i,b.getD i false=true->∃o,ops[i]? =some o){j:Nat} :
 ∀n i,i<n->∀o,ops[i]? =some o->(∀e∈o.after,Region.binds .any e=true->b.getD e.on false=true)->((Region.before ops).getD i 0).testBit j=true->b.getD j false=true:=by
 intro n
 induction n with
 |zero=>omega
 |succ n r=>
  intro i q o k c d;obtain⟨e,l,m,p⟩:=Zot k d
  grind
theorem Zuz(hT:ZX P E)(hS:Jv P E B){T:Nat->Option K3}{Q:Exit->Act->World->Prop}{F' :Nat->AV}{H' :AH}(q:Zgc ops=true)
 (A:∀i j,i<j->j<ops.size->((Region.before ops).getD j 0).testBit i=false->Ze8 ops T i j):∀(n:Nat) {l:List Nat}{b:Array Bool}{F:Nat->AV}{H:AH}{w:World}{g:Gh}{ow:Nat->Nat->Prop}{a:Act}{L U:Nat->Prop},
 YI E ops base fz T l F H F' H' ->l.length=n->l.Pairwise (· < ·)->b.size=ops.size->(∀i,i<ops.size->(i∈l↔b.getD i true=false))->(∀i∈l,i<ops.size)->
 (∀i o,ops[i]? =some o->b.getD i false=true->∀e∈o.after,Region.binds .any e=true->b.getD e.on false=true)->(∀i∈l,¬L i)->(∀id,U id->base+ops.size*E.stp<=id)->RI E B base U F H w a g ow L->
 (∀G w' g' a3,RI E B base U F' H' w' G g' a3 (fun j=>j∈l\/L j)->Lb E base (base+ops.size*E.stp) w g a w' g' G->Q .normal G w')->wpAny P .any ops Q n b a w:=by
 have r:∀i o,ops[i]? =some o->∀e∈o.after,Region.binds .any e=true->e.on<i:=by
  intro i o ho e D y;unfold Zgc at q;rw[Vt]at q
  have:=q (o,i) (by
   grind)
  rw[Array.all_eq_true_iff_forall_mem]at this;have:=this e D
  simp_all
 intro n
 induction n with
 |zero=>
  intro l b F H w g ow a L U h hn hs a0 Y X z hL M hI K;obtain rfl:=List.length_eq_zero_iff.1 hn
  cases h with
  |nil=>
   refine⟨?_,K a w g ow (by simp_all) (.refl w g a)⟩;rw[List.eq_nil_iff_forall_not_mem];intro j s;rw[mem_ready]at s
   grind
 |succ n ih=>
  intro l b F H w g ow a L U h hn hs a0 Y X z hL M hI K
  have f:∀i,i<ops.size->i ∉ l->b.getD i false=true:=by
   grind
  have W:∀i,b.getD i false=true->∃o,ops[i]? =some o:=by
   intro i O
   have:i<b.size:=by
    grind
   simp_all
  refine⟨fun a6=>?_,fun i O=>?_⟩
  ·exfalso
   cases l with
   |nil=>grind
   |cons i l=>
    have d:i<ops.size:=by simp [*]
    have:i∈Region.ready .any ops b:=by
     rw[mem_ready];refine⟨by grind,_,Vea d,fun e D y=>?_⟩;have a5:=r i _ (Vea d) e D y;refine f e.on (by omega) fun k=>?_;rcases Vj.1 k with t|t
     ·omega
     ·have:=(List.pairwise_cons.1 hs).1 _ t;omega
    grind
  ·rw[mem_ready]at O;obtain⟨h0,o,ho,x⟩:=O;have d:i<ops.size:=by grind
   have k:=(Y i d).2 h0;obtain⟨pre,post,rfl⟩:=List.append_of_mem k;have C:∀j∈pre,j<i:=by grind
   have m:=h.front fun j s=>by
    refine A j i (C j s) d ?_
    cases y:((Region.before ops).getD i 0).testBit j with
    |false=>rfl
    |true=>
     have a7:=Zos z W (i+1) i (Vu i) o ho x y
     grind
   cases m with
   |cons Z t h' =>
    have a8:(pre++i::post).Nodup:=hs.imp (by omega);have N:∀j,j∈pre++post->j∈pre++i::post:=by grind
    have a9:i ∉ pre++post:=by
     grind
    refine hI.step hT hS Z t M (hL i (by simp)) fun a1 w1 g1 b1 J S=>ih (l:=pre++post) (L:=fun j=>j=i\/L j) h' (by grind) ?_ (by grind) ?_ (by grind) ?_ ?_ M J ?_
    ·grind
    ·intro j s;by_cases p:j=i
     ·simp [*]
     ·rw[getD_set_ne true (Ne.symm p), <-Y j s]
      grind
    ·intro j o' b0 s e D y;by_cases p:j=i
     ·subst p;have e1:o=o' :=by grind
      exact getD_set_true (by grind)
     ·rw[getD_set_ne false (Ne.symm p)]at s;exact getD_set_true (by grind)
    ·grind
    ·intro a2 w2 g2 a4 c V;refine K a2 w2 g2 a4 ⟨c.rh,c.fr,c.nt,c.df,fun id R=>(c.ids id R).imp (fun h=>h) fun⟨j,t,h2⟩=>⟨j,?_,h2⟩⟩ (S.trans V)
     grind
end
end Tr
end
section
namespace Tr
open Go
structure SR (E:Z3) (B:ZS) (s:AS) (w:World) (g:Gh) (ow:Nat->Nat->Prop) (a:Act):Prop where
 rh:RH B s.H w g ow
 fr:Fr w g s.F a.tmps
 nt:a.tmps.size=E.nt
 df:a.defers=[]
 ids:∀id,g.K id->id<s.nx
 fz:∀id∈s.fz,Xe s.H id=true
structure Ln (E:Z3) (s:AS) (w:World) (g:Gh) (a:Act) (s' :AS) (w' :World) (g' :Gh) (a' :Act):Prop where
 lk:Lk E w g a w' g' a'
 fz:s'.fz=s.fz
 hz:∀id∈s.fz,s'.H id=s.H id
section
variable {P:Program}{E:Z3}{B:ZS}{ops:Array Oper}{base:Nat}{fz:List Nat}
theorem Ln.refl(s:AS)(w:World)(g:Gh)(a:Act):Ln E s w g a s w g a:=⟨.refl w g a,rfl,by simp⟩
theorem Ln.trans{s i s2:AS}{w w1 j:World}{g e f:Gh}{a c d:Act}(h:Ln E s w g a i w1 e c)(k:Ln E i w1 e c s2 j f d):Ln E s w g a s2 j f d:=
 ⟨h.lk.trans k.lk,k.fz.trans h.fz,fun id b=>(k.hz id (h.fz▸b)).trans (h.hz id b)⟩
theorem Zcj{H H' :AH}{id:Nat}(h:H' id=H id):Xe H' id=Xe H id:=by unfold Xe;rw[h]
theorem Zom{i:Nat}{o:Oper}{F c:Nat->AV}{H H1:AH}{t:Option K3}(h:Xa E ops base fz i o F H=some (c,H1,t)):∀id∈fz,H1 id=H id:=by
 unfold Xa at h;split at h
 ·grind
 ·grind
 ·split at h
  ·cases f:(WD E (base+i*E.stp) o.op o.type (Zt F)).run H [] with
   |none=>grind
   |some y=>
    rw[f]at h;simp only[Za]at h;split at h
    ·rename_i d;simp only[Option.some.injEq,Vc]at h;obtain⟨_,rfl,_⟩:=h;intro id b;refine Zco fun p j e=>?_;exact DN.1 d p.1 (by grind) (e▸b)
    grind
  grind
theorem AE.keptH{l:List (Oper×Nat)}{F d:Nat->AV}{H H' :AH}{f c:List K3}(h:AE E ops base fz l F H f d H' c):∀id∈fz,H' id=H id:=by
 induction h with
 |nil=>simp
 |cons h i e=>exact fun id b=>(e id b).trans (Zom h id b)
theorem AE.slots{l:List (Oper×Nat)}{F c:Nat->AV}{H H' :AH}{i b:List K3}(h:AE E ops base fz l F H i c H' b):∀k,(∀p∈l,p.1.dst≠some k)->c k=F k:=by
 induction h with
 |nil=>simp
 |cons h j f=>
  intro k n;obtain⟨v,q,s,_⟩:=Zda h;rw[f k (by grind),s.F,Dh fun e m d=>(by simp_all)]
theorem AE.traces{l:List (Oper×Nat)}{F d:Nat->AV}{H H' :AH}{c b:List K3}(h:AE E ops base fz l F H c d H' b):∀u∈c,u∈b:=by
 induction h with
 |nil=>simp
 |cons h e f=>grind
theorem AE.still{l:List (Oper×Nat)}{F d:Nat->AV}{H H' :AH}{f b:List K3}(h:AE E ops base fz l F H f d H' b):(∀u∈b,u.wr=[])->H' =H:=by
 induction h with
 |nil=>simp
 | @cons o i rest F H f n H1 t d H' b h j m=>
   intro e;obtain⟨v,c,s,_⟩:=Zda h
   have:c=[]:=by
    cases c with
    |nil=>rfl
    |cons p c=>
     obtain⟨u,k,q⟩:=s.wr p (by simp);have:=e u (j.traces u (by grind))
     grind
   rw[m e,s.H,this];rfl
theorem ZhS:ops.toList.zipIdx.map Vx=Vha ops.size:=by
 refine List.ext_getElem? fun i=>?_
 grind
theorem Zls(Y:P.follows .mixedOrders=true)(M:ZX P E)(K:Jv P E B){nx:Nat}{fz:List Nat}{F:Nat->AV}{H:AH}{U:Nat->Prop}{w:World}{g:Gh}{ow:Nat->Nat->Prop}{a:Act}(x:RI E B nx U F H w a g ow fun _=>False)(N:∀id,U id->nx+ops.size*E.stp<=id){id:Nat}{draw:Bool}{G:Nat->AV}{H' :AH}{b:List K3}
 (h:AE E ops nx fz ops.toList.zipIdx F H [] G H' b) (R:(!draw||Zay ops b)=true) {Q:Exit->Act->World->Prop}
 (J:∀m w' g' k,RI E B nx U G H' w' m g' k (fun j=>j<ops.size)->Lb E nx (nx+ops.size*E.stp) w g a w' g' m->Q .normal m w'):(Vra id ops draw).wp P Q a w:=by
 have f:=h.ex (by rw[ZhS];grind) (by grind) (fun _ _=>rfl);rw[ZhS]at f
 cases draw with
 |false=>
  refine wp_region (ZhR M K f Vz (L:=fun _=>False) (by simp) N x fun m w' g' k e q=>J m w' g' k ⟨e.rh,e.fr,e.nt,e.df,fun id p=>?_⟩ q)
  exact(e.ids id p).imp (fun h=>h) fun⟨j,W,X⟩=>by simp_all
 |true=>
  simp only[Vxa,Vya,Zay,Va,Bool.or_eq_true]at R;obtain⟨⟨n,r⟩,d⟩:=R;have V:W2 w {w with drawn:=w.drawn+1} :=⟨rfl,rfl,rfl,⟨rfl,by simp⟩⟩
  have s:∀i j,i<j->j<ops.size->((Region.before ops).getD j 0).testBit i=false->(i,j)∈ZeO ops:=by
   intro i j y S O;simp only[ZeO,List.mem_flatMap,Vua,Voa]
   grind
  refine wp_region_any Y (Zuz M K n (T:=fun i=>XT i b) (fun i j y S O=>?_) ops.size f (by simp) (List.pairwise_lt_range) (by simp) (fun i hi=>?_) (by simp) (fun i o ho q=>?_) (L:=fun _=>False) (by simp) N
   ⟨x.rh.same V,x.fr.mono (V.agree _) (.refl g),x.nt,x.df,x.ids⟩ fun m w' g' k e q=>J m w' g' k ⟨e.rh,e.fr,e.nt,e.df,fun id p=>?_⟩ ⟨⟨q.le,q.ag,q.ks⟩,q.nw⟩)
  ·intro oa ob a1 a2;have c:=s i j y S O;refine⟨?_,fun u v z C=>?_⟩
   ·have:=Vt.1 r (i,j) c
    grind
   ·rcases d with d|d
    ·have A:u.wr=[]:=by
      have Z:u∈b:=by
       clear c s f h d C r n
       induction b with
       |nil=>simp [XT]at z
       |cons t l ih=>
        simp only[XT]at z
        grind
      grind
     have D:v.wr=[]:=by
      have a0:v∈b:=by
       clear c s f h d z r n
       induction b with
       |nil=>simp [XT]at C
       |cons t l ih=>
        simp only[XT]at C
        grind
      grind
     rw[A,D];exact⟨rfl,rfl,rfl⟩
    ·have:=Vt.1 d (i,j) c;simp only[Zmk]at this
     grind
  ·simp_all
  ·exfalso;have:i<ops.size:=by grind
   simp_all
  ·exact(e.ids id p).imp (fun h=>h) fun⟨j,W,X⟩=>by simp_all
theorem Zh3{w:World}{g:Gh}{t b:Ty}{y:El b}{x:El t}{v:Value}(h:Kl b t y=some x)(c:VR w g (.d b y) v):VR w g (.d t x) v:=by obtain⟨rfl,rfl⟩:=Kv h;omega
theorem Fr.upd{w:World}{g:Gh}{F:Nat->AV}{tmps:Array Value}{n:Nat}{v:AV}(h:Fr w g F tmps)(c:VR w g v (tmps.getD n undef)):Fr w g (Xi F n v) tmps:=by
 intro t;unfold Xi
 cases b:Vg t n with
 |true=>simp_all
 |false=>exact h t
theorem ZjZ{w:World}{g:Gh}{F:Nat->AV}{tmps:Array Value}(hF:Fr w g F tmps):∀(l:List (Nat×Ty)) (x:ElT l) (b:Nat->AV),ZaV F l=some x->Fr w g b tmps->Fr w g (inT b l x) tmps
 |[],_,b,_,c=>c
 |[(n,t)],x,b,h,c=>by
  simp only[ZaV]at h;have d:=hF n;split at h
  ·rename_i j y e;rw[e]at d;simp only[inT];exact c.upd (Zh3 h d)
  grind
 |(n,t)::p::l,x,b,h,c=>by
  simp only[ZaV]at h;have d:=hF n;split at h
  ·rename_i j y e;rw[e]at d
   cases f:Kl j t y with
   |none=>grind
   |some z=>
    rw[f]at h;simp only[Za]at h
    cases i:ZaV F (p::l) with
    |none=>grind
    |some u=>
     rw[i]at h;simp only[Za,Option.some.injEq]at h;subst h;simp only[inT];exact ZjZ hF (p::l) u _ i (c.upd (Zh3 f d))
  grind
theorem ZsO(M:P.follows .mixedOrders=true)(L:ZX P E)(K:Jv P E B){s:AS}{w:World}{g:Gh}{ow:Nat->Nat->Prop}{a:Act}(f:SR E B s w g ow a){id:Nat}{draw:Bool}{outs:Option (List (Nat×Ty))}{ρ:Type}{k:AS->Option ρ}{r:ρ}
 (h:Zha E ops draw outs ρ s k=some r):(Vra id ops draw).wp P (fun e A w' =>∃s' g' i,e=.normal/\SR E B s' w' g' i A/\Ln E s w g a s' w' g' A/\k s' =some r) a w:=by
 have y:∀(g' :Gh) (id:Nat),(id<s.nx\/ ∃j,j<ops.size/\s.nx+j*E.stp<=id/\id<s.nx+j*E.stp+E.stp)->id<s.nx+ops.size*E.stp:=by
  intro g' id h;rcases h with h|⟨j,N,V,O⟩
  ·omega
  ·exact Zhd N O
 unfold Zha at h
 cases outs with
 |none=>
  simp only at h;obtain⟨C,D,m,c,q⟩:=Zc9 h
  cases n:(!draw||Zay ops m) with
  |false=>grind
  |true=>
   rw[n]at q;simp only[Zc]at q;refine Zls (U:=fun _=>False) M L K ⟨f.rh,f.fr,f.nt,f.df,fun id b=>.inl (.inl (f.ids id b))⟩ (fun _ h=>h.elim) c n fun A w' g' i d G=>⟨⟨C,D,s.nx+ops.size*E.stp,s.fz⟩,g',i,rfl,⟨d.rh,d.fr,d.nt,d.df,fun id b=>y g' id ((d.ids id b).imp (fun h=>h.resolve_right fun h=>h) fun h=>h),fun id b=>?_⟩,⟨G.toLk,rfl,fun id b=>c.keptH id b⟩,q⟩
   exact(Zcj (c.keptH id b)).trans (f.fz id b)
 |some l=>
  simp only at h;rw[Vb]at h;obtain⟨x,z,q⟩:=h;obtain⟨C,D,m,c,z⟩:=Zc9 z
  cases n:((!draw||Zay ops m) &&m.all (fun t=>t.wr.isEmpty)) with
  |false=>grind
  |true=>
   rw[n]at z;simp only[Zc]at z;simp only[Va]at n;have J:D=s.H:=c.still (by grind);subst J;refine Zls (U:=fun _=>False) M L K ⟨f.rh,f.fr,f.nt,f.df,fun id b=>.inl (.inl (f.ids id b))⟩ (fun _ h=>h.elim) c n.1 fun A w' g' i d G=>⟨⟨inT (ZgD (ZdE ops.toList) s.F) l x,s.H,s.nx+ops.size*E.stp,s.fz⟩,g',i,rfl,⟨d.rh,?_,d.nt,d.df,fun id b=>y g' id ((d.ids id b).imp (fun h=>h.resolve_right fun h=>h) fun h=>h),f.fz⟩,⟨G.toLk,rfl,by simp⟩,q⟩;refine ZjZ d.fr l x _ z fun t=>?_;unfold ZgD
   cases Q:KC t (ZdE ops.toList) with
   |true=>exact Hb
   |false=>
    simp only[Ze]
    have:C t=s.F t:=c.slots t fun p R S=>by
     have:t∈ZdE ops.toList:=by rw[List.mem_zipIdx_iff_getElem?]at R;exact Voa.2 (by grind)
     rw[W9.2 this]at Q;grind
    rw[<-this];exact d.fr t
def PRs(w:World)(I:Nat->Prop)(tmps:Array Value):(l:List (Nat×Pat))->WV l->List Nat->Prop
 |[],_,b=>b=[]
 |[(n,p)],x,b=>PV w I p x b (tmps.getD n undef)
 |(n,p)::q::l,x,b=>∃c d,b=c++d/\PV w I p x.1 c (tmps.getD n undef)/\PRs w I tmps (q::l) x.2 d
theorem Zgh{H:AH}{w:World}{g:Gh}{ow:Nat->Nat->Prop}{I:Nat->Prop}(z:RH B H w g ow)(s:∀b,g.I b->I b){p:Pat}{v:AV}{val:Value}{x:KP p}{ids:Zz}{l j:List Nat}(h:(ext p v).run H l=some ((x,ids),j))(G:VR w g v val)
 (y:∀b,ZF H ow ids.br b->I b) (D:ids.tk.Nodup):∃js,PV w I p x js val/\js.Nodup/\ ∀b∈js,ZF H ow ids.tk b:=by
 by_cases i:p=.any
 ·subst i;simp only[ext,Zd,Vc]at h;obtain⟨⟨_,rfl⟩,_⟩:=h;exact⟨[],⟨rfl,.inl rfl⟩,.nil,by simp⟩
 ·obtain⟨C,A⟩:=ZjB h i
  have c:∀m,v≠ .tup m:=by
   rintro m rfl
   cases p with
   |any=>grind
   |pd t=>cases t<;>simp [ext,Ke,ZQ,Zb]at h
   |own t k=>simp [ext,Jb,ZQ,Zb]at h
   |var t p=>simp [ext,Zb]at h
   |ro t=>simp [ext,Zb]at h
   |map k t=>simp [ext,Zb]at h
   |rows t k=>simp [ext,Yf,ZQ,Zb]at h
   |mrows k t=>simp [ext,Zb]at h
   |it k t=>simp [ext,Zb]at h
   |bld T e k=>simp [ext,Zb]at h
   |fnd _ _ _ _=>simp [ext,Zb]at h
   |owo J=>simp [ext,GF,ZQ,Zb]at h
   |agg l=>simp [ext,Zb]at h
   |fn f l=>simp [ext,Zb]at h
   |nilr=>simp [ext,Zb]at h
   |nils=>simp [ext,Zb]at h
  have d:=G.to1 c;obtain⟨js,n,q,r⟩:=HD z s p v val.cells.toList x ids l j h d.1 y D;exact⟨js,⟨n,.inr (by rw[<-A];exact d.2.resolve_left C)⟩,q,r⟩
theorem Zjz{H:AH}{w:World}{g:Gh}{ow:Nat->Nat->Prop}{I:Nat->Prop}{F:Nat->AV}{tmps:Array Value}(i:RH B H w g ow)(m:∀b,g.I b->I b)(hF:Fr w g F tmps):∀(l:List (Nat×Pat)) (x:WV l) (ids:Zz) (k j:List Nat),
 (Rx F l).run H k=some ((x,ids),j)->(∀b,ZF H ow ids.br b->I b)->ids.tk.Nodup->∃js,PRs w I tmps l x js/\js.Nodup/\ ∀b∈js,ZF H ow ids.tk b
 |[],x,ids,k,j,h,f,_=>by
  simp only[Rx,Zd,Vc]at h;obtain⟨⟨_,rfl⟩,_⟩:=h
  exact⟨[],rfl,.nil,by simp⟩
 |[(n,p)],x,ids,k,j,h,f,s=>by
  simp only[Rx]at h
  exact Zgh i m h (hF n) f s
 |(n,p)::q::l,x,ids,k,j,h,f,s=>by
  simp only[Rx,ZQ,Zd,Vc]at h;obtain⟨⟨Z,Q⟩,W,D,⟨U,z⟩,X,K,⟨rfl,rfl⟩,_⟩:=h;have t:(Q.tk++z.tk).Nodup:=s;obtain⟨R,S,Y⟩:=Vi.1 t;obtain⟨A,L,M,y⟩:=Zgh i m D (hF n) (fun b c=>f b (K9 (fun _ h=>by simp [Zz.app,h]) c)) R;obtain⟨C,N,O,d⟩:=Zjz i m hF (q::l) U z _ _ K (fun b c=>f b (K9 (fun _ h=>by simp [Zz.app,h]) c)) S;refine⟨A++C,⟨A,C,rfl,L,N⟩,Vi.2 ⟨M,O,fun b c V r e=>?_⟩,fun b c=>?_⟩
  ·subst e;obtain⟨id,G,J⟩:=YW i (y b c) (d b r)
   grind
  ·rcases Vh.1 c with c|c
   ·exact K9 (fun _ h=>by simp [Zz.app,h]) (y b c)
   ·exact K9 (fun _ h=>by simp [Zz.app,h]) (d b c)
theorem Zb4:∀(l:List (Nat×Pat)) (x:WV l) (n:Nat),n<=(Wr l x n).2.2/\ ∀o∈(Wr l x n).2.1,n<=o.1/\o.1<(Wr l x n).2.2
 |[],_,n=>⟨Nat.le_refl _,by simp [Wr]⟩
 |[(m,p)],x,n=>XR p x n
 |(m,p)::q::l,x,n=>by
  obtain⟨c,d⟩:=XR p x.1 n;obtain⟨e,f⟩:=Zb4 (q::l) x.2 (inj p x.1 n).2.2;refine⟨by simp only[Wr];omega,fun o b=>?_⟩;simp only[Wr,Vh]at b⊢
  grind
mutual
theorem Zb5:∀(p:Pat) (x:KP p) (n:Nat),((inj p x n).2.1.map Vq).Nodup
 |.pd _,_,n=>by simp [inj]
 |.own _ _,_,n=>by simp [inj]
 |.var t p,x,n=>by
  simp only[inj,Vv,Vba];refine⟨fun h=>?_,Zb5 p x (n+1)⟩;obtain⟨o,b,c⟩:=Vca.1 h
  have:=((XR p x (n+1)).2 o b).1;omega
 |.ro _,_,n=>by simp [inj]
 |.map _ _,_,n=>by simp [inj]
 |.rows _ _,_,n=>by simp [inj]
 |.mrows _ _,_,n=>by simp [inj]
 |.it _ _,_,n=>by simp [inj]
 |.bld _ _ _,_,n=>by simp [inj]
 |.fnd _ _ _ _,_,n=>by simp [inj]
 |.owo _,_,n=>by simp [inj]
 |.agg l,x,n=>by simpa only[inj] using Zb7 l x n
 |.fn f l,x,n=>by simpa only[inj] using Zb7 l x n
 |.nilr,_,n=>by simp [inj]
 |.nils,_,n=>by simp [inj]
 |.any,_,n=>by simp [inj]
theorem Zb7:∀(l:Pats) (x:Kn l) (n:Nat),((Z4 l x n).2.1.map Vq).Nodup
 |.nil,_,n=>by simp [Z4]
 |.cons p l,x,n=>by simp only[Z4,Vsa,Vi];refine⟨Zb5 p x.1 n,Zb7 l x.2 _,fun i d j k e=>?_⟩;obtain⟨o,b,rfl⟩:=Vca.1 d;obtain⟨u,m,rfl⟩:=Vca.1 k;have c:=((XR p x.1 n).2 o b).2;have q:=((RG l x.2 _).2 u m).1;omega
end
theorem Zj0:∀(l:List (Nat×Pat)) (x:WV l) (n:Nat),((Wr l x n).2.1.map Vq).Nodup
 |[],_,n=>by simp [Wr]
 |[(m,p)],x,n=>by simpa only[Wr] using Zb5 p x n
 |(m,p)::q::l,x,n=>by simp only[Wr,Vsa,Vi];refine⟨Zb5 p x.1 n,Zj0 (q::l) x.2 _,fun i b j c e=>?_⟩;obtain⟨o,d,rfl⟩:=Vca.1 b;obtain⟨u,f,rfl⟩:=Vca.1 c;have h:=((XR p x.1 n).2 o d).2;have k:=((Zb4 (q::l) x.2 _).2 u f).1;omega
theorem Zcb:∀(l:List (Nat×KO)) (H:AH) (id:Nat),(l.map Vq).Nodup->Zn H (KX l) id=match Ws l id with|some o=>some o|none=>H id
 |[],H,id,_=>rfl
 |p::l,H,id,d=>by
  simp only[Vv,Vba]at d;have i:KX (p::l)=(p.1,some p.2)::KX l:=rfl;rw[i];simp only[Zn];rw[Zcb l _ id d.2];simp only[Ws]
  cases c:Vg id p.1 with
  |true=>
   have:=Vd c;subst this
   have f:Ws l p.1=none:=by
    have key:∀l:List (Nat×KO),p.1 ∉ l.map Vq->Ws l p.1=none:=by
     intro l
     induction l with
     |nil=>intro _;rfl
     |cons q l j=>
      intro h;simp only[Vv,Vj,not_or]at h;simp only[Ws]
      have:Vg p.1 q.1=false:=by
       cases c:Vg p.1 q.1
       all_goals simp_all
      grind
    grind
   rw[f];simp [Xj]
  |false=>
   have b:id≠p.1:=fun e=>by simp_all
   simp only[Ze]
   cases Ws l id with
   |some o=>rfl
   |none=>exact Ko b
theorem ZdZ{w:World}{p:Pat}{H:AH}{g:Gh}{ow:Nat->Nat->Prop}(i:RH B H w g ow){x:KP p}{js:List Nat}{v:Value}{n:Nat}(h:PV w g.I p x js v)(j:WH B H w g ow js)(k:∀id,n<=id->id<(inj p x n).2.2->¬g.K id):
 WN B H w g ow js n (inj p x n).2.2 (Zn H (KX (inj p x n).2.1)) fun g' =>Ki w g' (inj p x n).1 v:=by
 obtain⟨f,t⟩:=h;obtain⟨e,b,q,l,s,d,m,r⟩:=Zb6 p i x js v.cells.toList n f j k;refine⟨e,b,q,l,s,⟨d,?_⟩,m,r⟩;by_cases c:p=.any
 ·subst c;exact .inl rfl
 ·rw[Zj2 p x n c];grind
theorem Zj1{w:World}{tmps:Array Value} :∀(l:List (Nat×Pat)) {H:AH}{g:Gh}{ow:Nat->Nat->Prop} (_:RH B H w g ow) (x:WV l) (js:List Nat) (n:Nat),PRs w g.I tmps l x js->WH B H w g ow js->(∀id,n<=id->id<(Wr l x n).2.2->¬g.K id)->
 WN B H w g ow js n (Wr l x n).2.2 (Zn H (KX (Wr l x n).2.1)) fun g' =>∀q∈(Wr l x n).1,Ki w g' q.2 (tmps.getD q.1 undef)
 |[],H,g,ow,b,x,js,n,h,_,_=>by
  obtain rfl:=h
  exact WN.none b n (by simp [Wr])
 |[(m,p)],H,g,ow,b,x,js,n,h,e,J=>by
  obtain⟨t,d,f,c,r,s,z,j⟩:=ZdZ b h e (by assumption);refine⟨t,d,f,c,r,fun q L=>?_,z,j⟩;simp only[Wr,Vw]at L
  grind
 |(m,p)::q::l,H,g,ow,b,x,js,n,h,e,J=>by
  obtain⟨U,N,rfl,D,S⟩:=h;have W:=(XR p x.1 n).1;have X:=(Zb4 (q::l) x.2 (inj p x.1 n).2.2).1;have i:∀id,n<=id->id<(Wr (q::l) x.2 (inj p x.1 n).2.2).2.2->¬g.K id:=by assumption
  obtain⟨t,d,f,c,r,s,z,j⟩:=ZdZ b D (e.sub (List.sublist_append_left _ _)) fun id h R=>i id h (by omega);obtain⟨C,k,A,M,O,Q,V,Y⟩:=Zj1 (q::l) r x.2 N (inj p x.1 n).2.2 (by rw[c.I];omega) (e.after c.I j) (by grind)
  have G:Zn H (KX (Wr ((m,p)::q::l) x n).2.1)=Zn (Zn H (KX (inj p x.1 n).2.1)) (KX (Wr (q::l) x.2 (inj p x.1 n).2.2).2.1):=by rw[<-J2];simp [Wr,KX]
  rw[G];simp only[Wr];refine⟨C,k,f.trans A,M.after c f,O,fun u y=>?_,by grind,by grind⟩
  ·rcases Vj.1 y with rfl|y
   ·exact s.mono (fun _ _=>rfl) A
   grind
  all_goals grind
end
end Tr
end
section
namespace Tr
open Go
open Classical in
theorem ZqM{E:Z3}{B:ZS}{s:AS}{w:World}{g:Gh}{ow:Nat->Nat->Prop}{a:Act}{tn tq lt lb:Ty}{x:ZH tn tq lt lb}{k id:Nat}(f:SR E B s w g ow a)(L:s.F k=.ptr id [])(V:s.H id=some (.fnd tn tq lt lb x)):
 ∃i g' m,XI i x/\SR E B ⟨fun t=>bif Vg t k then(inj (XP tn tq lt lb) (Kw (Wo i x)) s.nx).1 else s.F t,Zn (ZO s.H id none) (KX (inj (XP tn tq lt lb) (Kw (Wo i x)) s.nx).2.1),(inj (XP tn tq lt lb) (Kw (Wo i x)) s.nx).2.2,[]⟩ w g' m a/\Lk E w g a w g' a:=by
 obtain⟨hK,_,b,y,Z⟩:=f.rh.objs id _ V;have l:s.H id≠none:=by rw[V];simp
 have A:((Vha w.heap.size).filter (fun b=>decide (ow id b))).Nodup:=Vz.filter _
 have e:∀k,k∈(Vha w.heap.size).filter (fun b=>decide (ow id b))↔ow id k:=fun k=>by simp only[List.mem_filter,Vua,WC];exact⟨fun h=>h.2,fun h=>⟨(f.rh.sep id k l h).2.1,h⟩⟩
 generalize (Vha w.heap.size).filter (fun b=>decide (ow id b))=js at e A;have K:Dx w g.I (· ∈js) tn tq lt lb x b:=Z.mono (fun _ _=>rfl) (fun _ h=>h) (fun b h=>(e b).2 h) (fun _ _=>rfl);obtain⟨i,G,Q,M,D,N⟩:=ZjQ K A
 have j:WH B (ZO s.H id none) w g ow G:=⟨M,fun b y=>by have C:=(e b).1 (D b y);obtain⟨p,q,r⟩:=f.rh.sep id b l C;exact⟨p,q,r,fun c J R=>(Yh J).1 (f.rh.dist c id b (Yh J).2 l R C)⟩⟩
 have U:=f.fr k;rw[L]at U;obtain⟨⟨_,o,t,b',S,z,Y⟩,d⟩:=U;simp only[ZM,Option.some.injEq,Vc]at S;obtain⟨rfl,rfl⟩:=S;rw[y]at z;cases z
 have O:PV w g.I (XP tn tq lt lb) (Kw (Wo i x)) G (a.tmps.getD k undef):=by
  refine⟨?_,.inr ?_⟩
  ·rw[Y];exact N
  ·rcases d with d|d
   ·cases d
   ·exact d
 obtain⟨g',m,W,i1,r1,X,k1,o1⟩:=ZdZ (n:=s.nx) (f.rh.drop id) O j (fun c J R L=>absurd (f.ids c L) (by omega));refine⟨i,g',m,Q,⟨r1,fun t=>?_,f.nt,f.df,fun c h=>?_,by simp⟩,W,fun _ _=>rfl,by simp⟩
 ·show VR w g' (bif Vg t k then _ else s.F t) _
  cases y:Vg t k with
  |true=>have:=Vd y;subst this;simp only[Zc];exact X
  |false=>simp only[Ze];exact(f.fr t).mono (fun _ _=>rfl) W
 ·have hm:=(XR (XP tn tq lt lb) (Kw (Wo i x)) s.nx).1;show c<(inj (XP tn tq lt lb) (Kw (Wo i x)) s.nx).2.2;rcases k1 c h with h|h
  ·have:=f.ids c h;omega
  ·exact h.2
end Tr
end
section
namespace Tr
open Go
theorem Zri{s:AS}{l m:List Nat}(h:∀n∈l,n∈m):∀id∈H2 s l,id∈H2 s m:=by
 have key:∀(m:List Nat) n,n∈m->∀id∈(match s.F n with|.fn _ c=>AV.boxes c|v=>G8 s.H 8 v),id∈H2 s m:=by
  intro m
  induction m with
  |nil=>simp
  |cons k m d=>
   intro n e id b;simp only[H2,Vh]
   grind
 induction l with
 |nil=>intro id b;simp [H2]at b
 |cons n l d=>
  intro id b;simp only[H2,Vh]at b;rcases b with b|b
  ·exact key m n (by grind) id b
  grind
theorem ZiL{H:AH} :∀{l:Zl},Zdc H l=true->∀id∈AV.boxes l,Xe H id=true
 |.nil,_,id,b=>by simp [AV.boxes]at b
 |.cons v l,h,id,b=>by
  simp only[Zdc,Va]at h;simp only[AV.boxes,Vh,Option.mem_toList]at b;rcases b with b|b
  ·cases v with
   |ptr k p=>
    cases p with
    |nil=>
     simp only[AV.box?,Option.some.injEq]at b
     grind
    |cons a p=>grind
   |_=>simp [AV.box?]at b
  ·exact ZiL h.2 id b
theorem Zkh{s:AS} :∀{l:List Nat},HH s l=true->∀id∈H2 s l,Xe s.H id=true
 |[],_,id,b=>by simp [H2]at b
 |n::l,h,id,b=>by
  simp only[HH,Va]at h;simp only[H2,Vh]at b;rcases b with b|b
  ·have c:=h.1
   cases d:s.F n with
   |fn f e=>rw[d]at c b;exact ZiL c id b
   |ptr i p=>
    grind
   |vw i=>rw[d]at c b;simp only[G8,Vw]at b;grind
   |nw i v j k=>rw[d]at c b;simp only[G8,Vw]at b;grind
   |mp i=>rw[d]at c b;simp only[G8,Vw]at b;grind
   |agg l=>grind
   |_=>rw[d]at b;simp [G8]at b
  ·exact Zkh h.2 id b
theorem Zd2{s:AS}{e:WA}(h:HH s e.kept=true)(c:∀id∈s.fz,Xe s.H id=true):∀id∈ZZ s e,Xe s.H id=true:=by
 intro id b;rcases Vh.1 b with b|b
 ·exact Zkh h id b
 grind
mutual
theorem ZhT{w0 w:World}{g0 g j:Gh}(s:∀b,g.I b->j.I b)(q:∀id,g0.K id->j.K id)(r:j.ty=g.ty)(y:j.blk=g.blk)(z:j.slv=g.slv)(C:j.ver=g.ver)(A:j.row=g.row):∀(v:AV) (m cs:List Value),CV w0 g0 v m->CV w g v cs->CV w j v cs
 |.d t x,_,cs,_,h=>Rd.mono (fun _ _=>rfl) s t x cs h
 |.junk,_,_,_,_=>by simp [CV]
 |.tup _,_,_,_,h=>by simp [CV]at h
 |.agg l,m,cs,e,h=>by simp only[CV]at e h⊢;exact Ze4 s q r y z C A l m cs e h
 |.dp t x,_,cs,_,h=>by
  simp only[CV]at h⊢;obtain⟨b,off,c,L,D,G,M⟩:=h
  exact⟨b,off,c,L,s _ D,G,Rd.mono (fun _ _=>rfl) s t x c M⟩
 |.ptr id p,_,cs,e,h=>by
  simp only[CV]at e h⊢
  rw[r,y];exact⟨q _ e.1,h.2⟩
 |.vw id,_,cs,e,h=>by
  simp only[CV]at e h⊢
  rw[z];exact⟨q _ e.1,h.2⟩
 |.vs id lo n,_,cs,e,h=>by
  simp only[CV]at e h⊢
  rw[z,r];exact⟨q _ e.1,h.2⟩
 |.vp id i p,_,cs,e,h=>by
  simp only[CV]at e h⊢
  rw[r,y];exact⟨q _ e.1,h.2⟩
 |.op id i,_,cs,e,h=>by
  simp only[CV]at e h⊢
  rw[z];exact⟨q _ e.1,h.2⟩
 |.mp id,_,cs,e,h=>by
  simp only[CV]at e h⊢
  rw[y];exact⟨q _ e.1,h.2⟩
 |.fn f l,m,cs,e,h=>by
  simp only[CV]at e h⊢;obtain⟨J,_,D⟩:=e;obtain⟨Q,L,G⟩:=h
  exact⟨Q,L,Ze4 s q r y z C A l J Q D G⟩
 |.nilr _,_,_,_,h=>by simpa only[CV] using h
 |.nils,_,_,_,h=>by simpa only[CV] using h
 |.jk _,_,_,_,h=>by simpa only[CV] using h
 |.nw id ver W k,_,cs,e,h=>by
  simp only[CV]at e h⊢
  rw[C,A];exact⟨q _ e.1,h.2⟩
 |.np id ver W k i p,_,cs,e,h=>by simp only[CV]at e h⊢;rw[C,A,r];exact⟨q _ e.1,h.2⟩
theorem Ze4{w0 w:World}{g0 g j:Gh}(s:∀b,g.I b->j.I b)(q:∀id,g0.K id->j.K id)(r:j.ty=g.ty)(y:j.blk=g.blk)(z:j.slv=g.slv)(C:j.ver=g.ver)(A:j.row=g.row):∀(l:Zl) (m cs:List Value),Z2 w0 g0 l m->Z2 w g l cs->Z2 w j l cs
 |.nil,_,_,_,h=>by simpa only[Z2] using h
 |.cons v l,m,cs,e,h=>by simp only[Z2]at e h⊢;obtain⟨R,S,_,D,G⟩:=e;obtain⟨N,O,M,U,V⟩:=h;exact⟨N,O,M,ZhT s q r y z C A v R N D U,Ze4 s q r y z C A l S O G V⟩
end
theorem ZmX{w:World}{g j:Gh}{J:Nat->Prop}{id:Nat}{o:KO}{H:AH}(hH:H id=some o)(hd:Xe H id=true)(l:∀b,g.I b->j.I b){w0:World}{g0:Gh}{J0:Nat->Prop}(hK:∀id,g0.K id->j.K id)(Z:j.ty=g.ty)(Q:j.blk=g.blk)(Y:j.slv=g.slv)(a0:j.ver=g.ver)(W:j.row=g.row)(n:ORel w0 g0 J0 id o)
 (h:ORel w g J id o):ORel w j J id o:=by
 have z:j.ty id=g.ty id:=by grind
 have r:j.blk id=g.blk id:=by grind
 have X:j.slv id=g.slv id:=by grind
 have hv:j.ver id=g.ver id:=by grind
 have V:j.row id=g.row id:=by grind
 unfold Xe at hd;rw[hH]at hd
 cases o with
 |var t c=>
  obtain⟨_,_,_,a1,_,_,_,_,_,y⟩:=n;obtain⟨n,hf,b,cs,e,i,d,p,q,s⟩:=h
  exact⟨z.trans n,hf,b,cs,e,r.trans i,d,p,q,ZhT l hK Z Q Y a0 W c _ _ y s⟩
 |vec t xs=>
  obtain⟨n,h⟩:=h;refine⟨z.trans n,?_⟩;rcases h with ⟨i,d,p⟩|⟨b,cap,cs,e,N,i,d,p,q,s,y,G,L⟩
  ·grind
  ·exact .inr ⟨b,cap,cs,e,N,r.trans i,d,X.trans p,q,s,y,G.mono fun x c f=>Rd.mono (fun _ _=>rfl) l t x c f,L⟩
 |map kt vt m=>
  obtain⟨b,es,clock,i,d,p,R,q⟩:=h
  exact⟨b,es,clock,r.trans i,d,p,R,q.mono fun kv e f=>⟨⟨by have:=f.1.1;simp only[CV]at this⊢;exact Rd.mono (fun _ _=>rfl) l _ _ _ this,f.1.2⟩,⟨by have:=f.2.1;simp only[CV]at this⊢;exact Rd.mono (fun _ _=>rfl) l _ _ _ this,f.2.2⟩⟩⟩
 |rows t xs v M=>
  obtain⟨n,i,d,p⟩:=h;refine⟨z.trans n,hv.trans i,?_,?_⟩
  ·rw[r,V];exact⟨fun k x a b=>(d.rd k x a b).mono (fun _ _=>rfl) l (by simp) (by simp),d.ds,d.tp⟩
  grind
 |mrows kt t m v M=>
  obtain⟨n,i,d,p,q,b,es,clock,s,y,G,S,L⟩:=h;refine⟨z.trans n,hv.trans i,?_,p,?_,b,es,clock,r.trans s,y,G,S,?_⟩
  ·rw[r,V];exact⟨fun k x a b=>(d.rd k x a b).mono (fun _ _=>rfl) l (by simp) (by simp),d.ds,d.tp⟩
  ·grind
  ·rw[V];exact L.mono fun kv e f=>⟨⟨by have:=f.1.1;simp only[CV]at this⊢;exact Rd.mono (fun _ _=>rfl) l _ _ _ this,f.1.2⟩,f.2⟩
 |rng kt vt rest cur=>
  obtain⟨b,mb,es,clock,since,seen,n,i,d,p,q,s,y,G,L⟩:=h;refine⟨b,mb,es,clock,since,seen,z.trans n,r.trans i,d,p,q,s,y,G.mono fun kv e f=>⟨⟨by have:=f.1.1;simp only[CV]at this⊢;exact Rd.mono (fun _ _=>rfl) l _ _ _ this,f.1.2⟩,⟨by have:=f.2.1;simp only[CV]at this⊢;exact Rd.mono (fun _ _=>rfl) l _ _ _ this,f.2.2⟩⟩,fun kv U=>?_⟩;obtain⟨e,h9,A,O,C,D⟩:=L kv U
  exact⟨e,h9,A,O,⟨by have:=C.1;simp only[CV]at this⊢;exact Rd.mono (fun _ _=>rfl) l _ _ _ this,C.2⟩,⟨by have:=D.1;simp only[CV]at this⊢;exact Rd.mono (fun _ _=>rfl) l _ _ _ this,D.2⟩⟩
 |dat t xs=>exact⟨z.trans h.1,by rw[X];exact Rd.mono (fun _ _=>rfl) l _ _ _ h.2⟩
 |vco lb xs=>exact⟨z.trans h.1,by rw[X];exact h.2.mono (fun _ _=>rfl) l (fun _ _ h=>h) fun _ _ _=>rfl⟩
 |fnd tn tq lt lb x=>grind
 |bld T e bs=>
  obtain⟨b,i,d⟩:=h;exact⟨b,r.trans i,d⟩
theorem Zkq{w:World}{g:Gh}{tmps:Array Value} :∀(l:List (Nat×AV)),(∀q∈l,Ki w g q.2 (tmps.getD q.1 undef))->∀k,Ki w g (DU l k) (tmps.getD k undef)
 |[],_,k=>⟨by simp [CV,DU],.inl rfl⟩
 |q::l,h,k=>by
  simp only[DU]
  cases b:Vg k q.1 with
  |true=>simp_all
  |false=>exact Zkq l (by grind) k
section
variable {P:Program}{E E' :Z3}{B:ZS}
theorem ZiU{w w1:World}{g s:Gh}{F i:Nat->AV}{tmps:Array Value}(hF:Fr w g F tmps)(e:∀k,(∀m,i k≠ .tup m)->Ki w1 s (i k) (tmps.getD k undef)):∀(c:Zl) (l:List Nat) (j:List Value),G4 F c l=true->Z2 w g c j->
 (∀n∈l,∀m,i n≠ .tup m)->Z2 w1 s (Zl.ofList (l.map i)) j
 |.nil,[],j,_,q,_=>by assumption
 |.nil,n::l,_,h,_,_=>by simp [G4]at h
 |.cons v vs,[],_,h,_,_=>by simp [G4]at h
 |.cons v vs,n::l,j,h,q,O=>by
  simp only[G4,Va]at h;simp only[Z2]at q;obtain⟨D,r,rfl,x,G⟩:=q;simp only[Vv,Zl.ofList,Z2];refine⟨D,r,rfl,?_,ZiU hF e vs l r h.2 G (by grind)⟩;have d:=h.1
  cases v with
  |ptr id p=>
   cases p with
   |nil=>
    simp only[AV.box?]at d
    cases f:F n with
    |ptr Q C=>
     cases C with
     |nil=>
      rw[f]at d;simp only at d;have:=Vd d;subst this;have A:=hF n;rw[f]at A;obtain⟨_,o,t,b,J,K,L⟩:=A.ptr;simp only[CV]at x;obtain⟨_,S,U,R,y,z,M⟩:=x;rw[J]at y;cases y;rw[K]at z;cases z;have N:=(e n (by grind)).1;rw[L]at N;rw[M]
      assumption
     |cons a C=>grind
    |_=>grind
   |cons a p=>simp [AV.box?]at d
  |_=>simp [AV.box?]at d
theorem Zih{w w1:World}{g t:Gh}{F q:Nat->AV}{tmps:Array Value}(hF:Fr w g F tmps)(e:Fr w1 t q tmps)(r:∀k m,q k=.tup m->∀id,F k≠ .ptr id []):∀(l:List (Nat×FuncId×List Nat)),ZbZ F l=true->Fr w1 t (Zc3 q l) tmps
 |[],_=>e
 |(n,f,l)::m,h=>by
  simp only[ZbZ,Va]at h;simp only[Zc3];refine(Zih hF e r m h.2).upd ?_;have d:=h.1;have j:=hF n;split at d
  ·rename_i C b c;simp only[Va]at d;have:=Vd d.1;subst this;rw[c]at j;obtain⟨s,y,z⟩:=j.fn;rw[y];refine⟨?_,.inr (ZjO _ _)⟩;simp only[CV,ZqH]
   have i:∀(b:Zl) (l:List Nat),G4 F b l=true->∀n∈l,∃id,F n=.ptr id []:=by
    intro b l
    induction l generalizing b with
    |nil=>simp
    |cons k l D=>
     intro h n x
     cases b with
     |nil=>simp [G4]at h
     |cons v vs=>
      simp only[G4,Va]at h;rcases Vj.1 x with rfl|x
      ·have d:=h.1
       cases c:F n with
       |ptr id p=>
        cases p with
        |nil=>simp
        |cons a p=>rw[c]at d;cases j:v.box? <;>simp [AV.box?]at d
       |_=>rw[c]at d;cases j:v.box? <;>simp [AV.box?]at d
      grind
   exact⟨s,by rfl,ZiU hF (fun k A=>(e k).to1 A) b l s d.2 z (by grind)⟩
  grind
theorem Znq{w:World}{g:Gh}{x y:AV}{u v:Value}(c:VR w g x u)(d:VR w g y v)(h:Zfs x y=true):u=v:=by
 unfold Zfs at h;split at h
 ·have:=Vd h;subst this;rw[c.vw.2,d.vw.2]
 ·have:=Vd h;subst this;obtain⟨_,b,f,rfl⟩:=c.mp;obtain⟨_,e,i,rfl⟩:=d.mp
  grind
 ·have:=Vd h;subst this;obtain⟨_,o,t,b,f,i,rfl⟩:=c.ptr;obtain⟨_,l,m,e,j,k,rfl⟩:=d.ptr
  grind
 ·rw[c.nils,d.nils]
 grind
theorem Zig{w w1:World}{g d:Gh}{F c:Nat->AV}{tmps:Array Value}(hF:Fr w g F tmps)(b:Fr w1 d c tmps):∀(l:List (Nat×Nat)),ZbA F l=true->Fr w1 d (Zc2 c l) tmps
 |[],_=>b
 |p::l,h=>by simp only[ZbA,Va]at h;simp only[Zc2];refine(Zig hF b l h.2).upd ?_;rw[Znq (hF p.1) (hF p.2) h.1];exact b p.2
theorem ZsP{s s' :AS}{w w' :World}{g g' :Gh}{ow A:Nat->Nat->Prop}{a a' :Act}(O:SR E B s w g ow a)(c:SR E' B s' w' g' A a')(a9:E'.nt=E.nt){e:WA}{fz0 fzN:List Nat}{x:WV e.roots}
 (J:Lk E' w g a w' g' a') (a7:∀n∈e.kept,n∈E'.ks) (hH:∀id∈ZZ s e,s'.H id=s.H id) (hD:∀id∈ZZ s e,Xe s.H id=true) (b8:∀id∈ZZ s e,id∈fz0) (a3:∀id∈fzN,id∈ZZ s e)
 (h:Zg1 fz0 e s' =some x):∃D Q,SR E B (ZaN s fzN e x) w' D Q a' /\g.Le D/\Kf g.I w w' /\(∀id∈ZZ s e,(ZaN s fzN e x).H id=s.H id)/\ ∀id,g.K id->D.slv id=g'.slv id:=by
 unfold Zg1 at h;rw[Zq.runK_eq]at h
 cases hx:(Rx s'.F e.roots).run s'.H [] with
 |none=>grind
 |some y=>
  obtain⟨⟨j,ids⟩,rd⟩:=y;rw[hx]at h;simp only[Za]at h
  cases hc:(ids.ok fz0&&JJ ids.br fz0&&ZbZ s'.F e.fns&&ZbA s'.F e.als) with
  |false=>grind
  |true=>
   rw[hc]at h;simp only[Zc,Option.some.injEq]at h;subst h;simp only[Va]at hc;obtain⟨⟨⟨b0,a2⟩,V⟩,U⟩:=hc;obtain⟨a8,b3,b5⟩:=Zz.ok_iff b0;have b2:=DN.1 a2;obtain⟨js,b1,a5,W⟩:=Zjz c.rh (I:=fun b=>g'.I b\/ZF s'.H A ids.br b) (by grind) c.fr e.roots j ids [] rd hx (by grind) a8
   let g1:Gh:= {I:=fun b=>g'.I b\/ZF s'.H A ids.br b,K:=g.K,ty:=g'.ty,blk:=g'.blk,slv:=g'.slv,ver:=g'.ver,row:=g'.row}
   let H1:AH:=fun id=>bif KC id (ZZ s e) then s.H id else none
   have L:∀id,H1 id≠none->id∈ZZ s e/\s'.H id≠none/\H1 id=s.H id/\s'.H id=s.H id:=by
    intro id d
    have e1:H1 id=bif KC id (ZZ s e) then s.H id else none:=rfl
    cases Y:KC id (ZZ s e) with
    |false=>grind
    |true=>
     have f:=W9.1 Y
     grind
   have a4:g.Le g1:=⟨fun b i=>.inl (J.le.I b i),fun _ h=>h,fun id d=>J.le.ty id d,fun id d=>J.le.blk id d,fun id d=>J.le.slv id d,fun id d=>J.le.ver id d,fun id d=>J.le.row id d⟩
   have a1:RH B H1 w' g1 A:= {
    objs:=fun id o ho=>by obtain⟨f,z,p,r⟩:=L id (by grind);have C:s.H id=some o:=p.symm.trans ho;have Z:s'.H id=some o:=r.trans C;exact⟨(O.rh.objs id o C).1,ZmX (g0:=g) C (hD id f) (fun b i=>.inl i) (by grind) rfl rfl rfl rfl rfl (O.rh.objs id o C).2 (c.rh.objs id o Z).2⟩
    dist:=fun id t b p r R h4=>c.rh.dist id t b (by grind) (by grind) R h4
    sep:=fun id b p r=>by
     obtain⟨f,z,_⟩:=L id p;obtain⟨R,h4,h5⟩:=c.rh.sep id b z r;refine⟨fun M=>?_,h4,h5⟩;rcases M with M|⟨t,h6,h7,h8⟩
     ·grind
     ·have:=c.rh.dist id t b z h7 r h8
      grind
    ilt:=fun b i=>by
     rcases i with i|⟨id,_,p,r⟩
     ·exact c.rh.ilt b i
     ·exact(c.rh.sep id b p r).2.1
    inew:=fun b i=>by
     rcases i with i|⟨id,_,p,r⟩
     ·exact c.rh.inew b i
     ·exact .inr (c.rh.sep id b p r).2.2
    os:=c.rh.os
    tape:=c.rh.tape
    output:=c.rh.output
    size:=c.rh.size
    kept:=c.rh.kept}
   have N:WH B H1 w' g1 A js:=⟨a5,fun b i=>by
    obtain⟨id,p,r,R⟩:=W b i;obtain⟨h4,h5,h6⟩:=c.rh.sep id b r R;refine⟨fun M=>?_,h5,h6,fun t h7 h8=>?_⟩
    ·rcases M with M|M
     ·grind
     ·obtain⟨k,h9,b6⟩:=YW c.rh M (W b i)
      grind
    ·obtain⟨f,z,_⟩:=L t h7;have:=c.rh.dist t id b z r h8 R
     grind⟩
   obtain⟨D,Q,l2,i2,r2,c2,k2,_⟩:=Zj1 e.roots a1 j js s.nx b1 N fun id p r hK=>by have:=O.ids id hK;omega
   have b7:(ZaN s fzN e j).H=Zn H1 (KX (Wr e.roots j s.nx).2.1):=by
    funext id;rw[Zcb _ _ _ (Zj0 _ _ _)]
    show (bif KC id (ZZ s e) then s.H id else Ws (Wr e.roots j s.nx).2.1 id)=_
    cases Y:KC id (ZZ s e) with
    |true=>
     have b9:id<s.nx:=by
      have hd:=hD id (W9.1 Y)
      cases ho:s.H id with
      |none=>unfold Xe at hd;grind
      |some o=>exact O.ids id (O.rh.objs id o ho).1
     have hl:Ws (Wr e.roots j s.nx).2.1 id=none:=by
      have b4:=(Zb4 e.roots j s.nx).2
      have key:∀l:List (Nat×KO),(∀o∈l,s.nx<=o.1)->Ws l id=none:=by
       intro l
       induction l with
       |nil=>intro _;rfl
       |cons q l ih=>
        intro h;simp only[Ws]
        have:Vg id q.1=false:=by
         cases i:Vg id q.1
         ·rfl
         ·have:=Vd i
          grind
        grind
      grind
     grind
    |false=>
     grind
   have X:g.Le D:=a4.trans l2;have G:Kf g.I w w' :=J.ag
   have S:Fr w' D (fun k=>bif KC k e.kept then s.F k else DU (Wr e.roots j s.nx).1 k) a'.tmps:=by
    intro k
    show VR w' D (bif KC k e.kept then s.F k else DU (Wr e.roots j s.nx).1 k) _
    cases Y:KC k e.kept with
    |true=>
     simp only[Zc];rw[J.ks k (a7 k (W9.1 Y))]
     exact(O.fr k).mono G X
    |false=>
     simp only[Ze];exact .of1 (Zkq _ c2 k)
   refine⟨D,Q,⟨by grind,?_,by rw[c.nt,a9],c.df,fun id d=>?_,fun id d=>?_⟩,X,G,fun id d=>?_,fun id d=>l2.slv id d⟩
   ·refine Zig c.fr (Zih c.fr S (fun k m a6 id d=>?_) e.fns V) e.als U;have hv:=S k
    rw[show (fun k=>bif KC k e.kept then s.F k else DU (Wr e.roots j s.nx).1 k) k=.tup m from a6]at hv
    have a0:=c.fr k;rw[d]at a0;obtain⟨vs,p,_⟩:=hv;obtain⟨_,_,_,_,_,_,r⟩:=a0.ptr
    grind
   ·show id<(Wr e.roots j s.nx).2.2;have:=(Zb4 e.roots j s.nx).1;rcases k2 id d with p|p
    ·have:=O.ids id p;omega
    omega
   ·have f:=a3 id d
    have e1:(ZaN s fzN e j).H id=s.H id:=by
     show (bif KC id (ZZ s e) then s.H id else Ws (Wr e.roots j s.nx).2.1 id)=_
     rw[W9.2 f];rfl
    exact(Zcj e1).trans (hD id f)
   ·show (bif KC id (ZZ s e) then s.H id else Ws (Wr e.roots j s.nx).2.1 id)=_
    rw[W9.2 d];rfl
theorem ZgJ{s:AS}{w:World}{g:Gh}{ow:Nat->Nat->Prop}{tmps:Array Value}(q:RH B s.H w g ow)(hF:Fr w g s.F tmps){k:Nat×Nat×Nat}{x:Nat}(h:Hk s k=some x):
 g.K x/\ ∃b cs e,tmps.getD k.1 undef=.pointer (some ⟨b,0,none⟩)/\w.heap[b]? =some (.cells cs e (0,0))/\cs[k.2.2]? =some (g.slv x):=by
 unfold Hk at h;split at h
 case h_2=>grind
 rename_i id f;split at h
 case h_2=>grind
 rename_i T c p;split at h
 case h_2=>grind
 rename_i y z
 cases i:Vg (DX T k.2.1) k.2.2 with
 |false=>grind
 |true=>
  rw[i]at h;simp only[Zc,Option.some.injEq]at h;subst h;have l:=Vd i;obtain⟨_,_,j,b,cs,e,r,_,L,_,d⟩:=q.objs id _ p;simp only[AV.fits]at j;simp only[CV]at d;obtain⟨C,D⟩:=ZaU c _ _ _ _ j d z;have m:=hF k.1;rw[f]at m;obtain⟨_,o,t,A,n,G,J⟩:=m.ptr;simp only[ZM,Option.some.injEq,Vc]at n
  grind
theorem Zrk{s' s2:AS}{w' :World}{g' c:Gh}{j l:Nat->Nat->Prop}{m:ZS}{tmps:Array Value}(h:RH m s'.H w' g' j)(d:Fr w' g' s'.F tmps)(i:RH B s2.H w' c l)(f:Fr w' c s2.F tmps){k:Nat×Nat×Nat}{x y:Nat}(p:Hk s' k=some x)(q:Hk s2 k=some y):
 c.slv y=g'.slv x:=by
 obtain⟨_,b,cs,e,t,z,A⟩:=ZgJ h d p;obtain⟨_,r,n,s,C,D,G⟩:=ZgJ i f q
 grind
theorem ZsQ{b:AS}{fz:List Nat}{k:Nat×Nat×Nat}{s:AS}{i:Nat}(d:i∈fz):(Di b fz k s).H i=s.H i:=by
 unfold Di;split
 case h_2=>rfl
 rename_i x y id J K r;split
 case h_2=>rfl
 rename_i T c t xs C D G q p;generalize f:(C==t&& !Vg y id&& !Vg x id&& !KC x fz&& !KC y fz&& !KC id fz)=j
 cases j with
 |false=>rfl
 |true=>
  simp only[Va,Vl]at f;obtain⟨⟨⟨_,l⟩,m⟩,n⟩:=f;have z:i≠x:=fun e=>by rw[<-e,W9.2 d]at l;grind
  have A:i≠y:=fun e=>by rw[<-e,W9.2 d]at m;grind
  have h:i≠id:=fun e=>by rw[<-e,W9.2 d]at n;grind
  show ZO (ZO (ZO (ZO s.H y none) id none) x _) id _ i=s.H i;rw[Ko h,Ko z,Ko h,Ko A]
theorem Zlu{b:AS}{fz:List Nat}{i:Nat}(c:i∈fz):∀(l:List (Nat×Nat×Nat)) (s:AS),(D0 b fz l s).H i=s.H i
 |[],_=>rfl
 |_::l,_=>(Zlu c l _).trans (ZsQ c)
theorem ZdV{b:AS}{fz:List Nat}{e:WA}{x:WV e.roots}{id:Nat}(c:id∈ZZ b e):(JY b fz e x).H id=b.H id:=by
 refine(Zlu c e.kf _).trans ?_
 show (bif KC id (ZZ b e) then b.H id else _)=_
 rw[W9.2 c];rfl
theorem ZsR{s s' s2:AS}{w w' :World}{g g' i:Gh}{ow N n:Nat->Nat->Prop}{V U:ZS}{l tmps:Array Value}(O:RH V s.H w g ow)(hF:Fr w g s.F l)(C:RH U s'.H w' g' N)(p:Fr w' g' s'.F tmps)(d:g.Le i)(D:∀id,g.K id->i.slv id=g'.slv id)
 {k:Nat×Nat×Nat} (hk:(match Hk s k,Hk s' k with|some x,some y=>Vg x y|_,_=>false)=true) {fz:List Nat} (j:RH B s2.H w' i n) (q:Fr w' i s2.F tmps):
 (∃f,RH B (Di s fz k s2).H w' i f)/\(Di s fz k s2).F=s2.F/\(Di s fz k s2).fz=s2.fz/\(Di s fz k s2).nx=s2.nx:=by
 have same:(∃f,RH B s2.H w' i f)/\s2.F=s2.F/\s2.fz=s2.fz/\s2.nx=s2.nx:=⟨⟨n,j⟩,rfl,rfl,rfl⟩;unfold Di;split
 case h_2=>omega
 rename_i x y id R S a0;split
 case h_2=>omega
 rename_i T c t xs t0 a1 hH A r;generalize Q:(t0==t&& !Vg y id&& !Vg x id&& !KC x fz&& !KC y fz&& !KC id fz)=W
 cases W with
 |false=>grind
 |true=>
  simp only[Zc];simp only[Va,Vl,Kd]at Q;obtain⟨⟨⟨⟨⟨rfl,h1⟩,h2⟩,X⟩,Y⟩,Z⟩:=Q;have n1:y≠id:=by grind
  have n2:x≠id:=fun e=>by simp_all
  have m3:x ∉ fz:=fun h=>by rw[W9.2 h]at X;grind
  have m4:y ∉ fz:=fun h=>by rw[W9.2 h]at Y;grind
  have m5:id ∉ fz:=fun h=>by rw[W9.2 h]at Z;grind
  have hn:c.nth k.2.1=some (.vw y):=by
   have M:=S;unfold Hk at M
   grind
  have L:Hk s' k=some x:=by
   rw[R]at hk
   cases hz:Hk s' k with
   |none=>grind
   |some z=>simp_all
  have b:=(ZgJ O hF R).1;have m:i.slv x=i.slv y:=by rw[Zrk C p j q L S,D x b]
  obtain⟨_,G,J⟩:=O.objs x _ r
  obtain⟨f,h6⟩:=Zly j hH hn A (d.K x b) m ((d.ty x b).trans G) (by
   rw[d.blk x b,d.slv x b]
   grind) n1 n2
  grind
theorem Zlv{s s' :AS}{w w' :World}{g g' e:Gh}{ow q:Nat->Nat->Prop}{x t:ZS}{d tmps:Array Value}(r:RH x s.H w g ow)(hF:Fr w g s.F d)(i:RH t s'.H w' g' q)(f:Fr w' g' s'.F tmps)(j:g.Le e)(m:∀id,g.K id->e.slv id=g'.slv id){fz:List Nat} :
 ∀(l:List (Nat×Nat×Nat)) {s2:AS}{b:Nat->Nat->Prop},Zca s s' l=true->RH B s2.H w' e b->Fr w' e s2.F tmps->
 (∃n,RH B (D0 s fz l s2).H w' e n)/\(D0 s fz l s2).F=s2.F/\(D0 s fz l s2).fz=s2.fz/\(D0 s fz l s2).nx=s2.nx
 |[],s2,b,_,c,_=>⟨⟨b,c⟩,rfl,rfl,rfl⟩
 |k::l,s2,b,h,c,p=>by simp only[Zca,Va]at h;obtain⟨⟨n,y⟩,z,A,C⟩:=ZsR (k:=k) (fz:=fz) r hF i f j m h.1 c p;obtain⟨D,G,J,L⟩:=Zlv r hF i f j m l (s2:=Di s fz k s2) h.2 y (by grind);exact⟨D,G.trans z,J.trans A,L.trans C⟩
theorem Zii{b:AS}{w:World}{g:Gh}{tmps:Array Value} :∀(l:List Nat) {F:Nat->AV},(∀n∈l,VR w g (b.F n) (tmps.getD n undef))->Fr w g F tmps->Fr w g (Zfp b l F) tmps
 |[],_,_,h=>h
 |n::l,F,c,h=>Zii l (by grind) (h.upd (by grind))
theorem Za0{s s' :AS}{w w' :World}{g g' :Gh}{ow z:Nat->Nat->Prop}{a m:Act}(l:SR E B s w g ow a)(d:SR E' B s' w' g' z m)(y:E'.nt=E.nt){e:WA}{fz0 fzN:List Nat}{x:WV e.roots}
 (G:Lk E' w g a w' g' m) (r:∀n∈e.kept,n∈E'.ks) (t:∀n∈e.kv,n∈E'.ks) (L:∀id∈ZZ s e,s'.H id=s.H id) (D:∀id∈ZZ s e,Xe s.H id=true) (q:∀id∈ZZ s e,id∈fz0) (f:∀id∈fzN,id∈ZZ s e)
 (h:Xw s fz0 e s' =some x):∃k j,SR E B (JY s fzN e x) w' k j m/\g.Le k/\Kf g.I w w' /\ ∀id∈ZZ s e,(JY s fzN e x).H id=s.H id:=by
 unfold Xw at h
 cases i:Zca s s' e.kf with
 |false=>grind
 |true=>
  rw[i]at h;simp only[Zc]at h;obtain⟨k,j,b,p,C,R,K⟩:=ZsP l d y G r L D q f h;obtain⟨⟨A,N⟩,O,S,Q⟩:=Zlv (fz:=ZZ s e) l.rh l.fr d.rh d.fr p K e.kf i b.rh b.fr;refine⟨k,A,⟨N,?_,b.nt,b.df,fun id c=>?_,fun id c=>?_⟩,p,C,fun id c=>ZdV c⟩
  ·refine Zii e.kv (fun n M=>?_) (by rw[O];exact b.fr);rw[G.ks n (t n M)];exact(l.fr n).mono C p
  ·show id<(D0 s (ZZ s e) e.kf (ZaN s fzN e x)).nx;rw[Q];exact b.ids id c
  ·have J:=f id c;exact(Zcj (ZdV J)).trans (D id J)
def ZaA:Ex->Exit
 |.normal=>.normal
 |.exit id=>.exit id
 |.ret=>.ret
 |.jump l=>.goto l
theorem Ex.beq_eq{x y:Ex}(h:x.beq y=true):x=y:=by
 cases x<;>cases y<;>simp [Ex.beq]at h
 all_goals grind
theorem Zmx{ρ:Type}{b s' :AS}{fz:List Nat}{k:Ex->AS->Option ρ}{r:ρ}{x:Ex} :∀(J:Ht) (o:XV J),Yc b fz J x s' =some o->GL b J o k=some r->∃f∈J,x=f.1/\ ∃y,Xw b fz f.2 s' =some y/\k x (JY b b.fz f.2 y)=some r
 |[],o,h,_=>by grind
 |[f],o,h,d=>by
  simp only[Yc]at h
  cases c:x.beq f.1 with
  |false=>grind
  |true=>
   rw[c]at h;have:=Ex.beq_eq c;simp only[GL]at d
   grind
 |f::i::l,o,h,d=>by
  simp only[Yc]at h
  cases c:x.beq f.1 with
  |true=>
   rw[c]at h;simp only[Zc,Vb,Option.some.injEq]at h;obtain⟨y,e,rfl⟩:=h;have:=Ex.beq_eq c;simp only[GL]at d
   grind
  |false=>
   rw[c]at h;simp only[Ze,Vb,Option.some.injEq]at h;obtain⟨y,e,rfl⟩:=h;simp only[GL]at d;obtain⟨j,m,n⟩:=Zmx (i::l) y e d
   grind
theorem ZgG{e:WA} :∀{J:Ht},HG e J=true->∀f∈J,∀n∈f.2.kept,n∈e.kept
 |[],_,f,b=>by grind
 |q::l,h,f,b=>by
  simp only[HG,Va]at h;rcases Vj.1 b with rfl|b
  ·exact fun n c=>W9.1 (by grind)
  ·exact ZgG h.2 f b
theorem Zkg{e:WA} :∀{J:Ht},HG e J=true->∀f∈J,∀n∈f.2.kv,n∈e.kv
 |[],_,f,b=>by grind
 |q::l,h,f,b=>by
  simp only[HG,Va]at h;rcases Vj.1 b with rfl|b
  ·exact fun n c=>W9.1 (by grind)
  ·exact Zkg h.2 f b
def Wd(E:Z3)(B:ZS)(s:AS)(w:World)(g:Gh)(a:Act){ρ:Type}(k:Ex->AS->Option ρ)(r:ρ):Exit->Act->World->Prop:=fun e d h=>
 ∃x c f b,ZaA x=e/\SR E B c h f b d/\Ln E s w g a c h f d/\k x c=some r
theorem Wd.out{s A:AS}{w w1:World}{g C:Gh}{ow q:Nat->Nat->Prop}{a e:Act}{en:WA}{J:Ht}{ρ:Type}{k:Ex->AS->Option ρ}{r:ρ}(G:SR E B s w g ow a)(d:HH s en.kept=true)(i:HG en J=true)
 (D:Lk (K6 E en) w g a w1 C e) (p:SR (K6 E en) B A w1 C q e) (W:∀id∈ZZ s en,A.H id=s.H id) {x:Ex}{o:XV J} (R:Yc s (ZZ s en) J x A=some o) (U:GL s J o k=some r):Wd E B s w g a k r (ZaA x) e w1:=by
 obtain⟨f,j,X,y,V,Q⟩:=Zmx J o R U
 have c:∀id∈ZZ s f.2,id∈ZZ s en:=fun id b=>by
  rcases Vh.1 b with h|h
  ·exact Ve _ (Zri (ZgG i f j) id h)
  ·exact Vf _ h
 have l:∀n∈f.2.kept,n∈(K6 E en).ks:=fun n m=>Ve _ (ZgG i f j n m);obtain⟨K,z,L,M,N,O⟩:=Za0 (E' :=K6 E en) G p rfl (fzN:=s.fz) D l (fun n m=>Vf _ (Ve _ (Zkg i f j n m))) (by grind) (fun id b=>Zd2 d G.fz id (c id b)) c (fun id b=>Vf _ b) V;exact⟨x,_,K,z,rfl,L,⟨⟨M,N,fun t S=>D.ks t (Vf _ (Vf _ S))⟩,rfl,fun id b=>O id (Vf _ b)⟩,Q⟩
theorem SR.kept{s:AS}{w:World}{g:Gh}{ow:Nat->Nat->Prop}{a:Act}(b:SR E B s w g ow a){e:WA}(d:HH s e.kept=true):SR (K6 E e) B {s with fz:=ZZ s e} w g ow a:=
 ⟨b.rh,b.fr,b.nt,b.df,b.ids,fun id c=>Zd2 d b.fz id c⟩
theorem ZX.kept(h:ZX P E)(e:WA):ZX P (K6 E e):=⟨h.ty,h.mty,h.pk,h.pz,h.bd⟩
theorem Jv.kept(h:Jv P E B)(e:WA):Jv P (K6 E e) B:=⟨h.ok,h.amb,h.pl,h.inl⟩
theorem Zbl{c:Code}{Q:Exit->Act->World->Prop}(Inv:Nat->Act->World->Prop){n:Nat}{a:Act}{w:World}(k:Inv n a w)
 (round:∀n a w,Inv n a w->c.wp P (Exit.then (fun d w' =>∃m,m<n/\Inv m d w') Q) a w):(Code.loop c).wp P Q a w:=by
 classical
 have b:∀a w,(∃n,Inv n a w)->∃n,Inv n a w/\ ∀m,Inv m a w->n<=m:=by
  intro a w ⟨n,q⟩
  induction n using Nat.strongRecOn with
  |_ n r=>
   grind
 refine wp_loop (fun a w=>∃n,Inv n a w) (fun a w=>if h:∃n,Inv n a w then(b a w h).choose else 0) ⟨n,k⟩ fun a w i=>?_
 have f:=(b a w i).choose_spec;refine wp_mono (round _ a w f.1) fun e d w' l=>?_
 cases e with
 |normal=>
  obtain⟨m,p,j⟩:=l;refine⟨⟨m,j⟩,?_⟩;simp only[dif_pos i,dif_pos (show∃n,Inv n d w' from ⟨m,j⟩)]
  grind
 |_=>assumption
theorem Zhp{σ τ:Type}{step:σ->Option (σ ⊕ τ)}{s:σ}{r:τ}(h:run step s=some r):∃n,W7 step n s=some r:=by
 unfold run at h;split at h
 ·grind
 split at h
 all_goals grind
theorem Zs0{it id:Nat}{s:AS}{b c:Ty}{rest:List (El b×El c)}{cur:Option (El b×El c)}(d:s.F it=.ptr id [])(e:s.H id=some (.rng b c rest cur)):Dl it s=bif rest.isEmpty then 1 else rest.length:=by unfold Dl;grind
theorem ZlB(it:Nat)(s:AS):0<Dl it s:=by
 unfold Dl
 grind
theorem Zr1(hT:ZX P E)(hS:Jv P E B){ops:Array Oper}{s:AS}{w:World}{g:Gh}{ow:Nat->Nat->Prop}{a:Act}(m:SR E B s w g ow a){id it:Nat}{ρ:Type}{k:AS->Option ρ}
 (h:∀i,i<Dl it s->∃r,RS E ops it i ρ s k=some r):
 (Vra id ops false).wp P (fun e S w' =>∃i s' g' G r,i<Dl it s/\e=.normal/\SR E B s' w' g' G S/\Ln E s w g a s' w' g' S/\RS E ops it i ρ s k=some r/\k s' =some r) a w:=by
 obtain⟨r0,f⟩:=h 0 (ZlB it s);have a5:=f;unfold RS at f;split at f
 ·grind
 ·rename_i o i0 l hz
  have O:ops[0]? =some o/\i0=0:=by
   have:ops.toList.zipIdx[0]? =some (o,i0):=by grind
   grind
  obtain⟨a2,rfl⟩:=O;split at f
  ·rename_i D d N a1 z
   cases Z:(Vg D it&&Yy E (some d)) with
   |false=>grind
   |true=>
    rw[Z]at f;simp only[Zc]at f;simp only[Va]at Z;obtain⟨C,K⟩:=Z;have C:=Vd C;subst C;split at f
    ·rename_i rid W;split at f
     ·rename_i kt vt rest cur X
      have step:∃i v val w' H1,i<Dl D s/\(execOp a.eval o).run P w=.ok (.value val) w' /\RH B H1 w' g ow/\Kf g.I w w' /\VR w' g v val/\(∀id∈s.fz,H1 id=s.H id)/\
       RS E ops D i ρ s k=Yv E ops s.nx s.fz ρ l (WL s.F (some d) v) H1 [] fun F H _=>k ⟨F,H,s.nx+ops.size*E.stp,s.fz⟩:=by
       have hm:KC rid s.fz=false:=by
        grind
       cases rest with
       |nil=>
        obtain⟨y,U⟩:=ZkI (P:=P) m.rh m.fr N W X;refine⟨0,_,_,w,s.H,ZlB _ _,y,m.rh,fun _ _=>rfl,U,by simp,?_⟩
        grind
       |cons e0 r0=>
        obtain⟨i,kv,val,w',y,U,V,h4,h5,h6⟩:=Zr5 m.rh m.fr N W X (by simp);refine⟨i,_,val,w',_,by rw[Zs0 W X];grind,V,h4,h5,h6,?_,?_⟩
        ·intro id c;refine Ko fun e=>?_;subst e;rw[W9.2 c]at hm
         grind
        ·unfold RS
         grind
      obtain⟨i,v,val,w',H1,hi,Q,Y,J,hv,M,hK⟩:=step;obtain⟨r,hr⟩:=h i hi;rw[hK]at hr;obtain⟨F',H',a7,A,hk⟩:=Zc9 hr
      have x:(l.map Vx).Nodup/\(∀p∈l,ops[p.2]? =some p.1)/\Vha ops.size=0::l.map Vx:=by
       have y:ops.toList.zipIdx.map Vx=0::l.map Vx:=by grind
       rw[ZhS]at y;refine⟨?_,fun p hp=>?_,y⟩
       ·have:=Vz (n:=ops.size)
        grind
       grind
      have a0:=A.ex x.1 x.2.1 (fun _ _=>rfl)
      have a6:0 ∉ l.map Vx:=by
       have:=Vz (n:=ops.size)
       grind
      refine wp_region ?_;rw[x.2.2,wpOps_cons];unfold wpOp;rw[a2];simp only;rw[ZhO (ops:=ops) (b:=true) m.fr (by simp [YE,a1])];simp only[if_true];refine .inl ?_;unfold Oper.wp;rw[Q]
      have L:∀e,o.dst=some e->e<a.tmps.size:=fun e R=>by rw[z]at R;cases R;rw[m.nt];exact(Zeg K).1
      have hI:RI E B s.nx (fun _=>False) (WL s.F (some d) v) H1 w' (a.put o.dst val) g ow (fun j=>j=0):=⟨Y,by
       have:=(m.fr.mono J (.refl g)).put (d:=o.dst) hv L
       grind,Zg7.trans m.nt,Zg5.trans m.df,fun id c=>.inl (.inl (m.ids id c))⟩
      show wpOps P ops _ (l.map Vx) (a.put o.dst val) w';refine ZhR hT hS a0 x.1 (by grind) (by simp) hI fun S w2 g' G q hl=>?_;refine⟨i,⟨F',H',s.nx+ops.size*E.stp,s.fz⟩,g',G,r,hi,rfl,⟨q.rh,q.fr,q.nt,q.df,fun id c=>?_,fun id c=>?_⟩,⟨⟨hl.le,J.trans hl.ag fun _ h=>h,fun t ht=>?_⟩,rfl,fun id c=>?_⟩,hK.trans hr,hk⟩
      ·have a4:0<ops.size:=by grind
       rcases q.ids id c with (y|y) |⟨j,y,U,V⟩
       ·grind
       ·grind
       ·have hj:j<ops.size:=by
         grind
        show id<s.nx+ops.size*E.stp;exact Zhd hj V
      ·exact(Zcj ((A.keptH id c).trans (M id c))).trans (m.fz id c)
      ·rw[hl.ks t ht,z];refine Zg6 fun e R a3=>?_;cases R;exact(Zeg K).2 (a3▸ht)
      ·exact(A.keptH id c).trans (M id c)
     grind
    grind
  grind
theorem Zjr{σ τ ρ:Type}{cnt:σ->Nat}{step:σ->Nat->Option (σ ⊕ τ)}{k:τ->Option ρ}{s:σ}{z:ρ}(h:drun cnt step k s=some z):∃n,Y2 cnt step k z n s:=by
 have b:∀(n:Nat) (s:σ) (z:ρ),ZbP cnt step k n s=some z->Y2 cnt step k z n s:=by
  intro n
  induction n with
  |zero=>intro s z h;simp [ZbP]at h
  |succ n f=>
   intro s z h i e;simp only[ZbP]at h
   cases c:Vza (cnt s) 1 with
   |false=>grind
   |true=>
    have d:=Vy c
    grind
 unfold drun at h;split at h
 ·grind
 split at h
 all_goals grind
theorem ZpS{n:Nat}{E:Z3}{ρ:Type}{s:AS}{go:AS->Option ρ}{r:ρ}(h:Zf1 n s go=some r){w:World}{g:Gh}{ow:Nat->Nat->Prop}{a:Act}(d:SR E B s w g ow a):
 ∃A C y,go A=some r/\SR E B A w C y a/\Ln E s w g a A w C a:=by
 unfold Zf1 at h;split at h
 ·rename_i id ver X k S
  cases t:KC id s.fz with
  |true=>rw[t]at h;cases h
  |false=>
  rw[t]at h;simp only[Ze,Zq.runK_eq]at h;rw[Vb]at h;obtain⟨⟨L,Y⟩,M,h⟩:=h;rw[Vb]at h;obtain⟨⟨o,Z⟩,N,h⟩:=h;have x:=d.fr n;rw[S]at x;have m:¬g.K s.nx:=fun R=>Nat.lt_irrefl _ (d.ids _ R);obtain⟨D,z,G,l,W,Q,V,U,q⟩:=Zl5 (nid:=s.nx) (tmp:=s.nx) d.rh x M N m
  have j:∀i∈s.fz,i≠id/\i≠s.nx:=fun i c=>by
   refine⟨fun e=>?_,fun e=>?_⟩
   ·subst e;rw[W9.2 c]at t;cases t
   ·subst e;have:=d.fz _ c;unfold Xe at this
    cases J:s.H s.nx with
    |none=>rw[J]at this;cases this
    |some o=>exact m (d.rh.objs _ _ J).1
  have b:∀i∈s.fz,ZO (ZO s.H id (some o)) s.nx (some (.vec L.1 L.2)) i=s.H i:=fun i c=>by rw[Ko (j i c).2,Ko (j i c).1]
  refine⟨_,D,z,h,⟨G,?_,d.nt,d.df,fun i c=>?_,fun i c=>?_⟩,⟨⟨l,fun _ _=>rfl,fun _ _=>rfl⟩,rfl,b⟩⟩
  ·have O:=d.fr.mono (w' :=w) (g' :=D) (fun _ _=>rfl) l;refine O.upd ?_;have f:(a.tmps.getD n undef).oneCell'=true:=x.nw.2.2.1;refine Kx ?_ f rfl;simp only[CV];have p:=(G.objs s.nx _ Xj).1;exact⟨p,by rw[q],by rw[q];exact f⟩
  ·rcases Q i c with h|h
   ·exact Nat.lt_succ_of_lt (d.ids i h)
   ·subst h;exact Vu _
  ·rw[Zcj (b i c)];exact d.fz i c
 ·cases h
theorem ZpT{hint:KR}{E:Z3}{ρ:Type}{s:AS}{go:AS->Option ρ}{r:ρ}(h:Zf2 hint s go=some r){w:World}{g:Gh}{ow:Nat->Nat->Prop}{a:Act}(e:SR E B s w g ow a):
 ∃c d b,go c=some r/\SR E B c w d b a/\Ln E s w g a c w d a:=by
 unfold Zf2 at h;split at h
 ·exact⟨s,g,ow,h,e,.refl s w g a⟩
 ·exact ZpS h e
theorem Wh(U:P.follows .mixedOrders=true):∀(c:Code) (h:KR) (E:Z3) (ρ:Type) (s:AS) (k:Ex->AS->Option ρ) (r:ρ),ZX P E->Jv P E B->Kj c h E ρ s k=some r->
 ∀{w:World}{g:Gh}{ow:Nat->Nat->Prop}{a:Act},SR E B s w g ow a->c.wp P (Wd E B s w g a k r) a w
 |.skip,_,E,ρ,s,k,r,_,_,h,w,g,ow,a,b=>by
  simp only[Kj]at h
  exact wp_skip ⟨.normal,s,g,ow,rfl,b,.refl s w g a,h⟩
 |.region id ops draw,d,E,ρ,s,k,r,M,L,h,w,g,ow,a,b=>by
  simp only[Kj]at h;refine wp_mono (ZsO U M L b h) ?_;rintro e R S ⟨s',G,f,rfl,C,p,j⟩
  exact⟨.normal,s',G,f,rfl,C,p,j⟩
 |.seq x y,d,E,ρ,s,k,r,M,L,h,w,g,ow,a,b=>by
  simp only[Kj]at h;obtain⟨s0,g0,c8,h,b,b8⟩:=ZpT h b;refine wp_seq (wp_mono (Wh U x d.l E ρ s0 _ r M L h b) ?_);rintro e R S ⟨ex,s',G,f,rfl,C,p,j⟩;have p:=b8.trans p
  cases ex with
  |normal=>
   refine wp_mono (Wh U y d.r E ρ s' k r M L j C) ?_;rintro e a2 w2 ⟨b6,s2,g2,O,rfl,X,h5,h6⟩
   exact⟨b6,s2,g2,O,rfl,X,p.trans h5,h6⟩
  |exit id=>exact⟨.exit id,s',G,f,rfl,C,p,j⟩
  |ret=>exact⟨.ret,s',G,f,rfl,C,p,j⟩
  |jump l=>exact⟨.jump l,s',G,f,rfl,C,p,j⟩
 |.cond c x y,d,E,ρ,s,k,r,M,L,h,w,g,ow,a,b=>by
  simp only[Kj]at h;split at h
  ·rename_i t ht;have hv:=b.fr.eval c;rw[ht]at hv;refine wp_cond hv.bool ?_
   cases hj:d.join with
   |none=>
    rw[hj]at h
    cases t with
    |true=>exact Wh U x d.l E ρ s k r M L h b
    |false=>exact Wh U y d.r E ρ s k r M L h b
   |some eJ=>
    obtain⟨e,J⟩:=eJ;rw[hj]at h;simp only at h
    cases Q:(HH s e.kept&&HG e J) with
    |false=>grind
    |true=>
     rw[Q]at h;simp only[Zc]at h;simp only[Va]at Q;rw[Vb]at h;obtain⟨o,ho,hu⟩:=h
     have fin:∀(z:Code) (W:KR),Kj z W (K6 E e) (XV J) {s with fz:=ZZ s e} (Yc s (ZZ s e) J)=some o->(∀{w:World}{g:Gh}{ow:Nat->Nat->Prop}{a:Act},SR (K6 E e) B {s with fz:=ZZ s e} w g ow a->z.wp P (Wd (K6 E e) B {s with fz:=ZZ s e} w g a (Yc s (ZZ s e) J) o) a w)->z.wp P (Wd E B s w g a k r) a w:=by intro z W _ ih;refine wp_mono (ih (b.kept Q.1)) ?_;rintro e' R S ⟨ex,s',G,f,rfl,C,p,j⟩;exact Wd.out b Q.1 Q.2 p.lk C p.hz j hu
     cases t with
     |true=>exact fin x d.l ho (Wh U x d.l (K6 E e) _ _ _ o (M.kept e) (L.kept e) ho)
     |false=>exact fin y d.r ho (Wh U y d.r (K6 E e) _ _ _ o (M.kept e) (L.kept e) ho)
  grind
 |.block id c,d,E,ρ,s,k,r,M,L,h,w,g,ow,a,b=>by
  simp only[Kj]at h;refine wp_block (wp_mono (Wh U c d E ρ s _ r M L h b) ?_);rintro e R S ⟨ex,s',G,f,rfl,C,p,j⟩
  cases ex with
  |normal=>exact⟨.normal,s',G,f,rfl,C,p,j⟩
  |exit i=>
   simp only at j;simp only[ZaA,Exit.inBlock]
   cases Z:Vg i id with
   |true=>
    rw[Z]at j;rw[Zr (Vd Z)]
    exact⟨.normal,s',G,f,rfl,C,p,j⟩
   |false=>
    rw[Z]at j;rw[Zf fun e=>by simp_all]
    exact⟨.exit i,s',G,f,rfl,C,p,j⟩
  |ret=>exact⟨.ret,s',G,f,rfl,C,p,j⟩
  |jump l=>exact⟨.jump l,s',G,f,rfl,C,p,j⟩
 |.loop c,d,E,ρ,s,k,r,M,L,h,w,g,ow,a,b=>by
  cases d with
  |all n=>
   simp only[Kj]at h;refine Zbl (fun m R S=>∃s' G f,ZcC (fun s k=>Kj c (.all n) E ρ s k) k m s' =some r/\SR E B s' S G f R/\Ln E s w g a s' S G R) (n:=n) ⟨s,g,ow,h,b,.refl s w g a⟩ ?_;rintro m R S ⟨s',G,f,A,V,a6⟩
   cases m with
   |zero=>simp [ZcC]at A
   |succ m=>
    simp only[ZcC]at A;refine wp_mono (Wh U c (.all n) E ρ s' _ r M L A V) ?_;rintro e a2 w2 ⟨ex,s2,g2,O,rfl,C,p,j⟩
    cases ex with
    |normal=>exact⟨m,Vu m,s2,g2,O,j,C,a6.trans p⟩
    |exit i=>exact⟨.exit i,s2,g2,O,rfl,C,a6.trans p,j⟩
    |ret=>exact⟨.ret,s2,g2,O,rfl,C,a6.trans p,j⟩
    |jump l=>exact⟨.jump l,s2,g2,O,rfl,C,a6.trans p,j⟩
  |lp en J Z=>
   simp only[Kj]at h
   cases Q:(HH s en.kept&&HG en J&&HL en.slots) with
   |false=>grind
   |true=>
    rw[Q]at h;simp only[Zc,Vb]at h;simp only[Va]at Q;obtain⟨x,hx,o,a1,hu⟩:=h;obtain⟨n,N⟩:=Zhp a1;have D:∀id∈ZZ s en,id∈ZZ s en:=fun _ h=>h;have Y:=Zd2 Q.1.1 b.fz;have start:=Za0 (E:=K6 E en) (E' :=K6 E en) (s' :=s) (fz0:=ZZ s en) (fzN:=ZZ s en) ⟨b.rh,b.fr,b.nt,b.df,b.ids,b.fz⟩ ⟨b.rh,b.fr,b.nt,b.df,b.ids,b.fz⟩ rfl (.refl w g a) (fun n N=>Ve _ N) (fun n N=>Vf _ (Ve _ N)) (by simp) Y D D hx;obtain⟨g1,b0,s1,a9,_,c5⟩:=start
    refine Zbl (fun n R S=>∃y G f,W7 (fun y=>Kj c Z (K6 E en) (WV en.roots ⊕ XV J) (JY s (ZZ s en) en y) fun e s' =>match e with
     |.normal=>(Xw s (ZZ s en) en s').bind fun z=>some (.inl z)
     |e=>(Yc s (ZZ s en) J e s').bind fun z=>some (.inr z)) n y=some o/\SR (K6 E en) B (JY s (ZZ s en) en y) S G f R/\Lk (K6 E en) w g a S G R) (n:=n) ⟨x,g1,b0,N,s1,⟨a9,by omega,by simp⟩⟩ ?_
    rintro n R S ⟨y,G,f,A,V,a5⟩;have a4:∀id∈ZZ s en,(JY s (ZZ s en) en y).H id=s.H id:=fun id K=>ZdV K
    cases n with
    |zero=>simp [W7]at A
    |succ n=>
     simp only[W7]at A;split at A
     ·rename_i y' a8;refine wp_mono (Wh U c Z (K6 E en) _ _ _ _ (M.kept en) (L.kept en) a8 V) ?_;rintro e a2 w2 ⟨ex,s2,g2,O,rfl,C,p,j⟩
      cases ex with
      |normal=>
       simp only[Vb,Option.some.injEq,Vab]at j;obtain⟨z,W,rfl⟩:=j;have a0:=a5.trans p.lk;obtain⟨g3,b3,s3,c6,b4,_⟩:=Za0 (E:=K6 E en) (E' :=K6 E en) (s:=s) (fz0:=ZZ s en) (fzN:=ZZ s en) ⟨b.rh,b.fr,b.nt,b.df,b.ids,b.fz⟩ C rfl a0 (fun n N=>Ve _ N) (fun n N=>Vf _ (Ve _ N)) (fun id K=>(p.hz id K).trans (a4 id K)) Y D D W
       exact⟨n,Vu n,z,g3,b3,A,s3,⟨c6,b4,a0.ks⟩⟩
      |exit i=>simp only[Vb,Option.some.injEq,reduceCtorEq,ZJ,exists_false]at j
      |ret=>simp only[Vb,Option.some.injEq,reduceCtorEq,ZJ,exists_false]at j
      |jump i=>simp only[Vb,Option.some.injEq,reduceCtorEq,ZJ,exists_false]at j
     ·rename_i o' a8;simp only[Option.some.injEq]at A;subst A;refine wp_mono (Wh U c Z (K6 E en) _ _ _ _ (M.kept en) (L.kept en) a8 V) ?_;rintro e a2 w2 ⟨ex,s2,g2,O,rfl,C,p,j⟩
      have fin:∀x:Ex,x≠ .normal->Yc s (ZZ s en) J x s2=some o' ->Wd E B s w g a k r (ZaA x) a2 w2:=fun x _ ho=>
       Wd.out b Q.1.1 Q.1.2 (a5.trans p.lk) C (fun id K=>(p.hz id K).trans (a4 id K)) ho hu
      cases ex with
      |normal=>simp only[Vb,Option.some.injEq,reduceCtorEq,ZJ,exists_false]at j
      |exit i=>
       simp only[Vb,Option.some.injEq,Vfa]at j;obtain⟨z,W,rfl⟩:=j
       exact fin (.exit i) (by simp) W
      |ret=>
       simp only[Vb,Option.some.injEq,Vfa]at j;obtain⟨z,W,rfl⟩:=j
       exact fin .ret (by simp) W
      |jump i=>
       simp only[Vb,Option.some.injEq,Vfa]at j;obtain⟨z,W,rfl⟩:=j;exact fin (.jump i) (by simp) W
     grind
  |lpd it en J Z=>
   cases c with
   |seq c1 c2=>
    cases c1 with
    |region id ops draw=>
     cases draw with
     |true=>simp [Kj]at h
     |false=>
      simp only[Kj]at h
      cases Q:(HH s en.kept&&HG en J&&HL en.slots) with
      |false=>grind
      |true=>
       rw[Q]at h;simp only[Zc,Vb]at h;simp only[Va]at Q;obtain⟨x,hx,a1⟩:=h;obtain⟨n,N⟩:=Zjr a1;have D:∀id∈ZZ s en,id∈ZZ s en:=fun _ h=>h;have Y:=Zd2 Q.1.1 b.fz;have start:=Za0 (E:=K6 E en) (E' :=K6 E en) (s' :=s) (fz0:=ZZ s en) (fzN:=ZZ s en) ⟨b.rh,b.fr,b.nt,b.df,b.ids,b.fz⟩ ⟨b.rh,b.fr,b.nt,b.df,b.ids,b.fz⟩ rfl (.refl w g a) (fun n N=>Ve _ N) (fun n N=>Vf _ (Ve _ N)) (by simp) Y D D hx;obtain⟨g1,b0,s1,a9,_,c5⟩:=start
       refine Zbl (fun n R S=>∃y G f,Y2 (fun y=>Dl it (JY s (ZZ s en) en y)) (fun y i=>RS (K6 E en) ops it i (WV en.roots ⊕ XV J) (JY s (ZZ s en) en y) fun s1=>Kj c2 Z (K6 E en) (WV en.roots ⊕ XV J) s1 fun e s' =>match e with
        |.normal=>(Xw s (ZZ s en) en s').bind fun z=>some (.inl z)
        |e=>(Yc s (ZZ s en) J e s').bind fun z=>some (.inr z)) (fun o=>GL s J o k) r n y/\SR (K6 E en) B (JY s (ZZ s en) en y) S G f R/\Lk (K6 E en) w g a S G R) (n:=n) ⟨x,g1,b0,N,s1,⟨a9,by omega,by simp⟩⟩ ?_
       rintro n R S ⟨y,G,f,A,V,a5⟩;have a4:∀id∈ZZ s en,(JY s (ZZ s en) en y).H id=s.H id:=fun id K=>ZdV K
       cases n with
       |zero=>exact A.elim
       |succ n=>
        simp only[Y2]at A
        have b9:=Zr1 (id:=id) (it:=it) (ops:=ops) (ρ:=WV en.roots ⊕ XV J) (k:=fun s1=>Kj c2 Z (K6 E en) (WV en.roots ⊕ XV J) s1 fun e s' =>match e with
         |.normal=>(Xw s (ZZ s en) en s').bind fun z=>some (.inl z)
         |e=>(Yc s (ZZ s en) J e s').bind fun z=>some (.inr z)) (M.kept en) (L.kept en) V (by grind)
        refine wp_seq (wp_mono b9 ?_);rintro e a2 w2 ⟨i,s2,g2,O,q,hi,rfl,c4,a0,hq,b7⟩
        simp only[Exit.then]
        refine wp_mono (Wh U c2 Z (K6 E en) _ _ _ _ (M.kept en) (L.kept en) b7 c4) ?_;rintro e a3 w3 ⟨ex,s3,g3,b3,rfl,C,p,j⟩;have a7:=a5.trans (a0.lk.trans p.lk);have b2:∀id∈ZZ s en,s3.H id=s.H id:=fun id K=>((a0.trans p).hz id K).trans (a4 id K)
        have fin:∀x:Ex,x≠ .normal->(Yc s (ZZ s en) J x s3).bind (fun z=>some (.inr z))=some q->Wd E B s w g a k r (ZaA x) a3 w3:=fun x _ ho=>by
         rw[Vb]at ho;obtain⟨z,ho,b1⟩:=ho;simp only[Option.some.injEq]at b1;subst b1;rcases A i hi with ⟨y',X,_⟩|⟨t,X,h5⟩
         ·grind
         ·rw[hq]at X;simp only[Option.some.injEq,Vfa]at X;subst X;exact Wd.out b Q.1.1 Q.1.2 a7 C b2 ho h5
        cases ex with
        |normal=>
         simp only[Vb,Option.some.injEq]at j;obtain⟨z,W,rfl⟩:=j;obtain⟨g4,c7,s4,le4,b5,_⟩:=Za0 (E:=K6 E en) (E' :=K6 E en) (s:=s) (fz0:=ZZ s en) (fzN:=ZZ s en) ⟨b.rh,b.fr,b.nt,b.df,b.ids,b.fz⟩ C rfl a7 (fun n N=>Ve _ N) (fun n N=>Vf _ (Ve _ N)) b2 Y D D W;rcases A i hi with ⟨y',X,h5⟩|⟨t,X,_⟩
         ·rw[hq]at X;simp only[Option.some.injEq,Vab]at X;subst X;exact⟨n,Vu n,z,g4,c7,h5,s4,⟨le4,b5,a7.ks⟩⟩
         grind
        |exit i=>exact fin (.exit i) (by simp) j
        |ret=>exact fin .ret (by simp) j
        |jump i=>exact fin (.jump i) (by simp) j
    |_=>simp [Kj]at h
   |_=>simp [Kj]at h
  |_=>simp [Kj]at h
 |.exit id,_,E,ρ,s,k,r,_,_,h,w,g,ow,a,b=>by
  simp only[Kj]at h
  exact wp_exit ⟨.exit id,s,g,ow,rfl,b,.refl s w g a,h⟩
 |.ret,_,E,ρ,s,k,r,_,_,h,w,g,ow,a,b=>by
  simp only[Kj]at h
  exact wp_ret ⟨.ret,s,g,ow,rfl,b,.refl s w g a,h⟩
 |.label _,_,E,ρ,s,k,r,_,_,h,w,g,ow,a,b=>by
  simp only[Kj]at h
  exact wp_label ⟨.normal,s,g,ow,rfl,b,.refl s w g a,h⟩
 |.goto l,_,E,ρ,s,k,r,_,_,h,w,g,ow,a,b=>by
  simp only[Kj]at h
  exact wp_goto ⟨.jump l,s,g,ow,rfl,b,.refl s w g a,h⟩
 |.refuse _,_,_,_,_,_,_,_,_,h,_,_,_,_,_=>by simp [Kj]at h
 |.scope c,d,E,ρ,s,k,r,M,L,h,w,g,ow,a,b=>by
  simp only[Kj]at h;refine wp_scope_straight (wp_mono (Wh U c d E ρ s _ r M L h b) ?_);rintro e R S ⟨ex,s',G,f,rfl,C,p,j⟩
  cases ex with
  |jump l=>grind
  |normal=>exact⟨.normal,s',G,f,rfl,C,p,j⟩
  |exit i=>exact⟨.exit i,s',G,f,rfl,C,p,j⟩
  |ret=>exact⟨.ret,s',G,f,rfl,C,p,j⟩
 |.rangeFunc ..,_,_,_,_,_,_,_,_,h,_,_,_,_,_=>by simp [Kj]at h
end
end Tr
end
section
namespace Tr
open Go
def VLs(w:World)(g:Gh):Zl->List Value->Prop
 |.nil,vs=>vs=[]
 |.cons a l,vs=>∃v r,vs=v::r/\VR w g a v/\VLs w g l r
section
variable {P:Program}{E:Z3}{B:ZS}{H:AH}{w:World}{g:Gh}{ow:Nat->Nat->Prop}{I:Nat->Prop}
theorem Zgg(j:RH B H w g ow)(t:∀b,g.I b->I b):∀(pl:Pats) (v:Zl) (c:List Value) (x:Kn pl) (ids:Zz) (l q:List Nat),(Wl pl v).run H l=some ((x,ids),q)->VLs w g v c->(∀b,ZF H ow ids.br b->I b)->
 ids.tk.Nodup->∃js,Jd w I pl x js c/\js.Nodup/\ ∀b∈js,ZF H ow ids.tk b
 |.nil,.nil,c,x,ids,l,q,h,m,i,_=>by
  simp only[Wl,Zd,Vc]at h;obtain⟨⟨_,rfl⟩,_⟩:=h
  exact⟨[],⟨rfl,m⟩,.nil,by simp⟩
 |.cons p pl,.cons v vs,c,x,ids,l,q,h,m,i,R=>by
  simp only[Wl,ZQ,Zd,Vc]at h;obtain⟨⟨x1,S⟩,Y,C,⟨W,y⟩,Z,J,⟨rfl,rfl⟩,_⟩:=h;obtain⟨u,r,rfl,K,L⟩:=m;have n:(S.tk++y.tk).Nodup:=R;obtain⟨U,V,n3⟩:=Vi.1 n;obtain⟨z,M,N,s⟩:=Zgh j t C K (fun b d=>i b (K9 (fun _ h=>by simp [Zz.app,h]) d)) U;obtain⟨A,O,Q,f⟩:=Zgg j t pl vs r W y _ _ J L (fun b d=>i b (K9 (fun _ h=>by simp [Zz.app,h]) d)) V;refine⟨z++A,⟨z,A,u,r,rfl,rfl,M,O⟩,Vi.2 ⟨N,Q,fun b d X k e=>?_⟩,fun b d=>?_⟩
  ·subst e;obtain⟨id,D,G⟩:=YW j (s b d) (f b k)
   grind
  ·rcases Vh.1 d with d|d
   ·exact K9 (fun _ h=>by simp [Zz.app,h]) (s b d)
   ·exact K9 (fun _ h=>by simp [Zz.app,h]) (f b d)
 |.nil,.cons _ _,_,_,_,_,_,h,_,_,_=>by simp [Wl,Zb]at h
 |.cons _ _,.nil,_,_,_,_,_,h,_,_,_=>by simp [Wl,Zb]at h
def Zcr(tmps:Array Value):ResultVar->Sem Value
 |.tmp t=>pure (tmps.getD t undef)
 |.cell c t=>do loadVar t (<-asAddr (tmps.getD c undef))
theorem Zcq(L:ZX P E){s:AS}{a:Act}(K:RH B s.H w g ow)(hF:Fr w g s.F a.tmps):∀(l:List ResultVar) (vs:Zl) (k n:List Nat),(R0 E s l).run s.H k=some (vs,n)->
 ∃d,(l.mapM (Zcr a.tmps)).run P w=.ok d w/\VLs w g vs d
 |[],vs,k,n,h=>by
  simp only[R0,Zd]at h;obtain⟨rfl,_⟩:=h
  exact⟨[],rfl,rfl⟩
 |.tmp t::l,vs,k,n,h=>by
  simp only[R0,ZQ,Zd]at h;obtain⟨ws,m,q,rfl,_⟩:=h;obtain⟨d,j,J⟩:=Zcq L K hF l ws k m q;refine⟨a.tmps.getD t undef::d,?_,_,_,rfl,hF t,J⟩;rw[Vva]
  simp only[Zcr,Vo,Vp,Vk,j]
 |.cell c T::l,vs,k,n,h=>by
  simp only[R0,Zu]at h;obtain⟨t,ht,h⟩:=h;split at h
  ·rename_i id p hc;rw[ZN]at h;split at h
   ·rename_i t0 ct hH;simp only[ZQ,ZD,Zd,Zb,ZJ,ZY,Va]at h;obtain⟨v,m,q,⟨j,G⟩,ws,m2,J,rfl,_⟩:=h;obtain⟨d,W,X⟩:=Zcq L K hF l ws m m2 J;have R:=hF c;rw[hc]at R;obtain⟨hk,o',t1,b,O,Y,Z⟩:=R.ptr;obtain⟨_,M,hf,b',cs,e,Q,S,r,U,x⟩:=K.objs id _ hH;obtain⟨_,t2,N,⟨o2,pre,post,y,z,A⟩,V,i⟩:=ZdT q hf x;rw[M,y]at O;obtain⟨rfl,rfl⟩:=Prod.mk.inj (Option.some.inj O);rw[Y]at Q;cases Q;obtain⟨C,D⟩:=Zbt i j (ZdO j G);have f:YH w b o2 N:=by rw[<-A];exact YH.of_heap r z
    refine⟨_::d,?_,_,_,rfl,.of1 C,X⟩;rw[Vva];simp only[Zcr,Vo,Vp,Vk,Z,asAddr,Zhn (L.ty T t ht) f (CV.length v t N j i) D,W]
   ·simp [Zb]at h
  ·simp [Zb]at h
theorem Zho{fn:Func}{tmps:Array Value}{b:List Value}(h:(fn.results.toList.mapM (Zcr tmps)).run P w=.ok b w):
 (results fn tmps).run P w=.ok (Ds b) w:=by
 have c:results fn tmps=(do let vs<-fn.results.mapM (Zcr tmps);pure (if h:vs.size=1 then vs[0] else .tuple vs)):=by rfl
 rw[c,Array.mapM_eq_mapM_toList];simp only[Vo,map_eq_pure_bind,Vp,h,Vk];congr 1
 cases b with
 |nil=>rfl
 |cons v l=>cases l with
  |nil=>rfl
  |cons u l=>rfl
theorem ZeH{b:List Value} :∀{l:Zl},Wt w g l b->∀(n:Nat) t,VR w g (l.toF t) ((b++Vwa n undef).getD t undef)
 |.nil,h,n,t=>by
  simp only[Wt]at h;subst h
  have:([]++Vwa n undef).getD t undef=undef:=by
   grind
  rw[this]
  exact⟨[],rfl,rfl⟩
 |.cons a l,h,n,t=>by
  obtain⟨v,r,rfl,c,d⟩:=h
  cases t with
  |zero=>exact .of1 c
  |succ t=>simpa [Zl.toF] using ZeH d n t
theorem Zfe:∀{pl:Pats}{x:Kn pl}{js:List Nat}{b:List Value},Jd w I pl x js b->b.length=pl.len
 |.nil,_,_,_,h=>by obtain⟨_,rfl⟩:=h;rfl
 |.cons _ _,_,_,_,h=>by obtain⟨_,_,v,r,_,rfl,_,c⟩:=h;simp [Pats.len,Zfe c]
theorem ZgH{B0:ZS}{X:AH}{s:AS}{ks:List Nat}{w0 w:World}{g0 g:Gh}{W ow:Nat->Nat->Prop}{B:ZS}(p:RH B0 X w0 g0 W)(hR:RH B s.H w g ow){Y:Zl}{d:List Value}(hv:Wt w0 g0 Y d)(A:g0.Le g)(hF:∀n∈ks,∀v,d[n]? =some v->VR w g (s.F n) v):∀(kp:List (Nat×Nat×Nat)),H3 ks Y X s kp=true->GT kp d w0 w
 |[],_=>fun k hk=>by grind
 |k::kp,h=>by
  simp only[H3,Va]at h;obtain⟨m,h2⟩:=h;intro i R;rcases Vj.1 R with rfl|R
  ·intro b q cs e O;split at m
   case h_2=>grind
   rename_i id V hs S;split at m
   case h_2=>grind
   rename_i T c T' c' K hH;split at m
   case h_2=>grind
   rename_i a a' ho hn;simp only[Va,Kd]at m;obtain⟨⟨⟨h3,rfl⟩,J⟩,h5⟩:=m;obtain rfl:=Vd h3;have J:=Vd J;obtain⟨a1,_,y,b1,a0,e1,M,_,f,_,j⟩:=p.objs id _ K;obtain⟨_,_,z,b2,G,e2,N,_,Q,_,l⟩:=hR.objs V _ hH;obtain⟨u,C,U⟩:=Zfj _ _ _ _ hv hs;obtain⟨_,b3,r,rfl⟩:=Zlg U;rw[C]at q;have q:=Option.some.inj q;simp only[Vbb.injEq,Option.some.injEq,Addr.mk.injEq,and_true]at q;subst q;rw[M]at r;obtain rfl:=Option.some.inj r;have D:=hF _ (W9.1 h5) _ C;rw[S]at D;obtain⟨_,o2,t2,b4,h6,Z,h8⟩:=D.ptr;simp only[Vbb.injEq,Option.some.injEq,Addr.mk.injEq]at h8;rw[N]at Z;obtain rfl:=Option.some.inj Z;obtain rfl:=h8.1
   rw[O]at f;have f:=Option.some.inj f;cases f;simp only[AV.fits]at y z;simp only[CV]at j l;obtain⟨L,x⟩:=ZaU c _ _ _ _ y j ho;obtain⟨_,t⟩:=ZaU c' _ _ _ _ z l hn;rw[Vm,J]at x t;exact⟨G,e2,Q,by rw[x,t,A.slv _ L]⟩
  ·exact ZgH p hR hv A hF kp h2 i R
theorem Zqj(hm:P.follows .mixedOrders=true)(Q:ZX P E)(hS:∀f,∀S∈E.specs f,ZL P f S)(hI:∀B:ZS,(B.pl=false->Hr P B.w0 B.own0)->(B.pl=true->∀f,∀T∈E.specs f,T.pl=true)->∀f h,E.inl f=some h->ZcO P B E.stp f h){f:FuncId}{fn:Func}{body:Code}(hf:P.funcs[f]? =some fn)(l:fn.body=some body)(c6:E.nt=fn.ntmps)
 {S:Spec} (b7:S.args.wf=true) (X:Vza S.args.len E.nt=true) {hint:KR}{pack:KY S.args×Kn S.res->S.α} (b3:∀y,S.unp (pack y)=y) (a1:S.pl=true->∀f,∀T∈E.specs f,T.pl=true)
 (q:∀x z,S.f x=some z->XO E body fn.results hint S.args S.res pack x S.kp=some z):Zac P f S:=by
 intro w I c js x z O a8 c4 a5 amb hz;have c9:=Zfe O;have c5:=Vy X;refine calls_of_wp hf l ?_;have q:=q x z hz;unfold XO at q
 let B:ZS:= {w0:=w,own0:=(· ∈js),I0:=I,pl:=S.pl}
 let g0:Gh:= {I:=I,K:=fun _=>False,ty:=fun _=>.unit,blk:=fun _=>none,slv:=fun _=>undef,ver:=fun _=>0,row:=fun _ _ _=>undef}
 have a6:RH B (fun _=>none) w g0 (fun _ _=>False):= {
  objs:=by simp
  dist:=by simp
  sep:=by simp
  ilt:=a5
  inew:=by grind
  os:=rfl
  tape:=rfl
  output:=.rfl
  size:=Nat.le_refl _
  kept:=(by grind)}
 have L:WH B (fun _=>none) w g0 (fun _ _=>False) js:=⟨a8,by grind⟩;obtain⟨g1,b8,l1,i1,r1,c1,k1,_⟩:=ZdY S.args a6 x js c 0 O L (by grind)
 have c2:Ws (Z4 S.args x 0).2.1=Zn (fun _=>none) (KX (Z4 S.args x 0).2.1):=by
  funext id;rw[Zcb _ _ _ (Zb7 _ _ _)]
  grind
 have hs:SR {E with ks:=Xq S.args 0} B ⟨(Z4 S.args x 0).1.toF,Ws (Z4 S.args x 0).2.1,(Z4 S.args x 0).2.2,[]⟩ w g1 b8 {tmps:=c.toArray++Vja (fn.ntmps - c.toArray.size) undef,defers:=[] } := {
  rh:=by grind
  fr:=fun t=>by have:=ZeH c1 (fn.ntmps - c.length) t;simpa [Vn,List.getD_eq_getElem?_getD, <-Vm] using this
  nt:=by
   grind
  df:=rfl
  ids:=by grind
  fz:=(by simp)}
 refine wp_mono (Wh hm body hint {E with ks:=Xq S.args 0} S.α _ _ z ⟨Q.ty,Q.mty,Q.pk,Q.pz,Q.bd⟩ ⟨hS,amb,a1,hI B amb a1⟩ q hs) ?_;rintro e a' w' ⟨ex,G,g',m,rfl,d,r,M⟩;rw[Vb]at M;obtain⟨y,hy,a4⟩:=M
 cases W:H3 (Xq S.args 0) (Z4 S.args x 0).1 (Ws (Z4 S.args x 0).2.1) G S.kp with
 |false=>grind
 |true=>
 rw[W]at a4;simp only[Zc,Option.some.injEq]at a4
 have a9:GT S.kp c w w' :=ZgH hs.rh d.rh c1 r.lk.le (fun k M v hv=>by
  have J:=d.fr k;rw[r.lk.ks k M]at J
  have A:(c.toArray++Vja (fn.ntmps - c.toArray.size) undef).getD k undef=v:=by
   obtain⟨b0,_⟩:=List.getElem?_eq_some_iff.1 hv;simp only[Vn, <-Vm]
   grind
  grind) S.kp W
 have key:∀(j:X3 E fn.results S.args S.res [] .normal G=some y),a'.defers=[]/\ ∃v,(results fn a'.tmps).run P w' =.ok v w' /\ ∃rv,Ending.returned v=.returned rv/\GN S w I js c (S.unp z) rv w' /\GT S.kp c w w' :=by
  intro j;refine⟨d.df,?_⟩;simp only[X3,Zq.runK_eq]at j;rw[Vb]at j;obtain⟨⟨⟨yv,ids⟩,rd⟩,D,j⟩:=j;simp only[ZQ,Zd,Vc]at D;obtain⟨vs,m1,a3,⟨xr,p⟩,m2,V,⟨yo,io⟩,m3,a0,⟨rfl,rfl⟩,_⟩:=D;simp only at j
  cases hc:((Zz.app io p).ok [] &&JJ (Zz.app io p).br []) with
  |false=>grind
  |true=>
   rw[hc]at j;simp only[Zc,Option.some.injEq]at j;subst j;simp only[Va]at hc;obtain⟨b1,b9,_⟩:=Zz.ok_iff hc.1;have Y:(io.tk++p.tk).Nodup:=b1;obtain⟨n1,n2,n3⟩:=Vi.1 Y;obtain⟨s,b4,b5⟩:=Zcq Q d.rh d.fr fn.results.toList vs [] m1 a3;have R:∀b,g'.I b->g'.I b\/ZF G.H m (Zz.app io p).br b:=by grind
   have U:∀(i:Zz),(∀n∈i.br,n∈(Zz.app io p).br)->∀b,ZF G.H m i.br b->g'.I b\/ZF G.H m (Zz.app io p).br b:=fun i hi b l=>.inr (K9 hi l);obtain⟨jr,c8,b6,a2⟩:=Zgg d.rh R S.res vs s xr p m1 m2 V b5 (U p fun n N=>by simp [Zz.app,N]) n2
   obtain⟨jo,c7,b2,Z⟩:=Zej (F:=G.F) d.rh R (w0:=w) (I0:=I) S.args 0 c x js yo io m2 m3 a0 b7 O (fun k v M hv=>by
    rw[Nat.add_zero]at M⊢;have J:=d.fr k;rw[r.lk.ks k M]at J
    have b0:k<c.length:=by
     grind
    have A:(c.toArray++Vja (fn.ntmps - c.toArray.size) undef).getD k undef=v:=by
     simp only[Vn, <-Vm]
     grind
    grind) (U io fun n N=>by simp [Zz.app,N]) n1
   refine⟨Ds s,Zho b4,Ds s,rfl,⟨(fun b=>g'.I b\/ZF G.H m (Zz.app io p).br b),jo,jr,?_,⟨s,?_,rfl⟩,?_,?_,?_,?_,d.rh.os,d.rh.tape,d.rh.output,d.rh.size,fun b J A=>d.rh.kept b J A⟩,a9⟩
   ·grind
   ·grind
   ·refine Vi.2 ⟨b2,b6,fun b l b' a7 e=>?_⟩;subst e;obtain⟨id,J,A⟩:=YW d.rh (Z b l) (a2 b a7)
    grind
   ·intro b l
    have C:ZF G.H m (Zz.app io p).tk b:=by
     rcases Vh.1 l with h|h
     ·exact K9 (fun n N=>by simp [Zz.app,N]) (Z b h)
     ·exact K9 (fun n N=>by simp [Zz.app,N]) (a2 b h)
    obtain⟨id,J,A,h3⟩:=id C;obtain⟨h4,h5,h6⟩:=d.rh.sep id b A h3;refine⟨fun h=>?_,h5,h6⟩;rcases h with h|h
    ·grind
    ·obtain⟨k,h7,h8⟩:=YW d.rh h C
     grind
   ·intro b l;refine .inl (r.lk.le.I b ?_);rw[i1.I];omega
   ·intro b l;rcases l with l|⟨id,_,A,h3⟩
    ·refine⟨d.rh.ilt b l,?_⟩;rcases d.rh.inew b l with h|h|h
     all_goals grind
    ·obtain⟨_,h5,h6⟩:=d.rh.sep id b A h3
     grind
 cases ex with
 |normal=>exact key hy
 |exit id=>simp [X3]at hy
 |jump id=>simp [X3]at hy
 |ret=>exact key (by assumption)
theorem Zqi (J:P.follows .mixedOrders=true) (D:ZX P E) (C:∀f,∀S∈E.specs f,ZL P f S) (A:∀B:ZS,(B.pl=false→Hr P B.w0 B.own0)→(B.pl=true→∀f,∀T∈E.specs f,T.pl=true)→∀f h,E.inl f=some h→ZcO P B E.stp f h) {f:FuncId} {fn:Func} {body:Code} (m:P.funcs[f]? =some fn) (G:fn.body=some body) (k:E.nt=fn.ntmps) (b:(fn.name== "runtime.NumGoroutine")=false)
 {S:Spec} (e:S.args.wf=true) (d:Vza S.args.len E.nt=true) {hint:KR}{pack:KY S.args×Kn S.res->S.α} (c:∀y,S.unp (pack y)=y) (l:S.pl=true->∀f,∀T∈E.specs f,T.pl=true)
 (j:∀x z,S.f x=some z->XO E body fn.results hint S.args S.res pack x S.kp=some z):ZL P f S:=
 have key:=Zqj J D C A m G k e d c l j
 {wf:=e
  fn:=⟨fn,m,by grind,b⟩
  run:=fun w I i K x z n p q r s t=>(key w I i K x z n p q r s t).mono (by grind)
  kept:=.inr key}
end
end Tr
end
section
namespace Tr
universe u
open Go
def Hq(P:Program)(b:List (Nat×Ty))(ms:List (Nat×Ty×Ty))(pks:List (Nat×Nat))(bds:List (Nat×Nat):=[]):Bool:=
 (bds.all fun p=>match P.info? p.1 with
   |some i=>(match i.zero with
    |some z=>(match z.cells.toList with
     |[.pointer none,.slice none 0 0]=>true
     |_=>false)
    |none=>false)
   |none=>false) &&
 (b.all fun p=>ZhG P (fun n=>b.lookup n) p.1 p.2) &&
 (ms.all fun p=>match P.underlying p.1 with
   |some (.map K V)=>b.lookup K==some p.2.1&&b.lookup V==some p.2.2
   |_=>false) &&
 (pks.all fun p=>match P.underlying p.1 with
   |some (.pointer _)=>Vg p.2 1
   |some (.func ..)=>Vg p.2 2
   |some (.map _ _)=>Vg p.2 3
   |_=>false)
theorem DW{α:Type u}{k:Nat}{x:α} :∀{l:List (Nat×α)},l.lookup k=some x->(k,x)∈l
 |[],h=>by simp at h
 |(i,y)::l,h=>by
  rw[List.lookup_cons]at h
  cases b:k==i with
  |true=>rw[b]at h;simp only[Option.some.injEq]at h;have:=beq_iff_eq.1 b;subst this;subst h;simp
  |false=>rw[b]at h;exact Vaa _ (DW h)
theorem typesOk_of{P:Program}{d:List (Nat×Ty)}{ms:List (Nat×Ty×Ty)}{pks bds:List (Nat×Nat)}(h:Hq P d ms pks bds=true){E:Z3}(l:E.ty=fun n=>d.lookup n)(p:E.mty=fun n=>ms.lookup n)(q:E.pk=fun n=>(pks.lookup n).getD 0)(r:E.bd=fun n=>bds.lookup n)(s:∀T,E.pz T=true->∃e,P.underlying T=some (.pointer e)/\ ∀w:World,∃n,(Go.sizeOf e).run P w=.ok n w/\n≠0):ZX P E:=by
 simp only[Hq,Va,Vt]at h;obtain⟨⟨⟨f,L⟩,G⟩,J⟩:=h;refine⟨fun T t b=>?_,fun T m b=>?_,fun T=>?_,s,fun T e b=>?_⟩
 rotate_left 3
 ·rw[r]at b;have:=f (T,e) (DW b);simp only at this;split at this
  ·rename_i i C;split at this
   ·rename_i z M;split at this
    ·rename_i A;refine⟨z,fun w=>?_,?_⟩
     ·simp only[zeroValue,typeInfo,Vo,run_program,Vk,C,Vp,M]
     ·rw[<-Vga];exact A
    ·cases this
   ·cases this
  ·cases this
 ·rw[l]at b⊢;exact Zt7 (L (T,t) (DW b))
 ·rw[p]at b;rw[l];have:=G (T,m) (DW b);simp only at this;split at this
  ·rename_i K V c;simp only[Va,Kd]at this;exact⟨K,V,c,this.1,this.2⟩
  ·cases this
 ·have j:E.pk T=(pks.lookup T).getD 0:=by rw[q]
  rw[j]
  cases D:pks.lookup T with
  |none=>exact⟨fun h=>(by simp at h),fun h=>(by simp at h),fun h=>(by simp at h)⟩
  |some k=>
   have:=J (T,k) (DW D);simp only at this;simp only[Option.getD_some];split at this
   ·rename_i e c;have:=Vd this;subst this;exact⟨fun _=>⟨e,c⟩,fun h=>(by simp at h),fun h=>(by simp at h)⟩
   ·rename_i x y z c;have:=Vd this;subst this;exact⟨fun h=>(by simp at h),fun _=>⟨x,y,z,c⟩,fun h=>(by simp at h)⟩
   ·rename_i x y c;have:=Vd this;subst this;exact⟨fun h=>(by simp at h),fun h=>(by simp at h),fun _=>⟨x,y,c⟩⟩
   ·cases this
def Ra(P:Program)(f:FuncId):List Spec->Prop
 |[]=>True
 |S::l=>ZL P f S/\Ra P f l
def D9(P:Program):List (Nat×List Spec)->Prop
 |[]=>True
 |p::m=>Ra P p.1 p.2/\D9 P m
theorem Ra.mem{P:Program}{f:FuncId} :∀{l:List Spec},Ra P f l->∀S∈l,ZL P f S
 |[],_,S,h=>by simp at h
 |T::l,h,S,b=>by
  rcases Vj.1 b with rfl|b
  ·exact h.1
  ·exact Ra.mem h.2 S b
theorem D9.mem{P:Program} :∀{m:List (Nat×List Spec)},D9 P m->∀p∈m,Ra P p.1 p.2
 |[],_,p,h=>by simp at h
 |q::m,h,p,b=>by
  rcases Vj.1 b with rfl|b
  ·exact h.1
  ·exact D9.mem h.2 p b
theorem Zhs{P:Program}{m:List (Nat×List Spec)}(h:D9 P m){E:Z3}(d:E.specs=fun n=>(m.lookup n).getD []):∀f,∀S∈E.specs f,ZL P f S:=by
 refine fun f S b=>?_;have e:E.specs f=(m.lookup f).getD []:=by rw[d]
 rw[e]at b
 cases c:m.lookup f with
 |none=>rw[c]at b;simp at b
 |some l=>rw[c]at b;exact(h.mem (f,l) (DW c)).mem S b
theorem WS{P:Program}{b:List (Nat×Ty)}{ms:List (Nat×Ty×Ty)}{pks bds:List (Nat×Nat)}{rws zxs:List Nat}{m:List (Nat×List Spec)}{nt:Nat}{f:FuncId}{fn:Func}{S:Spec}{hint:KR}{pack:KY S.args×Kn S.res->S.α}
 (D:P.follows .mixedOrders=true) (G:Hq P b ms pks bds=true) (t:D9 P m)
 (n:∀x z,S.f x=some z->XO (mkE b ms pks rws zxs m nt bds) (KM fn) fn.results hint S.args S.res pack x S.kp=some z)
 (C:P.funcs[f]? =some fn:=by kernel_rfl) (A:fn.body=some (KM fn):=by kernel_rfl) (r:nt=fn.ntmps:=by kernel_rfl) (c:(fn.name== "runtime.NumGoroutine")=false:=by kernel_rfl)
 (s:S.args.wf=true:=by kernel_rfl) (k:Vza S.args.len nt=true:=by kernel_rfl) (d:∀y,S.unp (pack y)=y:=by intro y;rfl) (i:(!S.pl||m.all fun p=>p.2.all (·.pl))=true:=by kernel_rfl):ZL P f S:=
 Zqi (E:=mkE b ms pks rws zxs m nt bds) D (typesOk_of G rfl rfl rfl rfl fun _ h=>absurd (show false=true from h) (by decide)) (Zhs t rfl) (fun _ _ _ _ h e=>absurd (show none=some h from e) (by simp)) C A r c s k d (fun h g T j=>by
  rw[h]at i;simp only[Vxa,Vya,Vt]at i;have e:(mkE b ms pks rws zxs m nt bds).specs g=(m.lookup g).getD []:=rfl;rw[e]at j
  cases q:m.lookup g with
  |none=>rw[q]at j;simp at j
  |some l=>rw[q]at j;exact i (g,l) (DW q) T j) n
end Tr
end
