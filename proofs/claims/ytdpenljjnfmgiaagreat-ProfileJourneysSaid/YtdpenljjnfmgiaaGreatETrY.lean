/- All operations together: a step of the abstract machine is a step of the model. Conditions: the table of types is the program's, the specs are true. -/
import Derived.Scope
import Derived.KernelRfl
import Derived.Test.YtdpenljjnfmgiaaGreatETrSc
open Array renaming getElem?_toList ->Vm,getD_eq_getD_getElem? ->Vn,mem_toList_iff ->Vr,getElem?_eq_getElem ->Vea,toList_inj ->Vga,replicate ->Vja,getElem?_push ->Vla,foldl_toList ->Vna
open Bool renaming and_eq_true ->Va,not_eq_true' ->Vl,not_eq_false' ->Vda,or_eq_false_iff ->Vka,false_eq_true ->Vma,not_true ->Vxa,false_or ->Vya
open Go.Code renaming region ->Vra
open List renaming mem_append_left ->Ve,mem_append_right ->Vf,mem_append ->Vh,nodup_append ->Vi,mem_cons ->Vj,all_eq_true ->Vt,map_cons ->Vv,mem_singleton ->Vw,nodup_range ->Vz,mem_cons_of_mem ->Vaa,nodup_cons ->Vba,mem_map ->Vca,range ->Vha,mem_filterMap ->Voa,map_append ->Vsa,mem_range ->Vua,mapM_cons ->Vva,replicate ->Vwa
open Nat renaming eq_of_beq_eq_true ->Vd,beq ->Vg,mul_le_mul_right ->Vs,lt_succ_self ->Vu,le_of_ble_eq_true ->Vy,succ_mul ->Via,succ_le_of_lt ->Vpa,blt ->Vqa,ble ->Vza
open Option renaming bind_eq_some_iff ->Vb,mem_def ->Vta
open Prod renaming fst ->Vq,snd ->Vx
open Prod.mk renaming injEq ->Vc
open Go.Result renaming andThen_ok ->Vk
open Go.Sem renaming run_bind ->Vo,run_pure ->Vp
open Sum.inl renaming injEq ->Vab
open Sum.inr renaming injEq ->Vfa
open Go.Value renaming pointer ->Vbb
open Option renaming some ->Ua,none ->Ub
open Bool renaming true ->Uc,false ->Ud
open Decidable renaming decide ->Ue
section
namespace Tr
open Go
def Zaa(P:Program)(B:Z1)(H' :AH)(w:World)(g:Gh)(nid n:Nat)(v:AV)(o:Oper)(a:Act):Prop:=
 ∀(next:Act->World->Prop) (Q:Exit->Act->World->Prop),
  (∀val c b d,RH B H' c b d->g.Le b->Km g.I w c->VR c b v val->(∀id,b.K id->g.K id\/(nid<=id/\id<nid+n))->next (a.put o.dst val) c)->o.wp P a w next Q
section ops
variable {P:Program}{E:Ka}{B:Z1}{H:AH}{w:World}{g:Gh}{ow:Nat->Nat->Prop}{nid:Nat}{a:Act}{F:Nat->AV}{v:AV}{patch:Kx}{rd:List Nat}{o:Oper}
theorem Zaa.of_did{H' :AH}{n:Nat}(p:Wr<=n)(h:Zq B H' w g nid v ((execOp a.eval o).run P w)):Zaa P B H' w g nid n v o a:=by
 intro next Q m
 obtain⟨val,q,e,d,b,f,i,j,k,l⟩:=h;have:=m val q e d f i j k fun id c=>(l id c).imp (fun h=>h) fun h=>⟨h.1,by omega⟩;unfold Oper.wp;rcases b with b|⟨b,rfl⟩
 ·rw[b];exact this
 ·rw[b];exact this
structure ZdW (P:Program) (B:Z1) (n:Nat) (f:FuncId) (h:Nat->Zo->Zu (AV×Kx)):Prop where
 fn:∃fn,P.funcs[f]? =some fn∧fn.body.isNone=false∧(fn.name== "runtime.NumGoroutine")=false
 run:∀{H:AH}{w:World}{g:Gh}{ow:Nat->Nat->Prop}{nid:Nat}{avs:Zo}{vals:List Value}{v:AV}{patch:Kx}{rd:List Nat},RH B H w g ow->(∀id,g.K id->id<nid\/nid+n<=id)->WK w g avs vals->(h nid avs).run H []=Ua ((v,patch),rd)->
  Calls P f vals.toArray w fun e w' =>∃rv g' ow',e=.returned rv/\RH B (Zp H patch) w' g' ow' /\g.Le g' /\Km g.I w w' /\VR w' g' v rv/\ ∀id,g'.K id->g.K id\/(nid<=id/\id<nid+n)
theorem ZiB(E:Ka):Wr<=E.stp:=by unfold Ka.stp Wr;omega
structure JJ (P:Program) (E:Ka) (B:Z1):Prop where
 ok:∀f,∀S∈E.specs f,ZS P f S
 amb:B.pl=Ud->HX P B.w0 B.own0
 pl:B.pl=Uc->∀f,∀S∈E.specs f,S.pl=Uc
 inl:∀f h,E.inl f=Ua h->ZdW P B E.stp f h
theorem ZbH{fns:List FuncId} :∀{l:List Spec}{S:Spec},S∈RN fns l->S∈l/\S.fns=fns
 |[],_,h=>by simp [RN]at h
 |T::l,S,h=>by
  simp only[RN]at h
  cases b:T.fns==fns with
  |true=>
   rw[b]at h;simp only[Ze]at h;rcases Vj.1 h with rfl|h
   ·exact⟨by simp,by simpa using b⟩
   ·exact⟨Vaa _ (ZbH h).1,(ZbH h).2⟩
  |false=>rw[b]at h;simp only[Zd]at h;exact⟨Vaa _ (ZbH h).1,(ZbH h).2⟩
theorem ZjD:∀(xs:List Operand),Fr w g F a.tmps->Zdk (xs.map (Zx F))=Uc->WK w g (Zo.ofList (xs.map (Zx F))) (xs.map a.eval)
 |[],_,_=>rfl
 |x::l,c,h=>by
  have b:(∀m,Zx F x≠ .tup m)/\Zdk (l.map (Zx F))=true:=by
   simp only[Vv]at h
   cases d:Zx F x<;>rw[d]at h<;>simp [Zdk]at h<;>exact⟨by simp,by simpa using h⟩
  exact⟨a.eval x,l.map a.eval,rfl,(c.eval x).to1 b.1,ZjD l c b.2⟩
theorem Zgk:∀{l m:Zo}{vs us:List Value},WK w g l vs->WK w g m us->WK w g (l.app m) (vs++us)
 |.nil,_,_,_,h,b=>by simp only[WK]at h;subst h;exact b
 |.cons _ _,_,_,_,h,b=>by obtain⟨v,r,rfl,c,d⟩:=h;exact⟨v,r++_,rfl,c,Zgk d b⟩
theorem Zir{f:FuncId}{S:Spec}(e:ZS P f S)(args:Array Value)(w:World):(callFunc f args).run P w=.ok (.enter f args) w:=by obtain⟨fn,b,c,d⟩:=e.fn;simp only[callFunc,Vo,run_program,Vk,b,d,c,if_false,Vma,Vp]
theorem Zsu{f:FuncId}(h:Vqa f WL=Uc):Gc f=f:=by unfold Gc;rw[h,Ze]
theorem Zst{f:FuncId}(h:Vqa f WL=Ud):Gc f=f - WL:=by unfold Gc;rw[h,Zd]
theorem ZpR{c:Call}{R:Operand}(C:JJ P E B)(hR:RH B H w g ow)(hF:Fr w g F a.tmps)(hk:∀id,g.K id->id<nid\/nid+Wr<=id)(N:o.op=.call c)(D:c.callee=.value R)
 (h:(ZN E nid o.op o.type (Zx F)).run H []=Ua ((v,patch),rd)):Zaa P B (Zp H patch) w g nid E.stp v o a:=by
 rw[N]at h;simp only[ZN,D]at h;split at h
 ·rename_i f k hf;simp only[ZJ,Zb,ZP,false_or,Vda,Va]at h;obtain⟨⟨t,M⟩,h⟩:=h;have b:=hF.eval R;rw[hf]at b;obtain⟨A,b,G⟩:=b.fn;have s:=Zj2 k A t G;have r:=ZjD c.args.toList hF M
  obtain⟨j,n⟩:∃j,j=bif Vqa f WL then(Zo.ofList (c.args.toList.map (Zx F))).app k else k.app (Zo.ofList (c.args.toList.map (Zx F))):=⟨_,rfl⟩
  obtain⟨i,d⟩:∃i,i=bif Vqa f WL then c.args.toList.map a.eval++A else A++c.args.toList.map a.eval:=⟨_,rfl⟩
  simp only[<-n]at h
  have hv:WK w g j i:=by
   rw[n,d]
   cases Vqa f WL with
   |true=>exact Zgk r s
   |false=>exact Zgk s r
  have z:∀S∈RN (Zc1 j) (E.specs (Gc f)),ZS P (Gc f) S/\(B.pl=Uc->S.pl=Uc):=fun S h=>⟨C.ok _ S (ZbH h).1,fun p=>C.pl p _ S (ZbH h).1⟩
  obtain⟨S,m⟩:∃S,ZS P (Gc f) S:=by
   cases x:RN (Zc1 j) (E.specs (Gc f)) with
   |nil=>rw[x]at h;simp [Zbq,Zb]at h
   |cons S l=>exact⟨S,(z S (by rw[x];simp)).1⟩
  have q:=ZjY C.amb hR hk hv _ z h
  intro next Q hn
  unfold Oper.wp
  have y:(execOp a.eval o).run P w=.ok (.enter (Gc f) i.toArray) w:=by
   rcases ZbK f A with ⟨p,J⟩|⟨p,J⟩
   ·rw[J]at b;rw[d,p];simp only[execOp,N,resolve,D,Deferred.ofValue,b,Vo,Vp,Vk,invoke];have:Gc f=f:=Zsu p;rw[this]at m⊢;rw[Zir m];congr 2;rw[<-Vga];simp
   ·rw[J]at b;rw[d,p];simp only[execOp,N,resolve,D,Deferred.ofValue,b,Vo,Vp,Vk,invoke];have:Gc f=f - WL:=Zst p;rw[this]at m⊢;rw[Zir m];congr 2;rw[<-Vga];simp
  rw[y,Oper.upon_enter];refine q.mono ?_;rintro e w' ⟨rv,U,O,rfl,V,W,X,Y,Z⟩;exact hn rv w' U O V W X Y fun id L=>(Z id L).imp (fun h=>h) fun h=>⟨h.1,by have:=ZiB E;omega⟩
 ·simp [Zb]at h
theorem Zpj(p:Z3 P E)(D:JJ P E B)(e:RH B H w g ow)(hF:Fr w g F a.tmps)(z:∀id,g.K id->id<nid\/nid+Wr<=id)
 (h:(ZN E nid o.op o.type (Zx F)).run H []=Ua ((v,patch),rd)):Zaa P B (Zp H patch) w g nid E.stp v o a:=by
 have j:=ZiB E
 cases d:o.op with
 |move x=>exact .of_did j (ZjB e hF (.inl d) h)
 |assign x=>exact .of_did j (ZjB e hF (.inr d) h)
 |pick c x y=>exact .of_did j (ZpL e hF d h)
 |alloc T=>exact .of_did j (Zpk p e z d h)
 |box T x=>exact .of_did j (Zpo e hF z d h)
 |build T J=>exact .of_did j (Zpp p e hF d h)
 |buildSlice T n J=>exact .of_did j (Zpq p e hF z d h)
 |load T x=>exact .of_did j (ZjA p e hF d h)
 |store T x y=>exact .of_did j (ZpP p e hF d h)
 |nilCheck x=>exact .of_did j (ZpJ e hF d h)
 |binOp op T x y L=>exact .of_did j (Zpm p e hF d h)
 |unOp op T x=>exact .of_did j (ZpQ e hF d h)
 |convert S T x=>exact .of_did j (Zpt p e hF d h)
 |makeFunc fn first A=>
  cases fn with
  |func f=>exact .of_did j (ZpC e hF d h)
  |_=>rw[d]at h;simp [ZN,Zb]at h
 |makeMap T r=>exact .of_did j (ZpD p e hF z d h)
 |makeSlice T l c=>exact .of_did j (ZpE p e hF z d h)
 |slice T x M C G=>
  cases G with
  |none=>exact .of_did j (ZpN p e hF d h)
  |some m=>cases C with
   |none=>rw[d]at h;simp [ZN,Zb]at h
   |some C=>exact .of_did j (ZpO p e hF d h)
 |fieldAddr T x f=>exact .of_did j (Zjz p e hF d h)
 |field T x f=>exact .of_did j (Zpx p e hF d h)
 |indexAddr T x i=>exact .of_did j (Zpz p e hF d h)
 |index T x i=>exact .of_did j (Zpy p e hF d h)
 |lookup T m k ok=>exact .of_did j (ZpB p e hF d h)
 |mapUpdate T m k x=>exact .of_did j (ZpF p e hF d h)
 |range T x=>exact .of_did j (ZpM p e hF z d h)
 |next it s=>
  cases s with
  |false=>exact .of_did j (ZpI e hF d h)
  |true=>rw[d]at h;simp [ZN,Zb]at h
 |entry it=>exact .of_did j (Zpv e hF d h)
 |extract t i=>exact .of_did j (Zpw e hF d h)
 |call c=>
  cases q:c.callee with
  |value f=>exact ZpR D e hF z d q h
  |invoke r m=>rw[d]at h;simp [ZN,q,Zb]at h
  |builtin b=>
   cases b with
   |len=>exact .of_did j (ZpA p e hF d q h)
   |min=>exact .of_did j (ZpH e hF d q h)
   |max=>exact .of_did j (ZpG e hF d q h)
   |append=>exact .of_did j (Zpl p e hF z d q h)
   |copy=>exact .of_did j (Zpu p e hF d q h)
   |cap=>exact .of_did j (Zpr p e hF d q h)
   |_=>rw[d]at h;simp [ZN,q,Zb]at h
 |_=>rw[d]at h;simp [ZN,Zb]at h
theorem Zvt{α:Type}{H:AH} :∀(a:Zu α) (l:List Nat) {r:α}{c:List Nat},a.run H l=Ua (r,c)->∃m,a.run H []=Ua (r,m):=by
 intro a
 induction a with
 |ret a=>intro l r c h;simp only[Zu.run,ZB,Vc]at h;exact⟨[],by simp [Zu.run,h.1]⟩
 |fail=>intro l r c h;simp [Zu.run]at h
 |getH id k d=>
  intro l r c h;simp only[Zu.run]at h⊢
  have key:∀(a:Zu α) (f e:List Nat) {r:α}{c:List Nat},a.run H f=Ua (r,c)->∃m,a.run H e=Ua (r,m):=by
   intro a
   induction a with
   |ret a=>intro f e r c h;simp only[Zu.run,ZB,Vc]at h;exact⟨e,by simp [Zu.run,h.1]⟩
   |fail=>intro f e r c h;simp [Zu.run]at h
   |getH id k d=>intro f e r c h;simp only[Zu.run]at h⊢;exact d _ _ _ h
   |opt o k d=>intro f e r c h;cases o with
    |none=>simp [Zu.run]at h
    |some b=>simp only[Zu.run,Za]at h⊢;exact d _ _ _ h
   |bool b k d=>intro f e r c h;simp only[Zu.run]at h⊢;exact d _ _ _ h
  exact key _ _ _ h
 |opt o k d=>
  intro l r c h
  cases o with
  |none=>simp [Zu.run]at h
  |some b=>simp only[Zu.run,Za]at h⊢;exact d _ _ h
 |bool b k d=>intro l r c h;simp only[Zu.run]at h⊢;exact d _ _ h
theorem ZpK(L:Z3 P E)(hS:JJ P E B)(C:RH B H w g ow)(hF:Fr w g F a.tmps)(hk:∀id,g.K id->id<nid\/nid+E.stp<=id)
 (h:(WT E nid o.op o.type (Zx F)).run H []=Ua ((v,patch),rd)):Zaa P B (Zp H patch) w g nid E.stp v o a:=by
 have A:=ZiB E;have V:∀id,g.K id->id<nid\/nid+Wr<=id:=fun id a7=>(hk id a7).imp (fun h=>h) fun h=>by omega
 have q:∀{l:List Nat},(ZN E nid o.op o.type (Zx F)).run H l=Ua ((v,patch),rd)->Zaa P B (Zp H patch) w g nid E.stp v o a:=fun h=>by obtain⟨m,W⟩:=Zvt _ _ h;exact Zpj L hS C hF V W
 cases z:o.op with
 |call c=>
  cases Q:c.callee with
  |value fo=>
   rw[z]at h q
   simp only[WT,Q]at h;exact q h
  |invoke r m=>rw[z]at h q;simp only[WT,Q]at h;exact q h
  |builtin b=>
   rw[z]at h q
   cases b with
   |clear=>
    simp only[WT,Q]at h;split at h
    ·rename_i x t J Z;obtain⟨T0,h0,Y⟩:=Vb.1 Z;split at h
     ·rename_i id lo n G;rw[ZX]at h;split at h
      ·rename_i t' xs D;simp only[ZJ,Zy,Zf,Zb,ZP,Z6,Kj,Vc,Va]at h;obtain⟨⟨rfl,hd⟩,u,hg,⟨rfl,rfl⟩,_⟩:=h;exact .of_did A (ZqG L C hF z Q J h0 Y G D hd (Xq (Yw hg)))
      ·simp [Zb]at h
     ·simp [Zb]at h
    ·simp [Zb]at h
   |append=>
    simp only[WT,Q]at h;split at h
    ·rename_i s x lb J Z;obtain⟨T0,h0,Y⟩:=Vb.1 Z;split at h
     ·rename_i id G;rw[ZX]at h;split at h
      ·rename_i b7 xs D;simp only[ZJ,Zy,Z0,Zf,Zb,false_or,ZP,Vl,Vc]at h;obtain⟨b2,b8,U,⟨ys,ids⟩,m,a2,_,hg,⟨rfl,rfl⟩,_⟩:=h;obtain⟨he,rfl⟩:=KE U;cases he;exact .of_did A (Zwz L C hF (Yu V) z Q J h0 Y (by simpa using b2) G D a2 (Xq (Yw hg)))
      ·exact q h
     ·exact q h
    ·exact q h
   |_=>simp only[WT,Q]at h;exact q h
 |indexAddr T x i=>
  rw[z]at h q;simp only[WT]at h;split at h
  ·rename_i id k n G hi;rw[ZX]at h;split at h
   ·rename_i lb xs D;simp only[ZJ,Zy,Zf,Zb,ZP,Z6,Kj,Vc]at h;obtain⟨N,j,hj,⟨rfl,rfl⟩,_⟩:=h;exact .of_did A (ZwA L C hF z G hi D N hj)
   ·exact q h
  ·exact q h
 |slice T x lo hi mx=>
  rw[z]at h q;simp only[WT]at h;split at h
  ·rename_i id G;rw[ZX]at h;split at h
   ·rename_i lb xs D;simp only[ZJ,Zy,Zf,Zb,ZP,false_or,Vka,Vda,Va,Kj,Vc]at h;obtain⟨⟨N,a3,a4⟩,r,X,⟨rfl,rfl⟩,_⟩:=h;exact .of_did A (ZwC L C hF (Yu V) z G D N a3 a4 X)
   ·exact q h
  ·rename_i id G;rw[ZX]at h;split at h
   ·rename_i t0 n t xs D;simp only[ZJ,Zy,Zf,Zb,ZP,false_or,Kj,Vc,Vka,Vda,Va]at h;obtain⟨⟨⟨⟨a9,a5⟩,N⟩,rfl⟩,⟨l1,O⟩,hs,⟨rfl,rfl⟩,_⟩:=h;exact .of_did A (ZvN L C hF z G D N a9 a5 hs)
   ·exact q h
  ·exact q h
 |makeFunc fn first b5=>
  rw[z]at h q;simp only[WT,ZJ]at h;rcases h with ⟨_,h⟩|⟨_,h⟩
  ·exact q h
  have junk:v=.junk->patch=[]->Zaa P B (Zp H patch) w g nid E.stp v o a:=by
   rintro rfl rfl
   have X:∃val,(execOp a.eval o).run P w=.ok (.value val) w:=by simp only[execOp,z];exact⟨_,rfl⟩
   obtain⟨val,X⟩:=X;exact .of_did A (Zq.pure C X HB)
  split at h
  ·rename_i f;simp only[ZJ,Zf,Vc,Va]at h;rcases h with ⟨⟨Q,h2⟩,⟨rfl,rfl⟩,_⟩|⟨_,⟨rfl,rfl⟩,_⟩
   ·exact .of_did A (Zpn C hF z Q h2)
   ·exact junk rfl rfl
  ·simp only[Zf,Vc]at h;obtain⟨⟨rfl,rfl⟩,_⟩:=h
   exact junk rfl rfl
 |mapEntry T m k=>
  rw[z]at h q;simp only[WT]at h;rw[Zy]at h;obtain⟨mt,a0,h⟩:=h;split at h
  ·rename_i id kt x W a8;rw[ZX]at h;split at h
   ·rename_i b4 t es u D;simp only[ZJ,Zy,Zf,Zb,ZP,Z6,Va,Kj,Vc]at h;obtain⟨⟨⟨M,O⟩,h2⟩,y,R,⟨rfl,rfl⟩,_⟩:=h;obtain⟨rfl,rfl⟩:=KE R;exact .of_did A (ZtN L C hF z a0 O h2 M W a8 D)
   ·simp [Zb]at h
  ·simp [Zb]at h
 |entryStore T m s x=>
  rw[z]at h q;simp only[WT]at h;rw[Zy]at h;obtain⟨mt,a0,h⟩:=h;split at h
  ·rename_i id ik n i2 W b1 b3;rw[ZX]at h;split at h
   ·rename_i b4 t es u b6 D;simp only[ZJ,Zy,Z0,Zf,Zb,ZP,Z6,Va,Kj,Vc]at h;obtain⟨⟨⟨⟨M,O⟩,h2⟩,b0⟩,e,he,_,a6,⟨ys,ids⟩,m2,a1,⟨rfl,rfl⟩,_⟩:=h;exact .of_did A (Zr3 C hF z M W b1 b3 D (Vy b0) he (Yw a6) a1)
   ·simp [Zb]at h
  ·simp [Zb]at h
 |nilCheck x=>
  rw[z]at h q;simp only[WT]at h;rw[ZJ]at h;rcases h with ⟨hp,h⟩|⟨_,h⟩
  ·rw[Z0]at h;obtain⟨u,m,O,h⟩:=h;simp only[Zf,Vc]at h;obtain⟨⟨rfl,rfl⟩,_⟩:=h;exact .of_did A (ZuF C hF z O)
  ·exact q h
 |fieldAddr T x f=>
  rw[z]at h q;simp only[WT]at h;rw[ZJ]at h;rcases h with ⟨hp,h⟩|⟨_,h⟩
  ·exact .of_did A (ZuC L C hF z hp h)
  ·exact q h
 |load T x=>
  rw[z]at h q;simp only[WT]at h;rw[ZJ]at h;rcases h with ⟨hp,h⟩|⟨_,h⟩
  ·exact .of_did A (ZuD L C hF z hp h)
  split at h
  ·rename_i id j G;rw[ZX]at h;split at h
   ·rename_i lb xs D;simp only[ZJ,Zy,Zf,Zb,ZP,Z6,Kj,Vc]at h;obtain⟨N,y,R,⟨rfl,rfl⟩,_⟩:=h;exact .of_did A (ZwB L C hF z G D N R)
   ·simp [Zb]at h
  ·exact q h
 |store T x y=>
  rw[z]at h q;simp only[WT]at h;rw[ZJ]at h;rcases h with ⟨hp,h⟩|⟨_,h⟩
  ·rw[Zy]at h;obtain⟨t,N,h⟩:=h;rw[Z0]at h;obtain⟨⟨d,ids⟩,m,O,h⟩:=h;split at h
   ·rename_i id p G;rw[ZJ]at h;rcases h with ⟨_,h⟩|⟨W,h⟩
    ·simp [Zb]at h
    rw[ZX]at h;split at h
    ·rename_i t0 c D;rw[Z0]at h;obtain⟨c',m',h2,h⟩:=h;simp only[Zf,Vc]at h;obtain⟨⟨rfl,rfl⟩,_⟩:=h;exact .of_did A (ZuG L C hF z N G O W D h2)
    ·simp [Zb]at h
   ·simp [Zb]at h
  exact q h
 |binOp b T x y T' =>
  rw[z]at h q;simp only[WT]at h;split at h
  ·rename_i t d G R;rw[Zy]at h;obtain⟨r,X,h⟩:=h;rw[ZJ]at h;rcases h with ⟨hb,h⟩|⟨_,h⟩
   ·have S:=ZuE (nid:=nid) L C hF z G R X (beq_iff_eq.1 hb);split at h
    ·simp only[Zf,Vc]at h;obtain⟨⟨rfl,rfl⟩,_⟩:=h;exact .of_did A (S.1 rfl)
    ·simp only[Zf,Vc]at h;obtain⟨⟨rfl,rfl⟩,_⟩:=h;exact .of_did A (S.2 rfl)
    ·simp [Zb]at h
   ·simp [Zb]at h
  ·rename_i t d t' d' G R;rw[ZJ]at h;rcases h with ⟨hb,h⟩|⟨_,h⟩
   ·simp only[Va,Kj]at hb;obtain⟨⟨N,rfl⟩,hz⟩:=hb
    have hz:t'.size≠0:=by intro e;rw[e]at hz;simp at hz
    have S:=Zup (nid:=nid) L C hF z G R N hz;split at h
    ·simp only[Zf,Vc]at h;obtain⟨⟨rfl,rfl⟩,_⟩:=h;exact .of_did A (S.1 rfl)
    ·simp only[Zf,Vc]at h;obtain⟨⟨rfl,rfl⟩,_⟩:=h;exact .of_did A (S.2 rfl)
    ·simp [Zb]at h
   ·simp [Zb]at h
  ·have R:Zx F y=.nils:=by assumption
   rw[ZJ]at h;rcases h with ⟨hb,h⟩|⟨_,h⟩
   ·rw[Z0]at h;obtain⟨r,m,O,h⟩:=h;have S:=Zt8 (nid:=nid) L C hF z R hb O;split at h
    ·simp only[Zf,Vc]at h;obtain⟨⟨rfl,rfl⟩,_⟩:=h;exact .of_did A (S.1 rfl)
    ·simp only[Zf,Vc]at h;obtain⟨⟨rfl,rfl⟩,_⟩:=h;exact .of_did A (S.2 rfl)
    ·simp [Zb]at h
   ·exact q h
  ·exact q h
 |_=>rw[z]at h q;exact q h
end ops
end Tr
end
section
namespace Tr
open Go
section congr
variable {E:Ka}{nid:Nat}{T:TypeId}{ev ev' :Operand->AV}
theorem Zbp{o:Option Operand}(h:∀x∈o,ev x=ev' x):XL ev o=XL ev' o:=by
 cases o with
 |none=>rfl
 |some x=>simp [XL,h x (by simp)]
theorem ZcF{o:Option Operand}(h:∀x∈o,ev x=ev' x):(o.bind fun o=>KR (ev o))=o.bind fun o=>KR (ev' o):=by
 cases o with
 |none=>rfl
 |some x=>grind
theorem Zpi(op:Op)(h:∀x∈op.operands,ev x=ev' x):ZN E nid op T ev=ZN E nid op T ev' :=by
 have A:∀e:Array (Nat×Operand),(∀x∈e.toList.map (·.2),ev x=ev' x)->(e.toList.map fun p=>(p.1,ev p.2))=(e.toList.map fun p=>(p.1,ev' p.2)):=fun e Q=>
  List.map_congr_left (by grind)
 have lists:∀xs:List Operand,(∀x∈xs,ev x=ev' x)->xs.map ev=xs.map ev' :=by simp
 cases op<;>simp only[Op.operands]at h<;>simp only[ZN]
 case move x=>grind
 case assign x=>grind
 case pick c x y=>grind
 case box T x=>grind
 case build T e=>grind
 case buildSlice T n e=>grind
 case load T x=>grind
 case store T x y=>simp_all
 case nilCheck x=>grind
 case binOp op T x y N=>grind
 case unOp op T x=>grind
 case convert S T x=>grind
 case makeFunc fn first C=>
  cases fn<;>simp only
  grind
 case makeMap T r=>
  grind
 case makeSlice T l c=>grind
 case slice T x D d M=>
  cases M with
  |some m=>
   cases d with
   |none=>rfl
   |some d=>
    have j:∀y∈D,ev y=ev' y:=by simp_all
    have q:ev d=ev' d:=by grind
    have G:ev m=ev' m:=h m (by simp);have J:XL ev (Ua d)=XL ev' (Ua d):=Zbp (by grind);simp only
    rw[h x (by simp),Zbp j,J,ZcF j,q,G]
  |none=>
   simp only;have j:∀y∈D,ev y=ev' y:=by simp_all
   have q:∀y∈d,ev y=ev' y:=by simp_all
   rw[h x (by simp),Zbp j,Zbp q,ZcF j,ZcF q]
 case fieldAddr T x f=>grind
 case field T x f=>grind
 case indexAddr T x i=>grind
 case index T x i=>grind
 case lookup T m k ok=>grind
 case mapUpdate T m k x=>grind
 case range T x=>grind
 case next it s=>cases s<;>simp only;grind
 case entry it=>grind
 case extract t i=>grind
 case call c=>
  have z:∀x∈c.args.toList,ev x=ev' x:=fun x L=>h x (by simp [Call.operands,Vr.1 L])
  cases K:c.callee with
  |value f=>
   have O:ev f=ev' f:=h f (by simp [Call.operands,K])
   grind
  |invoke r m=>rfl
  |builtin b=>
   cases b<;>simp only
   all_goals grind
theorem Zps(op:Op)(h:∀x∈op.operands,ev x=ev' x):WT E nid op T ev=WT E nid op T ev' :=by
 have A:=Zpi (E:=E) (nid:=nid) (T:=T) op h;have lists:∀xs:List Operand,(∀x∈xs,ev x=ev' x)->xs.map ev=xs.map ev' :=by simp
 cases op
 all_goals simp only[Op.operands]at h
 all_goals simp only[WT,A]
 case load T x=>rw[h x (by simp)]
 case nilCheck x=>rw[h x (by simp)]
 case indexAddr T x i=>rw[h x (by simp),h i (by simp)]
 case slice T x D C K=>
  have e:∀y∈D,ev y=ev' y:=by simp_all
  have j:∀y∈C,ev y=ev' y:=by simp_all
  rw[h x (by simp),Zbp e,Zbp j,ZcF e,ZcF j]
 case mapEntry T m k=>rw[h m (by simp),h k (by simp)]
 case entryStore T m s x=>rw[h m (by simp),h s (by simp),h x (by simp)]
 case fieldAddr T x f=>rw[h x (by simp)]
 case store T x y=>rw[h x (by simp),h y (by simp)]
 case binOp op T x y G=>rw[h x (by simp),h y (by simp)]
 case makeFunc fn first q=>rw[lists first.toList fun x p=>h x (by simp [Vr.1 p])]
 case call c=>
  have d:∀x∈c.args.toList,ev x=ev' x:=fun x p=>h x (by simp [Call.operands,Vr.1 p])
  cases J:c.callee with
  |value f=>rfl
  |invoke r m=>rfl
  |builtin b=>
   cases b<;>simp only
   case clear=>
    rcases n:c.args.toList with _|⟨x,_|⟨y,l⟩⟩
    ·rfl
    ·have e:=d x (by simp [n])
     cases (c.argTypes[0]?).bind E.ty with
     |none=>rfl
     |some t=>cases t<;>first|rfl|(simp only[e])
    ·rfl
   case append=>
    rcases n:c.args.toList with _|⟨x,_|⟨y,_|⟨z,l⟩⟩⟩
    ·rfl
    ·rfl
    ·have e:=d x (by simp [n]);have j:=d y (by simp [n])
     cases (c.argTypes[0]?).bind E.ty with
     |none=>rfl
     |some t=>cases t<;>first|rfl|(rename_i u;cases u<;>first|rfl|(simp only[e,j]))
    ·rfl
   all_goals grind
end congr
theorem ZlX{t:Nat} :∀{l:List Operand},t∈Za1 l↔.tmp t∈l
 |[]=>by simp [Za1]
 |x::l=>by cases x<;>simp [Za1,ZlX]
theorem Zo4{F b:Nat->AV}{l:List Operand}(h:∀t∈Za1 l,F t=b t):∀x∈l,Zx F x=Zx b x:=by
 intro x c
 cases x with
 |tmp t=>exact h t (ZlX.2 c)
 |_=>rfl
def Y2(ops:Array Oper)(o:Oper)(F:Nat->AV):Option Bool:=
 match o.guard with
 |none=>Ua Uc
 |some (j,want)=>match (ops[j]?).bind (·.dst) with
  |none=>Ub
  |some g=>match F g with
   |.d .bool b=>Ua (b==want)
   |.tup .nil=>Ua Ud
   |_=>Ub
noncomputable def Xr(E:Ka)(ops:Array Oper)(base:Nat)(fz:List Nat)(i:Nat)(o:Oper)(F:Nat->AV)(H:AH):Option ((Nat->AV) ×AH×Option Wj):=
 match Y2 ops o F with
 |none=>Ub
 |some false=>if YX E o.dst=Uc then Ua (W0 F o.dst Zcg,H,Ub) else Ub
 |some true=>if YX E o.dst=Uc then((WT E (base+i*E.stp) o.op o.type (Zx F)).run H []).bind fun r=>
   if J1 (r.1.2.map Vq) fz=Uc then Ua (W0 F o.dst r.1.1,Zp H r.1.2,Ua ⟨i,r.2,r.1.2.map Vq⟩) else Ub else Ub
theorem Zn4{F:Nat->AV}{g:Nat}{v:AV}(h:F g=v):XB F g v=F:=by
 funext k;unfold XB
 cases b:Vg k g with
 |true=>simp_all
 |false=>rfl
section
variable {E:Ka}{ops:Array Oper}{base:Nat}{fz:List Nat}
theorem ZpS{ρ:Type}{o:Oper}{i:Nat}{rest:List (Oper×Nat)}{F:Nat->AV}{H:AH}{l:List Wj}{k:(Nat->AV)->AH->List Wj->Option ρ}{r:ρ}(h:YT E ops base fz ρ ((o,i)::rest) F H l k=Ua r):
 ∃d H1 t,Xr E ops base fz i o F H=Ua (d,H1,t)/\YT E ops base fz ρ rest d H1 (t.toList++l) k=Ua r:=by
 have go:Y2 ops o F=Ua Uc->(bif YX E o.dst then
  (WT E (base+i*E.stp) o.op o.type (Zx F)).runK H [] fun r rd=>
    bif J1 (r.2.map Vq) fz then
     YT E ops base fz ρ rest (W0 F o.dst r.1) (Zp H r.2) (⟨i,rd,r.2.map Vq⟩::l) k else Ub else Ub)=Ua r->
  ∃d H1 t,Xr E ops base fz i o F H=Ua (d,H1,t)/\YT E ops base fz ρ rest d H1 (t.toList++l) k=Ua r:=by
  intro n h
  cases m:YX E o.dst with
  |false=>grind
  |true=>
   rw[m]at h;simp only[Ze,Zu.runK_eq]at h
   cases q:(WT E (base+i*E.stp) o.op o.type (Zx F)).run H [] with
   |none=>grind
   |some y=>
    rw[q]at h;simp only[Za]at h
    cases p:J1 (y.1.2.map Vq) fz with
    |false=>grind
    |true=>
     rw[p]at h;exact⟨W0 F o.dst y.1.1,Zp H y.1.2,Ua ⟨i,y.2,y.1.2.map Vq⟩,by simp [Xr,n,m,q,p],by grind⟩
 have skip:Y2 ops o F=Ua Ud->(bif YX E o.dst then YT E ops base fz ρ rest (W0 F o.dst Zcg) H l k else Ub)=Ua r->
  ∃d H1 t,Xr E ops base fz i o F H=Ua (d,H1,t)/\YT E ops base fz ρ rest d H1 (t.toList++l) k=Ua r:=by
  intro n h
  cases m:YX E o.dst with
  |false=>grind
  |true=>
   rw[m]at h;exact⟨W0 F o.dst Zcg,H,Ub,by simp [Xr,n,m],by grind⟩
 simp only[YT]at h
 cases f:o.guard with
 |none=>
  rw[f]at h
  exact go (by simp [Y2,f]) h
 |some s=>
  obtain⟨j,want⟩:=s;rw[f]at h;simp only at h;split at h
  ·grind
  ·rename_i g c;split at h
   ·rename_i b e
    cases b with
    |true=>
     rw[Zn4 e]at h;simp only[Ze]at h
     cases want with
     |true=>exact go (by simp [Y2,f,c,e]) h
     |false=>exact skip (by simp [Y2,f,c,e]) h
    |false=>
     rw[Zn4 e]at h;simp only[Zd]at h
     cases want with
     |true=>exact skip (by simp [Y2,f,c,e]) h
     |false=>exact go (by simp [Y2,f,c,e]) h
   ·rename_i e;exact skip (by simp [Y2,f,c,e]) h
   grind
inductive AE (E:Ka) (ops:Array Oper) (base:Nat) (fz:List Nat):List (Oper×Nat)->(Nat->AV)->AH->List Wj->(Nat->AV)->AH->List Wj->Prop
 |nil {F H tr} :AE E ops base fz [] F H tr F H tr
 |cons {o i rest F H tr F1 H1 t F' H' tr'} (h:Xr E ops base fz i o F H=Ua (F1,H1,t)) (h' :AE E ops base fz rest F1 H1 (t.toList++tr) F' H' tr'):AE E ops base fz ((o,i)::rest) F H tr F' H' tr'
theorem Zec{ρ:Type} :∀{l:List (Oper×Nat)}{F:Nat->AV}{H:AH}{c:List Wj}{k:(Nat->AV)->AH->List Wj->Option ρ}{r:ρ},YT E ops base fz ρ l F H c k=Ua r->∃d H' b,AE E ops base fz l F H c d H' b/\k d H' b=Ua r
 |[],F,H,c,k,r,h=>⟨F,H,c,.nil,by assumption⟩
 |(o,i)::rest,F,H,c,k,r,h=>by obtain⟨n,H1,t,e,f⟩:=ZpS h;obtain⟨d,H',b,j,m⟩:=Zec f;exact⟨d,H',b,.cons e j,m⟩
inductive Y7 (E:Ka) (ops:Array Oper) (base:Nat) (fz:List Nat) (T:Nat->Option Wj):List Nat->(Nat->AV)->AH->(Nat->AV)->AH->Prop
 |nil {F H} :Y7 E ops base fz T [] F H F H
 |cons {o i rest F H F1 H1 F' H'} (ho:ops[i]? =Ua o) (h:Xr E ops base fz i o F H=Ua (F1,H1,T i)) (h' :Y7 E ops base fz T rest F1 H1 F' H'):Y7 E ops base fz T (i::rest) F H F' H'
theorem Zgy{i:Nat}{o:Oper}{F b:Nat->AV}{H H1:AH}{t:Wj}(h:Xr E ops base fz i o F H=Ua (b,H1,Ua t)):t.i=i:=by
 unfold Xr at h;split at h
 ·grind
 ·grind
 ·split at h
  ·cases c:(WT E (base+i*E.stp) o.op o.type (Zx F)).run H [] with
   |none=>grind
   |some y=>
    grind
  grind
theorem ZnS{i:Nat}{t:Option Wj}{b:List Wj}(h:∀u∈t,u.i≠i):Yf i (t.toList++b)=Yf i b:=by
 cases t with
 |none=>rfl
 |some u=>
  have:Vg u.i i=false:=by
   cases c:Vg u.i i
   all_goals simp_all
  simp [Yf,this]
theorem AE.other:∀{l:List (Oper×Nat)}{F:Nat->AV}{H:AH}{c:List Wj}{d:Nat->AV}{H' :AH}{b:List Wj},AE E ops base fz l F H c d H' b->∀i,(∀p∈l,p.2≠i)->Yf i b=Yf i c:=by
 intro l F H c d H' b h
 induction h with
 |nil=>simp
 |cons h j f=>
  intro i k;rw[f i (by grind)];refine ZnS fun u e=>?_;simp only[Vta]at e;subst e;rw[Zgy h]
  simp_all
theorem AE.ex:∀{l:List (Oper×Nat)}{F:Nat->AV}{H:AH}{d:List Wj}{c:Nat->AV}{H' :AH}{b:List Wj},AE E ops base fz l F H d c H' b->(l.map Vx).Nodup->(∀p∈l,ops[p.2]? =Ua p.1)->(∀p∈l,Yf p.2 d=Ub)->
 Y7 E ops base fz (fun i=>Yf i b) (l.map Vx) F H c H' :=by
 intro l F H d c H' b h
 induction h with
 |nil=>intros;exact .nil
 | @cons o i rest F H d q H1 t c H' b h j n=>
   intro e k s;simp only[Vv,Vba]at e
   have m:Yf i b=t:=by
    rw[j.other i (by grind)]
    cases t with
    |none=>simp_all
    |some u=>simp [Yf,Zgy h]
   refine .cons (k _ (List.mem_cons_self ..)) (by grind) (n e.2 (by grind) fun p r=>?_);rw[ZnS fun u f=>?_]
   ·grind
   ·simp only[Vta]at f;subst f;rw[Zgy h]
    grind
theorem D1{F:Nat->AV}{d:Option Nat}{v:AV}{k:Nat}(h:∀e,d=Ua e->k≠e):W0 F d v k=F k:=by
 cases d with
 |none=>rfl
 |some e=>
  have:Vg k e=false:=by
   cases b:Vg k e
   all_goals simp_all
  simp [W0,XB,this]
theorem ZuH{F:Nat->AV}{d e:Option Nat}{v u:AV}(h:∀x,d=Ua x->e≠Ua x):W0 (W0 F d v) e u=W0 (W0 F e u) d v:=by
 funext k;by_cases i:∃x,d=Ua x/\k=x
 ·obtain⟨x,rfl,rfl⟩:=i;have f:∀y,e=Ua y->k≠y:=by grind
  rw[D1 f];simp [W0,XB]
 ·have b:∀x,d=Ua x->k≠x:=by grind
  rw[D1 b];by_cases f:∃y,e=Ua y/\k=y
  ·obtain⟨y,rfl,rfl⟩:=f;simp [W0,XB]
  ·have c:∀x,e=Ua x->k≠x:=by grind
   rw[D1 c,D1 c,D1 b]
theorem Zmv:∀{l m:Kx}{H:AH},(∀p∈l,∀q∈m,p.1≠q.1)->Zp (Zp H l) m=Zp (Zp H m) l
 |[],m,H,_=>rfl
 |p::l,m,H,h=>by simp only[Zp];rw[Zmv (by grind),Zfn (by grind)]
structure Stp (E:Ka) (ops:Array Oper) (i:Nat) (o:Oper) (F:Nat->AV) (H:AH) (F1:Nat->AV) (H1:AH) (t:Option Wj) (v:AV) (pa:Kx):Prop where
 dst:YX E o.dst=Uc
 F:F1=W0 F o.dst v
 H:H1=Zp H pa
 wr:∀p∈pa,∃u,t=Ua u/\p.1∈u.wr
theorem Zed{i:Nat}{o:Oper}{F z:Nat->AV}{H H1:AH}{t:Option Wj}(h:Xr E ops base fz i o F H=Ua (z,H1,t)):
 ∃v pa,Stp E ops i o F H z H1 t v pa/\ ∀b d,(∀k∈GZ ops o,b k=F k)->(∀u,t=Ua u->∀id∈u.rd,d id=H id)->Xr E ops base fz i o b d=Ua (W0 b o.dst v,Zp d pa,t):=by
 have n:∀b:Nat->AV,(∀k∈GZ ops o,b k=F k)->Y2 ops o b=Y2 ops o F:=by
  intro b c;unfold Y2
  cases G:o.guard with
  |none=>rfl
  |some M=>
   obtain⟨j,want⟩:=M;simp only
   cases q:(ops[j]?).bind (·.dst) with
   |none=>rfl
   |some g=>simp only;rw[c g (by simp [GZ,G,q])]
 have p:∀b:Nat->AV,(∀k∈GZ ops o,b k=F k)->WT E (base+i*E.stp) o.op o.type (Zx b)=WT E (base+i*E.stp) o.op o.type (Zx F):=by intro b c;refine Zps o.op fun x L=>Zo4 (l:=o.op.operands.toList) (fun t K=>c t (by simp [GZ,K])) x (Vr.2 L)
 unfold Xr at h;split at h
 ·grind
 ·rename_i s;split at h
  ·rename_i e;simp only[ZB,Vc]at h;obtain⟨rfl,rfl,rfl⟩:=h;exact⟨Zcg,[],⟨e,rfl,rfl,by simp⟩,fun b d c _=>by simp [Xr,n b c,s,e,Zp]⟩
  grind
 ·rename_i s;split at h
  ·rename_i e
   cases C:(WT E (base+i*E.stp) o.op o.type (Zx F)).run H [] with
   |none=>grind
   |some y=>
    obtain⟨⟨v,pa⟩,rd⟩:=y;rw[C]at h;simp only[Za]at h;split at h
    ·rename_i J;simp only[ZB,Vc]at h;obtain⟨rfl,rfl,rfl⟩:=h;refine⟨v,pa,⟨e,rfl,rfl,by grind⟩,fun b d c D=>?_⟩;obtain⟨m,A,f⟩:=Zu.run_local (H' :=d) _ _ _ _ C;simp only[List.append_nil]at A;have:=f fun id r=>D _ rfl id (by rw[A];exact r);simp [Xr,n b c,s,e,p b c,this,J]
    grind
  grind
def Zga(ops:Array Oper)(T:Nat->Option Wj)(i j:Nat):Prop:=
 ∀a b,ops[i]? =Ua a->ops[j]? =Ua b->ZfE ops a b=Uc/\ ∀u v,T i=Ua u->T j=Ua v->J1 u.wr v.rd=Uc/\J1 u.wr v.wr=Uc/\J1 v.wr u.rd=Uc
theorem ZvO{a b:Oper}(h:ZfE ops a b=Uc):(∀d,a.dst=Ua d->d ∉ GZ ops b/\b.dst≠Ua d)/\ ∀d,b.dst=Ua d->d ∉ GZ ops a:=by
 unfold ZfE at h;simp only[Va]at h;refine⟨fun d f=>?_,fun d f=>?_⟩
 ·have c:=h.1;rw[f]at c;simp only[Va,Vl]at c;refine⟨fun i=>?_,fun j=>?_⟩
  ·rw[Jo.2 i]at c;grind
  simp_all
 ·have e:=h.2;rw[f]at e;simp only[Vl]at e;intro i;rw[Jo.2 i]at e;grind
theorem Y7.swap{T:Nat->Option Wj}{i j:Nat}{l:List Nat}{F N:Nat->AV}{H H' :AH}(h:Y7 E ops base fz T (i::j::l) F H N H')(hi:Zga ops T i j):Y7 E ops base fz T (j::i::l) F H N H' :=by
 cases h with
 | @cons K _ _ _ _ Q H1 _ _ d h1 Z=>
   cases Z with
   | @cons n _ _ _ _ R S _ _ f h2 s=>
     obtain⟨hs,ht⟩:=hi K n d f;obtain⟨a0,a3⟩:=ZvO hs;obtain⟨v1,p1,c,V⟩:=Zed h1;obtain⟨M,L,r,W⟩:=Zed h2
     have t:∀k∈GZ ops n,F k=Q k:=fun k hk=>by rw[c.F,D1 (by grind)]
     have y:∀u,T j=Ua u->∀id∈u.rd,H id=H1 id:=fun u hu id b=>by rw[c.H,Zdr fun p m e=>?_];obtain⟨u1,A,D⟩:=c.wr p m;exact RJ.1 (by grind) _ D (e▸b)
     have U:=W F H t y;have x:∀k∈GZ ops K,W0 F n.dst M k=F k:=fun k hk=>D1 (by grind)
     have z:∀u,T i=Ua u->∀id∈u.rd,Zp H L id=H id:=fun u hu id b=>Zdr fun p m e=>by obtain⟨u2,C,D⟩:=r.wr p m;exact RJ.1 (by grind) _ D (e▸b)
     have O:=V (W0 F n.dst M) (Zp H L) x z
     have X:W0 (W0 F n.dst M) K.dst v1=R:=by rw[r.F,c.F,ZuH (by grind)]
     have Y:Zp (Zp H L) p1=S:=by rw[r.H,c.H];refine Zmv fun p m q hq e=>?_;obtain⟨u2,C,J⟩:=r.wr p m;obtain⟨u1,A,G⟩:=c.wr q hq;exact RJ.1 (by grind) _ G (e▸J)
     rw[X,Y]at O;exact .cons f U (.cons d O s)
theorem Y7.front{T:Nat->Option Wj}{i:Nat}{l:List Nat}{b:Nat->AV}{H' :AH} :∀{pre:List Nat}{F:Nat->AV}{H:AH},Y7 E ops base fz T (pre++i::l) F H b H' ->(∀j∈pre,Zga ops T j i)->Y7 E ops base fz T (i::(pre++l)) F H b H'
 |[],_,_,h,_=>h
 |j::pre,F,H,h,f=>by
  cases h with
  |cons e d c=>exact(Y7.cons e d (Y7.front c (by grind))).swap (by grind)
end
end Tr
end
section
namespace Tr
open Go
theorem Km.trans{w w1 d:World}{I J:Nat->Prop}(e:Km I w w1)(f:Km J w1 d)(h:∀b,I b->J b):Km I w d:=fun b c=>(f b (h b c)).trans (e b c)
theorem Zie{a:Act}{d:Option Nat}{v:Value}{t:Nat}(h:∀e,d=Ua e->t≠e):(a.put d v).tmps.getD t undef=a.tmps.getD t undef:=by
 cases d with
 |none=>rfl
 |some e=>simp [Act.put,Array.getElem?_setIfInBounds_ne (Ne.symm (h e rfl))]
theorem ZuI{a:Act}{d:Nat}{v:Value}(h:d<a.tmps.size):(a.put (Ua d) v).tmps.getD d undef=v:=by simp [Act.put,h]
theorem Zif{a:Act}{d:Option Nat}{v:Value} :(a.put d v).tmps.size=a.tmps.size:=by cases d<;>simp [Act.put]
theorem Zid{a:Act}{d:Option Nat}{v:Value} :(a.put d v).defers=a.defers:=by cases d<;>rfl
theorem Zfh{E:Ka}{d:Nat}(h:YX E (Ua d)=Uc):d<E.nt/\d ∉ E.ks:=by simp only[YX,Va,Vl]at h;refine⟨by simp_all,fun b=>?_⟩;rw[Jo.2 b]at h;grind
theorem Fr.put{w:World}{g:Gh}{F:Nat->AV}{a:Act}{d:Option Nat}{v:AV}{val:Value}(h:Fr w g F a.tmps)(i:VR w g v val)(c:∀e,d=Ua e->e<a.tmps.size):Fr w g (W0 F d v) (a.put d val).tmps:=by
 intro t;by_cases f:d=Ua t
 ·subst f;rw[ZuI (c t rfl)];simpa [W0,XB] using i
 ·have b:∀e,d=Ua e->t≠e:=by grind
  rw[D1 b,Zie b];exact h t
section
variable {P:Program}{E:Ka}{B:Z1}{ops:Array Oper}{base:Nat}{fz:List Nat}
theorem ZiT{w:World}{g:Gh}{F:Nat->AV}{a:Act}{o:Oper}{b:Bool}(hF:Fr w g F a.tmps)(h:Y2 ops o F=Ua b):Region.wanted o (yielded ops a.tmps)=b:=by
 unfold Y2 at h;unfold Region.wanted
 cases m:o.guard with
 |none=>grind
 |some n=>
  obtain⟨j,want⟩:=n;rw[m]at h;simp only at h⊢
  cases c:(ops[j]?).bind (·.dst) with
  |none=>grind
  |some d=>
   rw[c]at h;simp only at h;have e:=hF d;split at h
   ·rename_i x i;rw[i]at e;have e:=e.bool
    have l:a.tmps[d]? =Ua (.bool x):=by
     cases k:a.tmps[d]? with
     |none=>simp [k,undef]at e
     |some u=>simp_all
    simp only[yielded,c,Za,l]
    simp_all
   ·rename_i i;rw[i]at e;obtain⟨vs,e,f⟩:=e;simp only[WK]at f;subst f
    have l:yielded ops a.tmps j=none:=by
     simp only[yielded,c,Za]
     cases k:a.tmps[d]? with
     |none=>rfl
     |some u=>simp_all
    grind
   grind
theorem Zp4(J:Z3 P E)(G:JJ P E B){i:Nat}{o:Oper}{F p:Nat->AV}{H H1:AH}{t:Option Wj}{w:World}{g:Gh}{ow:Nat->Nat->Prop}{a:Act}(L:ops[i]? =Ua o)
 (h:Xr E ops base fz i o F H=Ua (p,H1,t)) (x:RH B H w g ow) (hF:Fr w g F a.tmps) (c:a.tmps.size=E.nt) (M:∀id,g.K id->id<base+i*E.stp\/base+i*E.stp+E.stp<=id) {K:Act->World->Prop}{Q:Exit->Act->World->Prop}
 (s:∀f w' g' d,RH B H1 w' g' d->Fr w' g' p f.tmps->f.tmps.size=E.nt->f.defers=a.defers->g.Le g' ->Km g.I w w' ->(∀id,g'.K id->g.K id\/(base+i*E.stp<=id/\id<base+i*E.stp+E.stp))->
   (∀t∈E.ks,f.tmps.getD t undef=a.tmps.getD t undef)->K f w'):wpOp P ops Q i K a w:=by
 unfold wpOp;rw[L];simp only
 have j:∀v,YX E o.dst=Uc->∀t∈E.ks,(a.put o.dst v).tmps.getD t undef=a.tmps.getD t undef:=fun v b t N=>Zie fun e l m=>by rw[l]at b;exact(Zfh b).2 (m▸N)
 have k:YX E o.dst=Uc->∀e,o.dst=Ua e->e<a.tmps.size:=fun b e l=>by rw[l]at b;rw[c];exact(Zfh b).1
 unfold Xr at h;split at h
 ·grind
 ·rename_i n;split at h
  ·rename_i b;simp only[ZB,Vc]at h;obtain⟨rfl,rfl,rfl⟩:=h;rw[ZiT hF n];simp only[Vma,if_false];exact s _ w g ow x (hF.put ⟨[],rfl,rfl⟩ (k b)) (Zif.trans c) Zid (.refl g) (fun _ _=>rfl) (by grind) (j _ b)
  grind
 ·rename_i n;split at h
  ·rename_i b
   cases z:(WT E (base+i*E.stp) o.op o.type (Zx F)).run H [] with
   |none=>grind
   |some y=>
    obtain⟨⟨v,O⟩,rd⟩:=y;rw[z]at h;simp only[Za]at h;split at h
    ·simp only[ZB,Vc]at h;obtain⟨rfl,rfl,rfl⟩:=h;rw[ZiT hF n];simp only[if_true];refine .inl (ZpK J G x hF M z _ _ fun val w' g' d A q r C D=>?_);exact s _ w' g' d A ((hF.mono r q).put C (k b)) (Zif.trans c) Zid q r D (j _ b)
    grind
  grind
theorem Zvd{b s i j id:Nat}(c:j≠i)(d:b+j*s<=id)(e:id<b+j*s+s):id<b+i*s\/b+i*s+s<=id:=by
 rcases Nat.lt_or_ge j i with h|h
 ·left;have:=Vs s (show j+1<=i from h);rw[Via]at this;omega
 ·right;have:=Vs s (show i+1<=j by omega);rw[Via]at this;omega
theorem Zin{b s n j id:Nat}(h:j<n)(c:id<b+j*s+s):id<b+n*s:=by have:=Vs s (Vpa h);rw[Via]at this;omega
structure RI (E:Ka) (B:Z1) (base:Nat) (U:Nat->Prop) (F:Nat->AV) (H:AH) (w:World) (a:Act) (g:Gh) (ow:Nat->Nat->Prop) (L:Nat->Prop):Prop where
 rh:RH B H w g ow
 fr:Fr w g F a.tmps
 nt:a.tmps.size=E.nt
 df:a.defers=[]
 ids:∀id,g.K id->(id<base\/U id)\/ ∃j,L j/\base+j*E.stp<=id/\id<base+j*E.stp+E.stp
structure Lk (E:Ka) (w:World) (g:Gh) (a:Act) (w' :World) (g' :Gh) (a' :Act):Prop where
 le:g.Le g'
 ag:Km g.I w w'
 ks:∀t∈E.ks,a'.tmps.getD t undef=a.tmps.getD t undef
theorem Lk.refl(w:World)(g:Gh)(a:Act):Lk E w g a w g a:=⟨.refl g,fun _ _=>rfl,by simp⟩
theorem Lk.trans{w w1 i:World}{g d e:Gh}{a b c:Act}(h:Lk E w g a w1 d b)(k:Lk E w1 d b i e c):Lk E w g a i e c:=
 ⟨h.le.trans k.le,h.ag.trans k.ag h.le.I,fun t f=>(k.ks t f).trans (h.ks t f)⟩
structure Lb (E:Ka) (b t:Nat) (w:World) (g:Gh) (a:Act) (w' :World) (g' :Gh) (a' :Act):Prop extends Lk E w g a w' g' a' where
 nw:∀id,g'.K id->g.K id\/(b<=id/\id<t)
theorem Lb.refl{b t:Nat}(w:World)(g:Gh)(a:Act):Lb E b t w g a w g a:=⟨.refl w g a,fun _ h=>.inl h⟩
theorem Lb.trans{b t:Nat}{w w1 j:World}{g f i:Gh}{a d e:Act}(h:Lb E b t w g a w1 f d)(k:Lb E b t w1 f d j i e):Lb E b t w g a j i e:=
 ⟨h.toLk.trans k.toLk,fun id c=>(k.nw id c).elim (h.nw id) .inr⟩
theorem RI.step(O:Z3 P E)(N:JJ P E B){i:Nat}{o:Oper}{F y:Nat->AV}{H H1:AH}{t:Option Wj}{w:World}{g:Gh}{ow:Nat->Nat->Prop}{a:Act}{L U:Nat->Prop}(A:ops[i]? =Ua o)
 (h:Xr E ops base fz i o F H=Ua (y,H1,t)) (e:RI E B base U F H w a g ow L) (R:∀id,U id->base+ops.size*E.stp<=id) (hL:¬L i) {K:Act->World->Prop}{Q:Exit->Act->World->Prop}
 (M:∀f w' g' d,RI E B base U y H1 w' f g' d (fun j=>j=i\/L j)->Lb E base (base+ops.size*E.stp) w g a w' g' f->K f w'):wpOp P ops Q i K a w:=by
 have m:i<ops.size:=(Array.getElem?_eq_some_iff.1 A).1;refine Zp4 O N A h e.rh e.fr e.nt (fun id b=>?_) fun f w' g' d k l r C D G z J=>M f w' g' d ⟨k,l,r,C.trans e.df,fun id b=>?_⟩ ⟨⟨D,G,J⟩,fun id b=>(z id b).imp (fun h=>h) fun h=>⟨by omega,Zin m h.2⟩⟩
 ·rcases e.ids id b with (k|k) |⟨j,k,l,r⟩
  ·omega
  ·have:=R id k;have l:=Vs E.stp (Vpa m);rw[Via]at l;omega
  ·have x:j≠i:=by grind
   exact Zvd x l r
 ·rcases z id b with s|⟨s,n⟩
  ·rcases e.ids id s with c|⟨j,c,p,q⟩
   ·exact .inl c
   ·exact .inr ⟨j,.inr c,p,q⟩
  ·exact .inr ⟨i,.inl rfl,s,n⟩
theorem ZiW(y:Z3 P E)(x:JJ P E B){T:Nat->Option Wj}{Q:Exit->Act->World->Prop}{r:Nat->AV}{H' :AH} :∀{l:List Nat}{F:Nat->AV}{H:AH}{w:World}{g:Gh}{ow:Nat->Nat->Prop}{a:Act}{L U:Nat->Prop},
 Y7 E ops base fz T l F H r H' ->l.Nodup->(∀i∈l,¬L i)->(∀id,U id->base+ops.size*E.stp<=id)->RI E B base U F H w a g ow L->(∀c w' g' p,RI E B base U r H' w' c g' p (fun j=>j∈l\/L j)->Lb E base (base+ops.size*E.stp) w g a w' g' c->Q .normal c w')->wpOps P ops Q l a w
 |[],F,H,w,g,ow,a,L,U,h,_,_,_,t,e=>by
  cases h with
  |nil=>exact e a w g ow (by simp_all) (.refl w g a)
 |i::l,F,H,w,g,ow,a,L,U,h,J,hL,z,t,e=>by
  cases h with
  |cons M s D=>
   rw[wpOps_cons];obtain⟨K,n⟩:=Vba.1 J;refine t.step y x M s z (hL i (by simp)) fun R W S N d k=>ZiW y x D n (fun j V=>?_) z d fun A O C q b m=>e A O C q ⟨b.rh,b.fr,b.nt,b.df,fun id f=>?_⟩ (k.trans m)
   ·grind
   ·refine(b.ids id f).imp (fun h=>h) fun⟨j,s,G⟩=>⟨j,?_,G⟩
    grind
theorem ZjN:∀(l:List Oper) (acc:Array Nat),let r:=l.foldl (fun acc o=>acc.push (o.after.foldl (fun s e=>if Region.binds .any e then s ||| 2 ^ e.on ||| acc.getD e.on 0 else s) 0)) acc
 r.size=acc.size+l.length/\(∀k,k<acc.size->r.getD k 0=acc.getD k 0)/\
 ∀k o,l[k]? =Ua o->∀j,(r.getD (acc.size+k) 0).testBit j=Uc->∃e∈o.after,Region.binds .any e=Uc/\(e.on=j\/(e.on<acc.size+k/\(r.getD e.on 0).testBit j=Uc))
 |[],acc=>by simp
 |o::l,acc=>by
  intro r
  have i:=ZjN l (acc.push (o.after.foldl (fun s e=>if Region.binds .any e then s ||| 2 ^ e.on ||| acc.getD e.on 0 else s) 0))
  simp only[Array.size_push]at i;obtain⟨y,m,z⟩:=i;refine⟨by grind,fun k t=>?_,fun k A c j f=>?_⟩
  ·rw[show r.getD k 0=_ from m k (by omega)];simp [Vla,Nat.ne_of_lt t]
  ·cases k with
   |zero=>
    simp only[List.getElem?_cons_zero,ZB]at c;subst c;rw[Nat.add_zero,show r.getD acc.size 0=_ from m acc.size (by omega)]at f;have q:∀X:Nat,(acc.push X).getD acc.size 0=X:=by simp
    rw[q]at f
    have key:∀(es:List Edge) (s:Nat),(es.foldl (fun s e=>if Region.binds .any e then s ||| 2 ^ e.on ||| acc.getD e.on 0 else s) s).testBit j=Uc->s.testBit j=Uc\/ ∃e∈es,Region.binds .any e=Uc/\(e.on=j\/(acc.getD e.on 0).testBit j=Uc):=by
     intro es
     induction es with
     |nil=>simp
     |cons e es i=>
      intro s h;simp only[List.foldl_cons]at h;rcases i _ h with h|⟨x,p,n⟩
      all_goals grind
    rw[<-Vna]at f;rcases key _ _ f with h|⟨e,p,n,d⟩
    ·grind
    ·refine⟨e,by grind,n,?_⟩;rcases d with d|d
     ·omega
     ·right
      have b:e.on<acc.size:=by
       grind
      refine⟨b,?_⟩;rw[show r.getD e.on 0=_ from m e.on (by omega)]
      simpa [Vla,Nat.ne_of_lt b] using d
   |succ k=>
    grind
theorem Zqb{i:Nat}{o:Oper}(b:ops[i]? =Ua o){j:Nat}(h:((Region.before ops).getD i 0).testBit j=Uc):∃e∈o.after,Region.binds .any e=Uc/\(e.on=j\/(e.on<i/\((Region.before ops).getD e.on 0).testBit j=Uc)):=by have key:=ZjN ops.toList #[];simp only[Vna]at key;have:=key.2.2 i o (by simpa using b) j;simp only[List.size_toArray,List.length_nil,Nat.zero_add]at this;exact this h
theorem Zqa{b:Array Bool}(f:∀i o,ops[i]? =Ua o->b.getD i Ud=Uc->∀e∈o.after,Region.binds .any e=Uc->b.getD e.on Ud=Uc)(h:∀i,b.getD i Ud=Uc->∃o,ops[i]? =Ua o){j:Nat} :
 ∀n i,i<n->∀o,ops[i]? =Ua o->(∀e∈o.after,Region.binds .any e=Uc->b.getD e.on Ud=Uc)->((Region.before ops).getD i 0).testBit j=Uc->b.getD j Ud=true:=by
 intro n
 induction n with
 |zero=>omega
 |succ n r=>
  intro i q o k c d;obtain⟨e,l,m,p⟩:=Zqb k d
  grind
theorem ZwS(hT:Z3 P E)(hS:JJ P E B){T:Nat->Option Wj}{Q:Exit->Act->World->Prop}{F' :Nat->AV}{H' :AH}(q:Zhi ops=Uc)
 (A:∀i j,i<j->j<ops.size->((Region.before ops).getD j 0).testBit i=Ud->Zga ops T i j):∀(n:Nat) {l:List Nat}{b:Array Bool}{F:Nat->AV}{H:AH}{w:World}{g:Gh}{ow:Nat->Nat->Prop}{a:Act}{L U:Nat->Prop},
 Y7 E ops base fz T l F H F' H' ->l.length=n->l.Pairwise (· < ·)->b.size=ops.size->(∀i,i<ops.size->(i∈l↔b.getD i Uc=Ud))->(∀i∈l,i<ops.size)->
 (∀i o,ops[i]? =Ua o->b.getD i Ud=Uc->∀e∈o.after,Region.binds .any e=Uc->b.getD e.on Ud=Uc)->(∀i∈l,¬L i)->(∀id,U id->base+ops.size*E.stp<=id)->RI E B base U F H w a g ow L->
 (∀G w' g' a3,RI E B base U F' H' w' G g' a3 (fun j=>j∈l\/L j)->Lb E base (base+ops.size*E.stp) w g a w' g' G->Q .normal G w')->wpAny P .any ops Q n b a w:=by
 have r:∀i o,ops[i]? =Ua o->∀e∈o.after,Region.binds .any e=Uc->e.on<i:=by
  intro i o ho e D y;unfold Zhi at q;rw[Vt]at q
  have:=q (o,i) (by
   grind)
  rw[Array.all_eq_true_iff_forall_mem]at this;have:=this e D
  simp_all
 intro n
 induction n with
 |zero=>
  intro l b F H w g ow a L U h hn hs a0 Y X z hL M hI K;obtain rfl:=List.length_eq_zero_iff.1 hn
  cases h with
  |nil=>
   refine⟨?_,K a w g ow (by simp_all) (.refl w g a)⟩;rw[List.eq_nil_iff_forall_not_mem];intro j s;rw[mem_ready]at s
   grind
 |succ n ih=>
  intro l b F H w g ow a L U h hn hs a0 Y X z hL M hI K
  have f:∀i,i<ops.size->i ∉ l->b.getD i Ud=true:=by
   grind
  have W:∀i,b.getD i Ud=Uc->∃o,ops[i]? =Ua o:=by
   intro i O
   have:i<b.size:=by
    grind
   simp_all
  refine⟨fun a6=>?_,fun i O=>?_⟩
  ·exfalso
   cases l with
   |nil=>grind
   |cons i l=>
    have d:i<ops.size:=by simp [*]
    have:i∈Region.ready .any ops b:=by
     rw[mem_ready];refine⟨by grind,_,Vea d,fun e D y=>?_⟩;have a5:=r i _ (Vea d) e D y;refine f e.on (by omega) fun k=>?_;rcases Vj.1 k with t|t
     ·omega
     ·have:=(List.pairwise_cons.1 hs).1 _ t;omega
    grind
  ·rw[mem_ready]at O;obtain⟨h0,o,ho,x⟩:=O;have d:i<ops.size:=by grind
   have k:=(Y i d).2 h0;obtain⟨pre,post,rfl⟩:=List.append_of_mem k;have C:∀j∈pre,j<i:=by grind
   have m:=h.front fun j s=>by
    refine A j i (C j s) d ?_
    cases y:((Region.before ops).getD i 0).testBit j with
    |false=>rfl
    |true=>
     have a7:=Zqa z W (i+1) i (Vu i) o ho x y
     grind
   cases m with
   |cons Z t h' =>
    have a8:(pre++i::post).Nodup:=hs.imp (by omega);have N:∀j,j∈pre++post->j∈pre++i::post:=by grind
    have a9:i ∉ pre++post:=by
     grind
    refine hI.step hT hS Z t M (hL i (by simp)) fun a1 w1 g1 b1 J S=>ih (l:=pre++post) (L:=fun j=>j=i\/L j) h' (by grind) ?_ (by grind) ?_ (by grind) ?_ ?_ M J ?_
    ·grind
    ·intro j s;by_cases p:j=i
     ·simp [*]
     ·rw[getD_set_ne Uc (Ne.symm p), <-Y j s]
      grind
    ·intro j o' b0 s e D y;by_cases p:j=i
     ·subst p;have e1:o=o' :=by grind
      exact getD_set_true (by grind)
     ·rw[getD_set_ne Ud (Ne.symm p)]at s;exact getD_set_true (by grind)
    ·grind
    ·intro a2 w2 g2 a4 c V;refine K a2 w2 g2 a4 ⟨c.rh,c.fr,c.nt,c.df,fun id R=>(c.ids id R).imp (fun h=>h) fun⟨j,t,h2⟩=>⟨j,?_,h2⟩⟩ (S.trans V)
     grind
end
end Tr
end
section
namespace Tr
open Go
structure SR (E:Ka) (B:Z1) (s:AS) (w:World) (g:Gh) (ow:Nat->Nat->Prop) (a:Act):Prop where
 rh:RH B s.H w g ow
 fr:Fr w g s.F a.tmps
 nt:a.tmps.size=E.nt
 df:a.defers=[]
 ids:∀id,g.K id->id<s.nx
 fz:∀id∈s.fz,Xw s.H id=Uc
structure Ln (E:Ka) (s:AS) (w:World) (g:Gh) (a:Act) (s' :AS) (w' :World) (g' :Gh) (a' :Act):Prop where
 lk:Lk E w g a w' g' a'
 fz:s'.fz=s.fz
 hz:∀id∈s.fz,s'.H id=s.H id
section
variable {P:Program}{E:Ka}{B:Z1}{ops:Array Oper}{base:Nat}{fz:List Nat}
theorem Ln.refl(s:AS)(w:World)(g:Gh)(a:Act):Ln E s w g a s w g a:=⟨.refl w g a,rfl,by simp⟩
theorem Ln.trans{s i s2:AS}{w w1 j:World}{g e f:Gh}{a c d:Act}(h:Ln E s w g a i w1 e c)(k:Ln E i w1 e c s2 j f d):Ln E s w g a s2 j f d:=
 ⟨h.lk.trans k.lk,k.fz.trans h.fz,fun id b=>(k.hz id (h.fz▸b)).trans (h.hz id b)⟩
theorem Zdm{H H' :AH}{id:Nat}(h:H' id=H id):Xw H' id=Xw H id:=by unfold Xw;rw[h]
theorem Zp3{i:Nat}{o:Oper}{F c:Nat->AV}{H H1:AH}{t:Option Wj}(h:Xr E ops base fz i o F H=Ua (c,H1,t)):∀id∈fz,H1 id=H id:=by
 unfold Xr at h;split at h
 ·grind
 ·grind
 ·split at h
  ·cases f:(WT E (base+i*E.stp) o.op o.type (Zx F)).run H [] with
   |none=>grind
   |some y=>
    rw[f]at h;simp only[Za]at h;split at h
    ·rename_i d;simp only[ZB,Vc]at h;obtain⟨_,rfl,_⟩:=h;intro id b;refine Zdr fun p j e=>?_;exact RJ.1 d p.1 (by grind) (e▸b)
    grind
  grind
theorem AE.keptH{l:List (Oper×Nat)}{F d:Nat->AV}{H H' :AH}{f c:List Wj}(h:AE E ops base fz l F H f d H' c):∀id∈fz,H' id=H id:=by
 induction h with
 |nil=>simp
 |cons h i e=>exact fun id b=>(e id b).trans (Zp3 h id b)
theorem AE.slots{l:List (Oper×Nat)}{F c:Nat->AV}{H H' :AH}{i b:List Wj}(h:AE E ops base fz l F H i c H' b):∀k,(∀p∈l,p.1.dst≠Ua k)->c k=F k:=by
 induction h with
 |nil=>simp
 |cons h j f=>
  intro k n;obtain⟨v,q,s,_⟩:=Zed h;rw[f k (by grind),s.F,D1 fun e m d=>(by simp_all)]
theorem AE.traces{l:List (Oper×Nat)}{F d:Nat->AV}{H H' :AH}{c b:List Wj}(h:AE E ops base fz l F H c d H' b):∀u∈c,u∈b:=by
 induction h with
 |nil=>simp
 |cons h e f=>grind
theorem AE.still{l:List (Oper×Nat)}{F d:Nat->AV}{H H' :AH}{f b:List Wj}(h:AE E ops base fz l F H f d H' b):(∀u∈b,u.wr=[])->H' =H:=by
 induction h with
 |nil=>simp
 | @cons o i rest F H f n H1 t d H' b h j m=>
   intro e;obtain⟨v,c,s,_⟩:=Zed h
   have:c=[]:=by
    cases c with
    |nil=>rfl
    |cons p c=>
     obtain⟨u,k,q⟩:=s.wr p (by simp);have:=e u (j.traces u (by grind))
     grind
   rw[m e,s.H,this];rfl
theorem ZiX:ops.toList.zipIdx.map Vx=Vha ops.size:=by
 refine List.ext_getElem? fun i=>?_
 grind
theorem ZmS(Y:P.follows .mixedOrders=Uc)(M:Z3 P E)(K:JJ P E B){nx:Nat}{fz:List Nat}{F:Nat->AV}{H:AH}{U:Nat->Prop}{w:World}{g:Gh}{ow:Nat->Nat->Prop}{a:Act}(x:RI E B nx U F H w a g ow fun _=>False)(N:∀id,U id->nx+ops.size*E.stp<=id){id:Nat}{draw:Bool}{G:Nat->AV}{H' :AH}{b:List Wj}
 (h:AE E ops nx fz ops.toList.zipIdx F H [] G H' b) (R:(!draw||Zbz ops b)=Uc) {Q:Exit->Act->World->Prop}
 (J:∀m w' g' k,RI E B nx U G H' w' m g' k (fun j=>j<ops.size)->Lb E nx (nx+ops.size*E.stp) w g a w' g' m->Q .normal m w'):(Vra id ops draw).wp P Q a w:=by
 have f:=h.ex (by rw[ZiX];grind) (by grind) (fun _ _=>rfl);rw[ZiX]at f
 cases draw with
 |false=>
  refine wp_region (ZiW M K f Vz (L:=fun _=>False) (by simp) N x fun m w' g' k e q=>J m w' g' k ⟨e.rh,e.fr,e.nt,e.df,fun id p=>?_⟩ q)
  exact(e.ids id p).imp (fun h=>h) fun⟨j,W,X⟩=>by simp_all
 |true=>
  simp only[Vxa,Vya,Zbz,Va,Bool.or_eq_true]at R;obtain⟨⟨n,r⟩,d⟩:=R;have V:Jh w {w with drawn:=w.drawn+1} :=⟨rfl,rfl,rfl,⟨rfl,by simp⟩⟩
  have s:∀i j,i<j->j<ops.size->((Region.before ops).getD j 0).testBit i=Ud->(i,j)∈ZfR ops:=by
   intro i j y S O;simp only[ZfR,List.mem_flatMap,Vua,Voa]
   grind
  refine wp_region_any Y (ZwS M K n (T:=fun i=>Yf i b) (fun i j y S O=>?_) ops.size f (by simp) (List.pairwise_lt_range) (by simp) (fun i hi=>?_) (by simp) (fun i o ho q=>?_) (L:=fun _=>False) (by simp) N
   ⟨x.rh.same V,x.fr.mono (V.agree _) (.refl g),x.nt,x.df,x.ids⟩ fun m w' g' k e q=>J m w' g' k ⟨e.rh,e.fr,e.nt,e.df,fun id p=>?_⟩ ⟨⟨q.le,q.ag,q.ks⟩,q.nw⟩)
  ·intro oa ob a1 a2;have c:=s i j y S O;refine⟨?_,fun u v z C=>?_⟩
   ·have:=Vt.1 r (i,j) c
    grind
   ·rcases d with d|d
    ·have A:u.wr=[]:=by
      have Z:u∈b:=by
       clear c s f h d C r n
       induction b with
       |nil=>simp [Yf]at z
       |cons t l ih=>
        simp only[Yf]at z
        grind
      grind
     have D:v.wr=[]:=by
      have a0:v∈b:=by
       clear c s f h d z r n
       induction b with
       |nil=>simp [Yf]at C
       |cons t l ih=>
        simp only[Yf]at C
        grind
      grind
     rw[A,D];exact⟨rfl,rfl,rfl⟩
    ·have:=Vt.1 d (i,j) c;simp only[ZnR]at this
     grind
  ·simp_all
  ·exfalso;have:i<ops.size:=by grind
   simp_all
  ·exact(e.ids id p).imp (fun h=>h) fun⟨j,W,X⟩=>by simp_all
theorem Zi9{w:World}{g:Gh}{t b:Ty}{y:El b}{x:El t}{v:Value}(h:Kr b t y=Ua x)(c:VR w g (.d b y) v):VR w g (.d t x) v:=by obtain⟨rfl,rfl⟩:=KE h;omega
theorem Fr.upd{w:World}{g:Gh}{F:Nat->AV}{tmps:Array Value}{n:Nat}{v:AV}(h:Fr w g F tmps)(c:VR w g v (tmps.getD n undef)):Fr w g (XB F n v) tmps:=by
 intro t;unfold XB
 cases b:Vg t n with
 |true=>simp_all
 |false=>exact h t
theorem Zli{w:World}{g:Gh}{F:Nat->AV}{tmps:Array Value}(hF:Fr w g F tmps):∀(l:List (Nat×Ty)) (x:ElT l) (b:Nat->AV),ZbX F l=Ua x->Fr w g b tmps->Fr w g (inT b l x) tmps
 |[],_,b,_,c=>c
 |[(n,t)],x,b,h,c=>by
  simp only[ZbX]at h;have d:=hF n;split at h
  ·rename_i j y e;rw[e]at d;simp only[inT];exact c.upd (Zi9 h d)
  grind
 |(n,t)::p::l,x,b,h,c=>by
  simp only[ZbX]at h;have d:=hF n;split at h
  ·rename_i j y e;rw[e]at d
   cases f:Kr j t y with
   |none=>grind
   |some z=>
    rw[f]at h;simp only[Za]at h
    cases i:ZbX F (p::l) with
    |none=>grind
    |some u=>
     rw[i]at h;simp only[Za,ZB]at h;subst h;simp only[inT];exact Zli hF (p::l) u _ i (c.upd (Zi9 f d))
  grind
theorem ZuZ(M:P.follows .mixedOrders=Uc)(L:Z3 P E)(K:JJ P E B){s:AS}{w:World}{g:Gh}{ow:Nat->Nat->Prop}{a:Act}(f:SR E B s w g ow a){id:Nat}{draw:Bool}{outs:Option (List (Nat×Ty))}{ρ:Type}{k:AS->Option ρ}{r:ρ}
 (h:Zii E ops draw outs ρ s k=Ua r):(Vra id ops draw).wp P (fun e A w' =>∃s' g' i,e=.normal/\SR E B s' w' g' i A/\Ln E s w g a s' w' g' A/\k s' =Ua r) a w:=by
 have y:∀(g' :Gh) (id:Nat),(id<s.nx\/ ∃j,j<ops.size/\s.nx+j*E.stp<=id/\id<s.nx+j*E.stp+E.stp)->id<s.nx+ops.size*E.stp:=by
  intro g' id h;rcases h with h|⟨j,N,V,O⟩
  ·omega
  ·exact Zin N O
 unfold Zii at h
 cases outs with
 |none=>
  simp only at h;obtain⟨C,D,m,c,q⟩:=Zec h
  cases n:(!draw||Zbz ops m) with
  |false=>grind
  |true=>
   rw[n]at q;simp only[Ze]at q;refine ZmS (U:=fun _=>False) M L K ⟨f.rh,f.fr,f.nt,f.df,fun id b=>.inl (.inl (f.ids id b))⟩ (fun _ h=>h.elim) c n fun A w' g' i d G=>⟨⟨C,D,s.nx+ops.size*E.stp,s.fz⟩,g',i,rfl,⟨d.rh,d.fr,d.nt,d.df,fun id b=>y g' id ((d.ids id b).imp (fun h=>h.resolve_right fun h=>h) fun h=>h),fun id b=>?_⟩,⟨G.toLk,rfl,fun id b=>c.keptH id b⟩,q⟩
   exact(Zdm (c.keptH id b)).trans (f.fz id b)
 |some l=>
  simp only at h;rw[Vb]at h;obtain⟨x,z,q⟩:=h;obtain⟨C,D,m,c,z⟩:=Zec z
  cases n:((!draw||Zbz ops m) &&m.all (fun t=>t.wr.isEmpty)) with
  |false=>grind
  |true=>
   rw[n]at z;simp only[Ze]at z;simp only[Va]at n;have J:D=s.H:=c.still (by grind);subst J;refine ZmS (U:=fun _=>False) M L K ⟨f.rh,f.fr,f.nt,f.df,fun id b=>.inl (.inl (f.ids id b))⟩ (fun _ h=>h.elim) c n.1 fun A w' g' i d G=>⟨⟨inT (ZhN (ZeG ops.toList) s.F) l x,s.H,s.nx+ops.size*E.stp,s.fz⟩,g',i,rfl,⟨d.rh,?_,d.nt,d.df,fun id b=>y g' id ((d.ids id b).imp (fun h=>h.resolve_right fun h=>h) fun h=>h),f.fz⟩,⟨G.toLk,rfl,by simp⟩,q⟩;refine Zli d.fr l x _ z fun t=>?_;unfold ZhN
   cases Q:KO t (ZeG ops.toList) with
   |true=>exact HB
   |false=>
    simp only[Zd]
    have:C t=s.F t:=c.slots t fun p R S=>by
     have:t∈ZeG ops.toList:=by rw[List.mem_zipIdx_iff_getElem?]at R;exact Voa.2 (by grind)
     rw[Jo.2 this]at Q;grind
    rw[<-this];exact d.fr t
def PRs(w:World)(I:Nat->Prop)(tmps:Array Value):(l:List (Nat×Pat))->Ja l->List Nat->Prop
 |[],_,b=>b=[]
 |[(n,p)],x,b=>PV w I p x b (tmps.getD n undef)
 |(n,p)::q::l,x,b=>∃c d,b=c++d/\PV w I p x.1 c (tmps.getD n undef)/\PRs w I tmps (q::l) x.2 d
theorem Zho{H:AH}{w:World}{g:Gh}{ow:Nat->Nat->Prop}{I:Nat->Prop}(z:RH B H w g ow)(s:∀b,g.I b->I b){p:Pat}{v:AV}{val:Value}{x:K2 p}{ids:ZF}{l j:List Nat}(h:(ext p v).run H l=Ua ((x,ids),j))(G:VR w g v val)
 (y:∀b,ZL H ow ids.br b->I b) (D:ids.tk.Nodup):∃js,PV w I p x js val/\js.Nodup/\ ∀b∈js,ZL H ow ids.tk b:=by
 by_cases i:p=.any
 ·subst i;simp only[ext,Zf,Vc]at h;obtain⟨⟨_,rfl⟩,_⟩:=h;exact⟨[],⟨rfl,.inl rfl⟩,.nil,by simp⟩
 ·obtain⟨C,A⟩:=ZkT h i
  have c:∀m,v≠ .tup m:=by
   rintro m rfl
   cases p with
   |any=>grind
   |pd t=>cases t<;>simp [ext,Kk,Z0,Zb]at h
   |own t k=>simp [ext,Jq,Z0,Zb]at h
   |var t p=>simp [ext,Zb]at h
   |ro t=>simp [ext,Zb]at h
   |map k t=>simp [ext,Zb]at h
   |rows t k=>simp [ext,YC,Z0,Zb]at h
   |mrows k t=>simp [ext,Zb]at h
   |it k t=>simp [ext,Zb]at h
   |bld T e k=>simp [ext,Zb]at h
   |fnd _ _ _ _=>simp [ext,Zb]at h
   |owo J=>simp [ext,Dl,Z0,Zb]at h
   |agg l=>simp [ext,Zb]at h
   |fn f l=>simp [ext,Zb]at h
   |nilr=>simp [ext,Zb]at h
   |nils=>simp [ext,Zb]at h
  have d:=G.to1 c;obtain⟨js,n,q,r⟩:=Ga z s p v val.cells.toList x ids l j h d.1 y D;exact⟨js,⟨n,.inr (by rw[<-A];exact d.2.resolve_left C)⟩,q,r⟩
theorem ZkR{H:AH}{w:World}{g:Gh}{ow:Nat->Nat->Prop}{I:Nat->Prop}{F:Nat->AV}{tmps:Array Value}(i:RH B H w g ow)(m:∀b,g.I b->I b)(hF:Fr w g F tmps):∀(l:List (Nat×Pat)) (x:Ja l) (ids:ZF) (k j:List Nat),
 (Zas F l).run H k=Ua ((x,ids),j)->(∀b,ZL H ow ids.br b->I b)->ids.tk.Nodup->∃js,PRs w I tmps l x js/\js.Nodup/\ ∀b∈js,ZL H ow ids.tk b
 |[],x,ids,k,j,h,f,_=>by
  simp only[Zas,Zf,Vc]at h;obtain⟨⟨_,rfl⟩,_⟩:=h
  exact⟨[],rfl,.nil,by simp⟩
 |[(n,p)],x,ids,k,j,h,f,s=>by
  simp only[Zas]at h
  exact Zho i m h (hF n) f s
 |(n,p)::q::l,x,ids,k,j,h,f,s=>by
  simp only[Zas,Z0,Zf,Vc]at h;obtain⟨⟨Z,Q⟩,W,D,⟨U,z⟩,X,K,⟨rfl,rfl⟩,_⟩:=h;have t:(Q.tk++z.tk).Nodup:=s;obtain⟨R,S,Y⟩:=Vi.1 t;obtain⟨A,L,M,y⟩:=Zho i m D (hF n) (fun b c=>f b (Ws (fun _ h=>by simp [ZF.app,h]) c)) R;obtain⟨C,N,O,d⟩:=ZkR i m hF (q::l) U z _ _ K (fun b c=>f b (Ws (fun _ h=>by simp [ZF.app,h]) c)) S;refine⟨A++C,⟨A,C,rfl,L,N⟩,Vi.2 ⟨M,O,fun b c V r e=>?_⟩,fun b c=>?_⟩
  ·subst e;obtain⟨id,G,J⟩:=Hn i (y b c) (d b r)
   grind
  ·rcases Vh.1 c with c|c
   ·exact Ws (fun _ h=>by simp [ZF.app,h]) (y b c)
   ·exact Ws (fun _ h=>by simp [ZF.app,h]) (d b c)
theorem Zc7:∀(l:List (Nat×Pat)) (x:Ja l) (n:Nat),n<=(WG l x n).2.2/\ ∀o∈(WG l x n).2.1,n<=o.1/\o.1<(WG l x n).2.2
 |[],_,n=>⟨Nat.le_refl _,by simp [WG]⟩
 |[(m,p)],x,n=>Yd p x n
 |(m,p)::q::l,x,n=>by
  obtain⟨c,d⟩:=Yd p x.1 n;obtain⟨e,f⟩:=Zc7 (q::l) x.2 (inj p x.1 n).2.2;refine⟨by simp only[WG];omega,fun o b=>?_⟩;simp only[WG,Vh]at b⊢
  grind
mutual
theorem Zc8:∀(p:Pat) (x:K2 p) (n:Nat),((inj p x n).2.1.map Vq).Nodup
 |.pd _,_,n=>by simp [inj]
 |.own _ _,_,n=>by simp [inj]
 |.var t p,x,n=>by
  simp only[inj,Vv,Vba];refine⟨fun h=>?_,Zc8 p x (n+1)⟩;obtain⟨o,b,c⟩:=Vca.1 h
  have:=((Yd p x (n+1)).2 o b).1;omega
 |.ro _,_,n=>by simp [inj]
 |.map _ _,_,n=>by simp [inj]
 |.rows _ _,_,n=>by simp [inj]
 |.mrows _ _,_,n=>by simp [inj]
 |.it _ _,_,n=>by simp [inj]
 |.bld _ _ _,_,n=>by simp [inj]
 |.fnd _ _ _ _,_,n=>by simp [inj]
 |.owo _,_,n=>by simp [inj]
 |.agg l,x,n=>by simpa only[inj] using Zda l x n
 |.fn f l,x,n=>by simpa only[inj] using Zda l x n
 |.nilr,_,n=>by simp [inj]
 |.nils,_,n=>by simp [inj]
 |.any,_,n=>by simp [inj]
theorem Zda:∀(l:Pats) (x:Ks l) (n:Nat),((Kc l x n).2.1.map Vq).Nodup
 |.nil,_,n=>by simp [Kc]
 |.cons p l,x,n=>by simp only[Kc,Vsa,Vi];refine⟨Zc8 p x.1 n,Zda l x.2 _,fun i d j k e=>?_⟩;obtain⟨o,b,rfl⟩:=Vca.1 d;obtain⟨u,m,rfl⟩:=Vca.1 k;have c:=((Yd p x.1 n).2 o b).2;have q:=((ZaE l x.2 _).2 u m).1;omega
end
theorem Zlj:∀(l:List (Nat×Pat)) (x:Ja l) (n:Nat),((WG l x n).2.1.map Vq).Nodup
 |[],_,n=>by simp [WG]
 |[(m,p)],x,n=>by simpa only[WG] using Zc8 p x n
 |(m,p)::q::l,x,n=>by simp only[WG,Vsa,Vi];refine⟨Zc8 p x.1 n,Zlj (q::l) x.2 _,fun i b j c e=>?_⟩;obtain⟨o,d,rfl⟩:=Vca.1 b;obtain⟨u,f,rfl⟩:=Vca.1 c;have h:=((Yd p x.1 n).2 o d).2;have k:=((Zc7 (q::l) x.2 _).2 u f).1;omega
theorem Zdf:∀(l:List (Nat×K1)) (H:AH) (id:Nat),(l.map Vq).Nodup->Zp H (Wd l) id=match WH l id with|some o=>Ua o|none=>H id
 |[],H,id,_=>rfl
 |p::l,H,id,d=>by
  simp only[Vv,Vba]at d;have i:Wd (p::l)=(p.1,Ua p.2)::Wd l:=rfl;rw[i];simp only[Zp];rw[Zdf l _ id d.2];simp only[WH]
  cases c:Vg id p.1 with
  |true=>
   have:=Vd c;subst this
   have f:WH l p.1=none:=by
    have key:∀l:List (Nat×K1),p.1 ∉ l.map Vq->WH l p.1=none:=by
     intro l
     induction l with
     |nil=>intro _;rfl
     |cons q l j=>
      intro h;simp only[Vv,Vj,not_or]at h;simp only[WH]
      have:Vg p.1 q.1=false:=by
       cases c:Vg p.1 q.1
       all_goals simp_all
      grind
    grind
   rw[f];simp [XC]
  |false=>
   have b:id≠p.1:=fun e=>by simp_all
   simp only[Zd]
   cases WH l id with
   |some o=>rfl
   |none=>exact Kt b
theorem Ze0{w:World}{p:Pat}{H:AH}{g:Gh}{ow:Nat->Nat->Prop}(i:RH B H w g ow){x:K2 p}{js:List Nat}{v:Value}{n:Nat}(h:PV w g.I p x js v)(j:WW B H w g ow js)(k:∀id,n<=id->id<(inj p x n).2.2->¬g.K id):
 W2 B H w g ow js n (inj p x n).2.2 (Zp H (Wd (inj p x n).2.1)) fun g' =>Ko w g' (inj p x n).1 v:=by
 obtain⟨f,t⟩:=h;obtain⟨e,b,q,l,s,d,m,r⟩:=Zc9 p i x js v.cells.toList n f j k;refine⟨e,b,q,l,s,⟨d,?_⟩,m,r⟩;by_cases c:p=.any
 ·subst c;exact .inl rfl
 ·rw[Zll p x n c];grind
theorem Zlk{w:World}{tmps:Array Value} :∀(l:List (Nat×Pat)) {H:AH}{g:Gh}{ow:Nat->Nat->Prop} (_:RH B H w g ow) (x:Ja l) (js:List Nat) (n:Nat),PRs w g.I tmps l x js->WW B H w g ow js->(∀id,n<=id->id<(WG l x n).2.2->¬g.K id)->
 W2 B H w g ow js n (WG l x n).2.2 (Zp H (Wd (WG l x n).2.1)) fun g' =>∀q∈(WG l x n).1,Ko w g' q.2 (tmps.getD q.1 undef)
 |[],H,g,ow,b,x,js,n,h,_,_=>by
  obtain rfl:=h
  exact W2.none b n (by simp [WG])
 |[(m,p)],H,g,ow,b,x,js,n,h,e,J=>by
  obtain⟨t,d,f,c,r,s,z,j⟩:=Ze0 b h e (by assumption);refine⟨t,d,f,c,r,fun q L=>?_,z,j⟩;simp only[WG,Vw]at L
  grind
 |(m,p)::q::l,H,g,ow,b,x,js,n,h,e,J=>by
  obtain⟨U,N,rfl,D,S⟩:=h;have W:=(Yd p x.1 n).1;have X:=(Zc7 (q::l) x.2 (inj p x.1 n).2.2).1;have i:∀id,n<=id->id<(WG (q::l) x.2 (inj p x.1 n).2.2).2.2->¬g.K id:=by assumption
  obtain⟨t,d,f,c,r,s,z,j⟩:=Ze0 b D (e.sub (List.sublist_append_left _ _)) fun id h R=>i id h (by omega);obtain⟨C,k,A,M,O,Q,V,Y⟩:=Zlk (q::l) r x.2 N (inj p x.1 n).2.2 (by rw[c.I];omega) (e.after c.I j) (by grind)
  have G:Zp H (Wd (WG ((m,p)::q::l) x n).2.1)=Zp (Zp H (Wd (inj p x.1 n).2.1)) (Wd (WG (q::l) x.2 (inj p x.1 n).2.2).2.1):=by rw[<-Xj];simp [WG,Wd]
  rw[G];simp only[WG];refine⟨C,k,f.trans A,M.after c f,O,fun u y=>?_,by grind,by grind⟩
  ·rcases Vj.1 y with rfl|y
   ·exact s.mono (fun _ _=>rfl) A
   grind
  all_goals grind
end
end Tr
end
section
namespace Tr
open Go
open Classical in
theorem ZsB{E:Ka}{B:Z1}{s:AS}{w:World}{g:Gh}{ow:Nat->Nat->Prop}{a:Act}{tn tq lt lb:Ty}{x:ZO tn tq lt lb}{k id:Nat}(f:SR E B s w g ow a)(L:s.F k=.ptr id [])(V:s.H id=Ua (.fnd tn tq lt lb x)):
 ∃i g' m,X2 i x/\SR E B ⟨fun t=>bif Vg t k then(inj (Yb tn tq lt lb) (KI (WF i x)) s.nx).1 else s.F t,Zp (ZY s.H id Ub) (Wd (inj (Yb tn tq lt lb) (KI (WF i x)) s.nx).2.1),(inj (Yb tn tq lt lb) (KI (WF i x)) s.nx).2.2,[]⟩ w g' m a/\Lk E w g a w g' a:=by
 obtain⟨hK,_,b,y,Z⟩:=f.rh.objs id _ V;have l:s.H id≠none:=by rw[V];simp
 have A:((Vha w.heap.size).filter (fun b=>Ue (ow id b))).Nodup:=Vz.filter _
 have e:∀k,k∈(Vha w.heap.size).filter (fun b=>Ue (ow id b))↔ow id k:=fun k=>by simp only[List.mem_filter,Vua,KD];exact⟨fun h=>h.2,fun h=>⟨(f.rh.sep id k l h).2.1,h⟩⟩
 generalize (Vha w.heap.size).filter (fun b=>Ue (ow id b))=js at e A;have K:Rn w g.I (· ∈js) tn tq lt lb x b:=Z.mono (fun _ _=>rfl) (fun _ h=>h) (fun b h=>(e b).2 h) (fun _ _=>rfl);obtain⟨i,G,Q,M,D,N⟩:=Zk8 K A
 have j:WW B (ZY s.H id Ub) w g ow G:=⟨M,fun b y=>by have C:=(e b).1 (D b y);obtain⟨p,q,r⟩:=f.rh.sep id b l C;exact⟨p,q,r,fun c J R=>(YF J).1 (f.rh.dist c id b (YF J).2 l R C)⟩⟩
 have U:=f.fr k;rw[L]at U;obtain⟨⟨_,o,t,b',S,z,Y⟩,d⟩:=U;simp only[ZW,ZB,Vc]at S;obtain⟨rfl,rfl⟩:=S;rw[y]at z;cases z
 have O:PV w g.I (Yb tn tq lt lb) (KI (WF i x)) G (a.tmps.getD k undef):=by
  refine⟨?_,.inr ?_⟩
  ·rw[Y];exact N
  ·rcases d with d|d
   ·cases d
   ·exact d
 obtain⟨g',m,W,i1,r1,X,k1,o1⟩:=Ze0 (n:=s.nx) (f.rh.drop id) O j (fun c J R L=>absurd (f.ids c L) (by omega));refine⟨i,g',m,Q,⟨r1,fun t=>?_,f.nt,f.df,fun c h=>?_,by simp⟩,W,fun _ _=>rfl,by simp⟩
 ·show VR w g' (bif Vg t k then _ else s.F t) _
  cases y:Vg t k with
  |true=>have:=Vd y;subst this;simp only[Ze];exact X
  |false=>simp only[Zd];exact(f.fr t).mono (fun _ _=>rfl) W
 ·have hm:=(Yd (Yb tn tq lt lb) (KI (WF i x)) s.nx).1;show c<(inj (Yb tn tq lt lb) (KI (WF i x)) s.nx).2.2;rcases k1 c h with h|h
  ·have:=f.ids c h;omega
  ·exact h.2
end Tr
end
section
namespace Tr
open Go
theorem Zta{s:AS}{l m:List Nat}(h:∀n∈l,n∈m):∀id∈GJ s l,id∈GJ s m:=by
 have key:∀(m:List Nat) n,n∈m->∀id∈(match s.F n with|.fn _ c=>AV.boxes c|v=>DS s.H 8 v),id∈GJ s m:=by
  intro m
  induction m with
  |nil=>simp
  |cons k m d=>
   intro n e id b;simp only[GJ,Vh]
   grind
 induction l with
 |nil=>intro id b;simp [GJ]at b
 |cons n l d=>
  intro id b;simp only[GJ,Vh]at b;rcases b with b|b
  ·exact key m n (by grind) id b
  grind
theorem ZjU{H:AH} :∀{l:Zo},Zef H l=Uc->∀id∈AV.boxes l,Xw H id=Uc
 |.nil,_,id,b=>by simp [AV.boxes]at b
 |.cons v l,h,id,b=>by
  simp only[Zef,Va]at h;simp only[AV.boxes,Vh,Option.mem_toList]at b;rcases b with b|b
  ·cases v with
   |ptr k p=>
    cases p with
    |nil=>
     simp only[AV.box?,ZB]at b
     grind
    |cons a p=>grind
   |_=>simp [AV.box?]at b
  ·exact ZjU h.2 id b
theorem ZlA{s:AS} :∀{l:List Nat},Gi s l=Uc->∀id∈GJ s l,Xw s.H id=Uc
 |[],_,id,b=>by simp [GJ]at b
 |n::l,h,id,b=>by
  simp only[Gi,Va]at h;simp only[GJ,Vh]at b;rcases b with b|b
  ·have c:=h.1
   cases d:s.F n with
   |fn f e=>rw[d]at c b;exact ZjU c id b
   |ptr i p=>
    grind
   |vw i=>rw[d]at c b;simp only[DS,Vw]at b;grind
   |nw i v j k=>rw[d]at c b;simp only[DS,Vw]at b;grind
   |mp i=>rw[d]at c b;simp only[DS,Vw]at b;grind
   |agg l=>grind
   |_=>rw[d]at b;simp [DS]at b
  ·exact ZlA h.2 id b
theorem Ze3{s:AS}{e:WQ}(h:Gi s e.kept=Uc)(c:∀id∈s.fz,Xw s.H id=Uc):∀id∈Z7 s e,Xw s.H id=true:=by
 intro id b;rcases Vh.1 b with b|b
 ·exact ZlA h id b
 grind
mutual
theorem ZiY{w0 w:World}{g0 g j:Gh}(s:∀b,g.I b->j.I b)(q:∀id,g0.K id->j.K id)(r:j.ty=g.ty)(y:j.blk=g.blk)(z:j.slv=g.slv)(C:j.ver=g.ver)(A:j.row=g.row):∀(v:AV) (m cs:List Value),CV w0 g0 v m->CV w g v cs->CV w j v cs
 |.d t x,_,cs,_,h=>Rd.mono (fun _ _=>rfl) s t x cs h
 |.junk,_,_,_,_=>by simp [CV]
 |.tup _,_,_,_,h=>by simp [CV]at h
 |.agg l,m,cs,e,h=>by simp only[CV]at e h⊢;exact Zf6 s q r y z C A l m cs e h
 |.dp t x,_,cs,_,h=>by
  simp only[CV]at h⊢;obtain⟨b,off,c,L,D,G,M⟩:=h
  exact⟨b,off,c,L,s _ D,G,Rd.mono (fun _ _=>rfl) s t x c M⟩
 |.ptr id p,_,cs,e,h=>by
  simp only[CV]at e h⊢
  rw[r,y];exact⟨q _ e.1,h.2⟩
 |.vw id,_,cs,e,h=>by
  simp only[CV]at e h⊢
  rw[z];exact⟨q _ e.1,h.2⟩
 |.vs id lo n,_,cs,e,h=>by
  simp only[CV]at e h⊢
  rw[z,r];exact⟨q _ e.1,h.2⟩
 |.vp id i p,_,cs,e,h=>by
  simp only[CV]at e h⊢
  rw[r,y];exact⟨q _ e.1,h.2⟩
 |.op id i,_,cs,e,h=>by
  simp only[CV]at e h⊢
  rw[z];exact⟨q _ e.1,h.2⟩
 |.mp id,_,cs,e,h=>by
  simp only[CV]at e h⊢
  rw[y];exact⟨q _ e.1,h.2⟩
 |.fn f l,m,cs,e,h=>by
  simp only[CV]at e h⊢;obtain⟨J,_,D⟩:=e;obtain⟨Q,L,G⟩:=h
  exact⟨Q,L,Zf6 s q r y z C A l J Q D G⟩
 |.nilr _,_,_,_,h=>by simpa only[CV] using h
 |.nils,_,_,_,h=>by simpa only[CV] using h
 |.jk _,_,_,_,h=>by simpa only[CV] using h
 |.nw id ver W k,_,cs,e,h=>by
  simp only[CV]at e h⊢
  rw[C,A];exact⟨q _ e.1,h.2⟩
 |.np id ver W k i p,_,cs,e,h=>by simp only[CV]at e h⊢;rw[C,A,r];exact⟨q _ e.1,h.2⟩
theorem Zf6{w0 w:World}{g0 g j:Gh}(s:∀b,g.I b->j.I b)(q:∀id,g0.K id->j.K id)(r:j.ty=g.ty)(y:j.blk=g.blk)(z:j.slv=g.slv)(C:j.ver=g.ver)(A:j.row=g.row):∀(l:Zo) (m cs:List Value),Z9 w0 g0 l m->Z9 w g l cs->Z9 w j l cs
 |.nil,_,_,_,h=>by simpa only[Z9] using h
 |.cons v l,m,cs,e,h=>by simp only[Z9]at e h⊢;obtain⟨R,S,_,D,G⟩:=e;obtain⟨N,O,M,U,V⟩:=h;exact⟨N,O,M,ZiY s q r y z C A v R N D U,Zf6 s q r y z C A l S O G V⟩
end
theorem ZoD{w:World}{g j:Gh}{J:Nat->Prop}{id:Nat}{o:K1}{H:AH}(hH:H id=Ua o)(hd:Xw H id=Uc)(l:∀b,g.I b->j.I b){w0:World}{g0:Gh}{J0:Nat->Prop}(hK:∀id,g0.K id->j.K id)(Z:j.ty=g.ty)(Q:j.blk=g.blk)(Y:j.slv=g.slv)(a0:j.ver=g.ver)(W:j.row=g.row)(n:ORel w0 g0 J0 id o)
 (h:ORel w g J id o):ORel w j J id o:=by
 have z:j.ty id=g.ty id:=by grind
 have r:j.blk id=g.blk id:=by grind
 have X:j.slv id=g.slv id:=by grind
 have hv:j.ver id=g.ver id:=by grind
 have V:j.row id=g.row id:=by grind
 unfold Xw at hd;rw[hH]at hd
 cases o with
 |var t c=>
  obtain⟨_,_,_,a1,_,_,_,_,_,y⟩:=n;obtain⟨n,hf,b,cs,e,i,d,p,q,s⟩:=h
  exact⟨z.trans n,hf,b,cs,e,r.trans i,d,p,q,ZiY l hK Z Q Y a0 W c _ _ y s⟩
 |vec t xs=>
  obtain⟨n,h⟩:=h;refine⟨z.trans n,?_⟩;rcases h with ⟨i,d,p⟩|⟨b,cap,cs,e,N,i,d,p,q,s,y,G,L⟩
  ·grind
  ·exact .inr ⟨b,cap,cs,e,N,r.trans i,d,X.trans p,q,s,y,G.mono fun x c f=>Rd.mono (fun _ _=>rfl) l t x c f,L⟩
 |map kt vt m=>
  obtain⟨b,es,clock,i,d,p,R,q⟩:=h
  exact⟨b,es,clock,r.trans i,d,p,R,q.mono fun kv e f=>⟨⟨by have:=f.1.1;simp only[CV]at this⊢;exact Rd.mono (fun _ _=>rfl) l _ _ _ this,f.1.2⟩,⟨by have:=f.2.1;simp only[CV]at this⊢;exact Rd.mono (fun _ _=>rfl) l _ _ _ this,f.2.2⟩⟩⟩
 |rows t xs v M=>
  obtain⟨n,i,d,p⟩:=h;refine⟨z.trans n,hv.trans i,?_,?_⟩
  ·rw[r,V];exact⟨fun k x a b=>(d.rd k x a b).mono (fun _ _=>rfl) l (by simp) (by simp),d.ds,d.tp⟩
  grind
 |mrows kt t m v M=>
  obtain⟨n,i,d,p,q,b,es,clock,s,y,G,S,L⟩:=h;refine⟨z.trans n,hv.trans i,?_,p,?_,b,es,clock,r.trans s,y,G,S,?_⟩
  ·rw[r,V];exact⟨fun k x a b=>(d.rd k x a b).mono (fun _ _=>rfl) l (by simp) (by simp),d.ds,d.tp⟩
  ·grind
  ·rw[V];exact L.mono fun kv e f=>⟨⟨by have:=f.1.1;simp only[CV]at this⊢;exact Rd.mono (fun _ _=>rfl) l _ _ _ this,f.1.2⟩,f.2⟩
 |rng kt vt rest cur=>
  obtain⟨b,mb,es,clock,since,seen,n,i,d,p,q,s,y,G,L⟩:=h;refine⟨b,mb,es,clock,since,seen,z.trans n,r.trans i,d,p,q,s,y,G.mono fun kv e f=>⟨⟨by have:=f.1.1;simp only[CV]at this⊢;exact Rd.mono (fun _ _=>rfl) l _ _ _ this,f.1.2⟩,⟨by have:=f.2.1;simp only[CV]at this⊢;exact Rd.mono (fun _ _=>rfl) l _ _ _ this,f.2.2⟩⟩,fun kv U=>?_⟩;obtain⟨e,h9,A,O,C,D⟩:=L kv U
  exact⟨e,h9,A,O,⟨by have:=C.1;simp only[CV]at this⊢;exact Rd.mono (fun _ _=>rfl) l _ _ _ this,C.2⟩,⟨by have:=D.1;simp only[CV]at this⊢;exact Rd.mono (fun _ _=>rfl) l _ _ _ this,D.2⟩⟩
 |dat t xs=>exact⟨z.trans h.1,by rw[X];exact Rd.mono (fun _ _=>rfl) l _ _ _ h.2⟩
 |vco lb xs=>exact⟨z.trans h.1,by rw[X];exact h.2.mono (fun _ _=>rfl) l (fun _ _ h=>h) fun _ _ _=>rfl⟩
 |fnd tn tq lt lb x=>grind
 |bld T e bs=>
  obtain⟨b,i,d⟩:=h;exact⟨b,r.trans i,d⟩
theorem ZlO{w:World}{g:Gh}{tmps:Array Value} :∀(l:List (Nat×AV)),(∀q∈l,Ko w g q.2 (tmps.getD q.1 undef))->∀k,Ko w g (RT l k) (tmps.getD k undef)
 |[],_,k=>⟨by simp [CV,RT],.inl rfl⟩
 |q::l,h,k=>by
  simp only[RT]
  cases b:Vg k q.1 with
  |true=>simp_all
  |false=>exact ZlO l (by grind) k
section
variable {P:Program}{E E' :Ka}{B:Z1}
theorem Zj3{w w1:World}{g s:Gh}{F i:Nat->AV}{tmps:Array Value}(hF:Fr w g F tmps)(e:∀k,(∀m,i k≠ .tup m)->Ko w1 s (i k) (tmps.getD k undef)):∀(c:Zo) (l:List Nat) (j:List Value),DO F c l=Uc->Z9 w g c j->
 (∀n∈l,∀m,i n≠ .tup m)->Z9 w1 s (Zo.ofList (l.map i)) j
 |.nil,[],j,_,q,_=>by assumption
 |.nil,n::l,_,h,_,_=>by simp [DO]at h
 |.cons v vs,[],_,h,_,_=>by simp [DO]at h
 |.cons v vs,n::l,j,h,q,O=>by
  simp only[DO,Va]at h;simp only[Z9]at q;obtain⟨D,r,rfl,x,G⟩:=q;simp only[Vv,Zo.ofList,Z9];refine⟨D,r,rfl,?_,Zj3 hF e vs l r h.2 G (by grind)⟩;have d:=h.1
  cases v with
  |ptr id p=>
   cases p with
   |nil=>
    simp only[AV.box?]at d
    cases f:F n with
    |ptr Q C=>
     cases C with
     |nil=>
      rw[f]at d;simp only at d;have:=Vd d;subst this;have A:=hF n;rw[f]at A;obtain⟨_,o,t,b,J,K,L⟩:=A.ptr;simp only[CV]at x;obtain⟨_,S,U,R,y,z,M⟩:=x;rw[J]at y;cases y;rw[K]at z;cases z;have N:=(e n (by grind)).1;rw[L]at N;rw[M]
      assumption
     |cons a C=>grind
    |_=>grind
   |cons a p=>simp [AV.box?]at d
  |_=>simp [AV.box?]at d
theorem Zjm{w w1:World}{g t:Gh}{F q:Nat->AV}{tmps:Array Value}(hF:Fr w g F tmps)(e:Fr w1 t q tmps)(r:∀k m,q k=.tup m->∀id,F k≠ .ptr id []):∀(l:List (Nat×FuncId×List Nat)),Zc3 F l=Uc->Fr w1 t (Zd7 q l) tmps
 |[],_=>e
 |(n,f,l)::m,h=>by
  simp only[Zc3,Va]at h;simp only[Zd7];refine(Zjm hF e r m h.2).upd ?_;have d:=h.1;have j:=hF n;split at d
  ·rename_i C b c;simp only[Va]at d;have:=Vd d.1;subst this;rw[c]at j;obtain⟨s,y,z⟩:=j.fn;rw[y];refine⟨?_,.inr (Zk6 _ _)⟩;simp only[CV,Zsw]
   have i:∀(b:Zo) (l:List Nat),DO F b l=Uc->∀n∈l,∃id,F n=.ptr id []:=by
    intro b l
    induction l generalizing b with
    |nil=>simp
    |cons k l D=>
     intro h n x
     cases b with
     |nil=>simp [DO]at h
     |cons v vs=>
      simp only[DO,Va]at h;rcases Vj.1 x with rfl|x
      ·have d:=h.1
       cases c:F n with
       |ptr id p=>
        cases p with
        |nil=>simp
        |cons a p=>rw[c]at d;cases j:v.box? <;>simp [AV.box?]at d
       |_=>rw[c]at d;cases j:v.box? <;>simp [AV.box?]at d
      grind
   exact⟨s,by rfl,Zj3 hF (fun k A=>(e k).to1 A) b l s d.2 z (by grind)⟩
  grind
theorem Zo7{w:World}{g:Gh}{x y:AV}{u v:Value}(c:VR w g x u)(d:VR w g y v)(h:Zgt x y=Uc):u=v:=by
 unfold Zgt at h;split at h
 ·have:=Vd h;subst this;rw[c.vw.2,d.vw.2]
 ·have:=Vd h;subst this;obtain⟨_,b,f,rfl⟩:=c.mp;obtain⟨_,e,i,rfl⟩:=d.mp
  grind
 ·have:=Vd h;subst this;obtain⟨_,o,t,b,f,i,rfl⟩:=c.ptr;obtain⟨_,l,m,e,j,k,rfl⟩:=d.ptr
  grind
 ·rw[c.nils,d.nils]
 grind
theorem Zjl{w w1:World}{g d:Gh}{F c:Nat->AV}{tmps:Array Value}(hF:Fr w g F tmps)(b:Fr w1 d c tmps):∀(l:List (Nat×Nat)),ZcC F l=Uc->Fr w1 d (Zd6 c l) tmps
 |[],_=>b
 |p::l,h=>by simp only[ZcC,Va]at h;simp only[Zd6];refine(Zjl hF b l h.2).upd ?_;rw[Zo7 (hF p.1) (hF p.2) h.1];exact b p.2
theorem Zu0{s s' :AS}{w w' :World}{g g' :Gh}{ow A:Nat->Nat->Prop}{a a' :Act}(O:SR E B s w g ow a)(c:SR E' B s' w' g' A a')(a9:E'.nt=E.nt){e:WQ}{fz0 fzN:List Nat}{x:Ja e.roots}
 (J:Lk E' w g a w' g' a') (a7:∀n∈e.kept,n∈E'.ks) (hH:∀id∈Z7 s e,s'.H id=s.H id) (hD:∀id∈Z7 s e,Xw s.H id=Uc) (b8:∀id∈Z7 s e,id∈fz0) (a3:∀id∈fzN,id∈Z7 s e)
 (h:Zh9 fz0 e s' =Ua x):∃D Q,SR E B (ZbM s fzN e x) w' D Q a' /\g.Le D/\Km g.I w w' /\(∀id∈Z7 s e,(ZbM s fzN e x).H id=s.H id)/\ ∀id,g.K id->D.slv id=g'.slv id:=by
 unfold Zh9 at h;rw[Zu.runK_eq]at h
 cases hx:(Zas s'.F e.roots).run s'.H [] with
 |none=>grind
 |some y=>
  obtain⟨⟨j,ids⟩,rd⟩:=y;rw[hx]at h;simp only[Za]at h
  cases hc:(ids.ok fz0&&J1 ids.br fz0&&Zc3 s'.F e.fns&&ZcC s'.F e.als) with
  |false=>grind
  |true=>
   rw[hc]at h;simp only[Ze,ZB]at h;subst h;simp only[Va]at hc;obtain⟨⟨⟨b0,a2⟩,V⟩,U⟩:=hc;obtain⟨a8,b3,b5⟩:=ZF.ok_iff b0;have b2:=RJ.1 a2;obtain⟨js,b1,a5,W⟩:=ZkR c.rh (I:=fun b=>g'.I b\/ZL s'.H A ids.br b) (by grind) c.fr e.roots j ids [] rd hx (by grind) a8
   let g1:Gh:= {I:=fun b=>g'.I b\/ZL s'.H A ids.br b,K:=g.K,ty:=g'.ty,blk:=g'.blk,slv:=g'.slv,ver:=g'.ver,row:=g'.row}
   let H1:AH:=fun id=>bif KO id (Z7 s e) then s.H id else Ub
   have L:∀id,H1 id≠Ub->id∈Z7 s e/\s'.H id≠Ub/\H1 id=s.H id/\s'.H id=s.H id:=by
    intro id d
    have e1:H1 id=bif KO id (Z7 s e) then s.H id else none:=rfl
    cases Y:KO id (Z7 s e) with
    |false=>grind
    |true=>
     have f:=Jo.1 Y
     grind
   have a4:g.Le g1:=⟨fun b i=>.inl (J.le.I b i),fun _ h=>h,fun id d=>J.le.ty id d,fun id d=>J.le.blk id d,fun id d=>J.le.slv id d,fun id d=>J.le.ver id d,fun id d=>J.le.row id d⟩
   have a1:RH B H1 w' g1 A:= {
    objs:=fun id o ho=>by obtain⟨f,z,p,r⟩:=L id (by grind);have C:s.H id=Ua o:=p.symm.trans ho;have Z:s'.H id=Ua o:=r.trans C;exact⟨(O.rh.objs id o C).1,ZoD (g0:=g) C (hD id f) (fun b i=>.inl i) (by grind) rfl rfl rfl rfl rfl (O.rh.objs id o C).2 (c.rh.objs id o Z).2⟩
    dist:=fun id t b p r R h4=>c.rh.dist id t b (by grind) (by grind) R h4
    sep:=fun id b p r=>by
     obtain⟨f,z,_⟩:=L id p;obtain⟨R,h4,h5⟩:=c.rh.sep id b z r;refine⟨fun M=>?_,h4,h5⟩;rcases M with M|⟨t,h6,h7,h8⟩
     ·grind
     ·have:=c.rh.dist id t b z h7 r h8
      grind
    ilt:=fun b i=>by
     rcases i with i|⟨id,_,p,r⟩
     ·exact c.rh.ilt b i
     ·exact(c.rh.sep id b p r).2.1
    inew:=fun b i=>by
     rcases i with i|⟨id,_,p,r⟩
     ·exact c.rh.inew b i
     ·exact .inr (c.rh.sep id b p r).2.2
    os:=c.rh.os
    tape:=c.rh.tape
    output:=c.rh.output
    size:=c.rh.size
    kept:=c.rh.kept}
   have N:WW B H1 w' g1 A js:=⟨a5,fun b i=>by
    obtain⟨id,p,r,R⟩:=W b i;obtain⟨h4,h5,h6⟩:=c.rh.sep id b r R;refine⟨fun M=>?_,h5,h6,fun t h7 h8=>?_⟩
    ·rcases M with M|M
     ·grind
     ·obtain⟨k,h9,b6⟩:=Hn c.rh M (W b i)
      grind
    ·obtain⟨f,z,_⟩:=L t h7;have:=c.rh.dist t id b z r h8 R
     grind⟩
   obtain⟨D,Q,l2,i2,r2,c2,k2,_⟩:=Zlk e.roots a1 j js s.nx b1 N fun id p r hK=>by have:=O.ids id hK;omega
   have b7:(ZbM s fzN e j).H=Zp H1 (Wd (WG e.roots j s.nx).2.1):=by
    funext id;rw[Zdf _ _ _ (Zlj _ _ _)]
    show (bif KO id (Z7 s e) then s.H id else WH (WG e.roots j s.nx).2.1 id)=_
    cases Y:KO id (Z7 s e) with
    |true=>
     have b9:id<s.nx:=by
      have hd:=hD id (Jo.1 Y)
      cases ho:s.H id with
      |none=>unfold Xw at hd;grind
      |some o=>exact O.ids id (O.rh.objs id o ho).1
     have hl:WH (WG e.roots j s.nx).2.1 id=none:=by
      have b4:=(Zc7 e.roots j s.nx).2
      have key:∀l:List (Nat×K1),(∀o∈l,s.nx<=o.1)->WH l id=none:=by
       intro l
       induction l with
       |nil=>intro _;rfl
       |cons q l ih=>
        intro h;simp only[WH]
        have:Vg id q.1=false:=by
         cases i:Vg id q.1
         ·rfl
         ·have:=Vd i
          grind
        grind
      grind
     grind
    |false=>
     grind
   have X:g.Le D:=a4.trans l2;have G:Km g.I w w' :=J.ag
   have S:Fr w' D (fun k=>bif KO k e.kept then s.F k else RT (WG e.roots j s.nx).1 k) a'.tmps:=by
    intro k
    show VR w' D (bif KO k e.kept then s.F k else RT (WG e.roots j s.nx).1 k) _
    cases Y:KO k e.kept with
    |true=>
     simp only[Ze];rw[J.ks k (a7 k (Jo.1 Y))]
     exact(O.fr k).mono G X
    |false=>
     simp only[Zd];exact .of1 (ZlO _ c2 k)
   refine⟨D,Q,⟨by grind,?_,by rw[c.nt,a9],c.df,fun id d=>?_,fun id d=>?_⟩,X,G,fun id d=>?_,fun id d=>l2.slv id d⟩
   ·refine Zjl c.fr (Zjm c.fr S (fun k m a6 id d=>?_) e.fns V) e.als U;have hv:=S k
    rw[show (fun k=>bif KO k e.kept then s.F k else RT (WG e.roots j s.nx).1 k) k=.tup m from a6]at hv
    have a0:=c.fr k;rw[d]at a0;obtain⟨vs,p,_⟩:=hv;obtain⟨_,_,_,_,_,_,r⟩:=a0.ptr
    grind
   ·show id<(WG e.roots j s.nx).2.2;have:=(Zc7 e.roots j s.nx).1;rcases k2 id d with p|p
    ·have:=O.ids id p;omega
    omega
   ·have f:=a3 id d
    have e1:(ZbM s fzN e j).H id=s.H id:=by
     show (bif KO id (Z7 s e) then s.H id else WH (WG e.roots j s.nx).2.1 id)=_
     rw[Jo.2 f];rfl
    exact(Zdm e1).trans (hD id f)
   ·show (bif KO id (Z7 s e) then s.H id else WH (WG e.roots j s.nx).2.1 id)=_
    rw[Jo.2 d];rfl
theorem ZhT{s:AS}{w:World}{g:Gh}{ow:Nat->Nat->Prop}{tmps:Array Value}(q:RH B s.H w g ow)(hF:Fr w g s.F tmps){k:Nat×Nat×Nat}{x:Nat}(h:HK s k=Ua x):
 g.K x/\ ∃b cs e,tmps.getD k.1 undef=.pointer (Ua ⟨b,0,Ub⟩)/\w.heap[b]? =Ua (.cells cs e (0,0))/\cs[k.2.2]? =Ua (g.slv x):=by
 unfold HK at h;split at h
 case h_2=>grind
 rename_i id f;split at h
 case h_2=>grind
 rename_i T c p;split at h
 case h_2=>grind
 rename_i y z
 cases i:Vg (RW T k.2.1) k.2.2 with
 |false=>grind
 |true=>
  rw[i]at h;simp only[Ze,ZB]at h;subst h;have l:=Vd i;obtain⟨_,_,j,b,cs,e,r,_,L,_,d⟩:=q.objs id _ p;simp only[AV.fits]at j;simp only[CV]at d;obtain⟨C,D⟩:=ZbV c _ _ _ _ j d z;have m:=hF k.1;rw[f]at m;obtain⟨_,o,t,A,n,G,J⟩:=m.ptr;simp only[ZW,ZB,Vc]at n
  grind
theorem Ztc{s' s2:AS}{w' :World}{g' c:Gh}{j l:Nat->Nat->Prop}{m:Z1}{tmps:Array Value}(h:RH m s'.H w' g' j)(d:Fr w' g' s'.F tmps)(i:RH B s2.H w' c l)(f:Fr w' c s2.F tmps){k:Nat×Nat×Nat}{x y:Nat}(p:HK s' k=Ua x)(q:HK s2 k=Ua y):
 c.slv y=g'.slv x:=by
 obtain⟨_,b,cs,e,t,z,A⟩:=ZhT h d p;obtain⟨_,r,n,s,C,D,G⟩:=ZhT i f q
 grind
theorem Zu1{b:AS}{fz:List Nat}{k:Nat×Nat×Nat}{s:AS}{i:Nat}(d:i∈fz):(D2 b fz k s).H i=s.H i:=by
 unfold D2;split
 case h_2=>rfl
 rename_i x y id J K r;split
 case h_2=>rfl
 rename_i T c t xs C D G q p;generalize f:(C==t&& !Vg y id&& !Vg x id&& !KO x fz&& !KO y fz&& !KO id fz)=j
 cases j with
 |false=>rfl
 |true=>
  simp only[Va,Vl]at f;obtain⟨⟨⟨_,l⟩,m⟩,n⟩:=f;have z:i≠x:=fun e=>by rw[<-e,Jo.2 d]at l;grind
  have A:i≠y:=fun e=>by rw[<-e,Jo.2 d]at m;grind
  have h:i≠id:=fun e=>by rw[<-e,Jo.2 d]at n;grind
  show ZY (ZY (ZY (ZY s.H y Ub) id Ub) x _) id _ i=s.H i;rw[Kt h,Kt z,Kt h,Kt A]
theorem ZmU{b:AS}{fz:List Nat}{i:Nat}(c:i∈fz):∀(l:List (Nat×Nat×Nat)) (s:AS),(RY b fz l s).H i=s.H i
 |[],_=>rfl
 |_::l,_=>(ZmU c l _).trans (Zu1 c)
theorem ZeX{b:AS}{fz:List Nat}{e:WQ}{x:Ja e.roots}{id:Nat}(c:id∈Z7 b e):(Xi b fz e x).H id=b.H id:=by
 refine(ZmU c e.kf _).trans ?_
 show (bif KO id (Z7 b e) then b.H id else _)=_
 rw[Jo.2 c];rfl
theorem Zu2{s s' s2:AS}{w w' :World}{g g' i:Gh}{ow N n:Nat->Nat->Prop}{V U:Z1}{l tmps:Array Value}(O:RH V s.H w g ow)(hF:Fr w g s.F l)(C:RH U s'.H w' g' N)(p:Fr w' g' s'.F tmps)(d:g.Le i)(D:∀id,g.K id->i.slv id=g'.slv id)
 {k:Nat×Nat×Nat} (hk:(match HK s k,HK s' k with|some x,Ua y=>Vg x y|_,_=>Ud)=Uc) {fz:List Nat} (j:RH B s2.H w' i n) (q:Fr w' i s2.F tmps):
 (∃f,RH B (D2 s fz k s2).H w' i f)/\(D2 s fz k s2).F=s2.F/\(D2 s fz k s2).fz=s2.fz/\(D2 s fz k s2).nx=s2.nx:=by
 have same:(∃f,RH B s2.H w' i f)/\s2.F=s2.F/\s2.fz=s2.fz/\s2.nx=s2.nx:=⟨⟨n,j⟩,rfl,rfl,rfl⟩;unfold D2;split
 case h_2=>omega
 rename_i x y id R S a0;split
 case h_2=>omega
 rename_i T c t xs t0 a1 hH A r;generalize Q:(t0==t&& !Vg y id&& !Vg x id&& !KO x fz&& !KO y fz&& !KO id fz)=W
 cases W with
 |false=>grind
 |true=>
  simp only[Ze];simp only[Va,Vl,Kj]at Q;obtain⟨⟨⟨⟨⟨rfl,h1⟩,h2⟩,X⟩,Y⟩,Z⟩:=Q;have n1:y≠id:=by grind
  have n2:x≠id:=fun e=>by simp_all
  have m3:x ∉ fz:=fun h=>by rw[Jo.2 h]at X;grind
  have m4:y ∉ fz:=fun h=>by rw[Jo.2 h]at Y;grind
  have m5:id ∉ fz:=fun h=>by rw[Jo.2 h]at Z;grind
  have hn:c.nth k.2.1=Ua (.vw y):=by
   have M:=S;unfold HK at M
   grind
  have L:HK s' k=Ua x:=by
   rw[R]at hk
   cases hz:HK s' k with
   |none=>grind
   |some z=>simp_all
  have b:=(ZhT O hF R).1;have m:i.slv x=i.slv y:=by rw[Ztc C p j q L S,D x b]
  obtain⟨_,G,J⟩:=O.objs x _ r
  obtain⟨f,h6⟩:=ZmY j hH hn A (d.K x b) m ((d.ty x b).trans G) (by
   rw[d.blk x b,d.slv x b]
   grind) n1 n2
  grind
theorem ZmV{s s' :AS}{w w' :World}{g g' e:Gh}{ow q:Nat->Nat->Prop}{x t:Z1}{d tmps:Array Value}(r:RH x s.H w g ow)(hF:Fr w g s.F d)(i:RH t s'.H w' g' q)(f:Fr w' g' s'.F tmps)(j:g.Le e)(m:∀id,g.K id->e.slv id=g'.slv id){fz:List Nat} :
 ∀(l:List (Nat×Nat×Nat)) {s2:AS}{b:Nat->Nat->Prop},Zdd s s' l=Uc->RH B s2.H w' e b->Fr w' e s2.F tmps->
 (∃n,RH B (RY s fz l s2).H w' e n)/\(RY s fz l s2).F=s2.F/\(RY s fz l s2).fz=s2.fz/\(RY s fz l s2).nx=s2.nx
 |[],s2,b,_,c,_=>⟨⟨b,c⟩,rfl,rfl,rfl⟩
 |k::l,s2,b,h,c,p=>by simp only[Zdd,Va]at h;obtain⟨⟨n,y⟩,z,A,C⟩:=Zu2 (k:=k) (fz:=fz) r hF i f j m h.1 c p;obtain⟨D,G,J,L⟩:=ZmV r hF i f j m l (s2:=D2 s fz k s2) h.2 y (by grind);exact⟨D,G.trans z,J.trans A,L.trans C⟩
theorem Zjn{b:AS}{w:World}{g:Gh}{tmps:Array Value} :∀(l:List Nat) {F:Nat->AV},(∀n∈l,VR w g (b.F n) (tmps.getD n undef))->Fr w g F tmps->Fr w g (Zgq b l F) tmps
 |[],_,_,h=>h
 |n::l,F,c,h=>Zjn l (by grind) (h.upd (by grind))
theorem Zb4{s s' :AS}{w w' :World}{g g' :Gh}{ow z:Nat->Nat->Prop}{a m:Act}(l:SR E B s w g ow a)(d:SR E' B s' w' g' z m)(y:E'.nt=E.nt){e:WQ}{fz0 fzN:List Nat}{x:Ja e.roots}
 (G:Lk E' w g a w' g' m) (r:∀n∈e.kept,n∈E'.ks) (t:∀n∈e.kv,n∈E'.ks) (L:∀id∈Z7 s e,s'.H id=s.H id) (D:∀id∈Z7 s e,Xw s.H id=Uc) (q:∀id∈Z7 s e,id∈fz0) (f:∀id∈fzN,id∈Z7 s e)
 (h:XR s fz0 e s' =Ua x):∃k j,SR E B (Xi s fzN e x) w' k j m/\g.Le k/\Km g.I w w' /\ ∀id∈Z7 s e,(Xi s fzN e x).H id=s.H id:=by
 unfold XR at h
 cases i:Zdd s s' e.kf with
 |false=>grind
 |true=>
  rw[i]at h;simp only[Ze]at h;obtain⟨k,j,b,p,C,R,K⟩:=Zu0 l d y G r L D q f h;obtain⟨⟨A,N⟩,O,S,Q⟩:=ZmV (fz:=Z7 s e) l.rh l.fr d.rh d.fr p K e.kf i b.rh b.fr;refine⟨k,A,⟨N,?_,b.nt,b.df,fun id c=>?_,fun id c=>?_⟩,p,C,fun id c=>ZeX c⟩
  ·refine Zjn e.kv (fun n M=>?_) (by rw[O];exact b.fr);rw[G.ks n (t n M)];exact(l.fr n).mono C p
  ·show id<(RY s (Z7 s e) e.kf (ZbM s fzN e x)).nx;rw[Q];exact b.ids id c
  ·have J:=f id c;exact(Zdm (ZeX J)).trans (D id J)
def ZbB:Ex->Exit
 |.normal=>.normal
 |.exit id=>.exit id
 |.ret=>.ret
 |.jump l=>.goto l
theorem Ex.beq_eq{x y:Ex}(h:x.beq y=Uc):x=y:=by
 cases x<;>cases y<;>simp [Ex.beq]at h
 all_goals grind
theorem Zn6{ρ:Type}{b s' :AS}{fz:List Nat}{k:Ex->AS->Option ρ}{r:ρ}{x:Ex} :∀(J:HZ) (o:Yj J),Yz b fz J x s' =Ua o->Du b J o k=Ua r->∃f∈J,x=f.1/\ ∃y,XR b fz f.2 s' =Ua y/\k x (Xi b b.fz f.2 y)=Ua r
 |[],o,h,_=>by grind
 |[f],o,h,d=>by
  simp only[Yz]at h
  cases c:x.beq f.1 with
  |false=>grind
  |true=>
   rw[c]at h;have:=Ex.beq_eq c;simp only[Du]at d
   grind
 |f::i::l,o,h,d=>by
  simp only[Yz]at h
  cases c:x.beq f.1 with
  |true=>
   rw[c]at h;simp only[Ze,Vb,ZB]at h;obtain⟨y,e,rfl⟩:=h;have:=Ex.beq_eq c;simp only[Du]at d
   grind
  |false=>
   rw[c]at h;simp only[Zd,Vb,ZB]at h;obtain⟨y,e,rfl⟩:=h;simp only[Du]at d;obtain⟨j,m,n⟩:=Zn6 (i::l) y e d
   grind
theorem ZhQ{e:WQ} :∀{J:HZ},Gg e J=Uc->∀f∈J,∀n∈f.2.kept,n∈e.kept
 |[],_,f,b=>by grind
 |q::l,h,f,b=>by
  simp only[Gg,Va]at h;rcases Vj.1 b with rfl|b
  ·exact fun n c=>Jo.1 (by grind)
  ·exact ZhQ h.2 f b
theorem Zlz{e:WQ} :∀{J:HZ},Gg e J=Uc->∀f∈J,∀n∈f.2.kv,n∈e.kv
 |[],_,f,b=>by grind
 |q::l,h,f,b=>by
  simp only[Gg,Va]at h;rcases Vj.1 b with rfl|b
  ·exact fun n c=>Jo.1 (by grind)
  ·exact Zlz h.2 f b
def Wv(E:Ka)(B:Z1)(s:AS)(w:World)(g:Gh)(a:Act){ρ:Type}(k:Ex->AS->Option ρ)(r:ρ):Exit->Act->World->Prop:=fun e d h=>
 ∃x c f b,ZbB x=e/\SR E B c h f b d/\Ln E s w g a c h f d/\k x c=Ua r
theorem Wv.out{s A:AS}{w w1:World}{g C:Gh}{ow q:Nat->Nat->Prop}{a e:Act}{en:WQ}{J:HZ}{ρ:Type}{k:Ex->AS->Option ρ}{r:ρ}(G:SR E B s w g ow a)(d:Gi s en.kept=Uc)(i:Gg en J=Uc)
 (D:Lk (Wo E en) w g a w1 C e) (p:SR (Wo E en) B A w1 C q e) (W:∀id∈Z7 s en,A.H id=s.H id) {x:Ex}{o:Yj J} (R:Yz s (Z7 s en) J x A=Ua o) (U:Du s J o k=Ua r):Wv E B s w g a k r (ZbB x) e w1:=by
 obtain⟨f,j,X,y,V,Q⟩:=Zn6 J o R U
 have c:∀id∈Z7 s f.2,id∈Z7 s en:=fun id b=>by
  rcases Vh.1 b with h|h
  ·exact Ve _ (Zta (ZhQ i f j) id h)
  ·exact Vf _ h
 have l:∀n∈f.2.kept,n∈(Wo E en).ks:=fun n m=>Ve _ (ZhQ i f j n m);obtain⟨K,z,L,M,N,O⟩:=Zb4 (E' :=Wo E en) G p rfl (fzN:=s.fz) D l (fun n m=>Vf _ (Ve _ (Zlz i f j n m))) (by grind) (fun id b=>Ze3 d G.fz id (c id b)) c (fun id b=>Vf _ b) V;exact⟨x,_,K,z,rfl,L,⟨⟨M,N,fun t S=>D.ks t (Vf _ (Vf _ S))⟩,rfl,fun id b=>O id (Vf _ b)⟩,Q⟩
theorem SR.kept{s:AS}{w:World}{g:Gh}{ow:Nat->Nat->Prop}{a:Act}(b:SR E B s w g ow a){e:WQ}(d:Gi s e.kept=Uc):SR (Wo E e) B {s with fz:=Z7 s e} w g ow a:=
 ⟨b.rh,b.fr,b.nt,b.df,b.ids,fun id c=>Ze3 d b.fz id c⟩
theorem Z3.kept(h:Z3 P E)(e:WQ):Z3 P (Wo E e):=⟨h.ty,h.mty,h.pk,h.pz,h.bd⟩
theorem JJ.kept(h:JJ P E B)(e:WQ):JJ P (Wo E e) B:=⟨h.ok,h.amb,h.pl,h.inl⟩
theorem Zcm{c:Code}{Q:Exit->Act->World->Prop}(Inv:Nat->Act->World->Prop){n:Nat}{a:Act}{w:World}(k:Inv n a w)
 (round:∀n a w,Inv n a w->c.wp P (Exit.then (fun d w' =>∃m,m<n/\Inv m d w') Q) a w):(Code.loop c).wp P Q a w:=by
 classical
 have b:∀a w,(∃n,Inv n a w)->∃n,Inv n a w/\ ∀m,Inv m a w->n<=m:=by
  intro a w ⟨n,q⟩
  induction n using Nat.strongRecOn with
  |_ n r=>
   grind
 refine wp_loop (fun a w=>∃n,Inv n a w) (fun a w=>if h:∃n,Inv n a w then(b a w h).choose else 0) ⟨n,k⟩ fun a w i=>?_
 have f:=(b a w i).choose_spec;refine wp_mono (round _ a w f.1) fun e d w' l=>?_
 cases e with
 |normal=>
  obtain⟨m,p,j⟩:=l;refine⟨⟨m,j⟩,?_⟩;simp only[dif_pos i,dif_pos (show∃n,Inv n d w' from ⟨m,j⟩)]
  grind
 |_=>assumption
theorem Ziv{σ τ:Type}{step:σ->Option (σ ⊕ τ)}{s:σ}{r:τ}(h:run step s=Ua r):∃n,Jn step n s=Ua r:=by
 unfold run at h;split at h
 ·grind
 split at h
 all_goals grind
theorem Zvc{it id:Nat}{s:AS}{b c:Ty}{rest:List (El b×El c)}{cur:Option (El b×El c)}(d:s.F it=.ptr id [])(e:s.H id=Ua (.rng b c rest cur)):D6 it s=bif rest.isEmpty then 1 else rest.length:=by unfold D6;grind
theorem Zm7(it:Nat)(s:AS):0<D6 it s:=by
 unfold D6
 grind
theorem ZtZ(hT:Z3 P E)(hS:JJ P E B){ops:Array Oper}{s:AS}{w:World}{g:Gh}{ow:Nat->Nat->Prop}{a:Act}(m:SR E B s w g ow a){id it:Nat}{ρ:Type}{k:AS->Option ρ}
 (h:∀i,i<D6 it s->∃r,ZaO E ops it i ρ s k=Ua r):
 (Vra id ops Ud).wp P (fun e S w' =>∃i s' g' G r,i<D6 it s/\e=.normal/\SR E B s' w' g' G S/\Ln E s w g a s' w' g' S/\ZaO E ops it i ρ s k=Ua r/\k s' =Ua r) a w:=by
 obtain⟨r0,f⟩:=h 0 (Zm7 it s);have a5:=f;unfold ZaO at f;split at f
 ·grind
 ·rename_i o i0 l hz
  have O:ops[0]? =Ua o/\i0=0:=by
   have:ops.toList.zipIdx[0]? =Ua (o,i0):=by grind
   grind
  obtain⟨a2,rfl⟩:=O;split at f
  ·rename_i D d N a1 z
   cases Z:(Vg D it&&YX E (Ua d)) with
   |false=>grind
   |true=>
    rw[Z]at f;simp only[Ze]at f;simp only[Va]at Z;obtain⟨C,K⟩:=Z;have C:=Vd C;subst C;split at f
    ·rename_i rid W;split at f
     ·rename_i kt vt rest cur X
      have step:∃i v val w' H1,i<D6 D s/\(execOp a.eval o).run P w=.ok (.value val) w' /\RH B H1 w' g ow/\Km g.I w w' /\VR w' g v val/\(∀id∈s.fz,H1 id=s.H id)/\
       ZaO E ops D i ρ s k=YT E ops s.nx s.fz ρ l (W0 s.F (Ua d) v) H1 [] fun F H _=>k ⟨F,H,s.nx+ops.size*E.stp,s.fz⟩:=by
       have hm:KO rid s.fz=false:=by
        grind
       cases rest with
       |nil=>
        obtain⟨y,U⟩:=Zl7 (P:=P) m.rh m.fr N W X;refine⟨0,_,_,w,s.H,Zm7 _ _,y,m.rh,fun _ _=>rfl,U,by simp,?_⟩
        grind
       |cons e0 r0=>
        obtain⟨i,kv,val,w',y,U,V,h4,h5,h6⟩:=Zt3 m.rh m.fr N W X (by simp);refine⟨i,_,val,w',_,by rw[Zvc W X];grind,V,h4,h5,h6,?_,?_⟩
        ·intro id c;refine Kt fun e=>?_;subst e;rw[Jo.2 c]at hm
         grind
        ·unfold ZaO
         grind
      obtain⟨i,v,val,w',H1,hi,Q,Y,J,hv,M,hK⟩:=step;obtain⟨r,hr⟩:=h i hi;rw[hK]at hr;obtain⟨F',H',a7,A,hk⟩:=Zec hr
      have x:(l.map Vx).Nodup/\(∀p∈l,ops[p.2]? =Ua p.1)/\Vha ops.size=0::l.map Vx:=by
       have y:ops.toList.zipIdx.map Vx=0::l.map Vx:=by grind
       rw[ZiX]at y;refine⟨?_,fun p hp=>?_,y⟩
       ·have:=Vz (n:=ops.size)
        grind
       grind
      have a0:=A.ex x.1 x.2.1 (fun _ _=>rfl)
      have a6:0 ∉ l.map Vx:=by
       have:=Vz (n:=ops.size)
       grind
      refine wp_region ?_;rw[x.2.2,wpOps_cons];unfold wpOp;rw[a2];simp only;rw[ZiT (ops:=ops) (b:=true) m.fr (by simp [Y2,a1])];simp only[if_true];refine .inl ?_;unfold Oper.wp;rw[Q]
      have L:∀e,o.dst=Ua e->e<a.tmps.size:=fun e R=>by rw[z]at R;cases R;rw[m.nt];exact(Zfh K).1
      have hI:RI E B s.nx (fun _=>False) (W0 s.F (Ua d) v) H1 w' (a.put o.dst val) g ow (fun j=>j=0):=⟨Y,by
       have:=(m.fr.mono J (.refl g)).put (d:=o.dst) hv L
       grind,Zif.trans m.nt,Zid.trans m.df,fun id c=>.inl (.inl (m.ids id c))⟩
      show wpOps P ops _ (l.map Vx) (a.put o.dst val) w';refine ZiW hT hS a0 x.1 (by grind) (by simp) hI fun S w2 g' G q hl=>?_;refine⟨i,⟨F',H',s.nx+ops.size*E.stp,s.fz⟩,g',G,r,hi,rfl,⟨q.rh,q.fr,q.nt,q.df,fun id c=>?_,fun id c=>?_⟩,⟨⟨hl.le,J.trans hl.ag fun _ h=>h,fun t ht=>?_⟩,rfl,fun id c=>?_⟩,hK.trans hr,hk⟩
      ·have a4:0<ops.size:=by grind
       rcases q.ids id c with (y|y) |⟨j,y,U,V⟩
       ·grind
       ·grind
       ·have hj:j<ops.size:=by
         grind
        show id<s.nx+ops.size*E.stp;exact Zin hj V
      ·exact(Zdm ((A.keptH id c).trans (M id c))).trans (m.fz id c)
      ·rw[hl.ks t ht,z];refine Zie fun e R a3=>?_;cases R;exact(Zfh K).2 (a3▸ht)
      ·exact(A.keptH id c).trans (M id c)
     grind
    grind
  grind
theorem ZkG{σ τ ρ:Type}{cnt:σ->Nat}{step:σ->Nat->Option (σ ⊕ τ)}{k:τ->Option ρ}{s:σ}{z:ρ}(h:drun cnt step k s=Ua z):∃n,Hv cnt step k z n s:=by
 have b:∀(n:Nat) (s:σ) (z:ρ),ZcT cnt step k n s=Ua z->Hv cnt step k z n s:=by
  intro n
  induction n with
  |zero=>intro s z h;simp [ZcT]at h
  |succ n f=>
   intro s z h i e;simp only[ZcT]at h
   cases c:Vza (cnt s) 1 with
   |false=>grind
   |true=>
    have d:=Vy c
    grind
 unfold drun at h;split at h
 ·grind
 split at h
 all_goals grind
theorem ZrG{n:Nat}{E:Ka}{ρ:Type}{s:AS}{go:AS->Option ρ}{r:ρ}(h:Zg7 n s go=Ua r){w:World}{g:Gh}{ow:Nat->Nat->Prop}{a:Act}(d:SR E B s w g ow a):
 ∃A C y,go A=Ua r/\SR E B A w C y a/\Ln E s w g a A w C a:=by
 unfold Zg7 at h;split at h
 ·rename_i id ver X k S
  cases t:KO id s.fz with
  |true=>rw[t]at h;cases h
  |false=>
  rw[t]at h;simp only[Zd,Zu.runK_eq]at h;rw[Vb]at h;obtain⟨⟨L,Y⟩,M,h⟩:=h;rw[Vb]at h;obtain⟨⟨o,Z⟩,N,h⟩:=h;have x:=d.fr n;rw[S]at x;have m:¬g.K s.nx:=fun R=>Nat.lt_irrefl _ (d.ids _ R);obtain⟨D,z,G,l,W,Q,V,U,q⟩:=ZnC (nid:=s.nx) (tmp:=s.nx) d.rh x M N m
  have j:∀i∈s.fz,i≠id/\i≠s.nx:=fun i c=>by
   refine⟨fun e=>?_,fun e=>?_⟩
   ·subst e;rw[Jo.2 c]at t;cases t
   ·subst e;have:=d.fz _ c;unfold Xw at this
    cases J:s.H s.nx with
    |none=>rw[J]at this;cases this
    |some o=>exact m (d.rh.objs _ _ J).1
  have b:∀i∈s.fz,ZY (ZY s.H id (Ua o)) s.nx (Ua (.vec L.1 L.2)) i=s.H i:=fun i c=>by rw[Kt (j i c).2,Kt (j i c).1]
  refine⟨_,D,z,h,⟨G,?_,d.nt,d.df,fun i c=>?_,fun i c=>?_⟩,⟨⟨l,fun _ _=>rfl,fun _ _=>rfl⟩,rfl,b⟩⟩
  ·have O:=d.fr.mono (w' :=w) (g' :=D) (fun _ _=>rfl) l;refine O.upd ?_;have f:(a.tmps.getD n undef).oneCell'=true:=x.nw.2.2.1;refine KK ?_ f rfl;simp only[CV];have p:=(G.objs s.nx _ XC).1;exact⟨p,by rw[q],by rw[q];exact f⟩
  ·rcases Q i c with h|h
   ·exact Nat.lt_succ_of_lt (d.ids i h)
   ·subst h;exact Vu _
  ·rw[Zdm (b i c)];exact d.fz i c
 ·cases h
theorem ZrH{hint:K3}{E:Ka}{ρ:Type}{s:AS}{go:AS->Option ρ}{r:ρ}(h:Zg8 hint s go=Ua r){w:World}{g:Gh}{ow:Nat->Nat->Prop}{a:Act}(e:SR E B s w g ow a):
 ∃c d b,go c=Ua r/\SR E B c w d b a/\Ln E s w g a c w d a:=by
 unfold Zg8 at h;split at h
 ·exact⟨s,g,ow,h,e,.refl s w g a⟩
 ·exact ZrG h e
theorem Wz(U:P.follows .mixedOrders=Uc):∀(c:Code) (h:K3) (E:Ka) (ρ:Type) (s:AS) (k:Ex->AS->Option ρ) (r:ρ),Z3 P E->JJ P E B->Kp c h E ρ s k=Ua r->
 ∀{w:World}{g:Gh}{ow:Nat->Nat->Prop}{a:Act},SR E B s w g ow a->c.wp P (Wv E B s w g a k r) a w
 |.skip,_,E,ρ,s,k,r,_,_,h,w,g,ow,a,b=>by
  simp only[Kp]at h
  exact wp_skip ⟨.normal,s,g,ow,rfl,b,.refl s w g a,h⟩
 |.region id ops draw,d,E,ρ,s,k,r,M,L,h,w,g,ow,a,b=>by
  simp only[Kp]at h;refine wp_mono (ZuZ U M L b h) ?_;rintro e R S ⟨s',G,f,rfl,C,p,j⟩
  exact⟨.normal,s',G,f,rfl,C,p,j⟩
 |.seq x y,d,E,ρ,s,k,r,M,L,h,w,g,ow,a,b=>by
  simp only[Kp]at h;obtain⟨s0,g0,c8,h,b,b8⟩:=ZrH h b;refine wp_seq (wp_mono (Wz U x d.l E ρ s0 _ r M L h b) ?_);rintro e R S ⟨ex,s',G,f,rfl,C,p,j⟩;have p:=b8.trans p
  cases ex with
  |normal=>
   refine wp_mono (Wz U y d.r E ρ s' k r M L j C) ?_;rintro e a2 w2 ⟨b6,s2,g2,O,rfl,X,h5,h6⟩
   exact⟨b6,s2,g2,O,rfl,X,p.trans h5,h6⟩
  |exit id=>exact⟨.exit id,s',G,f,rfl,C,p,j⟩
  |ret=>exact⟨.ret,s',G,f,rfl,C,p,j⟩
  |jump l=>exact⟨.jump l,s',G,f,rfl,C,p,j⟩
 |.cond c x y,d,E,ρ,s,k,r,M,L,h,w,g,ow,a,b=>by
  simp only[Kp]at h;split at h
  ·rename_i t ht;have hv:=b.fr.eval c;rw[ht]at hv;refine wp_cond hv.bool ?_
   cases hj:d.join with
   |none=>
    rw[hj]at h
    cases t with
    |true=>exact Wz U x d.l E ρ s k r M L h b
    |false=>exact Wz U y d.r E ρ s k r M L h b
   |some eJ=>
    obtain⟨e,J⟩:=eJ;rw[hj]at h;simp only at h
    cases Q:(Gi s e.kept&&Gg e J) with
    |false=>grind
    |true=>
     rw[Q]at h;simp only[Ze]at h;simp only[Va]at Q;rw[Vb]at h;obtain⟨o,ho,hu⟩:=h
     have fin:∀(z:Code) (W:K3),Kp z W (Wo E e) (Yj J) {s with fz:=Z7 s e} (Yz s (Z7 s e) J)=Ua o->(∀{w:World}{g:Gh}{ow:Nat->Nat->Prop}{a:Act},SR (Wo E e) B {s with fz:=Z7 s e} w g ow a->z.wp P (Wv (Wo E e) B {s with fz:=Z7 s e} w g a (Yz s (Z7 s e) J) o) a w)->z.wp P (Wv E B s w g a k r) a w:=by intro z W _ ih;refine wp_mono (ih (b.kept Q.1)) ?_;rintro e' R S ⟨ex,s',G,f,rfl,C,p,j⟩;exact Wv.out b Q.1 Q.2 p.lk C p.hz j hu
     cases t with
     |true=>exact fin x d.l ho (Wz U x d.l (Wo E e) _ _ _ o (M.kept e) (L.kept e) ho)
     |false=>exact fin y d.r ho (Wz U y d.r (Wo E e) _ _ _ o (M.kept e) (L.kept e) ho)
  grind
 |.block id c,d,E,ρ,s,k,r,M,L,h,w,g,ow,a,b=>by
  simp only[Kp]at h;refine wp_block (wp_mono (Wz U c d E ρ s _ r M L h b) ?_);rintro e R S ⟨ex,s',G,f,rfl,C,p,j⟩
  cases ex with
  |normal=>exact⟨.normal,s',G,f,rfl,C,p,j⟩
  |exit i=>
   simp only at j;simp only[ZbB,Exit.inBlock]
   cases Z:Vg i id with
   |true=>
    rw[Z]at j;rw[Zv (Vd Z)]
    exact⟨.normal,s',G,f,rfl,C,p,j⟩
   |false=>
    rw[Z]at j;rw[Zg fun e=>by simp_all]
    exact⟨.exit i,s',G,f,rfl,C,p,j⟩
  |ret=>exact⟨.ret,s',G,f,rfl,C,p,j⟩
  |jump l=>exact⟨.jump l,s',G,f,rfl,C,p,j⟩
 |.loop c,d,E,ρ,s,k,r,M,L,h,w,g,ow,a,b=>by
  cases d with
  |all n=>
   simp only[Kp]at h;refine Zcm (fun m R S=>∃s' G f,ZdJ (fun s k=>Kp c (.all n) E ρ s k) k m s' =Ua r/\SR E B s' S G f R/\Ln E s w g a s' S G R) (n:=n) ⟨s,g,ow,h,b,.refl s w g a⟩ ?_;rintro m R S ⟨s',G,f,A,V,a6⟩
   cases m with
   |zero=>simp [ZdJ]at A
   |succ m=>
    simp only[ZdJ]at A;refine wp_mono (Wz U c (.all n) E ρ s' _ r M L A V) ?_;rintro e a2 w2 ⟨ex,s2,g2,O,rfl,C,p,j⟩
    cases ex with
    |normal=>exact⟨m,Vu m,s2,g2,O,j,C,a6.trans p⟩
    |exit i=>exact⟨.exit i,s2,g2,O,rfl,C,a6.trans p,j⟩
    |ret=>exact⟨.ret,s2,g2,O,rfl,C,a6.trans p,j⟩
    |jump l=>exact⟨.jump l,s2,g2,O,rfl,C,a6.trans p,j⟩
  |lp en J Z=>
   simp only[Kp]at h
   cases Q:(Gi s en.kept&&Gg en J&&Gm en.slots) with
   |false=>grind
   |true=>
    rw[Q]at h;simp only[Ze,Vb]at h;simp only[Va]at Q;obtain⟨x,hx,o,a1,hu⟩:=h;obtain⟨n,N⟩:=Ziv a1;have D:∀id∈Z7 s en,id∈Z7 s en:=fun _ h=>h;have Y:=Ze3 Q.1.1 b.fz;have start:=Zb4 (E:=Wo E en) (E' :=Wo E en) (s' :=s) (fz0:=Z7 s en) (fzN:=Z7 s en) ⟨b.rh,b.fr,b.nt,b.df,b.ids,b.fz⟩ ⟨b.rh,b.fr,b.nt,b.df,b.ids,b.fz⟩ rfl (.refl w g a) (fun n N=>Ve _ N) (fun n N=>Vf _ (Ve _ N)) (by simp) Y D D hx;obtain⟨g1,b0,s1,a9,_,c5⟩:=start
    refine Zcm (fun n R S=>∃y G f,Jn (fun y=>Kp c Z (Wo E en) (Ja en.roots ⊕ Yj J) (Xi s (Z7 s en) en y) fun e s' =>match e with
     |.normal=>(XR s (Z7 s en) en s').bind fun z=>Ua (.inl z)
     |e=>(Yz s (Z7 s en) J e s').bind fun z=>Ua (.inr z)) n y=Ua o/\SR (Wo E en) B (Xi s (Z7 s en) en y) S G f R/\Lk (Wo E en) w g a S G R) (n:=n) ⟨x,g1,b0,N,s1,⟨a9,by omega,by simp⟩⟩ ?_
    rintro n R S ⟨y,G,f,A,V,a5⟩;have a4:∀id∈Z7 s en,(Xi s (Z7 s en) en y).H id=s.H id:=fun id K=>ZeX K
    cases n with
    |zero=>simp [Jn]at A
    |succ n=>
     simp only[Jn]at A;split at A
     ·rename_i y' a8;refine wp_mono (Wz U c Z (Wo E en) _ _ _ _ (M.kept en) (L.kept en) a8 V) ?_;rintro e a2 w2 ⟨ex,s2,g2,O,rfl,C,p,j⟩
      cases ex with
      |normal=>
       simp only[Vb,ZB,Vab]at j;obtain⟨z,W,rfl⟩:=j;have a0:=a5.trans p.lk;obtain⟨g3,b3,s3,c6,b4,_⟩:=Zb4 (E:=Wo E en) (E' :=Wo E en) (s:=s) (fz0:=Z7 s en) (fzN:=Z7 s en) ⟨b.rh,b.fr,b.nt,b.df,b.ids,b.fz⟩ C rfl a0 (fun n N=>Ve _ N) (fun n N=>Vf _ (Ve _ N)) (fun id K=>(p.hz id K).trans (a4 id K)) Y D D W
       exact⟨n,Vu n,z,g3,b3,A,s3,⟨c6,b4,a0.ks⟩⟩
      |exit i=>simp only[Vb,ZB,reduceCtorEq,ZP,exists_false]at j
      |ret=>simp only[Vb,ZB,reduceCtorEq,ZP,exists_false]at j
      |jump i=>simp only[Vb,ZB,reduceCtorEq,ZP,exists_false]at j
     ·rename_i o' a8;simp only[ZB]at A;subst A;refine wp_mono (Wz U c Z (Wo E en) _ _ _ _ (M.kept en) (L.kept en) a8 V) ?_;rintro e a2 w2 ⟨ex,s2,g2,O,rfl,C,p,j⟩
      have fin:∀x:Ex,x≠ .normal->Yz s (Z7 s en) J x s2=Ua o' ->Wv E B s w g a k r (ZbB x) a2 w2:=fun x _ ho=>
       Wv.out b Q.1.1 Q.1.2 (a5.trans p.lk) C (fun id K=>(p.hz id K).trans (a4 id K)) ho hu
      cases ex with
      |normal=>simp only[Vb,ZB,reduceCtorEq,ZP,exists_false]at j
      |exit i=>
       simp only[Vb,ZB,Vfa]at j;obtain⟨z,W,rfl⟩:=j
       exact fin (.exit i) (by simp) W
      |ret=>
       simp only[Vb,ZB,Vfa]at j;obtain⟨z,W,rfl⟩:=j
       exact fin .ret (by simp) W
      |jump i=>
       simp only[Vb,ZB,Vfa]at j;obtain⟨z,W,rfl⟩:=j;exact fin (.jump i) (by simp) W
     grind
  |lpd it en J Z=>
   cases c with
   |seq c1 c2=>
    cases c1 with
    |region id ops draw=>
     cases draw with
     |true=>simp [Kp]at h
     |false=>
      simp only[Kp]at h
      cases Q:(Gi s en.kept&&Gg en J&&Gm en.slots) with
      |false=>grind
      |true=>
       rw[Q]at h;simp only[Ze,Vb]at h;simp only[Va]at Q;obtain⟨x,hx,a1⟩:=h;obtain⟨n,N⟩:=ZkG a1;have D:∀id∈Z7 s en,id∈Z7 s en:=fun _ h=>h;have Y:=Ze3 Q.1.1 b.fz;have start:=Zb4 (E:=Wo E en) (E' :=Wo E en) (s' :=s) (fz0:=Z7 s en) (fzN:=Z7 s en) ⟨b.rh,b.fr,b.nt,b.df,b.ids,b.fz⟩ ⟨b.rh,b.fr,b.nt,b.df,b.ids,b.fz⟩ rfl (.refl w g a) (fun n N=>Ve _ N) (fun n N=>Vf _ (Ve _ N)) (by simp) Y D D hx;obtain⟨g1,b0,s1,a9,_,c5⟩:=start
       refine Zcm (fun n R S=>∃y G f,Hv (fun y=>D6 it (Xi s (Z7 s en) en y)) (fun y i=>ZaO (Wo E en) ops it i (Ja en.roots ⊕ Yj J) (Xi s (Z7 s en) en y) fun s1=>Kp c2 Z (Wo E en) (Ja en.roots ⊕ Yj J) s1 fun e s' =>match e with
        |.normal=>(XR s (Z7 s en) en s').bind fun z=>Ua (.inl z)
        |e=>(Yz s (Z7 s en) J e s').bind fun z=>Ua (.inr z)) (fun o=>Du s J o k) r n y/\SR (Wo E en) B (Xi s (Z7 s en) en y) S G f R/\Lk (Wo E en) w g a S G R) (n:=n) ⟨x,g1,b0,N,s1,⟨a9,by omega,by simp⟩⟩ ?_
       rintro n R S ⟨y,G,f,A,V,a5⟩;have a4:∀id∈Z7 s en,(Xi s (Z7 s en) en y).H id=s.H id:=fun id K=>ZeX K
       cases n with
       |zero=>exact A.elim
       |succ n=>
        simp only[Hv]at A
        have b9:=ZtZ (id:=id) (it:=it) (ops:=ops) (ρ:=Ja en.roots ⊕ Yj J) (k:=fun s1=>Kp c2 Z (Wo E en) (Ja en.roots ⊕ Yj J) s1 fun e s' =>match e with
         |.normal=>(XR s (Z7 s en) en s').bind fun z=>Ua (.inl z)
         |e=>(Yz s (Z7 s en) J e s').bind fun z=>Ua (.inr z)) (M.kept en) (L.kept en) V (by grind)
        refine wp_seq (wp_mono b9 ?_);rintro e a2 w2 ⟨i,s2,g2,O,q,hi,rfl,c4,a0,hq,b7⟩
        simp only[Exit.then]
        refine wp_mono (Wz U c2 Z (Wo E en) _ _ _ _ (M.kept en) (L.kept en) b7 c4) ?_;rintro e a3 w3 ⟨ex,s3,g3,b3,rfl,C,p,j⟩;have a7:=a5.trans (a0.lk.trans p.lk);have b2:∀id∈Z7 s en,s3.H id=s.H id:=fun id K=>((a0.trans p).hz id K).trans (a4 id K)
        have fin:∀x:Ex,x≠ .normal->(Yz s (Z7 s en) J x s3).bind (fun z=>Ua (.inr z))=Ua q->Wv E B s w g a k r (ZbB x) a3 w3:=fun x _ ho=>by
         rw[Vb]at ho;obtain⟨z,ho,b1⟩:=ho;simp only[ZB]at b1;subst b1;rcases A i hi with ⟨y',X,_⟩|⟨t,X,h5⟩
         ·grind
         ·rw[hq]at X;simp only[ZB,Vfa]at X;subst X;exact Wv.out b Q.1.1 Q.1.2 a7 C b2 ho h5
        cases ex with
        |normal=>
         simp only[Vb,ZB]at j;obtain⟨z,W,rfl⟩:=j;obtain⟨g4,c7,s4,le4,b5,_⟩:=Zb4 (E:=Wo E en) (E' :=Wo E en) (s:=s) (fz0:=Z7 s en) (fzN:=Z7 s en) ⟨b.rh,b.fr,b.nt,b.df,b.ids,b.fz⟩ C rfl a7 (fun n N=>Ve _ N) (fun n N=>Vf _ (Ve _ N)) b2 Y D D W;rcases A i hi with ⟨y',X,h5⟩|⟨t,X,_⟩
         ·rw[hq]at X;simp only[ZB,Vab]at X;subst X;exact⟨n,Vu n,z,g4,c7,h5,s4,⟨le4,b5,a7.ks⟩⟩
         grind
        |exit i=>exact fin (.exit i) (by simp) j
        |ret=>exact fin .ret (by simp) j
        |jump i=>exact fin (.jump i) (by simp) j
    |_=>simp [Kp]at h
   |_=>simp [Kp]at h
  |_=>simp [Kp]at h
 |.exit id,_,E,ρ,s,k,r,_,_,h,w,g,ow,a,b=>by
  simp only[Kp]at h
  exact wp_exit ⟨.exit id,s,g,ow,rfl,b,.refl s w g a,h⟩
 |.ret,_,E,ρ,s,k,r,_,_,h,w,g,ow,a,b=>by
  simp only[Kp]at h
  exact wp_ret ⟨.ret,s,g,ow,rfl,b,.refl s w g a,h⟩
 |.label _,_,E,ρ,s,k,r,_,_,h,w,g,ow,a,b=>by
  simp only[Kp]at h
  exact wp_label ⟨.normal,s,g,ow,rfl,b,.refl s w g a,h⟩
 |.goto l,_,E,ρ,s,k,r,_,_,h,w,g,ow,a,b=>by
  simp only[Kp]at h
  exact wp_goto ⟨.jump l,s,g,ow,rfl,b,.refl s w g a,h⟩
 |.refuse _,_,_,_,_,_,_,_,_,h,_,_,_,_,_=>by simp [Kp]at h
 |.scope c,d,E,ρ,s,k,r,M,L,h,w,g,ow,a,b=>by
  simp only[Kp]at h;refine wp_scope_straight (wp_mono (Wz U c d E ρ s _ r M L h b) ?_);rintro e R S ⟨ex,s',G,f,rfl,C,p,j⟩
  cases ex with
  |jump l=>grind
  |normal=>exact⟨.normal,s',G,f,rfl,C,p,j⟩
  |exit i=>exact⟨.exit i,s',G,f,rfl,C,p,j⟩
  |ret=>exact⟨.ret,s',G,f,rfl,C,p,j⟩
 |.rangeFunc ..,_,_,_,_,_,_,_,_,h,_,_,_,_,_=>by simp [Kp]at h
end
end Tr
end
section
namespace Tr
open Go
def VLs(w:World)(g:Gh):Zo->List Value->Prop
 |.nil,vs=>vs=[]
 |.cons a l,vs=>∃v r,vs=v::r/\VR w g a v/\VLs w g l r
section
variable {P:Program}{E:Ka}{B:Z1}{H:AH}{w:World}{g:Gh}{ow:Nat->Nat->Prop}{I:Nat->Prop}
theorem Zhn(j:RH B H w g ow)(t:∀b,g.I b->I b):∀(pl:Pats) (v:Zo) (c:List Value) (x:Ks pl) (ids:ZF) (l q:List Nat),(WE pl v).run H l=Ua ((x,ids),q)->VLs w g v c->(∀b,ZL H ow ids.br b->I b)->
 ids.tk.Nodup->∃js,Js w I pl x js c/\js.Nodup/\ ∀b∈js,ZL H ow ids.tk b
 |.nil,.nil,c,x,ids,l,q,h,m,i,_=>by
  simp only[WE,Zf,Vc]at h;obtain⟨⟨_,rfl⟩,_⟩:=h
  exact⟨[],⟨rfl,m⟩,.nil,by simp⟩
 |.cons p pl,.cons v vs,c,x,ids,l,q,h,m,i,R=>by
  simp only[WE,Z0,Zf,Vc]at h;obtain⟨⟨x1,S⟩,Y,C,⟨W,y⟩,Z,J,⟨rfl,rfl⟩,_⟩:=h;obtain⟨u,r,rfl,K,L⟩:=m;have n:(S.tk++y.tk).Nodup:=R;obtain⟨U,V,n3⟩:=Vi.1 n;obtain⟨z,M,N,s⟩:=Zho j t C K (fun b d=>i b (Ws (fun _ h=>by simp [ZF.app,h]) d)) U;obtain⟨A,O,Q,f⟩:=Zhn j t pl vs r W y _ _ J L (fun b d=>i b (Ws (fun _ h=>by simp [ZF.app,h]) d)) V;refine⟨z++A,⟨z,A,u,r,rfl,rfl,M,O⟩,Vi.2 ⟨N,Q,fun b d X k e=>?_⟩,fun b d=>?_⟩
  ·subst e;obtain⟨id,D,G⟩:=Hn j (s b d) (f b k)
   grind
  ·rcases Vh.1 d with d|d
   ·exact Ws (fun _ h=>by simp [ZF.app,h]) (s b d)
   ·exact Ws (fun _ h=>by simp [ZF.app,h]) (f b d)
 |.nil,.cons _ _,_,_,_,_,_,h,_,_,_=>by simp [WE,Zb]at h
 |.cons _ _,.nil,_,_,_,_,_,h,_,_,_=>by simp [WE,Zb]at h
def Zdu(tmps:Array Value):ResultVar->Sem Value
 |.tmp t=>pure (tmps.getD t undef)
 |.cell c t=>do loadVar t (<-asAddr (tmps.getD c undef))
theorem Zdt(L:Z3 P E){s:AS}{a:Act}(K:RH B s.H w g ow)(hF:Fr w g s.F a.tmps):∀(l:List ResultVar) (vs:Zo) (k n:List Nat),(ZaU E s l).run s.H k=Ua (vs,n)->
 ∃d,(l.mapM (Zdu a.tmps)).run P w=.ok d w/\VLs w g vs d
 |[],vs,k,n,h=>by
  simp only[ZaU,Zf]at h;obtain⟨rfl,_⟩:=h
  exact⟨[],rfl,rfl⟩
 |.tmp t::l,vs,k,n,h=>by
  simp only[ZaU,Z0,Zf]at h;obtain⟨ws,m,q,rfl,_⟩:=h;obtain⟨d,j,J⟩:=Zdt L K hF l ws k m q;refine⟨a.tmps.getD t undef::d,?_,_,_,rfl,hF t,J⟩;rw[Vva]
  simp only[Zdu,Vo,Vp,Vk,j]
 |.cell c T::l,vs,k,n,h=>by
  simp only[ZaU,Zy]at h;obtain⟨t,ht,h⟩:=h;split at h
  ·rename_i id p hc;rw[ZX]at h;split at h
   ·rename_i t0 ct hH;simp only[Z0,ZJ,Zf,Zb,ZP,Z6,Va]at h;obtain⟨v,m,q,⟨j,G⟩,ws,m2,J,rfl,_⟩:=h;obtain⟨d,W,X⟩:=Zdt L K hF l ws m m2 J;have R:=hF c;rw[hc]at R;obtain⟨hk,o',t1,b,O,Y,Z⟩:=R.ptr;obtain⟨_,M,hf,b',cs,e,Q,S,r,U,x⟩:=K.objs id _ hH;obtain⟨_,t2,N,⟨o2,pre,post,y,z,A⟩,V,i⟩:=ZeV q hf x;rw[M,y]at O;obtain⟨rfl,rfl⟩:=Prod.mk.inj (Ky O);rw[Y]at Q;cases Q;obtain⟨C,D⟩:=Zcv i j (ZeQ j G);have f:Y6 w b o2 N:=by rw[<-A];exact Y6.of_heap r z
    refine⟨_::d,?_,_,_,rfl,.of1 C,X⟩;rw[Vva];simp only[Zdu,Vo,Vp,Vk,Z,asAddr,Zit (L.ty T t ht) f (CV.length v t N j i) D,W]
   ·simp [Zb]at h
  ·simp [Zb]at h
theorem Ziu{fn:Func}{tmps:Array Value}{b:List Value}(h:(fn.results.toList.mapM (Zdu tmps)).run P w=.ok b w):
 (results fn tmps).run P w=.ok (Rg b) w:=by
 have c:results fn tmps=(do let vs<-fn.results.mapM (Zdu tmps);pure (if h:vs.size=1 then vs[0] else .tuple vs)):=by rfl
 rw[c,Array.mapM_eq_mapM_toList];simp only[Vo,map_eq_pure_bind,Vp,h,Vk];congr 1
 cases b with
 |nil=>rfl
 |cons v l=>cases l with
  |nil=>rfl
  |cons u l=>rfl
theorem ZfK{b:List Value} :∀{l:Zo},WK w g l b->∀(n:Nat) t,VR w g (l.toF t) ((b++Vwa n undef).getD t undef)
 |.nil,h,n,t=>by
  simp only[WK]at h;subst h
  have:([]++Vwa n undef).getD t undef=undef:=by
   grind
  rw[this]
  exact⟨[],rfl,rfl⟩
 |.cons a l,h,n,t=>by
  obtain⟨v,r,rfl,c,d⟩:=h
  cases t with
  |zero=>exact .of1 c
  |succ t=>simpa [Zo.toF] using ZfK d n t
theorem Zgg:∀{pl:Pats}{x:Ks pl}{js:List Nat}{b:List Value},Js w I pl x js b->b.length=pl.len
 |.nil,_,_,_,h=>by obtain⟨_,rfl⟩:=h;rfl
 |.cons _ _,_,_,_,h=>by obtain⟨_,_,v,r,_,rfl,_,c⟩:=h;simp [Pats.len,Zgg c]
theorem ZhR{B0:Z1}{X:AH}{s:AS}{ks:List Nat}{w0 w:World}{g0 g:Gh}{W ow:Nat->Nat->Prop}{B:Z1}(p:RH B0 X w0 g0 W)(hR:RH B s.H w g ow){Y:Zo}{d:List Value}(hv:WK w0 g0 Y d)(A:g0.Le g)(hF:∀n∈ks,∀v,d[n]? =Ua v->VR w g (s.F n) v):∀(kp:List (Nat×Nat×Nat)),GK ks Y X s kp=Uc->DD kp d w0 w
 |[],_=>fun k hk=>by grind
 |k::kp,h=>by
  simp only[GK,Va]at h;obtain⟨m,h2⟩:=h;intro i R;rcases Vj.1 R with rfl|R
  ·intro b q cs e O;split at m
   case h_2=>grind
   rename_i id V hs S;split at m
   case h_2=>grind
   rename_i T c T' c' K hH;split at m
   case h_2=>grind
   rename_i a a' ho hn;simp only[Va,Kj]at m;obtain⟨⟨⟨h3,rfl⟩,J⟩,h5⟩:=m;obtain rfl:=Vd h3;have J:=Vd J;obtain⟨a1,_,y,b1,a0,e1,M,_,f,_,j⟩:=p.objs id _ K;obtain⟨_,_,z,b2,G,e2,N,_,Q,_,l⟩:=hR.objs V _ hH;obtain⟨u,C,U⟩:=Zgl _ _ _ _ hv hs;obtain⟨_,b3,r,rfl⟩:=ZmH U;rw[C]at q;have q:=Ky q;simp only[Vbb.injEq,ZB,Addr.mk.injEq,and_true]at q;subst q;rw[M]at r;obtain rfl:=Ky r;have D:=hF _ (Jo.1 h5) _ C;rw[S]at D;obtain⟨_,o2,t2,b4,h6,Z,h8⟩:=D.ptr;simp only[Vbb.injEq,ZB,Addr.mk.injEq]at h8;rw[N]at Z;obtain rfl:=Ky Z;obtain rfl:=h8.1;rw[O]at f;have f:=Ky f;cases f;simp only[AV.fits]at y z;simp only[CV]at j l
   obtain⟨L,x⟩:=ZbV c _ _ _ _ y j ho;obtain⟨_,t⟩:=ZbV c' _ _ _ _ z l hn;rw[Vm,J]at x t;exact⟨G,e2,Q,by rw[x,t,A.slv _ L]⟩
  ·exact ZhR p hR hv A hF kp h2 i R
theorem Zr8(hm:P.follows .mixedOrders=Uc)(Q:Z3 P E)(hS:∀f,∀S∈E.specs f,ZS P f S)(hI:∀B:Z1,(B.pl=Ud->HX P B.w0 B.own0)->(B.pl=Uc->∀f,∀T∈E.specs f,T.pl=Uc)->∀f h,E.inl f=Ua h->ZdW P B E.stp f h){f:FuncId}{fn:Func}{body:Code}(hf:P.funcs[f]? =Ua fn)(l:fn.body=Ua body)(c6:E.nt=fn.ntmps)
 {S:Spec} (b7:S.args.wf=Uc) (X:Vza S.args.len E.nt=Uc) {hint:K3}{pack:We S.args×Ks S.res->S.α} (b3:∀y,S.unp (pack y)=y) (a1:S.pl=Uc->∀f,∀T∈E.specs f,T.pl=Uc)
 (q:∀x z,S.f x=Ua z->XO E body fn.results hint S.args S.res pack x S.kp=Ua z):Zba P f S:=by
 intro w I c js x z O a8 c4 a5 amb hz;have c9:=Zgg O;have c5:=Vy X;refine calls_of_wp hf l ?_;have q:=q x z hz;unfold XO at q
 let B:Z1:= {w0:=w,own0:=(· ∈js),I0:=I,pl:=S.pl}
 let g0:Gh:= {I:=I,K:=fun _=>False,ty:=fun _=>.unit,blk:=fun _=>Ub,slv:=fun _=>undef,ver:=fun _=>0,row:=fun _ _ _=>undef}
 have a6:RH B (fun _=>Ub) w g0 (fun _ _=>False):= {
  objs:=by simp
  dist:=by simp
  sep:=by simp
  ilt:=a5
  inew:=by grind
  os:=rfl
  tape:=rfl
  output:=.rfl
  size:=Nat.le_refl _
  kept:=(by grind)}
 have L:WW B (fun _=>Ub) w g0 (fun _ _=>False) js:=⟨a8,by grind⟩;obtain⟨g1,b8,l1,i1,r1,c1,k1,_⟩:=ZeZ S.args a6 x js c 0 O L (by grind)
 have c2:WH (Kc S.args x 0).2.1=Zp (fun _=>Ub) (Wd (Kc S.args x 0).2.1):=by
  funext id;rw[Zdf _ _ _ (Zda _ _ _)]
  grind
 have hs:SR {E with ks:=XK S.args 0} B ⟨(Kc S.args x 0).1.toF,WH (Kc S.args x 0).2.1,(Kc S.args x 0).2.2,[]⟩ w g1 b8 {tmps:=c.toArray++Vja (fn.ntmps - c.toArray.size) undef,defers:=[] } := {
  rh:=by grind
  fr:=fun t=>by have:=ZfK c1 (fn.ntmps - c.length) t;simpa [Vn,List.getD_eq_getElem?_getD, <-Vm] using this
  nt:=by
   grind
  df:=rfl
  ids:=by grind
  fz:=(by simp)}
 refine wp_mono (Wz hm body hint {E with ks:=XK S.args 0} S.α _ _ z ⟨Q.ty,Q.mty,Q.pk,Q.pz,Q.bd⟩ ⟨hS,amb,a1,hI B amb a1⟩ q hs) ?_;rintro e a' w' ⟨ex,G,g',m,rfl,d,r,M⟩;rw[Vb]at M;obtain⟨y,hy,a4⟩:=M
 cases W:GK (XK S.args 0) (Kc S.args x 0).1 (WH (Kc S.args x 0).2.1) G S.kp with
 |false=>grind
 |true=>
 rw[W]at a4;simp only[Ze,ZB]at a4
 have a9:DD S.kp c w w' :=ZhR hs.rh d.rh c1 r.lk.le (fun k M v hv=>by
  have J:=d.fr k;rw[r.lk.ks k M]at J
  have A:(c.toArray++Vja (fn.ntmps - c.toArray.size) undef).getD k undef=v:=by
   obtain⟨b0,_⟩:=List.getElem?_eq_some_iff.1 hv;simp only[Vn, <-Vm]
   grind
  grind) S.kp W
 have key:∀(j:Yq E fn.results S.args S.res [] .normal G=Ua y),a'.defers=[]/\ ∃v,(results fn a'.tmps).run P w' =.ok v w' /\ ∃rv,Ending.returned v=.returned rv/\Dx S w I js c (S.unp z) rv w' /\DD S.kp c w w' :=by
  intro j;refine⟨d.df,?_⟩;simp only[Yq,Zu.runK_eq]at j;rw[Vb]at j;obtain⟨⟨⟨yv,ids⟩,rd⟩,D,j⟩:=j;simp only[Z0,Zf,Vc]at D;obtain⟨vs,m1,a3,⟨xr,p⟩,m2,V,⟨yo,io⟩,m3,a0,⟨rfl,rfl⟩,_⟩:=D;simp only at j
  cases hc:((ZF.app io p).ok [] &&J1 (ZF.app io p).br []) with
  |false=>grind
  |true=>
   rw[hc]at j;simp only[Ze,ZB]at j;subst j;simp only[Va]at hc;obtain⟨b1,b9,_⟩:=ZF.ok_iff hc.1;have Y:(io.tk++p.tk).Nodup:=b1;obtain⟨n1,n2,n3⟩:=Vi.1 Y;obtain⟨s,b4,b5⟩:=Zdt Q d.rh d.fr fn.results.toList vs [] m1 a3;have R:∀b,g'.I b->g'.I b\/ZL G.H m (ZF.app io p).br b:=by grind
   have U:∀(i:ZF),(∀n∈i.br,n∈(ZF.app io p).br)->∀b,ZL G.H m i.br b->g'.I b\/ZL G.H m (ZF.app io p).br b:=fun i hi b l=>.inr (Ws hi l);obtain⟨jr,c8,b6,a2⟩:=Zhn d.rh R S.res vs s xr p m1 m2 V b5 (U p fun n N=>by simp [ZF.app,N]) n2
   obtain⟨jo,c7,b2,Z⟩:=Zfk (F:=G.F) d.rh R (w0:=w) (I0:=I) S.args 0 c x js yo io m2 m3 a0 b7 O (fun k v M hv=>by
    rw[Nat.add_zero]at M⊢;have J:=d.fr k;rw[r.lk.ks k M]at J
    have b0:k<c.length:=by
     grind
    have A:(c.toArray++Vja (fn.ntmps - c.toArray.size) undef).getD k undef=v:=by
     simp only[Vn, <-Vm]
     grind
    grind) (U io fun n N=>by simp [ZF.app,N]) n1
   refine⟨Rg s,Ziu b4,Rg s,rfl,⟨(fun b=>g'.I b\/ZL G.H m (ZF.app io p).br b),jo,jr,?_,⟨s,?_,rfl⟩,?_,?_,?_,?_,d.rh.os,d.rh.tape,d.rh.output,d.rh.size,fun b J A=>d.rh.kept b J A⟩,a9⟩
   ·grind
   ·grind
   ·refine Vi.2 ⟨b2,b6,fun b l b' a7 e=>?_⟩;subst e;obtain⟨id,J,A⟩:=Hn d.rh (Z b l) (a2 b a7)
    grind
   ·intro b l
    have C:ZL G.H m (ZF.app io p).tk b:=by
     rcases Vh.1 l with h|h
     ·exact Ws (fun n N=>by simp [ZF.app,N]) (Z b h)
     ·exact Ws (fun n N=>by simp [ZF.app,N]) (a2 b h)
    obtain⟨id,J,A,h3⟩:=id C;obtain⟨h4,h5,h6⟩:=d.rh.sep id b A h3;refine⟨fun h=>?_,h5,h6⟩;rcases h with h|h
    ·grind
    ·obtain⟨k,h7,h8⟩:=Hn d.rh h C
     grind
   ·intro b l;refine .inl (r.lk.le.I b ?_);rw[i1.I];omega
   ·intro b l;rcases l with l|⟨id,_,A,h3⟩
    ·refine⟨d.rh.ilt b l,?_⟩;rcases d.rh.inew b l with h|h|h
     all_goals grind
    ·obtain⟨_,h5,h6⟩:=d.rh.sep id b A h3
     grind
 cases ex with
 |normal=>exact key hy
 |exit id=>simp [Yq]at hy
 |jump id=>simp [Yq]at hy
 |ret=>exact key (by assumption)
theorem Zr7 (J:P.follows .mixedOrders=true) (D:Z3 P E) (C:∀f,∀S∈E.specs f,ZS P f S) (A:∀B:Z1,(B.pl=false→HX P B.w0 B.own0)→(B.pl=true→∀f,∀T∈E.specs f,T.pl=true)→∀f h,E.inl f=some h→ZdW P B E.stp f h) {f:FuncId} {fn:Func} {body:Code} (m:P.funcs[f]? =some fn) (G:fn.body=some body) (k:E.nt=fn.ntmps) (b:(fn.name== "runtime.NumGoroutine")=false)
 {S:Spec} (e:S.args.wf=Uc) (d:Vza S.args.len E.nt=Uc) {hint:K3}{pack:We S.args×Ks S.res->S.α} (c:∀y,S.unp (pack y)=y) (l:S.pl=Uc->∀f,∀T∈E.specs f,T.pl=Uc)
 (j:∀x z,S.f x=Ua z->XO E body fn.results hint S.args S.res pack x S.kp=Ua z):ZS P f S:=
 have key:=Zr8 J D C A m G k e d c l j
 {wf:=e
  fn:=⟨fn,m,by grind,b⟩
  run:=fun w I i K x z n p q r s t=>(key w I i K x z n p q r s t).mono (by grind)
  kept:=.inr key}
end
end Tr
end
section
namespace Tr
universe u
open Go
def HT(P:Program)(b:List (Nat×Ty))(ms:List (Nat×Ty×Ty))(pks:List (Nat×Nat))(bds:List (Nat×Nat):=[]):Bool:=
 (bds.all fun p=>match P.info? p.1 with
   |some i=>(match i.zero with
    |some z=>(match z.cells.toList with
     |[.pointer Ub,.slice Ub 0 0]=>Uc
     |_=>Ud)
    |none=>Ud)
   |none=>Ud) &&
 (b.all fun p=>ZiK P (fun n=>b.lookup n) p.1 p.2) &&
 (ms.all fun p=>match P.underlying p.1 with
   |some (.map K V)=>b.lookup K==Ua p.2.1&&b.lookup V==Ua p.2.2
   |_=>Ud) &&
 (pks.all fun p=>match P.underlying p.1 with
   |some (.pointer _)=>Vg p.2 1
   |some (.func ..)=>Vg p.2 2
   |some (.map _ _)=>Vg p.2 3
   |_=>Ud)
theorem RU{α:Type u}{k:Nat}{x:α} :∀{l:List (Nat×α)},l.lookup k=Ua x->(k,x)∈l
 |[],h=>by simp at h
 |(i,y)::l,h=>by
  rw[List.lookup_cons]at h
  cases b:k==i with
  |true=>rw[b]at h;simp only[ZB]at h;have:=beq_iff_eq.1 b;subst this;subst h;simp
  |false=>rw[b]at h;exact Vaa _ (RU h)
theorem typesOk_of{P:Program}{d:List (Nat×Ty)}{ms:List (Nat×Ty×Ty)}{pks bds:List (Nat×Nat)}(h:HT P d ms pks bds=Uc){E:Ka}(l:E.ty=fun n=>d.lookup n)(p:E.mty=fun n=>ms.lookup n)(q:E.pk=fun n=>(pks.lookup n).getD 0)(r:E.bd=fun n=>bds.lookup n)(s:∀T,E.pz T=Uc->∃e,P.underlying T=Ua (.pointer e)/\ ∀w:World,∃n,(Go.sizeOf e).run P w=.ok n w/\n≠0):Z3 P E:=by
 simp only[HT,Va,Vt]at h;obtain⟨⟨⟨f,L⟩,G⟩,J⟩:=h;refine⟨fun T t b=>?_,fun T m b=>?_,fun T=>?_,s,fun T e b=>?_⟩
 rotate_left 3
 ·rw[r]at b;have:=f (T,e) (RU b);simp only at this;split at this
  ·rename_i i C;split at this
   ·rename_i z M;split at this
    ·rename_i A;refine⟨z,fun w=>?_,?_⟩
     ·simp only[zeroValue,typeInfo,Vo,run_program,Vk,C,Vp,M]
     ·rw[<-Vga];exact A
    ·cases this
   ·cases this
  ·cases this
 ·rw[l]at b⊢;exact Zwp (L (T,t) (RU b))
 ·rw[p]at b;rw[l];have:=G (T,m) (RU b);simp only at this;split at this
  ·rename_i K V c;simp only[Va,Kj]at this;exact⟨K,V,c,this.1,this.2⟩
  ·cases this
 ·have j:E.pk T=(pks.lookup T).getD 0:=by rw[q]
  rw[j]
  cases D:pks.lookup T with
  |none=>exact⟨fun h=>(by simp at h),fun h=>(by simp at h),fun h=>(by simp at h)⟩
  |some k=>
   have:=J (T,k) (RU D);simp only at this;simp only[Option.getD_some];split at this
   ·rename_i e c;have:=Vd this;subst this;exact⟨fun _=>⟨e,c⟩,fun h=>(by simp at h),fun h=>(by simp at h)⟩
   ·rename_i x y z c;have:=Vd this;subst this;exact⟨fun h=>(by simp at h),fun _=>⟨x,y,z,c⟩,fun h=>(by simp at h)⟩
   ·rename_i x y c;have:=Vd this;subst this;exact⟨fun h=>(by simp at h),fun h=>(by simp at h),fun _=>⟨x,y,c⟩⟩
   ·cases this
def R6(P:Program)(f:FuncId):List Spec->Prop
 |[]=>True
 |S::l=>ZS P f S/\R6 P f l
def R5(P:Program):List (Nat×List Spec)->Prop
 |[]=>True
 |p::m=>R6 P p.1 p.2/\R5 P m
theorem R6.mem{P:Program}{f:FuncId} :∀{l:List Spec},R6 P f l->∀S∈l,ZS P f S
 |[],_,S,h=>by simp at h
 |T::l,h,S,b=>by
  rcases Vj.1 b with rfl|b
  ·exact h.1
  ·exact R6.mem h.2 S b
theorem R5.mem{P:Program} :∀{m:List (Nat×List Spec)},R5 P m->∀p∈m,R6 P p.1 p.2
 |[],_,p,h=>by simp at h
 |q::m,h,p,b=>by
  rcases Vj.1 b with rfl|b
  ·exact h.1
  ·exact R5.mem h.2 p b
theorem Zix{P:Program}{m:List (Nat×List Spec)}(h:R5 P m){E:Ka}(d:E.specs=fun n=>(m.lookup n).getD []):∀f,∀S∈E.specs f,ZS P f S:=by
 refine fun f S b=>?_;have e:E.specs f=(m.lookup f).getD []:=by rw[d]
 rw[e]at b
 cases c:m.lookup f with
 |none=>rw[c]at b;simp at b
 |some l=>rw[c]at b;exact(h.mem (f,l) (RU c)).mem S b
theorem WZ{P:Program}{b:List (Nat×Ty)}{ms:List (Nat×Ty×Ty)}{pks bds:List (Nat×Nat)}{rws zxs:List Nat}{m:List (Nat×List Spec)}{nt:Nat}{f:FuncId}{fn:Func}{S:Spec}{hint:K3}{pack:We S.args×Ks S.res->S.α}
 (D:P.follows .mixedOrders=Uc) (G:HT P b ms pks bds=Uc) (t:R5 P m)
 (n:∀x z,S.f x=Ua z->XO (mkE b ms pks rws zxs m nt bds) (KX fn) fn.results hint S.args S.res pack x S.kp=Ua z)
 (C:P.funcs[f]? =some fn:=by kernel_rfl) (A:fn.body=some (KX fn):=by kernel_rfl) (r:nt=fn.ntmps:=by kernel_rfl) (c:(fn.name== "runtime.NumGoroutine")=false:=by kernel_rfl)
 (s:S.args.wf=true:=by kernel_rfl) (k:Vza S.args.len nt=true:=by kernel_rfl) (d:∀y,S.unp (pack y)=y:=by intro y;rfl) (i:(!S.pl||m.all fun p=>p.2.all (·.pl))=true:=by kernel_rfl):ZS P f S:=
 Zr7 (E:=mkE b ms pks rws zxs m nt bds) D (typesOk_of G rfl rfl rfl rfl fun _ h=>absurd (show Ud=Uc from h) (by decide)) (Zix t rfl) (fun _ _ _ _ h e=>absurd (show Ub=Ua h from e) (by simp)) C A r c s k d (fun h g T j=>by
  rw[h]at i;simp only[Vxa,Vya,Vt]at i;have e:(mkE b ms pks rws zxs m nt bds).specs g=(m.lookup g).getD []:=rfl;rw[e]at j
  cases q:m.lookup g with
  |none=>rw[q]at j;simp at j
  |some l=>rw[q]at j;exact i (g,l) (RU q) T j) n
end Tr
end
