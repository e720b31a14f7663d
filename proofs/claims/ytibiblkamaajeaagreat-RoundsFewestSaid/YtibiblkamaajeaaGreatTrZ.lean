/- Regions of the abstract machine: single steps, what they read, and that independent steps may change places. Conditions: none. -/
import Derived.Test.YtibiblkamaajeaaGreatTrY
open Array renaming mem_toList_iff ->Vb
open Bool renaming not_eq_true' ->Vi,and_eq_true ->Vk
open List renaming mem_cons_self ->Vc,mem_map ->Ve,map_congr_left ->Vg
open Nat renaming eq_of_beq_eq_true ->Va,beq ->Vj
open Option renaming bind_some ->Vd,mem_def ->Vl
open Prod renaming fst ->Vf
open Prod.mk renaming injEq ->Vh
namespace Tr
open Go
section congr
variable {E:Env}{nid:Nat}{T:TypeId}{ev ev' :Operand->AV}
theorem Zde{o:Option Operand}(h: ∀x∈o,ev x=ev' x):Zea ev o=Zea ev' o:=by
 cases o with
 |none=>rfl
 |some x=>simp [Zea,h x (by simp)]
theorem Zgw{o:Option Operand}(h: ∀x∈o,ev x=ev' x): (o.bind fun o=>ZbZ (ev o))=o.bind fun o=>ZbZ (ev' o):=by
 cases o with
 |none=>rfl
 |some x=>simp [h x (by simp)]
theorem ZsB(op:Op)(h: ∀x∈op.operands,ev x=ev' x):aop E nid op T ev=aop E nid op T ev' :=by
 have pairs: ∀ps:Array (Nat×Operand),(∀x∈ps.toList.map (·.2),ev x=ev' x)->(ps.toList.map fun p=>(p.1,ev p.2))=(ps.toList.map fun p=>(p.1,ev' p.2)):=fun ps hp=>
  Vg fun p hm=>by rw[hp p.2 (Ve.2 ⟨p,hm,rfl⟩)]
 have lists: ∀xs:List Operand,(∀x∈xs,ev x=ev' x)->xs.map ev=xs.map ev' :=fun xs hp=>Vg hp
 cases op<;>simp only[Op.operands]at h<;>simp only[aop]
 case move x=>rw[h x (by simp)]
 case assign x=>rw[h x (by simp)]
 case pick c x y=>rw[h c (by simp),h x (by simp),h y (by simp)]
 case box T x=>rw[h x (by simp)]
 case build T ps=>rw[pairs ps fun x hx=>h x (by simpa using hx)]
 case buildSlice T n ps=>rw[pairs ps fun x hx=>h x (by simpa using hx)]
 case load T x=>rw[h x (by simp)]
 case store T x y=>rw[h x (by simp),h y (by simp)]
 case nilCheck x=>rw[h x (by simp)]
 case binOp op T x y T' =>rw[h x (by simp),h y (by simp)]
 case unOp op T x=>rw[h x (by simp)]
 case convert S T x=>rw[h x (by simp)]
 case makeFunc fn first caps=>
  cases fn<;>simp only
  rw[lists caps.toList fun x hx=>h x (by simp [Vb.1 hx])]
 case makeMap T r=>
  cases r with
  |none=>rfl
  |some x=>simp only[h x (by simp)]
 case makeSlice T l c=>rw[h l (by simp),h c (by simp)]
 case slice T x lo hi mx=>
  cases mx with
  |some m=>
   cases hi with
   |none=>simp only
   |some hi=>
    have h1: ∀y∈lo,ev y=ev' y:=fun y hy=>h y (by simp at hy;subst hy;simp);have h2:ev hi=ev' hi:=h hi (by simp);have h3:ev m=ev' m:=h m (by simp);have h4:Zea ev (some hi)=Zea ev' (some hi):=Zde fun y hy=>by simp at hy;subst hy;exact h2
    simp only
    rw[h x (by simp),Zde h1,h4,Zgw h1,h2,h3]
  |none=>
   simp only;have h1: ∀y∈lo,ev y=ev' y:=fun y hy=>h y (by simp at hy;subst hy;simp);have h2: ∀y∈hi,ev y=ev' y:=fun y hy=>h y (by simp at hy;subst hy;simp);rw[h x (by simp),Zde h1,Zde h2,Zgw h1,Zgw h2]
 case fieldAddr T x f=>rw[h x (by simp)]
 case field T x f=>rw[h x (by simp)]
 case indexAddr T x i=>rw[h x (by simp),h i (by simp)]
 case index T x i=>rw[h x (by simp),h i (by simp)]
 case lookup T m k ok=>rw[h m (by simp),h k (by simp)]
 case mapUpdate T m k x=>rw[h m (by simp),h k (by simp),h x (by simp)]
 case range T x=>rw[h x (by simp)]
 case next it s=>cases s<;>simp only;rw[h it (by simp)]
 case entry it=>rw[h it (by simp)]
 case extract t i=>rw[h t (by simp)]
 case call c=>
  have hargs: ∀x∈c.args.toList,ev x=ev' x:=fun x hx=>h x (by simp [Call.operands,Vb.1 hx])
  cases hc:c.callee with
  |value f=>
   have hf:ev f=ev' f:=h f (by simp [Call.operands,hc])
   simp only[hf,lists _ hargs]
  |invoke r m=>rfl
  |builtin b=>
   cases b<;>simp only
   case len=>
    cases hl:c.args.toList with
    |nil=>rfl
    |cons x l=>cases l with
     |nil=>
      rw[hl]at hargs;have hx:ev x=ev' x:=hargs x (by simp)
      cases c.argTypes[0]? with
      |none=>rfl
      |some T0=>simp only[hx]
     |cons y l=>rfl
   case min=>
    cases hl:c.args.toList with
    |nil=>rfl
    |cons x l=>rw[hl]at hargs;simp only[hargs x (by simp),lists l fun y hy=>hargs y (by simp [hy])]
   case max=>
    cases hl:c.args.toList with
    |nil=>rfl
    |cons x l=>rw[hl]at hargs;simp only[hargs x (by simp),lists l fun y hy=>hargs y (by simp [hy])]
   case append=>
    cases hl:c.args.toList with
    |nil=>rfl
    |cons x l=>cases l with
     |nil=>rfl
     |cons y l=>cases l with
      |nil=>
       rw[hl]at hargs;have hx:ev x=ev' x:=hargs x (by simp);have hy:ev y=ev' y:=hargs y (by simp);generalize (c.argTypes[0]?).bind E.ty=q
       cases q with
       |none=>rfl
       |some t=>cases t<;>simp only[hx,hy]
      |cons z l=>rfl
   case copy=>
    cases hl:c.args.toList with
    |nil=>rfl
    |cons x l=>cases l with
     |nil=>rfl
     |cons y l=>cases l with
      |nil=>
       rw[hl]at hargs;have hx:ev x=ev' x:=hargs x (by simp);have hy:ev y=ev' y:=hargs y (by simp);generalize (c.argTypes[0]?).bind E.ty=q
       cases q with
       |none=>rfl
       |some t=>cases t<;>simp only[hx,hy]
      |cons z l=>rfl
   case cap=>
    cases hl:c.args.toList with
    |nil=>rfl
    |cons x l=>cases l with
     |nil=>
      rw[hl]at hargs;have hx:ev x=ev' x:=hargs x (by simp)
      cases c.argTypes[0]? with
      |none=>rfl
      |some T0=>simp only[hx]
     |cons y l=>rfl
end congr
theorem Zkv{t:Nat} : ∀ {l:List Operand},t∈ZiY l↔ .tmp t∈l
 | []=>by simp [ZiY]
 |x::l=>by cases x<;>simp [ZiY,Zkv]
theorem Ztq{F F' :Nat->AV}{l:List Operand}(h: ∀t∈ZiY l,F t=F' t): ∀x∈l,aev F x=aev F' x:=by
 intro x hx
 cases x with
 |tmp t=>exact h t (Zkv.2 hx)
 |_=>rfl
def Zcj(ops:Array Oper)(o:Oper)(F:Nat->AV):Option Bool:=
 match o.guard with
 |none=>some true
 |some (j,want)=>match (ops[j]?).bind (·.dst) with
  |none=>none
  |some g=>match F g with
   | .d .bool b=>some (b==want)
   | .tup .nil=>some false
   |_=>none
def Ze4(E:Env)(ops:Array Oper)(base:Nat)(fz:List Nat)(i:Nat)(o:Oper)(F:Nat->AV)(H:AH):Option ((Nat->AV) ×AH×Option Trc):=
 match Zcj ops o F with
 |none=>none
 |some false=>if ZgL E o.dst=true then some (Zhy F o.dst ZhX,H,none) else none
 |some true=>if ZgL E o.dst=true then((aop E (base+i*ZaI) o.op o.type (aev F)).run H []).bind fun r=>
   if ZeA (r.1.2.map Vf) fz=true then some (Zhy F o.dst r.1.1,Zag H r.1.2,some ⟨i,r.2,r.1.2.map Vf⟩) else none else none
theorem ZmL{F:Nat->AV}{g:Nat}{v:AV}(h:F g=v):ZlS F g v=F:=by
 funext k;unfold ZlS
 cases hb:Vj k g with
 |true=>have:=Va hb;subst this;simp [h]
 |false=>rfl
section
variable {E:Env}{ops:Array Oper}{base:Nat}{fz:List Nat}
theorem Zqd{ρ:Type}{o:Oper}{i:Nat}{rest:List (Oper×Nat)}{F:Nat->AV}{H:AH}{tr:List Trc}{k: (Nat->AV)->AH->List Trc->Option ρ}{r:ρ}(h:Zgj E ops base fz ρ ((o,i)::rest) F H tr k=some r):
  ∃F1 H1 t,Ze4 E ops base fz i o F H=some (F1,H1,t)/\Zgj E ops base fz ρ rest F1 H1 (t.toList++tr) k=some r:=by
 have go:Zcj ops o F=some true->(bif ZgL E o.dst then
   (aop E (base+i*ZaI) o.op o.type (aev F)).runK H [] fun r rd=>
    bif ZeA (r.2.map Vf) fz then
     Zgj E ops base fz ρ rest (Zhy F o.dst r.1) (Zag H r.2) (⟨i,rd,r.2.map Vf⟩::tr) k else none else none)=some r->
   ∃F1 H1 t,Ze4 E ops base fz i o F H=some (F1,H1,t)/\Zgj E ops base fz ρ rest F1 H1 (t.toList++tr) k=some r:=by
  intro hw h
  cases hd:ZgL E o.dst with
  |false=>rw[hd]at h;simp at h
  |true=>
   rw[hd]at h;simp only[cond_true,Acc.runK_eq]at h
   cases hr: (aop E (base+i*ZaI) o.op o.type (aev F)).run H [] with
   |none=>rw[hr]at h;simp at h
   |some y=>
    rw[hr]at h;simp only[Vd]at h
    cases hj:ZeA (y.1.2.map Vf) fz with
    |false=>rw[hj]at h;simp at h
    |true=>
     rw[hj]at h;exact⟨Zhy F o.dst y.1.1,Zag H y.1.2,some ⟨i,y.2,y.1.2.map Vf⟩,by simp [Ze4,hw,hd,hr,hj],by simpa using h⟩
 have skip:Zcj ops o F=some false->(bif ZgL E o.dst then Zgj E ops base fz ρ rest (Zhy F o.dst ZhX) H tr k else none)=some r->
   ∃F1 H1 t,Ze4 E ops base fz i o F H=some (F1,H1,t)/\Zgj E ops base fz ρ rest F1 H1 (t.toList++tr) k=some r:=by
  intro hw h
  cases hd:ZgL E o.dst with
  |false=>rw[hd]at h;simp at h
  |true=>
   rw[hd]at h;exact⟨Zhy F o.dst ZhX,H,none,by simp [Ze4,hw,hd],by simpa using h⟩
 simp only[Zgj]at h
 cases hg:o.guard with
 |none=>
  rw[hg]at h
  exact go (by simp [Zcj,hg]) h
 |some jw=>
  obtain⟨j,want⟩:=jw;rw[hg]at h;simp only at h;split at h
  ·simp at h
  ·rename_i g hgd;split at h
   ·rename_i b hb
    cases b with
    |true=>
     rw[ZmL hb]at h;simp only[cond_true]at h
     cases want with
     |true=>exact go (by simp [Zcj,hg,hgd,hb]) h
     |false=>exact skip (by simp [Zcj,hg,hgd,hb]) h
    |false=>
     rw[ZmL hb]at h;simp only[cond_false]at h
     cases want with
     |true=>exact skip (by simp [Zcj,hg,hgd,hb]) h
     |false=>exact go (by simp [Zcj,hg,hgd,hb]) h
   ·rename_i hb;exact skip (by simp [Zcj,hg,hgd,hb]) h
   ·simp at h
inductive AE (E:Env) (ops:Array Oper) (base:Nat) (fz:List Nat):List (Oper×Nat)->(Nat->AV)->AH->List Trc->(Nat->AV)->AH->List Trc->Prop
 |nil {F H tr} :AE E ops base fz [] F H tr F H tr
 |cons {o i rest F H tr F1 H1 t F' H' tr'} (h:Ze4 E ops base fz i o F H=some (F1,H1,t)) (h' :AE E ops base fz rest F1 H1 (t.toList++tr) F' H' tr'):AE E ops base fz ((o,i)::rest) F H tr F' H' tr'
theorem Zf6{ρ:Type} : ∀ {l:List (Oper×Nat)}{F:Nat->AV}{H:AH}{tr:List Trc}{k: (Nat->AV)->AH->List Trc->Option ρ}{r:ρ},Zgj E ops base fz ρ l F H tr k=some r-> ∃F' H' tr',AE E ops base fz l F H tr F' H' tr' /\k F' H' tr' =some r
 | [],F,H,tr,k,r,h=>⟨F,H,tr, .nil,by simpa only[Zgj] using h⟩
 | (o,i)::rest,F,H,tr,k,r,h=>by obtain⟨F1,H1,t,h1,h2⟩:=Zqd h;obtain⟨F',H',tr',h3,h4⟩:=Zf6 h2;exact⟨F',H',tr', .cons h1 h3,h4⟩
inductive Ex' (E:Env) (ops:Array Oper) (base:Nat) (fz:List Nat) (T:Nat->Option Trc):List Nat->(Nat->AV)->AH->(Nat->AV)->AH->Prop
 |nil {F H} :Ex' E ops base fz T [] F H F H
 |cons {o i rest F H F1 H1 F' H'} (ho:ops[i]? =some o) (h:Ze4 E ops base fz i o F H=some (F1,H1,T i)) (h' :Ex' E ops base fz T rest F1 H1 F' H'):Ex' E ops base fz T (i::rest) F H F' H'
theorem Zou{i:Nat}{o:Oper}{F F1:Nat->AV}{H H1:AH}{t:Trc}(h:Ze4 E ops base fz i o F H=some (F1,H1,some t)):t.i=i:=by
 unfold Ze4 at h;split at h
 ·simp at h
 ·split at h<;>simp at h
 ·split at h
  ·cases hr: (aop E (base+i*ZaI) o.op o.type (aev F)).run H [] with
   |none=>rw[hr]at h;simp at h
   |some y=>
    rw[hr]at h;simp only[Vd]at h;split at h
    ·simp only[Option.some.injEq,Vh]at h;rw[<-h.2.2]
    ·simp at h
  ·simp at h
theorem Zg8{i:Nat}{t:Option Trc}{tr:List Trc}(h: ∀u∈t,u.i≠i):Zfe i (t.toList++tr)=Zfe i tr:=by
 cases t with
 |none=>rfl
 |some u=>
  have:Vj u.i i=false:=by
   cases hb:Vj u.i i
   ·rfl
   ·exact absurd (Va hb) (h u rfl)
  simp [Zfe,this]
theorem AE.other: ∀ {l:List (Oper×Nat)}{F:Nat->AV}{H:AH}{tr:List Trc}{F' :Nat->AV}{H' :AH}{tr' :List Trc},AE E ops base fz l F H tr F' H' tr' -> ∀i,(∀p∈l,p.2≠i)->Zfe i tr' =Zfe i tr:=by
 intro l F H tr F' H' tr' h
 induction h with
 |nil=>intro i _;rfl
 |cons h h' ih=>
  intro i hi;rw[ih i fun p hp=>hi p (by simp [hp])];refine Zg8 fun u hu=> ?_;simp only[Vl]at hu;subst hu;rw[Zou h];exact hi _ (Vc ..)
theorem AE.ex: ∀ {l:List (Oper×Nat)}{F:Nat->AV}{H:AH}{tr:List Trc}{F' :Nat->AV}{H' :AH}{tr' :List Trc},AE E ops base fz l F H tr F' H' tr' ->(l.map Prod.snd).Nodup->(∀p∈l,ops[p.2]? =some p.1)->(∀p∈l,Zfe p.2 tr=none)->
  Ex' E ops base fz (fun i=>Zfe i tr') (l.map Prod.snd) F H F' H' :=by
 intro l F H tr F' H' tr' h
 induction h with
 |nil=>intros;exact .nil
 | @cons o i rest F H tr F1 H1 t F' H' tr' h h' ih=>
  intro hn ho ht;simp only[List.map_cons,List.nodup_cons]at hn
  have hti:Zfe i tr' =t:=by
   rw[h'.other i fun p hp e=>hn.1 (Ve.2 ⟨p,hp,e⟩)]
   cases t with
   |none=>exact ht _ (Vc ..)
   |some u=>simp [Zfe,Zou h]
  refine .cons (ho _ (Vc ..)) (by simpa only[hti] using h) (ih hn.2 (fun p hp=>ho p (by simp [hp])) fun p hp=> ?_);rw[Zg8 fun u hu=> ?_]
  ·exact ht p (by simp [hp])
  ·simp only[Vl]at hu;subst hu;rw[Zou h];intro e;exact hn.1 (Ve.2 ⟨p,hp,e.symm⟩)
theorem Ze6{F:Nat->AV}{d:Option Nat}{v:AV}{k:Nat}(h: ∀e,d=some e->k≠e):Zhy F d v k=F k:=by
 cases d with
 |none=>rfl
 |some e=>
  have:Vj k e=false:=by
   cases hb:Vj k e
   ·rfl
   ·exact absurd (Va hb) (h e rfl)
  simp [Zhy,ZlS,this]
theorem Ztu{F:Nat->AV}{d e:Option Nat}{v u:AV}(h: ∀x,d=some x->e≠some x):Zhy (Zhy F d v) e u=Zhy (Zhy F e u) d v:=by
 funext k;by_cases h1: ∃x,d=some x/\k=x
 ·obtain⟨x,rfl,rfl⟩:=h1;have h2: ∀y,e=some y->k≠y:=fun y hy hk=>h k rfl (by rw[hy,hk]);rw[Ze6 h2];simp [Zhy,ZlS]
 ·have h1' : ∀x,d=some x->k≠x:=fun x hx hk=>h1 ⟨x,hx,hk⟩;rw[Ze6 h1'];by_cases h2: ∃y,e=some y/\k=y
  ·obtain⟨y,rfl,rfl⟩:=h2;simp [Zhy,ZlS]
  ·have h2' : ∀x,e=some x->k≠x:=fun x hx hk=>h2 ⟨x,hx,hk⟩;rw[Ze6 h2',Ze6 h2',Ze6 h1']
theorem Zjn: ∀ {l m:Zbt}{H:AH},(∀p∈l, ∀q∈m,p.1≠q.1)->Zag (Zag H l) m=Zag (Zag H m) l
 | [],m,H,_=>rfl
 |p::l,m,H,h=>by simp only[Zag];rw[Zjn fun x hx=>h x (by simp [hx]),ZfG fun q hq=>(h p (by simp) q hq).symm]
structure Stp (E:Env) (ops:Array Oper) (i:Nat) (o:Oper) (F:Nat->AV) (H:AH) (F1:Nat->AV) (H1:AH) (t:Option Trc) (v:AV) (pa:Zbt):Prop where
 dst:ZgL E o.dst=true
 F:F1=Zhy F o.dst v
 H:H1=Zag H pa
 wr: ∀p∈pa, ∃u,t=some u/\p.1∈u.wr
theorem Zhm{i:Nat}{o:Oper}{F F1:Nat->AV}{H H1:AH}{t:Option Trc}(h:Ze4 E ops base fz i o F H=some (F1,H1,t)):
  ∃v pa,Stp E ops i o F H F1 H1 t v pa/\ ∀F0 H0,(∀k∈ZfA ops o,F0 k=F k)->(∀u,t=some u-> ∀id∈u.rd,H0 id=H id)->Ze4 E ops base fz i o F0 H0=some (Zhy F0 o.dst v,Zag H0 pa,t):=by
 have hwc: ∀F0:Nat->AV,(∀k∈ZfA ops o,F0 k=F k)->Zcj ops o F0=Zcj ops o F:=by
  intro F0 hF;unfold Zcj
  cases hg:o.guard with
  |none=>rfl
  |some jw=>
   obtain⟨j,want⟩:=jw;simp only
   cases hgd: (ops[j]?).bind (·.dst) with
   |none=>rfl
   |some g=>simp only;rw[hF g (by simp [ZfA,hg,hgd])]
 have hac: ∀F0:Nat->AV,(∀k∈ZfA ops o,F0 k=F k)->aop E (base+i*ZaI) o.op o.type (aev F0)=aop E (base+i*ZaI) o.op o.type (aev F):=by intro F0 hF;refine ZsB o.op fun x hx=>Ztq (l:=o.op.operands.toList) (fun t ht=>hF t (by simp [ZfA,ht])) x (Vb.2 hx)
 unfold Ze4 at h;split at h
 ·simp at h
 ·rename_i hw;split at h
  ·rename_i hd;simp only[Option.some.injEq,Vh]at h;obtain⟨rfl,rfl,rfl⟩:=h;exact⟨ZhX,[],⟨hd,rfl,rfl,by simp⟩,fun F0 H0 hF _=>by simp [Ze4,hwc F0 hF,hw,hd,Zag]⟩
  ·simp at h
 ·rename_i hw;split at h
  ·rename_i hd
   cases hr: (aop E (base+i*ZaI) o.op o.type (aev F)).run H [] with
   |none=>rw[hr]at h;simp at h
   |some y=>
    obtain⟨⟨v,pa⟩,rd⟩:=y;rw[hr]at h;simp only[Vd]at h;split at h
    ·rename_i hj;simp only[Option.some.injEq,Vh]at h;obtain⟨rfl,rfl,rfl⟩:=h;refine⟨v,pa,⟨hd,rfl,rfl,fun p hp=>⟨_,rfl,Ve.2 ⟨p,hp,rfl⟩⟩⟩,fun F0 H0 hF hH=> ?_⟩;obtain⟨m,hm,hrun⟩:=Acc.run_local (H' :=H0) _ _ _ _ hr;simp only[List.append_nil]at hm;have:=hrun fun id hid=>hH _ rfl id (by rw[hm];exact hid);simp [Ze4,hwc F0 hF,hw,hd,hac F0 hF,this,hj]
    ·simp at h
  ·simp at h
def Zwc(ops:Array Oper)(T:Nat->Option Trc)(i j:Nat):Prop:=
 ∀a b,ops[i]? =some a->ops[j]? =some b->ZfU ops a b=true/\ ∀u v,T i=some u->T j=some v->ZeA u.wr v.rd=true/\ZeA u.wr v.wr=true/\ZeA v.wr u.rd=true
theorem ZjU{a b:Oper}(h:ZfU ops a b=true): (∀d,a.dst=some d->d ∉ ZfA ops b/\b.dst≠some d)/\ ∀d,b.dst=some d->d ∉ ZfA ops a:=by
 unfold ZfU at h;simp only[Vk]at h;refine⟨fun d hd=> ?_,fun d hd=> ?_⟩
 ·have h1:=h.1;rw[hd]at h1;simp only[Vk,Vi]at h1;refine⟨fun hm=> ?_,fun he=> ?_⟩
  ·rw[Zba.2 hm]at h1;simp at h1
  ·rw[he]at h1;simp at h1
 ·have h2:=h.2;rw[hd]at h2;simp only[Vi]at h2;intro hm;rw[Zba.2 hm]at h2;simp at h2
theorem Ex'.swap{T:Nat->Option Trc}{i j:Nat}{l:List Nat}{F F' :Nat->AV}{H H' :AH}(h:Ex' E ops base fz T (i::j::l) F H F' H')(hi:Zwc ops T i j):Ex' E ops base fz T (j::i::l) F H F' H' :=by
 cases h with
 | @cons oi _ _ _ _ F1 H1 _ _ hoi h1 h' =>
  cases h' with
  | @cons oj _ _ _ _ F2 H2 _ _ hoj h2 h'' =>
   obtain⟨hs,ht⟩:=hi oi oj hoi hoj;obtain⟨hd1,hd2⟩:=ZjU hs;obtain⟨v1,p1,s1,c1⟩:=Zhm h1;obtain⟨v2,p2,s2,c2⟩:=Zhm h2
   have hF1: ∀k∈ZfA ops oj,F k=F1 k:=fun k hk=>by rw[s1.F,Ze6 fun e he hke=>(hd1 e he).1 (hke▸hk)]
   have hH1: ∀u,T j=some u-> ∀id∈u.rd,H id=H1 id:=fun u hu id hid=>by rw[s1.H,ZfD fun p hp e=> ?_];obtain⟨u1,hu1,hw⟩:=s1.wr p hp;exact ZcW.1 (ht u1 u hu1 hu).1 _ hw (e▸hid)
   have a1:=c2 F H hF1 hH1;have hF2: ∀k∈ZfA ops oi,Zhy F oj.dst v2 k=F k:=fun k hk=>Ze6 fun e he hke=>hd2 e he (hke▸hk)
   have hH2: ∀u,T i=some u-> ∀id∈u.rd,Zag H p2 id=H id:=fun u hu id hid=>ZfD fun p hp e=>by obtain⟨u2,hu2,hw⟩:=s2.wr p hp;exact ZcW.1 (ht u u2 hu hu2).2.2 _ hw (e▸hid)
   have a2:=c1 (Zhy F oj.dst v2) (Zag H p2) hF2 hH2
   have eF:Zhy (Zhy F oj.dst v2) oi.dst v1=F2:=by rw[s2.F,s1.F,Ztu fun d hd he=>(hd1 d he).2 hd]
   have eH:Zag (Zag H p2) p1=H2:=by rw[s2.H,s1.H];refine Zjn fun p hp q hq e=> ?_;obtain⟨u2,hu2,hw2⟩:=s2.wr p hp;obtain⟨u1,hu1,hw1⟩:=s1.wr q hq;exact ZcW.1 (ht u1 u2 hu1 hu2).2.1 _ hw1 (e▸hw2)
   rw[eF,eH]at a2;exact .cons hoj a1 (.cons hoi a2 h'')
theorem Ex'.front{T:Nat->Option Trc}{i:Nat}{l:List Nat}{F' :Nat->AV}{H' :AH} : ∀ {pre:List Nat}{F:Nat->AV}{H:AH},Ex' E ops base fz T (pre++i::l) F H F' H' ->(∀j∈pre,Zwc ops T j i)->Ex' E ops base fz T (i::(pre++l)) F H F' H'
 | [],_,_,h,_=>h
 |j::pre,F,H,h,hi=>by
  cases h with
  |cons ho h1 h' =>exact(Ex'.cons ho h1 (Ex'.front h' fun k hk=>hi k (by simp [hk]))).swap (hi j (by simp))
end
end Tr
