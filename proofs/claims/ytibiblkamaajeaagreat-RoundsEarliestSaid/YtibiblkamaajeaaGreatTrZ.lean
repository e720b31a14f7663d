/- Regions of the abstract machine: single steps, what they read, and that independent steps may change places. Conditions: none. -/
import Derived.Test.YtibiblkamaajeaaGreatTrY
open Array renaming mem_toList_iff ->Vb
open Bool renaming not_eq_true' ->Vi,and_eq_true ->Vk
open List renaming mem_cons_self ->Vc,mem_map ->Ve,map_congr_left ->Vg
open Nat renaming eq_of_beq_eq_true ->Va,beq ->Vj
open Option renaming bind_some ->Vd,mem_def ->Vl
open Prod renaming fst ->Vf
open Prod.mk renaming injEq ->Vh
namespace Tr
open Go
section congr
variable {E:Env}{nid:Nat}{T:TypeId}{ev ev' :Operand->AV}
theorem Zc8{o:Option Operand}(h: ∀x∈o,ev x=ev' x):Zed ev o=Zed ev' o:=by
 cases o with
 |none=>rfl
 |some x=>simp [Zed,h x (by simp)]
theorem ZgV{o:Option Operand}(h: ∀x∈o,ev x=ev' x): (o.bind fun o=>ZbV (ev o))=o.bind fun o=>ZbV (ev' o):=by
 cases o with
 |none=>rfl
 |some x=>simp [h x (by simp)]
theorem Zri(op:Op)(h: ∀x∈op.operands,ev x=ev' x):aop E nid op T ev=aop E nid op T ev' :=by
 have pairs: ∀ps:Array (Nat×Operand),(∀x∈ps.toList.map (·.2),ev x=ev' x)->(ps.toList.map fun p=>(p.1,ev p.2))=(ps.toList.map fun p=>(p.1,ev' p.2)):=fun ps hp=>
  Vg fun p hm=>by rw[hp p.2 (Ve.2 ⟨p,hm,rfl⟩)]
 have lists: ∀xs:List Operand,(∀x∈xs,ev x=ev' x)->xs.map ev=xs.map ev' :=fun xs hp=>Vg hp
 cases op<;>simp only[Op.operands]at h<;>simp only[aop]
 case move x=>rw[h x (by simp)]
 case assign x=>rw[h x (by simp)]
 case pick c x y=>rw[h c (by simp),h x (by simp),h y (by simp)]
 case box T x=>rw[h x (by simp)]
 case build T ps=>rw[pairs ps fun x hx=>h x (by simpa using hx)]
 case buildSlice T n ps=>rw[pairs ps fun x hx=>h x (by simpa using hx)]
 case load T x=>rw[h x (by simp)]
 case store T x y=>rw[h x (by simp),h y (by simp)]
 case nilCheck x=>rw[h x (by simp)]
 case binOp op T x y T' =>rw[h x (by simp),h y (by simp)]
 case unOp op T x=>rw[h x (by simp)]
 case convert S T x=>rw[h x (by simp)]
 case makeFunc fn first caps=>
  cases fn<;>simp only
  rw[lists caps.toList fun x hx=>h x (by simp [Vb.1 hx])]
 case makeMap T r=>
  cases r with
  |none=>rfl
  |some x=>simp only[h x (by simp)]
 case makeSlice T l c=>rw[h l (by simp),h c (by simp)]
 case slice T x lo hi mx=>
  cases mx with
  |some m=>
   cases hi with
   |none=>simp only
   |some hi=>
    have h1: ∀y∈lo,ev y=ev' y:=fun y hy=>h y (by simp at hy;subst hy;simp);have h2:ev hi=ev' hi:=h hi (by simp);have h3:ev m=ev' m:=h m (by simp);have h4:Zed ev (some hi)=Zed ev' (some hi):=Zc8 fun y hy=>by simp at hy;subst hy;exact h2
    simp only
    rw[h x (by simp),Zc8 h1,h4,ZgV h1,h2,h3]
  |none=>
   simp only;have h1: ∀y∈lo,ev y=ev' y:=fun y hy=>h y (by simp at hy;subst hy;simp);have h2: ∀y∈hi,ev y=ev' y:=fun y hy=>h y (by simp at hy;subst hy;simp);rw[h x (by simp),Zc8 h1,Zc8 h2,ZgV h1,ZgV h2]
 case fieldAddr T x f=>rw[h x (by simp)]
 case field T x f=>rw[h x (by simp)]
 case indexAddr T x i=>rw[h x (by simp),h i (by simp)]
 case index T x i=>rw[h x (by simp),h i (by simp)]
 case lookup T m k ok=>rw[h m (by simp),h k (by simp)]
 case mapUpdate T m k x=>rw[h m (by simp),h k (by simp),h x (by simp)]
 case range T x=>rw[h x (by simp)]
 case next it s=>cases s<;>simp only;rw[h it (by simp)]
 case entry it=>rw[h it (by simp)]
 case extract t i=>rw[h t (by simp)]
 case call c=>
  have hargs: ∀x∈c.args.toList,ev x=ev' x:=fun x hx=>h x (by simp [Call.operands,Vb.1 hx])
  cases hc:c.callee with
  |value f=>
   have hf:ev f=ev' f:=h f (by simp [Call.operands,hc])
   simp only[hf,lists _ hargs]
  |invoke r m=>rfl
  |builtin b=>
   cases b<;>simp only
   case len=>
    cases hl:c.args.toList with
    |nil=>rfl
    |cons x l=>cases l with
     |nil=>
      rw[hl]at hargs;have hx:ev x=ev' x:=hargs x (by simp)
      cases c.argTypes[0]? with
      |none=>rfl
      |some T0=>simp only[hx]
     |cons y l=>rfl
   case min=>
    cases hl:c.args.toList with
    |nil=>rfl
    |cons x l=>rw[hl]at hargs;simp only[hargs x (by simp),lists l fun y hy=>hargs y (by simp [hy])]
   case max=>
    cases hl:c.args.toList with
    |nil=>rfl
    |cons x l=>rw[hl]at hargs;simp only[hargs x (by simp),lists l fun y hy=>hargs y (by simp [hy])]
   case append=>
    cases hl:c.args.toList with
    |nil=>rfl
    |cons x l=>cases l with
     |nil=>rfl
     |cons y l=>cases l with
      |nil=>
       rw[hl]at hargs;have hx:ev x=ev' x:=hargs x (by simp);have hy:ev y=ev' y:=hargs y (by simp);generalize (c.argTypes[0]?).bind E.ty=q
       cases q with
       |none=>rfl
       |some t=>cases t<;>simp only[hx,hy]
      |cons z l=>rfl
   case copy=>
    cases hl:c.args.toList with
    |nil=>rfl
    |cons x l=>cases l with
     |nil=>rfl
     |cons y l=>cases l with
      |nil=>
       rw[hl]at hargs;have hx:ev x=ev' x:=hargs x (by simp);have hy:ev y=ev' y:=hargs y (by simp);generalize (c.argTypes[0]?).bind E.ty=q
       cases q with
       |none=>rfl
       |some t=>cases t<;>simp only[hx,hy]
      |cons z l=>rfl
   case cap=>
    cases hl:c.args.toList with
    |nil=>rfl
    |cons x l=>cases l with
     |nil=>
      rw[hl]at hargs;have hx:ev x=ev' x:=hargs x (by simp)
      cases c.argTypes[0]? with
      |none=>rfl
      |some T0=>simp only[hx]
     |cons y l=>rfl
end congr
theorem ZkL{t:Nat} : ∀ {l:List Operand},t∈ZiK l↔ .tmp t∈l
 | []=>by simp [ZiK]
 |x::l=>by cases x<;>simp [ZiK,ZkL]
theorem Ztt{F F' :Nat->AV}{l:List Operand}(h: ∀t∈ZiK l,F t=F' t): ∀x∈l,aev F x=aev F' x:=by
 intro x hx
 cases x with
 |tmp t=>exact h t (ZkL.2 hx)
 |_=>rfl
def Zck(ops:Array Oper)(o:Oper)(F:Nat->AV):Option Bool:=
 match o.guard with
 |none=>some true
 |some (j,want)=>match (ops[j]?).bind (·.dst) with
  |none=>none
  |some g=>match F g with
   | .d .bool b=>some (b==want)
   | .tup .nil=>some false
   |_=>none
def Ze0(E:Env)(ops:Array Oper)(base:Nat)(fz:List Nat)(i:Nat)(o:Oper)(F:Nat->AV)(H:AH):Option ((Nat->AV) ×AH×Option Trc):=
 match Zck ops o F with
 |none=>none
 |some false=>if ZgF E o.dst=true then some (ZhE F o.dst Zh1,H,none) else none
 |some true=>if ZgF E o.dst=true then((aop E (base+i*ZaJ) o.op o.type (aev F)).run H []).bind fun r=>
   if ZeG (r.1.2.map Vf) fz=true then some (ZhE F o.dst r.1.1,Zag H r.1.2,some ⟨i,r.2,r.1.2.map Vf⟩) else none else none
theorem Zm6{F:Nat->AV}{g:Nat}{v:AV}(h:F g=v):ZlW F g v=F:=by
 funext k;unfold ZlW
 cases hb:Vj k g with
 |true=>have:=Va hb;subst this;simp [h]
 |false=>rfl
section
variable {E:Env}{ops:Array Oper}{base:Nat}{fz:List Nat}
theorem ZqF{ρ:Type}{o:Oper}{i:Nat}{rest:List (Oper×Nat)}{F:Nat->AV}{H:AH}{tr:List Trc}{k: (Nat->AV)->AH->List Trc->Option ρ}{r:ρ}(h:Zgm E ops base fz ρ ((o,i)::rest) F H tr k=some r):
  ∃F1 H1 t,Ze0 E ops base fz i o F H=some (F1,H1,t)/\Zgm E ops base fz ρ rest F1 H1 (t.toList++tr) k=some r:=by
 have go:Zck ops o F=some true->(bif ZgF E o.dst then
   (aop E (base+i*ZaJ) o.op o.type (aev F)).runK H [] fun r rd=>
    bif ZeG (r.2.map Vf) fz then
     Zgm E ops base fz ρ rest (ZhE F o.dst r.1) (Zag H r.2) (⟨i,rd,r.2.map Vf⟩::tr) k else none else none)=some r->
   ∃F1 H1 t,Ze0 E ops base fz i o F H=some (F1,H1,t)/\Zgm E ops base fz ρ rest F1 H1 (t.toList++tr) k=some r:=by
  intro hw h
  cases hd:ZgF E o.dst with
  |false=>rw[hd]at h;simp at h
  |true=>
   rw[hd]at h;simp only[cond_true,Acc.runK_eq]at h
   cases hr: (aop E (base+i*ZaJ) o.op o.type (aev F)).run H [] with
   |none=>rw[hr]at h;simp at h
   |some y=>
    rw[hr]at h;simp only[Vd]at h
    cases hj:ZeG (y.1.2.map Vf) fz with
    |false=>rw[hj]at h;simp at h
    |true=>
     rw[hj]at h;exact⟨ZhE F o.dst y.1.1,Zag H y.1.2,some ⟨i,y.2,y.1.2.map Vf⟩,by simp [Ze0,hw,hd,hr,hj],by simpa using h⟩
 have skip:Zck ops o F=some false->(bif ZgF E o.dst then Zgm E ops base fz ρ rest (ZhE F o.dst Zh1) H tr k else none)=some r->
   ∃F1 H1 t,Ze0 E ops base fz i o F H=some (F1,H1,t)/\Zgm E ops base fz ρ rest F1 H1 (t.toList++tr) k=some r:=by
  intro hw h
  cases hd:ZgF E o.dst with
  |false=>rw[hd]at h;simp at h
  |true=>
   rw[hd]at h;exact⟨ZhE F o.dst Zh1,H,none,by simp [Ze0,hw,hd],by simpa using h⟩
 simp only[Zgm]at h
 cases hg:o.guard with
 |none=>
  rw[hg]at h
  exact go (by simp [Zck,hg]) h
 |some jw=>
  obtain⟨j,want⟩:=jw;rw[hg]at h;simp only at h;split at h
  ·simp at h
  ·rename_i g hgd;split at h
   ·rename_i b hb
    cases b with
    |true=>
     rw[Zm6 hb]at h;simp only[cond_true]at h
     cases want with
     |true=>exact go (by simp [Zck,hg,hgd,hb]) h
     |false=>exact skip (by simp [Zck,hg,hgd,hb]) h
    |false=>
     rw[Zm6 hb]at h;simp only[cond_false]at h
     cases want with
     |true=>exact skip (by simp [Zck,hg,hgd,hb]) h
     |false=>exact go (by simp [Zck,hg,hgd,hb]) h
   ·rename_i hb;exact skip (by simp [Zck,hg,hgd,hb]) h
   ·simp at h
inductive AE (E:Env) (ops:Array Oper) (base:Nat) (fz:List Nat):List (Oper×Nat)->(Nat->AV)->AH->List Trc->(Nat->AV)->AH->List Trc->Prop
 |nil {F H tr} :AE E ops base fz [] F H tr F H tr
 |cons {o i rest F H tr F1 H1 t F' H' tr'} (h:Ze0 E ops base fz i o F H=some (F1,H1,t)) (h' :AE E ops base fz rest F1 H1 (t.toList++tr) F' H' tr'):AE E ops base fz ((o,i)::rest) F H tr F' H' tr'
theorem ZfV{ρ:Type} : ∀ {l:List (Oper×Nat)}{F:Nat->AV}{H:AH}{tr:List Trc}{k: (Nat->AV)->AH->List Trc->Option ρ}{r:ρ},Zgm E ops base fz ρ l F H tr k=some r-> ∃F' H' tr',AE E ops base fz l F H tr F' H' tr' /\k F' H' tr' =some r
 | [],F,H,tr,k,r,h=>⟨F,H,tr, .nil,by simpa only[Zgm] using h⟩
 | (o,i)::rest,F,H,tr,k,r,h=>by obtain⟨F1,H1,t,h1,h2⟩:=ZqF h;obtain⟨F',H',tr',h3,h4⟩:=ZfV h2;exact⟨F',H',tr', .cons h1 h3,h4⟩
inductive Ex' (E:Env) (ops:Array Oper) (base:Nat) (fz:List Nat) (T:Nat->Option Trc):List Nat->(Nat->AV)->AH->(Nat->AV)->AH->Prop
 |nil {F H} :Ex' E ops base fz T [] F H F H
 |cons {o i rest F H F1 H1 F' H'} (ho:ops[i]? =some o) (h:Ze0 E ops base fz i o F H=some (F1,H1,T i)) (h' :Ex' E ops base fz T rest F1 H1 F' H'):Ex' E ops base fz T (i::rest) F H F' H'
theorem Zov{i:Nat}{o:Oper}{F F1:Nat->AV}{H H1:AH}{t:Trc}(h:Ze0 E ops base fz i o F H=some (F1,H1,some t)):t.i=i:=by
 unfold Ze0 at h;split at h
 ·simp at h
 ·split at h<;>simp at h
 ·split at h
  ·cases hr: (aop E (base+i*ZaJ) o.op o.type (aev F)).run H [] with
   |none=>rw[hr]at h;simp at h
   |some y=>
    rw[hr]at h;simp only[Vd]at h;split at h
    ·simp only[Option.some.injEq,Vh]at h;rw[<-h.2.2]
    ·simp at h
  ·simp at h
theorem ZhA{i:Nat}{t:Option Trc}{tr:List Trc}(h: ∀u∈t,u.i≠i):Zfr i (t.toList++tr)=Zfr i tr:=by
 cases t with
 |none=>rfl
 |some u=>
  have:Vj u.i i=false:=by
   cases hb:Vj u.i i
   ·rfl
   ·exact absurd (Va hb) (h u rfl)
  simp [Zfr,this]
theorem AE.other: ∀ {l:List (Oper×Nat)}{F:Nat->AV}{H:AH}{tr:List Trc}{F' :Nat->AV}{H' :AH}{tr' :List Trc},AE E ops base fz l F H tr F' H' tr' -> ∀i,(∀p∈l,p.2≠i)->Zfr i tr' =Zfr i tr:=by
 intro l F H tr F' H' tr' h
 induction h with
 |nil=>intro i _;rfl
 |cons h h' ih=>
  intro i hi;rw[ih i fun p hp=>hi p (by simp [hp])];refine ZhA fun u hu=> ?_;simp only[Vl]at hu;subst hu;rw[Zov h];exact hi _ (Vc ..)
theorem AE.ex: ∀ {l:List (Oper×Nat)}{F:Nat->AV}{H:AH}{tr:List Trc}{F' :Nat->AV}{H' :AH}{tr' :List Trc},AE E ops base fz l F H tr F' H' tr' ->(l.map Prod.snd).Nodup->(∀p∈l,ops[p.2]? =some p.1)->(∀p∈l,Zfr p.2 tr=none)->
  Ex' E ops base fz (fun i=>Zfr i tr') (l.map Prod.snd) F H F' H' :=by
 intro l F H tr F' H' tr' h
 induction h with
 |nil=>intros;exact .nil
 | @cons o i rest F H tr F1 H1 t F' H' tr' h h' ih=>
  intro hn ho ht;simp only[List.map_cons,List.nodup_cons]at hn
  have hti:Zfr i tr' =t:=by
   rw[h'.other i fun p hp e=>hn.1 (Ve.2 ⟨p,hp,e⟩)]
   cases t with
   |none=>exact ht _ (Vc ..)
   |some u=>simp [Zfr,Zov h]
  refine .cons (ho _ (Vc ..)) (by simpa only[hti] using h) (ih hn.2 (fun p hp=>ho p (by simp [hp])) fun p hp=> ?_);rw[ZhA fun u hu=> ?_]
  ·exact ht p (by simp [hp])
  ·simp only[Vl]at hu;subst hu;rw[Zov h];intro e;exact hn.1 (Ve.2 ⟨p,hp,e.symm⟩)
theorem Ze9{F:Nat->AV}{d:Option Nat}{v:AV}{k:Nat}(h: ∀e,d=some e->k≠e):ZhE F d v k=F k:=by
 cases d with
 |none=>rfl
 |some e=>
  have:Vj k e=false:=by
   cases hb:Vj k e
   ·rfl
   ·exact absurd (Va hb) (h e rfl)
  simp [ZhE,ZlW,this]
theorem Ztz{F:Nat->AV}{d e:Option Nat}{v u:AV}(h: ∀x,d=some x->e≠some x):ZhE (ZhE F d v) e u=ZhE (ZhE F e u) d v:=by
 funext k;by_cases h1: ∃x,d=some x/\k=x
 ·obtain⟨x,rfl,rfl⟩:=h1;have h2: ∀y,e=some y->k≠y:=fun y hy hk=>h k rfl (by rw[hy,hk]);rw[Ze9 h2];simp [ZhE,ZlW]
 ·have h1' : ∀x,d=some x->k≠x:=fun x hx hk=>h1 ⟨x,hx,hk⟩;rw[Ze9 h1'];by_cases h2: ∃y,e=some y/\k=y
  ·obtain⟨y,rfl,rfl⟩:=h2;simp [ZhE,ZlW]
  ·have h2' : ∀x,e=some x->k≠x:=fun x hx hk=>h2 ⟨x,hx,hk⟩;rw[Ze9 h2',Ze9 h2',Ze9 h1']
theorem Zjg: ∀ {l m:Zbv}{H:AH},(∀p∈l, ∀q∈m,p.1≠q.1)->Zag (Zag H l) m=Zag (Zag H m) l
 | [],m,H,_=>rfl
 |p::l,m,H,h=>by simp only[Zag];rw[Zjg fun x hx=>h x (by simp [hx]),ZfU fun q hq=>(h p (by simp) q hq).symm]
structure Stp (E:Env) (ops:Array Oper) (i:Nat) (o:Oper) (F:Nat->AV) (H:AH) (F1:Nat->AV) (H1:AH) (t:Option Trc) (v:AV) (pa:Zbv):Prop where
 dst:ZgF E o.dst=true
 F:F1=ZhE F o.dst v
 H:H1=Zag H pa
 wr: ∀p∈pa, ∃u,t=some u/\p.1∈u.wr
theorem Zg6{i:Nat}{o:Oper}{F F1:Nat->AV}{H H1:AH}{t:Option Trc}(h:Ze0 E ops base fz i o F H=some (F1,H1,t)):
  ∃v pa,Stp E ops i o F H F1 H1 t v pa/\ ∀F0 H0,(∀k∈Zfy ops o,F0 k=F k)->(∀u,t=some u-> ∀id∈u.rd,H0 id=H id)->Ze0 E ops base fz i o F0 H0=some (ZhE F0 o.dst v,Zag H0 pa,t):=by
 have hwc: ∀F0:Nat->AV,(∀k∈Zfy ops o,F0 k=F k)->Zck ops o F0=Zck ops o F:=by
  intro F0 hF;unfold Zck
  cases hg:o.guard with
  |none=>rfl
  |some jw=>
   obtain⟨j,want⟩:=jw;simp only
   cases hgd: (ops[j]?).bind (·.dst) with
   |none=>rfl
   |some g=>simp only;rw[hF g (by simp [Zfy,hg,hgd])]
 have hac: ∀F0:Nat->AV,(∀k∈Zfy ops o,F0 k=F k)->aop E (base+i*ZaJ) o.op o.type (aev F0)=aop E (base+i*ZaJ) o.op o.type (aev F):=by intro F0 hF;refine Zri o.op fun x hx=>Ztt (l:=o.op.operands.toList) (fun t ht=>hF t (by simp [Zfy,ht])) x (Vb.2 hx)
 unfold Ze0 at h;split at h
 ·simp at h
 ·rename_i hw;split at h
  ·rename_i hd;simp only[Option.some.injEq,Vh]at h;obtain⟨rfl,rfl,rfl⟩:=h;exact⟨Zh1,[],⟨hd,rfl,rfl,by simp⟩,fun F0 H0 hF _=>by simp [Ze0,hwc F0 hF,hw,hd,Zag]⟩
  ·simp at h
 ·rename_i hw;split at h
  ·rename_i hd
   cases hr: (aop E (base+i*ZaJ) o.op o.type (aev F)).run H [] with
   |none=>rw[hr]at h;simp at h
   |some y=>
    obtain⟨⟨v,pa⟩,rd⟩:=y;rw[hr]at h;simp only[Vd]at h;split at h
    ·rename_i hj;simp only[Option.some.injEq,Vh]at h;obtain⟨rfl,rfl,rfl⟩:=h;refine⟨v,pa,⟨hd,rfl,rfl,fun p hp=>⟨_,rfl,Ve.2 ⟨p,hp,rfl⟩⟩⟩,fun F0 H0 hF hH=> ?_⟩;obtain⟨m,hm,hrun⟩:=Acc.run_local (H' :=H0) _ _ _ _ hr;simp only[List.append_nil]at hm;have:=hrun fun id hid=>hH _ rfl id (by rw[hm];exact hid);simp [Ze0,hwc F0 hF,hw,hd,hac F0 hF,this,hj]
    ·simp at h
  ·simp at h
def Zv6(ops:Array Oper)(T:Nat->Option Trc)(i j:Nat):Prop:=
 ∀a b,ops[i]? =some a->ops[j]? =some b->ZfP ops a b=true/\ ∀u v,T i=some u->T j=some v->ZeG u.wr v.rd=true/\ZeG u.wr v.wr=true/\ZeG v.wr u.rd=true
theorem Zj2{a b:Oper}(h:ZfP ops a b=true): (∀d,a.dst=some d->d ∉ Zfy ops b/\b.dst≠some d)/\ ∀d,b.dst=some d->d ∉ Zfy ops a:=by
 unfold ZfP at h;simp only[Vk]at h;refine⟨fun d hd=> ?_,fun d hd=> ?_⟩
 ·have h1:=h.1;rw[hd]at h1;simp only[Vk,Vi]at h1;refine⟨fun hm=> ?_,fun he=> ?_⟩
  ·rw[Zbb.2 hm]at h1;simp at h1
  ·rw[he]at h1;simp at h1
 ·have h2:=h.2;rw[hd]at h2;simp only[Vi]at h2;intro hm;rw[Zbb.2 hm]at h2;simp at h2
theorem Ex'.swap{T:Nat->Option Trc}{i j:Nat}{l:List Nat}{F F' :Nat->AV}{H H' :AH}(h:Ex' E ops base fz T (i::j::l) F H F' H')(hi:Zv6 ops T i j):Ex' E ops base fz T (j::i::l) F H F' H' :=by
 cases h with
 | @cons oi _ _ _ _ F1 H1 _ _ hoi h1 h' =>
  cases h' with
  | @cons oj _ _ _ _ F2 H2 _ _ hoj h2 h'' =>
   obtain⟨hs,ht⟩:=hi oi oj hoi hoj;obtain⟨hd1,hd2⟩:=Zj2 hs;obtain⟨v1,p1,s1,c1⟩:=Zg6 h1;obtain⟨v2,p2,s2,c2⟩:=Zg6 h2
   have hF1: ∀k∈Zfy ops oj,F k=F1 k:=fun k hk=>by rw[s1.F,Ze9 fun e he hke=>(hd1 e he).1 (hke▸hk)]
   have hH1: ∀u,T j=some u-> ∀id∈u.rd,H id=H1 id:=fun u hu id hid=>by rw[s1.H,ZfB fun p hp e=> ?_];obtain⟨u1,hu1,hw⟩:=s1.wr p hp;exact ZcU.1 (ht u1 u hu1 hu).1 _ hw (e▸hid)
   have a1:=c2 F H hF1 hH1;have hF2: ∀k∈Zfy ops oi,ZhE F oj.dst v2 k=F k:=fun k hk=>Ze9 fun e he hke=>hd2 e he (hke▸hk)
   have hH2: ∀u,T i=some u-> ∀id∈u.rd,Zag H p2 id=H id:=fun u hu id hid=>ZfB fun p hp e=>by obtain⟨u2,hu2,hw⟩:=s2.wr p hp;exact ZcU.1 (ht u u2 hu hu2).2.2 _ hw (e▸hid)
   have a2:=c1 (ZhE F oj.dst v2) (Zag H p2) hF2 hH2
   have eF:ZhE (ZhE F oj.dst v2) oi.dst v1=F2:=by rw[s2.F,s1.F,Ztz fun d hd he=>(hd1 d he).2 hd]
   have eH:Zag (Zag H p2) p1=H2:=by rw[s2.H,s1.H];refine Zjg fun p hp q hq e=> ?_;obtain⟨u2,hu2,hw2⟩:=s2.wr p hp;obtain⟨u1,hu1,hw1⟩:=s1.wr q hq;exact ZcU.1 (ht u1 u2 hu1 hu2).2.1 _ hw1 (e▸hw2)
   rw[eF,eH]at a2;exact .cons hoj a1 (.cons hoi a2 h'')
theorem Ex'.front{T:Nat->Option Trc}{i:Nat}{l:List Nat}{F' :Nat->AV}{H' :AH} : ∀ {pre:List Nat}{F:Nat->AV}{H:AH},Ex' E ops base fz T (pre++i::l) F H F' H' ->(∀j∈pre,Zv6 ops T j i)->Ex' E ops base fz T (i::(pre++l)) F H F' H'
 | [],_,_,h,_=>h
 |j::pre,F,H,h,hi=>by
  cases h with
  |cons ho h1 h' =>exact(Ex'.cons ho h1 (Ex'.front h' fun k hk=>hi k (by simp [hk]))).swap (hi j (by simp))
end
end Tr
