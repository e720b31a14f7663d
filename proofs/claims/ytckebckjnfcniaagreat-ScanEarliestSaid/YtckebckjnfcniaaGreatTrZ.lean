/- Regions of the abstract machine: single steps, what they read, and that independent steps may change places. Conditions: none. -/
import Derived.Test.YtckebckjnfcniaaGreatTrY
namespace Tr
open Go
section congr
variable {E:Env}{nid:Nat}{T:TypeId}{ev ev' :Operand->AV}
theorem ZcO{o:Option Operand}(h: ∀x∈o,ev x=ev' x):ZdD ev o=ZdD ev' o:=by
 cases o with
 |none=>rfl
 |some x=>simp [ZdD,h x (by simp)]
theorem ZfA{o:Option Operand}(h: ∀x∈o,ev x=ev' x): (o.bind fun o=>ZbI (ev o))=o.bind fun o=>ZbI (ev' o):=by
 cases o with
 |none=>rfl
 |some x=>simp [h x (by simp)]
theorem ZpU(op:Op)(h: ∀x∈op.operands,ev x=ev' x):aop E nid op T ev=aop E nid op T ev' :=by
 have pairs: ∀ps:Array (Nat×Operand),(∀x∈ps.toList.map (·.2),ev x=ev' x)->(ps.toList.map fun p=>(p.1,ev p.2))=(ps.toList.map fun p=>(p.1,ev' p.2)):=fun ps hp=>
  List.map_congr_left fun p hm=>by rw[hp p.2 (List.mem_map.2 ⟨p,hm,rfl⟩)]
 have lists: ∀xs:List Operand,(∀x∈xs,ev x=ev' x)->xs.map ev=xs.map ev' :=fun xs hp=>List.map_congr_left hp
 cases op<;>simp only[Op.operands]at h<;>simp only[aop]
 case move x=>rw[h x (by simp)]
 case assign x=>rw[h x (by simp)]
 case pick c x y=>rw[h c (by simp),h x (by simp),h y (by simp)]
 case box T x=>rw[h x (by simp)]
 case build T ps=>rw[pairs ps fun x hx=>h x (by simpa using hx)]
 case buildSlice T n ps=>rw[pairs ps fun x hx=>h x (by simpa using hx)]
 case load T x=>rw[h x (by simp)]
 case store T x y=>rw[h x (by simp),h y (by simp)]
 case nilCheck x=>rw[h x (by simp)]
 case binOp op T x y T' =>rw[h x (by simp),h y (by simp)]
 case unOp op T x=>rw[h x (by simp)]
 case convert S T x=>rw[h x (by simp)]
 case makeFunc fn first caps=>
  cases fn<;>simp only
  rw[lists caps.toList fun x hx=>h x (by simp [Array.mem_toList_iff.1 hx])]
 case makeMap T r=>
  cases r with
  |none=>rfl
  |some x=>simp only[h x (by simp)]
 case makeSlice T l c=>rw[h l (by simp),h c (by simp)]
 case slice T x lo hi mx=>
  cases mx with
  |some m=>
   cases hi with
   |none=>simp only
   |some hi=>
    have h1: ∀y∈lo,ev y=ev' y:=fun y hy=>h y (by simp at hy;subst hy;simp);have h2:ev hi=ev' hi:=h hi (by simp);have h3:ev m=ev' m:=h m (by simp);have h4:ZdD ev (some hi)=ZdD ev' (some hi):=ZcO fun y hy=>by simp at hy;subst hy;exact h2
    simp only
    rw[h x (by simp),ZcO h1,h4,ZfA h1,h2,h3]
  |none=>
   simp only;have h1: ∀y∈lo,ev y=ev' y:=fun y hy=>h y (by simp at hy;subst hy;simp);have h2: ∀y∈hi,ev y=ev' y:=fun y hy=>h y (by simp at hy;subst hy;simp);rw[h x (by simp),ZcO h1,ZcO h2,ZfA h1,ZfA h2]
 case fieldAddr T x f=>rw[h x (by simp)]
 case field T x f=>rw[h x (by simp)]
 case indexAddr T x i=>rw[h x (by simp),h i (by simp)]
 case index T x i=>rw[h x (by simp),h i (by simp)]
 case lookup T m k ok=>rw[h m (by simp),h k (by simp)]
 case mapUpdate T m k x=>rw[h m (by simp),h k (by simp),h x (by simp)]
 case range T x=>rw[h x (by simp)]
 case next it s=>cases s<;>simp only;rw[h it (by simp)]
 case entry it=>rw[h it (by simp)]
 case extract t i=>rw[h t (by simp)]
 case call c=>
  have hargs: ∀x∈c.args.toList,ev x=ev' x:=fun x hx=>h x (by simp [Call.operands,Array.mem_toList_iff.1 hx])
  cases hc:c.callee with
  |value f=>
   have hf:ev f=ev' f:=h f (by simp [Call.operands,hc])
   simp only[hf,lists _ hargs]
  |invoke r m=>rfl
  |builtin b=>
   cases b<;>simp only
   case len=>
    cases hl:c.args.toList with
    |nil=>rfl
    |cons x l=>cases l with
     |nil=>
      rw[hl]at hargs;have hx:ev x=ev' x:=hargs x (by simp)
      cases c.argTypes[0]? with
      |none=>rfl
      |some T0=>simp only[hx]
     |cons y l=>rfl
   case min=>
    cases hl:c.args.toList with
    |nil=>rfl
    |cons x l=>rw[hl]at hargs;simp only[hargs x (by simp),lists l fun y hy=>hargs y (by simp [hy])]
   case max=>
    cases hl:c.args.toList with
    |nil=>rfl
    |cons x l=>rw[hl]at hargs;simp only[hargs x (by simp),lists l fun y hy=>hargs y (by simp [hy])]
   case append=>
    cases hl:c.args.toList with
    |nil=>rfl
    |cons x l=>cases l with
     |nil=>rfl
     |cons y l=>cases l with
      |nil=>
       rw[hl]at hargs;have hx:ev x=ev' x:=hargs x (by simp);have hy:ev y=ev' y:=hargs y (by simp);generalize (c.argTypes[0]?).bind E.ty=q
       cases q with
       |none=>rfl
       |some t=>cases t<;>simp only[hx,hy]
      |cons z l=>rfl
   case copy=>
    cases hl:c.args.toList with
    |nil=>rfl
    |cons x l=>cases l with
     |nil=>rfl
     |cons y l=>cases l with
      |nil=>
       rw[hl]at hargs;have hx:ev x=ev' x:=hargs x (by simp);have hy:ev y=ev' y:=hargs y (by simp);generalize (c.argTypes[0]?).bind E.ty=q
       cases q with
       |none=>rfl
       |some t=>cases t<;>simp only[hx,hy]
      |cons z l=>rfl
   case cap=>
    cases hl:c.args.toList with
    |nil=>rfl
    |cons x l=>cases l with
     |nil=>
      rw[hl]at hargs;have hx:ev x=ev' x:=hargs x (by simp)
      cases c.argTypes[0]? with
      |none=>rfl
      |some T0=>simp only[hx]
     |cons y l=>rfl
end congr
theorem ZiS{t:Nat} : ∀ {l:List Operand},t∈Zhv l↔ .tmp t∈l
 | []=>by simp [Zhv]
 |x::l=>by cases x<;>simp [Zhv,ZiS]
theorem Zrm{F F' :Nat->AV}{l:List Operand}(h: ∀t∈Zhv l,F t=F' t): ∀x∈l,aev F x=aev F' x:=by
 intro x hx
 cases x with
 |tmp t=>exact h t (ZiS.2 hx)
 |_=>rfl
def Zb2(ops:Array Oper)(o:Oper)(F:Nat->AV):Option Bool:=
 match o.guard with
 |none=>some true
 |some (j,want)=>match (ops[j]?).bind (·.dst) with
  |none=>none
  |some g=>match F g with
   | .d .bool b=>some (b==want)
   | .tup .nil=>some false
   |_=>none
def Zee(E:Env)(ops:Array Oper)(base:Nat)(fz:List Nat)(i:Nat)(o:Oper)(F:Nat->AV)(H:AH):Option ((Nat->AV) ×AH×Option Trc):=
 match Zb2 ops o F with
 |none=>none
 |some false=>if ZfI E o.dst=true then some (Zgr F o.dst Zgt,H,none) else none
 |some true=>if ZfI E o.dst=true then((aop E (base+i*ZaH) o.op o.type (aev F)).run H []).bind fun r=>
   if ZdK (r.1.2.map Prod.fst) fz=true then some (Zgr F o.dst r.1.1,Zae H r.1.2,some ⟨i,r.2,r.1.2.map Prod.fst⟩) else none else none
theorem Zlu{F:Nat->AV}{g:Nat}{v:AV}(h:F g=v):Zkc F g v=F:=by
 funext k;unfold Zkc
 cases hb:Nat.beq k g with
 |true=>have:=Nat.eq_of_beq_eq_true hb;subst this;simp [h]
 |false=>rfl
section
variable {E:Env}{ops:Array Oper}{base:Nat}{fz:List Nat}
theorem ZnR{ρ:Type}{o:Oper}{i:Nat}{rest:List (Oper×Nat)}{F:Nat->AV}{H:AH}{tr:List Trc}{k: (Nat->AV)->AH->List Trc->Option ρ}{r:ρ}(h:Zfn E ops base fz ρ ((o,i)::rest) F H tr k=some r):
  ∃F1 H1 t,Zee E ops base fz i o F H=some (F1,H1,t)/\Zfn E ops base fz ρ rest F1 H1 (t.toList++tr) k=some r:=by
 have go:Zb2 ops o F=some true->(bif ZfI E o.dst then
   (aop E (base+i*ZaH) o.op o.type (aev F)).runK H [] fun r rd=>
    bif ZdK (r.2.map Prod.fst) fz then
     Zfn E ops base fz ρ rest (Zgr F o.dst r.1) (Zae H r.2) (⟨i,rd,r.2.map Prod.fst⟩::tr) k else none else none)=some r->
   ∃F1 H1 t,Zee E ops base fz i o F H=some (F1,H1,t)/\Zfn E ops base fz ρ rest F1 H1 (t.toList++tr) k=some r:=by
  intro hw h
  cases hd:ZfI E o.dst with
  |false=>rw[hd]at h;simp at h
  |true=>
   rw[hd]at h;simp only[cond_true,Acc.runK_eq]at h
   cases hr: (aop E (base+i*ZaH) o.op o.type (aev F)).run H [] with
   |none=>rw[hr]at h;simp at h
   |some y=>
    rw[hr]at h;simp only[Option.bind_some]at h
    cases hj:ZdK (y.1.2.map Prod.fst) fz with
    |false=>rw[hj]at h;simp at h
    |true=>
     rw[hj]at h;exact⟨Zgr F o.dst y.1.1,Zae H y.1.2,some ⟨i,y.2,y.1.2.map Prod.fst⟩,by simp [Zee,hw,hd,hr,hj],by simpa using h⟩
 have skip:Zb2 ops o F=some false->(bif ZfI E o.dst then Zfn E ops base fz ρ rest (Zgr F o.dst Zgt) H tr k else none)=some r->
   ∃F1 H1 t,Zee E ops base fz i o F H=some (F1,H1,t)/\Zfn E ops base fz ρ rest F1 H1 (t.toList++tr) k=some r:=by
  intro hw h
  cases hd:ZfI E o.dst with
  |false=>rw[hd]at h;simp at h
  |true=>
   rw[hd]at h;exact⟨Zgr F o.dst Zgt,H,none,by simp [Zee,hw,hd],by simpa using h⟩
 simp only[Zfn]at h
 cases hg:o.guard with
 |none=>
  rw[hg]at h
  exact go (by simp [Zb2,hg]) h
 |some jw=>
  obtain⟨j,want⟩:=jw;rw[hg]at h;simp only at h;split at h
  ·simp at h
  ·rename_i g hgd;split at h
   ·rename_i b hb
    cases b with
    |true=>
     rw[Zlu hb]at h;simp only[cond_true]at h
     cases want with
     |true=>exact go (by simp [Zb2,hg,hgd,hb]) h
     |false=>exact skip (by simp [Zb2,hg,hgd,hb]) h
    |false=>
     rw[Zlu hb]at h;simp only[cond_false]at h
     cases want with
     |true=>exact skip (by simp [Zb2,hg,hgd,hb]) h
     |false=>exact go (by simp [Zb2,hg,hgd,hb]) h
   ·rename_i hb;exact skip (by simp [Zb2,hg,hgd,hb]) h
   ·simp at h
inductive AE (E:Env) (ops:Array Oper) (base:Nat) (fz:List Nat):List (Oper×Nat)->(Nat->AV)->AH->List Trc->(Nat->AV)->AH->List Trc->Prop
 |nil {F H tr} :AE E ops base fz [] F H tr F H tr
 |cons {o i rest F H tr F1 H1 t F' H' tr'} (h:Zee E ops base fz i o F H=some (F1,H1,t)) (h' :AE E ops base fz rest F1 H1 (t.toList++tr) F' H' tr'):AE E ops base fz ((o,i)::rest) F H tr F' H' tr'
theorem ZeW{ρ:Type} : ∀ {l:List (Oper×Nat)}{F:Nat->AV}{H:AH}{tr:List Trc}{k: (Nat->AV)->AH->List Trc->Option ρ}{r:ρ},Zfn E ops base fz ρ l F H tr k=some r-> ∃F' H' tr',AE E ops base fz l F H tr F' H' tr' /\k F' H' tr' =some r
 | [],F,H,tr,k,r,h=>⟨F,H,tr, .nil,by simpa only[Zfn] using h⟩
 | (o,i)::rest,F,H,tr,k,r,h=>by obtain⟨F1,H1,t,h1,h2⟩:=ZnR h;obtain⟨F',H',tr',h3,h4⟩:=ZeW h2;exact⟨F',H',tr', .cons h1 h3,h4⟩
inductive Ex' (E:Env) (ops:Array Oper) (base:Nat) (fz:List Nat) (T:Nat->Option Trc):List Nat->(Nat->AV)->AH->(Nat->AV)->AH->Prop
 |nil {F H} :Ex' E ops base fz T [] F H F H
 |cons {o i rest F H F1 H1 F' H'} (ho:ops[i]? =some o) (h:Zee E ops base fz i o F H=some (F1,H1,T i)) (h' :Ex' E ops base fz T rest F1 H1 F' H'):Ex' E ops base fz T (i::rest) F H F' H'
theorem ZlT{i:Nat}{o:Oper}{F F1:Nat->AV}{H H1:AH}{t:Trc}(h:Zee E ops base fz i o F H=some (F1,H1,some t)):t.i=i:=by
 unfold Zee at h;split at h
 ·simp at h
 ·split at h<;>simp at h
 ·split at h
  ·cases hr: (aop E (base+i*ZaH) o.op o.type (aev F)).run H [] with
   |none=>rw[hr]at h;simp at h
   |some y=>
    rw[hr]at h;simp only[Option.bind_some]at h;split at h
    ·simp only[Option.some.injEq,Prod.mk.injEq]at h;rw[<-h.2.2]
    ·simp at h
  ·simp at h
theorem Zgl{i:Nat}{t:Option Trc}{tr:List Trc}(h: ∀u∈t,u.i≠i):Zeo i (t.toList++tr)=Zeo i tr:=by
 cases t with
 |none=>rfl
 |some u=>
  have:Nat.beq u.i i=false:=by
   cases hb:Nat.beq u.i i
   ·rfl
   ·exact absurd (Nat.eq_of_beq_eq_true hb) (h u rfl)
  simp [Zeo,this]
theorem AE.other: ∀ {l:List (Oper×Nat)}{F:Nat->AV}{H:AH}{tr:List Trc}{F' :Nat->AV}{H' :AH}{tr' :List Trc},AE E ops base fz l F H tr F' H' tr' -> ∀i,(∀p∈l,p.2≠i)->Zeo i tr' =Zeo i tr:=by
 intro l F H tr F' H' tr' h
 induction h with
 |nil=>intro i _;rfl
 |cons h h' ih=>
  intro i hi;rw[ih i fun p hp=>hi p (by simp [hp])];refine Zgl fun u hu=> ?_;simp only[Option.mem_def]at hu;subst hu;rw[ZlT h];exact hi _ (List.mem_cons_self ..)
theorem AE.ex: ∀ {l:List (Oper×Nat)}{F:Nat->AV}{H:AH}{tr:List Trc}{F' :Nat->AV}{H' :AH}{tr' :List Trc},AE E ops base fz l F H tr F' H' tr' ->(l.map Prod.snd).Nodup->(∀p∈l,ops[p.2]? =some p.1)->(∀p∈l,Zeo p.2 tr=none)->
  Ex' E ops base fz (fun i=>Zeo i tr') (l.map Prod.snd) F H F' H' :=by
 intro l F H tr F' H' tr' h
 induction h with
 |nil=>intros;exact .nil
 | @cons o i rest F H tr F1 H1 t F' H' tr' h h' ih=>
  intro hn ho ht;simp only[List.map_cons,List.nodup_cons]at hn
  have hti:Zeo i tr' =t:=by
   rw[h'.other i fun p hp e=>hn.1 (List.mem_map.2 ⟨p,hp,e⟩)]
   cases t with
   |none=>exact ht _ (List.mem_cons_self ..)
   |some u=>simp [Zeo,ZlT h]
  refine .cons (ho _ (List.mem_cons_self ..)) (by simpa only[hti] using h) (ih hn.2 (fun p hp=>ho p (by simp [hp])) fun p hp=> ?_);rw[Zgl fun u hu=> ?_]
  ·exact ht p (by simp [hp])
  ·simp only[Option.mem_def]at hu;subst hu;rw[ZlT h];intro e;exact hn.1 (List.mem_map.2 ⟨p,hp,e.symm⟩)
theorem Zd9{F:Nat->AV}{d:Option Nat}{v:AV}{k:Nat}(h: ∀e,d=some e->k≠e):Zgr F d v k=F k:=by
 cases d with
 |none=>rfl
 |some e=>
  have:Nat.beq k e=false:=by
   cases hb:Nat.beq k e
   ·rfl
   ·exact absurd (Nat.eq_of_beq_eq_true hb) (h e rfl)
  simp [Zgr,Zkc,this]
theorem Zpr{F:Nat->AV}{d e:Option Nat}{v u:AV}(h: ∀x,d=some x->e≠some x):Zgr (Zgr F d v) e u=Zgr (Zgr F e u) d v:=by
 funext k;by_cases h1: ∃x,d=some x/\k=x
 ·obtain⟨x,rfl,rfl⟩:=h1;have h2: ∀y,e=some y->k≠y:=fun y hy hk=>h k rfl (by rw[hy,hk]);rw[Zd9 h2];simp [Zgr,Zkc]
 ·have h1' : ∀x,d=some x->k≠x:=fun x hx hk=>h1 ⟨x,hx,hk⟩;rw[Zd9 h1'];by_cases h2: ∃y,e=some y/\k=y
  ·obtain⟨y,rfl,rfl⟩:=h2;simp [Zgr,Zkc]
  ·have h2' : ∀x,e=some x->k≠x:=fun x hx hk=>h2 ⟨x,hx,hk⟩;rw[Zd9 h2',Zd9 h2',Zd9 h1']
theorem Zh7: ∀ {l m:Zbn}{H:AH},(∀p∈l, ∀q∈m,p.1≠q.1)->Zae (Zae H l) m=Zae (Zae H m) l
 | [],m,H,_=>rfl
 |p::l,m,H,h=>by simp only[Zae];rw[Zh7 fun x hx=>h x (by simp [hx]),Zfg fun q hq=>(h p (by simp) q hq).symm]
structure Stp (E:Env) (ops:Array Oper) (i:Nat) (o:Oper) (F:Nat->AV) (H:AH) (F1:Nat->AV) (H1:AH) (t:Option Trc) (v:AV) (pa:Zbn):Prop where
 dst:ZfI E o.dst=true
 F:F1=Zgr F o.dst v
 H:H1=Zae H pa
 wr: ∀p∈pa, ∃u,t=some u/\p.1∈u.wr
theorem Zgk{i:Nat}{o:Oper}{F F1:Nat->AV}{H H1:AH}{t:Option Trc}(h:Zee E ops base fz i o F H=some (F1,H1,t)):
  ∃v pa,Stp E ops i o F H F1 H1 t v pa/\ ∀F0 H0,(∀k∈ZeL ops o,F0 k=F k)->(∀u,t=some u-> ∀id∈u.rd,H0 id=H id)->Zee E ops base fz i o F0 H0=some (Zgr F0 o.dst v,Zae H0 pa,t):=by
 have hwc: ∀F0:Nat->AV,(∀k∈ZeL ops o,F0 k=F k)->Zb2 ops o F0=Zb2 ops o F:=by
  intro F0 hF;unfold Zb2
  cases hg:o.guard with
  |none=>rfl
  |some jw=>
   obtain⟨j,want⟩:=jw;simp only
   cases hgd: (ops[j]?).bind (·.dst) with
   |none=>rfl
   |some g=>simp only;rw[hF g (by simp [ZeL,hg,hgd])]
 have hac: ∀F0:Nat->AV,(∀k∈ZeL ops o,F0 k=F k)->aop E (base+i*ZaH) o.op o.type (aev F0)=aop E (base+i*ZaH) o.op o.type (aev F):=by intro F0 hF;refine ZpU o.op fun x hx=>Zrm (l:=o.op.operands.toList) (fun t ht=>hF t (by simp [ZeL,ht])) x (Array.mem_toList_iff.2 hx)
 unfold Zee at h;split at h
 ·simp at h
 ·rename_i hw;split at h
  ·rename_i hd;simp only[Option.some.injEq,Prod.mk.injEq]at h;obtain⟨rfl,rfl,rfl⟩:=h;exact⟨Zgt,[],⟨hd,rfl,rfl,by simp⟩,fun F0 H0 hF _=>by simp [Zee,hwc F0 hF,hw,hd,Zae]⟩
  ·simp at h
 ·rename_i hw;split at h
  ·rename_i hd
   cases hr: (aop E (base+i*ZaH) o.op o.type (aev F)).run H [] with
   |none=>rw[hr]at h;simp at h
   |some y=>
    obtain⟨⟨v,pa⟩,rd⟩:=y;rw[hr]at h;simp only[Option.bind_some]at h;split at h
    ·rename_i hj;simp only[Option.some.injEq,Prod.mk.injEq]at h;obtain⟨rfl,rfl,rfl⟩:=h;refine⟨v,pa,⟨hd,rfl,rfl,fun p hp=>⟨_,rfl,List.mem_map.2 ⟨p,hp,rfl⟩⟩⟩,fun F0 H0 hF hH=> ?_⟩;obtain⟨m,hm,hrun⟩:=Acc.run_local (H' :=H0) _ _ _ _ hr;simp only[List.append_nil]at hm;have:=hrun fun id hid=>hH _ rfl id (by rw[hm];exact hid);simp [Zee,hwc F0 hF,hw,hd,hac F0 hF,this,hj]
    ·simp at h
  ·simp at h
def Ztq(ops:Array Oper)(T:Nat->Option Trc)(i j:Nat):Prop:=
 ∀a b,ops[i]? =some a->ops[j]? =some b->ZeQ ops a b=true/\ ∀u v,T i=some u->T j=some v->ZdK u.wr v.rd=true/\ZdK u.wr v.wr=true/\ZdK v.wr u.rd=true
theorem Zil{a b:Oper}(h:ZeQ ops a b=true): (∀d,a.dst=some d->d ∉ ZeL ops b/\b.dst≠some d)/\ ∀d,b.dst=some d->d ∉ ZeL ops a:=by
 unfold ZeQ at h;simp only[Bool.and_eq_true]at h;refine⟨fun d hd=> ?_,fun d hd=> ?_⟩
 ·have h1:=h.1;rw[hd]at h1;simp only[Bool.and_eq_true,Bool.not_eq_true']at h1;refine⟨fun hm=> ?_,fun he=> ?_⟩
  ·rw[Za3.2 hm]at h1;simp at h1
  ·rw[he]at h1;simp at h1
 ·have h2:=h.2;rw[hd]at h2;simp only[Bool.not_eq_true']at h2;intro hm;rw[Za3.2 hm]at h2;simp at h2
theorem Ex'.swap{T:Nat->Option Trc}{i j:Nat}{l:List Nat}{F F' :Nat->AV}{H H' :AH}(h:Ex' E ops base fz T (i::j::l) F H F' H')(hi:Ztq ops T i j):Ex' E ops base fz T (j::i::l) F H F' H' :=by
 cases h with
 | @cons oi _ _ _ _ F1 H1 _ _ hoi h1 h' =>
  cases h' with
  | @cons oj _ _ _ _ F2 H2 _ _ hoj h2 h'' =>
   obtain⟨hs,ht⟩:=hi oi oj hoi hoj;obtain⟨hd1,hd2⟩:=Zil hs;obtain⟨v1,p1,s1,c1⟩:=Zgk h1;obtain⟨v2,p2,s2,c2⟩:=Zgk h2
   have hF1: ∀k∈ZeL ops oj,F k=F1 k:=fun k hk=>by rw[s1.F,Zd9 fun e he hke=>(hd1 e he).1 (hke▸hk)]
   have hH1: ∀u,T j=some u-> ∀id∈u.rd,H id=H1 id:=fun u hu id hid=>by rw[s1.H,ZeM fun p hp e=> ?_];obtain⟨u1,hu1,hw⟩:=s1.wr p hp;exact ZcB.1 (ht u1 u hu1 hu).1 _ hw (e▸hid)
   have a1:=c2 F H hF1 hH1;have hF2: ∀k∈ZeL ops oi,Zgr F oj.dst v2 k=F k:=fun k hk=>Zd9 fun e he hke=>hd2 e he (hke▸hk)
   have hH2: ∀u,T i=some u-> ∀id∈u.rd,Zae H p2 id=H id:=fun u hu id hid=>ZeM fun p hp e=>by obtain⟨u2,hu2,hw⟩:=s2.wr p hp;exact ZcB.1 (ht u u2 hu hu2).2.2 _ hw (e▸hid)
   have a2:=c1 (Zgr F oj.dst v2) (Zae H p2) hF2 hH2
   have eF:Zgr (Zgr F oj.dst v2) oi.dst v1=F2:=by rw[s2.F,s1.F,Zpr fun d hd he=>(hd1 d he).2 hd]
   have eH:Zae (Zae H p2) p1=H2:=by rw[s2.H,s1.H];refine Zh7 fun p hp q hq e=> ?_;obtain⟨u2,hu2,hw2⟩:=s2.wr p hp;obtain⟨u1,hu1,hw1⟩:=s1.wr q hq;exact ZcB.1 (ht u1 u2 hu1 hu2).2.1 _ hw1 (e▸hw2)
   rw[eF,eH]at a2;exact .cons hoj a1 (.cons hoi a2 h'')
theorem Ex'.front{T:Nat->Option Trc}{i:Nat}{l:List Nat}{F' :Nat->AV}{H' :AH} : ∀ {pre:List Nat}{F:Nat->AV}{H:AH},Ex' E ops base fz T (pre++i::l) F H F' H' ->(∀j∈pre,Ztq ops T j i)->Ex' E ops base fz T (i::(pre++l)) F H F' H'
 | [],_,_,h,_=>h
 |j::pre,F,H,h,hi=>by
  cases h with
  |cons ho h1 h' =>exact(Ex'.cons ho h1 (Ex'.front h' fun k hk=>hi k (by simp [hk]))).swap (hi j (by simp))
end
end Tr
