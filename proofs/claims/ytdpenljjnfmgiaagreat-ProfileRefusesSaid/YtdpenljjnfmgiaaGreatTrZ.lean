/- Regions of the abstract machine: single steps, what they read, and that independent steps may change places. Conditions: none. -/
import Derived.Test.YtdpenljjnfmgiaaGreatTrY
open Array renaming mem_toList_iff ->Va
open Bool renaming not_eq_true' ->Vc,and_eq_true ->Vf
open Nat renaming beq ->Vd
open Option renaming bind_some ->Ve,mem_def ->Vg
open Prod renaming fst ->Vb
open Prod.mk renaming injEq ->Vh
namespace Tr
open Go
section congr
variable {E:Env}{nid:Nat}{T:TypeId}{ev ev' :Operand->AV}
theorem Zbt{o:Option Operand}(h: ∀x∈o,ev x=ev' x):Zbm ev o=Zbm ev' o:=by
 cases o with
 |none=>rfl
 |some x=>simp [Zbm,h x (by simp)]
theorem Zcx{o:Option Operand}(h: ∀x∈o,ev x=ev' x): (o.bind fun o=>Zba (ev o))=o.bind fun o=>Zba (ev' o):=by
 cases o with
 |none=>rfl
 |some x=>grind
theorem Zla(op:Op)(h: ∀x∈op.operands,ev x=ev' x):Za1 E nid op T ev=Za1 E nid op T ev' :=by
 have pairs: ∀ps:Array (Nat×Operand),(∀x∈ps.toList.map (·.2),ev x=ev' x)->(ps.toList.map fun p=>(p.1,ev p.2))=(ps.toList.map fun p=>(p.1,ev' p.2)):=fun ps hp=>
  List.map_congr_left (by grind)
 have lists: ∀xs:List Operand,(∀x∈xs,ev x=ev' x)->xs.map ev=xs.map ev' :=by simp
 cases op<;>simp only[Op.operands]at h<;>simp only[Za1]
 case move x=>grind
 case assign x=>grind
 case pick c x y=>grind
 case box T x=>grind
 case build T ps=>grind
 case buildSlice T n ps=>grind
 case load T x=>grind
 case store T x y=>simp_all
 case nilCheck x=>grind
 case binOp op T x y T' =>grind
 case unOp op T x=>grind
 case convert S T x=>grind
 case makeFunc fn first caps=>
  cases fn<;>simp only
  grind
 case makeMap T r=>
  grind
 case makeSlice T l c=>grind
 case slice T x lo hi mx=>
  cases mx with
  |some m=>
   cases hi with
   |none=>rfl
   |some hi=>
    have h1: ∀y∈lo,ev y=ev' y:=by simp_all
    have h2:ev hi=ev' hi:=by grind
    have h3:ev m=ev' m:=h m (by simp);have h4:Zbm ev (some hi)=Zbm ev' (some hi):=Zbt (by grind);simp only
    rw[h x (by simp),Zbt h1,h4,Zcx h1,h2,h3]
  |none=>
   simp only;have h1: ∀y∈lo,ev y=ev' y:=by simp_all
   have h2: ∀y∈hi,ev y=ev' y:=by simp_all
   rw[h x (by simp),Zbt h1,Zbt h2,Zcx h1,Zcx h2]
 case fieldAddr T x f=>grind
 case field T x f=>grind
 case indexAddr T x i=>grind
 case index T x i=>grind
 case lookup T m k ok=>grind
 case mapUpdate T m k x=>grind
 case range T x=>grind
 case next it s=>cases s<;>simp only;grind
 case entry it=>grind
 case extract t i=>grind
 case call c=>
  have hargs: ∀x∈c.args.toList,ev x=ev' x:=fun x hx=>h x (by simp [Call.operands,Va.1 hx])
  cases hc:c.callee with
  |value f=>
   have hf:ev f=ev' f:=h f (by simp [Call.operands,hc])
   grind
  |invoke r m=>rfl
  |builtin b=>
   cases b<;>simp only
   all_goals grind
theorem ZmO(op:Op)(h: ∀x∈op.operands,ev x=ev' x):aop E nid op T ev=aop E nid op T ev' :=by
 have h0:=Zla (E:=E) (nid:=nid) (T:=T) op h;have lists: ∀xs:List Operand,(∀x∈xs,ev x=ev' x)->xs.map ev=xs.map ev' :=by simp
 cases op
 case slice T x lo hi mx=>
  cases mx with
  |some m=>exact h0
  |none=>
   simp only[Op.operands]at h;simp only[aop,h0];have h1: ∀y∈lo,ev y=ev' y:=by simp_all
   have h2: ∀y∈hi,ev y=ev' y:=by simp_all
   rw[h x (by simp),Zbt h1,Zbt h2,Zcx h1,Zcx h2]
 all_goals simp only[Op.operands]at h
 all_goals simp only[aop,h0]
 case buildSlice T n ps=>
  have: ∀x,ps.toList=[(0,x)]->ev x=ev' x:=fun x hx=>h x (by rw[<-Va];simp [hx])
  grind
 case load T x=>rw[h x (by simp)]
 case store T x y=>rw[h x (by simp),h y (by simp)]
 case binOp op T x y T' =>rw[h x (by simp),h y (by simp)]
 case makeSlice T l c=>rw[h l (by simp),h c (by simp)]
 case indexAddr T x i=>rw[h x (by simp),h i (by simp)]
 case call c=>
  have hargs: ∀x∈c.args.toList,ev x=ev' x:=fun x hx=>h x (by simp [Call.operands,Va.1 hx])
  cases hc:c.callee with
  |value f=>
   have hf:ev f=ev' f:=h f (by simp [Call.operands,hc]);simp only
   rw[hf,lists _ hargs]
  |invoke r m=>rfl
  |builtin b=>
   cases b<;>simp only
   case append=>
    rcases hl:c.args.toList with _| ⟨s,_| ⟨x,_| ⟨y,l⟩⟩⟩
    ·rfl
    ·rfl
    ·have h1:=hargs s (by simp [hl]);have h2:=hargs x (by simp [hl])
     cases (c.argTypes[0]?).bind (ZiB E) with
     |none=>rfl
     |some t=>cases (c.argTypes[1]?).bind E.ty with
      |none=>rfl
      |some t' =>cases t' <;>first|rfl| (simp only[h1,h2])
    ·rfl
   case clear=>
    rcases hl:c.args.toList with _| ⟨x,_| ⟨y,l⟩⟩
    ·rfl
    ·have h1:=hargs x (by simp [hl])
     cases (c.argTypes[0]?).bind E.ty with
     |none=>rfl
     |some t=>cases t<;>first|rfl| (simp only[h1])
    ·rfl
   all_goals grind
end congr
theorem Zht{t:Nat} : ∀ {l:List Operand},t∈Zgb l↔ .tmp t∈l
 | []=>by simp [Zgb]
 |x::l=>by cases x<;>simp [Zgb,Zht]
theorem Zmw{F F' :Nat->AV}{l:List Operand}(h: ∀t∈Zgb l,F t=F' t): ∀x∈l,aev F x=aev F' x:=by
 intro x hx
 cases x with
 |tmp t=>exact h t (Zht.2 hx)
 |_=>rfl
def Zbz(ops:Array Oper)(o:Oper)(F:Nat->AV):Option Bool:=
 match o.guard with
 |none=>some true
 |some (j,want)=>match (ops[j]?).bind (·.dst) with
  |none=>none
  |some g=>match F g with
   | .d .bool b=>some (b==want)
   | .tup .nil=>some false
   |_=>none
def ZcS(E:Env)(ops:Array Oper)(base:Nat)(fz:List Nat)(i:Nat)(o:Oper)(F:Nat->AV)(H:AH):Option ((Nat->AV) ×AH×Option Trc):=
 match Zbz ops o F with
 |none=>none
 |some false=>if ZdG E o.dst=true then some (ZeA F o.dst Zez,H,none) else none
 |some true=>if ZdG E o.dst=true then((aop E (base+i*E.stp) o.op o.type (aev F)).run H []).bind fun r=>
   if ZcA (r.1.2.map Vb) fz=true then some (ZeA F o.dst r.1.1,Zad H r.1.2,some ⟨i,r.2,r.1.2.map Vb⟩) else none else none
theorem ZiY{F:Nat->AV}{g:Nat}{v:AV}(h:F g=v):Zig F g v=F:=by
 funext k;unfold Zig
 cases hb:Vd k g with
 |true=>simp_all
 |false=>rfl
section
variable {E:Env}{ops:Array Oper}{base:Nat}{fz:List Nat}
theorem ZlI{ρ:Type}{o:Oper}{i:Nat}{rest:List (Oper×Nat)}{F:Nat->AV}{H:AH}{tr:List Trc}{k: (Nat->AV)->AH->List Trc->Option ρ}{r:ρ}(h:Zep E ops base fz ρ ((o,i)::rest) F H tr k=some r):
  ∃F1 H1 t,ZcS E ops base fz i o F H=some (F1,H1,t)/\Zep E ops base fz ρ rest F1 H1 (t.toList++tr) k=some r:=by
 have go:Zbz ops o F=some true->(bif ZdG E o.dst then
   (aop E (base+i*E.stp) o.op o.type (aev F)).runK H [] fun r rd=>
    bif ZcA (r.2.map Vb) fz then
     Zep E ops base fz ρ rest (ZeA F o.dst r.1) (Zad H r.2) (⟨i,rd,r.2.map Vb⟩::tr) k else none else none)=some r->
   ∃F1 H1 t,ZcS E ops base fz i o F H=some (F1,H1,t)/\Zep E ops base fz ρ rest F1 H1 (t.toList++tr) k=some r:=by
  intro hw h
  cases hd:ZdG E o.dst with
  |false=>grind
  |true=>
   rw[hd]at h;simp only[cond_true,Acc.runK_eq]at h
   cases hr: (aop E (base+i*E.stp) o.op o.type (aev F)).run H [] with
   |none=>grind
   |some y=>
    rw[hr]at h;simp only[Ve]at h
    cases hj:ZcA (y.1.2.map Vb) fz with
    |false=>grind
    |true=>
     rw[hj]at h;exact⟨ZeA F o.dst y.1.1,Zad H y.1.2,some ⟨i,y.2,y.1.2.map Vb⟩,by simp [ZcS,hw,hd,hr,hj],by grind⟩
 have skip:Zbz ops o F=some false->(bif ZdG E o.dst then Zep E ops base fz ρ rest (ZeA F o.dst Zez) H tr k else none)=some r->
   ∃F1 H1 t,ZcS E ops base fz i o F H=some (F1,H1,t)/\Zep E ops base fz ρ rest F1 H1 (t.toList++tr) k=some r:=by
  intro hw h
  cases hd:ZdG E o.dst with
  |false=>grind
  |true=>
   rw[hd]at h;exact⟨ZeA F o.dst Zez,H,none,by simp [ZcS,hw,hd],by grind⟩
 simp only[Zep]at h
 cases hg:o.guard with
 |none=>
  rw[hg]at h
  exact go (by simp [Zbz,hg]) h
 |some jw=>
  obtain⟨j,want⟩:=jw;rw[hg]at h;simp only at h;split at h
  ·grind
  ·rename_i g hgd;split at h
   ·rename_i b hb
    cases b with
    |true=>
     rw[ZiY hb]at h;simp only[cond_true]at h
     cases want with
     |true=>exact go (by simp [Zbz,hg,hgd,hb]) h
     |false=>exact skip (by simp [Zbz,hg,hgd,hb]) h
    |false=>
     rw[ZiY hb]at h;simp only[cond_false]at h
     cases want with
     |true=>exact skip (by simp [Zbz,hg,hgd,hb]) h
     |false=>exact go (by simp [Zbz,hg,hgd,hb]) h
   ·rename_i hb;exact skip (by simp [Zbz,hg,hgd,hb]) h
   grind
inductive AE (E:Env) (ops:Array Oper) (base:Nat) (fz:List Nat):List (Oper×Nat)->(Nat->AV)->AH->List Trc->(Nat->AV)->AH->List Trc->Prop
 |nil {F H tr} :AE E ops base fz [] F H tr F H tr
 |cons {o i rest F H tr F1 H1 t F' H' tr'} (h:ZcS E ops base fz i o F H=some (F1,H1,t)) (h' :AE E ops base fz rest F1 H1 (t.toList++tr) F' H' tr'):AE E ops base fz ((o,i)::rest) F H tr F' H' tr'
theorem Zd3{ρ:Type} : ∀ {l:List (Oper×Nat)}{F:Nat->AV}{H:AH}{tr:List Trc}{k: (Nat->AV)->AH->List Trc->Option ρ}{r:ρ},Zep E ops base fz ρ l F H tr k=some r-> ∃F' H' tr',AE E ops base fz l F H tr F' H' tr' /\k F' H' tr' =some r
 | [],F,H,tr,k,r,h=>⟨F,H,tr, .nil,by assumption⟩
 | (o,i)::rest,F,H,tr,k,r,h=>by obtain⟨F1,H1,t,h1,h2⟩:=ZlI h;obtain⟨F',H',tr',h3,h4⟩:=Zd3 h2;exact⟨F',H',tr', .cons h1 h3,h4⟩
inductive Ex' (E:Env) (ops:Array Oper) (base:Nat) (fz:List Nat) (T:Nat->Option Trc):List Nat->(Nat->AV)->AH->(Nat->AV)->AH->Prop
 |nil {F H} :Ex' E ops base fz T [] F H F H
 |cons {o i rest F H F1 H1 F' H'} (ho:ops[i]? =some o) (h:ZcS E ops base fz i o F H=some (F1,H1,T i)) (h' :Ex' E ops base fz T rest F1 H1 F' H'):Ex' E ops base fz T (i::rest) F H F' H'
theorem Zj1{i:Nat}{o:Oper}{F F1:Nat->AV}{H H1:AH}{t:Trc}(h:ZcS E ops base fz i o F H=some (F1,H1,some t)):t.i=i:=by
 unfold ZcS at h;split at h
 ·grind
 ·grind
 ·split at h
  ·cases hr: (aop E (base+i*E.stp) o.op o.type (aev F)).run H [] with
   |none=>grind
   |some y=>
    grind
  grind
theorem ZeQ{i:Nat}{t:Option Trc}{tr:List Trc}(h: ∀u∈t,u.i≠i):ZdH i (t.toList++tr)=ZdH i tr:=by
 cases t with
 |none=>rfl
 |some u=>
  have:Vd u.i i=false:=by
   cases hb:Vd u.i i
   all_goals simp_all
  simp [ZdH,this]
theorem AE.other: ∀ {l:List (Oper×Nat)}{F:Nat->AV}{H:AH}{tr:List Trc}{F' :Nat->AV}{H' :AH}{tr' :List Trc},AE E ops base fz l F H tr F' H' tr' -> ∀i,(∀p∈l,p.2≠i)->ZdH i tr' =ZdH i tr:=by
 intro l F H tr F' H' tr' h
 induction h with
 |nil=>simp
 |cons h h' ih=>
  intro i hi;rw[ih i (by grind)];refine ZeQ fun u hu=> ?_;simp only[Vg]at hu;subst hu;rw[Zj1 h]
  simp_all
theorem AE.ex: ∀ {l:List (Oper×Nat)}{F:Nat->AV}{H:AH}{tr:List Trc}{F' :Nat->AV}{H' :AH}{tr' :List Trc},AE E ops base fz l F H tr F' H' tr' ->(l.map Prod.snd).Nodup->(∀p∈l,ops[p.2]? =some p.1)->(∀p∈l,ZdH p.2 tr=none)->
  Ex' E ops base fz (fun i=>ZdH i tr') (l.map Prod.snd) F H F' H' :=by
 intro l F H tr F' H' tr' h
 induction h with
 |nil=>intros;exact .nil
 | @cons o i rest F H tr F1 H1 t F' H' tr' h h' ih=>
  intro hn ho ht;simp only[List.map_cons,List.nodup_cons]at hn
  have hti:ZdH i tr' =t:=by
   rw[h'.other i (by grind)]
   cases t with
   |none=>simp_all
   |some u=>simp [ZdH,Zj1 h]
  refine .cons (ho _ (List.mem_cons_self ..)) (by grind) (ih hn.2 (by grind) fun p hp=> ?_);rw[ZeQ fun u hu=> ?_]
  ·grind
  ·simp only[Vg]at hu;subst hu;rw[Zj1 h]
   grind
theorem Zdu{F:Nat->AV}{d:Option Nat}{v:AV}{k:Nat}(h: ∀e,d=some e->k≠e):ZeA F d v k=F k:=by
 cases d with
 |none=>rfl
 |some e=>
  have:Vd k e=false:=by
   cases hb:Vd k e
   all_goals simp_all
  simp [ZeA,Zig,this]
theorem ZmT{F:Nat->AV}{d e:Option Nat}{v u:AV}(h: ∀x,d=some x->e≠some x):ZeA (ZeA F d v) e u=ZeA (ZeA F e u) d v:=by
 funext k;by_cases h1: ∃x,d=some x/\k=x
 ·obtain⟨x,rfl,rfl⟩:=h1;have h2: ∀y,e=some y->k≠y:=by grind
  rw[Zdu h2];simp [ZeA,Zig]
 ·have h1' : ∀x,d=some x->k≠x:=by grind
  rw[Zdu h1'];by_cases h2: ∃y,e=some y/\k=y
  ·obtain⟨y,rfl,rfl⟩:=h2;simp [ZeA,Zig]
  ·have h2' : ∀x,e=some x->k≠x:=by grind
   rw[Zdu h2',Zdu h2',Zdu h1']
theorem Zgv: ∀ {l m:ZaY}{H:AH},(∀p∈l, ∀q∈m,p.1≠q.1)->Zad (Zad H l) m=Zad (Zad H m) l
 | [],m,H,_=>rfl
 |p::l,m,H,h=>by simp only[Zad];rw[Zgv (by grind),ZdZ (by grind)]
structure Stp (E:Env) (ops:Array Oper) (i:Nat) (o:Oper) (F:Nat->AV) (H:AH) (F1:Nat->AV) (H1:AH) (t:Option Trc) (v:AV) (pa:ZaY):Prop where
 dst:ZdG E o.dst=true
 F:F1=ZeA F o.dst v
 H:H1=Zad H pa
 wr: ∀p∈pa, ∃u,t=some u/\p.1∈u.wr
theorem Ze1{i:Nat}{o:Oper}{F F1:Nat->AV}{H H1:AH}{t:Option Trc}(h:ZcS E ops base fz i o F H=some (F1,H1,t)):
  ∃v pa,Stp E ops i o F H F1 H1 t v pa/\ ∀F0 H0,(∀k∈ZdV ops o,F0 k=F k)->(∀u,t=some u-> ∀id∈u.rd,H0 id=H id)->ZcS E ops base fz i o F0 H0=some (ZeA F0 o.dst v,Zad H0 pa,t):=by
 have hwc: ∀F0:Nat->AV,(∀k∈ZdV ops o,F0 k=F k)->Zbz ops o F0=Zbz ops o F:=by
  intro F0 hF;unfold Zbz
  cases hg:o.guard with
  |none=>rfl
  |some jw=>
   obtain⟨j,want⟩:=jw;simp only
   cases hgd: (ops[j]?).bind (·.dst) with
   |none=>rfl
   |some g=>simp only;rw[hF g (by simp [ZdV,hg,hgd])]
 have hac: ∀F0:Nat->AV,(∀k∈ZdV ops o,F0 k=F k)->aop E (base+i*E.stp) o.op o.type (aev F0)=aop E (base+i*E.stp) o.op o.type (aev F):=by intro F0 hF;refine ZmO o.op fun x hx=>Zmw (l:=o.op.operands.toList) (fun t ht=>hF t (by simp [ZdV,ht])) x (Va.2 hx)
 unfold ZcS at h;split at h
 ·grind
 ·rename_i hw;split at h
  ·rename_i hd;simp only[Option.some.injEq,Vh]at h;obtain⟨rfl,rfl,rfl⟩:=h;exact⟨Zez,[],⟨hd,rfl,rfl,by simp⟩,fun F0 H0 hF _=>by simp [ZcS,hwc F0 hF,hw,hd,Zad]⟩
  grind
 ·rename_i hw;split at h
  ·rename_i hd
   cases hr: (aop E (base+i*E.stp) o.op o.type (aev F)).run H [] with
   |none=>grind
   |some y=>
    obtain⟨⟨v,pa⟩,rd⟩:=y;rw[hr]at h;simp only[Ve]at h;split at h
    ·rename_i hj;simp only[Option.some.injEq,Vh]at h;obtain⟨rfl,rfl,rfl⟩:=h;refine⟨v,pa,⟨hd,rfl,rfl,by grind⟩,fun F0 H0 hF hH=> ?_⟩;obtain⟨m,hm,hrun⟩:=Acc.run_local (H' :=H0) _ _ _ _ hr;simp only[List.append_nil]at hm;have:=hrun fun id hid=>hH _ rfl id (by rw[hm];exact hid);simp [ZcS,hwc F0 hF,hw,hd,hac F0 hF,this,hj]
    grind
  grind
def Zp3(ops:Array Oper)(T:Nat->Option Trc)(i j:Nat):Prop:=
 ∀a b,ops[i]? =some a->ops[j]? =some b->Zd4 ops a b=true/\ ∀u v,T i=some u->T j=some v->ZcA u.wr v.rd=true/\ZcA u.wr v.wr=true/\ZcA v.wr u.rd=true
theorem ZgP{a b:Oper}(h:Zd4 ops a b=true): (∀d,a.dst=some d->d ∉ ZdV ops b/\b.dst≠some d)/\ ∀d,b.dst=some d->d ∉ ZdV ops a:=by
 unfold Zd4 at h;simp only[Vf]at h;refine⟨fun d hd=> ?_,fun d hd=> ?_⟩
 ·have h1:=h.1;rw[hd]at h1;simp only[Vf,Vc]at h1;refine⟨fun hm=> ?_,fun he=> ?_⟩
  ·rw[ZaQ.2 hm]at h1;grind
  simp_all
 ·have h2:=h.2;rw[hd]at h2;simp only[Vc]at h2;intro hm;rw[ZaQ.2 hm]at h2;grind
theorem Ex'.swap{T:Nat->Option Trc}{i j:Nat}{l:List Nat}{F F' :Nat->AV}{H H' :AH}(h:Ex' E ops base fz T (i::j::l) F H F' H')(hi:Zp3 ops T i j):Ex' E ops base fz T (j::i::l) F H F' H' :=by
 cases h with
 | @cons oi _ _ _ _ F1 H1 _ _ hoi h1 h' =>
  cases h' with
  | @cons oj _ _ _ _ F2 H2 _ _ hoj h2 h'' =>
   obtain⟨hs,ht⟩:=hi oi oj hoi hoj;obtain⟨hd1,hd2⟩:=ZgP hs;obtain⟨v1,p1,s1,c1⟩:=Ze1 h1;obtain⟨v2,p2,s2,c2⟩:=Ze1 h2
   have hF1: ∀k∈ZdV ops oj,F k=F1 k:=fun k hk=>by rw[s1.F,Zdu (by grind)]
   have hH1: ∀u,T j=some u-> ∀id∈u.rd,H id=H1 id:=fun u hu id hid=>by rw[s1.H,ZdQ fun p hp e=> ?_];obtain⟨u1,hu1,hw⟩:=s1.wr p hp;exact ZbW.1 (by grind) _ hw (e▸hid)
   have a1:=c2 F H hF1 hH1;have hF2: ∀k∈ZdV ops oi,ZeA F oj.dst v2 k=F k:=fun k hk=>Zdu (by grind)
   have hH2: ∀u,T i=some u-> ∀id∈u.rd,Zad H p2 id=H id:=fun u hu id hid=>ZdQ fun p hp e=>by obtain⟨u2,hu2,hw⟩:=s2.wr p hp;exact ZbW.1 (by grind) _ hw (e▸hid)
   have a2:=c1 (ZeA F oj.dst v2) (Zad H p2) hF2 hH2
   have eF:ZeA (ZeA F oj.dst v2) oi.dst v1=F2:=by rw[s2.F,s1.F,ZmT (by grind)]
   have eH:Zad (Zad H p2) p1=H2:=by rw[s2.H,s1.H];refine Zgv fun p hp q hq e=> ?_;obtain⟨u2,hu2,hw2⟩:=s2.wr p hp;obtain⟨u1,hu1,hw1⟩:=s1.wr q hq;exact ZbW.1 (by grind) _ hw1 (e▸hw2)
   rw[eF,eH]at a2;exact .cons hoj a1 (.cons hoi a2 h'')
theorem Ex'.front{T:Nat->Option Trc}{i:Nat}{l:List Nat}{F' :Nat->AV}{H' :AH} : ∀ {pre:List Nat}{F:Nat->AV}{H:AH},Ex' E ops base fz T (pre++i::l) F H F' H' ->(∀j∈pre,Zp3 ops T j i)->Ex' E ops base fz T (i::(pre++l)) F H F' H'
 | [],_,_,h,_=>h
 |j::pre,F,H,h,hi=>by
  cases h with
  |cons ho h1 h' =>exact(Ex'.cons ho h1 (Ex'.front h' (by grind))).swap (by grind)
end
end Tr
