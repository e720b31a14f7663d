/- Loops in plain Lean: with an invariant by rounds, and halving. Conditions: those of the theorems. -/
import Derived.Test.YtdpenljjnfmgiaaGreatTsH
import Derived.Test.YtdpenljjnfmgiaaGreatFin45b
import Derived.Test.YtdpenljjnfmgiaaGreatTsF
import Derived.Test.YtdpenljjnfmgiaaGreatCmp45
import Derived.Test.YtdpenljjnfmgiaaGreatTtA
open Bool renaming not_true ->Vj,not_false ->Vs,false_eq_true ->Via,false_or ->Vsa
open Int renaming toNat ->Vq,le_refl ->Vda,not_le ->Vpa,toNat_zero ->Vra
open Go.IntKind renaming wrap ->Vc
open List renaming take_succ_eq_append_getElem ->Vb,pairwise_iff_getElem ->Vd,getElem_mem ->Ve,getElem?_eq_getElem ->Vf,mem_singleton ->Vg,length_take ->Vh,getElem?_cons_zero ->Vi,length_map ->Vk,getElem?_cons_succ ->Vl,take_length ->Vm,mem_append ->Vn,mem_take_iff_getElem ->Vo,length ->Vp,getElem_of_mem ->Vr,length_cons ->Vt,mem_cons ->Vu,pairwise_append ->Vv,length_nil ->Vw,mem_map ->Vy,mem_drop_iff_getElem ->Vz,length_drop ->Vaa,getElem_map ->Vba,replicate ->Vea,mergeSort_perm ->Vfa,getD_cons_zero ->Vga,getD_cons_succ ->Vha,length_append ->Vja,getElem_take ->Vla,countP_cons ->Vma,map_append ->Vna,length_set ->Voa,drop_zero ->Vqa
open Nat renaming le_refl ->Vca,lt_or_gt_of_ne ->Vka
open Option renaming bind ->Va
open Sum renaming elim_inl ->Vx
namespace Q
open Tr Go
open Option (bind_some)
theorem Zel{σ τ:Type}{step:σ->Option (σ ⊕ τ)}(n:Nat)(P:τ->Prop)(Inv:Nat->σ->Prop)
  (hstep: ∀i s,i<n->Inv i s->(∃s',step s=some (.inl s')/\Inv (i+1) s')\/ ∃r,step s=some (.inr r)/\P r)
  (hend: ∀s,Inv n s-> ∃r,step s=some (.inr r)/\P r) (s:σ) (h0:Inv 0 s): ∃r,run step s=some r/\P r:=by
 have key: ∀ (k i:Nat) (s:σ),n - i=k->i<=n->Inv i s-> ∃r,run step s=some r/\P r:=by
  intro k
  induction k with
  |zero=>
   intro i s hk hi hs;have:i=n:=by omega
   subst this;obtain⟨r,h1,h2⟩:=hend s hs
   exact⟨r,ZkP h1,h2⟩
  |succ k ih=>
   intro i s hk hi hs;rcases hstep i s (by omega) hs with ⟨s',h1,h2⟩ | ⟨r,h1,h2⟩
   ·rw[Zm3 h1];exact ih (i+1) s' (by omega) (by omega) h2
   ·exact⟨r,ZkP h1,h2⟩
 exact key n 0 s (by omega) (by omega) h0
theorem Zic{α β:Type}{o:Option α}{f:α->Option β}{z:Option β}(P:α->Prop)(h: ∃r,o=some r/\P r)(k: ∀r,P r->f r=z):Va o f=z:=by obtain⟨r,rfl,hr⟩:=h;exact k r hr
end Q
namespace Q
open Tr Go
open Option (bind_some)
abbrev CoT:=Int×Int×Int×Int×Int×Unit
abbrev OpT:=El Y53
theorem Zjt{i n:Nat}(h:i<n)(hn:n<=9223372036854775807):Vc .i64 ((i:Int)+1)=((i+1:Nat):Int):=by rw[Zbr (by omega) (by omega)];omega
theorem ltD{i n:Nat}(h:i<n):decide ((i:Int)< (n:Int))=true:=decide_eq_true (by omega)
theorem Zns(n:Nat):decide ((n:Int)< (n:Int))=false:=decide_eq_false (by omega)
def opt(c:CoT):OpT:=((([]:List (El Y82)),()),c,([]:List (El ZjE)),())
theorem Zis(l:List CoT)(h:l.length<=20):F49 l=some (l.map opt):=by
 unfold F49;refine Zic (fun r=>r=l.map opt) (Zel l.length _ (fun i (s:List OpT×Int)=>s=((l.take i).map opt,(i:Int))) ?_ ?_ _ rfl) (fun r hr=>by rw[hr])
 ·rintro i _ hi rfl;refine .inl ⟨_, ?_,rfl⟩;simp only[ltD hi,cond_true,ZcY hi,bind_some];rw[decide_eq_true (by unfold Zaz;simp only[Vk,Vh,Vt,Vw];omega)];simp only[Zar,cond_true,bind_some];rw[Zjt hi (by omega),List.take_add_one,Vf hi];simp only[Vna,Option.toList_some,List.map_cons,List.map_nil];rfl
 ·rintro _ rfl;refine⟨_, ?_,rfl⟩;simp only[Zns,cond_false,Vm]
def Zmr(a b:CoT):Bool:=bif !decide (a.2.1=b.2.1) then decide (a.2.1<b.2.1) else bif !decide (a.2.2.1=b.2.2.1) then decide (a.2.2.1<b.2.2.1) else bif !decide (a.2.2.2.1=b.2.2.2.1) then decide (a.2.2.2.1<b.2.2.2.1) else decide (a.2.2.2.2.1<b.2.2.2.2.1)
theorem Zjs(a b:CoT):F80 a b=some (Zmr a b):=by
 unfold F80;refine Zic (fun r=>Sum.elim (fun _:Unit=>some false) (fun y:Bool=>some y) r=some (Zmr a b)) ?_ (fun r hr=>hr);have w1:Vc .i64 ((0:Int)+1)=1:=by rw[Zbr (by omega) (by omega)];rfl
 have w2:Vc .i64 ((1:Int)+1)=2:=by rw[Zbr (by omega) (by omega)];rfl
 have w3:Vc .i64 ((2:Int)+1)=3:=by rw[Zbr (by omega) (by omega)];rfl
 have w4:Vc .i64 ((3:Int)+1)=4:=by rw[Zbr (by omega) (by omega)];rfl
 unfold Zmr;rw[ZbB];by_cases h1:a.2.1=b.2.1
 case neg=>exact⟨.inr (decide (a.2.1<b.2.1)),by simp [inb,h1],by simp [h1]⟩
 simp only[show decide ((0:Int)<4)=true from rfl,show inb (0:Int) 4=some 0 from rfl,cond_true,bind_some,Vi,h1,decide_true,Vj,cond_false,Vx,w1];rw[ZbB];by_cases h2:a.2.2.1=b.2.2.1
 case neg=>exact⟨.inr (decide (a.2.2.1<b.2.2.1)),by simp [inb,h2],by simp [h2]⟩
 simp only[show decide ((1:Int)<4)=true from rfl,show inb (1:Int) 4=some 1 from rfl,cond_true,bind_some,Vl,Vi,h2,decide_true,Vj,cond_false,Vx,w2];rw[ZbB];by_cases h3:a.2.2.2.1=b.2.2.2.1
 case neg=>exact⟨.inr (decide (a.2.2.2.1<b.2.2.2.1)),by simp [inb,h3],by simp [h3]⟩
 simp only[show decide ((2:Int)<4)=true from rfl,show inb (2:Int) 4=some 2 from rfl,cond_true,bind_some,Vl,Vi,h3,decide_true,Vj,cond_false,Vx,w3];rw[ZbB];by_cases h4:a.2.2.2.2.1=b.2.2.2.2.1
 case neg=>exact⟨.inr (decide (a.2.2.2.2.1<b.2.2.2.2.1)),by simp [inb,h4],by simp⟩
 simp only[show decide ((3:Int)<4)=true from rfl,show inb (3:Int) 4=some 3 from rfl,cond_true,bind_some,Vl,Vi,h4,decide_true,Vj,cond_false,Vx,w4];rw[ZbB];exact⟨.inl (),by simp,by simp⟩
def ZiG(l:List OpT)(t:Int)(s:Int×Int):Option ((Int×Int) ⊕ Int):=
 bif decide (s.2< (l.length:Int)) then
  Va (idx l s.2) fun x=>Va (bif decide (t<=x.2.1.1) then bif decide (s.1<0) then some true else Va (idx l s.1) fun y=>some (Zmr x.2.1 y.2.1) else some false)
   fun b=>some (.inl (bif b then s.2 else s.1,Vc .i64 (s.2+1)))
 else some (.inr s.1)
noncomputable def atR(l:List OpT)(t:Int):Option Int:=run (ZiG l t) (-1,0)
theorem ZnE(l:List OpT)(t:Int): (run
 (fun s0=>
 bif decide (s0.2< (↑(Vp l):Int)) then
 Va (idx l s0.2) fun x1=>
 Va
 (bif decide (t<=x1.2.1.1) then
 bif decide (s0.1< (0:Int)) then some true
 else Va (idx l s0.1) fun x2=>Va (F80 x1.2.1 x2.2.1) fun x3=>some x3
 else some false)
 fun x4=>
 bif x4 then some (.inl (s0.2,Vc .i64 (s0.2+(1:Int)))) else some (.inl (s0.1,Vc .i64 (s0.2+(1:Int))))
 else some (.inr s0.1))
 ((-1:Int),(0:Int)))=atR l t:=by
 unfold atR;congr 1;funext s;unfold ZiG;simp only[Zjs]
 cases decide (s.2< (l.length:Int)) with
 |false=>rfl
 |true=>
  simp only[cond_true]
  cases idx l s.2 with
  |none=>rfl
  |some x=>
   simp only[bind_some];congr 1;funext b
   cases b<;>rfl
end Q
namespace Q
open Tr Go
open Option (bind_some)
abbrev PP:=List Int
abbrev dP(p:PP):Int:=p.getD 0 0
abbrev aP(p:PP):Int:=p.getD 1 0
def isP(p:PP):Prop:=p=[dP p,aP p]
theorem Zk0{p q:PP}(hp:isP p)(hq:isP q)(h1:dP p=dP q)(h2:aP p=aP q):p=q:=by rw[hp,hq,h1,h2]
def ltP(p q:PP):Prop:=dP p<dP q\/dP p=dP q/\aP p<aP q
theorem Ziq(p:PP): ¬ltP p p:=by unfold ltP;omega
theorem Zhw{p q r:PP}(h:ltP p q)(k:ltP q r):ltP p r:=by unfold ltP at*;omega
theorem Zek{p q:PP}(hp:isP p)(hq:isP q)(h:p≠q):ltP p q\/ltP q p:=by
 by_cases h1:dP p=dP q
 ·by_cases h2:aP p=aP q
  ·exact absurd (Zk0 hp hq h1 h2) h
  ·unfold ltP;omega
 ·unfold ltP;omega
def ZoU(o p:PP):Prop:=dP p<=dP o/\aP o<=aP p/\o≠p
def ZeS(S:List PP)(p:PP):Prop:= ∀o∈S, ¬ZoU o p
theorem Zj4{S:List PP}{p q:PP}(hS: ∀x∈S,isP x)(hp:p∈S)(hq:q∈S)(kp:ZeS S p)(kq:ZeS S q)(h:ltP p q):dP p<dP q/\aP p<aP q:=by have h0:p≠q:=fun e=>Ziq q (e▸h);have h1:=kp q hq;have h2:=kq p hp;unfold ZoU at h1 h2;have h3: ¬ (dP p<=dP q/\aP q<=aP p):=fun x=>h1 ⟨x.1,x.2,Ne.symm h0⟩;have h4: ¬ (dP q<=dP p/\aP p<=aP q):=fun x=>h2 ⟨x.1,x.2,h0⟩;unfold ltP at h;omega
theorem ZhP{cmp:PP->PP->Option Int}(hc: ∀p q,isP p->isP q-> ∃c,cmp p q=some c/\(c<0↔ltP p q))(xs:List PP)(hx: ∀p∈xs,isP p): ∃z:List PP,z.Perm xs/\Ze6 cmp z:=by
 let le:PP->PP->Bool:=fun p q=> !(decide (dP q<dP p\/dP q=dP p/\aP q<aP p))
 have hle: ∀p q,le p q=true↔ ¬ltP q p:=fun p q=>by simp only[le,Bool.not_eq_true',decide_eq_false_iff_not];exact Iff.rfl
 have hm: ∀p,p∈xs.mergeSort le->p∈xs:=fun p hp=>(Vfa _ _).mem_iff.1 hp
 have mono: ∀p q:PP,p∈xs->ltP p q->(xs.countP fun r=>decide (dP r<dP p\/dP r=dP p/\aP r<aP p))<xs.countP fun r=>decide (dP r<dP q\/dP r=dP q/\aP r<aP q):=by
  intro p q hp hpq
  have sub: ∀ (l:List PP),p∈l->(l.countP fun r=>decide (dP r<dP p\/dP r=dP p/\aP r<aP p))<l.countP fun r=>decide (dP r<dP q\/dP r=dP q/\aP r<aP q):=by
   have weak: ∀ (l:List PP),(l.countP fun r=>decide (dP r<dP p\/dP r=dP p/\aP r<aP p))<=l.countP fun r=>decide (dP r<dP q\/dP r=dP q/\aP r<aP q):=fun l=>List.countP_mono_left fun r _ h=>by have h:=of_decide_eq_true h;exact decide_eq_true (Zhw (p:=r) h hpq)
   intro l
   induction l with
   |nil=>exact fun h=>absurd h (by simp)
   |cons r l ih=>
    intro hm;rw[Vma,Vma];rcases Vu.1 hm with e|e
    ·subst e;rw[decide_eq_false (show¬ (dP p<dP p\/dP p=dP p/\aP p<aP p) by omega),decide_eq_true (show dP p<dP q\/dP p=dP q/\aP p<aP q from hpq)];have:=weak l;simp only[Via,if_false,if_true];omega
    ·have:=ih e;by_cases h1:dP r<dP p\/dP r=dP p/\aP r<aP p
     ·rw[decide_eq_true h1,decide_eq_true (show dP r<dP q\/dP r=dP q/\aP r<aP q from Zhw (p:=r) h1 hpq)];simp only[if_true];omega
     ·rw[decide_eq_false h1];simp only[Via,if_false];omega
  exact sub xs hp
 refine⟨xs.mergeSort le,Vfa _ _,fun p=>xs.countP fun q=>decide (dP q<dP p\/dP q=dP p/\aP q<aP p), ?_, ?_, ?_⟩
 ·intro p hp q hq;obtain⟨c,h1,h2⟩:=hc p q (hx p (hm p hp)) (hx q (hm q hq));refine⟨c,h1,h2.trans ⟨fun h=>mono p q (hm p hp) h,fun h=> ?_⟩⟩;by_cases e:p=q
  ·subst e;omega
  rcases Zek (hx p (hm p hp)) (hx q (hm q hq)) e with h3|h3
  ·exact h3
  ·have:=mono q p (hm q hq) h3;simp only at h;omega
 ·intro p hp q hq h;by_cases e:p=q
  ·exact e
  rcases Zek (hx p (hm p hp)) (hx q (hm q hq)) e with h3|h3
  ·have:=mono p q (hm p hp) h3;simp only at h;omega
  ·have:=mono q p (hm q hq) h3;simp only at h;omega
 ·have hp:=List.pairwise_mergeSort (le:=le) (fun a b c h1 h2=>by
   rw[hle]at*
   unfold ltP at*;omega) (fun a b=>by
   cases h:le a b with
   |true=>rfl
   |false=>
    have h1: ¬le a b=true:=by rw[h];exact fun e=>nomatch e
    rw[hle]at h1;have:le b a=true:=(hle b a).2 (by unfold ltP at*;omega);rw[this];rfl) xs
  refine List.Pairwise.imp_of_mem (fun {p q} hp hq h=> ?_) hp;rw[hle]at h;by_cases e:p=q
  ·subst e;exact Vca _
  rcases Zek (hx p (hm p hp)) (hx q (hm q hq)) e with h3|h3
  ·exact Nat.le_of_lt (mono p q (hm p hp) h3)
  ·exact absurd h3 h
theorem ZgR{cmp:PP->PP->Option Int}(hc: ∀p q,isP p->isP q-> ∃c,cmp p q=some c/\(c<0↔ltP p q)){z:List PP}(hx: ∀p∈z,isP p)(h:Ze6 cmp z):z.Pairwise fun p q=> ¬ltP q p:=by obtain⟨rk,h1,_,h3⟩:=h;refine List.Pairwise.imp_of_mem (fun {p q} hp hq h=> ?_) h3;obtain⟨c,e1,e2⟩:=h1 q hq p hp;obtain⟨c',e3,e4⟩:=hc q p (hx q hq) (hx p hp);rw[e1]at e3;cases e3;intro hl;have:=e2.1 (e4.2 hl);omega
theorem Zj2{p q:PP}(hp:isP p)(hq:isP q):eqP p q=some (decide (p=q)):=by
 obtain⟨a,b,rfl⟩: ∃a b,p=[a,b]:=⟨_,_,hp⟩;obtain⟨c,d,rfl⟩: ∃a b,q=[a,b]:=⟨_,_,hq⟩;unfold eqP
 by_cases h1:a=c<;>by_cases h2:b=d<;>simp [eqEl,eqEl.eqs,h1,h2]
theorem Znf(z:List PP)(hz: ∀p∈z,isP p)(hs:z.Pairwise fun p q=> ¬ltP q p)(hl:z.length<=40): ∃r,cmF z=some r/\r.length<=z.length/\r.Pairwise ltP/\ ∀p,p∈r↔p∈z:=by
 have hg: ∀ {i:Nat} (h:i<z.length),isP z[i]:=fun h=>hz _ (Ve h);have hse: ∀ (i:Nat) (h:i+1<z.length),z[i]≠z[i+1]->ltP z[i] z[i+1]:=fun i h e=>(Zek (hg _) (hg _) e).resolve_right (Vd.1 hs i (i+1) (by omega) h (by omega))
 have inner: ∀ (m k lo k2:Nat) (xs:List PP),xs.length=z.length->1<=k2->lo+k2<=z.length->k<=lo+k2 - 1->1<=k->z.length - (lo+k2)<m->
   (∀i,lo+k2 - 1<=i->xs[i]? =z[i]?)->(xs.take k).Pairwise ltP->(∀p,p∈xs.take k↔p∈z.take (lo+k2))->(∀h:lo+k2 - 1<z.length,(xs.take k).getLast?=some z[lo+k2 - 1])->
   ∃r,ZgP m (.inn xs (k:Int) lo (z.length - lo) (k2:Int))=some r/\r.length<=z.length/\r.Pairwise ltP/\ ∀p,p∈r↔p∈z:=by
  intro m
  induction m with
  |zero=>intro k lo k2 xs _ _ _ _ _ h;omega
  |succ m ih=>
   intro k lo k2 xs hxl h1 h2 h3 h4 h5 h6 h7 h8 h9;unfold ZgP ZkC;by_cases hk: (k2:Int)< ((z.length - lo:Nat):Int)
   ·have hlt:lo+k2<z.length:=by omega
    have e1:inb (k2:Int) (z.length - lo)=some k2:=ZeV (by omega);have e2:Vc .i64 ((k2:Int) - 1)=((k2 - 1:Nat):Int):=by rw[Zbr (by omega) (by omega)];omega
    have e3:inb ((k2 - 1:Nat):Int) (z.length - lo)=some (k2 - 1):=ZeV (by omega);have e4:xs[lo+k2]? =some z[lo+k2]:=by rw[h6 _ (by omega),Vf hlt]
    have e5:xs[lo+(k2 - 1)]? =some z[lo+(k2 - 1)]:=by rw[h6 _ (by omega),Vf (by omega)]
    have e6:Zar (decide (lo+(z.length - lo)<=xs.length))=some ():=by rw[decide_eq_true (by omega)];rfl
    have e7:inb (k:Int) xs.length=some k:=ZeV (by omega);have e8:xs[k]? =some xs[k]:=Vf (by omega);have e9:Vc .i64 ((k2:Int)+1)=((k2+1:Nat):Int):=by rw[Zbr (by omega) (by omega)];omega
    have e10:Vc .i64 ((k:Int)+1)=((k+1:Nat):Int):=by rw[Zbr (by omega) (by omega)];omega
    rw[decide_eq_true hk,e6,e1,e2,e3,e7,e9,e10];simp only[cond_true,bind_some];rw[e4,e5];simp only[bind_some];rw[Zj2 (hg _) (hg _)];simp only[bind_some];have ht:z.take (lo+(k2+1))=z.take (lo+k2)++[z[lo+k2]]:=Vb hlt;by_cases he:z[lo+k2]=z[lo+(k2 - 1)]
    ·rw[decide_eq_true he];simp only[Vj,cond_false,bind_some];refine ih k lo (k2+1) xs hxl (by omega) (by omega) (by omega) h4 (by omega) (fun i hi=>h6 i (by omega)) h7 (fun p=> ?_) (fun h=> ?_)
     ·rw[ht,Vn,h8 p,Vg];constructor
      ·exact .inl
      ·rintro (h|rfl)
       ·exact h
       ·rw[<-h8];have:=h9 (by omega);have e:lo+k2 - 1=lo+(k2 - 1):=by omega
        simp only[e]at this;rw[he];exact List.mem_of_getLast? this
     ·have:=h9 (by omega);have e:lo+k2 - 1=lo+(k2 - 1):=by omega
      simp only[e, <-he]at this;have e' :lo+(k2+1) - 1=lo+k2:=by omega
      simp only[e'];exact this
    ·rw[decide_eq_false he];simp only[Vs,cond_true,bind_some];rw[e8];simp only[bind_some]
     have hset: (xs.set k z[lo+k2]).take (k+1)=xs.take k++[z[lo+k2]]:=by rw[Vb (by rw[Voa];omega),List.getElem_set_self,List.take_set_of_le (Vca _)]
     refine ih (k+1) lo (k2+1) (xs.set k z[lo+k2]) (by rw[Voa];exact hxl) (by omega) (by omega) (by omega) (by omega) (by omega) (fun i hi=> ?_) ?_ (fun p=> ?_) (fun h=> ?_)
     ·rw[List.getElem?_set_ne (by omega)];exact h6 i (by omega)
     ·rw[hset,Vv];refine⟨h7,by simp,fun p hp q hq=> ?_⟩;rw[Vg]at hq;subst hq;have h10:=(h8 p).1 hp;obtain⟨i,hi,rfl⟩:=Vr h10;rw[Vh]at hi;rw[Vla];have hne:ltP z[lo+(k2 - 1)] z[lo+k2]:=(Zek (hg _) (hg _) (Ne.symm he)).resolve_right (Vd.1 hs _ _ (by omega) hlt (by omega));by_cases e:i=lo+(k2 - 1)
      ·subst e;exact hne
      ·have:=Vd.1 hs i (lo+(k2 - 1)) (by omega) (by omega) (by omega);unfold ltP at*;omega
     ·rw[hset,ht,Vn,Vn,h8 p]
     ·have e' :lo+(k2+1) - 1=lo+k2:=by omega
      rw[hset];simp only[e',List.getLast?_append,List.getLast?_singleton,Option.some_or]
   ·have hk2:lo+k2=z.length:=by omega
    rw[decide_eq_false hk]
    have s1:sliceB xs.length xs.length (some (k:Int)) none=some (k,xs.length):=by simp only[sliceB,bind_some];rw[if_pos (by omega)];simp
    rw[s1];simp only[cond_false,bind_some];rw[decide_eq_true (show k+(xs.length - k)<=xs.length by omega)];simp only[Zar,cond_true,bind_some]
    have s2:sliceB (xs.take k++Vea (xs.length - k) (zeroEl cmE)++xs.drop (k+(xs.length - k))).length (xs.take k++Vea (xs.length - k) (zeroEl cmE)++xs.drop (k+(xs.length - k))).length none (some (k:Int))=some (0,k):=by simp only[sliceB];rw[if_pos (by simp only[Vja,Vh,List.length_replicate,Vaa];omega)];simp
    rw[s2];simp only[bind_some,Vqa,ZgP]
    have h11: (xs.take k++Vea (xs.length - k) (zeroEl cmE)++xs.drop (k+(xs.length - k))).take k=xs.take k:=by rw[List.append_assoc,List.take_append_of_le_length (by rw[Vh];omega),List.take_take,Nat.min_self]
    rw[h11];refine⟨_,rfl,by rw[Vh];omega,h7,fun p=> ?_⟩;rw[h8 p,hk2,Vm]
 have outer: ∀ (m k:Nat),1<=k->k<=z.length->2*z.length - k<m->(z.take k).Pairwise ltP-> ∃r,ZgP m (.out z (k:Int))=some r/\r.length<=z.length/\r.Pairwise ltP/\ ∀p,p∈r↔p∈z:=by
  intro m
  induction m with
  |zero=>intro k _ _ h;omega
  |succ m ih=>
   intro k h1 h2 h3 h4;unfold ZgP Zgt;by_cases hk: (k:Int)< (z.length:Int)
   ·have hlt:k<z.length:=by omega
    have e1:inb (k:Int) z.length=some k:=ZeV hlt;have e2:Vc .i64 ((k:Int) - 1)=((k - 1:Nat):Int):=by rw[Zbr (by omega) (by omega)];omega
    have e3:inb ((k - 1:Nat):Int) z.length=some (k - 1):=ZeV (by omega);have e4:Vc .i64 ((k:Int)+1)=((k+1:Nat):Int):=by rw[Zbr (by omega) (by omega)];omega
    rw[decide_eq_true hk,e1,e2,e3,e4];simp only[cond_true,bind_some];rw[Vf hlt,Vf (show k - 1<z.length by omega)];simp only[bind_some];rw[Zj2 (hg _) (hg _)];simp only[bind_some];by_cases he:z[k]=z[k - 1]
    ·rw[decide_eq_true he]
     have s1:sliceB z.length z.length (some (k:Int)) none=some (k,z.length):=by simp only[sliceB,bind_some];rw[if_pos (by omega)];simp
     rw[s1];simp only[cond_true,bind_some];refine inner m k k 1 z rfl (by omega) (by omega) (by omega) h1 (by omega) (fun i _=>rfl) h4 (fun p=> ?_) (fun h=> ?_)
     ·rw[Vb hlt,Vn,Vg];constructor
      ·exact .inl
      ·rintro (h|rfl)
       ·exact h
       ·rw[he];exact Vo.2 ⟨k - 1,by omega,rfl⟩
     ·have e:k+1 - 1=k:=by omega
      simp only[e];rw[he,List.getLast?_eq_getElem?,Vh,Nat.min_eq_left (by omega),List.getElem?_take_of_lt (by omega),Vf (by omega)]
    ·rw[decide_eq_false he];simp only[cond_false,bind_some];refine ih (k+1) (by omega) (by omega) (by omega) ?_;rw[Vb hlt,Vv];refine⟨h4,by simp,fun p hp q hq=> ?_⟩;rw[Vg]at hq;subst hq;obtain⟨i,hi,rfl⟩:=Vr hp;rw[Vh]at hi;rw[Vla];have hne:ltP z[k - 1] z[k]:=(Zek (hg _) (hg _) (Ne.symm he)).resolve_right (Vd.1 hs _ _ (by omega) hlt (by omega));by_cases e:i=k - 1
     ·subst e;exact hne
     ·have:=Vd.1 hs i (k - 1) (by omega) (by omega) (by omega);unfold ltP at*;omega
   ·rw[decide_eq_false hk];simp only[cond_false,bind_some];rw[show k=z.length by omega,Vm]at h4
    cases m with
    |zero=>omega
    |succ m=>exact⟨z,rfl,Vca _,h4,fun _=>Iff.rfl⟩
 unfold cmF ZgI;by_cases h: (z.length:Int)<2
 ·rw[decide_eq_true h];refine⟨z,rfl,Vca _, ?_,fun _=>Iff.rfl⟩
  match z,h with
  | [],_=>exact .nil
  | [x],_=>simp
  |_::_::_,h=>simp at h;omega
 ·rw[decide_eq_false h];simp only[cond_false,bind_some]
  exact outer 100 1 (by omega) (by omega) (by omega) (by match z,h with|x::_,_=>simp)
end Q
namespace Q
open Tr Go
open Option (bind_some)
def pr(c:CoT):PP:=[c.1,c.2.1]
theorem Zfi(p q:PP)(hp:isP p)(hq:isP q): ∃c,F74 p q=some c/\(c<0↔ltP p q):=by
 obtain⟨a,b,rfl⟩: ∃a b,p=[a,b]:=⟨_,_,hp⟩;obtain⟨c,d,rfl⟩: ∃a b,q=[a,b]:=⟨_,_,hq⟩
 have hc: ∀x y:Int, ∃r,F8 x y=some r/\(r<0↔x<y):=fun x y=>by
  unfold F8 F10
  by_cases h1:x<y<;>by_cases h2:y<x<;>simp [h1,h2]
 unfold F74 ltP;simp only[dP,aP,Vra,Vi,bind_some,show Vq 1=1 from rfl,Vl,Vga,Vha];by_cases h:a=c
 ·subst h;obtain⟨r,h1,h2⟩:=hc b d;simp only[decide_true,Vj,cond_false,h1,bind_some];refine⟨r,rfl,h2.trans ⟨fun h=> .inr ⟨trivial,h⟩,fun h=> ?_⟩⟩;rcases h with h|h
  ·exact absurd h (Int.lt_irrefl _)
  ·exact h.2
 ·obtain⟨r,h1,h2⟩:=hc a c;simp only[decide_eq_false h,Vs,cond_true,h1,bind_some];exact⟨r,rfl,h2.trans ⟨fun h=> .inl h,fun h' =>h'.resolve_right fun h3=>h h3.1⟩⟩
theorem Zlt(l:List CoT)(h:l.length<=20): (run
 (fun s0:List PP×Int=>
 bif decide (s0.2< (↑(Vp (l.map opt)):Int)) then
 Va (idx (l.map opt) s0.2) fun x1=>
 Va (Zar (decide (Vp s0.1+Vp [[x1.2.1.1,x1.2.1.2.1]]<=Zaz))) fun _=>
 some (.inl (s0.1++[[x1.2.1.1,x1.2.1.2.1]],Vc .i64 (s0.2+(1:Int))))
 else some (.inr s0.1))
 ([],(0:Int)))=some (l.map pr):=by
 have key:=Zel (l.map opt).length (step:=(fun s0:List PP×Int=>
  bif decide (s0.2< (↑(Vp (l.map opt)):Int)) then
  Va (idx (l.map opt) s0.2) fun x1=>
  Va (Zar (decide (Vp s0.1+Vp [[x1.2.1.1,x1.2.1.2.1]]<=Zaz))) fun _=>
  some (.inl (s0.1++[[x1.2.1.1,x1.2.1.2.1]],Vc .i64 (s0.2+(1:Int))))
  else some (.inr s0.1))) (fun r=>r=l.map pr) (fun i (s:List PP×Int)=>s=((l.take i).map pr,(i:Int))) ?_ ?_ _ rfl
 ·obtain⟨r,h1,rfl⟩:=key;exact h1
 ·rintro i _ hi rfl;have hi' :i<l.length:=by simpa using hi
  refine .inl ⟨_, ?_,rfl⟩;simp only[ltD hi,cond_true,ZcY hi,bind_some];rw[decide_eq_true (by unfold Zaz;simp only[Vk,Vh,Vt,Vw];omega)];simp only[Zar,cond_true,bind_some];rw[Zjt hi (by rw[Vk];omega),Vb hi',Vna,Vba];rfl
 ·rintro _ rfl;refine⟨_, ?_,rfl⟩;simp only[Zns,cond_false,Vk,Vm]
def Zjv(ys:List PP)(p:PP)(b:Bool):Bool:=b||ys.any fun o=>decide (dP p<=dP o) &&decide (aP o<=aP p)
theorem ZhJ{p:PP}(hp:isP p)(b:Bool)(ys:List PP)(hy: ∀o∈ys,isP o)(hl:ys.length<=1000): (run
 (fun s9:Bool×Int=>
 bif decide (s9.2< (↑(Vp ys):Int)) then
 Va (idx ys s9.2) fun x10=>
 Va
 (bif s9.1 then some true
 else
 Va x10[Vq (0:Int)]? fun x11=>
 Va p[Vq (0:Int)]? fun x12=>
 bif decide (x12<=x11) then
 Va x10[Vq (1:Int)]? fun x13=>Va p[Vq (1:Int)]? fun x14=>some (decide (x13<=x14))
 else some false)
 fun x15=>some (.inl (x15,Vc .i64 (s9.2+(1:Int))))
 else some (.inr s9.1))
 (b,(0:Int)))=some (Zjv ys p b):=by
 have key:=Zel ys.length (step:=(fun s9:Bool×Int=>
  bif decide (s9.2< (↑(Vp ys):Int)) then
  Va (idx ys s9.2) fun x10=>
  Va
  (bif s9.1 then some true
  else
  Va x10[Vq (0:Int)]? fun x11=>
  Va p[Vq (0:Int)]? fun x12=>
  bif decide (x12<=x11) then
  Va x10[Vq (1:Int)]? fun x13=>Va p[Vq (1:Int)]? fun x14=>some (decide (x13<=x14))
  else some false)
  fun x15=>some (.inl (x15,Vc .i64 (s9.2+(1:Int))))
  else some (.inr s9.1))) (fun r=>r=Zjv ys p b) (fun i (s:Bool×Int)=>s=(Zjv (ys.take i) p b,(i:Int))) ?_ ?_ (b,0) (by simp [Zjv])
 ·obtain⟨r,h1,rfl⟩:=key;exact h1
 ·rintro i _ hi rfl;refine .inl ⟨_, ?_,rfl⟩;simp only[ltD hi,cond_true,ZcY hi,bind_some];have ho:=hy ys[i] (Ve hi)
  have e:Zjv (ys.take (i+1)) p b=(Zjv (ys.take i) p b|| (decide (dP p<=dP ys[i]) &&decide (aP ys[i]<=aP p))):=by unfold Zjv;rw[Vb hi,List.any_append];simp [Bool.or_assoc]
  rw[e,Zjt hi (by omega)]
  cases Zjv (ys.take i) p b with
  |true=>rfl
  |false=>
   simp only[cond_false,Vsa];generalize ys[i]=o at ho ⊢;obtain⟨c,d,rfl⟩: ∃a b,o=[a,b]:=⟨_,_,ho⟩;obtain⟨x,y,rfl⟩: ∃a b,p=[a,b]:=⟨_,_,hp⟩;simp only[dP,aP,Vra,Vi,bind_some,show Vq 1=1 from rfl,Vl,Vga,Vha]
   cases decide (x<=c)<;>rfl
 ·rintro _ rfl;refine⟨_, ?_,rfl⟩;simp only[Zns,cond_false,Vm]
structure Zoy (S s:List PP):Prop where
 mem: ∀p,p∈s↔p∈S/\ZeS S p
 srt:s.Pairwise fun p q=>dP p<dP q
theorem ZkR(l:List CoT)(h:l.length<=20): ∃s,F73 (l.map opt)=some s/\s.length<=20/\Zoy (l.map pr) s:=by
 unfold F73;rw[Zlt l h];simp only[bind_some];have hP: ∀p∈l.map pr,isP p:=fun p hp=>by obtain⟨c,_,rfl⟩:=Vy.1 hp;rfl
 obtain⟨z,hz⟩:=Zmi (cmp:=F74) (xs:=l.map pr) (by rw[Vk];omega) (ZhP Zfi _ hP);obtain⟨_,hperm,hrk⟩:=Zgc hz;have hzP: ∀p∈z,isP p:=fun p hp=>hP p (hperm.mem_iff.1 hp);have hzl:z.length=l.length:=by rw[hperm.length_eq,Vk]
 obtain⟨x,hx1,hxl,hx2,hx3⟩:=Znf z hzP (ZgR Zfi hzP hrk) (by omega);have e1:F95 (l.map pr) ()=some z:=hz;have e2:F93 z=some x:=hx1;have hxP: ∀p∈x,isP p:=fun p hp=>hzP p ((hx3 p).1 hp);have hxm: ∀p,p∈x↔p∈l.map pr:=fun p=>(hx3 p).trans hperm.mem_iff;rw[e1];simp only[bind_some];rw[e2];simp only[bind_some]
 have hD: ∀i (hi:i<x.length),(Zjv (x.take i) x[i] (Zjv (x.drop (i+1)) x[i] false)=false)↔ZeS x x[i]:=by
  intro i hi
  have hne: ∀j (hj:j<x.length),j≠i->x[j]≠x[i]:=by
   intro j hj hji e;rcases Vka hji with h1|h1
   ·have:=Vd.1 hx2 j i hj hi h1;rw[e]at this;exact Ziq _ this
   ·have:=Vd.1 hx2 i j hi hj h1;rw[e]at this;exact Ziq _ this
  unfold Zjv;simp only[Vsa,Bool.or_eq_false_iff,List.any_eq_false,Bool.and_eq_true,decide_eq_true_eq];constructor
  ·rintro ⟨h1,h2⟩ o ho hd;obtain⟨j,hj,rfl⟩:=Vr ho;obtain⟨d1,d2,d3⟩:=hd;have hji:j≠i:=fun e=>by subst e;exact d3 rfl
   rcases Vka hji with h3|h3
   ·exact h2 x[j] (Vo.2 ⟨j,by omega,rfl⟩) ⟨d1,d2⟩
   ·exact h1 x[j] (Vz.2 ⟨j - (i+1),by omega,by simp only[show i+1+(j - (i+1))=j by omega]⟩) ⟨d1,d2⟩
  ·intro hk;refine⟨fun o ho hd=> ?_,fun o ho hd=> ?_⟩
   ·obtain⟨j,hj,rfl⟩:=Vz.1 ho;exact hk _ (Ve _) ⟨hd.1,hd.2,hne _ _ (by omega)⟩
   ·obtain⟨j,hj,rfl⟩:=Vo.1 ho;exact hk _ (Ve _) ⟨hd.1,hd.2,hne _ _ (by omega)⟩
 refine ZgY (fun r=>r.length<=20/\(∀p,p∈r↔p∈x/\ZeS x p)/\r.Pairwise ltP) (Zel x.length _ (fun i (s:List PP×Int)=>s.2=(i:Int)/\s.1.length<=i/\(∀p,p∈s.1↔p∈x.take i/\ZeS x p)/\s.1.Pairwise ltP) ?_ ?_ ([],(0:Int)) ⟨rfl,by simp,by simp, .nil⟩) ?_
 rotate_left 2
 ·rintro s ⟨hs2,hs3,hs4⟩;refine⟨s,rfl,hs2,fun p=> ?_, ?_⟩
  ·rw[hs3 p,hxm p];have:ZeS x p↔ZeS (l.map pr) p:=by unfold ZeS;simp only[hxm]
   rw[this]
  ·refine List.Pairwise.imp_of_mem (fun {p q} hp hq h=> ?_) hs4;exact(Zj4 hxP ((hs3 p).1 hp).1 ((hs3 q).1 hq).1 ((hs3 p).1 hp).2 ((hs3 q).1 hq).2 h).1
 ·rintro i ⟨s,k⟩ hi ⟨rfl,h1,h2,h3⟩;simp only at h1 h2 h3
  have s1:sliceB x.length x.length (some (((i+1:Nat):Int))) none=some (i+1,x.length):=by simp only[sliceB,bind_some];rw[if_pos (by omega)];simp
  have s2:sliceB x.length x.length none (some (i:Int))=some (0,i):=by simp only[sliceB];rw[if_pos (by omega)];simp
  have t1:List.take (x.length - (i+1)) (List.drop (i+1) x)=x.drop (i+1):=List.take_of_length_le (by rw[Vaa];omega);simp only[ltD hi,cond_true,ZcY hi,bind_some,Zjt hi (show _<=9223372036854775807 by omega),s1,s2,t1,Vqa,Nat.sub_zero];rw[ZhJ (hxP _ (Ve hi)) false (x.drop (i+1)) (fun o ho=>hxP o (List.mem_of_mem_drop ho)) (by rw[Vaa];omega)];simp only[bind_some];rw[ZhJ (hxP _ (Ve hi)) _ (x.take i) (fun o ho=>hxP o (List.mem_of_mem_take ho)) (by rw[Vh];omega)];simp only[bind_some];have hd:=hD i hi;have ht: ∀p,p∈x.take (i+1)↔p∈x.take i\/p=x[i]:=fun p=>by rw[Vb hi,Vn,Vg]
  cases hw:Zjv (x.take i) x[i] (Zjv (x.drop (i+1)) x[i] false) with
  |false=>
   have hk:=hd.1 hw;refine .inl ⟨(s++[x[i]],((i+1:Nat):Int)), ?_,rfl, ?_, ?_, ?_⟩
   ·simp only[Vs,cond_true];rw[decide_eq_true (by unfold Zaz;simp only[Vt,Vw];omega)];simp only[Zar,cond_true,bind_some]
   ·simp only[Vja,Vt,Vw];omega
   ·intro p;simp only[Vn,Vg,h2 p,ht p];constructor
    ·rintro (⟨a,b⟩ |rfl)
     ·exact⟨.inl a,b⟩
     ·exact⟨.inr rfl,hk⟩
    ·rintro ⟨a|rfl,b⟩
     ·exact .inl ⟨a,b⟩
     ·exact .inr rfl
   ·refine Vv.2 ⟨h3,by simp,fun p hp q hq=> ?_⟩;rw[Vg]at hq;subst hq;obtain⟨j,hj,rfl⟩:=Vo.1 ((h2 p).1 hp).1
    exact Vd.1 hx2 j i (by omega) hi (by omega)
  |true=>
   have hk: ¬ZeS x x[i]:=fun e=>by rw[hd.2 e]at hw;cases hw
   refine .inl ⟨(s,((i+1:Nat):Int)), ?_,rfl, ?_, ?_,h3⟩
   ·simp only[Vj,cond_false]
   ·simp only;omega
   ·intro p;simp only[h2 p,ht p];constructor
    ·rintro ⟨a,b⟩;exact⟨.inl a,b⟩
    ·rintro ⟨a|rfl,b⟩
     ·exact⟨a,b⟩
     ·exact absurd b hk
 ·rintro ⟨s,k⟩ ⟨rfl,h1,h2,h3⟩;refine⟨s, ?_,by simp only at h1 ⊢;omega,fun p=> ?_,h3⟩
  ·simp only[Zns,cond_false]
  ·have:=h2 p
   rwa [Vm]at this
end Q
namespace Q
open Tr Go
open Option (bind_some)
theorem ZlS{a b:CoT} : (Zmr a b=true->a.2.1<=b.2.1)/\(Zmr a b=false->b.2.1<=a.2.1):=by
 unfold Zmr;by_cases h1:a.2.1=b.2.1
 ·omega
 ·rw[decide_eq_false h1];simp only[Vs,cond_true,decide_eq_true_eq,decide_eq_false_iff_not];omega
theorem ZlZ(l:List CoT)(t:Int)(h:l.length<=1000): ∃r,atR (l.map opt) t=some r/\(r= -1/\(∀c∈l,c.1<t)\/ ∃i, ∃hi:i<l.length,r=(i:Int)/\t<=l[i].1/\ ∀c∈l,t<=c.1->l[i].2.1<=c.2.1):=by
 have ho: ∀ (j:Nat) (hj:j<l.length),idx (l.map opt) (j:Int)=some (opt l[j]):=fun j hj=>by rw[ZcY (by simpa using hj),Vba]
 unfold atR;refine Zel l.length _ (fun k (s:Int×Int)=>s.2=(k:Int)/\(s.1= -1/\(∀c∈l.take k,c.1<t)\/ ∃i, ∃hi:i<l.length,s.1=(i:Int)/\t<=l[i].1/\ ∀c∈l.take k,t<=c.1->l[i].2.1<=c.2.1)) ?_ ?_ _ ⟨rfl, .inl ⟨rfl,by simp⟩⟩
 ·rintro k ⟨b,_⟩ hk ⟨rfl,hb⟩;have ht: ∀c,c∈l.take (k+1)↔c∈l.take k\/c=l[k]:=fun c=>by rw[Vb hk,Vn,Vg]
  have hlt:decide ((k:Int)< ((l.map opt).length:Int))=true:=decide_eq_true (by rw[Vk];omega);left;unfold ZiG;simp only[hlt,cond_true,ho k hk,bind_some,Zjt hk (show _<=9223372036854775807 by omega)];by_cases hd:t<=(opt l[k]).2.1.1
  ·rw[decide_eq_true hd];rcases hb with ⟨rfl,ha⟩ | ⟨i,hi,rfl,h1,h2⟩
   ·refine⟨_,rfl,rfl, .inr ⟨k,hk,rfl,hd,fun c hc hct=> ?_⟩⟩;rcases (ht c).1 hc with hc|rfl
    ·have:=ha c hc;omega
    ·exact Vda _
   ·simp only[cond_true,decide_eq_false (show¬ (i:Int)<0 by omega),cond_false,ho i hi,bind_some];have hbt:=ZlS (a:=(opt l[k]).2.1) (b:=(opt l[i]).2.1)
    cases hv:Zmr (opt l[k]).2.1 (opt l[i]).2.1 with
    |true=>
     have hle:l[k].2.1<=l[i].2.1:=hbt.1 hv;refine⟨_,rfl,rfl, .inr ⟨k,hk,rfl,hd,fun c hc hct=> ?_⟩⟩;rcases (ht c).1 hc with hc|rfl
     ·have:=h2 c hc hct;omega
     ·exact Vda _
    |false=>
     have hle:l[i].2.1<=l[k].2.1:=hbt.2 hv;refine⟨_,rfl,rfl, .inr ⟨i,hi,rfl,h1,fun c hc hct=> ?_⟩⟩;rcases (ht c).1 hc with hc|rfl
     ·exact h2 c hc hct
     ·exact hle
  ·rw[decide_eq_false hd];have hd' :l[k].1<t:=Vpa.1 hd;refine⟨_,rfl,rfl, ?_⟩;rcases hb with ⟨rfl,ha⟩ | ⟨i,hi,rfl,h1,h2⟩
   ·refine .inl ⟨rfl,fun c hc=> ?_⟩;rcases (ht c).1 hc with hc|rfl
    ·exact ha c hc
    ·exact hd'
   ·refine .inr ⟨i,hi,rfl,h1,fun c hc hct=> ?_⟩;rcases (ht c).1 hc with hc|rfl
    ·exact h2 c hc hct
    ·omega
 ·rintro ⟨b,_⟩ ⟨rfl,hb⟩;rw[Vm]at hb;refine⟨b, ?_,hb⟩;unfold ZiG;rw[Vk];simp only[Zns,cond_false]
theorem Zlm(T:PP->Prop): ∀ (S:List PP),(∃p∈S,T p)-> ∃p∈S,T p/\ ∀q∈S,T q->dP q<=dP p
 | [],h=>by obtain⟨p,hp,_⟩:=h;simp at hp
 |x::S,h=>by
  by_cases hS: ∃p∈S,T p
  ·obtain⟨p,hp,h1,h2⟩:=Zlm T S hS;by_cases hx:T x/\dP p<dP x
   ·refine⟨x,by simp,hx.1,fun q hq hq2=> ?_⟩;rcases Vu.1 hq with rfl|hq
    ·exact Vda _
    ·have:=h2 q hq hq2;omega
   ·refine⟨p,by simp [hp],h1,fun q hq hq2=> ?_⟩;rcases Vu.1 hq with rfl|hq
    ·by_cases h3:dP p<dP q
     ·exact absurd ⟨hq2,h3⟩ hx
     ·omega
    ·exact h2 q hq hq2
  ·obtain⟨p,hp,h1⟩:=h;rcases Vu.1 hp with rfl|hp
   ·refine⟨p,by simp,h1,fun q hq hq2=> ?_⟩;rcases Vu.1 hq with rfl|hq
    ·exact Vda _
    ·exact absurd ⟨q,hq,hq2⟩ hS
   ·exact absurd ⟨p,hp,h1⟩ hS
theorem ZnH(l:List CoT)(t:Int)(hl:l.length<=1000): ∃o ok,F72 (l.map opt) t=some (o,ok)/\((ok=false/\ ∀c∈l,c.1<t)\/(ok=true/\ ∃c∈l,o.2.1=c/\t<=c.1/\ ∀d∈l,t<=d.1->c.2.1<=d.2.1)):=by
 unfold F72;obtain⟨r,hr,h⟩:=ZlZ l t hl;rw[ZnE,hr];simp only[bind_some];rcases h with ⟨rfl,ha⟩ | ⟨i,hi,rfl,h1,h2⟩
 ·exact⟨_,_,rfl, .inl ⟨rfl,ha⟩⟩
 ·refine⟨opt l[i],true, ?_, .inr ⟨rfl,l[i],Ve hi,rfl,h1,h2⟩⟩;simp only[decide_eq_false (show¬ (i:Int)<0 by omega),cond_false];rw[ZcY (show i< (l.map opt).length by simpa using hi),Vba];simp [opt,F91,F92,clnLegG,clnTicG,Zaz]
theorem ZjI(l:List CoT)(t:Int):F47 l t=some true:=by
 unfold F47;have hx:F48=some true:=rfl;by_cases hl:l.length<=20
 case neg=>rw[decide_eq_true (by omega)];rfl
 rw[decide_eq_false (by omega),Zis l hl];obtain⟨s,h1,h2,h3⟩:=ZkR l hl;obtain⟨o,ok,h4,h5⟩:=ZnH l t (by omega);simp only[cond_false,bind_some];rw[h1];simp only[bind_some];rw[h4];simp only[bind_some];have hP: ∀p∈l.map pr,isP p:=fun p hp=>by obtain⟨c,_,rfl⟩:=Vy.1 hp;rfl
 have hsP: ∀p∈s,isP p:=fun p hp=>hP p ((h3.mem p).1 hp).1
 have hg0: ∀i (hi:i<s.length),idx s[i] 0=some (dP s[i]):=fun i hi=>by have hs:=hsP s[i] (Ve hi);generalize s[i]=q at hs;obtain⟨c,d,rfl⟩: ∃a b,q=[a,b]:=⟨_,_,hs⟩;rfl
 have hg1: ∀i (hi:i<s.length),idx s[i] 1=some (aP s[i]):=fun i hi=>by have hs:=hsP s[i] (Ve hi);generalize s[i]=q at hs;obtain⟨c,d,rfl⟩: ∃a b,q=[a,b]:=⟨_,_,hs⟩;rfl
 have hinc: ∀i j (hi:i<s.length) (hj:j<s.length),i<j->dP s[i]<dP s[j]/\aP s[i]<aP s[j]:=fun i j hi hj hij=>by have h6:=Vd.1 h3.srt i j hi hj hij;have m1:=(h3.mem _).1 (Ve hi);have m2:=(h3.mem _).1 (Ve hj);exact Zj4 hP m1.1 m2.1 m1.2 m2.2 (.inl h6)
 have hbest:ok=true-> ∃j, ∃hj:j<s.length,t<=dP s[j]/\aP s[j]=o.2.1.2.1:=fun hok=>by
  rcases h5 with h5| ⟨_,c,hc,h6,h7,h8⟩
  ·rw[h5.1]at hok;cases hok
  obtain⟨p,hp,⟨q1,q2⟩,q3⟩:=Zlm (fun p=>t<=dP p/\aP p=c.2.1) (l.map pr) ⟨pr c,Vy.2 ⟨c,hc,rfl⟩,h7,rfl⟩
  have hk:ZeS (l.map pr) p:=by rintro x hx ⟨d1,d2,d3⟩;obtain⟨e,he,rfl⟩:=Vy.1 hx;have h9:t<=e.1:=Int.le_trans q1 d1;have h10:=h8 e he h9;have h11:aP (pr e)=e.2.1:=rfl;have h12:=q3 (pr e) hx ⟨h9,by omega⟩;exact d3 (Zk0 rfl (hP p hp) (by omega) (by omega))
  obtain⟨j,hj,rfl⟩:=Vr ((h3.mem p).2 ⟨hp,hk⟩);exact⟨j,hj,q1,by rw[q2,h6]⟩
 have hmin: ∀j (hj:j<s.length),t<=dP s[j]->ok=true/\o.2.1.2.1<=aP s[j]:=fun j hj ht=>by
  obtain⟨e,he,hee⟩:=Vy.1 ((h3.mem _).1 (Ve hj)).1;rw[<-hee]at ht ⊢;rcases h5 with h5| ⟨h5,c,hc,h6,h7,h8⟩
  ·have:=h5.2 e he;have:e.1=dP (pr e):=rfl;omega
  ·exact⟨h5,by rw[h6];exact h8 e he ht⟩
 refine Zic (fun r=>r= .inl ok) (Zel s.length _ (fun i (k:Bool×Int)=>k.2=(i:Int)/\(k.1=true↔ ∃j, ∃hj:j<s.length,j<i/\t<=dP s[j])) ?_ ?_ _ ⟨rfl,by simp⟩) (fun r hr=>by rw[hr];simp only[Vx,beq_self_eq_true,cond_true,hx,bind_some])
 ·rintro i ⟨f,_⟩ hi ⟨rfl,hf⟩;simp only at hf;left;simp only[ltD hi,cond_true,ZcY hi,hg0 i hi,hg1 i hi,bind_some,Zjt hi (show _<=9223372036854775807 by omega)]
  have hfirst: (bif decide ((0:Int)< (i:Int)) then
   Va (idx s (Vc .i64 ((i:Int) - (1:Int)))) fun x8=>
   Va (idx x8 (0:Int)) fun x9=>
   bif decide (dP s[i]<=x9) then some true
   else
   Va (idx s (Vc .i64 ((i:Int) - (1:Int)))) fun x12=>
   Va (idx x12 (1:Int)) fun x13=>some (decide (aP s[i]<=x13))
   else some false)=some false:=by
   cases i with
   |zero=>rfl
   |succ j=>
    have e:Vc .i64 (((j+1:Nat):Int) - 1)=(j:Int):=by rw[Zbr (by omega) (by omega)];omega
    have hj:j<s.length:=by omega
    obtain⟨q1,q2⟩:=hinc j (j+1) hj hi (by omega);rw[decide_eq_true (by omega),e];simp only[cond_true,ZcY hj,hg0 j hj,hg1 j hj,bind_some];rw[decide_eq_false (Vpa.2 q1),decide_eq_false (Vpa.2 q2)];rfl
  rw[hfirst];simp only[bind_some,cond_false]
  have hnext: ∀b:Bool,(b=true↔(f=true\/t<=dP s[i]))->(b=true↔ ∃j, ∃hj:j<s.length,j<i+1/\t<=dP s[j]):=fun b hb=>by
   rw[hb,hf];constructor
   ·rintro (⟨j,hj,h6,h7⟩ |h6)
    ·exact⟨j,hj,by omega,h7⟩
    ·exact⟨i,hi,by omega,h6⟩
   ·rintro ⟨j,hj,h6,h7⟩;by_cases e:j=i
    ·subst e;exact .inr h7
    ·exact .inl ⟨j,hj,by omega,h7⟩
  cases f with
  |true=>
   simp only[Vj,cond_false,bind_some]
   exact⟨_,rfl,rfl,hnext _ (by simp)⟩
  |false=>
   simp only[Vs,cond_true,bind_some];by_cases ht:t<=dP s[i]
   ·obtain⟨hok,hle⟩:=hmin i hi ht;obtain⟨j,hj,q1,q2⟩:=hbest hok;have hij: ¬j<i:=fun h6=>by have:=hf.2 ⟨j,hj,h6,q1⟩;cases this
    have heq:o.2.1.2.1=aP s[i]:=by
     by_cases e:i=j
     ·subst e;exact q2.symm
     ·have h6:=(hinc i j hi hj (by omega)).2;rw[q2]at h6;exact absurd h6 (Int.not_lt.2 hle)
    rw[decide_eq_true ht,hok];simp only[cond_true,Vj,cond_false,bind_some];rw[decide_eq_true heq];simp only[Vj,cond_false];exact⟨_,rfl,rfl,hnext _ ⟨fun _=> .inr ht,fun _=>rfl⟩⟩
   ·rw[decide_eq_false ht];simp only[cond_false];exact⟨_,rfl,rfl,hnext _ ⟨fun h=>(nomatch h),fun h=>h.elim (fun e=>e) fun e=>absurd e ht⟩⟩
 ·rintro ⟨f,_⟩ ⟨rfl,hf⟩;simp only[Zns,cond_false];refine⟨_,rfl, ?_⟩;congr 1;simp only at hf
  cases hok:ok with
  |true=>
   obtain⟨j,hj,q1,_⟩:=hbest hok
   exact hf.2 ⟨j,hj,hj,q1⟩
  |false=>
   cases hff:f with
   |false=>rfl
   |true=>
    obtain⟨j,hj,_,q1⟩:=hf.1 hff;have:=(hmin j hj q1).1;rw[hok]at this;cases this
theorem climbsP(x:Zce F47A)(_:ZhR F47A x):F47 x.1 x.2.1=some true:=ZjI _ _
end Q
