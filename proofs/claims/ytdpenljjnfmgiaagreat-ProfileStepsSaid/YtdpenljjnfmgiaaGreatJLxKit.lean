/- Loops in plain Lean: with an invariant by rounds, and halving. Conditions: those of the theorems. -/
import Derived.Test.YtdpenljjnfmgiaaGreatTsH
import Derived.Test.YtdpenljjnfmgiaaGreatFin45b
import Derived.Test.YtdpenljjnfmgiaaGreatTsF
import Derived.Test.YtdpenljjnfmgiaaGreatCmp45
import Derived.Test.YtdpenljjnfmgiaaGreatTtA
open Bool renaming not_false ->Vp,not_true ->Vu,false_eq_true ->Vla,false_or ->Vta
open Iff renaming rfl ->Vsa
open Int renaming toNat ->Vq,toNat_zero ->Vqa
open Go.IntKind renaming wrap ->Vk
open List renaming take_succ_eq_append_getElem ->Va,pairwise_iff_getElem ->Vc,getElem_mem ->Vd,getElem?_eq_getElem ->Ve,mem_singleton ->Vf,mem_append ->Vg,length_take ->Vh,mem_take_iff_getElem ->Vi,length_map ->Vj,take_length ->Vl,length ->Vm,length_nil ->Vn,length_cons ->Vo,pairwise_append ->Vr,length_drop ->Vs,mem_map ->Vt,mem_drop_iff_getElem ->Vv,length_append ->Vw,map_append ->Vx,getElem_of_mem ->Vy,mem_cons ->Vaa,getElem_map ->Vba,getElem?_cons_zero ->Vca,getElem?_cons_succ ->Vda,take_of_length_le ->Vea,replicate ->Vfa,drop_zero ->Vga,mem_of_mem_take ->Vha,mergeSort_perm ->Via,getD_cons_zero ->Vja,getD_cons_succ ->Vka,getElem_take ->Vna,countP_cons ->Voa,length_set ->Vpa,map_cons ->Vra,map_nil ->Vua
open Nat renaming le_refl ->Vz,lt_or_gt_of_ne ->Vma
open Option renaming bind ->Vb
namespace Q
open Tr Go
open Option (bind_some)
theorem Zc4{σ τ:Type}{step:σ->Option (σ ⊕ τ)}(n:Nat)(P:τ->Prop)(Inv:Nat->σ->Prop)
  (hstep: ∀i s,i<n->Inv i s->(∃s',step s=some (.inl s')/\Inv (i+1) s')\/ ∃r,step s=some (.inr r)/\P r)
  (hend: ∀s,Inv n s-> ∃r,step s=some (.inr r)/\P r) (s:σ) (h0:Inv 0 s): ∃r,run step s=some r/\P r:=by
 have key: ∀ (k i:Nat) (s:σ),n - i=k->i<=n->Inv i s-> ∃r,run step s=some r/\P r:=by
  intro k
  induction k with
  |zero=>
   intro i s hk hi hs;have:i=n:=by omega
   subst this;obtain⟨r,h1,h2⟩:=hend s hs
   exact⟨r,Zkc h1,h2⟩
  |succ k ih=>
   intro i s hk hi hs;rcases hstep i s (by omega) hs with ⟨s',h1,h2⟩ | ⟨r,h1,h2⟩
   ·rw[Zm1 h1];exact ih (i+1) s' (by omega) (by omega) h2
   ·exact⟨r,Zkc h1,h2⟩
 exact key n 0 s (by omega) (by omega) h0
theorem Zkv{α β:Type}{o:Option α}{f:α->Option β}{z:Option β}(P:α->Prop)(h: ∃r,o=some r/\P r)(k: ∀r,P r->f r=z):Vb o f=z:=by obtain⟨r,rfl,hr⟩:=h;exact k r hr
end Q
namespace Q
open Tr Go
open Option (bind_some)
abbrev CoT:=Int×Int×Int×Int×Int×Unit
abbrev OpT:=El Y53
theorem Zhl{i n:Nat}(h:i<n)(hn:n<=9223372036854775807):Vk .i64 ((i:Int)+1)=((i+1:Nat):Int):=by rw[Zdc (by omega) (by omega)];omega
theorem ltD{i n:Nat}(h:i<n):decide ((i:Int)< (n:Int))=true:=decide_eq_true (by omega)
theorem Zmu(n:Nat):decide ((n:Int)< (n:Int))=false:=decide_eq_false (by omega)
def opt(c:CoT):OpT:=((([]:List (El Y82)),()),c,([]:List (El Zjm)),())
theorem Zin(l:List CoT)(h:l.length<=20):F49 l=some (l.map opt):=by
 unfold F49;refine Zkv (fun r=>r=l.map opt) (Zc4 l.length _ (fun i (s:List OpT×Int)=>s=((l.take i).map opt,(i:Int))) ?_ ?_ _ rfl) (fun r hr=>by rw[hr])
 ·rintro i _ hi rfl;refine .inl ⟨_, ?_,rfl⟩;simp only[ltD hi,cond_true,ZdF hi,bind_some];rw[decide_eq_true (by unfold Zaw;simp only[Vj,Vh,Vo,Vn];omega)];simp only[Zaq,cond_true,bind_some];rw[Zhl hi (by omega),List.take_add_one,Ve hi];simp only[Vx,Option.toList_some,Vra,Vua];rfl
 ·rintro _ rfl;refine⟨_, ?_,rfl⟩;simp only[Zmu,cond_false,Vl]
end Q
namespace Q
open Tr Go
open Option (bind_some)
abbrev PP:=List Int
abbrev dP(p:PP):Int:=p.getD 0 0
abbrev aP(p:PP):Int:=p.getD 1 0
def isP(p:PP):Prop:=p=[dP p,aP p]
theorem Zlo{p q:PP}(hp:isP p)(hq:isP q)(h1:dP p=dP q)(h2:aP p=aP q):p=q:=by rw[hp,hq,h1,h2]
def ltP(p q:PP):Prop:=dP p<dP q\/dP p=dP q/\aP p<aP q
theorem Zh7(p:PP): ¬ltP p p:=by unfold ltP;omega
theorem Zhq{p q r:PP}(h:ltP p q)(k:ltP q r):ltP p r:=by unfold ltP at*;omega
theorem ZdC{p q:PP}(hp:isP p)(hq:isP q)(h:p≠q):ltP p q\/ltP q p:=by
 by_cases h1:dP p=dP q
 ·by_cases h2:aP p=aP q
  ·exact absurd (Zlo hp hq h1 h2) h
  ·unfold ltP;omega
 ·unfold ltP;omega
def Znr(o p:PP):Prop:=dP p<=dP o/\aP o<=aP p/\o≠p
def ZcW(S:List PP)(p:PP):Prop:= ∀o∈S, ¬Znr o p
theorem Zh9{S:List PP}{p q:PP}(hS: ∀x∈S,isP x)(hp:p∈S)(hq:q∈S)(kp:ZcW S p)(kq:ZcW S q)(h:ltP p q):dP p<dP q/\aP p<aP q:=by have h0:p≠q:=fun e=>Zh7 q (e▸h);have h1:=kp q hq;have h2:=kq p hp;unfold Znr at h1 h2;have h3: ¬ (dP p<=dP q/\aP q<=aP p):=fun x=>h1 ⟨x.1,x.2,Ne.symm h0⟩;have h4: ¬ (dP q<=dP p/\aP p<=aP q):=fun x=>h2 ⟨x.1,x.2,h0⟩;unfold ltP at h;omega
theorem Zlx{l m:List PP}(hl:l.Pairwise fun p q=>dP p<dP q)(hm:m.Pairwise fun p q=>dP p<dP q)(h: ∀p,p∈l↔p∈m):l=m:=by
 induction l generalizing m with
 |nil=>
  cases m with
  |nil=>rfl
  |cons y m=>exact absurd ((h y).2 (by simp)) (by simp)
 |cons x l ih=>
  cases m with
  |nil=>exact absurd ((h x).1 (by simp)) (by simp)
  |cons y m=>
   rw[List.pairwise_cons]at hl hm
   have hxy:x=y:=by
    rcases Vaa.1 ((h x).1 (by simp)) with e|e
    ·exact e
    rcases Vaa.1 ((h y).2 (by simp)) with f|f
    ·exact f.symm
    have:=hl.1 y f;have:=hm.1 x e;omega
   subst hxy;congr 1;refine ih hl.2 hm.2 fun p=> ?_;have:=h p;simp only[Vaa]at this;constructor
   ·intro hp;rcases this.1 (.inr hp) with e|e
    ·subst e;have:=hl.1 p hp;omega
    ·exact e
   ·intro hp;rcases this.2 (.inr hp) with e|e
    ·subst e;have:=hm.1 p hp;omega
    ·exact e
theorem Zhi{cmp:PP->PP->Option Int}(hc: ∀p q,isP p->isP q-> ∃c,cmp p q=some c/\(c<0↔ltP p q))(xs:List PP)(hx: ∀p∈xs,isP p): ∃z:List PP,z.Perm xs/\Zfr cmp z:=by
 let le:PP->PP->Bool:=fun p q=> !(decide (dP q<dP p\/dP q=dP p/\aP q<aP p))
 have hle: ∀p q,le p q=true↔ ¬ltP q p:=fun p q=>by simp only[le,Bool.not_eq_true',decide_eq_false_iff_not];exact Vsa
 have hm: ∀p,p∈xs.mergeSort le->p∈xs:=fun p hp=>(Via _ _).mem_iff.1 hp
 have mono: ∀p q:PP,p∈xs->ltP p q->(xs.countP fun r=>decide (dP r<dP p\/dP r=dP p/\aP r<aP p))<xs.countP fun r=>decide (dP r<dP q\/dP r=dP q/\aP r<aP q):=by
  intro p q hp hpq
  have sub: ∀ (l:List PP),p∈l->(l.countP fun r=>decide (dP r<dP p\/dP r=dP p/\aP r<aP p))<l.countP fun r=>decide (dP r<dP q\/dP r=dP q/\aP r<aP q):=by
   have weak: ∀ (l:List PP),(l.countP fun r=>decide (dP r<dP p\/dP r=dP p/\aP r<aP p))<=l.countP fun r=>decide (dP r<dP q\/dP r=dP q/\aP r<aP q):=fun l=>List.countP_mono_left fun r _ h=>by have h:=of_decide_eq_true h;exact decide_eq_true (Zhq (p:=r) h hpq)
   intro l
   induction l with
   |nil=>exact fun h=>absurd h (by simp)
   |cons r l ih=>
    intro hm;rw[Voa,Voa];rcases Vaa.1 hm with e|e
    ·subst e;rw[decide_eq_false (show¬ (dP p<dP p\/dP p=dP p/\aP p<aP p) by omega),decide_eq_true (show dP p<dP q\/dP p=dP q/\aP p<aP q from hpq)];have:=weak l;simp only[Vla,if_false,if_true];omega
    ·have:=ih e;by_cases h1:dP r<dP p\/dP r=dP p/\aP r<aP p
     ·rw[decide_eq_true h1,decide_eq_true (show dP r<dP q\/dP r=dP q/\aP r<aP q from Zhq (p:=r) h1 hpq)];simp only[if_true];omega
     ·rw[decide_eq_false h1];simp only[Vla,if_false];omega
  exact sub xs hp
 refine⟨xs.mergeSort le,Via _ _,fun p=>xs.countP fun q=>decide (dP q<dP p\/dP q=dP p/\aP q<aP p), ?_, ?_, ?_⟩
 ·intro p hp q hq;obtain⟨c,h1,h2⟩:=hc p q (hx p (hm p hp)) (hx q (hm q hq));refine⟨c,h1,h2.trans ⟨fun h=>mono p q (hm p hp) h,fun h=> ?_⟩⟩;by_cases e:p=q
  ·subst e;omega
  rcases ZdC (hx p (hm p hp)) (hx q (hm q hq)) e with h3|h3
  ·exact h3
  ·have:=mono q p (hm q hq) h3;simp only at h;omega
 ·intro p hp q hq h;by_cases e:p=q
  ·exact e
  rcases ZdC (hx p (hm p hp)) (hx q (hm q hq)) e with h3|h3
  ·have:=mono p q (hm p hp) h3;simp only at h;omega
  ·have:=mono q p (hm q hq) h3;simp only at h;omega
 ·have hp:=List.pairwise_mergeSort (le:=le) (fun a b c h1 h2=>by
   rw[hle]at*
   unfold ltP at*;omega) (fun a b=>by
   cases h:le a b with
   |true=>rfl
   |false=>
    have h1: ¬le a b=true:=by rw[h];exact fun e=>nomatch e
    rw[hle]at h1;have:le b a=true:=(hle b a).2 (by unfold ltP at*;omega);rw[this];rfl) xs
  refine List.Pairwise.imp_of_mem (fun {p q} hp hq h=> ?_) hp;rw[hle]at h;by_cases e:p=q
  ·subst e;exact Vz _
  rcases ZdC (hx p (hm p hp)) (hx q (hm q hq)) e with h3|h3
  ·exact Nat.le_of_lt (mono p q (hm p hp) h3)
  ·exact absurd h3 h
theorem Zgr{cmp:PP->PP->Option Int}(hc: ∀p q,isP p->isP q-> ∃c,cmp p q=some c/\(c<0↔ltP p q)){z:List PP}(hx: ∀p∈z,isP p)(h:Zfr cmp z):z.Pairwise fun p q=> ¬ltP q p:=by obtain⟨rk,h1,_,h3⟩:=h;refine List.Pairwise.imp_of_mem (fun {p q} hp hq h=> ?_) h3;obtain⟨c,e1,e2⟩:=h1 q hq p hp;obtain⟨c',e3,e4⟩:=hc q p (hx q hq) (hx p hp);rw[e1]at e3;cases e3;intro hl;have:=e2.1 (e4.2 hl);omega
theorem Zil{p q:PP}(hp:isP p)(hq:isP q):eqP p q=some (decide (p=q)):=by
 obtain⟨a,b,rfl⟩: ∃a b,p=[a,b]:=⟨_,_,hp⟩;obtain⟨c,d,rfl⟩: ∃a b,q=[a,b]:=⟨_,_,hq⟩;unfold eqP
 by_cases h1:a=c<;>by_cases h2:b=d<;>simp [eqEl,eqEl.eqs,h1,h2]
theorem ZmR(z:List PP)(hz: ∀p∈z,isP p)(hs:z.Pairwise fun p q=> ¬ltP q p)(hl:z.length<=40): ∃r,cmF z=some r/\r.length<=z.length/\r.Pairwise ltP/\ ∀p,p∈r↔p∈z:=by
 have hg: ∀ {i:Nat} (h:i<z.length),isP z[i]:=fun h=>hz _ (Vd h);have hse: ∀ (i:Nat) (h:i+1<z.length),z[i]≠z[i+1]->ltP z[i] z[i+1]:=fun i h e=>(ZdC (hg _) (hg _) e).resolve_right (Vc.1 hs i (i+1) (by omega) h (by omega))
 have inner: ∀ (m k lo k2:Nat) (xs:List PP),xs.length=z.length->1<=k2->lo+k2<=z.length->k<=lo+k2 - 1->1<=k->z.length - (lo+k2)<m->
   (∀i,lo+k2 - 1<=i->xs[i]? =z[i]?)->(xs.take k).Pairwise ltP->(∀p,p∈xs.take k↔p∈z.take (lo+k2))->(∀h:lo+k2 - 1<z.length,(xs.take k).getLast?=some z[lo+k2 - 1])->
   ∃r,Zgw m (.inn xs (k:Int) lo (z.length - lo) (k2:Int))=some r/\r.length<=z.length/\r.Pairwise ltP/\ ∀p,p∈r↔p∈z:=by
  intro m
  induction m with
  |zero=>intro k lo k2 xs _ _ _ _ _ h;omega
  |succ m ih=>
   intro k lo k2 xs hxl h1 h2 h3 h4 h5 h6 h7 h8 h9;unfold Zgw Zkf;by_cases hk: (k2:Int)< ((z.length - lo:Nat):Int)
   ·have hlt:lo+k2<z.length:=by omega
    have e1:inb (k2:Int) (z.length - lo)=some k2:=ZdA (by omega);have e2:Vk .i64 ((k2:Int) - 1)=((k2 - 1:Nat):Int):=by rw[Zdc (by omega) (by omega)];omega
    have e3:inb ((k2 - 1:Nat):Int) (z.length - lo)=some (k2 - 1):=ZdA (by omega);have e4:xs[lo+k2]? =some z[lo+k2]:=by rw[h6 _ (by omega),Ve hlt]
    have e5:xs[lo+(k2 - 1)]? =some z[lo+(k2 - 1)]:=by rw[h6 _ (by omega),Ve (by omega)]
    have e6:Zaq (decide (lo+(z.length - lo)<=xs.length))=some ():=by rw[decide_eq_true (by omega)];rfl
    have e7:inb (k:Int) xs.length=some k:=ZdA (by omega);have e8:xs[k]? =some xs[k]:=Ve (by omega);have e9:Vk .i64 ((k2:Int)+1)=((k2+1:Nat):Int):=by rw[Zdc (by omega) (by omega)];omega
    have e10:Vk .i64 ((k:Int)+1)=((k+1:Nat):Int):=by rw[Zdc (by omega) (by omega)];omega
    rw[decide_eq_true hk,e6,e1,e2,e3,e7,e9,e10];simp only[cond_true,bind_some];rw[e4,e5];simp only[bind_some];rw[Zil (hg _) (hg _)];simp only[bind_some];have ht:z.take (lo+(k2+1))=z.take (lo+k2)++[z[lo+k2]]:=Va hlt;by_cases he:z[lo+k2]=z[lo+(k2 - 1)]
    ·rw[decide_eq_true he];simp only[Vu,cond_false,bind_some];refine ih k lo (k2+1) xs hxl (by omega) (by omega) (by omega) h4 (by omega) (fun i hi=>h6 i (by omega)) h7 (fun p=> ?_) (fun h=> ?_)
     ·rw[ht,Vg,h8 p,Vf];constructor
      ·exact .inl
      ·rintro (h|rfl)
       ·exact h
       ·rw[<-h8];have:=h9 (by omega);have e:lo+k2 - 1=lo+(k2 - 1):=by omega
        simp only[e]at this;rw[he];exact List.mem_of_getLast? this
     ·have:=h9 (by omega);have e:lo+k2 - 1=lo+(k2 - 1):=by omega
      simp only[e, <-he]at this;have e' :lo+(k2+1) - 1=lo+k2:=by omega
      simp only[e'];exact this
    ·rw[decide_eq_false he];simp only[Vp,cond_true,bind_some];rw[e8];simp only[bind_some]
     have hset: (xs.set k z[lo+k2]).take (k+1)=xs.take k++[z[lo+k2]]:=by rw[Va (by rw[Vpa];omega),List.getElem_set_self,List.take_set_of_le (Vz _)]
     refine ih (k+1) lo (k2+1) (xs.set k z[lo+k2]) (by rw[Vpa];exact hxl) (by omega) (by omega) (by omega) (by omega) (by omega) (fun i hi=> ?_) ?_ (fun p=> ?_) (fun h=> ?_)
     ·rw[List.getElem?_set_ne (by omega)];exact h6 i (by omega)
     ·rw[hset,Vr];refine⟨h7,by simp,fun p hp q hq=> ?_⟩;rw[Vf]at hq;subst hq;have h10:=(h8 p).1 hp;obtain⟨i,hi,rfl⟩:=Vy h10;rw[Vh]at hi;rw[Vna];have hne:ltP z[lo+(k2 - 1)] z[lo+k2]:=(ZdC (hg _) (hg _) (Ne.symm he)).resolve_right (Vc.1 hs _ _ (by omega) hlt (by omega));by_cases e:i=lo+(k2 - 1)
      ·subst e;exact hne
      ·have:=Vc.1 hs i (lo+(k2 - 1)) (by omega) (by omega) (by omega);unfold ltP at*;omega
     ·rw[hset,ht,Vg,Vg,h8 p]
     ·have e' :lo+(k2+1) - 1=lo+k2:=by omega
      rw[hset];simp only[e',List.getLast?_append,List.getLast?_singleton,Option.some_or]
   ·have hk2:lo+k2=z.length:=by omega
    rw[decide_eq_false hk]
    have s1:sliceB xs.length xs.length (some (k:Int)) none=some (k,xs.length):=by simp only[sliceB,bind_some];rw[if_pos (by omega)];simp
    rw[s1];simp only[cond_false,bind_some];rw[decide_eq_true (show k+(xs.length - k)<=xs.length by omega)];simp only[Zaq,cond_true,bind_some]
    have s2:sliceB (xs.take k++Vfa (xs.length - k) (zeroEl cmE)++xs.drop (k+(xs.length - k))).length (xs.take k++Vfa (xs.length - k) (zeroEl cmE)++xs.drop (k+(xs.length - k))).length none (some (k:Int))=some (0,k):=by simp only[sliceB];rw[if_pos (by simp only[Vw,Vh,List.length_replicate,Vs];omega)];simp
    rw[s2];simp only[bind_some,Vga,Zgw]
    have h11: (xs.take k++Vfa (xs.length - k) (zeroEl cmE)++xs.drop (k+(xs.length - k))).take k=xs.take k:=by rw[List.append_assoc,List.take_append_of_le_length (by rw[Vh];omega),List.take_take,Nat.min_self]
    rw[h11];refine⟨_,rfl,by rw[Vh];omega,h7,fun p=> ?_⟩;rw[h8 p,hk2,Vl]
 have outer: ∀ (m k:Nat),1<=k->k<=z.length->2*z.length - k<m->(z.take k).Pairwise ltP-> ∃r,Zgw m (.out z (k:Int))=some r/\r.length<=z.length/\r.Pairwise ltP/\ ∀p,p∈r↔p∈z:=by
  intro m
  induction m with
  |zero=>intro k _ _ h;omega
  |succ m ih=>
   intro k h1 h2 h3 h4;unfold Zgw ZgG;by_cases hk: (k:Int)< (z.length:Int)
   ·have hlt:k<z.length:=by omega
    have e1:inb (k:Int) z.length=some k:=ZdA hlt;have e2:Vk .i64 ((k:Int) - 1)=((k - 1:Nat):Int):=by rw[Zdc (by omega) (by omega)];omega
    have e3:inb ((k - 1:Nat):Int) z.length=some (k - 1):=ZdA (by omega);have e4:Vk .i64 ((k:Int)+1)=((k+1:Nat):Int):=by rw[Zdc (by omega) (by omega)];omega
    rw[decide_eq_true hk,e1,e2,e3,e4];simp only[cond_true,bind_some];rw[Ve hlt,Ve (show k - 1<z.length by omega)];simp only[bind_some];rw[Zil (hg _) (hg _)];simp only[bind_some];by_cases he:z[k]=z[k - 1]
    ·rw[decide_eq_true he]
     have s1:sliceB z.length z.length (some (k:Int)) none=some (k,z.length):=by simp only[sliceB,bind_some];rw[if_pos (by omega)];simp
     rw[s1];simp only[cond_true,bind_some];refine inner m k k 1 z rfl (by omega) (by omega) (by omega) h1 (by omega) (fun i _=>rfl) h4 (fun p=> ?_) (fun h=> ?_)
     ·rw[Va hlt,Vg,Vf];constructor
      ·exact .inl
      ·rintro (h|rfl)
       ·exact h
       ·rw[he];exact Vi.2 ⟨k - 1,by omega,rfl⟩
     ·have e:k+1 - 1=k:=by omega
      simp only[e];rw[he,List.getLast?_eq_getElem?,Vh,Nat.min_eq_left (by omega),List.getElem?_take_of_lt (by omega),Ve (by omega)]
    ·rw[decide_eq_false he];simp only[cond_false,bind_some];refine ih (k+1) (by omega) (by omega) (by omega) ?_;rw[Va hlt,Vr];refine⟨h4,by simp,fun p hp q hq=> ?_⟩;rw[Vf]at hq;subst hq;obtain⟨i,hi,rfl⟩:=Vy hp;rw[Vh]at hi;rw[Vna];have hne:ltP z[k - 1] z[k]:=(ZdC (hg _) (hg _) (Ne.symm he)).resolve_right (Vc.1 hs _ _ (by omega) hlt (by omega));by_cases e:i=k - 1
     ·subst e;exact hne
     ·have:=Vc.1 hs i (k - 1) (by omega) (by omega) (by omega);unfold ltP at*;omega
   ·rw[decide_eq_false hk];simp only[cond_false,bind_some];rw[show k=z.length by omega,Vl]at h4
    cases m with
    |zero=>omega
    |succ m=>exact⟨z,rfl,Vz _,h4,fun _=>Vsa⟩
 unfold cmF Zgy;by_cases h: (z.length:Int)<2
 ·rw[decide_eq_true h];refine⟨z,rfl,Vz _, ?_,fun _=>Vsa⟩
  match z,h with
  | [],_=>exact .nil
  | [x],_=>simp
  |_::_::_,h=>simp at h;omega
 ·rw[decide_eq_false h];simp only[cond_false,bind_some]
  exact outer 100 1 (by omega) (by omega) (by omega) (by match z,h with|x::_,_=>simp)
end Q
namespace Q
open Tr Go
open Option (bind_some)
def pr(c:CoT):PP:=[c.1,c.2.1]
theorem Zff(p q:PP)(hp:isP p)(hq:isP q): ∃c,F74 p q=some c/\(c<0↔ltP p q):=by
 obtain⟨a,b,rfl⟩: ∃a b,p=[a,b]:=⟨_,_,hp⟩;obtain⟨c,d,rfl⟩: ∃a b,q=[a,b]:=⟨_,_,hq⟩
 have hc: ∀x y:Int, ∃r,F8 x y=some r/\(r<0↔x<y):=fun x y=>by
  unfold F8 F10
  by_cases h1:x<y<;>by_cases h2:y<x<;>simp [h1,h2]
 unfold F74 ltP;simp only[dP,aP,Vqa,Vca,bind_some,show Vq 1=1 from rfl,Vda,Vja,Vka];by_cases h:a=c
 ·subst h;obtain⟨r,h1,h2⟩:=hc b d;simp only[decide_true,Vu,cond_false,h1,bind_some];refine⟨r,rfl,h2.trans ⟨fun h=> .inr ⟨trivial,h⟩,fun h=> ?_⟩⟩;rcases h with h|h
  ·exact absurd h (Int.lt_irrefl _)
  ·exact h.2
 ·obtain⟨r,h1,h2⟩:=hc a c;simp only[decide_eq_false h,Vp,cond_true,h1,bind_some];exact⟨r,rfl,h2.trans ⟨fun h=> .inl h,fun h' =>h'.resolve_right fun h3=>h h3.1⟩⟩
theorem Zkd(l:List CoT)(h:l.length<=20): (run
 (fun s0:List PP×Int=>
 bif decide (s0.2< (↑(Vm (l.map opt)):Int)) then
 Vb (idx (l.map opt) s0.2) fun x1=>
 Vb (Zaq (decide (Vm s0.1+Vm [[x1.2.1.1,x1.2.1.2.1]]<=Zaw))) fun _=>
 some (.inl (s0.1++[[x1.2.1.1,x1.2.1.2.1]],Vk .i64 (s0.2+(1:Int))))
 else some (.inr s0.1))
 ([],(0:Int)))=some (l.map pr):=by
 have key:=Zc4 (l.map opt).length (step:=(fun s0:List PP×Int=>
  bif decide (s0.2< (↑(Vm (l.map opt)):Int)) then
  Vb (idx (l.map opt) s0.2) fun x1=>
  Vb (Zaq (decide (Vm s0.1+Vm [[x1.2.1.1,x1.2.1.2.1]]<=Zaw))) fun _=>
  some (.inl (s0.1++[[x1.2.1.1,x1.2.1.2.1]],Vk .i64 (s0.2+(1:Int))))
  else some (.inr s0.1))) (fun r=>r=l.map pr) (fun i (s:List PP×Int)=>s=((l.take i).map pr,(i:Int))) ?_ ?_ _ rfl
 ·obtain⟨r,h1,rfl⟩:=key;exact h1
 ·rintro i _ hi rfl;have hi' :i<l.length:=by simpa using hi
  refine .inl ⟨_, ?_,rfl⟩;simp only[ltD hi,cond_true,ZdF hi,bind_some];rw[decide_eq_true (by unfold Zaw;simp only[Vj,Vh,Vo,Vn];omega)];simp only[Zaq,cond_true,bind_some];rw[Zhl hi (by rw[Vj];omega),Va hi',Vx,Vba];rfl
 ·rintro _ rfl;refine⟨_, ?_,rfl⟩;simp only[Zmu,cond_false,Vj,Vl]
def ZjN(ys:List PP)(p:PP)(b:Bool):Bool:=b||ys.any fun o=>decide (dP p<=dP o) &&decide (aP o<=aP p)
theorem ZhQ{p:PP}(hp:isP p)(b:Bool)(ys:List PP)(hy: ∀o∈ys,isP o)(hl:ys.length<=1000): (run
 (fun s9:Bool×Int=>
 bif decide (s9.2< (↑(Vm ys):Int)) then
 Vb (idx ys s9.2) fun x10=>
 Vb
 (bif s9.1 then some true
 else
 Vb x10[Vq (0:Int)]? fun x11=>
 Vb p[Vq (0:Int)]? fun x12=>
 bif decide (x12<=x11) then
 Vb x10[Vq (1:Int)]? fun x13=>Vb p[Vq (1:Int)]? fun x14=>some (decide (x13<=x14))
 else some false)
 fun x15=>some (.inl (x15,Vk .i64 (s9.2+(1:Int))))
 else some (.inr s9.1))
 (b,(0:Int)))=some (ZjN ys p b):=by
 have key:=Zc4 ys.length (step:=(fun s9:Bool×Int=>
  bif decide (s9.2< (↑(Vm ys):Int)) then
  Vb (idx ys s9.2) fun x10=>
  Vb
  (bif s9.1 then some true
  else
  Vb x10[Vq (0:Int)]? fun x11=>
  Vb p[Vq (0:Int)]? fun x12=>
  bif decide (x12<=x11) then
  Vb x10[Vq (1:Int)]? fun x13=>Vb p[Vq (1:Int)]? fun x14=>some (decide (x13<=x14))
  else some false)
  fun x15=>some (.inl (x15,Vk .i64 (s9.2+(1:Int))))
  else some (.inr s9.1))) (fun r=>r=ZjN ys p b) (fun i (s:Bool×Int)=>s=(ZjN (ys.take i) p b,(i:Int))) ?_ ?_ (b,0) (by simp [ZjN])
 ·obtain⟨r,h1,rfl⟩:=key;exact h1
 ·rintro i _ hi rfl;refine .inl ⟨_, ?_,rfl⟩;simp only[ltD hi,cond_true,ZdF hi,bind_some];have ho:=hy ys[i] (Vd hi)
  have e:ZjN (ys.take (i+1)) p b=(ZjN (ys.take i) p b|| (decide (dP p<=dP ys[i]) &&decide (aP ys[i]<=aP p))):=by unfold ZjN;rw[Va hi,List.any_append];simp [Bool.or_assoc]
  rw[e,Zhl hi (by omega)]
  cases ZjN (ys.take i) p b with
  |true=>rfl
  |false=>
   simp only[cond_false,Vta];generalize ys[i]=o at ho ⊢;obtain⟨c,d,rfl⟩: ∃a b,o=[a,b]:=⟨_,_,ho⟩;obtain⟨x,y,rfl⟩: ∃a b,p=[a,b]:=⟨_,_,hp⟩;simp only[dP,aP,Vqa,Vca,bind_some,show Vq 1=1 from rfl,Vda,Vja,Vka]
   cases decide (x<=c)<;>rfl
 ·rintro _ rfl;refine⟨_, ?_,rfl⟩;simp only[Zmu,cond_false,Vl]
structure ZmQ (S s:List PP):Prop where
 mem: ∀p,p∈s↔p∈S/\ZcW S p
 srt:s.Pairwise fun p q=>dP p<dP q
theorem Zks(l:List CoT)(h:l.length<=20): ∃s,F73 (l.map opt)=some s/\s.length<=20/\ZmQ (l.map pr) s:=by
 unfold F73;rw[Zkd l h];simp only[bind_some];have hP: ∀p∈l.map pr,isP p:=fun p hp=>by obtain⟨c,_,rfl⟩:=Vt.1 hp;rfl
 obtain⟨z,hz⟩:=ZlV (cmp:=F74) (xs:=l.map pr) (by rw[Vj];omega) (Zhi Zff _ hP);obtain⟨_,hperm,hrk⟩:=Zf3 hz;have hzP: ∀p∈z,isP p:=fun p hp=>hP p (hperm.mem_iff.1 hp);have hzl:z.length=l.length:=by rw[hperm.length_eq,Vj]
 obtain⟨x,hx1,hxl,hx2,hx3⟩:=ZmR z hzP (Zgr Zff hzP hrk) (by omega);have e1:F97 (l.map pr) ()=some z:=hz;have e2:F95 z=some x:=hx1;have hxP: ∀p∈x,isP p:=fun p hp=>hzP p ((hx3 p).1 hp);have hxm: ∀p,p∈x↔p∈l.map pr:=fun p=>(hx3 p).trans hperm.mem_iff;rw[e1];simp only[bind_some];rw[e2];simp only[bind_some]
 have hD: ∀i (hi:i<x.length),(ZjN (x.take i) x[i] (ZjN (x.drop (i+1)) x[i] false)=false)↔ZcW x x[i]:=by
  intro i hi
  have hne: ∀j (hj:j<x.length),j≠i->x[j]≠x[i]:=by
   intro j hj hji e;rcases Vma hji with h1|h1
   ·have:=Vc.1 hx2 j i hj hi h1;rw[e]at this;exact Zh7 _ this
   ·have:=Vc.1 hx2 i j hi hj h1;rw[e]at this;exact Zh7 _ this
  unfold ZjN;simp only[Vta,Bool.or_eq_false_iff,List.any_eq_false,Bool.and_eq_true,decide_eq_true_eq];constructor
  ·rintro ⟨h1,h2⟩ o ho hd;obtain⟨j,hj,rfl⟩:=Vy ho;obtain⟨d1,d2,d3⟩:=hd;have hji:j≠i:=fun e=>by subst e;exact d3 rfl
   rcases Vma hji with h3|h3
   ·exact h2 x[j] (Vi.2 ⟨j,by omega,rfl⟩) ⟨d1,d2⟩
   ·exact h1 x[j] (Vv.2 ⟨j - (i+1),by omega,by simp only[show i+1+(j - (i+1))=j by omega]⟩) ⟨d1,d2⟩
  ·intro hk;refine⟨fun o ho hd=> ?_,fun o ho hd=> ?_⟩
   ·obtain⟨j,hj,rfl⟩:=Vv.1 ho;exact hk _ (Vd _) ⟨hd.1,hd.2,hne _ _ (by omega)⟩
   ·obtain⟨j,hj,rfl⟩:=Vi.1 ho;exact hk _ (Vd _) ⟨hd.1,hd.2,hne _ _ (by omega)⟩
 refine ZcF (fun r=>r.length<=20/\(∀p,p∈r↔p∈x/\ZcW x p)/\r.Pairwise ltP) (Zc4 x.length _ (fun i (s:List PP×Int)=>s.2=(i:Int)/\s.1.length<=i/\(∀p,p∈s.1↔p∈x.take i/\ZcW x p)/\s.1.Pairwise ltP) ?_ ?_ ([],(0:Int)) ⟨rfl,by simp,by simp, .nil⟩) ?_
 rotate_left 2
 ·rintro s ⟨hs2,hs3,hs4⟩;refine⟨s,rfl,hs2,fun p=> ?_, ?_⟩
  ·rw[hs3 p,hxm p];have:ZcW x p↔ZcW (l.map pr) p:=by unfold ZcW;simp only[hxm]
   rw[this]
  ·refine List.Pairwise.imp_of_mem (fun {p q} hp hq h=> ?_) hs4;exact(Zh9 hxP ((hs3 p).1 hp).1 ((hs3 q).1 hq).1 ((hs3 p).1 hp).2 ((hs3 q).1 hq).2 h).1
 ·rintro i ⟨s,k⟩ hi ⟨rfl,h1,h2,h3⟩;simp only at h1 h2 h3
  have s1:sliceB x.length x.length (some (((i+1:Nat):Int))) none=some (i+1,x.length):=by simp only[sliceB,bind_some];rw[if_pos (by omega)];simp
  have s2:sliceB x.length x.length none (some (i:Int))=some (0,i):=by simp only[sliceB];rw[if_pos (by omega)];simp
  have t1:List.take (x.length - (i+1)) (List.drop (i+1) x)=x.drop (i+1):=Vea (by rw[Vs];omega);simp only[ltD hi,cond_true,ZdF hi,bind_some,Zhl hi (show _<=9223372036854775807 by omega),s1,s2,t1,Vga,Nat.sub_zero];rw[ZhQ (hxP _ (Vd hi)) false (x.drop (i+1)) (fun o ho=>hxP o (List.mem_of_mem_drop ho)) (by rw[Vs];omega)];simp only[bind_some];rw[ZhQ (hxP _ (Vd hi)) _ (x.take i) (fun o ho=>hxP o (Vha ho)) (by rw[Vh];omega)];simp only[bind_some];have hd:=hD i hi;have ht: ∀p,p∈x.take (i+1)↔p∈x.take i\/p=x[i]:=fun p=>by rw[Va hi,Vg,Vf]
  cases hw:ZjN (x.take i) x[i] (ZjN (x.drop (i+1)) x[i] false) with
  |false=>
   have hk:=hd.1 hw;refine .inl ⟨(s++[x[i]],((i+1:Nat):Int)), ?_,rfl, ?_, ?_, ?_⟩
   ·simp only[Vp,cond_true];rw[decide_eq_true (by unfold Zaw;simp only[Vo,Vn];omega)];simp only[Zaq,cond_true,bind_some]
   ·simp only[Vw,Vo,Vn];omega
   ·intro p;simp only[Vg,Vf,h2 p,ht p];constructor
    ·rintro (⟨a,b⟩ |rfl)
     ·exact⟨.inl a,b⟩
     ·exact⟨.inr rfl,hk⟩
    ·rintro ⟨a|rfl,b⟩
     ·exact .inl ⟨a,b⟩
     ·exact .inr rfl
   ·refine Vr.2 ⟨h3,by simp,fun p hp q hq=> ?_⟩;rw[Vf]at hq;subst hq;obtain⟨j,hj,rfl⟩:=Vi.1 ((h2 p).1 hp).1
    exact Vc.1 hx2 j i (by omega) hi (by omega)
  |true=>
   have hk: ¬ZcW x x[i]:=fun e=>by rw[hd.2 e]at hw;cases hw
   refine .inl ⟨(s,((i+1:Nat):Int)), ?_,rfl, ?_, ?_,h3⟩
   ·simp only[Vu,cond_false]
   ·simp only;omega
   ·intro p;simp only[h2 p,ht p];constructor
    ·rintro ⟨a,b⟩;exact⟨.inl a,b⟩
    ·rintro ⟨a|rfl,b⟩
     ·exact⟨a,b⟩
     ·exact absurd b hk
 ·rintro ⟨s,k⟩ ⟨rfl,h1,h2,h3⟩;refine⟨s, ?_,by simp only at h1 ⊢;omega,fun p=> ?_,h3⟩
  ·simp only[Zmu,cond_false]
  ·have:=h2 p
   rwa [Vl]at this
end Q
namespace Q
open Tr Go
open Option (bind_some)
theorem ZlH(l:List CoT)(h:l.length<=20)(i:Nat)(hi:i<l.length): ∃b,F83 (l.map opt) (i:Int)=some b/\(b=true↔ZcW (l.map pr) (pr l[i])):=by
 unfold F83;have ho: ∀ (j:Nat) (hj:j<l.length),idx (l.map opt) (j:Int)=some (opt l[j]):=fun j hj=>by rw[ZdF (by simpa using hj),Vba]
 refine ZcF (fun r=>r= .inr false/\ ¬ZcW (l.map pr) (pr l[i])\/r= .inl ()/\ZcW (l.map pr) (pr l[i])) (Zc4 l.length _ (fun k (s:Int)=>s=(k:Int)/\ ∀o∈(l.take k).map pr, ¬Znr o (pr l[i])) ?_ ?_ (0:Int) ⟨rfl,by simp⟩) ?_
 rotate_left 2
 ·rintro r (h1|h1)
  ·refine⟨false, ?_, ?_⟩
   ·rw[h1.1];rfl
   ·simp [h1.2]
  ·refine⟨true, ?_, ?_⟩
   ·rw[h1.1];rfl
   ·simp [h1.2]
 ·rintro k _ hk ⟨rfl,ha⟩;have hlt:decide ((k:Int)< ((l.map opt).length:Int))=true:=decide_eq_true (by rw[Vj];omega);simp only[hlt,cond_true,ho k hk,ho i hi,bind_some];rw[Zhl hk (by omega)]
  have hd: (pr l[k]=pr l[i])↔(l[k].1=l[i].1/\l[k].2.1=l[i].2.1):=by
   constructor
   ·intro e;have e1:dP (pr l[k])=dP (pr l[i]):=by rw[e]
    have e2:aP (pr l[k])=aP (pr l[i]):=by rw[e]
    exact⟨e1,e2⟩
   ·rintro ⟨e1,e2⟩;exact Zlo rfl rfl e1 e2
  have hdom:Znr (pr l[k]) (pr l[i])↔((opt l[i]).2.1.1<=(opt l[k]).2.1.1/\(opt l[k]).2.1.2.1<=(opt l[i]).2.1.2.1/\ ¬ ((opt l[k]).2.1.1=(opt l[i]).2.1.1/\(opt l[k]).2.1.2.1=(opt l[i]).2.1.2.1)):=by unfold Znr;rw[Ne,hd];exact Vsa
  by_cases hdo:Znr (pr l[k]) (pr l[i])
  ·right;have hr: ∀z:Unit ⊕ Bool,z= .inr false->z= .inr false/\ ¬ZcW (l.map pr) (pr l[i])\/z= .inl ()/\ZcW (l.map pr) (pr l[i]):=fun z hz=> .inl ⟨hz,fun e=>e _ (Vt.2 ⟨_,Vd hk,rfl⟩) hdo⟩;obtain⟨a,b,c⟩:=hdom.1 hdo;generalize opt l[k]=A at a b c ⊢;generalize opt l[i]=C at a b c ⊢;by_cases e1:A.2.1.1=C.2.1.1
   ·have e2: ¬A.2.1.2.1=C.2.1.2.1:=fun e=>c ⟨e1,e⟩;simp only[decide_eq_true e1,decide_eq_false e2,cond_true,cond_false,bind_some,Vp,decide_eq_true a,decide_eq_true b];exact⟨_,rfl,hr _ rfl⟩
   ·simp only[decide_eq_false e1,cond_true,cond_false,bind_some,Vp,decide_eq_true a,decide_eq_true b];exact⟨_,rfl,hr _ rfl⟩
  ·left
   have hn: ∀o∈(l.take (k+1)).map pr, ¬Znr o (pr l[i]):=by
    intro o hm;rw[Va hk,Vx,Vg]at hm;rcases hm with hm|hm
    ·exact ha o hm
    ·simp only[Vra,Vua,Vf]at hm;subst hm;exact hdo
   have hno:=fun x=>hdo (hdom.2 x);refine⟨((k+1:Nat):Int), ?_,rfl,hn⟩;clear hdom hd hdo hn;generalize opt l[k]=A at hno ⊢;generalize opt l[i]=C at hno ⊢;by_cases e1:A.2.1.1=C.2.1.1
   ·by_cases e2:A.2.1.2.1=C.2.1.2.1
    ·simp only[decide_eq_true e1,decide_eq_true e2,cond_true,cond_false,bind_some,Vu]
    ·have e3: ¬A.2.1.2.1<=C.2.1.2.1:=fun e=>hno ⟨Int.le_of_eq e1.symm,e,fun h=>e2 h.2⟩;simp only[decide_eq_true e1,decide_eq_false e2,cond_true,cond_false,bind_some,Vp,decide_eq_true (Int.le_of_eq e1.symm),decide_eq_false e3]
   ·by_cases e2:C.2.1.1<=A.2.1.1
    ·have e3: ¬A.2.1.2.1<=C.2.1.2.1:=fun e=>hno ⟨e2,e,fun h=>e1 h.1⟩;simp only[decide_eq_false e1,cond_true,cond_false,bind_some,Vp,decide_eq_true e2,decide_eq_false e3]
    ·simp only[decide_eq_false e1,cond_true,cond_false,bind_some,Vp,decide_eq_false e2]
 ·rintro _ ⟨rfl,ha⟩;refine⟨_, ?_, .inr ⟨rfl, ?_⟩⟩
  ·rw[Vj];simp only[Zmu,cond_false]
  ·rw[Vl]at ha;exact ha
theorem ZiK{p q:PP}(hp:isP p)(hq:isP q):Tr.eqEl.eqs (Tr.eqEl (Tr.Ty.int .i64)) p q=some (decide (p=q)):=Zil hp hq
theorem ZhG(l:List CoT)(h:l.length<=20): ∃s,F82 (l.map opt)=some s/\s.length<=20/\ZmQ (l.map pr) s:=by
 unfold F82;have hP: ∀p∈l.map pr,isP p:=fun p hp=>by obtain⟨c,_,rfl⟩:=Vt.1 hp;rfl
 have ho: ∀ (j:Nat) (hj:j<l.length),idx (l.map opt) (j:Int)=some (opt l[j]):=fun j hj=>by rw[ZdF (by simpa using hj),Vba]
 refine ZcF (fun r=>r.length<=20/\ZmQ (l.map pr) r) (Zc4 l.length _ (fun i (s:List PP×Int)=>s.2=(i:Int)/\s.1.length<=i/\(∀p,p∈s.1↔p∈(l.take i).map pr/\ZcW (l.map pr) p)/\s.1.Pairwise fun p q=>dP p<dP q) ?_ ?_ ([],(0:Int)) ⟨rfl,by simp,by simp, .nil⟩) ?_
 rotate_left 2
 ·rintro s ⟨hs2,hs3⟩;exact⟨s,rfl,hs2,hs3⟩
 ·rintro i ⟨s,k⟩ hi ⟨rfl,h1,h2,h3⟩;simp only at h1 h2 h3;have hlt:decide ((i:Int)< ((l.map opt).length:Int))=true:=decide_eq_true (by rw[Vj];omega)
  have hsP: ∀p∈s,isP p:=fun p hp=>by have:=((h2 p).1 hp).1;obtain⟨c,_,rfl⟩:=Vt.1 this;rfl
  simp only[hlt,cond_true,ho i hi,bind_some];rw[Zhl hi (by omega)]
  have inner:=Zc4 s.length (τ:=Int) (step:=(fun s3:Int=>
   Vb
   (bif decide (s3< (↑(Vm s):Int)) then
   Vb (inb s3 (Vm s)) fun x4=>
   Vb s[x4]? fun x5=>Vb x5[Vq (0:Int)]? fun x6=>some (decide (x6< (opt l[i]).2.1.1))
   else some false)
   fun x7=>bif x7 then some (.inl (Vk .i64 (s3+(1:Int)))) else some (.inr s3))) (fun r=> ∃k:Nat,r=(k:Int)/\k<=s.length/\(∀j (hj:j<s.length),j<k->dP s[j]<dP (pr l[i]))/\ ∀hk:k<s.length,dP (pr l[i])<=dP s[k])
   (fun k (r:Int)=>r=(k:Int)/\ ∀j (hj:j<s.length),j<k->dP s[j]<dP (pr l[i])) ?_ ?_ (0:Int) ⟨rfl,fun j _ hj=>by omega⟩
  rotate_left 1
  ·rintro k _ hk ⟨rfl,ha⟩;have hs:=hsP s[k] (Vd hk)
   have e:s[k][Vq 0]? =some (dP s[k]):=by generalize s[k]=o at hs;obtain⟨c,d,rfl⟩: ∃a b,o=[a,b]:=⟨_,_,hs⟩;rfl
   simp only[ltD hk,cond_true,ZdA hk,bind_some,Ve hk,e,Zhl hk (show _<=9223372036854775807 by omega)];by_cases hc:dP s[k]< (opt l[i]).2.1.1
   ·left;rw[decide_eq_true hc];refine⟨_,rfl,rfl,fun j hj hjk=> ?_⟩;by_cases e:j=k
    ·subst e;exact hc
    ·exact ha j hj (by omega)
   ·right;rw[decide_eq_false hc];exact⟨_,rfl,k,rfl,by omega,ha,fun _=>Int.not_lt.1 hc⟩
  ·rintro _ ⟨rfl,ha⟩;refine⟨_,by simp only[Zmu,cond_false,bind_some],s.length,rfl,Vz _,ha,fun hk=>by omega⟩
  obtain⟨_,hr,k,rfl,hk1,hk2,hk3⟩:=inner;rw[hr];simp only[bind_some];obtain⟨b,hb1,hb2⟩:=ZlH l h i hi;rw[hb1];simp only[bind_some];have htk: ∀p,p∈(l.take (i+1)).map pr↔p∈(l.take i).map pr\/p=pr l[i]:=fun p=>by rw[Va hi,Vx,Vg];simp
  have hmi:pr l[i]∈l.map pr:=Vt.2 ⟨_,Vd hi,rfl⟩
  have hsub: ∀p,p∈(l.take i).map pr->p∈l.map pr:=fun p hp=>by obtain⟨c,hc,rfl⟩:=Vt.1 hp;exact Vt.2 ⟨c,Vha hc,rfl⟩
  cases b with
  |false=>
   have hnk: ¬ZcW (l.map pr) (pr l[i]):=fun e=>by have:=hb2.2 e;cases this
   refine .inl ⟨_,rfl,rfl,by simp only;omega,fun p=> ?_,h3⟩;simp only[h2 p,htk p];constructor
   ·rintro ⟨a,b⟩;exact⟨.inl a,b⟩
   ·rintro ⟨a|rfl,b⟩
    ·exact⟨a,b⟩
    ·exact absurd b hnk
  |true=>
   have hkp:ZcW (l.map pr) (pr l[i]):=hb2.1 rfl
   have tst: ∃t,(bif decide ((k:Int)< (↑(Vm s):Int)) then
     Vb (inb (k:Int) (Vm s)) fun x10=>
     Vb s[x10]? fun x11=>
     Vb (Tr.eqEl.eqs (Tr.eqEl (Tr.Ty.int .i64)) x11 [(opt l[i]).2.1.1,(opt l[i]).2.1.2.1]) fun x12=>some x12
     else some false)=some t/\(t=true↔ ∃hk:k<s.length,s[k]=pr l[i]):=by
    by_cases hks:k<s.length
    ·refine⟨decide (s[k]=pr l[i]), ?_, ?_⟩
     ·have e0:=ZiK (p:=s[k]) (q:=[(opt l[i]).2.1.1,(opt l[i]).2.1.2.1]) (hsP _ (Vd hks)) rfl;simp only[ltD hks,cond_true,ZdA hks,bind_some,Ve hks];rw[e0];rfl
     ·simp [hks]
    ·refine⟨false, ?_, ?_⟩
     ·rw[decide_eq_false (show¬ (k:Int)< (s.length:Int) by omega)];rfl
     ·simp [hks]
   obtain⟨t,ht1,ht2⟩:=tst;simp only[Vu,cond_false];rw[ht1];simp only[bind_some]
   cases t with
   |true=>
    obtain⟨hks,hke⟩:=ht2.1 rfl;refine .inl ⟨_,rfl,rfl,by simp only;omega,fun p=> ?_,h3⟩;simp only[h2 p,htk p];constructor
    ·rintro ⟨a,b⟩;exact⟨.inl a,b⟩
    ·rintro ⟨a|rfl,b⟩
     ·exact⟨a,b⟩
     ·exact⟨((h2 _).1 (hke▸Vd hks)).1,b⟩
   |false=>
    have hne: ∀hk:k<s.length,s[k]≠pr l[i]:=fun hk e=>by have:=ht2.2 ⟨hk,e⟩;cases this
    have hgt: ∀j (hj:j<s.length),k<=j->dP (pr l[i])<dP s[j]:=by
     intro j hj hkj;have hks:k<s.length:=by omega
     have hm:=(h2 _).1 (Vd hks)
     have h5:dP (pr l[i])<dP s[k]:=by
      have h6:=hk3 hks;rcases ZdC (hsP _ (Vd hks)) (hP _ hmi) (hne hks) with h7|h7
      ·have:=Zh9 hP (hsub _ hm.1) hmi hm.2 hkp h7;omega
      ·exact(Zh9 hP hmi (hsub _ hm.1) hkp hm.2 h7).1
     by_cases e:k=j
     ·subst e;exact h5
     ·have:=Vc.1 h3 k j hks hj (by omega);omega
    have s1:sliceB s.length s.length none (some (k:Int))=some (0,k):=by simp only[sliceB];rw[if_pos (by omega)];simp
    have s2:sliceB s.length s.length (some (k:Int)) none=some (k,s.length):=by simp only[sliceB,bind_some];rw[if_pos (by omega)];simp
    have t1:List.take (s.length - k) (s.drop k)=s.drop k:=Vea (by rw[Vs];omega);have lt: (s.take k).length=k:=by rw[Vh];omega
    refine .inl ⟨(s.take k++[pr l[i]]++s.drop k,((i+1:Nat):Int)), ?_,rfl, ?_,fun p=> ?_, ?_⟩
    ·simp only[cond_false,s1,s2,bind_some,Vga,List.nil_append,t1];rw[decide_eq_true (by unfold Zaw;simp only[Vn,lt];omega),decide_eq_true (by unfold Zaw;simp only[Vo,Vn,lt];omega),decide_eq_true (by unfold Zaw;simp only[Vw,Vo,Vn,lt,Vs];omega)];rfl
    ·simp only[Vw,Vo,Vn,lt,Vs];omega
    ·have hs:p∈s.take k++[pr l[i]]++s.drop k↔p∈s\/p=pr l[i]:=by
      have e:p∈s↔p∈s.take k\/p∈s.drop k:=by rw[<-Vg,List.take_append_drop]
      simp only[Vg,Vf,e];constructor
      ·rintro ((a|a) |a)
       ·exact .inl (.inl a)
       ·exact .inr a
       ·exact .inl (.inr a)
      ·rintro ((a|a) |a)
       ·exact .inl (.inl a)
       ·exact .inr a
       ·exact .inl (.inr a)
     rw[hs,h2 p,htk p];constructor
     ·rintro (⟨a,b⟩ |rfl)
      ·exact⟨.inl a,b⟩
      ·exact⟨.inr rfl,hkp⟩
     ·rintro ⟨a|rfl,b⟩
      ·exact .inl ⟨a,b⟩
      ·exact .inr rfl
    ·refine Vr.2 ⟨Vr.2 ⟨h3.sublist (List.take_sublist _ _),by simp,fun p hp q hq=> ?_⟩,h3.sublist (List.drop_sublist _ _),fun p hp q hq=> ?_⟩
     ·rw[Vf]at hq;subst hq;obtain⟨j,hj,rfl⟩:=Vi.1 hp;exact hk2 j (by omega) (by omega)
     ·obtain⟨j,hj,rfl⟩:=Vv.1 hq;rw[Vg,Vf]at hp;rcases hp with hp|rfl
      ·obtain⟨j',hj',rfl⟩:=Vi.1 hp;exact Vc.1 h3 j' (k+j) (by omega) (by omega) (by omega)
      ·exact hgt _ (by omega) (by omega)
 ·rintro ⟨s,k⟩ ⟨rfl,h1,h2,h3⟩;refine⟨s, ?_,by simp only at h1 ⊢;omega,fun p=> ?_,h3⟩
  ·rw[Vj];simp only[Zmu,cond_false]
  ·have:=h2 p
   rwa [Vl]at this
theorem ZkL(l:List CoT):F47 l=some true:=by
 unfold F47;have hx:F48=some true:=rfl;by_cases hl:l.length<=20
 case neg=>rw[decide_eq_true (by omega)];rfl
 rw[decide_eq_false (by omega),Zin l hl];obtain⟨s,h1,h2,h3⟩:=Zks l hl;obtain⟨t,h4,_,h5⟩:=ZhG l hl;have hst:s=t:=Zlx h3.srt h5.srt fun p=>(h3.mem p).trans (h5.mem p).symm;subst hst
 have hsP: ∀p∈s,isP p:=fun p hp=>by have:=((h3.mem p).1 hp).1;obtain⟨c,_,rfl⟩:=Vt.1 this;rfl
 simp only[cond_false,bind_some];rw[h1];simp only[bind_some];rw[h4];simp only[bind_some,decide_true,Vu,cond_false];refine Zkv (fun r=>r= .inl ()) (Zc4 s.length _ (fun i (k:Int)=>k=(i:Int)) ?_ ?_ _ rfl) (fun r hr=>by rw[hr];simp only[Sum.elim_inl,hx,bind_some])
 ·rintro i _ hi rfl;left;have he:=ZiK (hsP _ (Vd hi)) (hsP _ (Vd hi));simp only[ltD hi,cond_true,ZdF hi,bind_some,Zhl hi (show _<=9223372036854775807 by omega)];rw[he];simp only[bind_some,decide_true,Vu,cond_false];exact⟨_,rfl,rfl⟩
 ·rintro _ rfl;simp only[Zmu,cond_false];exact⟨_,rfl,rfl⟩
theorem stepsP(x:Zcb F47A)(_:Zhn F47A x):F47 x.1=some true:=ZkL _
end Q
