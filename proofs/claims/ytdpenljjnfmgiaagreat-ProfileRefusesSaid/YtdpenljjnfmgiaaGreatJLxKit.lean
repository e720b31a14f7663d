/- Loops in plain Lean: with an invariant by rounds, and halving. Conditions: those of the theorems. -/
import Derived.KernelRfl
import Derived.Test.YtdpenljjnfmgiaaGreatTsH
import Derived.Test.YtdpenljjnfmgiaaGreatFin45b
import Derived.Test.YtdpenljjnfmgiaaGreatTtA
import Derived.Test.YtdpenljjnfmgiaaGreatTsF
open Bool renaming not_true ->Vd,not_false ->Vg,or_eq_false_iff ->Vh,not_eq_true ->Vn,not_eq_false' ->Vt,and_eq_true ->Vw,true_and ->Via,or_eq_true ->Vla,false_eq_true ->Vna,false_and ->Vsb
open Int renaming toNat_natCast ->Ve,le_refl ->Vv,min_le_left ->Vka,le_trans ->Vma,toNat_of_nonneg ->Vxa,min_eq_right ->Vhb,min_le_right ->Vib,min_eq_left ->Vpb,add_assoc ->Vtb
open Go.IntKind renaming wrap ->Vc,signed ->Vua,bits ->Veb
open List renaming getElem?_eq_getElem ->Va,getElem_mem ->Vi,replicate ->Vk,getElem_of_mem ->Vo,getElem?_set_ne ->Vp,length ->Vq,take_succ_eq_append_getElem ->Vr,length_append ->Vs,getElem?_eq_some_iff ->Vu,append_nil ->Vx,range ->Vy,getElem?_eq_none ->Vz,set ->Vaa,length_cons ->Vba,mem_append ->Vca,append_assoc ->Vda,getElem?_set_self ->Vea,mem_cons ->Vfa,take_length ->Vha,length_set ->Vja,pairwise_lt_range ->Vpa,length_nil ->Vqa,length_replicate ->Vra,length_filter_le ->Vsa,pairwise_flatMap ->Vta,mem_cons_of_mem ->Vva,replicate_succ' ->Vwa,flatMap_append ->Vya,find?_eq_none ->Vab,mem_map ->Vbb,isEmpty ->Vcb,take ->Vfb,ext_getElem? ->Vgb,mem_flatMap ->Vjb,countP_set ->Vlb,mem_filter ->Vmb,length_map ->Vob,range_succ ->Vqb
open Nat renaming zero_le ->Vl,le_refl ->Vga,strongRecOn ->Vkb,mul_le_mul ->Vrb
open Option renaming bind ->Vb,getD ->Vf,getD_some ->Vm,isSome ->Voa
open Prod.mk renaming injEq ->Vza
open Sum renaming elim_inl ->Vj,elim_inr ->Vdb,elim ->Vnb
namespace Q
open Tr Go
open Option (bind_some)
theorem Zpf{σ τ:Type}{step:σ->Option (σ ⊕ τ)}(n:Nat)(P:τ->Prop)(Inv:Nat->σ->Prop)
  (hstep: ∀i s,i<n->Inv i s->(∃s',step s=some (.inl s')/\Inv (i+1) s')\/ ∃r,step s=some (.inr r)/\P r)
  (hend: ∀s,Inv n s-> ∃r,step s=some (.inr r)/\P r) (s:σ) (h0:Inv 0 s): ∃r,run step s=some r/\P r:=by
 have key: ∀ (k i:Nat) (s:σ),n - i=k->i<=n->Inv i s-> ∃r,run step s=some r/\P r:=by
  intro k
  induction k with
  |zero=>
   intro i s hk hi hs;have:i=n:=by omega
   subst this;obtain⟨r,h1,h2⟩:=hend s hs
   exact⟨r,Zb2 h1,h2⟩
  |succ k ih=>
   intro i s hk hi hs;rcases hstep i s (by omega) hs with ⟨s',h1,h2⟩ | ⟨r,h1,h2⟩
   ·rw[ZdP h1];exact ih (i+1) s' (by omega) (by omega) h2
   ·exact⟨r,Zb2 h1,h2⟩
 exact key n 0 s (by omega) (by omega) h0
end Q
namespace Gr
inductive Wk (Ed:Nat->Nat->Int->Prop) (s:Nat):Nat->Int->Prop
 |nil:Wk Ed s s 0
 |snoc {u v:Nat}{d w:Int} (h:Wk Ed s u d) (e:Ed u v w):Wk Ed s v (d+w)
def ZdS(Ed:Nat->Nat->Int->Prop)(s v:Nat)(d:Int):Prop:=Wk Ed s v d/\ ∀d',Wk Ed s v d' ->d<=d'
theorem Wk.nonneg{Ed:Nat->Nat->Int->Prop}(hw: ∀u v w,Ed u v w->0<=w){s v:Nat}{d:Int}(h:Wk Ed s v d):0<=d:=by
 induction h with
 |nil=>exact Vv _
 |snoc h e ih=>have:=hw _ _ _ e;omega
theorem Zog{Ed:Nat->Nat->Int->Prop}(hw: ∀u v w,Ed u v w->0<=w){s:Nat}{S:Nat->Prop}{L:Nat->Int}{O:Nat->Int->Prop}{m:Int}
  (hA: ∀u,S u-> ∀d,Wk Ed s u d->L u<=d) (hC:S s\/ ∃l,O s l/\l<=0) (hD: ∀u v w,S u->Ed u v w->S v\/ ∃l,O v l/\l<=L u+w) (hm: ∀v l,O v l->m<=l):
  ∀ {v:Nat}{d:Int},Wk Ed s v d->S v\/m<=d:=by
 intro v d h
 induction h with
 |nil=>
  rcases hC with h| ⟨l,h1,h2⟩
  ·exact .inl h
  ·exact .inr (Vma (hm _ _ h1) h2)
 | @snoc u v d w h e ih=>
  rcases ih with hu|hu
  ·rcases hD u v w hu e with h1| ⟨l,h1,h2⟩
   ·exact .inl h1
   ·have:=hA u hu d h;have:=hm _ _ h1;exact .inr (by omega)
  ·have:=hw _ _ _ e;exact .inr (by omega)
theorem Zlf{Ed:Nat->Nat->Int->Prop}{s:Nat}{S:Nat->Prop}{L:Nat->Int}{O:Nat->Int->Prop}
  (hC:S s\/ ∃l,O s l/\l<=0) (hD: ∀u v w,S u->Ed u v w->S v\/ ∃l,O v l/\l<=L u+w) (hO: ∀v l, ¬O v l): ∀ {v:Nat}{d:Int},Wk Ed s v d->S v:=by
 intro v d h
 induction h with
 |nil=>exact hC.resolve_right fun⟨l,h,_⟩=>hO _ _ h
 | @snoc u v d w h e ih=>exact(hD u v w ih e).resolve_right fun⟨l,h,_⟩=>hO _ _ h
theorem Wk.dom{Ed Ed' :Nat->Nat->Int->Prop}(h: ∀u v w,Ed u v w-> ∃w',Ed' u v w' /\w' <=w){s v:Nat}{d:Int}(k:Wk Ed s v d): ∃d',Wk Ed' s v d' /\d' <=d:=by
 induction k with
 |nil=>exact⟨0, .nil,Vv _⟩
 |snoc k e ih=>
  obtain⟨d',h1,h2⟩:=ih;obtain⟨w',h3,h4⟩:=h _ _ _ e;exact⟨_, .snoc h1 h3,by omega⟩
inductive Wb (Ed:Nat->Nat->Int->Prop) (k:Nat):Nat->Nat->Int->Prop
 |one {i j:Nat}{w:Int} (e:Ed i j w):Wb Ed k i j w
 |cons {i m j:Nat}{w d:Int} (e:Ed i m w) (hm:m<k) (h:Wb Ed k m j d):Wb Ed k i j (w+d)
theorem Wb.nonneg{Ed:Nat->Nat->Int->Prop}(hw: ∀u v w,Ed u v w->0<=w){k i j:Nat}{d:Int}(h:Wb Ed k i j d):0<=d:=by
 induction h with
 |one e=>exact hw _ _ _ e
 |cons e _ _ ih=>have:=hw _ _ _ e;omega
theorem Wb.round{Ed:Nat->Nat->Int->Prop}(hw: ∀u v w,Ed u v w->0<=w){k i j:Nat}{d:Int}(h:Wb Ed (k+1) i j d):
  (∃d',d' <=d/\Wb Ed k i j d')\/ ∃d1 d2,d1+d2<=d/\Wb Ed k i k d1/\Wb Ed k k j d2:=by
 induction h with
 |one e=>exact .inl ⟨_,Vv _, .one e⟩
 | @cons i m j w d e hm h ih=>
  by_cases hmk:m=k
  ·subst hmk;rcases ih with ⟨d',h1,h2⟩ | ⟨d1,d2,h1,h2,h3⟩
   ·exact .inr ⟨w,d',by omega, .one e,h2⟩
   ·have:=h2.nonneg hw;exact .inr ⟨w,d2,by omega, .one e,h3⟩
  ·have hm' :m<k:=by omega
   rcases ih with ⟨d',h1,h2⟩ | ⟨d1,d2,h1,h2,h3⟩
   ·exact .inl ⟨w+d',by omega, .cons e hm' h2⟩
   ·exact .inr ⟨w+d1,d2,by omega, .cons e hm' h2,h3⟩
theorem Wb.app{Ed:Nat->Nat->Int->Prop}{k i m j:Nat}{d1 d2:Int}(hm:m<k)(h1:Wb Ed k i m d1)(h2:Wb Ed k m j d2):Wb Ed k i j (d1+d2):=by
 induction h1 with
 |one e=>exact .cons e hm h2
 | @cons i m' j' w d e hm' _ ih=>
  have:=Wb.cons e hm' (ih hm h2)
  rwa [<-Vtb]at this
theorem Wb.wk{Ed:Nat->Nat->Int->Prop}{k s i j:Nat}{d d0:Int}(h0:Wk Ed s i d0)(h:Wb Ed k i j d):Wk Ed s j (d0+d):=by
 induction h generalizing d0 with
 |one e=>exact .snoc h0 e
 |cons e _ _ ih=>
  have:=ih (.snoc h0 e)
  rwa [Vtb]at this
theorem Wb.snoc{Ed:Nat->Nat->Int->Prop}{k i j v:Nat}{d w:Int}(hj:j<k)(h:Wb Ed k i j d)(e:Ed j v w):Wb Ed k i v (d+w):=h.app hj (.one e)
theorem Wk.wb{Ed:Nat->Nat->Int->Prop}{n s v:Nat}{d:Int}(hn: ∀u v w,Ed u v w->u<n/\v<n)(h:Wk Ed s v d): (v=s/\d=0)\/Wb Ed n s v d:=by
 induction h with
 |nil=>exact .inl ⟨rfl,rfl⟩
 | @snoc u v d w h e ih=>
  rcases ih with ⟨rfl,rfl⟩ |h1
  ·right;rw[Int.zero_add];exact .one e
  ·exact .inr (h1.snoc (hn _ _ _ e).1 e)
end Gr
namespace Q
open Tr Go
open Option (bind_some)
abbrev Lab:=Int×Int×Int×Unit
abbrev Nd:=Lab×Int×Unit
abbrev Hp:=Unit×List Nd×Int×Unit
def ZpV(a b:Lab):Bool:=decide (a.2.1<b.2.1\/(a.2.1=b.2.1/\a.2.2.1<b.2.2.1))
def bef(a b:Nd):Bool:=decide (a.1.2.1<b.1.2.1\/(a.1.2.1=b.1.2.1/\(a.1.2.2.1<b.1.2.2.1\/(a.1.2.2.1=b.1.2.2.1/\a.2.1<b.2.1))))
def le(a b:Nd):Prop:= ¬ (b.1.2.1<a.1.2.1\/(b.1.2.1=a.1.2.1/\(b.1.2.2.1<a.1.2.2.1\/(b.1.2.2.1=a.1.2.2.1/\b.2.1<a.2.1))))
theorem le_refl(a:Nd):le a a:=by unfold le;omega
theorem le_trans{a b c:Nd}(h:le a b)(k:le b c):le a c:=by unfold le at*;omega
theorem Zgo{a b:Nd}(h:bef a b=true):le a b:=by unfold bef at h;unfold le;have:=of_decide_eq_true h;omega
theorem ZgB{a b:Nd}(h:bef a b=false):le b a:=by unfold bef at h;exact of_decide_eq_false h
theorem ZqI{a b:Nd}(h:le a b):a.1.2.1<=b.1.2.1:=by unfold le at h;omega
def nd0:Nd:=((0,0,0,()),0,())
def at' (l:List Nd)(k:Nat):Nd:=(l[k]?).getD nd0
theorem ZiK{l:List Nd}{k:Nat}(h:k<l.length):l[k]? =some (at' l k):=by simp [at',h]
theorem Zo5{l:List Nd}{i:Nat}(h:i<l.length)(b:Nd)(k:Nat):at' (l.set i b) k=if k=i then b else at' l k:=by
 unfold at';rw[List.getElem?_set];by_cases hk:i=k
 ·subst hk;simp [h]
 ·rw[if_neg hk,if_neg (fun e=>hk e.symm)]
def ZcD(l:List Nd)(i k:Nat):List Nd:=(l.set i (at' l k)).set k (at' l i)
theorem ZbT(l:List Nd)(i k:Nat): (ZcD l i k).length=l.length:=by simp [ZcD]
theorem ZcV{l:List Nd}{i k:Nat}(hi:i<l.length)(hk:k<l.length)(j:Nat):at' (ZcD l i k) j=if j=k then at' l i else if j=i then at' l k else at' l j:=by unfold ZcD;rw[Zo5 (by simpa using hk),Zo5 hi]
theorem ZfV{l:List Nd}{i k:Nat}(hi:i<l.length)(hk:k<l.length): (ZcD l i k).Perm l:=by
 have h1:at' l k=l[k]:=by simp [at',hk]
 have h2:at' l i=l[i]:=by simp [at',hi]
 unfold ZcD;rw[h1,h2];exact List.set_set_perm hi hk
theorem Zoa(a b:Lab):F106 a b=some (ZpV a b):=by
 unfold F106 ZpV;by_cases h1:a.2.1<b.2.1
 ·simp [h1]
 ·by_cases h2:a.2.1=b.2.1
  ·simp [h2]
  ·simp [h1,h2]
theorem Zfi{l:List Nd}{c:Int}{i k:Nat}(hi:i<l.length)(hk:k<l.length):F36 ((),l,c,()) (i:Int) (k:Int)=some (((),l,c,()),bef (at' l i) (at' l k)):=by
 unfold F36;simp only[Zbf hi,Zbf hk,ZiK hi,ZiK hk,bind_some,Zoa];unfold ZpV bef;by_cases h1: (at' l i).1.2.1< (at' l k).1.2.1\/((at' l i).1.2.1=(at' l k).1.2.1/\(at' l i).1.2.2.1< (at' l k).1.2.2.1)
 ·rw[decide_eq_true h1];simp only[cond_true];rw[decide_eq_true (by omega)]
 ·rw[decide_eq_false h1];simp only[cond_false];by_cases h2: (at' l k).1.2.1< (at' l i).1.2.1\/((at' l k).1.2.1=(at' l i).1.2.1/\(at' l k).1.2.2.1< (at' l i).1.2.2.1)
  ·rw[decide_eq_true h2];simp only[cond_true];rw[decide_eq_false (by omega)]
  ·rw[decide_eq_false h2];simp only[cond_false];refine congrArg (fun b=>some ((((),l,c,()):Hp),b)) (decide_eq_decide.2 ⟨fun h=> ?_,fun h=> ?_⟩)
   ·exact .inr ⟨by omega, .inr ⟨by omega,h⟩⟩
   ·rcases h with h| ⟨_,h| ⟨_,h⟩⟩
    ·omega
    ·omega
    ·exact h
theorem ZhD{l:List Nd}{c:Int}{i k:Nat}(hi:i<l.length)(hk:k<l.length):F38 ((),l,c,()) (i:Int) (k:Int)=some ((),ZcD l i k,c,()):=by
 unfold F38;have hk2:k< (Vaa l i (at' l k)).length:=by simpa using hk
 simp only[Zbf hi,Zbf hk,ZiK hi,ZiK hk,bind_some,Zbf hk2];rw[Va hk2];rfl
def Zct(l:List Nd):Prop:= ∀k,0<k->k<l.length->le (at' l ((k - 1) / 2)) (at' l k)
theorem ZoG{l:List Nd}(h:Zct l): ∀k,k<l.length->le (at' l 0) (at' l k):=by
 intro k
 induction k using Vkb with
 |ind k ih=>
  intro hk;by_cases h0:k=0
  ·subst h0;exact le_refl _
  ·exact le_trans (ih ((k - 1) / 2) (by omega) (by omega)) (h k (by omega) hk)
def Up(l:List Nd)(i:Nat):Prop:=
 i<l.length/\(∀k,0<k->k<l.length->k≠i->le (at' l ((k - 1) / 2)) (at' l k))/\ ∀k,0<k->k<l.length->(k - 1) / 2=i->0<i->le (at' l ((i - 1) / 2)) (at' l k)
theorem Zpr{l:List Nd}{i:Nat}(h:Up l i)(hi:0<i)(hb:bef (at' l i) (at' l ((i - 1) / 2))=true):Up (ZcD l i ((i - 1) / 2)) ((i - 1) / 2):=by
 obtain⟨h1,h2,h3⟩:=h;have hp: (i - 1) / 2<l.length:=by omega
 have hle:=Zgo hb;refine⟨by rw[ZbT];exact hp,fun k k1 k2 k3=> ?_,fun k k1 k2 k3 k4=> ?_⟩
 ·rw[ZbT]at k2;rw[ZcV h1 hp,ZcV h1 hp];by_cases hki:k=i
  ·subst hki;rw[if_pos rfl,if_neg (by omega),if_pos rfl];exact hle
  ·rw[if_neg k3,if_neg hki];by_cases hq: (k - 1) / 2=i
   ·rw[if_neg (by omega),if_pos hq];exact h3 k k1 k2 hq hi
   ·by_cases hq2: (k - 1) / 2=(i - 1) / 2
    ·rw[if_pos hq2];have:=h2 k k1 k2 hki;rw[hq2]at this;exact le_trans hle this
    ·rw[if_neg hq2,if_neg hq];exact h2 k k1 k2 hki
 ·rw[ZbT]at k2;rw[ZcV h1 hp,ZcV h1 hp,if_neg (by omega),if_neg (by omega)];by_cases hki:k=i
  ·subst hki;rw[if_neg (by omega),if_pos rfl];exact h2 _ k4 hp (by omega)
  ·rw[if_neg (by omega),if_neg hki];have a:=h2 _ k4 hp (by omega);have b:=h2 k k1 k2 hki;rw[k3]at b;exact le_trans a b
theorem ZkN{l:List Nd}{c:Int}(x:Lab)(h:Zct l)(hl:l.length<2147483648):
  ∃z:Hp,F35 ((),l,c,()) x=some z/\z.2.2.1=Vc .i64 (c+1)/\Zct z.2.1/\z.2.1.Perm (l++[(x,c,())]):=by
 have hlen: (l++[(x,c,())]).length=l.length+1:=by simp
 have h0:Up (l++[(x,c,())]) l.length:=by
  refine⟨by omega,fun k k1 k2 k3=> ?_,fun k k1 k2 k3 k4=>by omega⟩;have e: ∀j,j<l.length->at' (l++[(x,c,())]) j=at' l j:=fun j hj=>by simp [at',List.getElem?_append_left hj]
  rw[e _ (by omega),e _ (by omega)];exact h k k1 (by omega)
 unfold F35
 have eg:Zas (decide (l.length+ [((x,c,()):Nd)].length<=Zax))=some ():=by rw[decide_eq_true (by simp [Zax];omega)];rfl
 have ew:Vc .i64 (((l++[(x,c,())]).length:Int) - 1)=(l.length:Int):=by rw[hlen,ZaA (by omega) (by omega)];omega
 simp only[eg,bind_some,ew]
 refine run_bind (fun s=> ∃ (m:List Nd) (i:Nat),s=(((),m,Vc .i64 (c+1),()),(i:Int))/\Up m i/\m.Perm (l++[(x,c,())])) (fun s=>s.2.toNat)
  (fun r=> ∃m:List Nd,r=((),m,Vc .i64 (c+1),())/\Zct m/\m.Perm (l++[(x,c,())])) ⟨_,l.length,rfl,h0, .refl _⟩ ?_ ?_
 ·rintro s ⟨m,i,rfl,hU,hP⟩;have hml:m.length=l.length+1:=by rw[hP.length_eq,hlen]
  by_cases hi:0<i
  ·have e1:Vc .i64 ((i:Int) - 1)=((i - 1:Nat):Int):=by have:=hU.1;rw[ZaA (by omega) (by omega)];omega
   have e2:Int.tdiv ((i - 1:Nat):Int) 2=(((i - 1) / 2:Nat):Int):=by rw[Int.tdiv_eq_ediv_of_nonneg (by omega)];omega
   have e3:Vc .i64 ((((i - 1) / 2:Nat)):Int)=(((i - 1) / 2:Nat):Int):=by have:=hU.1;exact ZaA (by omega) (by omega)
   have hp: (i - 1) / 2<m.length:=by have:=hU.1;omega
   simp only[show decide ((0:Int)< (i:Int))=true from decide_eq_true (by omega),cond_true,e1,e2,e3,Zfi hU.1 hp,bind_some]
   cases hb:bef (at' m i) (at' m ((i - 1) / 2)) with
   |true=>
    left;refine⟨_,by simp only[cond_true,ZhD hU.1 hp,bind_some],⟨ZcD m i ((i - 1) / 2),(i - 1) / 2,rfl,Zpr hU hi hb,(ZfV hU.1 hp).trans hP⟩, ?_⟩
    simp only[Ve];omega
   |false=>
    right;refine⟨_,rfl,m,rfl,fun k k1 k2=> ?_,hP⟩;by_cases hk:k=i
    ·subst hk;exact ZgB hb
    ·exact hU.2.1 k k1 k2 hk
  ·right;have:i=0:=by omega
   subst this;refine⟨_,by simp only[show decide ((0:Int)< ((0:Nat):Int))=false by simp,cond_false],m,rfl,fun k k1 k2=>hU.2.1 k k1 k2 (by omega),hP⟩
 ·rintro r ⟨m,rfl,h3,h4⟩;exact⟨_,rfl,rfl,h3,h4⟩
def Dn(l:List Nd)(i:Nat):Prop:=
 (∀k,0<k->k<l.length->(k - 1) / 2≠i->le (at' l ((k - 1) / 2)) (at' l k))/\ ∀k,0<k->k<l.length->(k - 1) / 2=i->0<i->le (at' l ((i - 1) / 2)) (at' l k)
theorem Zpq{l:List Nd}{i c:Nat}(h:Dn l i)(hi:i<l.length)(hc:c<l.length)(hpc: (c - 1) / 2=i)(hc0:0<c)(hb:bef (at' l c) (at' l i)=true)(hs: ∀k,0<k->k<l.length->(k - 1) / 2=i->le (at' l c) (at' l k)):Dn (ZcD l i c) c:=by
 obtain⟨h1,h2⟩:=h;have hle:=Zgo hb;refine⟨fun k k1 k2 k3=> ?_,fun k k1 k2 k3 k4=> ?_⟩
 ·rw[ZbT]at k2;rw[ZcV hi hc,ZcV hi hc,if_neg k3];by_cases hki:k=i
  ·subst hki;rw[if_neg (by omega),if_neg (by omega),if_pos rfl];exact h2 c hc0 hc hpc k1
  ·by_cases hp: (k - 1) / 2=i
   ·rw[if_pos hp];by_cases hkc:k=c
    ·rw[if_pos hkc];exact hle
    ·rw[if_neg hkc,if_neg hki];exact hs k k1 k2 hp
   ·rw[if_neg hp,if_neg (by rintro rfl;exact hp hpc),if_neg hki];exact h1 k k1 k2 hp
 ·rw[ZbT]at k2;rw[hpc,ZcV hi hc,ZcV hi hc,if_neg (by omega),if_pos rfl,if_neg (by omega),if_neg (by omega)];have:=h1 k k1 k2 (by omega);rw[k3]at this;exact this
theorem Zni{l:List Nd}{i:Nat}(h:Dn l i)(hs: ∀k,0<k->k<l.length->(k - 1) / 2=i->le (at' l i) (at' l k)):Zct l:=by
 intro k k1 k2;by_cases hp: (k - 1) / 2=i
 ·rw[hp];exact hs k k1 k2 hp
 ·exact h.1 k k1 k2 hp
theorem ZoQ     {l : List Nd}{c : Int}(h : Dn l 0)(hl : l.length < 2147483648) : ∃ z : Hp, F37 ((), l, c, ()) = some z /\ z.2.2.1 = c /\ Zct    z.2.1 /\ z.2.1.Perm l := by
  unfold F37;simp only
  refine run_bind (fun s => ∃ (m : List Nd) (i : Nat), s = (((), m, c, ()), (i : Int)) /\ (i < m.length \/ i = 0) /\ Dn m i /\ m.Perm l) (fun s => l.length - s.2.toNat)
    (fun r => ∃ m : List Nd, r = ((), m, c, ()) /\ Zct    m /\ m.Perm l) ⟨l, 0, rfl, .inr rfl, h, .refl _⟩ ?_ ?_
  · rintro s ⟨m, i, rfl, hi, hD, hP⟩
    have hml : m.length = l.length := hP.length_eq;have e1 : Vc .i64 ((2 : Int) * (i : Int)) = ((2 * i : Nat) : Int) := by rw [ZaA      (by omega) (by omega)]; omega
    have e2 : Vc .i64 (((2 * i : Nat) : Int) + 1) = ((2 * i + 1 : Nat) : Int) := by rw [ZaA      (by omega) (by omega)]; omega
    have e3 : Vc .i64 (((2 * i + 1 : Nat) : Int) + 1) = ((2 * i + 2 : Nat) : Int) := by rw [ZaA      (by omega) (by omega)]; omega
    simp only [e1, e2, e3];by_cases hk : m.length <= 2 * i + 1
    · right
      refine ⟨_, by simp only [show decide ((m.length : Int) <= ((2 * i + 1 : Nat) : Int)) = true from decide_eq_true (by omega), cond_true], m, rfl, Zni     hD fun k k1 k2 k3 => by omega, hP⟩
    · simp only [show decide ((m.length : Int) <= ((2 * i + 1 : Nat) : Int)) = false from decide_eq_false (by omega), cond_false]
      have him : i < m.length := by omega
      have fin : ∀ ch : Nat, (ch = 2 * i + 1 \/ ch = 2 * i + 2) -> ch < m.length -> (∀ k, 0 < k -> k < m.length -> (k - 1) / 2 = i -> le (at' m ch) (at' m k)) ->
          (∃ s' : Hp × Int, (Vb (F36 ((), m, c, ()) (ch : Int) (i : Int)) fun x3 =>
                bif !x3.snd then some (Sum.inr ((), x3.fst.snd.fst, x3.fst.snd.snd.fst, ()))
                else Vb (F38 ((), x3.fst.snd.fst, x3.fst.snd.snd.fst, ()) (i : Int) (ch : Int)) fun x4 => some (Sum.inl (((), x4.snd.fst, x4.snd.snd.fst, ()), (ch : Int)))) = some (Sum.inl s' : (Hp × Int) ⊕ Hp) /\
              (∃ (m' : List Nd) (i' : Nat), s' = (((), m', c, ()), (i' : Int)) /\ (i' < m'.length \/ i' = 0) /\ Dn m' i' /\ m'.Perm l) /\ l.length - s'.2.toNat < l.length - (i : Int).toNat) \/
          ∃ r : Hp, (Vb (F36 ((), m, c, ()) (ch : Int) (i : Int)) fun x3 =>
                bif !x3.snd then some (Sum.inr ((), x3.fst.snd.fst, x3.fst.snd.snd.fst, ()))
                else Vb (F38 ((), x3.fst.snd.fst, x3.fst.snd.snd.fst, ()) (i : Int) (ch : Int)) fun x4 => some (Sum.inl (((), x4.snd.fst, x4.snd.snd.fst, ()), (ch : Int)))) = some (Sum.inr r : (Hp × Int) ⊕ Hp) /\
              ∃ m' : List Nd, r = ((), m', c, ()) /\ Zct    m' /\ m'.Perm l := by
        intro ch hch hcl hs;rw [Zfi        hcl him];simp only [bind_some]
        cases hb : bef (at' m ch) (at' m i) with
        | true =>
          left;refine ⟨_, by simp only [Vd, cond_false, ZhD      him hcl, bind_some], ⟨ZcD   m i ch, ch, rfl, .inl (by rw [ZbT     ]; exact hcl), Zpq     hD him hcl (by omega) (by omega) hb hs, (ZfV       him hcl).trans hP⟩, ?_⟩
          simp only [Ve]; omega
        | false =>
          right;exact ⟨_, by simp only [Vg, cond_true], m, rfl, Zni     hD fun k k1 k2 k3 => le_trans (ZgB       hb) (hs k k1 k2 k3), hP⟩
      by_cases hk2 : 2 * i + 2 < m.length
      · simp only [show decide (((2 * i + 2 : Nat) : Int) < (m.length : Int)) = true from decide_eq_true (by omega), cond_true, Zfi        hk2 (show 2 * i + 1 < m.length by omega), bind_some]
        cases hb : bef (at' m (2 * i + 2)) (at' m (2 * i + 1)) with
        | true =>
          simp only [cond_true, bind_some]
          exact fin (2 * i + 2) (.inr rfl) hk2 fun k k1 k2 k3 => by
            have : k = 2 * i + 1 \/ k = 2 * i + 2 := by omega
            rcases this with rfl | rfl
            · exact Zgo       hb
            · exact le_refl _
        | false =>
          simp only [cond_false, bind_some]
          exact fin (2 * i + 1) (.inl rfl) (by omega) fun k k1 k2 k3 => by
            have : k = 2 * i + 1 \/ k = 2 * i + 2 := by omega
            rcases this with rfl | rfl
            · exact le_refl _
            · exact ZgB       hb
      · simp only [show decide (((2 * i + 2 : Nat) : Int) < (m.length : Int)) = false from decide_eq_false (by omega), cond_false]
        exact fin (2 * i + 1) (.inl rfl) (by omega) fun k k1 k2 k3 => by
          have : k = 2 * i + 1 := by omega
          subst this;exact le_refl _
  · rintro r ⟨m, rfl, h3, h4⟩
    exact ⟨_, rfl, rfl, h3, h4⟩
theorem ZnS(c:Int):F34 ((),[],c,())=some (((),[],c,()),(0,0,0,()),false):=by unfold F34 F33 F32;rfl
theorem Zp4{l:List Nd}{c:Int}(h:Zct l)(hne:l≠ [])(hl:l.length<2147483648):
  ∃l' x,F34 ((),l,c,())=some (((),l',c,()),x.1,true)/\Zct l' /\l.Perm (x::l')/\ ∀y∈l,x.1.2.1<=y.1.2.1:=by
 have hpos:0<l.length:=List.length_pos_iff.2 hne;have hlast:l.length - 1<l.length:=by omega
 have hpeek:F33 ((),l,c,())=some (((),l,c,()),(at' l 0).1,true):=by unfold F33 F32;simp only[bind_some,show decide ((l.length:Int)=0)=false from decide_eq_false (by omega),cond_false];rw[show (0:Int)=((0:Nat):Int) from rfl,Zbf hpos];simp only[bind_some,ZiK hpos]
 have ew:Vc .i64 ((l.length:Int) - 1)=((l.length - 1:Nat):Int):=by rw[ZaA (by omega) (by omega)];omega
 have hsl:sliceB (ZcD l 0 (l.length - 1)).length (ZcD l 0 (l.length - 1)).length none (some ((l.length - 1:Nat):Int))=some (0,l.length - 1):=by unfold sliceB;rw[ZbT];simp
 have hD:Dn (Vfb (l.length - 1) (ZcD l 0 (l.length - 1))) 0:=by
  refine⟨fun k k1 k2 k3=> ?_,fun k k1 k2 k3 k4=>by omega⟩;simp [ZbT]at k2
  have e: ∀j,j<l.length - 1->j≠0->at' (Vfb (l.length - 1) (ZcD l 0 (l.length - 1))) j=at' l j:=fun j hj hj0=>by
   have:at' (Vfb (l.length - 1) (ZcD l 0 (l.length - 1))) j=at' (ZcD l 0 (l.length - 1)) j:=by unfold at';rw[List.getElem?_take,if_pos hj]
   rw[this,ZcV hpos hlast,if_neg (by omega),if_neg hj0]
  rw[e _ (by omega) (by omega),e _ (by omega) (by omega)];exact h k k1 (by omega)
 obtain⟨⟨_,l',c',_⟩,h1,rfl,h2,h3⟩:=ZoQ (c:=c) hD (by simp [ZbT];omega);refine⟨l',at' l 0, ?_,h2, ?_,fun y hy=> ?_⟩
 ·unfold F34;rw[hpeek];simp only[bind_some,Vd,cond_false,ew];rw[show (0:Int)=((0:Nat):Int) from rfl,ZhD hpos hlast];simp only[bind_some,hsl,h1]
 ·have hsw:=ZfV hpos hlast
  have e:ZcD l 0 (l.length - 1)=Vfb (l.length - 1) (ZcD l 0 (l.length - 1))++[at' l 0]:=by
   conv=>lhs;rw[<-List.take_append_drop (l.length - 1) (ZcD l 0 (l.length - 1))]
   congr 1;have hl1: (ZcD l 0 (l.length - 1)).length=l.length:=ZbT ..;rw[List.drop_eq_getElem_cons (by omega)];have h4:List.drop (l.length - 1+1) (ZcD l 0 (l.length - 1))=[]:=List.drop_eq_nil_of_le (by omega);rw[h4];have h5:=ZcV hpos hlast (l.length - 1);rw[if_pos rfl]at h5;rw[<-h5];simp [at',hl1,hlast]
  rw[e]at hsw;exact hsw.symm.trans ((List.perm_append_comm).trans (List.Perm.cons _ h3.symm))
 ·obtain⟨i,hi,rfl⟩:=Vo hy;have:=ZqI (ZoG h i hi);simpa [at',hi] using this
end Q
namespace Q
open Tr Go Gr
open Option (bind_some)
abbrev Zjy:=Int×Int×Int×Unit
abbrev Adj:=List (Int×List Zjy)
def nbs(m:Adj)(u:Nat):List Zjy:=Vf (Zaw (Zai (.int .i64)) (u:Int) m) []
structure Zpp (n:Nat) (m:Adj) (Ed:Nat->Nat->Int->Prop):Prop where
 mem: ∀u,u<n-> ∀y∈nbs m u, ∃v:Nat,v<n/\y.2.1=(v:Int)/\0<=y.2.2.1/\y.2.2.1<=1073741824/\Ed u v y.2.2.1
 all: ∀u v w,Ed u v w->u<n/\ ∃y∈nbs m u,y.2.1=(v:Int)/\y.2.2.1=w
 len: ∀u,u<n->(nbs m u).length<=4096
def Zb1(x:Lab):Bool:=decide (0<=x.2.2.1)
def ZlG(o:List Lab)(i:Nat):Prop:= ∃x,o[i]? =some x/\0<=x.2.2.1
def lenOf(o:List Lab)(i:Nat):Int:=((o[i]?).getD (0,0,0,())).2.1
structure DI (n:Nat) (Ed:Nat->Nat->Int->Prop) (s:Nat) (o:List Lab) (h:List Nd):Prop where
 len:o.length=n
 heap:Zct h
 lab: ∀i x,o[i]? =some x->(x.2.2.1<0->x.2.1= -1)/\(0<=x.2.2.1->ZdS Ed s i x.2.1)
 opn: ∀d∈h, ∃v:Nat,v<n/\d.1.1=(v:Int)/\Wk Ed s v d.1.2.1/\0<=d.1.2.2.1/\d.1.2.2.1<=(o.countP Zb1:Nat)/\d.1.2.1<=d.1.2.2.1*1073741824
 src:ZlG o s\/ ∃d∈h,d.1.1=(s:Int)/\d.1.2.1<=0
 out: ∀u v w,ZlG o u->Ed u v w->ZlG o v\/ ∃d∈h,d.1.1=(v:Int)/\d.1.2.1<=lenOf o u+w
 size:h.length+(n - o.countP Zb1) *4096<=1+n*4096
theorem Zmh(o:List Lab):o.countP Zb1<=o.length:=List.countP_le_length
theorem Zn4{n:Nat}{Ed:Nat->Nat->Int->Prop}{s:Nat}{o:List Lab}{h h' :List Nd}{x:Nd}{v:Nat}(hI:DI n Ed s o h)(hh:Zct h')(hp:h.Perm (x::h'))(hv:x.1.1=(v:Int))(hs:ZlG o v):DI n Ed s o h' where
 len:=hI.len
 heap:=hh
 lab:=hI.lab
 opn:=fun d hd=>hI.opn d (hp.mem_iff.2 (Vva _ hd))
 src:=by
  rcases hI.src with h1| ⟨d,h1,h2,h3⟩
  ·exact .inl h1
  ·rcases Vfa.1 (hp.mem_iff.1 h1) with rfl|h4
   ·have:s=v:=by have:=h2.symm.trans hv;omega
    subst this;exact .inl hs
   ·exact .inr ⟨d,h4,h2,h3⟩
 out:=fun u w' w hu he=>by
  rcases hI.out u w' w hu he with h1| ⟨d,h1,h2,h3⟩
  ·exact .inl h1
  ·rcases Vfa.1 (hp.mem_iff.1 h1) with rfl|h4
   ·have:w' =v:=by have:=h2.symm.trans hv;omega
    subst this;exact .inl hs
   ·exact .inr ⟨d,h4,h2,h3⟩
 size:=by have:=hp.length_eq;have:=hI.size;simp at*;omega
theorem ZnM{o:List Lab}{v:Nat}{x:Lab}(hx:0<=x.2.2.1){i:Nat}(h:ZlG o i):ZlG (o.set v x) i:=by
 obtain⟨y,h1,h2⟩:=h;by_cases hi:v=i
 ·subst hi;have hl:v<o.length:=(Vu.1 h1).1;exact⟨x,by simp [hl],hx⟩
 ·exact⟨y,by rw[Vp hi];exact h1,h2⟩
theorem ZlJ{n:Nat}{Ed:Nat->Nat->Int->Prop}{m:Adj}(hA:Zpp n m Ed){s:Nat}{o:List Lab}{h h' h2:List Nd}{x:Nd}{v:Nat}{y:Lab}(hI:DI n Ed s o h)(hv:v<n)(hp:h.Perm (x::h'))(hxv:x.1.1=(v:Int))
  (hmin: ∀d∈h,x.1.2.1<=d.1.2.1) (ho:o[v]? =some y) (hy:y.2.2.1<0) (hh2:Zct h2) (hl2:h2.length<=h'.length+(nbs m v).length) (h1: ∀d∈h',d∈h2)
  (h3: ∀d∈h2,d∈h' \/ ∃e∈nbs m v,d.1.1=e.2.1/\d.1.2.1=x.1.2.1+e.2.2.1/\d.1.2.2.1=x.1.2.2.1+1)
  (h4: ∀e∈nbs m v,(∃t:Nat,e.2.1=(t:Int)/\ZlG (o.set v x.1) t)\/ ∃d∈h2,d.1.1=e.2.1/\d.1.2.1=x.1.2.1+e.2.2.1):DI n Ed s (o.set v x.1) h2:=by
 have hw: ∀u v w,Ed u v w->0<=w:=fun u v w e=>by obtain⟨hu,z,hz,h5,rfl⟩:=hA.all u v w e;obtain⟨v',_,_,h6,_⟩:=hA.mem u hu z hz;exact h6
 have hxm:x∈h:=hp.mem_iff.2 (by simp);obtain⟨v',hv',hv2,hwk,he0,hec,hel⟩:=hI.opn x hxm;have:v' =v:=by have:=hv2.symm.trans hxv;omega
 subst this;have hol:v' <o.length:=by rw[hI.len];exact hv
 have hget: (o.set v' x.1)[v']? =some x.1:=by simp [hol]
 have hne: ∀ {i},i≠v' ->(o.set v' x.1)[i]? =o[i]? :=fun {i} hi=>Vp (fun e=>hi e.symm)
 have hov:o[v']=y:=by have:=(Vu.1 ho).2;exact this
 have hcnt: (o.set v' x.1).countP Zb1=o.countP Zb1+1:=by
  rw[Vlb hol,hov];have a:Zb1 y=false:=by simp [Zb1];omega
  have b:Zb1 x.1=true:=by simp [Zb1];exact he0
  rw[a,b];simp
 have hle: (o.set v' x.1).countP Zb1<=n:=by have:=Zmh (o.set v' x.1);rw[Vja,hI.len]at this;exact this
 have hleast:ZdS Ed s v' x.1.2.1:=by
  refine⟨hwk,fun d hd=> ?_⟩
  have:=Zog (S:=ZlG o) (L:=lenOf o) (O:=fun v l=> ∃d∈h,d.1.1=(v:Int)/\d.1.2.1=l) (m:=x.1.2.1) hw (fun u hu d hd=>by
   obtain⟨z,hz,hz0⟩:=hu;have:=((hI.lab u z hz).2 hz0).2 d hd
   simpa [lenOf,hz] using this) (by
   rcases hI.src with h5| ⟨d,h5,h6,h7⟩
   ·exact .inl h5
   ·exact .inr ⟨_,⟨d,h5,h6,rfl⟩,h7⟩) (fun u v w hu he=>by
   rcases hI.out u v w hu he with h5| ⟨d,h5,h6,h7⟩
   ·exact .inl h5
   ·exact .inr ⟨_,⟨d,h5,h6,rfl⟩,h7⟩) (fun v l ⟨d,h5,_,h6⟩=>h6▸hmin d h5) hd
  rcases this with ⟨z,hz,hz0⟩ |h5
  ·rw[ho]at hz;cases hz;omega
  ·exact h5
 have hlen' : ∀u,ZlG o u->lenOf (o.set v' x.1) u=lenOf o u:=fun u hu=>by
  obtain⟨z,hz,hz0⟩:=hu;have hne' :u≠v' :=by rintro rfl;rw[ho]at hz;cases hz;omega
  unfold lenOf;rw[hne hne']
 refine⟨by rw[Vja];exact hI.len,hh2,fun i z hz=> ?_,fun d hd=> ?_, ?_,fun u w' w hu he=> ?_, ?_⟩
 ·by_cases hi:i=v'
  ·subst hi;rw[hget]at hz;cases hz;exact⟨fun h=>by omega,fun _=>hleast⟩
  ·rw[hne hi]at hz;exact hI.lab i z hz
 ·rcases h3 d hd with h5| ⟨e,he,h5,h6,h7⟩
  ·obtain⟨t,a1,a2,a3,a4,a5,a6⟩:=hI.opn d (hp.mem_iff.2 (Vva _ h5));exact⟨t,a1,a2,a3,a4,by rw[hcnt];omega,a6⟩
  ·obtain⟨t,a1,a2,a3,a4,a5⟩:=hA.mem v' hv e he;refine⟨t,a1,h5.trans a2,by rw[h6];exact .snoc hwk a5,by omega,by rw[hcnt,h7];omega, ?_⟩;rw[h6,h7];omega
 ·rcases hI.src with h5| ⟨d,h5,h6,h7⟩
  ·exact .inl (ZnM he0 h5)
  ·rcases Vfa.1 (hp.mem_iff.1 h5) with rfl|h8
   ·have:s=v' :=by have:=h6.symm.trans hxv;omega
    subst this;exact .inl ⟨_,hget,he0⟩
   ·exact .inr ⟨d,h1 d h8,h6,h7⟩
 ·by_cases huv:u=v'
  ·subst huv;obtain⟨_,e,he',h5,rfl⟩:=hA.all u w' w he;rcases h4 e he' with ⟨t,h6,h7⟩ | ⟨d,h6,h7,h8⟩
   ·have:t=w' :=by have:=h6.symm.trans h5;omega
    subst this;exact .inl h7
   ·refine .inr ⟨d,h6,h7.trans h5, ?_⟩;rw[h8];simp [lenOf,hget]
  ·have hu' :ZlG o u:=by obtain⟨z,hz,hz0⟩:=hu;rw[hne huv]at hz;exact⟨z,hz,hz0⟩
   rcases hI.out u w' w hu' he with h5| ⟨d,h5,h6,h7⟩
   ·exact .inl (ZnM he0 h5)
   ·rcases Vfa.1 (hp.mem_iff.1 h5) with rfl|h8
    ·have:w' =v' :=by have:=h6.symm.trans hxv;omega
     subst this;exact .inl ⟨_,hget,he0⟩
    ·exact .inr ⟨d,h1 d h8,h6,by rw[hlen' u hu'];exact h7⟩
 ·have a:=hp.length_eq;have b:=hI.size;have c:=hA.len v' hv;rw[hcnt]at hle ⊢;simp at a;have e:n - o.countP Zb1=(n - (o.countP Zb1+1))+1:=by omega
  rw[e]at b;omega
end Q
namespace Q
open Tr Go Gr
open Option (bind_some)
def Zp5(n:Nat)(Ed:Nat->Nat->Int->Prop)(s:Nat)(o:List Lab):Prop:=
 o.length=n/\ ∀i x,o[i]? =some x->(ZdS Ed s i x.2.1/\0<=x.2.1)\/((∀d, ¬Wk Ed s i d)/\x.2.1= -1)
theorem ZlN{n:Nat}(hn:n<=64){m:Adj}{Ed:Nat->Nat->Int->Prop}(hA:Zpp n m Ed){s:Nat}(hs:s<n):
  ∃z,F104 (n:Int) m (s:Int)=some z/\z.1=m/\Zp5 n Ed s z.2:=by
 have hw: ∀u v w,Ed u v w->0<=w:=fun u v w e=>by obtain⟨hu,z,hz,h5,rfl⟩:=hA.all u v w e;obtain⟨v',_,_,h6,_⟩:=hA.mem u hu z hz;exact h6
 unfold F104
 have eg:Zas (decide ((0:Int)<=(n:Int)/\(n:Int)<=(n:Int)/\(n:Int)<=(Zax:Int)))=some ():=by rw[decide_eq_true (by simp [Zax];omega)];rfl
 rw[show Zas _=some () from eg];simp only[bind_some,Vra,Ve]
 refine ZaO (fun st=> ∃ (o:List Lab) (i:Nat),st=(o,(i:Int))/\o.length=n/\i<=n/\ ∀j,j<i->o[j]? =some ((j:Int), -1, -1,())) (fun st=>n - st.2.toNat)
  (fun o=>o.length=n/\ ∀j,j<n->o[j]? =some ((j:Int), -1, -1,())) ⟨_,0,rfl,by simp,Vl _,fun j hj=>by omega⟩ ?_ ?_
 ·rintro st ⟨o,i,rfl,h1,h2,h3⟩;by_cases hi:i<n
  ·have hio:i<o.length:=by omega
   have e1:Vc .i64 ((i:Int)+1)=((i+1:Nat):Int):=by rw[ZaA (by omega) (by omega)];omega
   simp only[show decide ((i:Int)< (n:Int))=true from decide_eq_true (by omega),cond_true,Zbf hio,bind_some,Va hio,e1];refine⟨_,rfl,⟨_,i+1,rfl,by simpa using h1,hi,fun j hj=> ?_⟩,by simp only[Ve];omega⟩;by_cases hji:j=i
   ·subst hji;simp [hio]
   ·rw[Vp (fun e=>hji e.symm)];exact h3 j (by omega)
  ·have:i=n:=by omega
   subst this;simp only[show decide ((i:Int)< (i:Int))=false by simp,cond_false];exact⟨_,rfl,h1,h3⟩
 ·rintro o0 ⟨ho1,ho2⟩;obtain⟨⟨_,h0,c0,_⟩,hpush,_,hok,hperm⟩:=ZkN (l:=[]) (c:=0) ((s:Int),0,0,()) (fun k k1 k2=>by simp at k2) (by simp);simp only at hok hperm;unfold F39;simp only[bind_some];rw[show F35 _ _=some _ from hpush];simp only[bind_some];have hmem0: ∀d,d∈h0↔d=((((s:Int),0,0,()),0,()):Nd):=fun d=>by rw[hperm.mem_iff];simp
  have hcnt0:o0.countP Zb1=0:=by rw[List.countP_eq_zero];intro a ha;obtain⟨i,hi,rfl⟩:=Vo ha;have:=ho2 i (by omega);rw[Va hi]at this;simp only[Option.some.injEq]at this;rw[this];simp [Zb1]
  have hI0:DI n Ed s o0 h0:= {
   len:=ho1
   heap:=hok
   lab:=fun i x hx=>by
    have hi:i<n:=by have:=(Vu.1 hx).1;omega
    rw[ho2 i hi]at hx;cases hx;exact⟨fun _=>rfl,fun h=>by simp at h⟩
   opn:=fun d hd=>by rw[hmem0]at hd;subst hd;exact⟨s,hs,rfl, .nil,Vv _,by simp,by simp⟩
   src:= .inr ⟨_,(hmem0 _).2 rfl,rfl,Vv _⟩
   out:=fun u v w hu=>by
    obtain⟨x,hx,hx0⟩:=hu;have hi:u<n:=by have:=(Vu.1 hx).1;omega
    rw[ho2 u hi]at hx;cases hx;simp at hx0
   size:=by have:=hperm.length_eq;rw[hcnt0];simp at this;omega}
  refine ZaO (fun st=> ∃ (o:List Lab) (h:List Nd) (c:Int),st=(o,(),h,c,())/\DI n Ed s o h) (fun st=>(n - st.1.countP Zb1) *8192+st.2.2.1.length)
   (fun o=>Zp5 n Ed s o) ⟨o0,h0,c0,rfl,hI0⟩ ?_ (fun o ho=>⟨_,rfl,rfl,ho⟩)
  rintro st ⟨o,h,c,rfl,hI⟩;simp only;have hsz0:h.length<=300000:=by have:=hI.size;omega
  have hsz:h.length<2147483648:=by omega
  by_cases hne:h=[]
  ·subst hne;rw[ZnS];simp only[bind_some,Vg,cond_true];refine⟨_,rfl,hI.len,fun i x hx=> ?_⟩;by_cases hx0:0<=x.2.2.1
   ·have:=(hI.lab i x hx).2 hx0;exact .inl ⟨this,this.1.nonneg hw⟩
   ·refine .inr ⟨fun d hd=> ?_,(hI.lab i x hx).1 (by omega)⟩
    have:=Zlf (S:=ZlG o) (L:=lenOf o) (O:=fun _ _=>False) (by
     rcases hI.src with h5| ⟨d,h5,_⟩
     ·exact .inl h5
     ·simp at h5) (fun u v w hu he=>by
     rcases hI.out u v w hu he with h5| ⟨d,h5,_⟩
     ·exact .inl h5
     ·simp at h5) (fun _ _ h=>h) hd
    obtain⟨z,hz,hz0⟩:=this;rw[hx]at hz;cases hz;exact hx0 hz0
  ·obtain⟨h',x,hpop,hok',hp,hmin⟩:=Zp4 (c:=c) hI.heap hne hsz;rw[hpop];simp only[bind_some,Vd,cond_false];obtain⟨v,hv,hxv,hwk,he0,hec,hel⟩:=hI.opn x (hp.mem_iff.2 (by simp));have hvo:v<o.length:=by rw[hI.len];exact hv
   have hpl:=hp.length_eq;simp only[Vba]at hpl;have hcn:o.countP Zb1<=n:=by have:=Zmh o;rw[hI.len]at this;exact this
   simp only[hxv,Zbf hvo,bind_some,Va hvo];have hov:o[v]? =some o[v]:=Va hvo;by_cases hset:0<=(o[v]).2.2.1
   ·simp only[show decide ((0:Int)<=(o[v]).2.2.1)=true from decide_eq_true (by omega),cond_true];exact⟨_,rfl,⟨o,h',c,rfl,Zn4 hI hok' hp hxv ⟨_,hov,hset⟩⟩,by simp only;omega⟩
   ·simp only[show decide ((0:Int)<=(o[v]).2.2.1)=false from decide_eq_false (by omega),cond_false];have hadj:Vf (Zaw (Zai Y3) (v:Int) m) []=nbs m v:=rfl;have hcv:=hA.len v hv;have hx1:0<=x.1.2.1:=hwk.nonneg hw;have hxb:x.1.2.1<=68719476736:=by omega
    refine ZaO (fun st=> ∃ (g:List Nd) (c' :Int) (j:Nat),st=(((),g,c',()),(j:Int))/\j<=(nbs m v).length/\Zct g/\g.length<=h'.length+j/\(∀d∈h',d∈g)/\
      (∀d∈g,d∈h' \/ ∃e∈nbs m v,d.1.1=e.2.1/\d.1.2.1=x.1.2.1+e.2.2.1/\d.1.2.2.1=x.1.2.2.1+1)/\
      ∀k e,k<j->(nbs m v)[k]? =some e->(∃t:Nat,e.2.1=(t:Int)/\ZlG (o.set v x.1) t)\/ ∃d∈g,d.1.1=e.2.1/\d.1.2.1=x.1.2.1+e.2.2.1) (fun st=>(nbs m v).length - st.2.toNat)
     (fun r=> ∃ (g:List Nd) (c' :Int),r=((),g,c',())/\Zct g/\g.length<=h'.length+(nbs m v).length/\(∀d∈h',d∈g)/\
      (∀d∈g,d∈h' \/ ∃e∈nbs m v,d.1.1=e.2.1/\d.1.2.1=x.1.2.1+e.2.2.1/\d.1.2.2.1=x.1.2.2.1+1)/\
      ∀e∈nbs m v,(∃t:Nat,e.2.1=(t:Int)/\ZlG (o.set v x.1) t)\/ ∃d∈g,d.1.1=e.2.1/\d.1.2.1=x.1.2.1+e.2.2.1)
     ⟨h',c,0,rfl,Vl _,hok',Vga _,fun _ h=>h,fun _ h=> .inl h,fun k e hk=>by omega⟩ ?_ ?_
    ·rintro st ⟨g,c',j,rfl,hj,hg,hgl,g1,g2,g3⟩;simp only[hadj];by_cases hjl:j< (nbs m v).length
     ·obtain⟨t,ht,he1,he2,he3,he4⟩:=hA.mem v hv _ (Vi hjl);have hto:t< (Vaa o v x.1).length:=by rw[Vja,hI.len];exact ht
      have e1:Vc .i64 ((j:Int)+1)=((j+1:Nat):Int):=by rw[ZaA (by omega) (by omega)];omega
      simp only[show decide ((j:Int)< ((nbs m v).length:Int))=true from decide_eq_true (by omega),cond_true,Zbf hjl,bind_some,Va hjl,he1,Zbf hto,Va hto,e1];by_cases hts: (Vaa o v x.1)[t].2.2.1<0
      ·have e2:Vc .i64 (x.1.2.1+((nbs m v)[j]).2.2.1)=x.1.2.1+((nbs m v)[j]).2.2.1:=ZaA (by omega) (by omega);have e3:Vc .i64 (x.1.2.2.1+1)=x.1.2.2.1+1:=ZaA (by omega) (by omega);simp only[show decide ((Vaa o v x.1)[t].2.2.1<0)=true from decide_eq_true (by omega),cond_true,e2,e3];obtain⟨⟨_,g',c2,_⟩,hpush',_,hok2,hperm2⟩:=ZkN (c:=c') ((t:Int),x.1.2.1+((nbs m v)[j]).2.2.1,x.1.2.2.1+1,()) hg (by omega);simp only at hok2 hperm2;rw[show F35 _ _=some _ from hpush'];simp only[bind_some];have hm2: ∀d,d∈g' ↔d∈g\/d=(((t:Int),x.1.2.1+((nbs m v)[j]).2.2.1,x.1.2.2.1+1,()),c',()):=fun d=>by rw[hperm2.mem_iff];simp
       refine⟨_,rfl,⟨g',c2,j+1,rfl,hjl,hok2, ?_,fun d hd=>(hm2 d).2 (.inl (g1 d hd)),fun d hd=> ?_,fun k e hk hke=> ?_⟩,by simp only[Ve];omega⟩
       ·have:=hperm2.length_eq;simp at this;omega
       ·rcases (hm2 d).1 hd with h5|rfl
        ·exact g2 d h5
        ·exact .inr ⟨_,Vi hjl,he1.symm,rfl,rfl⟩
       ·by_cases hkj:k=j
        ·subst hkj;rw[Va hjl]at hke;cases hke;exact .inr ⟨_,(hm2 _).2 (.inr rfl),he1.symm,rfl⟩
        ·rcases g3 k e (by omega) hke with h5| ⟨d,h5,h6⟩
         ·exact .inl h5
         ·exact .inr ⟨d,(hm2 d).2 (.inl h5),h6⟩
      ·simp only[show decide ((Vaa o v x.1)[t].2.2.1<0)=false from decide_eq_false (by omega),cond_false];refine⟨_,rfl,⟨g,c',j+1,rfl,hjl,hg,by omega,g1,g2,fun k e hk hke=> ?_⟩,by simp only[Ve];omega⟩;by_cases hkj:k=j
       ·subst hkj;rw[Va hjl]at hke;cases hke;exact .inl ⟨t,he1,_,Va hto,by omega⟩
       ·exact g3 k e (by omega) hke
     ·have:j=(nbs m v).length:=by omega
      subst this;simp only[show decide (((nbs m v).length:Int)< ((nbs m v).length:Int))=false by simp,cond_false];refine⟨_,rfl,g,c',rfl,hg,hgl,g1,g2,fun e he=> ?_⟩;obtain⟨k,hk,rfl⟩:=Vo he;exact g3 k _ hk (Va hk)
    ·rintro r ⟨g,c',rfl,hg,hgl,g1,g2,g3⟩;have hD:=ZlJ hA hI hv hp hxv hmin hov (by omega) hg hgl g1 g2 g3;refine⟨_,rfl,⟨_,g,c',rfl,hD⟩, ?_⟩
     have hcnt: (o.set v x.1).countP Zb1=o.countP Zb1+1:=by
      rw[Vlb hvo];have a:Zb1 o[v]=false:=by simp [Zb1];omega
      have b:Zb1 x.1=true:=by simp [Zb1];exact he0
      rw[a,b];simp
     have hcn' : (o.set v x.1).countP Zb1<=n:=by have:=Zmh (o.set v x.1);rw[hD.len]at this;exact this
     simp only;rw[hcnt]at hcn' ⊢;have e:n - o.countP Zb1=(n - (o.countP Zb1+1))+1:=by omega
     rw[e];omega
end Q
namespace Q
open Tr Go Gr
open Option (bind_some)
open Classical in
theorem Zcv{t:Ty}{β:Type}(hk:t.key=true)(k k' :El t)(v:β): ∀ (l:List (El t×β)),Zaw (Zai t) k (ZaS (Zai t) k' v l)=if k=k' then some v else Zaw (Zai t) k l
 | []=>by
  simp only[ZaS,Zaw];by_cases h:k=k'
  ·rw[(ZaP hk).2 h,if_pos h];rfl
  ·rw[if_neg h]
   cases hb:Zai t k k' with
   |true=>exact absurd ((ZaP hk).1 hb) h
   |false=>rfl
 |e::l=>by
  simp only[ZaS]
  cases hb:Zai t k' e.1 with
  |true=>
   have he:=(ZaP hk).1 hb;simp only[cond_true,Zaw];by_cases h:k=k'
   ·rw[(ZaP hk).2 h,if_pos h];rfl
   ·rw[if_neg h, <-he]
    cases hc:Zai t k k' with
    |true=>exact absurd ((ZaP hk).1 hc) h
    |false=>rfl
  |false=>
   simp only[cond_false,Zaw,Zcv hk k k' v l]
   cases hc:Zai t k e.1 with
   |false=>rfl
   |true=>
    have he:=(ZaP hk).1 hc
    have:k≠k' :=by rintro rfl;rw[hc]at hb;cases hb
    simp only[cond_true];rw[if_neg this]
def EdL(E:List Zjy)(u v:Nat)(w:Int):Prop:= ∃e∈E,e.1=(u:Int)/\e.2.1=(v:Int)/\e.2.2.1=w
theorem ZhR(E:List Zjy)(hE:E.length<=4096): ∃z,F107 E false=some z/\ ∀u:Nat,nbs z u=E.filter fun e=>decide (e.1=(u:Int)):=by
 unfold F107
 refine ZaO (fun st=> ∃ (m:Adj) (i:Nat),st=(m,(i:Int))/\i<=E.length/\ ∀k:Int,Vf (Zaw (Zai (.int .i64)) k m) []=(E.take i).filter fun e=>decide (e.1=k)) (fun st=>E.length - st.2.toNat)
  (fun m=> ∀u:Nat,nbs m u=E.filter fun e=>decide (e.1=(u:Int))) ⟨[],0,rfl,Vl _,fun k=>by simp [Zaw]⟩ ?_ (fun m hm=>⟨_,rfl,hm⟩)
 rintro st ⟨m,i,rfl,hi,hm⟩;by_cases hil:i<E.length
 ·have e1:Vc .i64 ((i:Int)+1)=((i+1:Nat):Int):=by rw[ZaA (by omega) (by omega)];omega
  have hmk:=hm (E[i]).1
  have hlen: (Vf (Zaw (Zai (.int .i64)) (E[i]).1 m) []).length<=4096:=by rw[hmk];refine Nat.le_trans (Vsa _ _) ?_;rw[List.length_take];omega
  have eg:Zas (decide ((Vf (Zaw (Zai (.int .i64)) (E[i]).1 m) []).length+ [E[i]].length<=Zax))=some ():=by rw[decide_eq_true (by simp [Zax];omega)];rfl
  have eh:Zas (Tr.holeK (.int .i64) (some (E[i]).1) (E[i]).1)=some ():=by have:Tr.holeK (.int .i64) (some (E[i]).1) (E[i]).1=true:=(ZaP rfl).2 rfl;rw[this];rfl
  simp only[show decide ((i:Int)< (E.length:Int))=true from decide_eq_true (by omega),cond_true,cond_false,Zam hil,bind_some,e1];rw[show Zas _=some () from eg];simp only[bind_some];rw[show Zas _=some () from eh];simp only[bind_some];refine⟨_,rfl,⟨_,i+1,rfl,hil,fun k=> ?_⟩,by simp only[Ve];omega⟩
  rw[show Vf (Zaw (Zai (.int .i64)) k (ZaS (Zai (.int .i64)) (E[i]).1 (Vf (Zaw (Zai (.int .i64)) (E[i]).1 m) []++[E[i]]) m)) []=if k=(E[i]).1 then Vf (Zaw (Zai (.int .i64)) (E[i]).1 m) []++[E[i]] else Vf (Zaw (Zai (.int .i64)) k m) [] by
   rw[Zcv rfl];by_cases h:k=(E[i]).1
   ·rw[if_pos h,if_pos h];rfl
   ·rw[if_neg h,if_neg h]]
  rw[Vr hil,List.filter_append];by_cases hk:k=(E[i]).1
  ·subst hk;rw[if_pos rfl,hmk];simp
  ·rw[if_neg hk,hm k];simp [show¬ (E[i]).1=k from fun e=>hk e.symm]
 ·have:i=E.length:=by omega
  subst this;simp only[show decide ((E.length:Int)< (E.length:Int))=false by simp,cond_false];exact⟨_,rfl,fun u=>by have:=hm (u:Int);rw[Vha]at this;exact this⟩
def EOk(n:Nat)(E:List Zjy):Prop:= ∀e∈E,0<=e.1/\e.1<n/\0<=e.2.1/\e.2.1<n/\0<=e.2.2.1/\e.2.2.1<=1073741824
theorem ZqR{n:Nat}{E:List Zjy}(hE:EOk n E)(hl:E.length<=4096){m:Adj}(hm: ∀u:Nat,nbs m u=E.filter fun e=>decide (e.1=(u:Int))):Zpp n m (EdL E) where
 mem:=fun u hu y hy=>by rw[hm]at hy;obtain⟨h1,h2⟩:=Vmb.1 hy;have h2:=of_decide_eq_true h2;obtain⟨a,b,c,d,e,f⟩:=hE y h1;exact⟨y.2.1.toNat,by omega,by omega,e,f,y,h1,h2,by omega,rfl⟩
 all:=fun u v w ⟨e,he,h1,h2,h3⟩=>by obtain⟨a,b,_⟩:=hE e he;refine⟨by omega,e, ?_,h2,h3⟩;rw[hm];exact Vmb.2 ⟨he,by simpa using h1⟩
 len:=fun u hu=>by rw[hm];exact Nat.le_trans (Vsa _ _) hl
open Classical in
noncomputable def Za2(Ed:Nat->Nat->Int->Prop)(i j:Nat):Int:=if h: ∃d,ZdS Ed i j d then h.choose else -1
theorem ZdS.uniq{Ed:Nat->Nat->Int->Prop}{i j:Nat}{d d' :Int}(h:ZdS Ed i j d)(k:ZdS Ed i j d'):d=d' :=by have:=h.2 d' k.1;have:=k.2 d h.1;omega
theorem Zdr{Ed:Nat->Nat->Int->Prop}{i j:Nat}{d:Int}(h:ZdS Ed i j d):Za2 Ed i j=d:=by unfold Za2;have hex: ∃d,ZdS Ed i j d:=⟨d,h⟩;rw[dif_pos hex];exact ZdS.uniq hex.choose_spec h
theorem ZlC{Ed:Nat->Nat->Int->Prop}{i j:Nat}(h: ∀d, ¬Wk Ed i j d):Za2 Ed i j= -1:=by unfold Za2;rw[dif_neg];rintro ⟨d,hd⟩;exact h d hd.1
noncomputable def mat(Ed:Nat->Nat->Int->Prop)(n:Nat):List (List Int):=(Vy n).map fun i=>(Vy n).map fun j=>Za2 Ed i j
theorem Zmn{Ed:Nat->Nat->Int->Prop}{n i:Nat}(h:i<n): (mat Ed n)[i]? =some ((Vy n).map fun j=>Za2 Ed i j):=by unfold mat;simp [h]
theorem Zjt{n:Nat}(hn:n<=64){Ed:Nat->Nat->Int->Prop}{s:Nat}{o:List Lab}(h:Zp5 n Ed s o): ∃z,F105 o=some z/\z=(Vy n).map fun j=>Za2 Ed s j:=by
 obtain⟨h1,h2⟩:=h;unfold F105
 have eg:Zas (decide ((0:Int)<=(o.length:Int)/\(o.length:Int)<=(o.length:Int)/\(o.length:Int)<=(Zax:Int)))=some ():=by rw[decide_eq_true (by simp [Zax];omega)];rfl
 rw[show Zas _=some () from eg];simp only[bind_some,Ve]
 refine ZaO (fun st=> ∃ (r:List Int) (i:Nat),st=(r,(i:Int))/\r.length=n/\i<=n/\ ∀j,j<i->r[j]? =some (Za2 Ed s j)) (fun st=>n - st.2.toNat)
  (fun r=>r.length=n/\ ∀j,j<n->r[j]? =some (Za2 Ed s j)) ⟨_,0,rfl,by simp [h1],Vl _,fun j hj=>by omega⟩ ?_ ?_
 ·rintro st ⟨r,i,rfl,hr,hi,hj⟩;by_cases hil:i<n
  ·have hio:i<o.length:=by omega
   have hir:i<r.length:=by omega
   have e1:Vc .i64 ((i:Int)+1)=((i+1:Nat):Int):=by rw[ZaA (by omega) (by omega)];omega
   simp only[show decide ((i:Int)< (o.length:Int))=true from decide_eq_true (by omega),cond_true,Zam hio,Zbf hir,bind_some,Va hir,e1];refine⟨_,rfl,⟨_,i+1,rfl,by simpa using hr,hil,fun j hji=> ?_⟩,by simp only[Ve];omega⟩;by_cases hje:j=i
   ·subst hje
    have: (o[j]).2.1=Za2 Ed s j:=by
     rcases h2 j _ (Va hio) with ⟨h3,_⟩ | ⟨h3,h4⟩
     ·exact(Zdr h3).symm
     ·rw[h4,ZlC h3]
    simp [hir,this]
   ·rw[Vp (fun e=>hje e.symm)];exact hj j (by omega)
  ·have hin:i=n:=by omega
   subst hin;simp only[h1,show decide ((i:Int)< (i:Int))=false by simp,cond_false];exact⟨_,rfl,hr,hj⟩
 ·rintro r ⟨hr,hj⟩;refine⟨_,rfl, ?_⟩;apply Vgb;intro j;by_cases hjn:j<n
  ·rw[hj j hjn];simp [hjn]
  ·rw[Vz (by omega),Vz (by simp;omega)]
theorem Znl{n:Nat}(hn:n<=64){E:List Zjy}(hE:EOk n E)(hl:E.length<=4096):F102 (n:Int) E []=some 0:=by
 have key: ∃z,F102 (n:Int) E []=some z/\z=0:=by
  unfold F102;simp only[show decide ((n:Int)<0)=false from decide_eq_false (by omega),cond_false,bind_some,show decide ((64:Int)< (n:Int))=false from decide_eq_false (by omega),show decide ((4096:Int)< (E.length:Int))=false from decide_eq_false (by omega)];refine ZaO (fun st=> ∃i:Nat,st=(i:Int)/\i<=E.length) (fun st=>E.length - st.toNat) (fun r=>r= .inl ()) ⟨0,rfl,Vl _⟩ ?_ ?_
  ·rintro st ⟨i,rfl,hi⟩;by_cases hil:i<E.length
   ·have e1:Vc .i64 ((i:Int)+1)=((i+1:Nat):Int):=by rw[ZaA (by omega) (by omega)];omega
    obtain⟨a,b,c,d,e,f⟩:=hE _ (Vi hil)
    have m1: ∀x:Int,0<=x->x< (n:Int)->F103 x (n:Int)=some false:=fun x h1 h2=>by unfold F103;simp only[show decide (x<0)=false from decide_eq_false (by omega),cond_false,bind_some,show decide ((n:Int)<=x)=false from decide_eq_false (by omega)]
    simp only[show decide ((i:Int)< (E.length:Int))=true from decide_eq_true (by omega),cond_true,Zam hil,bind_some,m1 _ a b,m1 _ c d,cond_false,show decide ((E[i]).2.2.1<0)=false from decide_eq_false (by omega),
     show decide ((1073741824:Int)< (E[i]).2.2.1)=false from decide_eq_false (by omega),e1]
    exact⟨_,rfl,⟨i+1,rfl,hil⟩,by simp only[Ve];omega⟩
   ·have:i=E.length:=by omega
    subst this;simp only[show decide ((E.length:Int)< (E.length:Int))=false by simp,cond_false];exact⟨_,rfl,rfl⟩
  ·rintro r rfl;simp only[Vj];refine ZaO (fun st=>st=(0:Int)) (fun _=>0) (fun r=>r= .inl ()) rfl ?_ ?_
   ·rintro st rfl;exact⟨.inr (.inl ()),rfl,rfl⟩
   ·rintro r rfl;exact⟨0,rfl,rfl⟩
 obtain⟨z,h,rfl⟩:=key;exact h
theorem ZpK{n:Nat}(hn:n<=64){E:List Zjy}(hE:EOk n E)(hl:E.length<=4096): ∃z,F101 (n:Int) E=some z/\z=(mat (EdL E) n,0):=by
 unfold F101;obtain⟨m,hm1,hm2⟩:=ZhR E hl;have hA:=ZqR hE hl hm2;rw[Znl hn hE hl];simp only[bind_some,decide_true,Vd,cond_false,hm1]
 have eg:Zas (decide ((0:Int)<=(n:Int)/\(n:Int)<=(n:Int)/\(n:Int)<=(Zax:Int)))=some ():=by rw[decide_eq_true (by simp [Zax];omega)];rfl
 rw[show Zas _=some () from eg];simp only[bind_some,Vra,Ve]
 refine ZaO (fun st=> ∃ (r:List (List Int)) (i:Nat),st=(m,r,(i:Int))/\r.length=n/\i<=n/\ ∀j,j<i->r[j]? =(mat (EdL E) n)[j]?) (fun st=>n - st.2.2.toNat)
  (fun r=>r.length=n/\ ∀j,j<n->r[j]? =(mat (EdL E) n)[j]?) ⟨_,0,rfl,by simp,Vl _,fun j hj=>by omega⟩ ?_ ?_
 ·rintro st ⟨r,i,rfl,hr,hi,hj⟩;by_cases hil:i<n
  ·have hir:i<r.length:=by omega
   have e1:Vc .i64 ((i:Int)+1)=((i+1:Nat):Int):=by rw[ZaA (by omega) (by omega)];omega
   obtain⟨⟨m',o⟩,h1,rfl,h2⟩:=ZlN hn hA hil;obtain⟨_,h3,rfl⟩:=Zjt hn h2;simp only[show decide ((i:Int)< (n:Int))=true from decide_eq_true (by omega),cond_true,h1,bind_some,h3,Zbf hir,Va hir,e1];refine⟨_,rfl,⟨_,i+1,rfl,by simpa using hr,hil,fun j hji=> ?_⟩,by simp only[Ve];omega⟩;by_cases hje:j=i
   ·subst hje;rw[Zmn hil];simp [hir]
   ·rw[Vp (fun e=>hje e.symm)];exact hj j (by omega)
  ·have hin:i=n:=by omega
   subst hin;simp only[show decide ((i:Int)< (i:Int))=false by simp,cond_false];exact⟨_,rfl,hr,hj⟩
 ·rintro r ⟨hr,hj⟩;refine⟨_,rfl, ?_⟩;congr 1;apply Vgb;intro j;by_cases hjn:j<n
  ·exact hj j hjn
  ·rw[Vz (by omega),Vz (by simp [mat];omega)]
end Q
namespace Q
open Tr Go Gr
open Option (bind_some)
theorem Zlb.uniq{σ τ ρ:Type}{cnt:σ->Nat}{step:σ->Nat->Option (σ ⊕ τ)}{k:τ->Option ρ}(hpos: ∀s,0<cnt s){z z' :ρ} : ∀ {n n' :Nat}{s:σ},Zlb cnt step k z n s->Zlb cnt step k z' n' s->z=z'
 |0,_,_,h,_=>h.elim
 |_+1,0,_,_,h=>h.elim
 |n+1,n' +1,s,h,h' =>by
  rcases h 0 (hpos s) with ⟨s',h1,h2⟩ | ⟨t,h1,h2⟩
  ·rcases h' 0 (hpos s) with ⟨s2,h3,h4⟩ | ⟨t,h3,_⟩
   ·rw[h1]at h3;simp only[Option.some.injEq,Sum.inl.injEq]at h3;subst h3;exact Zlb.uniq hpos h2 h4
   ·rw[h1]at h3;simp at h3
  ·rcases h' 0 (hpos s) with ⟨s2,h3,_⟩ | ⟨t',h3,h4⟩
   ·rw[h1]at h3;simp at h3
   ·rw[h1]at h3;simp only[Option.some.injEq,Sum.inr.injEq]at h3;subst h3;rw[h2]at h4;exact Option.some.inj h4
theorem Zmj{σ τ ρ:Type}{cnt:σ->Nat}{step:σ->Nat->Option (σ ⊕ τ)}{k:τ->Option ρ}{s:σ}{z:ρ}{P:ρ->Prop}(n:Nat)(hpos: ∀s,0<cnt s)(h:Zlb cnt step k z n s)(hP:P z): ∃z,Tr.drun cnt step k s=some z/\P z:=by
 refine⟨z, ?_,hP⟩
 have hex: ∃r,Tr.drun cnt step k s=some r:=by
  unfold Tr.drun;split
  ·exact⟨_,rfl⟩
  ·rw[dif_pos ⟨z,n,h⟩];exact⟨_,rfl⟩
 obtain⟨r,hr⟩:=hex;obtain⟨m,hm⟩:=ZiZ hr;rw[hr,Zlb.uniq hpos hm h]
theorem Zjd{Ed Ed' :Nat->Nat->Int->Prop}(h1: ∀u v w,Ed u v w-> ∃w',Ed' u v w' /\w' <=w)(h2: ∀u v w,Ed' u v w-> ∃w',Ed u v w' /\w' <=w){s v:Nat}{d:Int} :ZdS Ed s v d->ZdS Ed' s v d:=by
 rintro ⟨a,b⟩;obtain⟨d',c1,c2⟩:=Wk.dom h1 a;obtain⟨d2,c3,c4⟩:=Wk.dom h2 c1;have:=b d2 c3;have:d' =d:=by omega
 subst this;refine⟨c1,fun e he=> ?_⟩;obtain⟨e',c5,c6⟩:=Wk.dom h2 he;have:=b e' c5;omega
theorem Znb{Ed Ed' :Nat->Nat->Int->Prop}(h1: ∀u v w,Ed u v w-> ∃w',Ed' u v w' /\w' <=w)(h2: ∀u v w,Ed' u v w-> ∃w',Ed u v w' /\w' <=w)(n:Nat):mat Ed n=mat Ed' n:=by
 have: ∀i j,Za2 Ed i j=Za2 Ed' i j:=by
  intro i j;by_cases h: ∃d,ZdS Ed i j d
  ·obtain⟨d,hd⟩:=h;rw[Zdr hd,Zdr (Zjd h1 h2 hd)]
  ·have h' : ¬ ∃d,ZdS Ed' i j d:=fun⟨d,hd⟩=>h ⟨d,Zjd h2 h1 hd⟩;unfold Za2;rw[dif_neg h,dif_neg h']
 unfold mat;simp only[this]
abbrev ZdD:=Int×Int×Int×Bool×Unit
abbrev Pr:=Int×Int×Bool×Unit
abbrev ZjE:Ty:= .prod (.int .i64) (.prod (.int .i64) (.prod .bool .unit))
def FOk(n:Nat)(l:List ZdD):Prop:= ∀p∈l,0<=p.1/\p.1<n/\0<=p.2.1/\p.2.1<n/\1<=p.2.2.1/\p.2.2.1<=14400
def may(free:Bool)(p:ZdD):Prop:=free=true->p.2.2.2.1=true
def EdP(l:List ZdD)(free:Bool)(u v:Nat)(w:Int):Prop:= ∃p∈l,may free p/\p.1=(u:Int)/\p.2.1=(v:Int)/\p.2.2.1=w
def ZiE(e:Pr×Int):Zjy:=(e.1.1,e.1.2.1,e.2,())
theorem Ziw{α β:Type}(eq:α->α->Bool)(k:α)(v:β): ∀l:List (α×β),(ZaS eq k v l).length<=l.length+1
 | []=>by simp [ZaS]
 |e::l=>by
  simp only[ZaS]
  cases eq k e.1 with
  |true=>simp
  |false=>simp only[cond_false,Vba];have:=Ziw eq k v l;omega
structure ZnX (free:Bool) (l:List ZdD) (b:List (Pr×Int)):Prop where
 nodup: (b.map Prod.fst).Nodup
 len:b.length<=l.length
 snd: ∀e∈b, ∃p∈l,may free p/\e.1=(p.1,p.2.1,false,())/\e.2=p.2.2.1
 all: ∀p∈l,may free p-> ∃w,Zaw (Zai ZjE) (p.1,p.2.1,false,()) b=some w/\w<=p.2.2.1
theorem ZnX.more{free:Bool}{l:List ZdD}{b b' :List (Pr×Int)}{p:ZdD}(h:ZnX free l b)(h1: (b'.map Prod.fst).Nodup)(h2:b'.length<=b.length+1)(h3: ∀e∈b',e∈b\/(may free p/\e.1=(p.1,p.2.1,false,())/\e.2=p.2.2.1))
  (h4: ∀k w,Zaw (Zai ZjE) k b=some w-> ∃w',Zaw (Zai ZjE) k b' =some w' /\w' <=w) (h5:may free p-> ∃w,Zaw (Zai ZjE) (p.1,p.2.1,false,()) b' =some w/\w<=p.2.2.1):ZnX free (l++[p]) b' where
 nodup:=h1
 len:=by have:=h.len;simp;omega
 snd:=fun e he=>by
  rcases h3 e he with h6|h6
  ·obtain⟨q,hq,h7⟩:=h.snd e h6;exact⟨q,by simp [hq],h7⟩
  ·exact⟨p,by simp,h6⟩
 all:=fun q hq hm=>by
  rcases Vca.1 hq with h6|h6
  ·obtain⟨w,h7,h8⟩:=h.all q h6 hm;obtain⟨w',h9,h10⟩:=h4 _ w h7;exact⟨w',h9,by omega⟩
  ·simp at h6;subst h6;exact h5 hm
theorem Zhu{α:Type} : ∀ {l:List α}{i:Nat} (h:i<l.length),(l[i]::l.eraseIdx i).Perm l
 | [],i,h=>by simp at h
 |x::l,0,_=> .refl _
 |x::l,i+1,h=>by
  have h' :i<l.length:=by simpa using h
  simp only[List.getElem_cons_succ,List.eraseIdx_cons_succ];exact(List.Perm.swap _ _ _).trans (List.Perm.cons _ (Zhu h'))
theorem Ze0          {n : Nat}(hn : n <= 64){l : List ZdD }(hF : FOk n l)(hl : l.length <= 4096)(free : Bool) : ∃ z, F30 l (n : Int) free = some z /\ z = mat (EdP l free) n := by
  unfold F30
  refine ZaO       (fun st => ∃ (b : List (Pr × Int)) (i : Nat), st = (b, (i : Int)) /\ i <= l.length /\ ZnX  free (l.take i) b) (fun st => l.length - st.2.toNat)
    (fun b => ZnX  free l b) ⟨[], 0, rfl, Vl _, ⟨by simp, by simp, by simp, by simp⟩⟩ ?_ ?_
  · rintro st ⟨b, i, rfl, hi, hB⟩
    by_cases hil : i < l.length
    · have e1 : Vc .i64 ((i : Int) + 1) = ((i + 1 : Nat) : Int) := by rw [ZaA      (by omega) (by omega)]; omega
      simp only [show decide ((i : Int) < (l.length : Int)) = true from decide_eq_true (by omega), cond_true, Zam     hil, bind_some, e1];have htake : l.take (i + 1) = l.take i ++ [l[i]] := Vr hil
      have stay : (may free l[i] -> ∃ w, Zaw   (Zai   ZjE ) ((l[i]).1, (l[i]).2.1, false, ()) b = some w /\ w <= (l[i]).2.2.1) -> ZnX  free (l.take (i + 1)) b := fun h5 => by rw [htake];exact hB.more hB.nodup (by omega) (fun e he => .inl he) (fun k w h => ⟨w, h, Vv _⟩) h5
      have put : may free l[i] -> (∀ w, Zaw   (Zai   ZjE ) ((l[i]).1, (l[i]).2.1, false, ()) b = some w -> (l[i]).2.2.1 <= w) -> ZnX  free (l.take (i + 1)) (ZaS   (Zai   ZjE ) ((l[i]).1, (l[i]).2.1, false, ()) (l[i]).2.2.1 b) := fun hm hw => by
        rw [htake];refine hB.more (Zer         (t := ZjE ) (β := Int) rfl hB.nodup) (Ziw       _ _ _ _) (fun e he => ?_) (fun k w h => ?_) fun _ => ⟨(l[i]).2.2.1, by rw [Zcv       rfl, if_pos rfl], Vv _⟩
        · obtain ⟨k', x⟩ := e
          rcases ZeV       (t := ZjE ) rfl hB.nodup he with ⟨rfl, rfl⟩ | ⟨_, h6⟩
          · exact .inr ⟨hm, rfl, rfl⟩
          · exact .inl h6
        · rw [Zcv       rfl]
          by_cases hk : k = ((l[i]).1, (l[i]).2.1, false, ())
          · rw [if_pos hk]
            exact ⟨_, rfl, hw w (hk ▸ h)⟩
          · rw [if_neg hk]
            exact ⟨w, h, Vv _⟩
      have hkey : Zai   Zi9  = Zai   ZjE  := rfl
      have rest : may free l[i] -> ∃ z, (Vb
              (bif !Voa (Zaw   (Zai   ZjE ) ((l[i]).1, (l[i]).2.1, false, ()) b) then some true
              else some (decide ((l[i]).2.2.1 < Vf (Zaw   (Zai   ZjE ) ((l[i]).1, (l[i]).2.1, false, ()) b) (0 : Int))))
              fun x3 =>
              bif x3 then some (Sum.inl (ZaS   (Zai   ZjE ) ((l[i]).1, (l[i]).2.1, false, ()) (l[i]).2.2.1 b, ((i + 1 : Nat) : Int)))
              else some (Sum.inl (b, ((i + 1 : Nat) : Int)))) = some (z : (List (Pr × Int) × Int) ⊕ List (Pr × Int)) /\
            Vnb (fun s' => (∃ (b : List (Pr × Int)) (i : Nat), s' = (b, (i : Int)) /\ i <= l.length /\ ZnX  free (l.take i) b) /\ l.length - s'.2.toNat < l.length - ((i : Nat) : Int).toNat) (fun b => ZnX  free l b) z := by
        intro hm
        cases hg : Zaw   (Zai   ZjE ) ((l[i]).1, (l[i]).2.1, false, ()) b with
        | none =>
          simp only [Option.isSome_none, Vg, cond_true, bind_some]
          exact ⟨_, rfl, ⟨_, i + 1, rfl, hil, put hm fun w h => by rw [hg]at h; cases h⟩, by simp only [Ve]; omega⟩
        | some w =>
          simp only [Option.isSome_some, Vd, cond_false, Vm, bind_some];by_cases hlt : (l[i]).2.2.1 < w
          · simp only [show decide ((l[i]).2.2.1 < w) = true from decide_eq_true (by omega), cond_true]
            exact ⟨_, rfl, ⟨_, i + 1, rfl, hil, put hm fun w' h => by rw [hg]at h; cases h; omega⟩, by simp only [Ve]; omega⟩
          · simp only [show decide ((l[i]).2.2.1 < w) = false from decide_eq_false (by omega), cond_false]
            exact ⟨_, rfl, ⟨_, i + 1, rfl, hil, stay fun _ => ⟨w, hg, by omega⟩⟩, by simp only [Ve]; omega⟩
      cases hfree : free with
      | false =>
        simp only [cond_false, bind_some];have := rest (fun h => by rw [hfree]at h; cases h);rw [hfree]at this
        exact this
      | true =>
        simp only [cond_true, bind_some]
        cases hsf : (l[i]).2.2.2.1 with
        | true =>
          simp only [Vd, cond_false];have := rest (fun _ => hsf);rw [hfree]at this
          exact this
        | false =>
          simp only [Vg, cond_true];refine ⟨_, rfl, ⟨b, i + 1, rfl, hil, ?_⟩, by simp only [Ve]; omega⟩;rw [<- hfree];exact stay fun hm => by have := hm hfree; rw [hsf]at this; cases this
    · have hin : i = l.length := by omega
      subst hin;simp only [show decide ((l.length : Int) < (l.length : Int)) = false by simp, cond_false];rw [Vha]at hB;exact ⟨_, rfl, hB⟩
  · intro b hB
    have eg : Zas    (decide ((0 : Int) <= (0 : Int) /\ (0 : Int) <= (b.length : Int) /\ (b.length : Int) <= (Zax    : Int))) = some () := by have := hB.len;rw [decide_eq_true (by simp [Zax   ]; omega)]; rfl
    rw [show Zas    _ = some () from eg];simp only [bind_some]
    have hend : ∀ es : List Zjy , es.Perm (b.map ZiE   ) -> F101 (n : Int) es = some (mat (EdP l free) n, 0) := by
      intro es hp;have hlen : es.length <= 4096 := by have := hp.length_eq; have := hB.len; simp at *; omega
      have hok : EOk n es := fun e he => by
        obtain ⟨x, hx, rfl⟩ := Vbb.1 (hp.mem_iff.1 he);obtain ⟨p, hpl, _, h1, h2⟩ := hB.snd x hx;obtain ⟨a, b', c, d, e, f⟩ := hF p hpl;have h1' : x.1.1 = p.1 /\ x.1.2.1 = p.2.1 := by rw [h1]; exact ⟨rfl, rfl⟩
        show 0 <= x.1.1 /\ x.1.1 < n /\ 0 <= x.1.2.1 /\ x.1.2.1 < n /\ 0 <= x.2 /\ x.2 <= 1073741824;rw [h1'.1, h1'.2, h2];omega
      obtain ⟨z, hz, rfl⟩ := ZpK     hn hok hlen;rw [hz];congr 2;refine Znb       (fun u v w ⟨e, he, h1, h2, h3⟩ => ?_) (fun u v w ⟨p, hpl, hm, h1, h2, h3⟩ => ?_) n
      · obtain ⟨x, hx, rfl⟩ := Vbb.1 (hp.mem_iff.1 he)
        obtain ⟨p, hpl, hm, h4, h5⟩ := hB.snd x hx;have h4' : x.1.1 = p.1 /\ x.1.2.1 = p.2.1 := by rw [h4]; exact ⟨rfl, rfl⟩
        refine ⟨w, ⟨p, hpl, hm, ?_, ?_, ?_⟩, Vv _⟩
        · rw [<- h4'.1]; exact h1
        · rw [<- h4'.2]; exact h2
        · rw [<- h5]; exact h3
      · obtain ⟨w', h4, h5⟩ := hB.all p hpl hm
        have hmem := Zd2        (t := ZjE ) rfl h4;refine ⟨w', ⟨_, hp.mem_iff.2 (Vbb.2 ⟨_, hmem, rfl⟩), h1, h2, rfl⟩, by omega⟩
    refine Zmj       (z := mat (EdP l free) n) (b.length + 1) (fun s => ?_) ?_ rfl
    · show 0 < (bif Vcb s.2 then (1 : Nat) else Vq s.2)
      cases s.2 <;> simp
    · have key : ∀ (r : Nat) (es : List Zjy ) (rest : List (Pr × Int)), rest.length = r -> (es ++ rest.map ZiE   ).Perm (b.map ZiE   ) ->
          Zlb  (fun s6 : List Zjy  × List (Pr × Int) => bif Vcb s6.snd then (1 : Nat) else Vq s6.snd)
            (fun s6 i7 => bif Vcb s6.snd then some (Sum.inr s6.fst)
              else Vb s6.snd[i7]? fun x8 =>
                Vb (Zas    (decide (Vq s6.fst + Vq [((x8.fst.fst, x8.fst.snd.fst, x8.snd, ()) : Zjy )] <= Zax   ))) fun _ =>
                  some (Sum.inl (s6.fst ++ [(x8.fst.fst, x8.fst.snd.fst, x8.snd, ())], List.eraseIdx s6.snd i7)))
            (fun o10 => Vb (F101 (n : Int) o10) fun x11 => some x11.fst) (mat (EdP l free) n) (r + 1) (es, rest) := by
        intro r
        induction r with
        | zero =>
          intro es rest hr hp i hi;have : rest = [] := List.eq_nil_of_length_eq_zero hr;subst this;right;refine ⟨es, rfl, ?_⟩;show (F101 (n : Int) es).bind _ = _;rw [hend es (by simpa using hp)]
          rfl
        | succ r ih =>
          intro es rest hr hp i hi
          have hne : rest.isEmpty = false := by cases rest <;> simp at hr ⊢
          simp only [hne, cond_false]at hi;left;have hpl := hp.length_eq;have := hB.len;simp only [Vs, Vob]at hpl
          have eg2 : Zas    (decide (es.length + [(((rest[i]).1.1, (rest[i]).1.2.1, (rest[i]).2, ()) : Zjy )].length <= Zax   )) = some () := by rw [decide_eq_true (by simp [Zax   ]; omega)]; rfl
          refine ⟨(es ++ [ZiE    rest[i]], rest.eraseIdx i), ?_, ih _ _ (by rw [List.length_eraseIdx_of_lt hi]; omega) ?_⟩
          · simp only [hne, cond_false, Va hi, bind_some]
            rw [show Zas    _ = some () from eg2];rfl
          · refine List.Perm.trans ?_ hp
            have h1 : (rest[i] :: rest.eraseIdx i).Perm rest := Zhu        hi;have h2 := h1.map ZiE;rw [Vda];exact List.Perm.append_left es h2
      exact key b.length [] b rfl (by simp)
end Q
namespace Q
open Tr Go Gr
open Option (bind_some)
def FAR:Int:=1099511627776
def gm(m:List (List Int))(i j:Nat):Int:=(((m[i]?).getD [])[j]?).getD 0
def Shp(n:Nat)(m:List (List Int)):Prop:=m.length=n/\ ∀ (i:Nat) (r:List Int),m[i]? =some r->r.length=n
def upd(m:List (List Int))(i j:Nat)(v:Int):List (List Int):=m.set i (((m[i]?).getD []).set j v)
theorem Shp.row{n:Nat}{m:List (List Int)}(h:Shp n m){i:Nat}(hi:i<n): ∃r,m[i]? =some r/\r.length=n:=by
 have:i<m.length:=by rw[h.1];exact hi
 exact⟨m[i],Va this,h.2 i _ (Va this)⟩
theorem Shp.upd{n:Nat}{m:List (List Int)}(h:Shp n m){i:Nat}(hi:i<n)(j:Nat)(v:Int):Shp n (upd m i j v):=by
 obtain⟨r,h1,h2⟩:=h.row hi;refine⟨by simp [Q.upd];exact h.1,fun k r' hk=> ?_⟩;unfold Q.upd at hk;by_cases hki:i=k
 ·subst hki;rw[Vea (by rw[h.1];exact hi),h1]at hk;simp only[Vm,Option.some.injEq]at hk;subst hk;rw[Vja];exact h2
 ·rw[Vp hki]at hk;exact h.2 k r' hk
theorem ZiR{n:Nat}{m:List (List Int)}(h:Shp n m){i j:Nat}(hi:i<n)(hj:j<n)(v:Int)(a b:Nat):gm (upd m i j v) a b=if a=i/\b=j then v else gm m a b:=by
 obtain⟨r,h1,h2⟩:=h.row hi;unfold gm upd;by_cases ha:i=a
 ·subst ha;rw[Vea (by rw[h.1];exact hi),h1];simp only[Vm];by_cases hb:j=b
  ·subst hb;rw[Vea (by omega)];simp
  ·rw[Vp hb,if_neg (fun h=>hb h.2.symm)]
 ·rw[Vp ha,if_neg (fun h=>ha h.1.symm)]
theorem Zfg{n:Nat}{m:List (List Int)}(h:Shp n m){i j:Nat}(_hi:i<n)(hj:j<n){r:List Int}(hr:m[i]? =some r):r[j]? =some (gm m i j):=by have h2:=h.2 i r hr;unfold gm;rw[hr];simp only[Vm];rw[Va (by omega)];rfl
structure Ent (Ed:Nat->Nat->Int->Prop) (n k:Nat) (m:List (List Int)):Prop where
 shp:Shp n m
 snd: ∀i j,i<n->j<n->gm m i j=FAR\/(gm m i j<=FAR/\Wb Ed n i j (gm m i j))
 all: ∀i j d,i<n->j<n->Wb Ed k i j d->gm m i j<=d
theorem Ent.bnd{Ed:Nat->Nat->Int->Prop}(hw: ∀u v w,Ed u v w->0<=w){n k:Nat}{m:List (List Int)}(h:Ent Ed n k m){i j:Nat}(hi:i<n)(hj:j<n):0<=gm m i j/\gm m i j<=FAR:=by
 rcases h.snd i j hi hj with h1| ⟨h1,h2⟩
 ·rw[h1];unfold FAR;omega
 ·exact⟨h2.nonneg hw,h1⟩
theorem Ent.step{Ed:Nat->Nat->Int->Prop}(hw: ∀u v w,Ed u v w->0<=w){n k:Nat}{m:List (List Int)}(h:Ent Ed n k m){i j:Nat}(hi:i<n)(hj:j<n)(hk:k<n):
  Ent Ed n k (upd m i j (min (gm m i j) (gm m i k+gm m k j)))/\(∀d,Wb Ed (k+1) i j d->min (gm m i j) (gm m i k+gm m k j)<=d)/\min (gm m i j) (gm m i k+gm m k j)<=gm m i j:=by
 have b1:=h.bnd hw hi hj;have b2:=h.bnd hw hi hk;have b3:=h.bnd hw hk hj;refine⟨⟨h.shp.upd hi j _,fun a b ha hb=> ?_,fun a b d ha hb hd=> ?_⟩,fun d hd=> ?_,Vka _ _⟩
 ·rw[ZiR h.shp hi hj];by_cases hab:a=i/\b=j
  ·obtain⟨rfl,rfl⟩:=hab;rw[if_pos ⟨rfl,rfl⟩];by_cases hle:gm m a b<=gm m a k+gm m k b
   ·rw[Vpb hle];exact h.snd a b hi hj
   ·rw[Vhb (by omega)];right;refine⟨by omega, ?_⟩;rcases h.snd a k hi hk with h1| ⟨_,h1⟩
    ·omega
    ·rcases h.snd k b hk hj with h2| ⟨_,h2⟩
     ·omega
     ·exact h1.app hk h2
  ·rw[if_neg hab];exact h.snd a b ha hb
 ·rw[ZiR h.shp hi hj];have:=h.all a b d ha hb hd;by_cases hab:a=i/\b=j
  ·obtain⟨rfl,rfl⟩:=hab;rw[if_pos ⟨rfl,rfl⟩];exact Vma (Vka _ _) this
  ·rw[if_neg hab];exact this
 ·rcases hd.round hw with ⟨d',h1,h2⟩ | ⟨d1,d2,h1,h2,h3⟩
  ·have:=h.all i j d' hi hj h2;exact Vma (Vka _ _) (by omega)
  ·have:=h.all i k d1 hi hk h2;have:=h.all k j d2 hk hj h3;exact Vma (Vib _ _) (by omega)
structure Rnd (Ed:Nat->Nat->Int->Prop) (n k a b:Nat) (m:List (List Int)):Prop where
 ent:Ent Ed n k m
 done: ∀i j d,i<n->j<n->(i<a\/i=a/\j<b)->Wb Ed (k+1) i j d->gm m i j<=d
theorem Rnd.step{Ed:Nat->Nat->Int->Prop}(hw: ∀u v w,Ed u v w->0<=w){n k a b:Nat}{m:List (List Int)}(h:Rnd Ed n k a b m)(ha:a<n)(hb:b<n)(hk:k<n):Rnd Ed n k a (b+1) (upd m a b (min (gm m a b) (gm m a k+gm m k b))):=by
 obtain⟨h1,h2,h3⟩:=h.ent.step hw ha hb hk;refine⟨h1,fun i j d hi hj hp hd=> ?_⟩;rw[ZiR h.ent.shp ha hb];by_cases hij:i=a/\j=b
 ·obtain⟨rfl,rfl⟩:=hij;rw[if_pos ⟨rfl,rfl⟩];exact h2 d hd
 ·rw[if_neg hij];exact h.done i j d hi hj (by omega) hd
theorem Rnd.next{Ed:Nat->Nat->Int->Prop}{n k a:Nat}{m:List (List Int)}(h:Rnd Ed n k a n m):Rnd Ed n k (a+1) 0 m:=
 ⟨h.ent,fun i j d hi hj hp hd=>h.done i j d hi hj (by omega) hd⟩
theorem Rnd.fin{Ed:Nat->Nat->Int->Prop}{n k:Nat}{m:List (List Int)}(h:Rnd Ed n k n 0 m):Ent Ed n (k+1) m:=
 ⟨h.ent.shp,h.ent.snd,fun i j d hi hj hd=>h.done i j d hi hj (.inl hi) hd⟩
theorem Rnd.start{Ed:Nat->Nat->Int->Prop}{n k:Nat}{m:List (List Int)}(h:Ent Ed n k m):Rnd Ed n k 0 0 m:=
 ⟨h,fun i j d hi hj hp=>by omega⟩
theorem Zmr(a b:Int):Tr.imin a b=min a b:=by
 unfold Tr.imin
 split<;>omega
theorem Zfu         {n : Nat}(hn : n <= 64){l : List ZdD }(hF : FOk n l)(hl : l.length <= 4096)(free : Bool) : ∃ z, F86 l (n : Int) free = some z /\ Ent (EdP l free) n n z := by
  have hw : ∀ u v w, EdP l free u v w -> 0 <= w := fun u v w ⟨p, hp, _, _, _, h⟩ => by have := hF p hp; omega
  unfold F86
  refine ZaO       (fun st => ∃ i : Nat, st = (Vk i (Vk n FAR), (i : Int)) /\ i <= n) (fun st => n - st.2.toNat)
    (fun r => r = Vk n (Vk n FAR)) ⟨0, rfl, Vl _⟩ ?_ ?_
  · rintro st ⟨i, rfl, hi⟩
    by_cases hil : i < n
    · have e1 : Vc .i64 ((i : Int) + 1) = ((i + 1 : Nat) : Int) := by rw [ZaA      (by omega) (by omega)]; omega
      simp only [show decide ((i : Int) < (n : Int)) = true from decide_eq_true (by omega), cond_true, e1]
      refine ZaO       (fun st => ∃ j : Nat, st = (Vk i (Vk n FAR), Vk j FAR, (j : Int)) /\ j <= n) (fun st => n - st.2.2.toNat)
        (fun r => r = (Vk i (Vk n FAR), Vk n FAR)) ⟨0, rfl, Vl _⟩ ?_ ?_
      · rintro st ⟨j, rfl, hj⟩
        by_cases hjl : j < n
        · have e2 : Vc .i64 ((j : Int) + 1) = ((j + 1 : Nat) : Int) := by rw [ZaA      (by omega) (by omega)]; omega
          simp only [show decide ((j : Int) < (n : Int)) = true from decide_eq_true (by omega), cond_true, e2];rw [ZdJ       (by simp; omega)];simp only [bind_some];refine ⟨_, rfl, ⟨j + 1, ?_, hjl⟩, by simp only [Ve]; omega⟩;rw [Vwa]; rfl
        · have : j = n := by omega
          subst this;simp only [show decide ((j : Int) < (j : Int)) = false from decide_eq_false (by omega), cond_false];exact ⟨_, rfl, rfl⟩
      · rintro r rfl
        simp only;rw [ZdJ       (by simp; omega)];simp only [bind_some];refine ⟨_, rfl, ⟨i + 1, ?_, hil⟩, by simp only [Ve]; omega⟩;rw [Vwa]
    · have : i = n := by omega
      subst this;simp only [show decide ((i : Int) < (i : Int)) = false from decide_eq_false (by omega), cond_false];exact ⟨_, rfl, rfl⟩
  · rintro r rfl
    have hS0 : Shp n (Vk n (Vk n FAR)) := ⟨by simp, fun i r hr => by have := List.mem_of_getElem? hr;have := (List.mem_replicate.1 this).2;subst this; simp⟩
    have hg0 : ∀ i j, i < n -> j < n -> gm (Vk n (Vk n FAR)) i j = FAR := fun i j hi hj => by unfold gm; simp [hi, hj]
    refine ZaO       (fun st => ∃ (m : List (List Int)) (i : Nat), st = (m, (i : Int)) /\ i <= l.length /\ Shp n m /\ (∀ a b, a < n -> b < n -> gm m a b = FAR \/ (gm m a b <= FAR /\ Wb (EdP l free) n a b (gm m a b))) /\
        ∀ p ∈ l.take i, may free p -> gm m p.1.toNat p.2.1.toNat <= p.2.2.1) (fun st => l.length - st.2.toNat)
      (fun m => Ent (EdP l free) n 0 m) ⟨_, 0, rfl, Vl _, hS0, fun a b ha hb => .inl (hg0 a b ha hb), by simp⟩ ?_ ?_
    · rintro st ⟨m, i, rfl, hi, hS, hsnd, hall⟩
      by_cases hil : i < l.length
      · have e1 : Vc .i64 ((i : Int) + 1) = ((i + 1 : Nat) : Int) := by rw [ZaA      (by omega) (by omega)]; omega
        obtain ⟨p1, p2, p3, p4, p5, p6⟩ := hF _ (Vi hil);have htake : l.take (i + 1) = l.take i ++ [l[i]] := Vr hil;obtain ⟨u, hu⟩ : ∃ u : Nat, (l[i]).1 = (u : Int) := ⟨_, (Vxa p1).symm⟩;obtain ⟨v, hv⟩ : ∃ v : Nat, (l[i]).2.1 = (v : Int) := ⟨_, (Vxa p3).symm⟩;have hun : u < n := by omega
        have hvn : v < n := by omega
        obtain ⟨row, hrow, hrl⟩ := hS.row hun;have hcell := Zfg     hS hun hvn hrow;have hum : u < m.length := by rw [hS.1]; exact hun
        simp only [show decide ((i : Int) < (l.length : Int)) = true from decide_eq_true (by omega), cond_true, e1, Zam     hil, bind_some]
        have stay : ¬ may free l[i] -> ∃ z, some (Sum.inl (m, ((i + 1 : Nat) : Int)) : (List (List Int) × Int) ⊕ List (List Int)) = some z /\ Vnb (fun s' : List (List Int) × Int => (∃ (m : List (List Int)) (i : Nat), s' = (m, (i : Int)) /\ i <= l.length /\ Shp n m /\ (∀ a b, a < n -> b < n -> gm m a b = FAR \/ (gm m a b <= FAR /\ Wb (EdP l free) n a b (gm m a b))) /\
            ∀ p ∈ l.take i, may free p -> gm m p.1.toNat p.2.1.toNat <= p.2.2.1) /\ l.length - s'.2.toNat < l.length - ((i : Nat) : Int).toNat) (fun m => Ent (EdP l free) n 0 m) z := fun hm => by
          refine ⟨_, rfl, ⟨m, i + 1, rfl, hil, hS, hsnd, fun p hp hmp => ?_⟩, by simp only [Ve]; omega⟩;rw [htake]at hp;rcases Vca.1 hp with h | h
          · exact hall p h hmp
          · simp at h; subst h; exact absurd hmp hm
        have put : may free l[i] -> ∀ b : Bool, b = true -> ∃ z, (bif b then
                  Vb (inb (u : Int) (Vq m)) fun x9 =>
                    Vb m[x9]? fun _ =>
                      Vb (inb (u : Int) (Vq m)) fun x11 =>
                        Vb m[x11]? fun _ =>
                          Vb (idx m (x11 : Int)) fun x13 =>
                            Vb (inb (v : Int) (Vq x13)) fun x14 =>
                              Vb (idx m (x11 : Int)) fun x15 =>
                                Vb x15[x14]? fun x16 =>
                                  Vb (idx m (x9 : Int)) fun x17 =>
                                    Vb (inb (v : Int) (Vq x17)) fun x18 =>
                                      Vb (idx m (x9 : Int)) fun x19 =>
                                        Vb x19[x18]? fun _ =>
                                          some
                                            (Sum.inl (Vaa m (Int.toNat (x9 : Int)) (Vaa x19 x18 (Tr.imin x16 (l[i]).2.2.1)), ((i + 1 : Nat) : Int)))
                else some (Sum.inl (m, ((i + 1 : Nat) : Int)))) = some (z : (List (List Int) × Int) ⊕ List (List Int)) /\ Vnb (fun s' : List (List Int) × Int => (∃ (m : List (List Int)) (i : Nat), s' = (m, (i : Int)) /\ i <= l.length /\ Shp n m /\ (∀ a b, a < n -> b < n -> gm m a b = FAR \/ (gm m a b <= FAR /\ Wb (EdP l free) n a b (gm m a b))) /\
            ∀ p ∈ l.take i, may free p -> gm m p.1.toNat p.2.1.toNat <= p.2.2.1) /\ l.length - s'.2.toNat < l.length - ((i : Nat) : Int).toNat) (fun m => Ent (EdP l free) n 0 m) z := by
          rintro hm b rfl;have hvr : v < row.length := by omega
          have hidx : idx m (u : Int) = some row := by rw [Zam     hum]; rw [Va hum]at hrow; exact hrow
          simp only [cond_true, Zbf     hum, bind_some, hrow, hidx, Zbf     hvr, hcell, Ve]
          have hmat : Vaa m u (Vaa row v (Tr.imin (gm m u v) (l[i]).2.2.1)) = upd m u v (min (gm m u v) (l[i]).2.2.1) := by unfold upd; rw [hrow, Zmr    ]; rfl
          rw [hmat];have hed : EdP l free u v (l[i]).2.2.1 := ⟨_, Vi hil, hm, hu, hv, rfl⟩;refine ⟨_, rfl, ⟨_, i + 1, rfl, hil, hS.upd hun v _, fun a b ha hb => ?_, fun p hp hmp => ?_⟩, by simp only [Ve]; omega⟩
          · rw [ZiR    hS hun hvn]
            by_cases hab : a = u /\ b = v
            · obtain ⟨rfl, rfl⟩ := hab
              rw [if_pos ⟨rfl, rfl⟩];by_cases hle : gm m a b <= (l[i]).2.2.1
              · rw [Vpb hle]; exact hsnd a b ha hb
              · rw [Vhb (by omega)]
                exact .inr ⟨by unfold FAR; omega, .one hed⟩
            · rw [if_neg hab]; exact hsnd a b ha hb
          · rw [ZiR    hS hun hvn]
            rw [htake]at hp;rcases Vca.1 hp with h | h
            · have := hall p h hmp
              by_cases hab : p.1.toNat = u /\ p.2.1.toNat = v
              · rw [if_pos hab]
                rw [hab.1, hab.2]at this;exact Vma (Vka _ _) this
              · rw [if_neg hab]; exact this
            · simp at h; subst h
              rw [if_pos ⟨by rw [hu]; simp, by rw [hv]; simp⟩];exact Vib _ _
        simp only [hu, hv]
        cases hsf : (l[i]).2.2.2.1 with
        | true =>
          simp only [cond_true, bind_some]
          exact put (fun _ => hsf) true rfl
        | false =>
          simp only [cond_false, bind_some]
          cases hfr : free with
          | false =>
            have := put (fun h => by rw [hfr]at h; cases h) true rfl;rw [hfr]at this
            exact this
          | true =>
            have := stay (fun h => by have := h hfr; rw [hsf]at this; cases this);rw [hfr]at this;exact this
      · have : i = l.length := by omega
        subst this;simp only [show decide ((l.length : Int) < (l.length : Int)) = false from decide_eq_false (by omega), cond_false];rw [Vha]at hall;refine ⟨_, rfl, hS, hsnd, fun a b d ha hb hd => ?_⟩
        cases hd with
        | one e =>
          obtain ⟨p, hp, hm, h1, h2, rfl⟩ := e;have := hall p hp hm
          rwa [h1, h2]at this
        | cons e hm _ => omega
    · intro m hE
      refine ZaO       (fun st => ∃ (m : List (List Int)) (k : Nat), st = (m, (k : Int)) /\ k <= n /\ Ent (EdP l free) n k m) (fun st => n - st.2.toNat) (fun m => Ent (EdP l free) n n m) ⟨m, 0, rfl, Vl _, hE⟩ ?_ (fun m hm => ⟨_, rfl, hm⟩);rintro st ⟨m, k, rfl, hk, hE⟩;by_cases hkl : k < n
      · have e1 : Vc .i64 ((k : Int) + 1) = ((k + 1 : Nat) : Int) := by rw [ZaA      (by omega) (by omega)]; omega
        simp only [show decide ((k : Int) < (n : Int)) = true from decide_eq_true (by omega), cond_true, e1];refine ZaO       (fun st => ∃ (m : List (List Int)) (a : Nat), st = (m, (a : Int)) /\ a <= n /\ Rnd (EdP l free) n k a 0 m) (fun st => n - st.2.toNat) (fun m => Rnd (EdP l free) n k n 0 m) ⟨m, 0, rfl, Vl _, Rnd.start hE⟩ ?_ (fun m hm => ⟨_, rfl, ⟨m, k + 1, rfl, hkl, hm.fin⟩, by simp only [Ve]; omega⟩);rintro st ⟨m, a, rfl, ha, hR⟩;by_cases hal : a < n
        · have e2 : Vc .i64 ((a : Int) + 1) = ((a + 1 : Nat) : Int) := by rw [ZaA      (by omega) (by omega)]; omega
          simp only [show decide ((a : Int) < (n : Int)) = true from decide_eq_true (by omega), cond_true, e2]
          refine ZaO       (fun st => ∃ (m : List (List Int)) (b : Nat), st = (m, (b : Int)) /\ b <= n /\ Rnd (EdP l free) n k a b m) (fun st => n - st.2.toNat) (fun m => Rnd (EdP l free) n k a n m) ⟨m, 0, rfl, Vl _, hR⟩ ?_ (fun m hm => ⟨_, rfl, ⟨m, a + 1, rfl, hal, hm.next⟩, by simp only [Ve]; omega⟩)
          rintro st ⟨m, b, rfl, hb, hR⟩;by_cases hbl : b < n
          · have e3 : Vc .i64 ((b : Int) + 1) = ((b + 1 : Nat) : Int) := by rw [ZaA      (by omega) (by omega)]; omega
            have hS := hR.ent.shp;obtain ⟨ra, hra, hral⟩ := hS.row hal;obtain ⟨rk, hrk, hrkl⟩ := hS.row hkl;have ham : a < m.length := by rw [hS.1]; exact hal
            have hkm : k < m.length := by rw [hS.1]; exact hkl
            have hia : idx m (a : Int) = some ra := by rw [Zam     ham]; rw [Va ham]at hra; exact hra
            have hik : idx m (k : Int) = some rk := by rw [Zam     hkm]; rw [Va hkm]at hrk; exact hrk
            have hba : b < ra.length := by omega
            have hbk : b < rk.length := by omega
            have hka : k < ra.length := by omega
            have b1 := hR.ent.bnd hw hal hbl;have b2 := hR.ent.bnd hw hal hkl;have b3 := hR.ent.bnd hw hkl hbl;have e4 : Vc .i64 (gm m a k + gm m k b) = gm m a k + gm m k b := ZaA      (by unfold FAR at *; omega) (by unfold FAR at *; omega);simp only [show decide ((b : Int) < (n : Int)) = true from decide_eq_true (by omega), cond_true, e3, Zbf     ham, Zbf     hkm, bind_some, hra, hrk, hia, hik, Zbf     hba, Zbf     hbk, Zbf     hka, Zfg     hS hal hbl hra, Zfg     hS hal hkl hra, Zfg     hS hkl hbl hrk, e4, Ve, Zmr    ]
            have hmat : Vaa m a (Vaa ra b (min (gm m a b) (gm m a k + gm m k b))) = upd m a b (min (gm m a b) (gm m a k + gm m k b)) := by unfold upd; rw [hra]; rfl
            rw [hmat];exact ⟨_, rfl, ⟨_, b + 1, rfl, hbl, hR.step hw hal hbl hkl⟩, by simp only [Ve]; omega⟩
          · have : b = n := by omega
            subst this;simp only [show decide ((b : Int) < (b : Int)) = false from decide_eq_false (by omega), cond_false];exact ⟨_, rfl, hR⟩
        · have : a = n := by omega
          subst this;simp only [show decide ((a : Int) < (a : Int)) = false from decide_eq_false (by omega), cond_false];exact ⟨_, rfl, hR⟩
      · have : k = n := by omega
        subst this;simp only [show decide ((k : Int) < (k : Int)) = false from decide_eq_false (by omega), cond_false];exact ⟨_, rfl, hE⟩
end Q
namespace Q
open Tr Go
open Option (bind_some)
abbrev ZcW:=Int×Int×Int×Bool×Unit
def ltF(a b:ZcW):Prop:=a.1<b.1\/(a.1=b.1/\(a.2.1<b.2.1\/(a.2.1=b.2.1/\a.2.2.1<b.2.2.1)))
def ZlQ(a b:Int):Int:=if a<b then -1 else if b<a then 1 else 0
theorem ZnZ(a b:Int):F8 a b=some (ZlQ a b):=by
 unfold F8 F10 ZlQ;simp only[decide_true,Vd,bind_some,cond_false];by_cases h:a<b
 ·simp [h]
 ·by_cases h2:b<a
  ·simp [h,h2]
  ·simp [h,h2]
theorem ZqQ(x y z:Int):F9 [x,y,z]=some (if x≠0 then x else if y≠0 then y else z):=by
 unfold F9;have w1:Vc .i64 (0+1:Int)=1:=by decide
 have w2:Vc .i64 (1+1:Int)=2:=by decide
 have w3:Vc .i64 (2+1:Int)=3:=by decide
 have i0:idx [x,y,z] 0=some x:=rfl;have i1:idx [x,y,z] 1=some y:=rfl;have i2:idx [x,y,z] 2=some z:=rfl;have hl: (([x,y,z]:List Int).length:Int)=3:=rfl;rw[Zce];simp only[hl,show decide ((0:Int)<3)=true from rfl,cond_true,i0,bind_some,w1];by_cases hx:x=0
 ·subst hx;simp only[decide_true,Vd,cond_false,bind_some,Vj];rw[Zce];simp only[show decide ((1:Int)<3)=true from rfl,cond_true,i1,bind_some,w2];by_cases hy:y=0
  ·subst hy;simp only[decide_true,Vd,cond_false,bind_some,Vj];rw[Zce];simp only[show decide ((2:Int)<3)=true from rfl,cond_true,i2,bind_some,w3];by_cases hz:z=0
   ·subst hz;simp only[decide_true,Vd,cond_false,bind_some,Vj];rw[Zce];simp
   ·simp [hz]
  ·simp [hy]
 ·simp [hx]
def c3(a b:ZcW):Int:=if ZlQ a.1 b.1≠0 then ZlQ a.1 b.1 else if ZlQ a.2.1 b.2.1≠0 then ZlQ a.2.1 b.2.1 else ZlQ a.2.2.1 b.2.2.1
theorem Zqm(a b:ZcW):F29 a b=some (c3 a b):=by unfold F29;simp only[ZnZ,bind_some];rw[show F9 [ZlQ a.1 b.1,ZlQ a.2.1 b.2.1,ZlQ a.2.2.1 b.2.2.1]=_ from ZqQ _ _ _];rfl
theorem Zrh(a b:ZcW):c3 a b<0↔ltF a b:=by
 unfold c3 ltF ZlQ;by_cases h1:a.1<b.1
 ·simp [h1]
 ·by_cases h2:b.1<a.1
  ·simp [h1,h2];omega
  ·have e1:a.1=b.1:=by omega
   by_cases h3:a.2.1<b.2.1
   ·simp [e1,h3]
   ·by_cases h4:b.2.1<a.2.1
    ·simp [e1,h3,h4];omega
    ·have e2:a.2.1=b.2.1:=by omega
     by_cases h5:a.2.2.1<b.2.2.1
     ·simp [e1,e2,h5]
     ·by_cases h6:b.2.2.1<a.2.2.1
      ·simp [e1,e2,h5,h6]
      ·simp [e1,e2,h5,h6]
theorem Zqv(a b:ZcW):0<c3 a b↔ltF b a:=by
 unfold c3 ltF ZlQ;by_cases h1:a.1<b.1
 ·simp [h1];omega
 ·by_cases h2:b.1<a.1
  ·simp [h1,h2]
  ·have e1:a.1=b.1:=by omega
   by_cases h3:a.2.1<b.2.1
   ·simp [e1,h3];omega
   ·by_cases h4:b.2.1<a.2.1
    ·simp [e1,h3,h4]
    ·have e2:a.2.1=b.2.1:=by omega
     by_cases h5:a.2.2.1<b.2.2.1
     ·simp [e1,e2,h5];omega
     ·by_cases h6:b.2.2.1<a.2.2.1
      ·simp [e1,e2,h5,h6]
      ·simp [e1,e2,h5,h6]
def Srt(l:List ZcW):Prop:=l.Pairwise ltF
theorem ZoP{l:List ZcW}(h:Srt l)(hl:l.length<16384):F111 l ()=some l:=by
 unfold F111;refine Tr.sortF_sorted ltF l (by omega) (fun x _ y _=>⟨_,Zqm x y,Zrh x y,Zqv x y⟩) (fun x _=> ?_) (fun a _ b _ c _=> ?_) h
 ·unfold ltF;omega
 ·unfold ltF;omega
end Q
namespace Q
open Tr Go Gr
open Option (bind_some)
def Zda(a b:Nat)(d f:Int):List ZcW:=
 (if 0<d/\d<=14400 then [((a:Int),(b:Int),d,decide (f=d),())] else [])++(if f=d then [] else if 0<f/\f<=14400 then [((a:Int),(b:Int),f,true,())] else [])
def ZdE(a b:Nat)(e g:Int):List ZcW:=
 if 14400<e then [] else((a:Int),(b:Int),e,decide (g=e),())::(if e<g/\g<=14400 then [((a:Int),(b:Int),g,true,())] else [])
def Rel(d e:Int):Prop:=(e=d/\1<=d)\/(e=FAR/\(d= -1\/FAR<=d))
theorem ZoN{a b:Nat}{d e f g:Int}(h1:Rel d e)(h2:Rel f g)(h3:f= -1\/(d≠ -1/\d<=f)):Zda a b d f=ZdE a b e g:=by
 unfold Rel FAR at*;unfold Zda ZdE;by_cases hd:0<d/\d<=14400
 ·have he:e=d:=by omega
  subst he;rw[if_pos hd,if_neg (show¬ (14400:Int)<e by omega)];by_cases hf:f=e
  ·have hg:g=e:=by omega
   rw[if_pos hf,if_neg (show¬ (e<g/\g<=14400) by omega),hf,hg];rfl
  ·rw[if_neg hf];have hg: ¬g=e:=by omega
   rw[decide_eq_false hf,decide_eq_false hg];by_cases hf2:0<f/\f<=14400
   ·have hgf:g=f:=by omega
    rw[if_pos hf2,if_pos (show e<g/\g<=14400 by omega),hgf];rfl
   ·rw[if_neg hf2,if_neg (show¬ (e<g/\g<=14400) by omega)];rfl
 ·rw[if_neg hd,if_pos (show (14400:Int)<e by omega)];by_cases hf:f=d
  ·rw[if_pos hf];rfl
  ·rw[if_neg hf,if_neg (show¬ (0<f/\f<=14400) by omega)];rfl
theorem Ziz(a b:Nat)(d f:Int): (Zda a b d f).length<=2:=by
 unfold Zda
 split<;>split<;> (try split)<;>simp
theorem ZfA{a b:Nat}{d:Int}{s:Bool}{out:List ZcW}(h:out.length<4294967295):F28 (a:Int) (b:Int) d s out=some (out++if 0<d/\d<=14400 then [((a:Int),(b:Int),d,s,())] else []):=by
 unfold F28;by_cases h1:0<d
 ·by_cases h2:d<=14400
  ·simp only[show decide ((0:Int)<d)=true from decide_eq_true h1,cond_true,bind_some,show decide (d<=(14400:Int))=true from decide_eq_true h2];rw[ZdJ (by simp;omega),if_pos ⟨h1,h2⟩];rfl
  ·simp only[show decide ((0:Int)<d)=true from decide_eq_true h1,cond_true,bind_some,show decide (d<=(14400:Int))=false from decide_eq_false h2,cond_false];rw[if_neg (fun h=>h2 h.2),Vx]
 ·simp only[show decide ((0:Int)<d)=false from decide_eq_false h1,cond_false,bind_some];rw[if_neg (fun h=>h1 h.1),Vx]
section
variable (it:Nat->Nat->List ZcW) (n:Nat)
def Zi6(a m:Nat):List ZcW:=(Vy m).flatMap fun b=>if a=b then [] else it a b
def Zfa(m:Nat):List ZcW:=(Vy m).flatMap fun a=>Zi6 it a n
end
theorem Zbo(it:Nat->Nat->List ZcW)(a m:Nat):Zi6 it a (m+1)=Zi6 it a m++if a=m then [] else it a m:=by unfold Zi6;rw[Vqb,Vya];simp
theorem ZdK(it:Nat->Nat->List ZcW)(n m:Nat):Zfa it n (m+1)=Zfa it n m++Zi6 it m n:=by unfold Zfa;rw[Vqb,Vya];simp
theorem ZfS{it:Nat->Nat->List ZcW}(h: ∀a b,(it a b).length<=2)(a:Nat): ∀m,(Zi6 it a m).length<=2*m
 |0=>by simp [Zi6]
 |m+1=>by
  rw[Zbo,Vs];have:=ZfS h a m;have:=h a m
  split<;>simp<;>omega
theorem ZkM{it:Nat->Nat->List ZcW}(h: ∀a b,(it a b).length<=2)(n:Nat): ∀m,(Zfa it n m).length<=2*n*m
 |0=>by simp [Zfa]
 |m+1=>by rw[ZdK,Vs];have:=ZkM h n m;have:=ZfS h m n;rw[Nat.mul_add];omega
theorem Zd8{it:Nat->Nat->List ZcW}(h: ∀a b,(it a b).length<=2){n m:Nat}(hn:n<=64)(hm:m<=n): (Zfa it n m).length<=8192:=by have h1:=ZkM h n m;have h2:2*n*m<=2*64*64:=Vrb (Vrb (Vga 2) hn) (by omega);omega
theorem Zk6{it it' :Nat->Nat->List ZcW}{n m:Nat}(hm:m<=n)(h: ∀a b,a<n->b<n->a≠b->it a b=it' a b):Zfa it n m=Zfa it' n m:=by
 induction m with
 |zero=>rfl
 |succ m ih=>
  rw[ZdK,ZdK,ih (by omega)];congr 1
  have: ∀k,k<=n->Zi6 it m k=Zi6 it' m k:=by
   intro k
   induction k with
   |zero=>intro _;rfl
   |succ k ihk=>
    intro hk;rw[Zbo,Zbo,ihk (by omega)];by_cases hmk:m=k
    ·rw[if_pos hmk,if_pos hmk]
    ·rw[if_neg hmk,if_neg hmk,h m k (by omega) (by omega) hmk]
  exact this n (Vga n)
theorem Zos{it:Nat->Nat->List ZcW}{n m:Nat}(h1: ∀a b x,x∈it a b->x.1=(a:Int)/\x.2.1=(b:Int))(h2: ∀a b,(it a b).Pairwise fun x y=>x.2.2.1<y.2.2.1):Srt (Zfa it n m):=by
 show (Zfa it n m).Pairwise ltF
 ·unfold Zfa;rw[Vta];refine⟨fun a _=> ?_, ?_⟩
  ·unfold Zi6;rw[Vta];refine⟨fun b _=> ?_, ?_⟩
   ·split
    ·exact List.Pairwise.nil
    ·refine List.Pairwise.imp_of_mem ?_ (h2 a b);intro x y hx hy hxy;obtain⟨e1,e2⟩:=h1 a b x hx;obtain⟨e3,e4⟩:=h1 a b y hy;unfold ltF;omega
   ·refine List.Pairwise.imp ?_ Vpa;intro b b' hbb x hx y hy;split at hx
    ·simp at hx
    ·split at hy
     ·simp at hy
     ·obtain⟨e1,e2⟩:=h1 a b x hx;obtain⟨e3,e4⟩:=h1 a b' y hy;unfold ltF;omega
  ·refine List.Pairwise.imp ?_ Vpa;intro a a' haa x hx y hy;unfold Zi6 at hx hy;obtain⟨b,_,hx⟩:=Vjb.1 hx;obtain⟨b',_,hy⟩:=Vjb.1 hy;split at hx
   ·simp at hx
   ·split at hy
    ·simp at hy
    ·obtain⟨e1,e2⟩:=h1 a b x hx;obtain⟨e3,e4⟩:=h1 a' b' y hy;unfold ltF;omega
theorem Znu{a b:Nat}{d f:Int}{x:ZcW}(h:x∈Zda a b d f):x.1=(a:Int)/\x.2.1=(b:Int):=by
 unfold Zda at h;rcases Vca.1 h with h|h
 ·split at h
  ·simp at h;subst h;exact⟨rfl,rfl⟩
  ·simp at h
 ·split at h
  ·simp at h
  ·split at h
   ·simp at h;subst h;exact⟨rfl,rfl⟩
   ·simp at h
theorem ZjV{n:Nat}(hn:n<=64){l:List ZdD}(hF:FOk n l)(hl:l.length<=4096)
  (hle: ∀a b,Za2 (EdP l true) a b= -1\/Za2 (EdP l false) a b<=Za2 (EdP l true) a b):
  F27 l (n:Int)=some (Zfa (fun a b=>Zda a b (Za2 (EdP l false) a b) (Za2 (EdP l true) a b)) n n):=by
 have key: ∃z,F27 l (n:Int)=some z/\z=Zfa (fun a b=>Zda a b (Za2 (EdP l false) a b) (Za2 (EdP l true) a b)) n n:=by
  unfold F27;obtain⟨_,h1,rfl⟩:=Ze0 hn hF hl false;obtain⟨_,h2,rfl⟩:=Ze0 hn hF hl true;rw[h1];simp only[bind_some];rw[h2];simp only[bind_some];have hlen: ∀Ed,(mat Ed n).length=n:=fun Ed=>by simp [mat]
  have hitl: ∀a b:Nat,((fun a b=>Zda a b (Za2 (EdP l false) a b) (Za2 (EdP l true) a b)) a b).length<=2:=fun a b=>Ziz _ _ _ _
  have hrow: ∀Ed (a:Nat),a<n->idx (mat Ed n) (a:Int)=some ((Vy n).map fun j=>Za2 Ed a j):=fun Ed a ha=>by
   have h:=Zmn (Ed:=Ed) ha;have hal:a< (mat Ed n).length:=by rw[hlen];exact ha
   rw[Zam hal];rw[Va hal]at h;exact h
  have hcell: ∀Ed (a b:Nat),b<n->idx ((Vy n).map fun j=>Za2 Ed a j) (b:Int)=some (Za2 Ed a b):=fun Ed a b hb=>by rw[Zam (by simp;exact hb)];simp
  refine ZaO (fun st=> ∃a:Nat,st=(Zfa (fun a b=>Zda a b (Za2 (EdP l false) a b) (Za2 (EdP l true) a b)) n a,(a:Int))/\a<=n) (fun st=>n - st.2.toNat)
   (fun r=>r=Zfa (fun a b=>Zda a b (Za2 (EdP l false) a b) (Za2 (EdP l true) a b)) n n) ⟨0,rfl,Vl _⟩ ?_ ?_
  ·rintro st ⟨a,rfl,ha⟩;by_cases hal:a<n
   ·have e1:Vc .i64 ((a:Int)+1)=((a+1:Nat):Int):=by rw[ZaA (by omega) (by omega)];omega
    simp only[hlen,show decide ((a:Int)< (n:Int))=true from decide_eq_true (by omega),cond_true,hrow _ a hal,bind_some,e1,Vob,List.length_range]
    refine ZaO (fun st=> ∃b:Nat,st=(Zfa (fun a b=>Zda a b (Za2 (EdP l false) a b) (Za2 (EdP l true) a b)) n a++Zi6 (fun a b=>Zda a b (Za2 (EdP l false) a b) (Za2 (EdP l true) a b)) a b,(b:Int))/\b<=n) (fun st=>n - st.2.toNat)
     (fun r=>r=Zfa (fun a b=>Zda a b (Za2 (EdP l false) a b) (Za2 (EdP l true) a b)) n (a+1)) ⟨0,by simp [Zi6],Vl _⟩ ?_ ?_
    ·rintro st ⟨b,rfl,hb⟩;by_cases hbl:b<n
     ·have e2:Vc .i64 ((b:Int)+1)=((b+1:Nat):Int):=by rw[ZaA (by omega) (by omega)];omega
      simp only[show decide ((b:Int)< (n:Int))=true from decide_eq_true (by omega),cond_true,hcell _ a b hbl,bind_some,e2];by_cases hab:a=b
      ·subst hab;simp only[decide_true,cond_true];exact⟨_,rfl,⟨a+1,by rw[Zbo,if_pos rfl,Vx],hbl⟩,by simp only[Ve];omega⟩
      ·have hl1: (Zfa (fun a b=>Zda a b (Za2 (EdP l false) a b) (Za2 (EdP l true) a b)) n a++Zi6 (fun a b=>Zda a b (Za2 (EdP l false) a b) (Za2 (EdP l true) a b)) a b).length<=10000:=by rw[Vs];have:=Zd8 hitl hn ha;have:=ZfS hitl a b;omega
       simp only[show decide ((a:Int)=(b:Int))=false from decide_eq_false (by omega),cond_false];rw[ZfA (by omega)];simp only[bind_some];by_cases hfd:Za2 (EdP l true) a b=Za2 (EdP l false) a b
       ·simp only[hfd,decide_true,Vd,cond_false];refine⟨_,rfl,⟨b+1, ?_,hbl⟩,by simp only[Ve];omega⟩;rw[Zbo,if_neg hab, <-Vda];congr 1;unfold Zda;simp only[hfd,if_true,Vx,decide_true]
       ·simp only[decide_eq_false hfd,Vg,cond_true]
        rw[ZfA (by rw[Vs];split<;>simp at* <;>omega)]
        simp only[bind_some];refine⟨_,rfl,⟨b+1, ?_,hbl⟩,by simp only[Ve];omega⟩;rw[Zbo,if_neg hab,Vda, <-Vda (Zfa _ _ _)];congr 1;unfold Zda;simp only[if_neg hfd,decide_eq_false hfd]
     ·have:b=n:=by omega
      subst this;simp only[show decide ((b:Int)< (b:Int))=false from decide_eq_false (by omega),cond_false];exact⟨_,rfl,(ZdK _ _ _).symm⟩
    ·rintro r rfl;exact⟨_,rfl,⟨a+1,rfl,hal⟩,by simp only[Ve];omega⟩
   ·have:a=n:=by omega
    subst this;simp only[hlen,show decide ((a:Int)< (a:Int))=false from decide_eq_false (by omega),cond_false];exact⟨_,rfl,rfl⟩
  ·rintro r rfl
   have hs:Srt (Zfa (fun a b=>Zda a b (Za2 (EdP l false) a b) (Za2 (EdP l true) a b)) n n):=Zos (fun a b x hx=>Znu hx) (fun a b=>by
    unfold Zda;have:=hle a b;split
    ·split
     ·simp
     ·split
      ·simp;omega
      ·simp
    ·split
     ·simp
     ·split<;>simp)
   rw[ZoP hs (by have:=Zd8 hitl hn (Vga n);omega)];exact⟨_,rfl,rfl⟩
 obtain⟨z,h,rfl⟩:=key;exact h
end Q
namespace Q
open Tr Go Gr
open Option (bind_some)
theorem Zje{Ed:Nat->Nat->Int->Prop}(hw: ∀u v w,Ed u v w->0<=w){s v:Nat} : ∀ (k:Nat) (d:Int),d.toNat=k->Wk Ed s v d-> ∃m,ZdS Ed s v m:=by
 intro k
 induction k using Vkb with
 |ind k ih=>
  intro d hd h;by_cases hex: ∃d',Wk Ed s v d' /\d' <d
  ·obtain⟨d',h1,h2⟩:=hex;have a:=h1.nonneg hw;exact ih d'.toNat (by omega) d' rfl h1
  ·exact⟨d,h,fun d' h' =>by
    by_cases hlt:d' <d
    ·exact absurd ⟨d',h',hlt⟩ hex
    ·omega⟩
theorem Zqw{Ed:Nat->Nat->Int->Prop}(hw: ∀u v w,Ed u v w->1<=w){k i j:Nat}{d:Int}(h:Wb Ed k i j d):1<=d:=by
 induction h with
 |one e=>exact hw _ _ _ e
 |cons e _ _ ih=>have:=hw _ _ _ e;omega
theorem ZkY{n:Nat}{l:List ZdD}(hF:FOk n l)(free:Bool): ∀u v w,EdP l free u v w->u<n/\v<n/\1<=w:=fun u v w ⟨p,hp,_,h1,h2,h3⟩=>by have:=hF p hp;omega
theorem ZlU{n:Nat}{l:List ZdD}(hF:FOk n l)(a b:Nat):Za2 (EdP l true) a b= -1\/(Za2 (EdP l false) a b≠ -1/\Za2 (EdP l false) a b<=Za2 (EdP l true) a b):=by
 by_cases h: ∃d,ZdS (EdP l true) a b d
 ·right;obtain⟨d,hd⟩:=h;have hw: ∀u v w,EdP l false u v w->0<=w:=fun u v w h=>by have:=ZkY hF false u v w h;omega
  have hwk:Wk (EdP l false) a b d:=by
   have key: ∀ {v:Nat}{d:Int},Wk (EdP l true) a v d->Wk (EdP l false) a v d:=by
    intro v d h
    induction h with
    |nil=>exact .nil
    |snoc _ e ih=>
     obtain⟨p,hp,_,h1⟩:=e;exact .snoc ih ⟨p,hp,(fun(h:false=true)=>by cases h),h1⟩
   exact key hd.1
  obtain⟨m,hm⟩:=Zje hw _ d rfl hwk;rw[Zdr hm,Zdr hd];have:=hm.1.nonneg hw;exact⟨by omega,hm.2 d hwk⟩
 ·left;unfold Za2;rw[dif_neg h]
theorem Zo2{n:Nat}{l:List ZdD}(hF:FOk n l){free:Bool}{m:List (List Int)}(hE:Ent (EdP l free) n n m){a b:Nat}(ha:a<n)(hb:b<n)(hab:a≠b):Rel (Za2 (EdP l free) a b) (gm m a b):=by
 have hn: ∀u v w,EdP l free u v w->u<n/\v<n:=fun u v w h=>⟨(ZkY hF free u v w h).1,(ZkY hF free u v w h).2.1⟩
 have hall: ∀d,Wk (EdP l free) a b d->gm m a b<=d:=fun d hd=>by
  rcases hd.wb hn with ⟨h,_⟩ |h
  ·exact absurd h.symm hab
  ·exact hE.all a b d ha hb h
 rcases hE.snd a b ha hb with h| ⟨_,h⟩
 ·right;refine⟨h, ?_⟩;by_cases hex: ∃d,ZdS (EdP l free) a b d
  ·obtain⟨d,hd⟩:=hex;rw[Zdr hd];have:=hall d hd.1;right;omega
  ·left;unfold Za2;rw[dif_neg hex]
 ·left;have hwk:=Wb.wk (Wk.nil (Ed:=EdP l free) (s:=a)) h;rw[Int.zero_add]at hwk;rw[Zdr ⟨hwk,hall⟩];exact⟨rfl,Zqw (fun u v w h=>(ZkY hF free u v w h).2.2) h⟩
theorem Znx(a b:Nat)(d f:Int): (ZdE a b d f).length<=2:=by
 unfold ZdE;split
 ·simp
 ·simp only[Vba];split<;>simp
theorem Zjm{n:Nat}(hn:n<=64){l:List ZdD}(hF:FOk n l)(hl:l.length<=4096):
  ∃z1 z2,Ent (EdP l false) n n z1/\Ent (EdP l true) n n z2/\F84 l (n:Int)=some (Zfa (fun a b=>ZdE a b (gm z1 a b) (gm z2 a b)) n n):=by
 obtain⟨z1,h1,hE1⟩:=Zfu hn hF hl false;obtain⟨z2,h2,hE2⟩:=Zfu hn hF hl true;refine⟨z1,z2,hE1,hE2, ?_⟩
 have key: ∃z,F84 l (n:Int)=some z/\z=Zfa (fun a b=>ZdE a b (gm z1 a b) (gm z2 a b)) n n:=by
  unfold F84;rw[h1];simp only[bind_some];rw[h2];simp only[bind_some];have hitl: ∀a b:Nat,((fun a b=>ZdE a b (gm z1 a b) (gm z2 a b)) a b).length<=2:=fun a b=>Znx _ _ _ _
  refine ZaO (fun st=> ∃a:Nat,st=(Zfa (fun a b=>ZdE a b (gm z1 a b) (gm z2 a b)) n a,(a:Int))/\a<=n) (fun st=>n - st.2.toNat)
   (fun r=>r=Zfa (fun a b=>ZdE a b (gm z1 a b) (gm z2 a b)) n n) ⟨0,rfl,Vl _⟩ ?_ (fun r hr=>⟨_,rfl,hr⟩)
  rintro st ⟨a,rfl,ha⟩;by_cases hal:a<n
  ·have e1:Vc .i64 ((a:Int)+1)=((a+1:Nat):Int):=by rw[ZaA (by omega) (by omega)];omega
   obtain⟨r1,hr1,hl1⟩:=hE1.shp.row hal;obtain⟨r2,hr2,hl2⟩:=hE2.shp.row hal;have ha1:a<z1.length:=by rw[hE1.shp.1];exact hal
   have ha2:a<z2.length:=by rw[hE2.shp.1];exact hal
   have i1:idx z1 (a:Int)=some r1:=by rw[Zam ha1];rw[Va ha1]at hr1;exact hr1
   have i2:idx z2 (a:Int)=some r2:=by rw[Zam ha2];rw[Va ha2]at hr2;exact hr2
   simp only[show decide ((a:Int)< (n:Int))=true from decide_eq_true (by omega),cond_true,e1]
   refine ZaO (fun st=> ∃b:Nat,st=(Zfa (fun a b=>ZdE a b (gm z1 a b) (gm z2 a b)) n a++Zi6 (fun a b=>ZdE a b (gm z1 a b) (gm z2 a b)) a b,(b:Int))/\b<=n) (fun st=>n - st.2.toNat)
    (fun r=>r=Zfa (fun a b=>ZdE a b (gm z1 a b) (gm z2 a b)) n (a+1)) ⟨0,by simp [Zi6],Vl _⟩ ?_ ?_
   ·rintro st ⟨b,rfl,hb⟩;by_cases hbl:b<n
    ·have e2:Vc .i64 ((b:Int)+1)=((b+1:Nat):Int):=by rw[ZaA (by omega) (by omega)];omega
     have hb1:b<r1.length:=by omega
     have hb2:b<r2.length:=by omega
     have c1:idx r1 (b:Int)=some (gm z1 a b):=by have:=Zfg hE1.shp hal hbl hr1;rw[Va hb1]at this;rw[Zam hb1];exact this
     have c2:idx r2 (b:Int)=some (gm z2 a b):=by have:=Zfg hE2.shp hal hbl hr2;rw[Va hb2]at this;rw[Zam hb2];exact this
     simp only[show decide ((b:Int)< (n:Int))=true from decide_eq_true (by omega),cond_true,i1,i2,c1,c2,bind_some,e2];by_cases hab:a=b
     ·subst hab;simp only[decide_true,cond_true,bind_some];exact⟨_,rfl,⟨a+1,by rw[Zbo,if_pos rfl,Vx],hbl⟩,by simp only[Ve];omega⟩
     ·have hlen1: (Zfa (fun a b=>ZdE a b (gm z1 a b) (gm z2 a b)) n a++Zi6 (fun a b=>ZdE a b (gm z1 a b) (gm z2 a b)) a b).length<=10000:=by rw[Vs];have:=Zd8 hitl hn ha;have:=ZfS hitl a b;omega
      simp only[show decide ((a:Int)=(b:Int))=false from decide_eq_false (by omega),cond_false,bind_some];by_cases hfar:14400<gm z1 a b
      ·simp only[decide_eq_true hfar,cond_true];refine⟨_,rfl,⟨b+1, ?_,hbl⟩,by simp only[Ve];omega⟩;rw[Zbo,if_neg hab];unfold ZdE;rw[if_pos hfar,Vx]
      ·simp only[decide_eq_false hfar,cond_false];rw[ZdJ (by simp only[Vba,Vqa];omega)];simp only[bind_some];by_cases hlt:gm z1 a b<gm z2 a b
       ·simp only[decide_eq_true hlt,cond_true,bind_some];by_cases h14:gm z2 a b<=14400
        ·simp only[decide_eq_true h14,cond_true];rw[ZdJ (by simp only[Vs,Vba,Vqa]at hlen1 ⊢;omega)];simp only[bind_some];refine⟨_,rfl,⟨b+1, ?_,hbl⟩,by simp only[Ve];omega⟩;rw[Zbo,if_neg hab];unfold ZdE;rw[if_neg hfar,if_pos ⟨hlt,h14⟩];simp
        ·simp only[decide_eq_false h14,cond_false];refine⟨_,rfl,⟨b+1, ?_,hbl⟩,by simp only[Ve];omega⟩;rw[Zbo,if_neg hab];unfold ZdE;rw[if_neg hfar,if_neg (fun h=>h14 h.2)];simp
       ·simp only[decide_eq_false hlt,cond_false,bind_some];refine⟨_,rfl,⟨b+1, ?_,hbl⟩,by simp only[Ve];omega⟩;rw[Zbo,if_neg hab];unfold ZdE;rw[if_neg hfar,if_neg (fun h=>hlt h.1)];simp
    ·have:b=n:=by omega
     subst this;simp only[show decide ((b:Int)< (b:Int))=false from decide_eq_false (by omega),cond_false];exact⟨_,rfl,(ZdK _ _ _).symm⟩
   ·rintro r rfl;exact⟨_,rfl,⟨a+1,rfl,hal⟩,by simp only[Ve];omega⟩
  ·have:a=n:=by omega
   subst this;simp only[show decide ((a:Int)< (a:Int))=false from decide_eq_false (by omega),cond_false];exact⟨_,rfl,rfl⟩
 obtain⟨z,h,rfl⟩:=key;exact h
theorem ZjU{n:Nat}(hn:n<=64){l:List ZdD}(hF:FOk n l)(hl:l.length<=4096): ∃c:List ZdD,F27 l (n:Int)=some c/\F84 l (n:Int)=some c/\c.length<=8192:=by obtain⟨z1,z2,hE1,hE2,h⟩:=Zjm hn hF hl;refine⟨_,ZjV hn hF hl (fun a b=>(ZlU hF a b).imp id fun h=>h.2), ?_,Zd8 (fun a b=>Ziz _ _ _ _) hn (Vga n)⟩;rw[h];congr 1;refine(Zk6 (Vga n) fun a b ha hb hab=> ?_).symm;exact ZoN (Zo2 hF hE1 ha hb hab) (Zo2 hF hE2 ha hb hab) (ZlU hF a b)
end Q
namespace Q
open Tr Go
open Option (bind_some)
def Zaq(n:Nat)(chk:Nat->Int):Option Nat:=(Vy n).find? fun i=>decide (chk i≠0)
theorem ZhK{n i:Nat}{chk:Nat->Int}(hi:i<n)(h: ∀j,j<i->chk j=0)(hb:chk i≠0):Zaq n chk=some i:=by unfold Zaq;rw[List.find?_eq_some_iff_getElem];refine⟨by simpa using hb,i,by simpa using hi,by simp,fun j hj=> ?_⟩;simp [h j hj]
theorem ZbG{n:Nat}{chk:Nat->Int}(h: ∀j,j<n->chk j=0):Zaq n chk=none:=by unfold Zaq;rw[Vab];intro x hx;simp [h x (by simpa using hx)]
theorem Za4{n:Nat}{chk:Nat->Int} :Zaq n chk=none↔ ∀j,j<n->chk j=0:=by refine⟨fun h j hj=> ?_,ZbG⟩;unfold Zaq at h;rw[Vab]at h;have:=h j (by simpa using hj);simpa using this
theorem Zbs{n i:Nat}{chk:Nat->Int}(h:Zaq n chk=some i):i<n/\chk i≠0:=by unfold Zaq at h;have h1:=List.find?_some h;have h2:=List.mem_of_find?_eq_some h;exact⟨by simpa using h2,by simpa using h1⟩
def pick{τ:Type}(n:Nat)(chk:Nat->Int)(R:Nat->τ)(E:τ):τ:=match Zaq n chk with
 |some i=>R i
 |none=>E
theorem Za3{σ τ:Type}{step:σ->Option (σ ⊕ τ)}{n:Nat}(St:Nat->σ->Prop)(chk:Nat->Int)(R:Nat->τ)(E:τ)
  (hok: ∀i s,i<n->St i s->chk i=0-> ∃s',step s=some (.inl s')/\St (i+1) s')
  (hbad: ∀i s,i<n->St i s->chk i≠0->step s=some (.inr (R i)))
  (hend: ∀s,St n s->step s=some (.inr E)): ∀s,St 0 s->run step s=some (pick n chk R E):=by
 have key: ∀ (k i:Nat) (s:σ),n - i=k->i<=n->St i s->(∀j,j<i->chk j=0)->run step s=some (pick n chk R E):=by
  intro k
  induction k with
  |zero=>
   intro i s hk hi hs hj;have:i=n:=by omega
   subst this;rw[Zb2 (hend s hs)];unfold pick
   rw[ZbG hj]
  |succ k ih=>
   intro i s hk hi hs hj;by_cases hc:chk i=0
   ·obtain⟨s',h1,h2⟩:=hok i s (by omega) hs hc;rw[ZdP h1];refine ih (i+1) s' (by omega) (by omega) h2 fun j hji=> ?_;by_cases hje:j=i
    ·subst hje;exact hc
    ·exact hj j (by omega)
   ·rw[Zb2 (hbad i s (by omega) hs hc)];unfold pick;rw[ZhK (by omega) hj hc]
 intro s hs;exact key n 0 s (by omega) (Vl _) hs fun j hj=>by omega
def Ze7{t:Ty}(key:Nat->El t)(i:Nat)(m:List (El t×Bool)):Prop:= ∀k,Vf (Zaw (Zai t) k m) false=true↔ ∃j,j<i/\key j=k
theorem Ze7.nil{t:Ty}(key:Nat->El t):Ze7 key 0 []:=fun k=>by simp [Zaw]
theorem Ze7.add{t:Ty}(hk:t.key=true){key:Nat->El t}{i:Nat}{m:List (El t×Bool)}(h:Ze7 key i m):Ze7 key (i+1) (ZaS (Zai t) (key i) true m):=by
 classical
 intro k;rw[Zcv hk];by_cases hki:k=key i
 ·rw[if_pos hki];simp only[Vm,true_iff];exact⟨i,by omega,hki.symm⟩
 ·rw[if_neg hki,h k];constructor
  ·rintro ⟨j,h1,h2⟩;exact⟨j,by omega,h2⟩
  ·rintro ⟨j,h1,h2⟩;by_cases hj:j=i
   ·subst hj;exact absurd h2.symm hki
   ·exact⟨j,by omega,h2⟩
theorem Zay{i n:Nat}(h:i<n)(hn:n<=9223372036854775807):Vc .i64 ((i:Int)+1)=((i+1:Nat):Int):=by rw[ZaA (by omega) (by omega)];omega
theorem ZaH{i n:Nat}(h:i<n):decide ((i:Int)< (n:Int))=true:=decide_eq_true (by omega)
theorem ZaW(n:Nat):decide ((n:Int)< (n:Int))=false:=decide_eq_false (by omega)
def okx(x:Int):Bool:=
 ((decide (97<=x) &&decide (x<=122)) || (decide (65<=x) &&decide (x<=90)) || (decide (48<=x) &&decide (x<=57))) || (decide (x=45) ||decide (x=95) ||decide (x=46))
def okc(c:UInt8):Bool:=okx (c.toNat:Int)
def Za0(s:List UInt8):Bool:=decide (1<=s.length/\s.length<=32) &&s.all okc
theorem ZqN(b:Bool)(x y:Bool): (bif b then some x else some y)=some (bif b then x else y):=by cases b<;>rfl
def Zl6(s:List UInt8)(i:Nat):Int:=if okc ((s[i]?).getD 0) then 0 else 1
theorem ZfL(s:List UInt8):Zaq s.length (Zl6 s)=none↔s.all okc=true:=by
 rw[Za4,List.all_eq_true];constructor
 ·intro h c hc;obtain⟨i,hi,rfl⟩:=Vo hc;have:=h i hi;unfold Zl6 at this;rw[Va hi]at this;simp only[Vm]at this;by_cases ho:okc s[i]=true
  ·exact ho
  ·rw[if_neg ho]at this;omega
 ·intro h i hi;unfold Zl6;rw[Va hi];simp only[Vm];rw[if_pos (h _ (Vi hi))]
theorem ZbV(s:List UInt8)(hs:s.length<=9223372036854775807):F40 s=some (Za0 s):=by
 unfold F40;rw[Za3 (n:=s.length) (fun i st=>st=(i:Int)) (Zl6 s) (fun _=> .inr false) (.inl ()) ?_ ?_ ?_ (0:Int) rfl]
 ·unfold pick;simp only[bind_some]
  cases hb:Zaq s.length (Zl6 s) with
  |none=>
   have ha:=(ZfL s).1 hb;simp only[Vj];unfold Za0;rw[ha,Bool.and_true];by_cases h1:0<s.length
   ·rw[decide_eq_true (show (0:Int)< (s.length:Int) by omega)];simp only[cond_true,bind_some];congr 1;exact decide_eq_decide.2 (by omega)
   ·rw[decide_eq_false (show¬ (0:Int)< (s.length:Int) by omega)];simp only[cond_false,bind_some]
    rw[decide_eq_false (by omega)]
  |some i=>
   simp only[Vdb]
   have ha:s.all okc=false:=by
    cases hc:s.all okc with
    |false=>rfl
    |true=>rw[(ZfL s).2 hc]at hb;cases hb
   unfold Za0;rw[ha,Bool.and_false]
 ·rintro i _ hi rfl hc;refine⟨_, ?_,rfl⟩
  have ho:okc s[i]=true:=by
   unfold Zl6 at hc;rw[Va hi]at hc;simp only[Vm]at hc;by_cases ho:okc s[i]=true
   ·exact ho
   ·rw[if_neg ho]at hc;omega
  simp only[ZaH hi,cond_true,Zam hi,bind_some,ZqN,Zay hi hs];unfold okc okx at ho;generalize decide ((97:Int)<=(s[i].toNat:Int))=a1 at ho ⊢;generalize decide ((s[i].toNat:Int)<=122)=a2 at ho ⊢;generalize decide ((65:Int)<=(s[i].toNat:Int))=b1 at ho ⊢;generalize decide ((s[i].toNat:Int)<=90)=b2 at ho ⊢;generalize decide ((48:Int)<=(s[i].toNat:Int))=c1 at ho ⊢;generalize decide ((s[i].toNat:Int)<=57)=c2 at ho ⊢;generalize decide ((s[i].toNat:Int)=45)=d1 at ho ⊢;generalize decide ((s[i].toNat:Int)=95)=d2 at ho ⊢;generalize decide ((s[i].toNat:Int)=46)=d3 at ho ⊢
  revert ho
  cases a1<;>cases a2<;>cases b1<;>cases b2<;>cases c1<;>cases c2<;>cases d1<;>cases d2<;>cases d3<;>first| (intro ho;rfl) | (intro ho;cases ho)
 ·rintro i _ hi rfl hc
  have ho:okc s[i]=false:=by
   unfold Zl6 at hc;rw[Va hi]at hc;simp only[Vm]at hc;by_cases ho:okc s[i]=true
   ·rw[if_pos ho]at hc;omega
   ·simpa using ho
  simp only[ZaH hi,cond_true,Zam hi,bind_some,ZqN,Zay hi hs];unfold okc okx at ho;generalize decide ((97:Int)<=(s[i].toNat:Int))=a1 at ho ⊢;generalize decide ((s[i].toNat:Int)<=122)=a2 at ho ⊢;generalize decide ((65:Int)<=(s[i].toNat:Int))=b1 at ho ⊢;generalize decide ((s[i].toNat:Int)<=90)=b2 at ho ⊢;generalize decide ((48:Int)<=(s[i].toNat:Int))=c1 at ho ⊢;generalize decide ((s[i].toNat:Int)<=57)=c2 at ho ⊢;generalize decide ((s[i].toNat:Int)=45)=d1 at ho ⊢;generalize decide ((s[i].toNat:Int)=95)=d2 at ho ⊢;generalize decide ((s[i].toNat:Int)=46)=d3 at ho ⊢
  revert ho
  cases a1<;>cases a2<;>cases b1<;>cases b2<;>cases c1<;>cases c2<;>cases d1<;>cases d2<;>cases d3<;>first| (intro ho;rfl) | (intro ho;cases ho)
 ·rintro _ rfl;simp only[ZaW,cond_false]
theorem ZbN(s:List UInt8):F88 s=some (Za0 s):=by
 unfold F88;by_cases h1:s.length<1
 ·rw[decide_eq_true (show (s.length:Int)<1 by omega)];simp only[cond_true,bind_some];unfold Za0;rw[decide_eq_false (by omega)];rfl
 ·rw[decide_eq_false (show¬ (s.length:Int)<1 by omega)];simp only[cond_false,bind_some];by_cases h2:32<s.length
  ·rw[decide_eq_true (show (32:Int)< (s.length:Int) by omega)];simp only[cond_true];unfold Za0;rw[decide_eq_false (by omega)];rfl
  ·rw[decide_eq_false (show¬ (32:Int)< (s.length:Int) by omega)];simp only[cond_false];have hs:s.length<=9223372036854775807:=by omega
   rw[Za3 (n:=s.length) (fun i st=>st=(i:Int)) (Zl6 s) (fun _=> .inr false) (.inl ()) ?_ ?_ ?_ (0:Int) rfl]
   ·unfold pick;simp only[bind_some];unfold Za0;rw[decide_eq_true (show 1<=s.length/\s.length<=32 by omega),Via]
    cases hb:Zaq s.length (Zl6 s) with
    |none=>rw[(ZfL s).1 hb];rfl
    |some i=>
     have ha:s.all okc=false:=by
      cases hc:s.all okc with
      |false=>rfl
      |true=>rw[(ZfL s).2 hc]at hb;cases hb
     rw[ha];rfl
   ·rintro i _ hi rfl hc;refine⟨_, ?_,rfl⟩
    have ho:okc s[i]=true:=by
     unfold Zl6 at hc;rw[Va hi]at hc;simp only[Vm]at hc;by_cases ho:okc s[i]=true
     ·exact ho
     ·rw[if_neg ho]at hc;omega
    simp only[ZaH hi,cond_true,Zam hi,bind_some,Zay hi hs];unfold okc okx at ho;generalize decide ((97:Int)<=(s[i].toNat:Int))=a1 at ho ⊢;generalize decide ((s[i].toNat:Int)<=122)=a2 at ho ⊢;generalize decide ((65:Int)<=(s[i].toNat:Int))=b1 at ho ⊢;generalize decide ((s[i].toNat:Int)<=90)=b2 at ho ⊢;generalize decide ((48:Int)<=(s[i].toNat:Int))=c1 at ho ⊢;generalize decide ((s[i].toNat:Int)<=57)=c2 at ho ⊢;generalize decide ((s[i].toNat:Int)=45)=d1 at ho ⊢;generalize decide ((s[i].toNat:Int)=95)=d2 at ho ⊢;generalize decide ((s[i].toNat:Int)=46)=d3 at ho ⊢
    revert ho
    cases a1<;>cases a2<;>cases b1<;>cases b2<;>cases c1<;>cases c2<;>cases d1<;>cases d2<;>cases d3<;>first| (intro ho;rfl) | (intro ho;cases ho)
   ·rintro i _ hi rfl hc
    have ho:okc s[i]=false:=by
     unfold Zl6 at hc;rw[Va hi]at hc;simp only[Vm]at hc;by_cases ho:okc s[i]=true
     ·rw[if_pos ho]at hc;omega
     ·simpa using ho
    simp only[ZaH hi,cond_true,Zam hi,bind_some,Zay hi hs];unfold okc okx at ho;generalize decide ((97:Int)<=(s[i].toNat:Int))=a1 at ho ⊢;generalize decide ((s[i].toNat:Int)<=122)=a2 at ho ⊢;generalize decide ((65:Int)<=(s[i].toNat:Int))=b1 at ho ⊢;generalize decide ((s[i].toNat:Int)<=90)=b2 at ho ⊢;generalize decide ((48:Int)<=(s[i].toNat:Int))=c1 at ho ⊢;generalize decide ((s[i].toNat:Int)<=57)=c2 at ho ⊢;generalize decide ((s[i].toNat:Int)=45)=d1 at ho ⊢;generalize decide ((s[i].toNat:Int)=95)=d2 at ho ⊢;generalize decide ((s[i].toNat:Int)=46)=d3 at ho ⊢
    revert ho
    cases a1<;>cases a2<;>cases b1<;>cases b2<;>cases c1<;>cases c2<;>cases d1<;>cases d2<;>cases d3<;>first| (intro ho;rfl) | (intro ho;cases ho)
   ·rintro _ rfl;simp only[ZaW,cond_false]
end Q
namespace Q
open Tr Go
open Option (bind_some)
open Classical in
noncomputable def Zeu(name dup num:Prop):Int:=if name then 12 else if dup then 6 else if num then 2 else 0
theorem Zcj{a b c:Prop} :Zeu a b c=0↔ ¬a/\ ¬b/\ ¬c:=by
 unfold Zeu;by_cases h1:a
 ·simp [h1]
 ·by_cases h2:b
  ·simp [h1,h2]
  ·by_cases h3:c
   ·simp [h1,h2,h3]
   ·simp [h1,h2,h3]
theorem Zci{a b c:Prop}(h:a):Zeu a b c=12:=by unfold Zeu;rw[if_pos h]
theorem Zc8{a b c:Prop}(h: ¬a)(h2:b):Zeu a b c=6:=by unfold Zeu;rw[if_neg h,if_pos h2]
theorem Zdg{a b c:Prop}(h: ¬a)(h2: ¬b)(h3:c):Zeu a b c=2:=by unfold Zeu;rw[if_neg h,if_neg h2,if_pos h3]
theorem Zch{a b c:Prop}(h: ¬a)(h2: ¬b)(h3: ¬c):Zeu a b c=0:=by unfold Zeu;rw[if_neg h,if_neg h2,if_neg h3]
theorem Zf8{τ:Type}{step:Int->Option (Int ⊕ τ)}{i:Nat}{p:Nat->Prop}{R E:τ}(hno: ∀j:Nat,j<i-> ¬p j->step (j:Int)=some (.inl ((j+1:Nat):Int)))(hyes: ∀j:Nat,j<i->p j->step (j:Int)=some (.inr R))
  (hend:step (i:Int)=some (.inr E)): ((∃j,j<i/\p j)->run step (0:Int)=some R)/\((¬ ∃j,j<i/\p j)->run step (0:Int)=some E):=by
 classical
 have key:=Za3 (n:=i) (step:=step) (fun j st=>st=(j:Int)) (fun j=>if p j then 1 else 0) (fun _=>R) E (fun j s hj hs hc=>by
  subst hs;refine⟨_,hno j hj fun hp=> ?_,rfl⟩
  rw[if_pos hp]at hc;omega) (fun j s hj hs hc=>by
  subst hs;refine hyes j hj ?_;by_cases hp:p j
  ·exact hp
  ·rw[if_neg hp]at hc;exact absurd rfl hc) (fun s hs=>by subst hs;exact hend) (0:Int) rfl
 constructor
 ·rintro ⟨j,hj,hp⟩;rw[key];unfold pick
  cases hb:Zaq i (fun j=>if p j then 1 else 0) with
  |some k=>rfl
  |none=>
   have:=Za4.1 hb j hj;simp only[if_pos hp]at this;omega
 ·intro hno';rw[key];unfold pick;rw[ZbG fun j hj=>if_neg fun hp=>hno' ⟨j,hj,hp⟩]
theorem ZcR(x a b:Int):F89 x a b=some (decide (a<=x/\x<=b)):=by
 unfold F89;by_cases h:a<=x
 ·rw[decide_eq_true h];simp only[cond_true,bind_some];exact congrArg some (decide_eq_decide.2 ⟨fun hb=>⟨h,hb⟩,fun hb=>hb.2⟩)
 ·rw[decide_eq_false h];simp only[cond_false,bind_some];rw[decide_eq_false (fun hb=>h hb.1)]
theorem Zfk(x a b:Int):F72 x a b=some (decide (a<=x/\x<=b)):=ZcR x a b
abbrev ZlM:=List UInt8×Int×Bool×Int×Unit
abbrev Ze5:=List UInt8×Int×Bool×Unit
noncomputable def Zfn(l:List ZlM)(i:Nat):Int:=
 let x:ZlM:=(l[i]?).getD ([],0,false,0,())
 Zeu (Za0 x.1=false) (∃j,j<i/\((l[j]?).getD ([],0,false,0,())).1=x.1) (x.2.1<0\/16<=x.2.1\/x.2.2.2.1<0\/3600<x.2.2.2.1)
noncomputable def Zf0(l:List ZlM):Int×Int:=if 64<l.length then(0,5) else pick l.length (Zfn l) (fun i=>((i:Int),Zfn l i)) (0,0)
theorem ZoL(l:List ZlM)(hg: ∀x∈l,x.1.length<=9223372036854775807):F113 l=some (Zf0 l):=by
 unfold F113 Zf0;by_cases h64:64<l.length
 ·rw[if_pos h64,decide_eq_true (show (64:Int)< (l.length:Int) by omega)];rfl
 ·rw[if_neg h64,decide_eq_false (show¬ (64:Int)< (l.length:Int) by omega)];simp only[cond_false];rw[Za3 (n:=l.length) (fun i st=> ∃m,st=(m,(i:Int))/\Ze7 (t:=Y9) (fun j=>((l[j]?).getD ([],0,false,0,())).1) i m) (Zfn l) (fun i=> .inr ((i:Int),Zfn l i)) (.inl ()) ?_ ?_ ?_ ([],(0:Int)) ⟨[],rfl,Ze7.nil _⟩]
  ·unfold pick
   cases Zaq l.length (Zfn l)<;>rfl
  ·rintro i _ hi ⟨m,rfl,hS⟩ hc;have hx: (l[i]?).getD ([],0,false,0,())=l[i]:=by rw[Va hi];rfl
   unfold Zfn at hc;simp only[hx]at hc;obtain⟨h1,h2,h3⟩:=Zcj.1 hc;have h1:Za0 (l[i]).1=true:=by simpa using h1
   have h2' :Vf (Zaw (Zai Y9) (l[i]).1 m) false=false:=by
    cases hb:Vf (Zaw (Zai Y9) (l[i]).1 m) false with
    |false=>rfl
    |true=>exact absurd ((hS _).1 hb) h2
   refine⟨(ZaS (Zai Y9) (l[i]).1 true m,((i+1:Nat):Int)), ?_,_,rfl, ?_⟩
   ·simp only[ZaH hi,cond_true,Zam hi,bind_some,ZbV _ (hg _ (Vi hi)),h1,Vd,cond_false,h2',Zay hi (show l.length<=9223372036854775807 by omega),
     show decide ((l[i]).2.1<0)=false from decide_eq_false (by omega),show decide ((16:Int)<=(l[i]).2.1)=false from decide_eq_false (by omega),show decide ((l[i]).2.2.2.1<0)=false from decide_eq_false (by omega),show decide ((3600:Int)< (l[i]).2.2.2.1)=false from decide_eq_false (by omega)]
   ·have:=Ze7.add (t:=Y9) rfl hS;simp only[hx]at this;exact this
  ·rintro i _ hi ⟨m,rfl,hS⟩ hc;have hx: (l[i]?).getD ([],0,false,0,())=l[i]:=by rw[Va hi];rfl
   simp only[ZaH hi,cond_true,Zam hi,bind_some,ZbV _ (hg _ (Vi hi))];unfold Zfn at hc ⊢;simp only[hx]at hc ⊢;by_cases h1:Za0 (l[i]).1=false
   ·rw[Zci h1,h1];rfl
   ·have h1' :Za0 (l[i]).1=true:=by simpa using h1
    simp only[h1',Vd,cond_false];by_cases h2: ∃j,j<i/\((l[j]?).getD ([],0,false,0,())).1=(l[i]).1
    ·rw[Zc8 (by simp) h2,(hS _).2 h2];rfl
    ·have h2' :Vf (Zaw (Zai Y9) (l[i]).1 m) false=false:=by
      cases hb:Vf (Zaw (Zai Y9) (l[i]).1 m) false with
      |false=>rfl
      |true=>exact absurd ((hS _).1 hb) h2
     simp only[h2',cond_false]
     have h3: (l[i]).2.1<0\/16<=(l[i]).2.1\/(l[i]).2.2.2.1<0\/3600< (l[i]).2.2.2.1:=by
      by_cases h3: (l[i]).2.1<0\/16<=(l[i]).2.1\/(l[i]).2.2.2.1<0\/3600< (l[i]).2.2.2.1
      ·exact h3
      ·exact absurd (Zch h1 h2 h3) hc
     rw[Zdg (by simp) h2 h3];by_cases e1: (l[i]).2.1<0
     ·rw[decide_eq_true e1];rfl
     ·rw[decide_eq_false e1];by_cases e2:16<=(l[i]).2.1
      ·rw[decide_eq_true e2];rfl
      ·rw[decide_eq_false e2];by_cases e3: (l[i]).2.2.2.1<0
       ·rw[decide_eq_true e3];rfl
       ·rw[decide_eq_false e3,decide_eq_true (show 3600< (l[i]).2.2.2.1 by omega)];rfl
  ·rintro _ ⟨m,rfl,_⟩;simp only[ZaW,cond_false]
theorem Zls       (l : List ZlM  ) : F95 l = some (Zf0   l) := by
  unfold F95 Zf0;by_cases h64 : 64 < l.length
  · rw [if_pos h64, decide_eq_true (show (64 : Int) < (l.length : Int) by omega)]; rfl
  · rw [if_neg h64, decide_eq_false (show ¬ (64 : Int) < (l.length : Int) by omega)]
    simp only [cond_false]
    have hdup : ∀ i (hi : i < l.length) (τ : Type) (R E : τ) (f : Int -> τ), f (i : Int) = R -> ((∃ j, j < i /\ ((l[j]?).getD ([], 0, false, 0, ())).1 = (l[i]).1) -> run (fun s3 : Int =>
              bif decide (s3 < (i : Int)) then
                Vb (idx l s3) fun x4 =>
                    bif decide (x4.fst = (l[i]).fst) then some (Sum.inr (f (i : Int))) else some (Sum.inl (Vc .i64 (s3 + (1 : Int))))
              else some (Sum.inr E)) (0 : Int) = some R) /\ ((¬ ∃ j, j < i /\ ((l[j]?).getD ([], 0, false, 0, ())).1 = (l[i]).1) -> run (fun s3 : Int =>
              bif decide (s3 < (i : Int)) then
                Vb (idx l s3) fun x4 =>
                    bif decide (x4.fst = (l[i]).fst) then some (Sum.inr (f (i : Int))) else some (Sum.inl (Vc .i64 (s3 + (1 : Int))))
              else some (Sum.inr E)) (0 : Int) = some E) := by
      intro i hi τ R E f hf;refine Zf8     (p := fun j => ((l[j]?).getD ([], 0, false, 0, ())).1 = (l[i]).1) (fun j hj hp => ?_) (fun j hj hp => ?_) ?_
      · have hjl : j < l.length := by omega
        have hx : (l[j]?).getD ([], 0, false, 0, ()) = l[j] := by rw [Va hjl]; rfl
        rw [hx]at hp;simp only [ZaH    hj, cond_true, Zam     hjl, bind_some, decide_eq_false hp, cond_false, Zay       hj (show i <= 9223372036854775807 by omega)]
      · have hjl : j < l.length := by omega
        have hx : (l[j]?).getD ([], 0, false, 0, ()) = l[j] := by rw [Va hjl]; rfl
        rw [hx]at hp;simp only [ZaH    hj, cond_true, Zam     hjl, bind_some, decide_eq_true hp, hf]
      · simp only [ZaW    , cond_false]
    rw [Za3      (n := l.length) (fun i st => st = (i : Int)) (Zfn   l) (fun i => .inr ((i : Int), Zfn   l i)) (.inl ()) ?_ ?_ ?_ (0 : Int) rfl]
    · unfold pick
      cases Zaq      l.length (Zfn   l) <;> rfl
    · rintro i _ hi rfl hc
      have hx : (l[i]?).getD ([], 0, false, 0, ()) = l[i] := by rw [Va hi]; rfl
      unfold Zfn   at hc;simp only [hx]at hc;obtain ⟨h1, h2, h3⟩ := Zcj.1 hc;have h1 : Za0    (l[i]).1 = true := by simpa using h1
      refine ⟨((i + 1 : Nat) : Int), ?_, rfl⟩;simp only [ZaH    hi, cond_true, Zam     hi, bind_some, ZbN       , h1, Vd, cond_false];rw [(hdup i hi _ _ (Sum.inl ()) (fun x => Sum.inr (x, (6 : Int))) rfl).2 h2];simp only [bind_some, Vj, ZcR   , decide_eq_true (show (0 : Int) <= (l[i]).2.1 /\ (l[i]).2.1 <= 15 by omega), Vd, cond_false, decide_eq_true (show (0 : Int) <= (l[i]).2.2.2.1 /\ (l[i]).2.2.2.1 <= 3600 by omega), Zay       hi (show l.length <= 9223372036854775807 by omega)]
    · rintro i _ hi rfl hc
      have hx : (l[i]?).getD ([], 0, false, 0, ()) = l[i] := by rw [Va hi]; rfl
      simp only [ZaH    hi, cond_true, Zam     hi, bind_some, ZbN       ];unfold Zfn   at hc ⊢;simp only [hx]at hc ⊢;by_cases h1 : Za0    (l[i]).1 = false
      · rw [Zci        h1, h1]; rfl
      · have h1' : Za0    (l[i]).1 = true := by simpa using h1
        simp only [h1', Vd, cond_false];by_cases h2 : ∃ j, j < i /\ ((l[j]?).getD ([], 0, false, 0, ())).1 = (l[i]).1
        · rw [Zc8       (by simp) h2, (hdup i hi _ _ (Sum.inl ()) (fun x => Sum.inr (x, (6 : Int))) rfl).1 h2]; rfl
        · rw [(hdup i hi _ _ (Sum.inl ()) (fun x => Sum.inr (x, (6 : Int))) rfl).2 h2]
          have h3 : (l[i]).2.1 < 0 \/ 16 <= (l[i]).2.1 \/ (l[i]).2.2.2.1 < 0 \/ 3600 < (l[i]).2.2.2.1 := by
            by_cases h3 : (l[i]).2.1 < 0 \/ 16 <= (l[i]).2.1 \/ (l[i]).2.2.2.1 < 0 \/ 3600 < (l[i]).2.2.2.1
            · exact h3
            · exact absurd (Zch        h1 h2 h3) hc
          rw [Zdg       (by simp) h2 h3];simp only [bind_some, Vj, ZcR   ];by_cases e1 : (0 : Int) <= (l[i]).2.1 /\ (l[i]).2.1 <= 15
          · rw [decide_eq_true e1, decide_eq_false (show ¬ ((0 : Int) <= (l[i]).2.2.2.1 /\ (l[i]).2.2.2.1 <= 3600) by omega)]; rfl
          · rw [decide_eq_false e1]; rfl
    · rintro _ rfl
      simp only [ZaW    , cond_false]
end Q
namespace Q
open Tr Go
open Option (bind_some)
theorem Zi8(x:Int):F100 x=some (decide (0<=x/\x<=7)):=by
 unfold F100;by_cases h:0<=x
 ·rw[decide_eq_true h];simp only[cond_true,bind_some];exact congrArg some (decide_eq_decide.2 ⟨fun hb=>⟨h,by have:x<8:=hb;omega⟩,fun hb=>by show x<8;omega⟩)
 ·rw[decide_eq_false h];simp only[cond_false,bind_some];rw[decide_eq_false (fun hb=>h hb.1)]
theorem Zc7      {α : Type}{l : List α}{nm : α -> List UInt8}{d : α}{i : Nat}(hi : i < l.length)(hl : l.length <= 9223372036854775807){y : List UInt8}{τ : Type}(R E : τ) :
    ((∃ j, j < i /\ nm ((l[j]?).getD d) = y) -> run (fun s3 : Int =>
              bif decide (s3 < (i : Int)) then
                Vb (idx l s3) fun x4 =>
                    bif decide (nm x4 = y) then some (Sum.inr R) else some (Sum.inl (Vc .i64 (s3 + (1 : Int))))
              else some (Sum.inr E)) (0 : Int) = some R) /\ ((¬ ∃ j, j < i /\ nm ((l[j]?).getD d) = y) -> run (fun s3 : Int =>
              bif decide (s3 < (i : Int)) then
                Vb (idx l s3) fun x4 =>
                    bif decide (nm x4 = y) then some (Sum.inr R) else some (Sum.inl (Vc .i64 (s3 + (1 : Int))))
              else some (Sum.inr E)) (0 : Int) = some E) := by
  refine Zf8     (p := fun j => nm ((l[j]?).getD d) = y) (fun j hj hp => ?_) (fun j hj hp => ?_) ?_
  · have hjl : j < l.length := by omega
    have hx : (l[j]?).getD d = l[j] := by rw [Va hjl]; rfl
    rw [hx]at hp;simp only [ZaH    hj, cond_true, Zam     hjl, bind_some, decide_eq_false hp, cond_false, Zay       hj (show i <= 9223372036854775807 by omega)]
  · have hjl : j < l.length := by omega
    have hx : (l[j]?).getD d = l[j] := by rw [Va hjl]; rfl
    rw [hx]at hp;simp only [ZaH    hj, cond_true, Zam     hjl, bind_some, decide_eq_true hp]
  · simp only [ZaW    , cond_false]
def r0:Ze5:=([],0,false,())
noncomputable def Zc5(l:List Ze5)(i:Nat):Int:=
 Zeu (Za0 ((l[i]?).getD r0).1=false) (∃j,j<i/\((l[j]?).getD r0).1=((l[i]?).getD r0).1) (¬ (0<=((l[i]?).getD r0).2.1/\((l[i]?).getD r0).2.1<=7))
noncomputable def Zeo(l:List Ze5):Int×Int:=if 64<l.length then(0,5) else pick l.length (Zc5 l) (fun i=>((i:Int),Zc5 l i)) (0,0)
theorem ZaB{α:Type}{l:List α}{i:Nat}(h:i<l.length)(d:α): (l[i]?).getD d=l[i]:=by rw[Va h];rfl
theorem Ze3{t:Ty}{key:Nat->El t}{i:Nat}{m:List (El t×Bool)}(h:Ze7 key i m){k:El t}(hn: ¬ ∃j,j<i/\key j=k):Vf (Zaw (Zai t) k m) false=false:=by
 cases hb:Vf (Zaw (Zai t) k m) false with
 |false=>rfl
 |true=>exact absurd ((h k).1 hb) hn
theorem Zml(l:List Ze5)(hg: ∀x∈l,x.1.length<=9223372036854775807):F99 l=some (Zeo l):=by
 unfold F99 Zeo;by_cases h64:64<l.length
 ·rw[if_pos h64,decide_eq_true (show (64:Int)< (l.length:Int) by omega)];rfl
 ·rw[if_neg h64,decide_eq_false (show¬ (64:Int)< (l.length:Int) by omega)];simp only[cond_false];rw[Za3 (n:=l.length) (fun i st=> ∃m,st=(m,(i:Int))/\Ze7 (t:=Y9) (fun j=>((l[j]?).getD r0).1) i m) (Zc5 l) (fun i=> .inr ((i:Int),Zc5 l i)) (.inl ()) ?_ ?_ ?_ ([],(0:Int)) ⟨[],rfl,Ze7.nil _⟩]
  ·unfold pick
   cases Zaq l.length (Zc5 l)<;>rfl
  ·rintro i _ hi ⟨m,rfl,hS⟩ hc;have hx:=ZaB hi r0;unfold Zc5 at hc;rw[hx]at hc;obtain⟨h1,h2,h3⟩:=Zcj.1 hc;have h1:Za0 (l[i]).1=true:=by simpa using h1
   have h2' :=Ze3 hS h2;have h3:0<=(l[i]).2.1/\(l[i]).2.1<=7:=by omega
   refine⟨(ZaS (Zai Y9) (l[i]).1 true m,((i+1:Nat):Int)), ?_,_,rfl, ?_⟩
   ·simp only[ZaH hi,cond_true,Zam hi,bind_some,ZbV _ (hg _ (Vi hi)),h1,Vd,cond_false,h2',Zay hi (show l.length<=9223372036854775807 by omega),Zi8,decide_eq_true h3]
   ·have:=Ze7.add (t:=Y9) rfl hS;simp only[hx]at this;exact this
  ·rintro i _ hi ⟨m,rfl,hS⟩ hc;have hx:=ZaB hi r0;simp only[ZaH hi,cond_true,Zam hi,bind_some,ZbV _ (hg _ (Vi hi))];unfold Zc5 at hc ⊢;rw[hx]at hc;simp only[hx];by_cases h1:Za0 (l[i]).1=false
   ·rw[Zci h1,h1];rfl
   ·have h1' :Za0 (l[i]).1=true:=by simpa using h1
    simp only[h1',Vd,cond_false];by_cases h2: ∃j,j<i/\((l[j]?).getD r0).1=(l[i]).1
    ·rw[Zc8 (by simp) h2,(hS _).2 h2];rfl
    ·simp only[Ze3 hS h2,cond_false];have h3: ¬ (0<=(l[i]).2.1/\(l[i]).2.1<=7):=fun h3=>hc (Zch h1 h2 (fun h=>h h3));rw[Zdg (by simp) h2 h3,Zi8,decide_eq_false h3];rfl
  ·rintro _ ⟨m,rfl,_⟩;simp only[ZaW,cond_false]
theorem Zju(l:List Ze5):F93 l=some (Zeo l):=by
 unfold F93 Zeo;by_cases h64:64<l.length
 ·rw[if_pos h64,decide_eq_true (show (64:Int)< (l.length:Int) by omega)];rfl
 ·rw[if_neg h64,decide_eq_false (show¬ (64:Int)< (l.length:Int) by omega)];simp only[cond_false];have hl:l.length<=9223372036854775807:=by omega
  rw[Za3 (n:=l.length) (fun i st=>st=(i:Int)) (Zc5 l) (fun i=> .inr ((i:Int),Zc5 l i)) (.inl ()) ?_ ?_ ?_ (0:Int) rfl]
  ·unfold pick
   cases Zaq l.length (Zc5 l)<;>rfl
  ·rintro i _ hi rfl hc;have hx:=ZaB hi r0;unfold Zc5 at hc;rw[hx]at hc;obtain⟨h1,h2,h3⟩:=Zcj.1 hc;have h1:Za0 (l[i]).1=true:=by simpa using h1
   have h3:0<=(l[i]).2.1/\(l[i]).2.1<=7:=by omega
   refine⟨((i+1:Nat):Int), ?_,rfl⟩;simp only[ZaH hi,cond_true,Zam hi,bind_some,ZbN,h1,Vd,cond_false];rw[(Zc7 (nm:=fun x:Ze5=>x.1) (d:=r0) hi hl (y:=(l[i]).1) _ _).2 h2];simp only[bind_some,Vj,ZcR,decide_eq_true h3,Vd,cond_false,Zay hi hl]
  ·rintro i _ hi rfl hc;have hx:=ZaB hi r0;simp only[ZaH hi,cond_true,Zam hi,bind_some,ZbN];unfold Zc5 at hc ⊢;rw[hx]at hc;simp only[hx];by_cases h1:Za0 (l[i]).1=false
   ·rw[Zci h1,h1];rfl
   ·have h1' :Za0 (l[i]).1=true:=by simpa using h1
    simp only[h1',Vd,cond_false];by_cases h2: ∃j,j<i/\((l[j]?).getD r0).1=(l[i]).1
    ·rw[Zc8 (by simp) h2,(Zc7 (nm:=fun x:Ze5=>x.1) (d:=r0) hi hl (y:=(l[i]).1) _ _).1 h2];rfl
    ·rw[(Zc7 (nm:=fun x:Ze5=>x.1) (d:=r0) hi hl (y:=(l[i]).1) _ _).2 h2];have h3: ¬ (0<=(l[i]).2.1/\(l[i]).2.1<=7):=fun h3=>hc (Zch h1 h2 (fun h=>h h3));rw[Zdg (by simp) h2 h3];simp only[bind_some,Vj,ZcR,decide_eq_false h3];rfl
  ·rintro _ rfl;simp only[ZaW,cond_false]
abbrev Zjb:=List UInt8×Int×Int×Int×Int×Int×Unit
abbrev Zhc:=List Zjb×Int×Int×Int×Unit
def p0:Zjb:=([],0,0,0,0,0,())
def ZhV(x:Zjb):Bool:=decide (0<=x.2.1/\x.2.1<=1000000) && (decide (1<=x.2.2.1/\x.2.2.1<=8) && (decide (1<=x.2.2.2.1/\x.2.2.2.1<=16) && (decide (0<=x.2.2.2.2.1/\x.2.2.2.2.1<=86400) &&decide (1<=x.2.2.2.2.2.1/\x.2.2.2.2.2.1<=255))))
noncomputable def ZfE(l:List Zjb)(i:Nat):Int:=
 Zeu (Za0 ((l[i]?).getD p0).1=false) (∃j,j<i/\((l[j]?).getD p0).1=((l[i]?).getD p0).1) (ZhV ((l[i]?).getD p0)=false)
def ZnL(f:Zhc):Bool:=decide (0<=f.2.1/\f.2.1<=1000000) && (decide (0<=f.2.2.1/\f.2.2.1<=86400) &&decide (0<=f.2.2.2.1/\f.2.2.2.1<=1000000))
noncomputable def ZgK(f:Zhc):Int×Int:=
 if ZnL f=false then(-1,2) else if 16<f.1.length then(0,5) else pick f.1.length (ZfE f.1) (fun i=>((i:Int),ZfE f.1 i)) (0,0)
theorem Zqn{w:Int->Int->Int->Option Bool}(hw: ∀x a b,w x a b=some (decide (a<=x/\x<=b)))(f:Zhc):
  (Vb (w f.2.1 0 1000000) fun x0=>bif !x0 then some true else Vb (w f.2.2.1 0 86400) fun x1=>bif !x1 then some true else Vb (w f.2.2.2.1 0 1000000) fun x2=>some !x2)=some (!ZnL f):=by
 unfold ZnL;simp only[hw,bind_some];generalize decide (0<=f.2.1/\f.2.1<=1000000)=p;generalize decide (0<=f.2.2.1/\f.2.2.1<=86400)=q;generalize decide (0<=f.2.2.2.1/\f.2.2.2.1<=1000000)=r
 cases p<;>cases q<;>cases r<;>rfl
theorem Zq6{w:Int->Int->Int->Option Bool}(hw: ∀x a b,w x a b=some (decide (a<=x/\x<=b)))(x:Zjb):
  (Vb (w x.2.1 0 1000000) fun x0=>bif !x0 then some true else Vb (w x.2.2.1 1 8) fun x1=>bif !x1 then some true else Vb (w x.2.2.2.1 1 16) fun x2=>bif !x2 then some true else
   Vb (w x.2.2.2.2.1 0 86400) fun x3=>bif !x3 then some true else Vb (w x.2.2.2.2.2.1 1 255) fun x4=>some !x4)=some (!ZhV x):=by
 unfold ZhV;simp only[hw,bind_some];generalize decide (0<=x.2.1/\x.2.1<=1000000)=p;generalize decide (1<=x.2.2.1/\x.2.2.1<=8)=q;generalize decide (1<=x.2.2.2.1/\x.2.2.2.1<=16)=r;generalize decide (0<=x.2.2.2.2.1/\x.2.2.2.2.1<=86400)=s;generalize decide (1<=x.2.2.2.2.2.1/\x.2.2.2.2.2.1<=255)=t
 cases p<;>cases q<;>cases r<;>cases s<;>cases t<;>rfl
theorem Zn3(f:Zhc)(hg: ∀x∈f.1,x.1.length<=9223372036854775807):F68 f=some (ZgK f):=by
 unfold F68 ZgK;rw[Zqn (w:=F72) Zfk f];simp only[bind_some]
 cases hr:ZnL f with
 |true=>
  rw[if_neg (by simp)];simp only[Vd,cond_false];by_cases h16:16<f.1.length
  ·rw[if_pos h16,decide_eq_true (show (16:Int)< (f.1.length:Int) by omega)];rfl
  ·rw[if_neg h16,decide_eq_false (show¬ (16:Int)< (f.1.length:Int) by omega)];simp only[cond_false];rw[Za3 (n:=f.1.length) (fun i st=> ∃m,st=(m,(i:Int))/\Ze7 (t:=Y9) (fun j=>((f.1[j]?).getD p0).1) i m) (ZfE f.1) (fun i=> .inr ((i:Int),ZfE f.1 i)) (.inl ()) ?_ ?_ ?_ ([],(0:Int)) ⟨[],rfl,Ze7.nil _⟩]
   ·unfold pick
    cases Zaq f.1.length (ZfE f.1)<;>rfl
   ·rintro i _ hi ⟨m,rfl,hS⟩ hc;have hx:=ZaB hi p0;unfold ZfE at hc;rw[hx]at hc;obtain⟨h1,h2,h3⟩:=Zcj.1 hc;have h1:Za0 (f.1[i]).1=true:=by simpa using h1
    have h2' :=Ze3 hS h2;have h3:ZhV f.1[i]=true:=by simpa using h3
    refine⟨(ZaS (Zai Y9) (f.1[i]).1 true m,((i+1:Nat):Int)), ?_,_,rfl, ?_⟩
    ·simp only[ZaH hi,cond_true,Zam hi,bind_some,ZbV _ (hg _ (Vi hi)),h1,Vd,cond_false,h2',Zay hi (show f.1.length<=9223372036854775807 by omega)];rw[Zq6 (w:=F72) Zfk,h3];rfl
    ·have:=Ze7.add (t:=Y9) rfl hS;simp only[hx]at this;exact this
   ·rintro i _ hi ⟨m,rfl,hS⟩ hc;have hx:=ZaB hi p0;simp only[ZaH hi,cond_true,Zam hi,bind_some,ZbV _ (hg _ (Vi hi))];unfold ZfE at hc ⊢;rw[hx]at hc;simp only[hx];by_cases h1:Za0 (f.1[i]).1=false
    ·rw[Zci h1,h1];rfl
    ·have h1' :Za0 (f.1[i]).1=true:=by simpa using h1
     simp only[h1',Vd,cond_false];by_cases h2: ∃j,j<i/\((f.1[j]?).getD p0).1=(f.1[i]).1
     ·rw[Zc8 (by simp) h2,(hS _).2 h2];rfl
     ·simp only[Ze3 hS h2,cond_false]
      have h3:ZhV f.1[i]=false:=by
       cases hb:ZhV f.1[i] with
       |false=>rfl
       |true=>exact absurd (Zch h1 h2 (by rw[hb];simp)) hc
      rw[Zdg (by simp) h2 h3,Zq6 (w:=F72) Zfk,h3];rfl
   ·rintro _ ⟨m,rfl,_⟩
    simp only[ZaW,cond_false]
 |false=>rw[if_pos rfl];rfl
theorem Zle(f:Zhc):F85 f=some (ZgK f):=by
 unfold F85 ZgK;rw[Zqn (w:=F89) ZcR f];simp only[bind_some]
 cases hr:ZnL f with
 |true=>
  rw[if_neg (by simp)];simp only[Vd,cond_false];by_cases h16:16<f.1.length
  ·rw[if_pos h16,decide_eq_true (show (16:Int)< (f.1.length:Int) by omega)];rfl
  ·rw[if_neg h16,decide_eq_false (show¬ (16:Int)< (f.1.length:Int) by omega)];simp only[cond_false];have hl:f.1.length<=9223372036854775807:=by omega
   rw[Za3 (n:=f.1.length) (fun i st=>st=(i:Int)) (ZfE f.1) (fun i=> .inr ((i:Int),ZfE f.1 i)) (.inl ()) ?_ ?_ ?_ (0:Int) rfl]
   ·unfold pick
    cases Zaq f.1.length (ZfE f.1)<;>rfl
   ·rintro i _ hi rfl hc;have hx:=ZaB hi p0;unfold ZfE at hc;rw[hx]at hc;obtain⟨h1,h2,h3⟩:=Zcj.1 hc;have h1:Za0 (f.1[i]).1=true:=by simpa using h1
    have h3:ZhV f.1[i]=true:=by simpa using h3
    refine⟨((i+1:Nat):Int), ?_,rfl⟩;simp only[ZaH hi,cond_true,Zam hi,bind_some,ZbN,h1,Vd,cond_false];rw[(Zc7 (nm:=fun x:Zjb=>x.1) (d:=p0) hi hl (y:=(f.1[i]).1) _ _).2 h2];simp only[bind_some,Vj];rw[Zq6 (w:=F89) ZcR,h3];simp only[Vd,bind_some,cond_false,Zay hi hl]
   ·rintro i _ hi rfl hc;have hx:=ZaB hi p0;simp only[ZaH hi,cond_true,Zam hi,bind_some,ZbN];unfold ZfE at hc ⊢;rw[hx]at hc;simp only[hx];by_cases h1:Za0 (f.1[i]).1=false
    ·rw[Zci h1,h1];rfl
    ·have h1' :Za0 (f.1[i]).1=true:=by simpa using h1
     simp only[h1',Vd,cond_false];by_cases h2: ∃j,j<i/\((f.1[j]?).getD p0).1=(f.1[i]).1
     ·rw[Zc8 (by simp) h2,(Zc7 (nm:=fun x:Zjb=>x.1) (d:=p0) hi hl (y:=(f.1[i]).1) _ _).1 h2];rfl
     ·rw[(Zc7 (nm:=fun x:Zjb=>x.1) (d:=p0) hi hl (y:=(f.1[i]).1) _ _).2 h2]
      have h3:ZhV f.1[i]=false:=by
       cases hb:ZhV f.1[i] with
       |false=>rfl
       |true=>exact absurd (Zch h1 h2 (by rw[hb];simp)) hc
      rw[Zdg (by simp) h2 h3];simp only[bind_some,Vj];rw[Zq6 (w:=F89) ZcR,h3];rfl
   ·rintro _ rfl
    simp only[ZaW,cond_false]
 |false=>rw[if_pos rfl];rfl
end Q
namespace Q
open Tr Go
open Option (bind_some)
abbrev Zee:=Int×Int×Int×Bool×Bool×Unit
def c0:Zee:=(0,0,0,false,false,())
def Zks(l:List Zee)(i:Nat)(n:Int):Bool:=decide (((l[i]?).getD c0).1<0) ||decide (n<=((l[i]?).getD c0).1)
def ZkO(l:List Zee)(i:Nat):Bool:=decide (0<i) &&decide (((l[i - 1]?).getD c0).1=((l[i]?).getD c0).1)
def ZkT(l:List Zee)(i:Nat)(lo hi:Int):Bool:=decide (((l[i]?).getD c0).2.1<lo) || (decide (((l[i]?).getD c0).2.2.1< ((l[i]?).getD c0).2.1) || (decide (hi< ((l[i]?).getD c0).2.2.1) || (decide (0<i) &&decide (((l[i]?).getD c0).2.1< ((l[i - 1]?).getD c0).2.2.1))))
def Zhx(l:List Zee)(n lo hi:Int)(i:Nat):Int:=if Zks l i n then 9 else if ZkO l i then 13 else if ZkT l i lo hi then 10 else 0
theorem Zrv(i:Nat):decide ((0:Int)< (i:Int))=decide (0<i):=decide_eq_decide.2 (by omega)
theorem ZkL{l:List Zee}{i:Nat}(hi:i<l.length)(hl:l.length<=9223372036854775807)(h0:0<i):idx l (Vc .i64 ((i:Int) - 1))=some ((l[i - 1]?).getD c0):=by
 have e:Vc .i64 ((i:Int) - 1)=((i - 1:Nat):Int):=by rw[ZaA (by omega) (by omega)];omega
 rw[e,Zam (show i - 1<l.length by omega),ZaB (show i - 1<l.length by omega)]
theorem ZnA{l:List Zee}{i:Nat}(hi:i<l.length)(hl:l.length<=9223372036854775807)(n lo hi' :Int):F7 l (i:Int) n lo hi' =some (Zhx l n lo hi' i):=by
 unfold F7 Zhx Zks ZkO ZkT;rw[ZaB hi,Zam hi];simp only[bind_some,Zrv];by_cases h0:0<i
 ·simp only[ZkL hi hl h0,bind_some,decide_eq_true h0,cond_true,Via];generalize decide ((l[i]).1<0)=a1;generalize decide (n<=(l[i]).1)=a2;generalize decide (((l[i - 1]?).getD c0).1=(l[i]).1)=a3;generalize decide ((l[i]).2.1<lo)=a4;generalize decide ((l[i]).2.2.1< (l[i]).2.1)=a5;generalize decide (hi' < (l[i]).2.2.1)=a6;generalize decide ((l[i]).2.1< ((l[i - 1]?).getD c0).2.2.1)=a7
  cases a1<;>cases a2<;>cases a3<;>cases a4<;>cases a5<;>cases a6<;>cases a7<;>rfl
 ·simp only[decide_eq_false h0,cond_false,Vsb,bind_some];generalize decide ((l[i]).1<0)=a1;generalize decide (n<=(l[i]).1)=a2;generalize decide ((l[i]).2.1<lo)=a4;generalize decide ((l[i]).2.2.1< (l[i]).2.1)=a5;generalize decide (hi' < (l[i]).2.2.1)=a6
  cases a1<;>cases a2<;>cases a4<;>cases a5<;>cases a6<;>rfl
noncomputable def ZeS(l:List Zee)(n lo hi:Int):Int:=if l.length<2\/32<l.length then 5 else pick l.length (Zhx l n lo hi) (Zhx l n lo hi) 0
theorem ZkW(l:List Zee)(n lo hi:Int): ∃i,F6 l n lo hi=some (i,ZeS l n lo hi):=by
 unfold F6 ZeS;by_cases h1:l.length<2
 ·rw[decide_eq_true (show (l.length:Int)<2 by omega),if_pos (.inl h1)];exact⟨_,rfl⟩
 ·rw[decide_eq_false (show¬ (l.length:Int)<2 by omega)];by_cases h2:32<l.length
  ·rw[if_pos (.inr h2)];simp only[cond_false,bind_some,decide_eq_true (show (32:Int)< (l.length:Int) by omega),cond_true];exact⟨_,rfl⟩
  ·rw[if_neg (by omega)];simp only[cond_false,bind_some,decide_eq_false (show¬ (32:Int)< (l.length:Int) by omega)];have hl:l.length<=9223372036854775807:=by omega
   rw[Za3 (n:=l.length) (fun i st=>st=(i:Int)) (Zhx l n lo hi) (fun i=> .inr ((i:Int),Zhx l n lo hi i)) (.inl ()) ?_ ?_ ?_ (0:Int) rfl]
   ·unfold pick
    cases Zaq l.length (Zhx l n lo hi)<;>exact⟨_,rfl⟩
   ·rintro i _ hil rfl hc;refine⟨((i+1:Nat):Int), ?_,rfl⟩;simp only[ZaH hil,cond_true,ZnA hil hl,bind_some,hc,decide_true,Vd,cond_false,Zay hil hl]
   ·rintro i _ hil rfl hc;simp only[ZaH hil,cond_true,ZnA hil hl,bind_some,decide_eq_false hc,Vg]
   ·rintro _ rfl;simp only[ZaW,cond_false]
theorem Zlp       (l : List Zee  )(n lo hi : Int) : F82 l n lo hi = some (ZeS   l n lo hi) := by
  unfold F82 ZeS;by_cases h1 : l.length < 2
  · rw [decide_eq_true (show (l.length : Int) < 2 by omega), if_pos (.inl h1)]; rfl
  · rw [decide_eq_false (show ¬ (l.length : Int) < 2 by omega)]
    by_cases h2 : 32 < l.length
    · rw [if_pos (.inr h2)]
      simp only [cond_false, bind_some, decide_eq_true (show (32 : Int) < (l.length : Int) by omega), cond_true]
    · rw [if_neg (by omega)]
      simp only [cond_false, bind_some, decide_eq_false (show ¬ (32 : Int) < (l.length : Int) by omega)];have hl : l.length <= 9223372036854775807 := by omega
      have step : ∀ i (hil : i < l.length), (bif decide ((i : Int) < (↑(Vq l) : Int)) then
              Vb (idx l (i : Int)) fun x2 =>
                Vb (bif decide (x2.fst < (0 : Int)) then some true else some (decide (n <= x2.fst))) fun x3 =>
                  bif x3 then some (Sum.inr (Sum.inr (9 : Int)))
                  else
                    Vb
                      (bif decide ((0 : Int) < (i : Int)) then Vb (idx l (Vc .i64 ((i : Int) - (1 : Int)))) fun x4 => some (decide (x4.fst = x2.fst))
                      else some false)
                      fun x5 =>
                      bif x5 then some (Sum.inr (Sum.inr (13 : Int)))
                      else
                        Vb
                          (bif decide (x2.snd.fst < lo) then some true
                          else
                            bif decide (x2.snd.snd.fst < x2.snd.fst) then some true
                            else
                              bif decide (hi < x2.snd.snd.fst) then some true
                              else
                                bif decide ((0 : Int) < (i : Int)) then
                                  Vb (idx l (Vc .i64 ((i : Int) - (1 : Int)))) fun x6 => some (decide (x2.snd.fst < x6.snd.snd.fst))
                                else some false)
                          fun x7 => bif x7 then some (Sum.inr (Sum.inr (10 : Int))) else some (Sum.inl (Vc .i64 ((i : Int) + (1 : Int))))
            else some (Sum.inr (Sum.inl ()))) = (if Zhx  l n lo hi i = 0 then some (Sum.inl ((i + 1 : Nat) : Int)) else some (Sum.inr (Sum.inr (Zhx  l n lo hi i))) : Option (Int ⊕ (Unit ⊕ Int))) := by
        intro i hil;simp only [ZaH    hil, cond_true, Zam     hil, bind_some, Zrv , Zay       hil hl];unfold Zhx  Zks    ZkO    ZkT;rw [ZaB     hil];by_cases h0 : 0 < i
        · simp only [ZkL      hil hl h0, bind_some, decide_eq_true h0, cond_true, Via]
          generalize decide ((l[i]).1 < 0) = a1;generalize decide (n <= (l[i]).1) = a2;generalize decide (((l[i - 1]?).getD c0).1 = (l[i]).1) = a3;generalize decide ((l[i]).2.1 < lo) = a4;generalize decide ((l[i]).2.2.1 < (l[i]).2.1) = a5;generalize decide (hi < (l[i]).2.2.1) = a6;generalize decide ((l[i]).2.1 < ((l[i - 1]?).getD c0).2.2.1) = a7
          cases a1 <;> cases a2 <;> cases a3 <;> cases a4 <;> cases a5 <;> cases a6 <;> cases a7 <;> rfl
        · simp only [decide_eq_false h0, cond_false, Vsb, bind_some]
          generalize decide ((l[i]).1 < 0) = a1;generalize decide (n <= (l[i]).1) = a2;generalize decide ((l[i]).2.1 < lo) = a4;generalize decide ((l[i]).2.2.1 < (l[i]).2.1) = a5;generalize decide (hi < (l[i]).2.2.1) = a6
          cases a1 <;> cases a2 <;> cases a4 <;> cases a5 <;> cases a6 <;> rfl
      rw [Za3      (n := l.length) (fun i st => st = (i : Int)) (Zhx  l n lo hi) (fun i => .inr (Zhx  l n lo hi i)) (.inl ()) ?_ ?_ ?_ (0 : Int) rfl]
      · unfold pick
        cases Zaq      l.length (Zhx  l n lo hi) <;> rfl
      · rintro i _ hil rfl hc
        refine ⟨((i + 1 : Nat) : Int), ?_, rfl⟩;have := step i hil;rw [if_pos hc]at this;exact this
      · rintro i _ hil rfl hc
        have := step i hil;rw [if_neg hc]at this;exact this
      · rintro _ rfl
        simp only [ZaW    , cond_false]
abbrev Zq7:=Int×Int×Int×List UInt8×Int×Bool×Bool×List Zee×Unit
abbrev Zlj:=Int×Int×Int×Int×Bool×Unit
abbrev Zdt:=List ZlM×List Ze5×List Zq7×List Zlj×List ZdD×Zhc×Unit
def u0:Zq7:=(0,0,0,[],0,false,false,[],())
abbrev ZrE:=List UInt8×Int×Int×Unit
def runK(x:Zq7):ZrE:=(x.2.2.2.1,x.2.1,x.2.2.1,())
open Classical in
noncomputable def Zji(n:Zdt)(i:Nat):Int:=
 let x:=(n.2.2.1[i]?).getD u0
 if Za0 x.2.2.2.1=false then 12 else if (decide (x.1< -1) ||decide (x.2.2.1<0))=true then 2 else if (decide (x.2.1<0) ||decide (36524<x.2.1))=true then 11
 else if (decide (x.2.2.2.2.1<0) ||decide ((n.2.1.length:Int)<=x.2.2.2.2.1))=true then 9
 else if ZeS x.2.2.2.2.2.2.2.1 (n.1.length:Int) 0 3155932800≠0 then ZeS x.2.2.2.2.2.2.2.1 (n.1.length:Int) 0 3155932800
 else if∃j,j<i/\runK ((n.2.2.1[j]?).getD u0)=runK x then 6 else 0
noncomputable def Zoh(n:Zdt):Int×Int×Int×Unit:=if 1024<n.2.2.1.length then(2,0,5,()) else pick n.2.2.1.length (Zji n) (fun i=>(2,(i:Int),Zji n i,())) (0,0,0,())
theorem ZoB(n:Zdt)(hg: ∀x∈n.2.2.1,x.2.2.2.1.length<=9223372036854775807):F55 n=some (Zoh n):=by
 unfold F55 Zoh F65;by_cases h1:1024<n.2.2.1.length
 ·rw[if_pos h1,decide_eq_true (show (1024:Int)< (n.2.2.1.length:Int) by omega)];rfl
 ·rw[if_neg h1,decide_eq_false (show¬ (1024:Int)< (n.2.2.1.length:Int) by omega)];simp only[cond_false];have hl:n.2.2.1.length<=9223372036854775807:=by omega
  rw[Za3 (n:=n.2.2.1.length) (fun i st=> ∃m,st=((0,0,0,()),m,(i:Int))/\Ze7 (t:=ZnU) (fun j=>runK ((n.2.2.1[j]?).getD u0)) i m) (Zji n) (fun i=> .inr (2,(i:Int),Zji n i,())) (.inl (0,0,0,())) ?_ ?_ ?_ _ ⟨[],rfl,Ze7.nil _⟩]
  ·unfold pick
   cases Zaq n.2.2.1.length (Zji n)<;>rfl
  ·rintro i _ hi ⟨m,rfl,hS⟩ hc;have hx:=ZaB hi u0;unfold Zji at hc;simp only[hx]at hc;obtain⟨ci,hcv⟩:=ZkW (n.2.2.1[i]).2.2.2.2.2.2.2.1 (n.1.length:Int) 0 3155932800;by_cases b1:Za0 (n.2.2.1[i]).2.2.2.1=false
   ·rw[if_pos b1]at hc;simp at hc
   rw[if_neg b1]at hc;by_cases b2: (decide ((n.2.2.1[i]).1< -1) ||decide ((n.2.2.1[i]).2.2.1<0))=true
   ·rw[if_pos b2]at hc;simp at hc
   rw[if_neg b2]at hc;by_cases b3: (decide ((n.2.2.1[i]).2.1<0) ||decide (36524< (n.2.2.1[i]).2.1))=true
   ·rw[if_pos b3]at hc;simp at hc
   rw[if_neg b3]at hc;by_cases b4: (decide ((n.2.2.1[i]).2.2.2.2.1<0) ||decide ((n.2.1.length:Int)<=(n.2.2.1[i]).2.2.2.2.1))=true
   ·rw[if_pos b4]at hc;simp at hc
   rw[if_neg b4]at hc;by_cases b5:ZeS (n.2.2.1[i]).2.2.2.2.2.2.2.1 (n.1.length:Int) 0 3155932800=0
   ·rw[if_neg (fun h=>h b5)]at hc;by_cases b6: ∃j,j<i/\runK ((n.2.2.1[j]?).getD u0)=runK n.2.2.1[i]
    ·rw[if_pos b6]at hc;simp at hc
    ·have b1' :Za0 (n.2.2.1[i]).2.2.2.1=true:=by simpa using b1
     have hu:=Ze3 hS b6;refine⟨((0,0,0,()),ZaS (Zai ZnU) (runK n.2.2.1[i]) true m,((i+1:Nat):Int)), ?_,_,rfl, ?_⟩
     ·simp only[ZaH hi,cond_true,Zam hi,bind_some,ZbV _ (hg _ (Vi hi)),b1',Vd,cond_false,hcv,b5,decide_true,Zay hi hl];simp only[Vn,Vh]at b2 b3 b4;simp only[b2.1,b2.2,b3.1,b3.2,b4.1,b4.2,cond_false,bind_some];rw[show Vf (Zaw (Zai ZnU) ((n.2.2.1[i]).2.2.2.1,(n.2.2.1[i]).2.1,(n.2.2.1[i]).2.2.1,()) m) false=false from hu];rfl
     ·have:=Ze7.add (t:=ZnU) rfl hS;simp only[hx]at this;exact this
   ·rw[if_pos b5]at hc;exact absurd hc b5
  ·rintro i _ hi ⟨m,rfl,hS⟩ hc;have hx:=ZaB hi u0;obtain⟨ci,hcv⟩:=ZkW (n.2.2.1[i]).2.2.2.2.2.2.2.1 (n.1.length:Int) 0 3155932800;simp only[ZaH hi,cond_true,Zam hi,bind_some,ZbV _ (hg _ (Vi hi))];unfold Zji at hc ⊢;simp only[hx]at hc ⊢;by_cases b1:Za0 (n.2.2.1[i]).2.2.2.1=false
   ·rw[if_pos b1,b1];rfl
   have b1' :Za0 (n.2.2.1[i]).2.2.2.1=true:=by simpa using b1
   rw[if_neg b1]at hc ⊢;simp only[b1',Vd,cond_false];by_cases b2: (decide ((n.2.2.1[i]).1< -1) ||decide ((n.2.2.1[i]).2.2.1<0))=true
   ·rw[if_pos b2]
    revert b2
    generalize decide ((n.2.2.1[i]).1< -1)=a1;generalize decide ((n.2.2.1[i]).2.2.1<0)=a2
    cases a1<;>cases a2<;>intro b2<;>first|rfl|cases b2
   rw[if_neg b2]at hc ⊢;by_cases b3: (decide ((n.2.2.1[i]).2.1<0) ||decide (36524< (n.2.2.1[i]).2.1))=true
   ·rw[if_pos b3];simp only[Vn,Vh]at b2;simp only[b2.1,b2.2,cond_false,bind_some]
    revert b3
    generalize decide ((n.2.2.1[i]).2.1<0)=a1;generalize decide (36524< (n.2.2.1[i]).2.1)=a2
    cases a1<;>cases a2<;>intro b3<;>first|rfl|cases b3
   rw[if_neg b3]at hc ⊢;simp only[Vn,Vh]at b2 b3;simp only[b2.1,b2.2,b3.1,b3.2,cond_false,bind_some];by_cases b4: (decide ((n.2.2.1[i]).2.2.2.2.1<0) ||decide ((n.2.1.length:Int)<=(n.2.2.1[i]).2.2.2.2.1))=true
   ·rw[if_pos b4]
    revert b4
    generalize decide ((n.2.2.1[i]).2.2.2.2.1<0)=a1;generalize decide ((n.2.1.length:Int)<=(n.2.2.1[i]).2.2.2.2.1)=a2
    cases a1<;>cases a2<;>intro b4<;>first|rfl|cases b4
   rw[if_neg b4]at hc ⊢;simp only[Vn,Vh]at b4;simp only[b4.1,b4.2,cond_false,bind_some,hcv];by_cases b5:ZeS (n.2.2.1[i]).2.2.2.2.2.2.2.1 (n.1.length:Int) 0 3155932800=0
   ·rw[if_neg (fun h=>h b5)]at hc ⊢;simp only[b5,decide_true,Vd,cond_false];by_cases b6: ∃j,j<i/\runK ((n.2.2.1[j]?).getD u0)=runK n.2.2.1[i]
    ·rw[if_pos b6];rw[show Vf (Zaw (Zai ZnU) ((n.2.2.1[i]).2.2.2.1,(n.2.2.1[i]).2.1,(n.2.2.1[i]).2.2.1,()) m) false=true from (hS _).2 b6];rfl
    ·rw[if_neg b6]at hc;exact absurd rfl hc
   ·rw[if_pos b5];simp only[decide_eq_false b5,Vg,cond_true]
  ·rintro _ ⟨m,rfl,_⟩;simp only[ZaW,cond_false]
theorem Zkj(n:Zdt){i:Nat}(hi:i<n.2.2.1.length)(hl:n.2.2.1.length<=9223372036854775807):F94 n (i:Int)=some (Zji n i):=by
 unfold F94 Zji;have hx:=ZaB hi u0;simp only[hx,Zam hi,bind_some,ZbN,Zlp,ZcR];by_cases b1:Za0 (n.2.2.1[i]).2.2.2.1=false
 ·rw[if_pos b1,b1];rfl
 have b1' :Za0 (n.2.2.1[i]).2.2.2.1=true:=by simpa using b1
 rw[if_neg b1];simp only[b1',Vd,cond_false];by_cases b2: (decide ((n.2.2.1[i]).1< -1) ||decide ((n.2.2.1[i]).2.2.1<0))=true
 ·rw[if_pos b2]
  revert b2
  generalize decide ((n.2.2.1[i]).1< -1)=a1;generalize decide ((n.2.2.1[i]).2.2.1<0)=a2
  cases a1<;>cases a2<;>intro b2<;>first|rfl|cases b2
 rw[if_neg b2];simp only[Vn,Vh]at b2;simp only[b2.1,b2.2,cond_false,bind_some];by_cases b3: (decide ((n.2.2.1[i]).2.1<0) ||decide (36524< (n.2.2.1[i]).2.1))=true
 ·rw[if_pos b3]
  have: ¬ (0<=(n.2.2.1[i]).2.1/\(n.2.2.1[i]).2.1<=36524):=by simp only[Vla,decide_eq_true_eq]at b3;omega
  rw[decide_eq_false this];rfl
 rw[if_neg b3]
 have hd:0<=(n.2.2.1[i]).2.1/\(n.2.2.1[i]).2.1<=36524:=by simp only[Vn,Vh,decide_eq_false_iff_not]at b3;omega
 simp only[decide_eq_true hd,Vd,cond_false];by_cases b4: (decide ((n.2.2.1[i]).2.2.2.2.1<0) ||decide ((n.2.1.length:Int)<=(n.2.2.1[i]).2.2.2.2.1))=true
 ·rw[if_pos b4]
  revert b4
  generalize decide ((n.2.2.1[i]).2.2.2.2.1<0)=a1;generalize decide ((n.2.1.length:Int)<=(n.2.2.1[i]).2.2.2.2.1)=a2
  cases a1<;>cases a2<;>intro b4<;>first|rfl|cases b4
 rw[if_neg b4];simp only[Vn,Vh]at b4;simp only[b4.1,b4.2,cond_false,bind_some];by_cases b5:ZeS (n.2.2.1[i]).2.2.2.2.2.2.2.1 (n.1.length:Int) 0 3155932800=0
 ·rw[if_neg (fun h=>h b5)];simp only[b5,decide_true,Vd,cond_false]
  have hdup:=Zf8 (i:=i) (p:=fun j=>runK ((n.2.2.1[j]?).getD u0)=runK n.2.2.1[i]) (τ:=Unit ⊕ Int) (R:= .inr 6) (E:= .inl ()) (step:=fun s6:Int=>
    bif decide (s6< (i:Int)) then
     Vb (idx n.2.2.1 s6) fun x7=>
      Vb
       (bif decide (x7.snd.snd.snd.fst=(n.2.2.1[i]).snd.snd.snd.fst) then
        bif decide (x7.snd.fst=(n.2.2.1[i]).snd.fst) then some (decide (x7.snd.snd.fst=(n.2.2.1[i]).snd.snd.fst)) else some false
       else some false)
       fun x8=>bif x8 then some (Sum.inr (Sum.inr (6:Int))) else some (Sum.inl (Vc .i64 (s6+(1:Int))))
    else some (Sum.inr (Sum.inl ()))) (fun j hj hp=> ?_) (fun j hj hp=> ?_) (by simp only[ZaW,cond_false])
  ·by_cases b6: ∃j,j<i/\runK ((n.2.2.1[j]?).getD u0)=runK n.2.2.1[i]
   ·rw[if_pos b6,hdup.1 b6];rfl
   ·rw[if_neg b6,hdup.2 b6];rfl
  ·have hjl:j<n.2.2.1.length:=by omega
   have hp: ¬runK n.2.2.1[j]=runK n.2.2.1[i]:=by rw[<-ZaB hjl u0];exact hp
   simp only[ZaH hj,cond_true,Zam hjl,bind_some,Zay hj (show i<=9223372036854775807 by omega)];by_cases e1: (n.2.2.1[j]).2.2.2.1=(n.2.2.1[i]).2.2.2.1
   ·rw[decide_eq_true e1];by_cases e2: (n.2.2.1[j]).2.1=(n.2.2.1[i]).2.1
    ·rw[decide_eq_true e2];have e3: ¬ (n.2.2.1[j]).2.2.1=(n.2.2.1[i]).2.2.1:=fun e3=>hp (by unfold runK;rw[e1,e2,e3]);rw[decide_eq_false e3];rfl
    ·rw[decide_eq_false e2];rfl
   ·rw[decide_eq_false e1];rfl
  ·have hjl:j<n.2.2.1.length:=by omega
   have hp:runK n.2.2.1[j]=runK n.2.2.1[i]:=by rw[<-ZaB hjl u0];exact hp
   unfold runK at hp;simp only[Vza,and_true]at hp;simp only[ZaH hj,cond_true,Zam hjl,bind_some,decide_eq_true hp.1,decide_eq_true hp.2.1,decide_eq_true hp.2.2]
 ·rw[if_pos b5];simp only[decide_eq_false b5,Vg,cond_true]
end Q
namespace Q
open Tr Go Gr
open Option (bind_some)
def f0:ZdD:=(0,0,0,false,())
def ZcX(p:ZdD):ZdD:=(p.1,p.2.1,0,p.2.2.2.1,())
def Zdd(n:Nat)(p:ZdD):Bool:= !decide (0<=p.1/\p.1< (n:Int)) || (!decide (0<=p.2.1/\p.2.1< (n:Int)) ||decide (p.1=p.2.1))
def Zde(p:ZdD):Bool:=decide (p.2.2.1<1) ||decide (14400<p.2.2.1)
open Classical in
noncomputable def ZbA(n:Nat)(l:List ZdD)(i:Nat):Int:=
 if Zdd n ((l[i]?).getD f0)=true then 9 else if Zde ((l[i]?).getD f0)=true then 2 else if∃j,j<i/\ZcX ((l[j]?).getD f0)=ZcX ((l[i]?).getD f0) then 6 else 0
theorem Zd5{n:Nat}{l:List ZdD}{i:Nat}(h:ZbA n l i=0):Zdd n ((l[i]?).getD f0)=false/\Zde ((l[i]?).getD f0)=false/\ ¬ ∃j,j<i/\ZcX ((l[j]?).getD f0)=ZcX ((l[i]?).getD f0):=by
 unfold ZbA at h;by_cases h1:Zdd n ((l[i]?).getD f0)=true
 ·rw[if_pos h1]at h;simp at h
 ·rw[if_neg h1]at h;by_cases h2:Zde ((l[i]?).getD f0)=true
  ·rw[if_pos h2]at h;simp at h
  ·rw[if_neg h2]at h;by_cases h3: ∃j,j<i/\ZcX ((l[j]?).getD f0)=ZcX ((l[i]?).getD f0)
   ·rw[if_pos h3]at h;simp at h
   ·exact⟨by simpa using h1,by simpa using h2,h3⟩
theorem Zfz{n:Nat}{p:ZdD}(h:Zdd n p=false): (0<=p.1/\p.1<n)/\(0<=p.2.1/\p.2.1<n)/\p.1≠p.2.1:=by unfold Zdd at h;simp only[Vh,Vt,decide_eq_true_eq,decide_eq_false_iff_not]at h;exact h
theorem Zft{p:ZdD}(h:Zde p=false):1<=p.2.2.1/\p.2.2.1<=14400:=by unfold Zde at h;simp only[Vh,decide_eq_false_iff_not]at h;omega
theorem ZqH{n:Nat}{l:List ZdD}(h: ∀i,i<l.length->ZbA n l i=0):FOk n l:=by intro p hp;obtain⟨i,hi,rfl⟩:=Vo hp;obtain⟨h1,h2,_⟩:=Zd5 (h i hi);rw[ZaB hi]at h1 h2;have:=Zfz h1;have:=Zft h2;omega
theorem ZjO(x:Int)(n:Nat):F66 x (n:Int)=some (decide (0<=x/\x< (n:Int))):=by
 unfold F66;by_cases h:0<=x
 ·rw[decide_eq_true h];simp only[cond_true,bind_some];exact congrArg some (decide_eq_decide.2 ⟨fun hb=>⟨h,hb⟩,fun hb=>hb.2⟩)
 ·rw[decide_eq_false h];simp only[cond_false,bind_some];rw[decide_eq_false (fun hb=>h hb.1)]
theorem ZmL(n:Nat)(p:ZdD): (Vb (F66 p.1 (n:Int)) fun x2=>bif !x2 then some true else Vb (F66 p.2.1 (n:Int)) fun x3=>bif !x3 then some true else some (decide (p.1=p.2.1)))=some (Zdd n p):=by
 unfold Zdd;simp only[ZjO,bind_some];generalize decide (0<=p.1/\p.1< (n:Int))=a;generalize decide (0<=p.2.1/\p.2.1< (n:Int))=b;generalize decide (p.1=p.2.1)=c
 cases a<;>cases b<;>cases c<;>rfl
theorem ZqB{n:Nat}(hn:n<=9223372036854775807)(p:ZdD): (Vb (F89 p.1 0 (Vc .i64 ((n:Int) - 1))) fun x2=>bif !x2 then some true else Vb (F89 p.2.1 0 (Vc .i64 ((n:Int) - 1))) fun x3=>bif !x3 then some true else some (decide (p.1=p.2.1)))=some (Zdd n p):=by
 have e:Vc .i64 ((n:Int) - 1)=(n:Int) - 1:=ZaA (by omega) (by omega);have h: ∀x:Int,decide (0<=x/\x<=(n:Int) - 1)=decide (0<=x/\x< (n:Int)):=fun x=>decide_eq_decide.2 (by omega);unfold Zdd;simp only[e,ZcR,bind_some,h];generalize decide (0<=p.1/\p.1< (n:Int))=a;generalize decide (0<=p.2.1/\p.2.1< (n:Int))=b;generalize decide (p.1=p.2.1)=c
 cases a<;>cases b<;>cases c<;>rfl
theorem ZnK(p:ZdD): (bif decide (p.2.2.1< (1:Int)) then some true else some (decide ((14400:Int)<p.2.2.1)))=some (Zde p):=by
 unfold Zde;generalize decide (p.2.2.1<1)=a;generalize decide (14400<p.2.2.1)=b
 cases a<;>cases b<;>rfl
theorem Zqs(p:ZdD):decide ((1:Int)<=p.2.2.1/\p.2.2.1<=14400)= !Zde p:=by
 unfold Zde;by_cases h1:p.2.2.1<1
 ·rw[decide_eq_true h1,decide_eq_false (by omega)];rfl
 ·by_cases h2:14400<p.2.2.1
  ·rw[decide_eq_true h2,decide_eq_false (show¬ ((1:Int)<=p.2.2.1/\p.2.2.1<=14400) by omega)];simp
  ·rw[decide_eq_false h1,decide_eq_false h2,decide_eq_true (show (1:Int)<=p.2.2.1/\p.2.2.1<=14400 by omega)];rfl
def Zjo(a b:ZdD):Bool:=decide (a.1=b.1) && (decide (a.2.1=b.2.1) && (decide (a.2.2.1=b.2.2.1) &&a.2.2.2.1==b.2.2.2.1))
def eqF(c l:List ZdD)(i:Nat):Int:=if Zjo ((c[i]?).getD f0) ((l[i]?).getD f0) then 0 else 1
def Zcw(c l:List ZdD):Bool:=decide (c.length=l.length) && (Zaq c.length (eqF c l)).isNone
theorem ZnE    {τ : Type}{c l : List ZdD }(hcl : c.length = l.length)(hl : c.length <= 9223372036854775807)(R E : τ) : run (fun s2 : Int =>
                  bif decide (s2 < (↑(Vq c) : Int)) then
                    Vb (idx c s2) fun x3 =>
                      Vb (idx l s2) fun x4 =>
                        bif !(decide (x3.fst = x4.fst) && (decide (x3.snd.fst = x4.snd.fst) && (decide (x3.snd.snd.fst = x4.snd.snd.fst) && x3.snd.snd.snd.fst == x4.snd.snd.snd.fst))) then
                          some (Sum.inr R)
                        else some (Sum.inl (Vc .i64 (s2 + (1 : Int))))
                  else some (Sum.inr E)) (0 : Int) = some (if (Zaq      c.length (eqF c l)).isNone then E else R) := by
  rw [Za3      (n := c.length) (fun i st => st = (i : Int)) (eqF c l) (fun _ => R) E ?_ ?_ ?_ (0 : Int) rfl]
  · unfold pick
    cases Zaq      c.length (eqF c l) <;> rfl
  · rintro i _ hi rfl hc
    have hi' : i < l.length := by omega
    refine ⟨((i + 1 : Nat) : Int), ?_, rfl⟩;unfold eqF at hc;rw [ZaB     hi, ZaB     hi']at hc
    have hs : Zjo   c[i] l[i] = true := by
      by_cases hs : Zjo   c[i] l[i] = true
      · exact hs
      · rw [if_neg hs]at hc; simp at hc
    unfold Zjo   at hs;simp only [ZaH    hi, cond_true, Zam     hi, Zam     hi', bind_some, hs, Vd, cond_false, Zay       hi hl]
  · rintro i _ hi rfl hc
    have hi' : i < l.length := by omega
    unfold eqF at hc;rw [ZaB     hi, ZaB     hi']at hc
    have hs : Zjo   c[i] l[i] = false := by
      by_cases hs : Zjo   c[i] l[i] = true
      · rw [if_pos hs]at hc; exact absurd rfl hc
      · simpa using hs
    unfold Zjo   at hs;simp only [ZaH    hi, cond_true, Zam     hi, Zam     hi', bind_some, hs, Vg]
  · rintro _ rfl
    simp only [ZaW    , cond_false]
theorem Zn0{n:Nat}{l:List ZdD}(hl:l.length<=4096)(h: ∀i,i<l.length->ZbA n l i=0):F31 l (n:Int)=some (0,0):=by
 unfold F31
 have hdup: ∀i (_:i<l.length), ¬ ∃j,j<i/\(fun j=>(((l[j]?).getD f0).1,((l[j]?).getD f0).2.1,((l[j]?).getD f0).2.2.2.1,())) j=(((l[i]?).getD f0).1,((l[i]?).getD f0).2.1,((l[i]?).getD f0).2.2.2.1,()):=by rintro i hi ⟨j,hj,he⟩;refine(Zd5 (h i hi)).2.2 ⟨j,hj, ?_⟩;simp only[Vza,and_true]at he;unfold ZcX;rw[he.1,he.2.1,he.2.2]
 rw[Za3 (n:=l.length) (fun i st=> ∃m,st=(m,(i:Int))/\Ze7 (t:=Zi9) (fun j=>(((l[j]?).getD f0).1,((l[j]?).getD f0).2.1,((l[j]?).getD f0).2.2.2.1,())) i m) (ZbA n l) (fun i=> .inr ((i:Int),ZbA n l i)) (.inl ()) ?_ ?_ ?_ ([],(0:Int)) ⟨[],rfl,Ze7.nil _⟩]
 ·unfold pick;rw[ZbG h];rfl
 ·rintro i _ hi ⟨m,rfl,hS⟩ hc;have hx:=ZaB hi f0;have hu:=Ze3 hS (hdup i hi);obtain⟨h1,h2,_⟩:=Zd5 hc;rw[hx]at h1 h2;obtain⟨g1,g2,g3⟩:=Zfz h1;have g4:=Zft h2;refine⟨(ZaS (Zai Zi9) ((l[i]).1,(l[i]).2.1,(l[i]).2.2.2.1,()) true m,((i+1:Nat):Int)), ?_,_,rfl, ?_⟩
  ·simp only[ZaH hi,cond_true,Zam hi,bind_some,show decide ((l[i]).1<0)=false from decide_eq_false (by omega),show decide ((n:Int)<=(l[i]).1)=false from decide_eq_false (by omega),show decide ((l[i]).2.1<0)=false from decide_eq_false (by omega),
    show decide ((n:Int)<=(l[i]).2.1)=false from decide_eq_false (by omega),decide_eq_false g3,cond_false,show decide ((l[i]).2.2.1<1)=false from decide_eq_false (by omega),show decide ((14400:Int)< (l[i]).2.2.1)=false from decide_eq_false (by omega),Zay hi (show l.length<=9223372036854775807 by omega)]
   rw[hx]at hu;rw[show Vf (Zaw (Zai Zi9) ((l[i]).1,(l[i]).2.1,(l[i]).2.2.2.1,()) m) false=false from hu];rfl
  ·have:=Ze7.add (t:=Zi9) rfl hS;simp only[hx]at this;exact this
 ·rintro i _ hi _ hc;exact absurd (h i hi) hc
 ·rintro _ ⟨m,rfl,_⟩;simp only[ZaW,cond_false]
theorem Ziu{n:Nat}(hn:n<=64){l:List ZdD}(hl:l.length<=4096)(h: ∀i,i<l.length->ZbA n l i=0): ∃c,F84 l (n:Int)=some c/\c.length<=8192/\F26 l (n:Int)=some (Zcw c l):=by
 obtain⟨c,h1,h2,h3⟩:=ZjU hn (ZqH h) hl;refine⟨c,h2,h3, ?_⟩;unfold F26 Zcw;rw[Zn0 hl h]
 have em:Tr.imax (n:Int) 0=(n:Int):=by
  unfold Tr.imax
  split<;>omega
 simp only[show decide ((64:Int)< (n:Int))=false from decide_eq_false (by omega),cond_false,bind_some,decide_true,Vd,em];rw[h1];simp only[bind_some];by_cases hcl:c.length=l.length
 ·rw[decide_eq_true (show (c.length:Int)=(l.length:Int) by omega),decide_eq_true hcl];simp only[Vd,cond_false,Via];rw[ZnE hcl (by omega) _ _]
  cases Zaq c.length (eqF c l)<;>rfl
 ·rw[decide_eq_false (show¬ (c.length:Int)=(l.length:Int) by omega),decide_eq_false hcl];rfl
theorem ZlV      (n : Zdt )(hn : n.1.length <= 64)(hl : n.2.2.2.2.1.length <= 4096) : ∃ c, ((∀ i, i < n.2.2.2.2.1.length -> ZbA   n.1.length n.2.2.2.2.1 i = 0) -> F84 n.2.2.2.2.1 (n.1.length : Int) = some c) /\ F54 n = some (match Zaq      n.2.2.2.2.1.length (ZbA   n.1.length n.2.2.2.2.1) with
      | some i => (4, (i : Int), ZbA   n.1.length n.2.2.2.2.1 i, ())
      | none => if Zcw     c n.2.2.2.2.1 then (0, 0, 0, ()) else (4, 0, 18, ())) /\
    F92 n = some (match Zaq      n.2.2.2.2.1.length (ZbA   n.1.length n.2.2.2.2.1) with
      | some i => ((i : Int), ZbA   n.1.length n.2.2.2.2.1 i)
      | none => if Zcw     c n.2.2.2.2.1 then (0, 0) else (0, 18)) := by
  have hl' : n.2.2.2.2.1.length <= 9223372036854775807 := by omega
  have code : run (fun s0 : (Int × Int × Int × Unit) × List (ZdD  × Bool) × Int =>
        bif decide (s0.snd.snd < (↑(Vq n.snd.snd.snd.snd.fst) : Int)) then
          Vb (idx n.snd.snd.snd.snd.fst s0.snd.snd) fun x1 =>
            Vb
              (Vb (F66 x1.fst (↑(Vq n.fst) : Int)) fun x2 =>
                bif !x2 then some true
                else Vb (F66 x1.snd.fst (↑(Vq n.fst) : Int)) fun x3 => bif !x3 then some true else some (decide (x1.fst = x1.snd.fst)))
              fun x4 =>
              bif x4 then Vb (F65 (4 : Int) s0.snd.snd (9 : Int)) fun x5 => some (Sum.inr (Sum.inr x5))
              else
                Vb (bif decide (x1.snd.snd.fst < (1 : Int)) then some true else some (decide ((14400 : Int) < x1.snd.snd.fst))) fun x6 =>
                  bif x6 then Vb (F65 (4 : Int) s0.snd.snd (2 : Int)) fun x7 => some (Sum.inr (Sum.inr x7))
                  else
                    bif Vf (Zaw   (Zai   ZdC ) (x1.fst, x1.snd.fst, (0 : Int), x1.snd.snd.snd.fst, ()) s0.snd.fst) (false) then
                      Vb (F65 (4 : Int) s0.snd.snd (6 : Int)) fun x8 => some (Sum.inr (Sum.inr x8))
                    else
                      some
                        (Sum.inl
                          (s0.fst, ZaS   (Zai   ZdC ) (x1.fst, x1.snd.fst, (0 : Int), x1.snd.snd.snd.fst, ()) true s0.snd.fst, Vc .i64 (s0.snd.snd + (1 : Int))))
        else some (Sum.inr (Sum.inl s0.fst)))
      (((0 : Int), (0 : Int), (0 : Int), ()), [], (0 : Int)) = some (pick n.2.2.2.2.1.length (ZbA   n.1.length n.2.2.2.2.1) (fun i => .inr (4, (i : Int), ZbA   n.1.length n.2.2.2.2.1 i, ())) (.inl (0, 0, 0, ()))) := by
    refine Za3      (n := n.2.2.2.2.1.length) (fun i st => ∃ m, st = ((0, 0, 0, ()), m, (i : Int)) /\ Ze7  (t := ZdC ) (fun j => ZcX   ((n.2.2.2.2.1[j]?).getD f0)) i m) (ZbA   n.1.length n.2.2.2.2.1) _ _ ?_ ?_ ?_ _ ⟨[], rfl, Ze7.nil _⟩
    · rintro i _ hi ⟨m, rfl, hS⟩ hc
      have hx := ZaB     hi f0;obtain ⟨h1, h2, h3⟩ := Zd5        hc;have hu := Ze3    hS h3;rw [hx]at h1 h2 hu;refine ⟨((0, 0, 0, ()), ZaS   (Zai   ZdC ) (ZcX   n.2.2.2.2.1[i]) true m, ((i + 1 : Nat) : Int)), ?_, _, rfl, ?_⟩
      · simp only [ZaH    hi, cond_true, Zam     hi, bind_some, Zay       hi hl']
        rw [ZmL    , ZnK    ];simp only [bind_some, h1, h2, cond_false];rw [show Vf (Zaw   (Zai   ZdC ) ((n.2.2.2.2.1[i]).1, (n.2.2.2.2.1[i]).2.1, (0 : Int), (n.2.2.2.2.1[i]).2.2.2.1, ()) m) false = false from hu];rfl
      · have := Ze7.add (t := ZdC ) rfl hS
        simp only [hx]at this;exact this
    · rintro i _ hi ⟨m, rfl, hS⟩ hc
      have hx := ZaB     hi f0;simp only [ZaH    hi, cond_true, Zam     hi, bind_some];rw [ZmL    , ZnK    ];simp only [bind_some];unfold ZbA   at hc ⊢;rw [hx]at hc;simp only [hx];by_cases h1 : Zdd    n.1.length n.2.2.2.2.1[i] = true
      · rw [if_pos h1, h1]; rfl
      rw [if_neg h1]at hc ⊢;have h1' : Zdd    n.1.length n.2.2.2.2.1[i] = false := by simpa using h1
      simp only [h1', cond_false];by_cases h2 : Zde    n.2.2.2.2.1[i] = true
      · rw [if_pos h2, h2]; rfl
      rw [if_neg h2]at hc ⊢;have h2' : Zde    n.2.2.2.2.1[i] = false := by simpa using h2
      simp only [h2', cond_false];by_cases h3 : ∃ j, j < i /\ ZcX   ((n.2.2.2.2.1[j]?).getD f0) = ZcX   n.2.2.2.2.1[i]
      · rw [if_pos h3]
        rw [show Vf (Zaw   (Zai   ZdC ) ((n.2.2.2.2.1[i]).1, (n.2.2.2.2.1[i]).2.1, (0 : Int), (n.2.2.2.2.1[i]).2.2.2.1, ()) m) false = true from (hS _).2 h3];rfl
      · rw [if_neg h3]at hc; exact absurd rfl hc
    · rintro _ ⟨m, rfl, _⟩
      simp only [ZaW    , cond_false]
  have hdup : ∀ i (hi : i < n.2.2.2.2.1.length) (τ : Type) (R E : τ), ((∃ j, j < i /\ ZcX   ((n.2.2.2.2.1[j]?).getD f0) = ZcX   n.2.2.2.2.1[i]) -> run (fun s6 : Int =>
                          bif decide (s6 < (i : Int)) then
                            Vb (idx n.snd.snd.snd.snd.fst s6) fun x7 =>
                              Vb
                                (bif decide (x7.fst = (n.2.2.2.2.1[i]).fst) then
                                  bif decide (x7.snd.fst = (n.2.2.2.2.1[i]).snd.fst) then some (x7.snd.snd.snd.fst == (n.2.2.2.2.1[i]).snd.snd.snd.fst) else some false
                                else some false)
                                fun x8 => bif x8 then some (Sum.inr R) else some (Sum.inl (Vc .i64 (s6 + (1 : Int))))
                          else some (Sum.inr E)) (0 : Int) = some R) /\ ((¬ ∃ j, j < i /\ ZcX   ((n.2.2.2.2.1[j]?).getD f0) = ZcX   n.2.2.2.2.1[i]) -> run (fun s6 : Int =>
                          bif decide (s6 < (i : Int)) then
                            Vb (idx n.snd.snd.snd.snd.fst s6) fun x7 =>
                              Vb
                                (bif decide (x7.fst = (n.2.2.2.2.1[i]).fst) then
                                  bif decide (x7.snd.fst = (n.2.2.2.2.1[i]).snd.fst) then some (x7.snd.snd.snd.fst == (n.2.2.2.2.1[i]).snd.snd.snd.fst) else some false
                                else some false)
                                fun x8 => bif x8 then some (Sum.inr R) else some (Sum.inl (Vc .i64 (s6 + (1 : Int))))
                          else some (Sum.inr E)) (0 : Int) = some E) := by
    intro i hi τ R E;refine Zf8     (p := fun j => ZcX   ((n.2.2.2.2.1[j]?).getD f0) = ZcX   n.2.2.2.2.1[i]) (fun j hj hp => ?_) (fun j hj hp => ?_) (by simp only [ZaW    , cond_false])
    · have hjl : j < n.2.2.2.2.1.length := by omega
      rw [ZaB     hjl f0]at hp;simp only [ZaH    hj, cond_true, Zam     hjl, bind_some, Zay       hj (show i <= 9223372036854775807 by omega)];by_cases e1 : (n.2.2.2.2.1[j]).1 = (n.2.2.2.2.1[i]).1
      · rw [decide_eq_true e1]
        by_cases e2 : (n.2.2.2.2.1[j]).2.1 = (n.2.2.2.2.1[i]).2.1
        · rw [decide_eq_true e2]
          have e3 : ((n.2.2.2.2.1[j]).2.2.2.1 == (n.2.2.2.2.1[i]).2.2.2.1) = false := by
            cases hb : ((n.2.2.2.2.1[j]).2.2.2.1 == (n.2.2.2.2.1[i]).2.2.2.1) with
            | false => rfl
            | true => exact absurd (by unfold ZcX  ; rw [e1, e2, beq_iff_eq.1 hb]) hp
          simp only [cond_true, bind_some];rw [e3]; rfl
        · rw [decide_eq_false e2]; rfl
      · rw [decide_eq_false e1]; rfl
    · have hjl : j < n.2.2.2.2.1.length := by omega
      rw [ZaB     hjl f0]at hp;unfold ZcX   at hp;simp only [Vza, and_true, true_and]at hp;have e3 : ((n.2.2.2.2.1[j]).2.2.2.1 == (n.2.2.2.2.1[i]).2.2.2.1) = true := beq_iff_eq.2 hp.2.2;simp only [ZaH    hj, cond_true, Zam     hjl, bind_some, decide_eq_true hp.1, decide_eq_true hp.2.1];rw [e3]; rfl
  have hrefscan : ∀ (step : Int -> Option (Int ⊕ (Unit ⊕ (Int × Int)))), (∀ i, i < n.2.2.2.2.1.length -> step (i : Int) = if ZbA   n.1.length n.2.2.2.2.1 i = 0 then some (.inl ((i + 1 : Nat) : Int)) else some (.inr (.inr ((i : Int), ZbA   n.1.length n.2.2.2.2.1 i)))) -> step (n.2.2.2.2.1.length : Int) = some (.inr (.inl ())) ->
      run step (0 : Int) = some (pick n.2.2.2.2.1.length (ZbA   n.1.length n.2.2.2.2.1) (fun i => .inr ((i : Int), ZbA   n.1.length n.2.2.2.2.1 i)) (.inl ())) := by
    intro step h1 h2;refine Za3      (fun i st => st = (i : Int)) _ _ _ ?_ ?_ ?_ _ rfl
    · rintro i _ hi rfl hc
      exact ⟨_, by rw [h1 i hi, if_pos hc], rfl⟩
    · rintro i _ hi rfl hc
      rw [h1 i hi, if_neg hc]
    · rintro _ rfl
      exact h2
  have key : ∀ c, (∀ (_ : ∀ i, i < n.2.2.2.2.1.length -> ZbA   n.1.length n.2.2.2.2.1 i = 0), F84 n.2.2.2.2.1 (n.1.length : Int) = some c /\ c.length <= 8192 /\ F26 n.2.2.2.2.1 (n.1.length : Int) = some (Zcw     c n.2.2.2.2.1)) ->
      F54 n = some (match Zaq      n.2.2.2.2.1.length (ZbA   n.1.length n.2.2.2.2.1) with
      | some i => (4, (i : Int), ZbA   n.1.length n.2.2.2.2.1 i, ())
      | none => if Zcw     c n.2.2.2.2.1 then (0, 0, 0, ()) else (4, 0, 18, ())) /\
    F92 n = some (match Zaq      n.2.2.2.2.1.length (ZbA   n.1.length n.2.2.2.2.1) with
      | some i => ((i : Int), ZbA   n.1.length n.2.2.2.2.1 i)
      | none => if Zcw     c n.2.2.2.2.1 then (0, 0) else (0, 18)) := by
    intro c hc;constructor
    · unfold F54
      rw [show run _ _ = some _ from code];unfold pick;simp only [bind_some]
      cases hb : Zaq      n.2.2.2.2.1.length (ZbA   n.1.length n.2.2.2.2.1) with
      | some i => rfl
      | none =>
        obtain ⟨_, _, h3⟩ := hc (Za4.1 hb);simp only [Vj];rw [h3]
        cases Zcw     c n.2.2.2.2.1 <;> rfl
    · unfold F92
      rw [hrefscan _ (fun i hi => ?_) (by simp only [ZaW    , cond_false])]
      · unfold pick
        simp only [bind_some]
        cases hb : Zaq      n.2.2.2.2.1.length (ZbA   n.1.length n.2.2.2.2.1) with
        | some i => rfl
        | none =>
          obtain ⟨h1, h2, _⟩ := hc (Za4.1 hb);simp only [Vj];rw [h1];simp only [bind_some];unfold Zcw;by_cases hcl : c.length = n.2.2.2.2.1.length
          · rw [decide_eq_true (show (c.length : Int) = (n.2.2.2.2.1.length : Int) by omega), decide_eq_true hcl]
            simp only [Vd, cond_false, Via];rw [ZnE     hcl (by omega) _ _]
            cases Zaq      c.length (eqF c n.2.2.2.2.1) <;> rfl
          · rw [decide_eq_false (show ¬ (c.length : Int) = (n.2.2.2.2.1.length : Int) by omega), decide_eq_false hcl]; rfl
      · have hx := ZaB     hi f0
        simp only [ZaH    hi, cond_true, Zam     hi, bind_some, Zay       hi hl'];rw [ZqB    (by omega), ZcR   , Zqs   ];simp only [bind_some];unfold ZbA;rw [hx];by_cases h1 : Zdd    n.1.length n.2.2.2.2.1[i] = true
        · rw [if_pos h1, h1]; rfl
        have h1' : Zdd    n.1.length n.2.2.2.2.1[i] = false := by simpa using h1
        rw [if_neg h1, h1'];simp only [cond_false];by_cases h2 : Zde    n.2.2.2.2.1[i] = true
        · rw [if_pos h2, h2]; rfl
        have h2' : Zde    n.2.2.2.2.1[i] = false := by simpa using h2
        rw [if_neg h2, h2'];simp only [Vg, Vd, cond_false];by_cases h3 : ∃ j, j < i /\ ZcX   ((n.2.2.2.2.1[j]?).getD f0) = ZcX   n.2.2.2.2.1[i]
        · rw [if_pos h3, (hdup i hi _ _ _).1 h3]; rfl
        · rw [if_neg h3, (hdup i hi _ _ _).2 h3]; rfl
  by_cases hall : ∀ i, i < n.2.2.2.2.1.length -> ZbA   n.1.length n.2.2.2.2.1 i = 0
  · obtain ⟨c, h1, h2, h3⟩ := Ziu          hn hl hall
    exact ⟨c, fun _ => h1, key c fun _ => ⟨h1, h2, h3⟩⟩
  · exact ⟨[], fun h => absurd h hall, key [] fun h => absurd h hall⟩
end Q
namespace Q
open Tr Go
open Option (bind_some)
def orb(f:Int->Option Int)(a:Int):Nat->Option Int
 |0=>some a
 |k+1=>(f a).bind fun b=>orb f b k
inductive Zhq (f:Int->Option Int):Int->Prop
 |stop {a:Int} :f a=none->Zhq f a
 |step {a b:Int} :f a=some b->Zhq f b->Zhq f a
theorem Zhq.next{f:Int->Option Int}{a b:Int}(h:Zhq f a)(hb:f a=some b):Zhq f b:=by
 cases h with
 |stop h0=>rw[h0]at hb;cases hb
 |step h0 h1=>rw[h0]at hb;cases hb;exact h1
theorem Zki(f:Int->Option Int): ∀ (k:Nat) (a:Int),orb f a (k+1)=(orb f a k).bind f
 |0,a=>by
  show (f a).bind (fun b=>some b)=f a
  cases f a<;>rfl
 |k+1,a=>by
  show (f a).bind (fun b=>orb f b (k+1))=((f a).bind fun b=>orb f b k).bind f
  cases h:f a with
  |none=>rfl
  |some b=>exact Zki f k b
theorem ZoR{f:Int->Option Int}{a:Int}(h:Zhq f a): ∀k,orb f a (k+1)≠some a:=by
 induction h with
 |stop h0=>intro k hk;simp [orb,h0]at hk
 | @step a b h0 h1 ih=>
  intro k hk;have e:orb f b k=some a:=by simpa [orb,h0] using hk
  refine ih k ?_;rw[Zki,e];exact h0
theorem few: ∀ (i:Nat) (l:List Nat),l.Nodup->(∀j∈l,j<i)->l.length<=i
 |0,l,_,h=>by
  cases l with
  |nil=>simp
  |cons a t=>exact absurd (h a (by simp)) (by omega)
 |i+1,l,hn,h=>by
  have h1:=few i (l.erase i) (hn.erase i) (fun j hj=>by have h2:=(List.Nodup.mem_erase_iff hn).1 hj;have:=h j h2.2;omega)
  rw[List.length_erase]at h1
  split at h1<;>omega
def nx(from_ to_:Nat->Int)(st:Nat->Bool):Nat->Int->Option Int
 |0,_=>none
 |i+1,a=>if st i=true/\from_ i=a then some (to_ i) else nx from_ to_ st i a
variable {from_ to_:Nat->Int}{st:Nat->Bool}
theorem ZhZ: ∀ {i:Nat}{a b:Int},nx from_ to_ st i a=some b-> ∃j,j<i/\st j=true/\from_ j=a/\to_ j=b
 |0,a,b,h=>by cases h
 |i+1,a,b,h=>by
  unfold nx at h;split at h
  ·next hc=>cases h;exact⟨i,by omega,hc.1,hc.2,rfl⟩
  ·obtain⟨j,h1,h2⟩:=ZhZ h;exact⟨j,by omega,h2⟩
theorem ZmB: ∀ {i:Nat}{a:Int},nx from_ to_ st i a=none-> ∀j,j<i->st j=true->from_ j≠a
 |0,a,_,j,hj,_=>by omega
 |i+1,a,h,j,hj,hs=>by
  unfold nx at h;split at h
  ·cases h
  ·next hc=>
   by_cases hji:j=i
   ·subst hji;exact fun e=>hc ⟨hs,e⟩
   ·exact ZmB h j (by omega) hs
theorem ZgW{i:Nat} : ∀ (k:Nat) (a c:Int),Zhq (nx from_ to_ st i) a->orb (nx from_ to_ st i) a k=some c->
  ∃l:List Nat,l.length=k/\l.Nodup/\ ∀j∈l,j<i/\ ∃t,orb (nx from_ to_ st i) a t=some (from_ j)
 |0,_,_,_,_=>⟨[],rfl,List.nodup_nil,fun j hj=>absurd hj (by simp)⟩
 |k+1,a,c,he,h=>by
  cases hb:nx from_ to_ st i a with
  |none=>simp [orb,hb]at h
  |some b=>
   have h' :orb (nx from_ to_ st i) b k=some c:=by simpa [orb,hb] using h
   obtain⟨l,h1,h2,h3⟩:=ZgW k b c (he.next hb) h'
   obtain⟨j,hj1,hj2,hj3,hj4⟩:=ZhZ hb;refine⟨j::l,by simp [h1],List.nodup_cons.2 ⟨fun hm=> ?_,h2⟩,fun x hx=> ?_⟩
   ·obtain⟨_,t,ht⟩:=h3 j hm;rw[hj3]at ht;refine ZoR he t ?_;simpa [orb,hb] using ht
   ·rcases Vfa.1 hx with rfl|hx
    ·exact⟨hj1,0,by rw[hj3];rfl⟩
    ·obtain⟨h4,t,ht⟩:=h3 x hx;exact⟨h4,t+1,by simpa [orb,hb] using ht⟩
theorem Zlt{i k:Nat}{a c:Int}(he:Zhq (nx from_ to_ st i) a)(h:orb (nx from_ to_ st i) a k=some c):k<=i:=by obtain⟨l,h1,h2,h3⟩:=ZgW k a c he h;have:=few i l h2 fun j hj=>(h3 j hj).1;omega
theorem ZnD{f g:Int->Option Int}{fr:Int}(hg: ∀a,a≠fr->g a=f a){a:Int}(h:Zhq f a)(hn: ∀k,orb f a k≠some fr):Zhq g a:=by
 induction h with
 | @stop a h0=>
  have:a≠fr:=fun e=>hn 0 (by rw[e];rfl)
  exact .stop ((hg a this).trans h0)
 | @step a b h0 h1 ih=>
  have:a≠fr:=fun e=>hn 0 (by rw[e];rfl);refine .step ((hg a this).trans h0) (ih fun k hk=>hn (k+1) ?_);simpa [orb,h0] using hk
theorem ZnV{f g:Int->Option Int}{fr to:Int}(hg: ∀a,a≠fr->g a=f a)(hf:g fr=some to)(ht:Zhq g to){a:Int}(h:Zhq f a):Zhq g a:=by
 induction h with
 | @stop a h0=>
  by_cases e:a=fr
  ·subst e;exact .step hf ht
  ·exact .stop ((hg a e).trans h0)
 | @step a b h0 h1 ih=>
  by_cases e:a=fr
  ·subst e;exact .step hf ht
  ·exact .step ((hg a e).trans h0) ih
theorem ZnQ{i:Nat}(h: ∀a,Zhq (nx from_ to_ st i) a)(hc:st i=true->to_ i≠from_ i/\ ∀k,orb (nx from_ to_ st i) (to_ i) (k+1)≠some (from_ i))(a:Int):Zhq (nx from_ to_ st (i+1)) a:=by
 by_cases hs:st i=true
 ·obtain⟨h1,h2⟩:=hc hs;have hg: ∀a,a≠from_ i->nx from_ to_ st (i+1) a=nx from_ to_ st i a:=fun a ha=>if_neg fun e=>ha e.2.symm;refine ZnV hg (if_pos ⟨hs,rfl⟩) (ZnD hg (h _) fun k=> ?_) (h a)
  cases k with
  |zero=>exact fun e=>h1 (Option.some.inj e)
  |succ k=>exact h2 k
 ·have:nx from_ to_ st (i+1)=nx from_ to_ st i:=funext fun a=>if_neg fun e=>hs e.1;rw[this];exact h a
theorem ZmJ(a:Int):Zhq (nx from_ to_ st 0) a:= .stop rfl
theorem Zmm      {f : Int -> Option Int}{m : List (Int × Int)}(hm : ∀ a, Zaw   (Zai   Y3) a m = f a){a fr : Int}(he : Zhq  f a) : F64 m a fr = some (m, @decide (∃ k, orb f a (k + 1) = some fr) (Classical.propDecidable _)) := by
  classical
  unfold F64
  have key : ∀ a, Zhq  f a -> run (fun s0 : Int × Bool =>
        bif s0.snd then
          bif decide (s0.fst = fr) then some (Sum.inr (Sum.inr true))
          else some (Sum.inl (Vf (Zaw   (Zai   Y3) s0.fst m) ((0 : Int)), Voa (Zaw   (Zai   Y3) s0.fst m)))
        else some (Sum.inr (Sum.inl ())))
      (Vf (Zaw   (Zai   Y3) a m) ((0 : Int)), Voa (Zaw   (Zai   Y3) a m)) = some (if ∃ k, orb f a (k + 1) = some fr then Sum.inr true else Sum.inl ()) := by
    intro a he
    induction he with
    | @stop a h0 =>
      rw [hm a, h0, if_neg (by rintro ⟨k, hk⟩; simp [orb, h0]at hk)]
      exact Zb2     rfl
    | @step a b h0 h1 ih =>
      rw [hm a, h0];by_cases hb : b = fr
      · rw [if_pos ⟨0, by simp [orb, h0, hb]⟩]
        exact Zb2     (by simp [hb])
      · rw [ZdP     (s' := (Vf (Zaw   (Zai   Y3) b m) ((0 : Int)), Voa (Zaw   (Zai   Y3) b m))) (by simp [hb]), ih]
        have hiff : (∃ k, orb f b (k + 1) = some fr) ↔ ∃ k, orb f a (k + 1) = some fr := by
          refine ⟨fun ⟨k, hk⟩ => ⟨k + 1, by simpa [orb, h0] using hk⟩, fun ⟨k, hk⟩ => ?_⟩
          cases k with
          | zero => exact absurd (by simpa [orb, h0] using hk) hb
          | succ k => exact ⟨k, by simpa [orb, h0] using hk⟩
        by_cases h : ∃ k, orb f b (k + 1) = some fr
        · rw [if_pos h, if_pos (hiff.1 h)]
        · rw [if_neg h, if_neg fun e => h (hiff.2 e)]
  refine (congrArg (Vb · _) (key a he)).trans ?_;by_cases h : ∃ k, orb f a (k + 1) = some fr
  · rw [if_pos h, decide_eq_true h]; rfl
  · rw [if_neg h, decide_eq_false h]; rfl
end Q
namespace Q
open Tr Go
open Option (bind_some)
theorem ZiQ{σ τ:Type}{step:σ->Option (σ ⊕ τ)}{n:Nat}(St:Nat->σ->Prop)(chk:Nat->Int)(R:Nat->τ)(E:τ)
  (hstep: ∀i s,i<n->(∀j,j<i->chk j=0)->St i s->(chk i=0/\ ∃s',step s=some (.inl s')/\St (i+1) s')\/(chk i≠0/\step s=some (.inr (R i))))
  (hend: ∀s,St n s->step s=some (.inr E)) (s:σ) (h0:St 0 s):run step s=some (pick n chk R E):=by
 refine Za3 (fun i s=>St i s/\ ∀j,j<i->chk j=0) chk R E ?_ ?_ (fun s h=>hend s h.1) s ⟨h0,fun j hj=>by omega⟩
 ·rintro i s hi ⟨hs,hj⟩ hc;rcases hstep i s hi hj hs with ⟨_,s',h1,h2⟩ | ⟨h,_⟩
  ·refine⟨s',h1,h2,fun j hji=> ?_⟩;by_cases e:j=i
   ·subst e;exact hc
   ·exact hj j (by omega)
  ·exact absurd hc h
 ·rintro i s hi ⟨hs,hj⟩ hc;rcases hstep i s hi hj hs with ⟨h,_⟩ | ⟨_,h⟩
  ·exact absurd h hc
  ·exact h
def l0:Zlj:=(0,0,0,0,false,())
def lk(n:Zdt)(j:Nat):Zlj:=(n.2.2.2.1[j]?).getD l0
def rn(n:Zdt)(a:Int):Zq7:=(n.2.2.1[a.toNat]?).getD u0
def cl(l:List Zee)(a:Int):Zee:=(l[a.toNat]?).getD c0
def inR(x:Int)(m:Nat):Bool:=decide (0<=x) &&decide (x< (m:Int))
def nxL(n:Zdt)(i:Nat):Int->Option Int:=nx (fun j=>(lk n j).1) (fun j=>(lk n j).2.2.1) (fun j=>(lk n j).2.2.2.2.1) i
abbrev ZrC:=List Int
def ZdO(x:Zlj):ZrC:=[x.1,x.2.1,x.2.2.1,x.2.2.2.1]
theorem Zj3(x:Int)(m:Nat):F66 x (m:Int)=some (inR x m):=by
 unfold F66 inR;generalize decide (0<=x)=a;generalize decide (x< (m:Int))=b
 cases a<;>cases b<;>rfl
theorem Zdw{α:Type}{l:List α}{x:Int}(h:inR x l.length=true)(d:α):idx l x=some ((l[x.toNat]?).getD d):=by
 unfold inR at h;simp only[Vw,decide_eq_true_eq]at h;have e:x=(x.toNat:Int):=by omega
 have hl:x.toNat<l.length:=by omega
 rw[e,Zam hl,Ve,ZaB hl]
def Zmq(n:Zdt)(x:Zlj):Bool:= !inR x.1 n.2.2.1.length|| (!inR x.2.2.1 n.2.2.1.length||decide (x.1=x.2.2.1))
def Zoz(n:Zdt)(x:Zlj):Bool:= !inR x.2.1 (rn n x.1).2.2.2.2.2.2.2.1.length|| !inR x.2.2.2.1 (rn n x.2.2.1).2.2.2.2.2.2.2.1.length
open Classical in
noncomputable def Zb7(n:Zdt)(i:Nat):Int:=
 let x:=lk n i
 if Zmq n x=true then 9 else if Zoz n x=true then 9
 else if¬ (cl (rn n x.1).2.2.2.2.2.2.2.1 x.2.1).1=(cl (rn n x.2.2.1).2.2.2.2.2.2.2.1 x.2.2.2.1).1 then 13
 else if x.2.2.2.2.1=true/\ ¬x.2.1+1=((rn n x.1).2.2.2.2.2.2.2.1.length:Int) then 19
 else if x.2.2.2.2.1=true/\ ¬x.2.2.2.1=0 then 19
 else if x.2.2.2.2.1=true/\ ∃j,j<i/\(lk n j).2.2.2.2.1=true/\((lk n j).1=x.1\/(lk n j).2.2.1=x.2.2.1) then 19
 else if x.2.2.2.2.1=true/\ ∃k,orb (nxL n i) x.2.2.1 (k+1)=some x.1 then 19
 else if∃j,j<i/\ZdO (lk n j)=ZdO x then 6 else 0
theorem Zg5{n:Zdt}{i:Nat}(h:Zb7 n i=0):Zmq n (lk n i)=false/\Zoz n (lk n i)=false/\((lk n i).2.2.2.2.1=true->
  (¬ ∃j,j<i/\(lk n j).2.2.2.2.1=true/\((lk n j).1=(lk n i).1\/(lk n j).2.2.1=(lk n i).2.2.1))/\ ¬ ∃k,orb (nxL n i) (lk n i).2.2.1 (k+1)=some (lk n i).1):=by
 unfold Zb7 at h;simp only at h;by_cases b1:Zmq n (lk n i)=true
 ·rw[if_pos b1]at h;omega
 rw[if_neg b1]at h;by_cases b2:Zoz n (lk n i)=true
 ·rw[if_pos b2]at h;omega
 rw[if_neg b2]at h;refine⟨by simpa using b1,by simpa using b2,fun hs=> ?_⟩
 repeat (split at h; · omega)
 next h5 h6 _=>exact⟨fun e=>h5 ⟨hs,e⟩,fun e=>h6 ⟨hs,e⟩⟩
theorem Zfq{n:Zdt} : ∀ {i:Nat},(∀j,j<i->Zb7 n j=0)-> ∀a,Zhq (nxL n i) a
 |0,_,a=>ZmJ a
 |i+1,h,a=>by obtain⟨h1,_,h3⟩:=Zg5 (h i (by omega));refine ZnQ (Zfq fun j hj=>h j (by omega)) (fun hs=>⟨fun e=> ?_,fun k hk=>(h3 hs).2 ⟨k,hk⟩⟩) a;unfold Zmq at h1;simp only[Vh,decide_eq_false_iff_not]at h1;exact h1.2.2 e.symm
theorem Zjz{n:Zdt}{j:Nat}(h:Zb7 n j=0):0<=(lk n j).1:=by obtain⟨h1,_⟩:=Zg5 h;unfold Zmq inR at h1;simp only[Vh,Vt,Vw,decide_eq_true_eq]at h1;exact h1.1.1
end Q
namespace Q
open Tr Go
open Option (bind_some)
noncomputable def ZkP(n:Zdt):Int×Int×Int×Unit:=if 1024<n.2.2.2.1.length then(3,0,5,()) else pick n.2.2.2.1.length (Zb7 n) (fun i=>(3,(i:Int),Zb7 n i,())) (0,0,0,())
theorem ZmA{n:Zdt}{a:Int}(h:inR a n.2.2.1.length=true):rn n a∈n.2.2.1:=by
 unfold inR at h;simp only[Vw,decide_eq_true_eq]at h;have hl:a.toNat<n.2.2.1.length:=by omega
 unfold rn;rw[ZaB hl];exact Vi hl
def LSt(n:Zdt)(i:Nat)(s: (Int×Int×Int×Unit) ×List (Int×Int) ×List (Int×Bool) ×List (ZrC×Bool) ×Int):Prop:=
 ∃mN mI mS,s=((0,0,0,()),mN,mI,mS,(i:Int))/\(∀a,Zaw (Zai Y3) a mN=nxL n i a)/\(∀b,Vf (Zaw (Zai Y3) b mI) false=true↔ ∃j,j<i/\(lk n j).2.2.2.2.1=true/\(lk n j).2.2.1=b)
  /\Ze7 (t:=Zif) (fun j=>ZdO (lk n j)) i mS
theorem ZiO{n:Zdt}{i:Nat}{a:Int} : (nxL n i a).isSome=true↔ ∃j,j<i/\(lk n j).2.2.2.2.1=true/\(lk n j).1=a:=by
 cases h:nxL n i a with
 |none=>
  refine⟨fun e=>(nomatch e),fun⟨j,h1,h2,h3⟩=>absurd h3 (ZmB h j h1 h2)⟩
 |some b=>
  obtain⟨j,h1,h2,h3,_⟩:=ZhZ h;exact⟨fun _=>⟨j,h1,h2,h3⟩,fun _=>rfl⟩
theorem Zmt(n:Zdt)(hC: ∀x∈n.2.2.1,x.2.2.2.2.2.2.2.1.length<=9223372036854775807):F53 n=some (ZkP n):=by
 unfold F53 ZkP F65;by_cases h1:1024<n.2.2.2.1.length
 ·rw[if_pos h1,decide_eq_true (show (1024:Int)< (n.2.2.2.1.length:Int) by omega)];rfl
 rw[if_neg h1,decide_eq_false (show¬ (1024:Int)< (n.2.2.2.1.length:Int) by omega)];simp only[cond_false];have hl:n.2.2.2.1.length<=9223372036854775807:=by omega
 rw[ZiQ (n:=n.2.2.2.1.length) (LSt n) (Zb7 n) (fun i=> .inr (3,(i:Int),Zb7 n i,())) (.inl (0,0,0,())) ?_ ?_ ((0,0,0,()),[],[],[],(0:Int))
  ⟨[],[],[],rfl,fun _=>rfl,fun b=>⟨fun h=>(nomatch h),fun⟨j,hj,_⟩=>by omega⟩,Ze7.nil _⟩]
 ·unfold pick
  cases Zaq n.2.2.2.1.length (Zb7 n)<;>rfl
 ·rintro i _ hi hj ⟨mN,mI,mS,rfl,hN,hI,hS⟩;have hx:n.2.2.2.1[i]=lk n i:=(ZaB hi l0).symm;simp only[ZaH hi,cond_true,Zam hi,bind_some,hx,Zj3];have hF:Zb7 n i=Zb7 n i:=rfl
  conv at hF=>rhs;unfold Zb7
  simp only at hF;generalize hy:lk n i=x at hF ⊢;by_cases b1:Zmq n x=true
  ·rw[if_pos b1]at hF;refine .inr ⟨by rw[hF];omega, ?_⟩;rw[hF];unfold Zmq at b1
   revert b1
   generalize inR x.1 n.2.2.1.length=a1;generalize inR x.2.2.1 n.2.2.1.length=a2;generalize decide (x.1=x.2.2.1)=a3
   cases a1<;>cases a2<;>cases a3<;>intro b1<;>first|rfl|cases b1
  rw[if_neg b1]at hF;unfold Zmq at b1;simp only[Vn,Vh,Vt]at b1;obtain⟨p1,p2,p3⟩:=b1;have e1:idx n.2.2.1 x.1=some (rn n x.1):=Zdw p1 u0;have e2:idx n.2.2.1 x.2.2.1=some (rn n x.2.2.1):=Zdw p2 u0;simp only[p1,p2,p3,Vd,cond_false,bind_some,e1,e2];by_cases b2:Zoz n x=true
  ·rw[if_pos b2]at hF;refine .inr ⟨by rw[hF];omega, ?_⟩;rw[hF];unfold Zoz at b2
   revert b2
   generalize inR x.2.1 (rn n x.1).2.2.2.2.2.2.2.1.length=a1;generalize inR x.2.2.2.1 (rn n x.2.2.1).2.2.2.2.2.2.2.1.length=a2
   cases a1<;>cases a2<;>intro b2<;>first|rfl|cases b2
  rw[if_neg b2]at hF;unfold Zoz at b2;simp only[Vn,Vh,Vt]at b2;obtain⟨q1,q2⟩:=b2;have e3:idx (rn n x.1).2.2.2.2.2.2.2.1 x.2.1=some (cl (rn n x.1).2.2.2.2.2.2.2.1 x.2.1):=Zdw q1 c0;have e4:idx (rn n x.2.2.1).2.2.2.2.2.2.2.1 x.2.2.2.1=some (cl (rn n x.2.2.1).2.2.2.2.2.2.2.1 x.2.2.2.1):=Zdw q2 c0;simp only[q1,q2,Vd,cond_false,bind_some,e3,e4];by_cases b3: (cl (rn n x.1).2.2.2.2.2.2.2.1 x.2.1).1=(cl (rn n x.2.2.1).2.2.2.2.2.2.2.1 x.2.2.2.1).1
  case neg=>
   rw[if_pos b3]at hF;refine .inr ⟨by rw[hF];omega, ?_⟩;rw[hF];simp only[decide_eq_false b3,Vg,cond_true]
  rw[if_neg (fun h=>h b3)]at hF;simp only[decide_eq_true b3,Vd,cond_false];by_cases hs:x.2.2.2.2.1=true
  ·simp only[hs,true_and,cond_true]at hF ⊢
   have hw:Vc .i64 (x.2.1+1)=x.2.1+1:=by have h2:=hC _ (ZmA p1);unfold inR at q1;simp only[Vw,decide_eq_true_eq]at q1;exact ZaA (by omega) (by omega)
   rw[hw];by_cases b4:x.2.1+1=((rn n x.1).2.2.2.2.2.2.2.1.length:Int)
   case neg=>
    rw[if_pos b4]at hF;refine .inr ⟨by rw[hF];omega, ?_⟩;rw[hF];simp only[decide_eq_false b4,Vg,cond_true]
   rw[if_neg (fun h=>h b4)]at hF;simp only[decide_eq_true b4,Vd,cond_false];by_cases b5:x.2.2.2.1=0
   case neg=>
    rw[if_pos b5]at hF;refine .inr ⟨by rw[hF];omega, ?_⟩;rw[hF];simp only[decide_eq_false b5,Vg,cond_true]
   rw[if_neg (fun h=>h b5)]at hF;simp only[decide_eq_true b5,Vd,cond_false,hN,Zmm hN (Zfq hj x.2.2.1),bind_some];by_cases b6: ∃j,j<i/\(lk n j).2.2.2.2.1=true/\((lk n j).1=x.1\/(lk n j).2.2.1=x.2.2.1)
   ·rw[if_pos b6]at hF;refine .inr ⟨by rw[hF];omega, ?_⟩;rw[hF];by_cases b6a: (nxL n i x.1).isSome=true
    ·simp only[b6a,cond_true]
    ·have b6b:Vf (Zaw (Zai Y3) x.2.2.1 mI) false=true:=by
      obtain⟨j,h1,h2,h3⟩:=b6;rcases h3 with h3|h3
      ·exact absurd (ZiO.2 ⟨j,h1,h2,h3⟩) b6a
      ·exact(hI _).2 ⟨j,h1,h2,h3⟩
     simp only[b6b,show (nxL n i x.1).isSome=false by simpa using b6a,cond_false,cond_true]
   rw[if_neg b6]at hF
   have b6a: (nxL n i x.1).isSome=false:=by
    cases hq: (nxL n i x.1).isSome with
    |false=>rfl
    |true=>obtain⟨j,h1,h2,h3⟩:=ZiO.1 hq;exact absurd ⟨j,h1,h2, .inl h3⟩ b6
   have b6b:Vf (Zaw (Zai Y3) x.2.2.1 mI) false=false:=by
    cases hq:Vf (Zaw (Zai Y3) x.2.2.1 mI) false with
    |false=>rfl
    |true=>obtain⟨j,h1,h2,h3⟩:=(hI _).1 hq;exact absurd ⟨j,h1,h2, .inr h3⟩ b6
   simp only[b6a,b6b,cond_false];by_cases b7: ∃k,orb (nxL n i) x.2.2.1 (k+1)=some x.1
   ·rw[if_pos ⟨hs,b7⟩]at hF;refine .inr ⟨by rw[hF];omega, ?_⟩;rw[hF];simp only[@decide_eq_true _ (Classical.propDecidable _) b7,cond_true]
   rw[if_neg fun h=>b7 h.2]at hF;simp only[@decide_eq_false _ (Classical.propDecidable _) b7,cond_false];by_cases b8: ∃j,j<i/\ZdO (lk n j)=ZdO x
   ·rw[if_pos b8]at hF;refine .inr ⟨by rw[hF];omega, ?_⟩;rw[hF];rw[show Vf (Zaw (Zai Zif) [x.1,x.2.1,x.2.2.1,x.2.2.2.1] mS) false=true from (hS _).2 b8];rfl
   rw[if_neg b8]at hF;refine .inl ⟨hF,_, ?_,ZaS (Zai Y3) x.1 x.2.2.1 mN,ZaS (Zai Y3) x.2.2.1 true mI,ZaS (Zai Zif) (ZdO x) true mS,rfl, ?_, ?_, ?_⟩
   ·rw[show Vf (Zaw (Zai Zif) [x.1,x.2.1,x.2.2.1,x.2.2.2.1] mS) false=false from Ze3 hS b8];simp only[cond_false,Zay hi hl];rfl
   ·intro a;rw[Zcv rfl,hN];show _=nx _ _ _ (i+1) a;unfold nx;simp only[hy,hs,true_and];by_cases ha:a=x.1
    ·rw[if_pos ha,if_pos ha.symm]
    ·rw[if_neg ha,if_neg fun h=>ha h.symm];rfl
   ·intro b;rw[Zcv rfl];by_cases hb:b=x.2.2.1
    ·rw[if_pos hb];exact⟨fun _=>⟨i,by omega,by rw[hy];exact hs,by rw[hy,hb]⟩,fun _=>rfl⟩
    ·rw[if_neg hb,hI];refine⟨fun⟨j,h1,h2⟩=>⟨j,by omega,h2⟩,fun⟨j,h1,h2,h3⟩=>⟨j, ?_,h2,h3⟩⟩;by_cases e:j=i
     ·subst e;rw[hy]at h3;exact absurd h3.symm hb
     ·omega
   ·have:=Ze7.add (t:=Zif) rfl hS;simp only[hy]at this;exact this
  ·have hs' :x.2.2.2.2.1=false:=by simpa using hs
   simp only[hs',Vna,false_and,if_false,cond_false]at hF ⊢;by_cases b8: ∃j,j<i/\ZdO (lk n j)=ZdO x
   ·rw[if_pos b8]at hF;refine .inr ⟨by rw[hF];omega, ?_⟩;rw[hF];rw[show Vf (Zaw (Zai Zif) [x.1,x.2.1,x.2.2.1,x.2.2.2.1] mS) false=true from (hS _).2 b8];rfl
   rw[if_neg b8]at hF;refine .inl ⟨hF,_, ?_,mN,mI,ZaS (Zai Zif) (ZdO x) true mS,rfl, ?_, ?_, ?_⟩
   ·rw[show Vf (Zaw (Zai Zif) [x.1,x.2.1,x.2.2.1,x.2.2.2.1] mS) false=false from Ze3 hS b8];simp only[cond_false,Zay hi hl];rfl
   ·intro a;rw[hN];show _=nx _ _ _ (i+1) a;unfold nx;simp only[hy,hs',Vna,false_and,if_false];rfl
   ·intro b;rw[hI];refine⟨fun⟨j,h1,h2⟩=>⟨j,by omega,h2⟩,fun⟨j,h1,h2,h3⟩=>⟨j, ?_,h2,h3⟩⟩;by_cases e:j=i
    ·subst e;rw[hy]at h2;exact absurd h2 hs
    ·omega
   ·have:=Ze7.add (t:=Zif) rfl hS;simp only[hy]at this;exact this
 ·rintro _ ⟨mN,mI,mS,rfl,_⟩;simp only[ZaW,cond_false]
end Q
namespace Q
open Tr Go
open Option (bind_some)
theorem ZhJ(x:Int){m:Nat}(hm:m<=9223372036854775807):F89 x 0 (Vc .i64 ((m:Int) - 1))=some (inR x m):=by
 rw[ZcR,ZaA (by omega) (by omega)];unfold inR;by_cases h1:0<=x
 ·by_cases h2:x< (m:Int)
  ·rw[decide_eq_true h1,decide_eq_true h2,decide_eq_true ⟨h1,by omega⟩];rfl
  ·rw[decide_eq_true h1,decide_eq_false h2,decide_eq_false (fun h=>h2 (by omega))];rfl
 ·rw[decide_eq_false h1,decide_eq_false (fun h=>h1 h.1)];rfl
theorem Zn6     (n : Zdt ){i : Nat}(hi : i <= n.2.2.2.1.length)(hl : n.2.2.2.1.length <= 9223372036854775807)(a : Int) :
    run (fun s1 : Int × Int =>
                bif decide (s1.snd < (i : Int)) then
                  Vb
                    (Vb (idx n.snd.snd.snd.fst s1.snd) fun x2 =>
                      bif x2.snd.snd.snd.snd.fst then Vb (idx n.snd.snd.snd.fst s1.snd) fun x3 => some (decide (x3.fst = a)) else some false)
                    fun x4 =>
                    bif x4 then Vb (idx n.snd.snd.snd.fst s1.snd) fun x5 => some (Sum.inl (x5.snd.snd.fst, Vc .i64 (s1.snd + (1 : Int))))
                    else some (Sum.inl (s1.fst, Vc .i64 (s1.snd + (1 : Int))))
                else some (Sum.inr s1.fst))
              ((-1 : Int), (0 : Int)) = some ((nxL n i a).getD (-1)) := by
  have h := Za3      (n := i) (fun j (st : Int × Int) => st = ((nxL n j a).getD (-1), (j : Int))) (fun _ => 0) (fun _ => (nxL n i a).getD (-1)) ((nxL n i a).getD (-1)) (step := fun s1 : Int × Int =>
                bif decide (s1.snd < (i : Int)) then
                  Vb
                    (Vb (idx n.snd.snd.snd.fst s1.snd) fun x2 =>
                      bif x2.snd.snd.snd.snd.fst then Vb (idx n.snd.snd.snd.fst s1.snd) fun x3 => some (decide (x3.fst = a)) else some false)
                    fun x4 =>
                    bif x4 then Vb (idx n.snd.snd.snd.fst s1.snd) fun x5 => some (Sum.inl (x5.snd.snd.fst, Vc .i64 (s1.snd + (1 : Int))))
                    else some (Sum.inl (s1.fst, Vc .i64 (s1.snd + (1 : Int))))
                else some (Sum.inr s1.fst)) ?_ ?_ ?_ ((-1 : Int), (0 : Int)) rfl
  · rw [h]
    unfold pick;rw [ZbG           fun _ _ => rfl]
  · rintro j _ hj rfl _
    have hjl : j < n.2.2.2.1.length := by omega
    have hx : n.2.2.2.1[j] = lk n j := (ZaB     hjl l0).symm;refine ⟨((nxL n (j + 1) a).getD (-1), ((j + 1 : Nat) : Int)), ?_, rfl⟩;simp only [ZaH    hj, cond_true, Zam     hjl, bind_some, hx, Zay       hjl hl]
    have hn : nxL n (j + 1) a = if (lk n j).2.2.2.2.1 = true /\ (lk n j).1 = a then some (lk n j).2.2.1 else nxL n j a := rfl
    rw [hn]
    cases hs : (lk n j).2.2.2.2.1 with
    | false =>
      rw [if_neg (fun h => (nomatch h.1))]; rfl
    | true =>
      by_cases ha : (lk n j).1 = a
      · rw [if_pos ⟨rfl, ha⟩, decide_eq_true ha]; rfl
      · rw [if_neg (fun h => ha h.2), decide_eq_false ha]; rfl
  · intro j s _ _ h; exact absurd rfl h
  · rintro _ rfl
    simp only [ZaW    , cond_false]
theorem Zld       (n : Zdt ){i : Nat}(hi : i <= n.2.2.2.1.length)(hl : n.2.2.2.1.length <= 9223372036854775806)(hj : ∀ j, j < i -> Zb7   n j = 0)(to fr : Int)(hfr : 0 <= fr) :
    F90 n (i : Int) to fr = some (@decide (∃ k, orb (nxL n i) to (k + 1) = some fr) (Classical.propDecidable _)) := by
  classical
  unfold F90
  have hneg : nxL n i (-1) = none := by
    cases h : nxL n i (-1) with
    | none => rfl
    | some b =>
      obtain ⟨j, h1, h2, h3, _⟩ := ZhZ     h;have := Zjz         (hj j h1);have h4 : (lk n j).1 = -1 := h3;omega
  have hlast := Zn6      n hi (by omega)
  have key : ∀ (r k : Nat) (a : Int), i + 1 - k = r -> k <= i + 1 -> run (fun s0 : Int × Int =>
        bif decide (s0.snd <= (i : Int)) then
          Vb
            (run
              (fun s1 =>
                bif decide (s1.snd < (i : Int)) then
                  Vb
                    (Vb (idx n.snd.snd.snd.fst s1.snd) fun x2 =>
                      bif x2.snd.snd.snd.snd.fst then Vb (idx n.snd.snd.snd.fst s1.snd) fun x3 => some (decide (x3.fst = s0.fst)) else some false)
                    fun x4 =>
                    bif x4 then Vb (idx n.snd.snd.snd.fst s1.snd) fun x5 => some (Sum.inl (x5.snd.snd.fst, Vc .i64 (s1.snd + (1 : Int))))
                    else some (Sum.inl (s1.fst, Vc .i64 (s1.snd + (1 : Int))))
                else some (Sum.inr s1.fst))
              ((-1 : Int), (0 : Int)))
            fun x6 => bif decide (x6 = fr) then some (Sum.inr (Sum.inr true)) else some (Sum.inl (x6, Vc .i64 (s0.snd + (1 : Int))))
        else some (Sum.inr (Sum.inl ())))
      (a, (k : Int)) = some (if ∃ t, k + t <= i /\ orb (nxL n i) a (t + 1) = some fr then Sum.inr true else Sum.inl ()) := by
    intro r
    induction r with
    | zero =>
      intro k a hr hk;rw [if_neg (by rintro ⟨t, h, _⟩; omega)]
      exact Zb2     (by simp only [decide_eq_false (show ¬ (k : Int) <= (i : Int) by omega), cond_false])
    | succ r ih =>
      intro k a hr hk;have hw : Vc .i64 ((k : Int) + 1) = ((k + 1 : Nat) : Int) := by rw [ZaA      (by omega) (by omega)]; omega
      by_cases hf : (nxL n i a).getD (-1) = fr
      · have : nxL n i a = some fr := by
          cases h : nxL n i a with
          | none => rw [h]at hf; simp at hf; omega
          | some b => rw [h]at hf; simp at hf; rw [hf]
        rw [if_pos ⟨0, by omega, by simp [orb, this]⟩];refine Zb2     ?_;simp only [decide_eq_true (show (k : Int) <= (i : Int) by omega), cond_true, hlast, bind_some, decide_eq_true hf]
      · rw [ZdP     (s' := ((nxL n i a).getD (-1), ((k + 1 : Nat) : Int))) (by simp only [decide_eq_true (show (k : Int) <= (i : Int) by omega), cond_true, hlast, bind_some, decide_eq_false hf, cond_false, hw]), ih (k + 1) _ (by omega) (by omega)]
        have hiff : (∃ t, k + 1 + t <= i /\ orb (nxL n i) ((nxL n i a).getD (-1)) (t + 1) = some fr) ↔ ∃ t, k + t <= i /\ orb (nxL n i) a (t + 1) = some fr := by
          cases h : nxL n i a with
          | none =>
            refine ⟨fun ⟨t, _, ht⟩ => ?_, fun ⟨t, _, ht⟩ => ?_⟩
            · simp [orb, hneg]at ht
            · simp [orb, h]at ht
          | some b =>
            refine ⟨fun ⟨t, h1, ht⟩ => ⟨t + 1, by omega, ?_⟩, fun ⟨t, h1, ht⟩ => ?_⟩
            · show (nxL n i a).bind (fun b => orb (nxL n i) b (t + 1)) = _
              rw [h]; exact ht
            · have ht' : (nxL n i a).bind (fun b => orb (nxL n i) b t) = some fr := ht
              rw [h]at ht'
              cases t with
              | zero => rw [h]at hf; exact absurd (Option.some.inj ht') hf
              | succ t => exact ⟨t, by omega, ht'⟩
        by_cases h : ∃ t, k + 1 + t <= i /\ orb (nxL n i) ((nxL n i a).getD (-1)) (t + 1) = some fr
        · rw [if_pos h, if_pos (hiff.1 h)]
        · rw [if_neg h, if_neg fun e => h (hiff.2 e)]
  refine (congrArg (Vb · _) (key _ 0 to rfl (by omega))).trans ?_
  have hiff : (∃ t, 0 + t <= i /\ orb (nxL n i) to (t + 1) = some fr) ↔ ∃ k, orb (nxL n i) to (k + 1) = some fr := by refine ⟨fun ⟨t, _, h⟩ => ⟨t, h⟩, fun ⟨t, h⟩ => ⟨t, ?_, h⟩⟩;have := Zlt        (Zfq        hj to) h;omega
  by_cases h : ∃ k, orb (nxL n i) to (k + 1) = some fr
  · rw [if_pos (hiff.2 h), decide_eq_true h]; rfl
  · rw [if_neg (fun e => h (hiff.1 e)), decide_eq_false h]; rfl
end Q
namespace Q
open Tr Go
open Option (bind_some)
theorem Zmg{τ:Type}{step:Int->Option (Int ⊕ τ)}{i:Nat}{p:Nat->Prop}{R E:τ}(hno: ∀j:Nat,j<i-> ¬p j->step (j:Int)=some (.inl ((j+1:Nat):Int)))(hyes: ∀j:Nat,j<i->p j->step (j:Int)=some (.inr R))
  (hend:step (i:Int)=some (.inr E)):run step (0:Int)=some (@ite _ (∃j,j<i/\p j) (Classical.propDecidable _) R E):=by
 classical
 obtain⟨h1,h2⟩:=Zf8 hno hyes hend;by_cases h: ∃j,j<i/\p j
 ·rw[if_pos h];exact h1 h
 ·rw[if_neg h];exact h2 h
theorem ZmK      (n : Zdt ){i : Nat}(hi : i < n.2.2.2.1.length)(hl : n.2.2.2.1.length <= 9223372036854775806)(hr : n.2.2.1.length <= 9223372036854775807)
    (hC : ∀ x ∈ n.2.2.1, x.2.2.2.2.2.2.2.1.length <= 9223372036854775807) (hj : ∀ j, j < i -> Zb7   n j = 0) : F91 n (i : Int) = some (Zb7   n i) := by
  classical
  unfold F91;have hx : n.2.2.2.1[i] = lk n i := (ZaB     hi l0).symm;have hl' : n.2.2.2.1.length <= 9223372036854775807 := by omega
  simp only [Zam     hi, bind_some, hx, ZhJ     _ hr];have hF : Zb7   n i = Zb7   n i := rfl
  conv at hF => rhs; unfold Zb7
  simp only at hF;generalize hy : lk n i = x at hF ⊢;by_cases b1 : Zmq  n x = true
  · rw [if_pos b1]at hF
    rw [hF];unfold Zmq  at b1
    revert b1
    generalize inR x.1 n.2.2.1.length = a1;generalize inR x.2.2.1 n.2.2.1.length = a2;generalize decide (x.1 = x.2.2.1) = a3
    cases a1 <;> cases a2 <;> cases a3 <;> intro b1 <;> first | rfl | cases b1
  rw [if_neg b1]at hF;unfold Zmq  at b1;simp only [Vn, Vh, Vt]at b1;obtain ⟨p1, p2, p3⟩ := b1;have e1 : idx n.2.2.1 x.1 = some (rn n x.1) := Zdw     p1 u0;have e2 : idx n.2.2.1 x.2.2.1 = some (rn n x.2.2.1) := Zdw     p2 u0;have c1 := hC _ (ZmA    p1);have c2 := hC _ (ZmA    p2);simp only [p1, p2, p3, Vd, cond_false, bind_some, e1, e2, ZhJ     _ c1, ZhJ     _ c2];by_cases b2 : Zoz  n x = true
  · rw [if_pos b2]at hF
    rw [hF];unfold Zoz  at b2
    revert b2
    generalize inR x.2.1 (rn n x.1).2.2.2.2.2.2.2.1.length = a1;generalize inR x.2.2.2.1 (rn n x.2.2.1).2.2.2.2.2.2.2.1.length = a2
    cases a1 <;> cases a2 <;> intro b2 <;> first | rfl | cases b2
  rw [if_neg b2]at hF;unfold Zoz  at b2;simp only [Vn, Vh, Vt]at b2;obtain ⟨q1, q2⟩ := b2;have e3 : idx (rn n x.1).2.2.2.2.2.2.2.1 x.2.1 = some (cl (rn n x.1).2.2.2.2.2.2.2.1 x.2.1) := Zdw     q1 c0;have e4 : idx (rn n x.2.2.1).2.2.2.2.2.2.2.1 x.2.2.2.1 = some (cl (rn n x.2.2.1).2.2.2.2.2.2.2.1 x.2.2.2.1) := Zdw     q2 c0;simp only [q1, q2, Vd, cond_false, bind_some, e3, e4];by_cases b3 : (cl (rn n x.1).2.2.2.2.2.2.2.1 x.2.1).1 = (cl (rn n x.2.2.1).2.2.2.2.2.2.2.1 x.2.2.2.1).1
  case neg =>
    rw [if_pos b3]at hF;rw [hF];simp only [decide_eq_false b3, Vg, cond_true]
  rw [if_neg (fun h => h b3)]at hF;simp only [decide_eq_true b3, Vd, cond_false];have hw : Vc .i64 (((rn n x.1).2.2.2.2.2.2.2.1.length : Int) - 1) = ((rn n x.1).2.2.2.2.2.2.2.1.length : Int) - 1 := ZaA      (by omega) (by omega)
  have hdup := Zmg    (i := i) (p := fun j => ZdO   (lk n j) = ZdO   x) (τ := Unit ⊕ Int) (R := .inr 6) (E := .inl ()) (step := fun s19 : Int =>
                                        bif decide (s19 < (i : Int)) then
                                            Vb (idx n.snd.snd.snd.fst s19) fun x20 =>
                                              Vb
                                                (bif decide (x20.fst = x.fst) then
                                                  bif decide (x20.snd.fst = x.snd.fst) then
                                                    bif decide (x20.snd.snd.fst = x.snd.snd.fst) then some (decide (x20.snd.snd.snd.fst = x.snd.snd.snd.fst))
                                                    else some false
                                                  else some false
                                                else some false)
                                                fun x21 => bif x21 then some (Sum.inr (Sum.inr (6 : Int))) else some (Sum.inl (Vc .i64 (s19 + (1 : Int))))
                                          else some (Sum.inr (Sum.inl ()))) (fun j hj' hp => by
      have hjl : j < n.2.2.2.1.length := by omega
      have hxj : n.2.2.2.1[j] = lk n j := (ZaB     hjl l0).symm;simp only [ZaH    hj', cond_true, Zam     hjl, bind_some, hxj, Zay       hj' (show i <= 9223372036854775807 by omega)];by_cases d1 : (lk n j).1 = x.1
      · rw [decide_eq_true d1]
        by_cases d2 : (lk n j).2.1 = x.2.1
        · rw [decide_eq_true d2]
          by_cases d3 : (lk n j).2.2.1 = x.2.2.1
          · rw [decide_eq_true d3]
            have d4 : ¬ (lk n j).2.2.2.1 = x.2.2.2.1 := fun d4 => hp (by unfold ZdO  ; rw [d1, d2, d3, d4]);rw [decide_eq_false d4]; rfl
          · rw [decide_eq_false d3]; rfl
        · rw [decide_eq_false d2]; rfl
      · rw [decide_eq_false d1]; rfl) (fun j hj' hp => by
      have hjl : j < n.2.2.2.1.length := by omega
      have hxj : n.2.2.2.1[j] = lk n j := (ZaB     hjl l0).symm;unfold ZdO   at hp;simp only [List.cons.injEq, and_true]at hp;simp only [ZaH    hj', cond_true, Zam     hjl, bind_some, hxj, decide_eq_true hp.1, decide_eq_true hp.2.1, decide_eq_true hp.2.2.1, decide_eq_true hp.2.2.2]) (by simp only [ZaW    , cond_false])
  by_cases hs : x.2.2.2.2.1 = true
  · simp only [hs, true_and, cond_true, hw]at hF hdup ⊢
    by_cases b4 : x.2.1 + 1 = ((rn n x.1).2.2.2.2.2.2.2.1.length : Int)
    case neg =>
      rw [if_pos b4]at hF;rw [hF];simp only [decide_eq_false (show ¬ x.2.1 = ((rn n x.1).2.2.2.2.2.2.2.1.length : Int) - 1 by omega), Vg, cond_true, bind_some]
    rw [if_neg (fun h => h b4)]at hF;simp only [decide_eq_true (show x.2.1 = ((rn n x.1).2.2.2.2.2.2.2.1.length : Int) - 1 by omega), Vd, cond_false, bind_some];by_cases b5 : x.2.2.2.1 = 0
    case neg =>
      rw [if_pos b5]at hF;rw [hF];simp only [decide_eq_false b5, Vg, cond_true]
    rw [if_neg (fun h => h b5)]at hF
    have hfr : 0 <= x.1 := by unfold inR at p1;simp only [Vw, decide_eq_true_eq]at p1;exact p1.1
    have hclash := Zmg    (i := i) (p := fun j => (lk n j).2.2.2.2.1 = true /\ ((lk n j).1 = x.1 \/ (lk n j).2.2.1 = x.2.2.1)) (τ := Unit ⊕ Int) (R := .inr 19) (E := .inl ()) (step := fun s12 : Int =>
                                bif decide (s12 < (i : Int)) then
                                  Vb (idx n.snd.snd.snd.fst s12) fun x13 =>
                                    Vb
                                      (
                                        bif x13.snd.snd.snd.snd.fst then
                                          bif decide (x13.fst = x.fst) then some true else some (decide (x13.snd.snd.fst = x.snd.snd.fst))
                                        else some false)
                                      fun x14 => bif x14 then some (Sum.inr (Sum.inr (19 : Int))) else some (Sum.inl (Vc .i64 (s12 + (1 : Int))))
                                else some (Sum.inr (Sum.inl ()))) (fun j hj' hp => by
      have hjl : j < n.2.2.2.1.length := by omega
      have hxj : n.2.2.2.1[j] = lk n j := (ZaB     hjl l0).symm;simp only [ZaH    hj', cond_true, Zam     hjl, bind_some, hxj, Zay       hj' (show i <= 9223372036854775807 by omega)]
      cases hsj : (lk n j).2.2.2.2.1 with
      | false => rfl
      | true =>
        rw [decide_eq_false (fun e => hp ⟨hsj, .inl e⟩), decide_eq_false (fun e => hp ⟨hsj, .inr e⟩)]; rfl) (fun j hj' hp => by
      have hjl : j < n.2.2.2.1.length := by omega
      have hxj : n.2.2.2.1[j] = lk n j := (ZaB     hjl l0).symm;simp only [ZaH    hj', cond_true, Zam     hjl, bind_some, hxj, hp.1];by_cases d1 : (lk n j).1 = x.1
      · rw [decide_eq_true d1]; rfl
      · rw [decide_eq_false d1, decide_eq_true (hp.2.resolve_left d1)]; rfl) (by simp only [ZaW    , cond_false])
    simp only [decide_eq_true b5, Vd, cond_false];refine (congrArg (Vb · _) hclash).trans ?_;simp only [bind_some];by_cases b6 : ∃ j, j < i /\ (lk n j).2.2.2.2.1 = true /\ ((lk n j).1 = x.1 \/ (lk n j).2.2.1 = x.2.2.1)
    · rw [if_pos b6]at hF
      rw [hF, if_pos b6];rfl
    rw [if_neg b6]at hF;rw [if_neg b6];simp only [Vj, Zld        n (Nat.le_of_lt hi) hl hj x.2.2.1 x.1 hfr, bind_some];by_cases b7 : ∃ k, orb (nxL n i) x.2.2.1 (k + 1) = some x.1
    · rw [if_pos b7]at hF
      rw [hF, decide_eq_true b7];rfl
    rw [if_neg b7]at hF;rw [decide_eq_false b7];simp only [cond_false];refine (congrArg (Vb · _) hdup).trans ?_;rw [hF];by_cases b8 : ∃ j, j < i /\ ZdO   (lk n j) = ZdO   x
    · rw [if_pos b8, if_pos b8]; rfl
    · rw [if_neg b8, if_neg b8]; rfl
  · have hs' : x.2.2.2.2.1 = false := by simpa using hs
    have hrun := Zmg    (i := i) (p := fun _ => False) (τ := Unit ⊕ Int) (R := .inr 19) (E := .inl ()) (step := fun s12 : Int =>
                                bif decide (s12 < (i : Int)) then
                                  Vb (idx n.snd.snd.snd.fst s12) fun _ =>
                                    Vb
                                      (some false)
                                      fun x14 => bif x14 then some (Sum.inr (Sum.inr (19 : Int))) else some (Sum.inl (Vc .i64 (s12 + (1 : Int))))
                                else some (Sum.inr (Sum.inl ()))) (fun j hj' _ => by
      have hjl : j < n.2.2.2.1.length := by omega
      simp only [ZaH    hj', cond_true, Zam     hjl, bind_some, cond_false, Zay       hj' (show i <= 9223372036854775807 by omega)]) (fun j _ h => h.elim) (by simp only [ZaW    , cond_false])
    rw [if_neg (by simp)]at hrun;simp only [hs', Vna, false_and, if_false, cond_false, bind_some]at hF hrun hdup ⊢;refine (congrArg (Vb · _) hrun).trans ?_;simp only [bind_some, Vj];refine (congrArg (Vb · _) hdup).trans ?_;rw [hF];by_cases b8 : ∃ j, j < i /\ ZdO   (lk n j) = ZdO   x
    · rw [if_pos b8, if_pos b8]; rfl
    · rw [if_neg b8, if_neg b8]; rfl
end Q
namespace Q
open Tr Go
open Option (bind_some)
abbrev Zq9:=Int×Int×Int×Unit
def Zp2(a b:Zq9):Zq9:=if a.2.2.1=0 then b else a
theorem Zi7(a b:El Zcb):F56 [a,b]=some (Zp2 a (Zp2 b (0,0,0,()))):=by
 revert a b
 show∀a b:Zq9,F56 [a,b]=some (Zp2 a (Zp2 b (0,0,0,())));intro a b;unfold F56 Zp2;by_cases ha:a.2.2.1=0
 ·rw[if_pos ha];by_cases hb:b.2.2.1=0
  ·rw[if_pos hb,ZdP (s' :=((0,0,0,()),(1:Int))) (by simp [idx,ha,Vc,Vua,Veb]),ZdP (s' :=((0,0,0,()),(2:Int))) (by simp [idx,hb,Vc,Vua,Veb]),Zb2 (r:= .inl (0,0,0,())) (by simp)];rfl
  ·rw[if_neg hb,ZdP (s' :=((0,0,0,()),(1:Int))) (by simp [idx,ha,Vc,Vua,Veb]),Zb2 (r:= .inr b) (by simp [idx,hb])];rfl
 ·rw[if_neg ha,Zb2 (r:= .inr a) (by simp [idx,ha])];rfl
structure Fit (n:Zdt):Prop where
 stops: ∀x∈n.1,x.1.length<=9223372036854775807
 routes: ∀x∈n.2.1,x.1.length<=9223372036854775807
 runs: ∀x∈n.2.2.1,x.2.2.2.1.length<=9223372036854775807
 calls: ∀x∈n.2.2.1,x.2.2.2.2.2.2.2.1.length<=9223372036854775807
 paths:n.2.2.2.2.1.length<=4096
 prods: ∀x∈n.2.2.2.2.2.1.1,x.1.length<=9223372036854775807
def Zqt(l:List Zee):Prop:= ∀i (hi:i<l.length),0<=l[i].2.1/\l[i].2.1<=l[i].2.2.1/\l[i].2.2.1<=3155932800/\(0<i->(l[i - 1]'(by omega)).1≠l[i].1/\(l[i - 1]'(by omega)).2.2.1<=l[i].2.1)
structure ZqJ (n:Zdt):Prop where
 stops:n.1.length<=64
 runs:n.2.2.1.length<=1024
 links:n.2.2.2.1.length<=1024
 zone: ∀x∈n.1,0<=x.2.1/\x.2.1<16
 mode: ∀x∈n.2.1,0<=x.2.1/\x.2.1<=7
 route: ∀x∈n.2.2.1,0<=x.2.2.2.2.1/\x.2.2.2.2.1< (n.2.1.length:Int)
 many: ∀x∈n.2.2.1,2<=x.2.2.2.2.2.2.2.1.length/\x.2.2.2.2.2.2.2.1.length<=32
 call: ∀x∈n.2.2.1, ∀c∈x.2.2.2.2.2.2.2.1,0<=c.1/\c.1< (n.1.length:Int)
 time: ∀x∈n.2.2.1,Zqt x.2.2.2.2.2.2.2.1
 base: ∀x∈n.2.2.1, -1<=x.1/\0<=x.2.2.1/\0<=x.2.1/\x.2.1<=36524
 fare: (ZgK n.2.2.2.2.2.1).2=0
theorem ZiI{n:Nat}{chk:Nat->Int}{E:Int×Int}(h: (pick n chk (fun i=>((i:Int),chk i)) E).2=0): ∀j,j<n->chk j=0:=by
 unfold pick at h
 cases hf:Zaq n chk with
 |none=>exact Za4.1 hf
 |some i=>rw[hf]at h;exact absurd h (Zbs hf).2
theorem ZlZ{l:List Zee}{n:Int}(h:ZeS l n 0 3155932800=0):Zqt l:=by
 unfold ZeS at h;split at h
 ·omega
 ·intro i hi
  have hz:Zhx l n 0 3155932800 i=0:=by
   unfold pick at h
   cases hf:Zaq l.length (Zhx l n 0 3155932800) with
   |none=>exact Za4.1 hf i hi
   |some i=>rw[hf]at h;exact absurd h (Zbs hf).2
  unfold Zhx at hz;split at hz
  ·omega
  split at hz
  ·omega
  next h2=>
   split at hz
   ·omega
   next h3=>
    unfold ZkO at h2;unfold ZkT at h3;rw[ZaB hi]at h2 h3;simp only[Vla,Vw,decide_eq_true_eq,not_or,not_and]at h2 h3;refine⟨by omega,by omega,by omega,fun h0=> ?_⟩;have hi' :i - 1<l.length:=by omega
    have a:=h2 h0;have b:=h3.2.2.2 h0;rw[ZaB hi']at a b;exact⟨a,by omega⟩
theorem ZiX{l:List Zee}{n lo hi:Int}(h:ZeS l n lo hi=0): (2<=l.length/\l.length<=32)/\ ∀c∈l,0<=c.1/\c.1<n:=by
 unfold ZeS at h;split at h
 ·omega
 ·refine⟨by omega,fun c hc=> ?_⟩;obtain⟨j,hj,rfl⟩:=Vo hc
  have hz:Zhx l n lo hi j=0:=by
   unfold pick at h
   cases hf:Zaq l.length (Zhx l n lo hi) with
   |none=>exact Za4.1 hf j hj
   |some i=>rw[hf]at h;exact absurd h (Zbs hf).2
  unfold Zhx at hz;split at hz
  ·omega
  ·next hb=>
   unfold Zks at hb;rw[ZaB hj]at hb;simp only[Vla,decide_eq_true_eq]at hb;omega
theorem Zoc{n:Zdt}(s: (Zf0 n.1).2=0)(t: (Zeo n.2.1).2=0)(u:n.2.2.1.length<=1024)(hf:Zaq n.2.2.1.length (Zji n)=none)(v:n.2.2.2.1.length<=1024)(z: (ZgK n.2.2.2.2.2.1).2=0):ZqJ n:=by
 unfold Zf0 at s;unfold Zeo at t;split at s
 ·exact absurd s (by decide)
 split at t
 ·exact absurd t (by decide)
 have hs:=ZiI s;have ht:=ZiI t;have hr:=Za4.1 hf
 have key: ∀x∈n.2.2.1,((0<=x.2.2.2.2.1/\x.2.2.2.2.1< (n.2.1.length:Int))/\ -1<=x.1/\0<=x.2.2.1/\0<=x.2.1/\x.2.1<=36524)/\ZeS x.2.2.2.2.2.2.2.1 (n.1.length:Int) 0 3155932800=0:=by
  intro x hx;obtain⟨j,hj,rfl⟩:=Vo hx;have h:=hr j hj;unfold Zji at h;simp only[ZaB hj]at h;split at h
  ·omega
  split at h
  ·omega
  next h2=>
  split at h
  ·omega
  next h3=>
  split at h
  ·omega
  next h4=>
   split at h
   ·next h5=>exact absurd h h5
   ·next h5=>
    simp only[Vla,decide_eq_true_eq]at h2 h3 h4;exact⟨by omega,by simpa using h5⟩
 refine⟨by omega,u,v,fun x hx=> ?_,fun x hx=> ?_,fun x hx=>(key x hx).1.1,fun x hx=>(ZiX (key x hx).2).1,fun x hx=>(ZiX (key x hx).2).2,fun x hx=>ZlZ (key x hx).2,fun x hx=>(key x hx).1.2,z⟩
 ·obtain⟨j,hj,rfl⟩:=Vo hx;have h:=hs j hj;unfold Zfn Zeu at h;simp only[ZaB hj]at h;split at h
  ·omega
  split at h
  ·omega
  split at h
  ·omega
  next h3=>omega
 ·obtain⟨j,hj,rfl⟩:=Vo hx;have h:=ht j hj;unfold Zc5 Zeu at h;simp only[ZaB hj]at h;split at h
  ·omega
  split at h
  ·omega
  split at h
  ·omega
  next h3=>omega
structure Whole (n:Zdt):Prop where
 s: (Zf0 n.1).2=0
 t: (Zeo n.2.1).2=0
 u:n.2.2.1.length<=1024
 f:Zaq n.2.2.1.length (Zji n)=none
 v:n.2.2.2.1.length<=1024
 g:Zaq n.2.2.2.1.length (Zb7 n)=none
 q:Zaq n.2.2.2.2.1.length (ZbA n.1.length n.2.2.2.2.1)=none
 w: ∀c,F84 n.2.2.2.2.1 (n.1.length:Int)=some c->Zcw c n.2.2.2.2.1=true
 z: (ZgK n.2.2.2.2.2.1).2=0
theorem Whole.sound{n:Zdt}(h:Whole n):ZqJ n:=Zoc h.s h.t h.u h.f h.v h.z
theorem ZiW(n:Zdt)(h:Fit n): ∃r:Int×Int×Int,F51 n=some r/\F83 n=some r/\(r.2.2=0↔Whole n):=by
 unfold F51 F83;rw[ZoL n.1 h.stops,Zml n.2.1 h.routes,Zls n.1,Zju n.2.1,ZoB n h.runs,Zmt n h.calls,Zn3 _ h.prods,Zle];simp only[bind_some,F65];erw[Zi7];simp only[bind_some];by_cases s: (Zf0 n.1).2=0
 case neg=>
  refine⟨(0,(Zf0 n.1).1,(Zf0 n.1).2), ?_, ?_,⟨fun e=>absurd e s,fun W=>absurd W.s s⟩⟩
  ·simp only[Zp2,if_neg s,decide_eq_false s,cond_false,bind_some]
  ·simp only[decide_eq_false s,Vg,cond_true]
 have hs:n.1.length<=64:=by
  unfold Zf0 at s;split at s
  ·exact absurd s (by decide)
  ·omega
 obtain⟨c,hcc,hp1,hp2⟩:=ZlV n hs h.paths;rw[hp1,hp2];clear hp1 hp2;simp only[bind_some];erw[Zi7];simp only[Zp2,if_pos s,decide_eq_true s,Vd,cond_false,bind_some];by_cases t: (Zeo n.2.1).2=0
 case neg=>
  refine⟨(1,(Zeo n.2.1).1,(Zeo n.2.1).2), ?_, ?_,⟨fun e=>absurd e t,fun W=>absurd W.t t⟩⟩
  ·simp only[if_neg t,decide_eq_false t,cond_false,bind_some]
  ·simp only[decide_eq_false t,Vg,cond_true]
 simp only[if_pos t,decide_eq_true t,Vd,cond_false];by_cases u:1024<n.2.2.1.length
 ·refine⟨(2,0,5), ?_, ?_,⟨fun e=>absurd e (show¬ (5:Int)=0 by decide),fun W=>absurd W.u (by omega)⟩⟩
  ·simp [Zoh,u]
  ·rw[decide_eq_true (show (1024:Int)< (n.2.2.1.length:Int) by omega)];rfl
 rw[decide_eq_false (show¬ (1024:Int)< (n.2.2.1.length:Int) by omega)];simp only[cond_false];rw[Za3 (n:=n.2.2.1.length) (fun i (st:Int)=>st=(i:Int)) (Zji n) (fun i=> .inr ((2:Int),(i:Int),Zji n i)) (.inl ()) ?_ ?_ ?_ (0:Int) rfl]
 rotate_left
 ·rintro i _ hi rfl hc;refine⟨((i+1:Nat):Int), ?_,rfl⟩;simp only[ZaH hi,cond_true,Zkj n hi (by omega),bind_some,hc,decide_true,Vd,cond_false,Zay hi (show n.2.2.1.length<=9223372036854775807 by omega)]
 ·rintro i _ hi rfl hc;simp only[ZaH hi,cond_true,Zkj n hi (by omega),bind_some,decide_eq_false hc,Vg]
 ·rintro _ rfl;simp only[ZaW,cond_false]
 unfold Zoh;rw[if_neg u];unfold pick
 cases hf:Zaq n.2.2.1.length (Zji n) with
 |some i=>
  have hb:=(Zbs hf).2;refine⟨(2,(i:Int),Zji n i), ?_, ?_,⟨fun e=>absurd e hb,fun W=>by rw[W.f]at hf;cases hf⟩⟩
  ·simp only[decide_true,cond_true,bind_some,decide_eq_false hb,cond_false]
  ·simp only[bind_some,Vdb]
 |none=>
 simp only[bind_some,Vj,decide_true,cond_true];by_cases v:1024<n.2.2.2.1.length
 ·refine⟨(3,0,5), ?_, ?_,⟨fun e=>absurd e (show¬ (5:Int)=0 by decide),fun W=>absurd W.v (by omega)⟩⟩
  ·simp [ZkP,v]
  ·rw[decide_eq_true (show (1024:Int)< (n.2.2.2.1.length:Int) by omega)];rfl
 rw[decide_eq_false (show¬ (1024:Int)< (n.2.2.2.1.length:Int) by omega)];simp only[cond_false];rw[ZiQ (n:=n.2.2.2.1.length) (fun i (st:Int)=>st=(i:Int)) (Zb7 n) (fun i=> .inr ((3:Int),(i:Int),Zb7 n i)) (.inl ()) ?_ ?_ (0:Int) rfl]
 rotate_left
 ·rintro i _ hi hj rfl;have hv:=ZmK n hi (by omega) (by omega) h.calls hj;by_cases hc:Zb7 n i=0
  ·refine .inl ⟨hc,((i+1:Nat):Int), ?_,rfl⟩;simp only[ZaH hi,cond_true,hv,bind_some,hc,decide_true,Vd,cond_false,Zay hi (show n.2.2.2.1.length<=9223372036854775807 by omega)]
  ·refine .inr ⟨hc, ?_⟩;simp only[ZaH hi,cond_true,hv,bind_some,decide_eq_false hc,Vg]
 ·rintro _ rfl;simp only[ZaW,cond_false]
 unfold ZkP;rw[if_neg v];unfold pick
 cases hg:Zaq n.2.2.2.1.length (Zb7 n) with
 |some i=>
  have hb:=(Zbs hg).2;refine⟨(3,(i:Int),Zb7 n i), ?_, ?_,⟨fun e=>absurd e hb,fun W=>by rw[W.g]at hg;cases hg⟩⟩
  ·simp only[decide_eq_false hb,cond_false,bind_some]
  ·simp only[bind_some,Vdb]
 |none=>
 simp only[bind_some,Vj,decide_true,cond_true]
 cases hq:Zaq n.2.2.2.2.1.length (ZbA n.1.length n.2.2.2.2.1) with
 |some i=>
  have hb:=(Zbs hq).2;refine⟨(4,(i:Int),ZbA n.1.length n.2.2.2.2.1 i), ?_, ?_,⟨fun e=>absurd e hb,fun W=>by rw[W.q]at hq;cases hq⟩⟩
  ·simp only[if_neg hb]
  ·simp only[decide_eq_false hb,Vg,cond_true]
 |none=>
 by_cases w:Zcw c n.2.2.2.2.1=true
 case neg=>
  refine⟨(4,0,18), ?_, ?_,⟨fun e=>absurd e (show¬ (18:Int)=0 by decide),fun W=>absurd (W.w c (hcc (Za4.1 hq))) w⟩⟩
  ·simp only[if_neg w];rfl
  ·simp only[if_neg w];rfl
 simp only[if_pos w,if_true,decide_true,Vd,cond_false];by_cases z: (ZgK n.2.2.2.2.2.1).2=0
 ·refine⟨(0,0,0), ?_, ?_,⟨fun _=>⟨s,t,by omega,hf,by omega,hg,hq,fun c2 h2=>by rw[hcc (Za4.1 hq)]at h2;cases h2;exact w,z⟩,fun _=>rfl⟩⟩
  ·simp only[if_pos z]
  ·simp only[decide_eq_true z,Vd,cond_false]
 ·refine⟨(5,(ZgK n.2.2.2.2.2.1).1,(ZgK n.2.2.2.2.2.1).2), ?_, ?_,⟨fun e=>absurd e z,fun W=>absurd W.z z⟩⟩
  ·simp only[if_neg z]
  ·simp only[decide_eq_false z,Vg,cond_true]
end Q
namespace Q
open Tr Go
open Option (bind_some)
abbrev Zow:=Int×Int×Int×Bool×Int×Int×Bool×Bool×Int×Bool×Unit
def qB(k:Nat)(q:Zow):Bool:=inR q.1 k&& (inR q.2.1 k&& (decide (0<=q.2.2.1/\q.2.2.1<=3155932800) && (decide (0<=q.2.2.2.2.1/\q.2.2.2.2.1<=8) && (decide (0<=q.2.2.2.2.2.1/\q.2.2.2.2.2.1<=86400) && (decide (0<=q.2.2.2.2.2.2.2.2.1/\q.2.2.2.2.2.2.2.2.1<=255) && !(q.2.2.2.2.2.2.2.2.2.1&&q.2.2.2.1))))))
theorem ZjX(x a b:Int):F21 x a b=some (decide (a<=x/\x<=b)):=ZcR x a b
theorem Zgu(x a b:Int):F98 x a b=some (decide (a<=x/\x<=b)):=ZcR x a b
theorem ZfJ(x:Int){m:Nat}(hm:m<=9223372036854775807):F98 x 0 (Vc .i64 ((m:Int) - 1))=some (inR x m):=ZhJ x hm
theorem Zlx(k:Nat)(hk:k<=9223372036854775807)(q:Zow):F97 (k:Int) q=some (qB k q):=by
 unfold F97 qB;simp only[Zgu];rw[show decide ((0:Int)<=q.1/\q.1<=Vc .i64 ((k:Int) - 1))=inR q.1 k from Option.some.inj ((Zgu _ _ _).symm.trans (ZfJ q.1 hk)),show decide ((0:Int)<=q.2.1/\q.2.1<=Vc .i64 ((k:Int) - 1))=inR q.2.1 k from Option.some.inj ((Zgu _ _ _).symm.trans (ZfJ q.2.1 hk))];simp only[bind_some];generalize inR q.1 k=b1;generalize inR q.2.1 k=b2;generalize decide ((0:Int)<=q.2.2.1/\q.2.2.1<=3155932800)=b3;generalize decide ((0:Int)<=q.2.2.2.2.1/\q.2.2.2.2.1<=8)=b4;generalize decide ((0:Int)<=q.2.2.2.2.2.1/\q.2.2.2.2.2.1<=86400)=b5;generalize decide ((0:Int)<=q.2.2.2.2.2.2.2.2.1/\q.2.2.2.2.2.2.2.2.1<=255)=b6
 generalize q.2.2.2.2.2.2.2.2.2.1=b7;generalize q.2.2.2.1=b8
 cases b1<;>try rfl
 cases b2<;>try rfl
 cases b3<;>try rfl
 cases b4<;>try rfl
 cases b5<;>try rfl
 cases b6<;>try rfl
 cases b7<;>cases b8<;>rfl
open Classical in
noncomputable def ZoX(n:Zdt)(q:Zow):Int:=if Whole n then(if qB n.1.length q=true then 0 else 22) else 21
open Classical in
theorem Zj0{n:Zdt}(h:Fit n):F87 n=some (decide (Whole n)):=by obtain⟨r,_,h2,h3⟩:=ZiW n h;unfold F87;rw[h2];simp only[bind_some];congr 1;exact decide_eq_decide.2 h3
open Classical in
theorem Zov{n:Zdt}(h:Fit n)(q:Zow):F96 n q=some (ZoX n q):=by
 unfold F96 ZoX;rw[Zj0 h];simp only[bind_some];by_cases hW:Whole n
 ·rw[decide_eq_true hW,if_pos hW];have hs:=hW.sound.stops;simp only[Vd,cond_false];rw[Zlx n.1.length (by omega)];simp only[bind_some]
  cases qB n.1.length q<;>rfl
 ·rw[decide_eq_false hW,if_neg hW];rfl
theorem Znt{n:Zdt}(h:Fit n)(q:Zow):F20 n q=some (ZoX n q):=by
 obtain⟨r,h1,_,h3⟩:=ZiW n h;unfold F20 ZoX;rw[h1];simp only[bind_some];by_cases hW:Whole n
 ·rw[decide_eq_true (h3.2 hW),if_pos hW];have hk:n.1.length<=9223372036854775807:=by have:=hW.sound.stops;omega
  simp only[Vd,cond_false,ZjX];rw[show decide ((0:Int)<=q.1/\q.1<=Vc .i64 ((n.1.length:Int) - 1))=inR q.1 n.1.length from Option.some.inj ((Zgu _ _ _).symm.trans (ZfJ q.1 hk)),show decide ((0:Int)<=q.2.1/\q.2.1<=Vc .i64 ((n.1.length:Int) - 1))=inR q.2.1 n.1.length from Option.some.inj ((Zgu _ _ _).symm.trans (ZfJ q.2.1 hk))];unfold qB;simp only[bind_some];generalize inR q.1 n.1.length=b1;generalize inR q.2.1 n.1.length=b2;generalize decide ((0:Int)<=q.2.2.1/\q.2.2.1<=3155932800)=b3;generalize decide ((0:Int)<=q.2.2.2.2.1/\q.2.2.2.2.1<=8)=b4;generalize decide ((0:Int)<=q.2.2.2.2.2.1/\q.2.2.2.2.2.1<=86400)=b5;generalize decide ((0:Int)<=q.2.2.2.2.2.2.2.2.1/\q.2.2.2.2.2.2.2.2.1<=255)=b6
  generalize q.2.2.2.2.2.2.2.2.2.1=b7;generalize q.2.2.2.1=b8
  cases b1<;>try rfl
  cases b2<;>try rfl
  cases b3<;>try rfl
  cases b4<;>try rfl
  cases b5<;>try rfl
  cases b6<;>try rfl
  cases b7<;>cases b8<;>rfl
 ·rw[decide_eq_false (fun e=>hW (h3.1 e)),if_neg hW];rfl
end Q
namespace Q
open Tr Go
open Option (bind_some)
theorem ZdN:F48=some true:=rfl
structure Zqg (n:Zdt):Prop where
 stops:n.1.length<=20
 routes:n.2.1.length<=20
 runs:n.2.2.1.length<=20
 links:n.2.2.2.1.length<=20
 paths:n.2.2.2.2.1.length<=200
 prods:n.2.2.2.2.2.1.1.length<=20
 calls: ∀r∈n.2.2.1,r.2.2.2.2.2.2.2.1.length<=40
theorem Zm0(n:Zdt): ∃b,F50 n=some b/\(b=true->Zqg n):=by
 unfold F50;by_cases h1: (20:Int)< (n.1.length:Int)
 ·rw[decide_eq_true h1];exact⟨false,rfl,fun e=>(nomatch e)⟩
 by_cases h2: (20:Int)< (n.2.1.length:Int)
 ·rw[decide_eq_false h1,decide_eq_true h2];exact⟨false,rfl,fun e=>(nomatch e)⟩
 by_cases h3: (20:Int)< (n.2.2.1.length:Int)
 ·rw[decide_eq_false h1,decide_eq_false h2,decide_eq_true h3];exact⟨false,rfl,fun e=>(nomatch e)⟩
 by_cases h4: (20:Int)< (n.2.2.2.1.length:Int)
 ·rw[decide_eq_false h1,decide_eq_false h2,decide_eq_false h3,decide_eq_true h4];exact⟨false,rfl,fun e=>(nomatch e)⟩
 by_cases h5: (200:Int)< (n.2.2.2.2.1.length:Int)
 ·rw[decide_eq_false h1,decide_eq_false h2,decide_eq_false h3,decide_eq_false h4,decide_eq_true h5];exact⟨false,rfl,fun e=>(nomatch e)⟩
 by_cases h6: (20:Int)< (n.2.2.2.2.2.1.1.length:Int)
 ·rw[decide_eq_false h1,decide_eq_false h2,decide_eq_false h3,decide_eq_false h4,decide_eq_false h5,decide_eq_true h6];exact⟨false,rfl,fun e=>(nomatch e)⟩
 rw[decide_eq_false h1,decide_eq_false h2,decide_eq_false h3,decide_eq_false h4,decide_eq_false h5,decide_eq_false h6];simp only[cond_false,bind_some]
 have key: ∀ (o:Option (Unit ⊕ Bool)),(∃r,o=some r/\(r= .inr false\/r= .inl ()/\ ∀x∈n.2.2.1,x.2.2.2.2.2.2.2.1.length<=40))-> ∃b,(Vb o fun x=>Vnb (fun _=>some true) (fun y=>some y) x)=some b/\(b=true->Zqg n):=by
  rintro o ⟨r,rfl,rfl| ⟨rfl,h⟩⟩
  ·exact⟨false,rfl,fun e=>(nomatch e)⟩
  ·exact⟨true,rfl,fun _=>⟨by omega,by omega,by omega,by omega,by omega,by omega,h⟩⟩
 refine key _ (Zpf n.2.2.1.length _ (fun i (s:Int)=>s=(i:Int)/\ ∀x∈n.2.2.1.take i,x.2.2.2.2.2.2.2.1.length<=40) ?_ ?_ _ ⟨rfl,by simp⟩)
 ·rintro i _ hi ⟨rfl,ha⟩;simp only[ZaH hi,cond_true,Zam hi,bind_some,Zay hi (show _<=9223372036854775807 by omega)];by_cases hc: (40:Int)< ((n.2.2.1[i]).2.2.2.2.2.2.2.1.length:Int)
  ·right;rw[decide_eq_true hc];exact⟨_,rfl, .inl rfl⟩
  ·left;rw[decide_eq_false hc];refine⟨_,rfl,rfl,fun x hx=> ?_⟩;rw[Vr hi,Vca]at hx;rcases hx with hx|hx
   ·exact ha x hx
   ·simp only[List.mem_singleton]at hx;subst hx;omega
 ·rintro _ ⟨rfl,ha⟩;simp only[ZaW,cond_false];rw[Vha]at ha;exact⟨_,rfl, .inr ⟨rfl,ha⟩⟩
theorem Zrj{n:Zdt}(h:Zly Y31 n)(hp:n.2.2.2.2.1.length<=4096):Fit n:=by
 obtain⟨⟨_,h1⟩,⟨_,h2⟩,⟨_,h3⟩,_,_,⟨⟨_,h6⟩,_⟩,_⟩:=h;refine⟨fun x hx=> ?_,fun x hx=> ?_,fun x hx=> ?_,fun x hx=> ?_,hp,fun x hx=> ?_⟩
 ·exact(h1 x hx).1
 ·exact(h2 x hx).1
 ·exact(h3 x hx).2.2.2.1
 ·exact(h3 x hx).2.2.2.2.2.2.2.1.1
 ·exact(h6 x hx).1
noncomputable def Zqb(n:Zdt)(q:Zow)(u:Int):Int:=bif !decide (ZoX n q=0) then ZoX n q else bif q.2.2.2.1 then 22 else bif q.2.2.2.2.2.2.2.2.2.1 then 22 else bif decide (u<q.2.2.1) then 10 else bif decide ((3155932800:Int)<u) then 10 else 0
theorem ZjJ{n:Zdt}(h:Fit n)(q:Zow)(u:Int):F49 n q u=some (Zqb n q u):=by
 unfold F49 Zqb;rw[Zov h];simp only[bind_some]
 cases decide (ZoX n q=0)<;>cases q.2.2.2.1<;>cases q.2.2.2.2.2.2.2.2.2.1<;>cases decide (u<q.2.2.1)<;>cases decide ((3155932800:Int)<u)<;>rfl
theorem Zgg{n:Zdt}(h:Fit n)(q:Zow)(u:Int)(he:Zqb n q u≠0):F76 n q u=some ([],Zqb n q u):=by
 unfold F76;rw[Znt h]
 revert he
 unfold Zqb;simp only[bind_some]
 cases decide (ZoX n q=0)<;>cases q.2.2.2.1<;>cases q.2.2.2.2.2.2.2.2.2.1<;>cases decide (u<q.2.2.1)<;>cases decide ((3155932800:Int)<u)<;>intro he<;>first|rfl|exact absurd rfl he
theorem Zp0(n:Zdt)(h:Zly Y31 n)(q:Zow)(u:Int):F47 n q u=some true:=by
 unfold F47;obtain⟨b,hb1,hb2⟩:=Zm0 n;rw[hb1]
 cases b with
 |false=>simp only[bind_some,Vg,cond_true,ZdN]
 |true=>
  have hS:=hb2 rfl;have hfit:=Zrj h (by have:=hS.paths;omega);simp only[bind_some,Vd,cond_false];rw[ZjJ hfit];simp only[bind_some];by_cases he:Zqb n q u=0
  ·simp only[decide_eq_true he,cond_true,ZdN,bind_some]
  ·have h3: (F76S.f (n,q,u,())).isSome=true:=by show (F76 n q u).isSome=true;rw[Zgg hfit q u he];rfl
   rw[h3,Zgg hfit q u he];simp only[decide_eq_false he,cond_false,cond_true,bind_some,Vqa,Int.natCast_zero,decide_true,ZdN]
theorem refusesP(x:ZcJ F47A)(h:ZiF F47A x):F47 x.1 x.2.1 x.2.2.1=some true:=Zp0 _ h.1 _ _
end Q
