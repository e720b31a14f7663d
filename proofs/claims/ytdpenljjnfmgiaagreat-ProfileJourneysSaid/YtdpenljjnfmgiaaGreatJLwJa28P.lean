/- Plain laws: shortest walks and closures. -/
import Derived.Test.YtdpenljjnfmgiaaGreatFin45hc
import Derived.Test.YtdpenljjnfmgiaaGreatETsF
import Derived.Test.YtdpenljjnfmgiaaGreatLxPop
open BitVec renaming ofInt_natCast ->Vu,toNat_ofNat ->Vy,ofInt ->Vja,toNat_or ->Vib
open Bool renaming not_true ->Vb,or_eq_false_iff ->Vj,and_eq_true ->Vk,not_false ->Vl,not_eq_true ->Vn,not_eq_false' ->Vx,true_and ->Vaa,false_eq_true ->Vda
open Int renaming toNat_natCast ->Vo,le_refl ->Vea,min_eq_right ->Vab
open Go.IntKind renaming wrap ->Va,signed ->Vz,bits ->Vca,i64 ->Vlb,u64 ->Vmb
open List renaming getElem?_eq_getElem ->Vd,getElem_mem ->Vf,replicate ->Vg,getElem_of_mem ->Vh,take_succ_eq_append_getElem ->Vp,length_append ->Vq,range ->Vr,length ->Vs,set ->Vt,length_set ->Vv,getElem?_set_ne ->Vba,drop_eq_getElem_cons ->Vfa,append_assoc ->Vha,pairwise_lt_range ->Vla,getElem?_set_self ->Vma,take ->Vna,length_replicate ->Voa,getElem?_eq_none ->Vpa,pairwise_flatMap ->Vqa,replicate_succ' ->Vra,length_pos_iff ->Vsa,mem_cons ->Vta,flatMap_append ->Vua,mem_map ->Vwa,ext_getElem? ->Vxa,length_cons ->Vya,take_length ->Vza,mem_flatMap ->Vbb,countP_set ->Vdb,mem_append ->Veb,length_map ->Vfb,range_succ ->Vgb,append_nil ->Vhb,isEmpty ->Vjb,set_set ->Vkb
open Nat renaming zero_le ->Vm,le_refl ->Vw,or_lt_two_pow ->Via,strongRecOn ->Vcb
open Option renaming bind ->Vc,getD ->Ve,isSome ->Vga
open Prod.mk renaming injEq ->Vva
open Sum renaming elim_inl ->Vi,elim ->Vka
open Option renaming some ->Ua,none ->Ub
open Bool renaming true ->Uc,false ->Ud
open Decidable renaming decide ->Ue
namespace Gr
inductive Wk (Ed:Nat->Nat->Int->Prop) (s:Nat):Nat->Int->Prop
 |nil:Wk Ed s s 0
 |snoc {u v:Nat}{d w:Int} (h:Wk Ed s u d) (e:Ed u v w):Wk Ed s v (d+w)
def XY(Ed:Nat->Nat->Int->Prop)(s v:Nat)(d:Int):Prop:=Wk Ed s v d/\ ∀a,Wk Ed s v a->d<=a
theorem Wk.nonneg{Ed:Nat->Nat->Int->Prop}(a:∀u v w,Ed u v w->0<=w){s v:Nat}{d:Int}(h:Wk Ed s v d):0<=d:=by
 induction h with
 |nil=>omega
 |snoc h e b=>grind
theorem ZsK{Ed:Nat->Nat->Int->Prop}(g:∀u v w,Ed u v w->0<=w){s:Nat}{S:Nat->Prop}{L:Nat->Int}{O:Nat->Int->Prop}{m:Int}
 (a:∀u,S u->∀d,Wk Ed s u d->L u<=d) (b:S s\/ ∃l,O s l/\l<=0) (c:∀u v w,S u->Ed u v w->S v\/ ∃l,O v l/\l<=L u+w) (f:∀v l,O v l->m<=l):
 ∀{v:Nat}{d:Int},Wk Ed s v d->S v\/m<=d:=by
 intro v d h
 induction h with
 |nil=>
  grind
 | @snoc u v d w h e i=>
   grind
theorem Zq9{Ed:Nat->Nat->Int->Prop}{s:Nat}{S:Nat->Prop}{L:Nat->Int}{O:Nat->Int->Prop}
 (a:S s\/ ∃l,O s l/\l<=0) (b:∀u v w,S u->Ed u v w->S v\/ ∃l,O v l/\l<=L u+w) (c:∀v l,¬O v l):∀{v:Nat}{d:Int},Wk Ed s v d->S v:=by
 intro v d h
 induction h with
 |nil=>grind
 | @snoc u v d w h e f=>grind
theorem Wk.dom{Ed a:Nat->Nat->Int->Prop}(h:∀u v w,Ed u v w->∃w',a u v w' /\w' <=w){s v:Nat}{d:Int}(k:Wk Ed s v d):∃b,Wk a s v b/\b<=d:=by
 induction k with
 |nil=>exact⟨0,.nil,Vea _⟩
 |snoc k e g=>
  obtain⟨b,c,i⟩:=g;obtain⟨w',f,j⟩:=h _ _ _ e;exact⟨_,.snoc c f,by omega⟩
inductive Wb (Ed:Nat->Nat->Int->Prop) (k:Nat):Nat->Nat->Int->Prop
 |one {i j:Nat}{w:Int} (e:Ed i j w):Wb Ed k i j w
 |cons {i m j:Nat}{w d:Int} (e:Ed i m w) (hm:m<k) (h:Wb Ed k m j d):Wb Ed k i j (w+d)
theorem Wb.nonneg{Ed:Nat->Nat->Int->Prop}(a:∀u v w,Ed u v w->0<=w){k i j:Nat}{d:Int}(h:Wb Ed k i j d):0<=d:=by
 induction h with
 |one e=>grind
 |cons e _ _ b=>grind
theorem Wb.round{Ed:Nat->Nat->Int->Prop}(r:∀u v w,Ed u v w->0<=w){k i j:Nat}{d:Int}(h:Wb Ed (k+1) i j d):
 (∃b,b<=d/\Wb Ed k i j b)\/ ∃f c,f+c<=d/\Wb Ed k i k f/\Wb Ed k k j c:=by
 induction h with
 |one e=>exact .inl ⟨_,Vea _,.one e⟩
 | @cons i m j w d e s h q=>
   by_cases p:m=k
   ·subst p;rcases q with ⟨b,l,a⟩|⟨f,c,l,a,o⟩
    ·exact .inr ⟨w,b,by omega,.one e,a⟩
    ·have:=a.nonneg r;exact .inr ⟨w,c,by omega,.one e,o⟩
   ·have g:m<k:=by omega
    rcases q with ⟨b,l,a⟩|⟨f,c,l,a,o⟩
    ·exact .inl ⟨w+b,by omega,.cons e g a⟩
    ·exact .inr ⟨w+f,c,by omega,.cons e g a,o⟩
theorem Wb.mono{Ed:Nat->Nat->Int->Prop}{k a i j:Nat}{d:Int}(c:k<=a)(h:Wb Ed k i j d):Wb Ed a i j d:=by
 induction h with
 |one e=>exact .one e
 |cons e f _ b=>exact .cons e (by omega) b
theorem Wb.app{Ed:Nat->Nat->Int->Prop}{k i m j:Nat}{b c:Int}(g:m<k)(h:Wb Ed k i m b)(f:Wb Ed k m j c):Wb Ed k i j (b+c):=by
 induction h with
 |one e=>exact .cons e g f
 | @cons i p o w d e a _ l=>
   have:=Wb.cons e a (l g f)
   grind
theorem Wb.wk{Ed:Nat->Nat->Int->Prop}{k s i j:Nat}{d a:Int}(b:Wk Ed s i a)(h:Wb Ed k i j d):Wk Ed s j (a+d):=by
 induction h generalizing a with
 |one e=>exact .snoc b e
 |cons e _ _ c=>
  have:=c (.snoc b e)
  grind
theorem Wb.snoc{Ed:Nat->Nat->Int->Prop}{k i j v:Nat}{d w:Int}(a:j<k)(h:Wb Ed k i j d)(e:Ed j v w):Wb Ed k i v (d+w):=h.app a (.one e)
theorem Wk.wb{Ed:Nat->Nat->Int->Prop}{n s v:Nat}{d:Int}(c:∀u v w,Ed u v w->u<n/\v<n)(h:Wk Ed s v d):(v=s/\d=0)\/Wb Ed n s v d:=by
 induction h with
 |nil=>omega
 | @snoc u v d w h e b=>
   rcases b with ⟨rfl,rfl⟩|a
   ·right;rw[Int.zero_add];exact .one e
   ·exact .inr (a.snoc (by grind) e)
end Gr
namespace Q
open Tr Go
abbrev XD:=Int×Int×Int×Unit
abbrev Nd:=XD×Int×Unit
abbrev Hp:=Unit×List Nd×Int×Unit
def Zh0(a b:XD):Bool:=Ue (a.2.1<b.2.1\/(a.2.1=b.2.1/\a.2.2.1<b.2.2.1))
def KS(a b:Nd):Bool:=Ue (a.1.2.1<b.1.2.1\/(a.1.2.1=b.1.2.1/\(a.1.2.2.1<b.1.2.2.1\/(a.1.2.2.1=b.1.2.2.1/\a.2.1<b.2.1))))
def le(a b:Nd):Prop:= ¬(b.1.2.1<a.1.2.1\/(b.1.2.1=a.1.2.1/\(b.1.2.2.1<a.1.2.2.1\/(b.1.2.2.1=a.1.2.2.1/\b.2.1<a.2.1))))
theorem le_refl(a:Nd):le a a:=by unfold le;omega
theorem le_trans{a b c:Nd}(h:le a b)(k:le b c):le a c:=by unfold le at*;omega
theorem ZhW{a b:Nd}(h:KS a b=Uc):le a b:=by
 unfold KS at h;unfold le
 grind
theorem ZhX{a b:Nd}(h:KS a b=Ud):le b a:=by unfold KS at h;exact of_decide_eq_false h
theorem Ztk{a b:Nd}(h:le a b):a.1.2.1<=b.1.2.1:=by unfold le at h;omega
def nd0:Nd:=((0,0,0,()),0,())
def Z8(l:List Nd)(k:Nat):Nd:=(l[k]?).getD nd0
theorem ZcG{l:List Nd}{k:Nat}(h:k<l.length):l[k]? =Ua (Z8 l k):=by simp [Z8,h]
theorem ZjH{l:List Nd}{i:Nat}(h:i<l.length)(b:Nd)(k:Nat):Z8 (l.set i b) k=if k=i then b else Z8 l k:=by
 unfold Z8
 grind
def JS(l:List Nd)(i k:Nat):List Nd:=(l.set i (Z8 l k)).set k (Z8 l i)
theorem Rf(l:List Nd)(i k:Nat):(JS l i k).length=l.length:=by simp [JS]
theorem G8{l:List Nd}{i k:Nat}(a:i<l.length)(b:k<l.length)(j:Nat):Z8 (JS l i k) j=if j=k then Z8 l i else if j=i then Z8 l k else Z8 l j:=by unfold JS;rw[ZjH (by grind),ZjH a]
theorem ZiE{l:List Nd}{i k:Nat}(a:i<l.length)(b:k<l.length):(JS l i k).Perm l:=by
 have c:Z8 l k=l[k]:=by simp [Z8,b]
 have d:Z8 l i=l[i]:=by simp [Z8,a]
 unfold JS
 grind
theorem Ztz(a b:XD):F166 a b=Ua (Zh0 a b):=by
 unfold F166 Zh0
 grind
theorem ZgB{l:List Nd}{c:Int}{i k:Nat}(a:i<l.length)(b:k<l.length):F47 ((),l,c,()) (i:Int) (k:Int)=Ua (((),l,c,()),KS (Z8 l i) (Z8 l k)):=by
 unfold F47;simp only[KM a,KM b,ZcG a,ZcG b,Za,Ztz];unfold Zh0 KS;by_cases d:(Z8 l i).1.2.1<(Z8 l k).1.2.1\/((Z8 l i).1.2.1=(Z8 l k).1.2.1/\(Z8 l i).1.2.2.1<(Z8 l k).1.2.2.1)
 ·grind
 ·rw[Zr d];simp only[Zd];by_cases e:(Z8 l k).1.2.1<(Z8 l i).1.2.1\/((Z8 l k).1.2.1=(Z8 l i).1.2.1/\(Z8 l k).1.2.2.1<(Z8 l i).1.2.2.1)
  ·rw[Zj e];simp only[Ze];rw[Zr (by omega)]
  grind
theorem ZiF{l:List Nd}{c:Int}{i k:Nat}(b:i<l.length)(d:k<l.length):F49 ((),l,c,()) (i:Int) (k:Int)=Ua ((),JS l i k,c,()):=by
 unfold F49;have a:k<(Vt l i (Z8 l k)).length:=by grind
 simp only[KM b,KM d,ZcG b,ZcG d,Za,KM a];rw[Vd a];rfl
def YJ(l:List Nd):Prop:= ∀k,0<k->k<l.length->le (Z8 l ((k - 1) / 2)) (Z8 l k)
theorem ZsT{l:List Nd}(h:YJ l):∀k,k<l.length->le (Z8 l 0) (Z8 l k):=by
 intro k
 induction k using Vcb with
 |ind k c=>
  intro b;by_cases a:k=0
  ·subst a;exact le_refl _
  ·exact le_trans (by grind) (h k (by omega) b)
def Up(l:List Nd)(i:Nat):Prop:=
 i<l.length/\(∀k,0<k->k<l.length->k≠i->le (Z8 l ((k - 1) / 2)) (Z8 l k))/\ ∀k,0<k->k<l.length->(k - 1) / 2=i->0<i->le (Z8 l ((i - 1) / 2)) (Z8 l k)
theorem Zwu{l:List Nd}{i:Nat}(h:Up l i)(t:0<i)(q:KS (Z8 l i) (Z8 l ((i - 1) / 2))=Uc):Up (JS l i ((i - 1) / 2)) ((i - 1) / 2):=by
 obtain⟨g,j,s⟩:=h;have d:(i - 1) / 2<l.length:=by omega
 have m:=ZhW q;refine⟨by rw[Rf];omega,fun k o f p=>?_,fun k o f p r=>?_⟩
 ·rw[Rf]at f;rw[G8 g d,G8 g d];by_cases c:k=i
  ·grind
  ·rw[Zg p,Zg c];by_cases u:(k - 1) / 2=i
   ·grind
   ·by_cases e:(k - 1) / 2=(i - 1) / 2
    ·rw[Zv e];have:=j k o f c;rw[e]at this;exact le_trans m this
    grind
 ·rw[Rf]at f;rw[G8 g d,G8 g d,Zg (by omega),Zg (by omega)];by_cases c:k=i
  ·grind
  ·rw[Zg (by omega),Zg c];have a:=j _ r d (by omega);have b:=j k o f c;rw[p]at b;exact le_trans a b
theorem ZmI{l:List Nd}{c:Int}(x:XD)(h:YJ l)(E:l.length<2147483648):
 ∃z:Hp,F46 ((),l,c,()) x=Ua z/\z.2.2.1=Va .i64 (c+1)/\YJ z.2.1/\z.2.1.Perm (l++[(x,c,())]):=by
 have b:(l++[(x,c,())]).length=l.length+1:=by simp
 have A:Up (l++[(x,c,())]) l.length:=by
  refine⟨by omega,fun k d g F=>?_,by omega⟩;have e:∀j,j<l.length->Z8 (l++[(x,c,())]) j=Z8 l j:=fun j C=>by simp [Z8,List.getElem?_append_left C]
  rw[e _ (by omega),e _ (by omega)];exact h k d (by omega)
 unfold F46
 have w:Zz (decide (l.length+ [((x,c,()):Nd)].length<=ZD))=Ua ():=by rw[Zj (by simp [ZD];omega)];rfl
 have y:Va .i64 (((l++[(x,c,())]).length:Int) - 1)=(l.length:Int):=by rw[b,ZH (by omega) (by omega)];omega
 simp only[w,Za,y]
 refine run_bind (fun s=>∃(m:List Nd) (i:Nat),s=(((),m,Va .i64 (c+1),()),(i:Int))/\Up m i/\m.Perm (l++[(x,c,())])) (fun s=>s.2.toNat)
  (fun r=>∃m:List Nd,r=((),m,Va .i64 (c+1),())/\YJ m/\m.Perm (l++[(x,c,())])) ⟨_,l.length,rfl,A,.refl _⟩ ?_ ?_
 ·rintro s ⟨m,i,rfl,a,f⟩;have D:m.length=l.length+1:=by rw[f.length_eq,b]
  by_cases B:0<i
  ·have t:Va .i64 ((i:Int) - 1)=((i - 1:Nat):Int):=by have:=a.1;rw[ZH (by omega) (by omega)];omega
   have u:Int.tdiv ((i - 1:Nat):Int) 2=(((i - 1) / 2:Nat):Int):=by rfl
   have v:Va .i64 ((((i - 1) / 2:Nat)):Int)=(((i - 1) / 2:Nat):Int):=by have:=a.1;exact ZH (by omega) (by omega)
   have o:(i - 1) / 2<m.length:=by have:=a.1;omega
   simp only[show Ue ((0:Int)<(i:Int))=Uc from (by grind),Ze,t,u,v,ZgB a.1 o,Za]
   cases p:KS (Z8 m i) (Z8 m ((i - 1) / 2)) with
   |true=>
    left;refine⟨_,by simp only[Ze,ZiF a.1 o,Za],⟨JS m i ((i - 1) / 2),(i - 1) / 2,rfl,Zwu a B p,(ZiE a.1 o).trans f⟩,?_⟩
    omega
   |false=>
    right;refine⟨_,rfl,m,rfl,fun k d g=>?_,f⟩;by_cases q:k=i
    ·subst q;exact ZhX p
    ·exact a.2.1 k d g q
  ·right;have:i=0:=by omega
   subst this;refine⟨_,by rfl,m,rfl,fun k d g=>a.2.1 k d g (by omega),f⟩
 grind
def Dn(l:List Nd)(i:Nat):Prop:=
 (∀k,0<k->k<l.length->(k - 1) / 2≠i->le (Z8 l ((k - 1) / 2)) (Z8 l k))/\ ∀k,0<k->k<l.length->(k - 1) / 2=i->0<i->le (Z8 l ((i - 1) / 2)) (Z8 l k)
theorem ZrM{l:List Nd}{i c:Nat}(h:Dn l i)(b:i<l.length)(a:c<l.length)(e:(c - 1) / 2=i)(m:0<c)(j:KS (Z8 l c) (Z8 l i)=Uc)(t:∀k,0<k->k<l.length->(k - 1) / 2=i->le (Z8 l c) (Z8 l k)):Dn (JS l i c) c:=by
 obtain⟨r,s⟩:=h;have o:=ZhW j;refine⟨fun k q f g=>?_,fun k q f g u=>?_⟩
 ·rw[Rf]at f;rw[G8 b a,G8 b a,Zg g];by_cases d:k=i
  ·grind
  ·by_cases p:(k - 1) / 2=i
   ·grind
   ·rw[Zg p,Zg (by omega),Zg d]
    grind
 ·rw[Rf]at f;rw[e,G8 b a,G8 b a,Zg (by omega),Zv rfl,Zg (by omega),Zg (by omega)]
  grind
theorem ZkD{l:List Nd}{i:Nat}(h:Dn l i)(d:∀k,0<k->k<l.length->(k - 1) / 2=i->le (Z8 l i) (Z8 l k)):YJ l:=by
 intro k b c;by_cases a:(k - 1) / 2=i
 ·grind
 ·exact h.1 k b c a
theorem ZvM{l:List Nd}{c:Int}(h:Dn l 0)(H:l.length<2147483648):∃z:Hp,F48 ((),l,c,())=Ua z/\z.2.2.1=c/\YJ z.2.1/\z.2.1.Perm l:=by
 unfold F48;simp only
 refine run_bind (fun s=>∃(m:List Nd) (i:Nat),s=(((),m,c,()),(i:Int))/\(i<m.length\/i=0)/\Dn m i/\m.Perm l) (fun s=>l.length - s.2.toNat)
  (fun r=>∃m:List Nd,r=((),m,c,())/\YJ m/\m.Perm l) ⟨l,0,rfl,.inr rfl,h,.refl _⟩ ?_ ?_
 ·rintro s ⟨m,i,rfl,F,t,p⟩;have D:m.length=l.length:=p.length_eq;have y:Va .i64 ((2:Int) * (i:Int))=((2*i:Nat):Int):=by rw[ZH (by omega) (by omega)];omega
  have A:Va .i64 (((2*i:Nat):Int)+1)=((2*i+1:Nat):Int):=by rw[ZH (by omega) (by omega)];omega
  have B:Va .i64 (((2*i+1:Nat):Int)+1)=((2*i+2:Nat):Int):=by rw[ZH (by omega) (by omega)];omega
  simp only[y,A,B];by_cases G:m.length<=2*i+1
  ·right;refine⟨_,by grind,m,rfl,ZkD t (by omega),p⟩
  ·simp only[show Ue ((m.length:Int)<=((2*i+1:Nat):Int))=Ud from (by grind),Zd];have e:i<m.length:=by omega
   have fin:∀a:Nat,(a=2*i+1\/a=2*i+2)->a<m.length->(∀k,0<k->k<m.length->(k - 1) / 2=i->le (Z8 m a) (Z8 m k))->
    (∃x:Hp×Int,(Vc (F47 ((),m,c,()) (a:Int) (i:Int)) fun b=>
       bif !b.snd then Ua (Sum.inr ((),b.fst.snd.fst,b.fst.snd.snd.fst,()))
       else Vc (F49 ((),b.fst.snd.fst,b.fst.snd.snd.fst,()) (i:Int) (a:Int)) fun o=>Ua (Sum.inl (((),o.snd.fst,o.snd.snd.fst,()),(a:Int))))=Ua (Sum.inl x:(Hp×Int) ⊕ Hp)/\
       (∃(f:List Nd) (q:Nat),x=(((),f,c,()),(q:Int))/\(q<f.length\/q=0)/\Dn f q/\f.Perm l)/\l.length - x.2.toNat<l.length - (i:Int).toNat)\/
    ∃r:Hp,(Vc (F47 ((),m,c,()) (a:Int) (i:Int)) fun b=>
       bif !b.snd then Ua (Sum.inr ((),b.fst.snd.fst,b.fst.snd.snd.fst,()))
       else Vc (F49 ((),b.fst.snd.fst,b.fst.snd.snd.fst,()) (i:Int) (a:Int)) fun o=>Ua (Sum.inl (((),o.snd.fst,o.snd.snd.fst,()),(a:Int))))=Ua (Sum.inr r:(Hp×Int) ⊕ Hp)/\
      ∃f:List Nd,r=((),f,c,())/\YJ f/\f.Perm l:=by
    intro a C d E;rw[ZgB d e];simp only[Za]
    cases g:KS (Z8 m a) (Z8 m i) with
    |true=>
     left;refine⟨_,by simp only[Vb,Zd,ZiF e d,Za],⟨JS m i a,a,rfl,.inl (by rw[Rf];omega),ZrM t e d (by omega) (by omega) g E,(ZiE e d).trans p⟩,?_⟩
     omega
    |false=>
     right;exact⟨_,by rfl,m,rfl,ZkD t fun k u v w=>le_trans (ZhX g) (by grind),p⟩
   by_cases j:2*i+2<m.length
   ·simp only[show Ue (((2*i+2:Nat):Int)<(m.length:Int))=Uc from (by grind),Ze,ZgB j (show 2*i+1<m.length by omega),Za]
    cases g:KS (Z8 m (2*i+2)) (Z8 m (2*i+1)) with
    |true=>
     simp only[Ze,Za]
     exact fin (2*i+2) (.inr rfl) j fun k u v w=>by
      have:k=2*i+1\/k=2*i+2:=by omega
      rcases this with rfl|rfl
      ·exact ZhW g
      ·exact le_refl _
    |false=>
     simp only[Zd,Za]
     exact fin (2*i+1) (.inl rfl) (by omega) fun k u v w=>by
      have:k=2*i+1\/k=2*i+2:=by omega
      rcases this with rfl|rfl
      ·exact le_refl _
      ·exact ZhX g
   ·simp only[show Ue (((2*i+2:Nat):Int)<(m.length:Int))=Ud from (by grind),Zd]
    exact fin (2*i+1) (.inl rfl) (by omega) fun k u v w=>by
     have:k=2*i+1:=by omega
     subst this;exact le_refl _
 grind
theorem Zur(c:Int):F45 ((),[],c,())=Ua (((),[],c,()),(0,0,0,()),Ud):=by rfl
theorem Zut{l:List Nd}{c:Int}(h:YJ l)(o:l≠ [])(G:l.length<2147483648):
 ∃f x,F45 ((),l,c,())=Ua (((),f,c,()),x.1,Uc)/\YJ f/\l.Perm (x::f)/\ ∀y∈l,x.1.2.1<=y.1.2.1:=by
 have b:0<l.length:=Vsa.2 o;have a:l.length - 1<l.length:=by omega
 have d:F44 ((),l,c,())=Ua (((),l,c,()),(Z8 l 0).1,Uc):=by unfold F44 F43;simp only[Za,show Ue ((l.length:Int)=0)=Ud from (by grind),Zd];rw[show (0:Int)=((0:Nat):Int) from rfl,KM b];simp only[Za,ZcG b]
 have r:Va .i64 ((l.length:Int) - 1)=((l.length - 1:Nat):Int):=by rw[ZH (by omega) (by omega)];omega
 have v:sliceB (JS l 0 (l.length - 1)).length (JS l 0 (l.length - 1)).length Ub (Ua ((l.length - 1:Nat):Int))=Ua (0,l.length - 1):=by unfold sliceB;rw[Rf];simp
 have u:Dn (Vna (l.length - 1) (JS l 0 (l.length - 1))) 0:=by
  refine⟨fun k A B H=>?_,by omega⟩;simp [Rf]at B
  have e:∀j,j<l.length - 1->j≠0->Z8 (Vna (l.length - 1) (JS l 0 (l.length - 1))) j=Z8 l j:=fun j F g=>by
   have:Z8 (Vna (l.length - 1) (JS l 0 (l.length - 1))) j=Z8 (JS l 0 (l.length - 1)) j:=by unfold Z8;grind
   rw[this,G8 b a,Zg (by omega),Zg g]
  rw[e _ (by omega) (by omega),e _ (by omega) (by omega)];exact h k A (by omega)
 obtain⟨⟨_,f,C,_⟩,D,rfl,s,E⟩:=ZvM (c:=c) u (by grind);refine⟨f,Z8 l 0,?_,s,?_,fun y z=>?_⟩
 ·unfold F45;rw[d];simp only[Za,Vb,Zd,r];rw[show (0:Int)=((0:Nat):Int) from rfl,ZiF b a]
  grind
 ·have w:=ZiE b a
  have e:JS l 0 (l.length - 1)=Vna (l.length - 1) (JS l 0 (l.length - 1))++[Z8 l 0]:=by
   conv=>lhs;rw[<-List.take_append_drop (l.length - 1) (JS l 0 (l.length - 1))]
   congr 1;have m:(JS l 0 (l.length - 1)).length=l.length:=Rf ..;rw[Vfa (by omega)];have t:List.drop (l.length - 1+1) (JS l 0 (l.length - 1))=[]:=by grind
   rw[t];have p:=G8 b a (l.length - 1);rw[Zv rfl]at p;rw[<-p];simp [Z8,m,a]
  grind
 ·obtain⟨i,q,rfl⟩:=Vh z;have:=Ztk (ZsT h i q);simpa [Z8,q] using this
end Q
namespace Q
open Tr Go Gr
abbrev YH:=Int×Int×Int×Unit
abbrev Adj:=List (Int×List YH)
def Je(m:Adj)(u:Nat):List YH:=Ve (ZT (Zm (.int .i64)) (u:Int) m) []
structure Zf5 (n:Nat) (m:Adj) (Ed:Nat->Nat->Int->Prop):Prop where
 mem:∀u,u<n->∀y∈Je m u,∃v:Nat,v<n/\y.2.1=(v:Int)/\0<=y.2.2.1/\y.2.2.1<=1073741824/\Ed u v y.2.2.1
 all:∀u v w,Ed u v w->u<n/\ ∃y∈Je m u,y.2.1=(v:Int)/\y.2.2.1=w
 len:∀u,u<n->(Je m u).length<=4096
def J5(x:XD):Bool:=Ue (0<=x.2.2.1)
def Hz(o:List XD)(i:Nat):Prop:= ∃x,o[i]? =Ua x/\0<=x.2.2.1
def lenOf(o:List XD)(i:Nat):Int:=((o[i]?).getD (0,0,0,())).2.1
structure DI (n:Nat) (Ed:Nat->Nat->Int->Prop) (s:Nat) (o:List XD) (h:List Nd):Prop where
 len:o.length=n
 heap:YJ h
 lab:∀i x,o[i]? =Ua x->(x.2.2.1<0->x.2.1= -1)/\(0<=x.2.2.1->XY Ed s i x.2.1)
 opn:∀d∈h,∃v:Nat,v<n/\d.1.1=(v:Int)/\Wk Ed s v d.1.2.1/\0<=d.1.2.2.1/\d.1.2.2.1<=(o.countP J5:Nat)/\d.1.2.1<=d.1.2.2.1*1073741824
 src:Hz o s\/ ∃d∈h,d.1.1=(s:Int)/\d.1.2.1<=0
 out:∀u v w,Hz o u->Ed u v w->Hz o v\/ ∃d∈h,d.1.1=(v:Int)/\d.1.2.1<=lenOf o u+w
 size:h.length+(n - o.countP J5) *4096<=1+n*4096
theorem Zg0(o:List XD):o.countP J5<=o.length:=List.countP_le_length
theorem ZrI{n:Nat}{Ed:Nat->Nat->Int->Prop}{s:Nat}{o:List XD}{h b:List Nd}{x:Nd}{v:Nat}(a:DI n Ed s o h)(i:YJ b)(j:h.Perm (x::b))(q:x.1.1=(v:Int))(p:Hz o v):DI n Ed s o b where
 len:=a.len
 heap:=i
 lab:=a.lab
 opn:=fun d m=>a.opn d (by grind)
 src:=by
  rcases a.src with c|⟨d,c,e,f⟩
  all_goals grind
 out:=fun u l w k g=>by
  rcases a.out u l w k g with c|⟨d,c,e,f⟩
  all_goals grind
 size:=by
  have:=j.length_eq;have:=a.size
  grind
theorem Znr{o:List XD}{v:Nat}{x:XD}(c:0<=x.2.2.1){i:Nat}(h:Hz o i):Hz (o.set v x) i:=by
 obtain⟨y,d,a⟩:=h;by_cases b:v=i
 ·subst b;have e:v<o.length:=by grind
  exact⟨x,by grind,c⟩
 ·exact⟨y,by grind,a⟩
theorem ZrJ{n:Nat}{Ed:Nat->Nat->Int->Prop}{m:Adj}(F:Zf5 n m Ed){s:Nat}{o:List XD}{h K D:List Nd}{x:Nd}{v:Nat}{y:XD}(k:DI n Ed s o h)(hv:v<n)(V:h.Perm (x::K))(b5:x.1.1=(v:Int))
 (a7:∀d∈h,x.1.2.1<=d.1.2.1) (ho:o[v]? =Ua y) (hy:y.2.2.1<0) (Q:YJ D) (b1:D.length<=K.length+(Je m v).length) (h1:∀d∈K,d∈D)
 (h3:∀d∈D,d∈K\/ ∃e∈Je m v,d.1.1=e.2.1/\d.1.2.1=x.1.2.1+e.2.2.1/\d.1.2.2.1=x.1.2.2.1+1)
 (h4:∀e∈Je m v,(∃t:Nat,e.2.1=(t:Int)/\Hz (o.set v x.1) t)\/ ∃d∈D,d.1.1=e.2.1/\d.1.2.1=x.1.2.1+e.2.2.1):DI n Ed s (o.set v x.1) D:=by
 have hw:∀u v w,Ed u v w->0<=w:=fun u v w e=>by obtain⟨B,z,j,g,rfl⟩:=F.all u v w e;obtain⟨f,_,_,r,_⟩:=F.mem u B z j;omega
 have X:x∈h:=by grind
 obtain⟨f,b3,b4,J,A,a9,b0⟩:=k.opn x X;have:f=v:=by omega
 subst this;have T:f<o.length:=by grind
 have p:(o.set f x.1)[f]? =Ua x.1:=by grind
 have H:∀{i},i≠f->(o.set f x.1)[i]? =o[i]? :=by grind
 have U:o[f]=y:=by
  grind
 have a0:(o.set f x.1).countP J5=o.countP J5+1:=by
  rw[Vdb T,U];have a:J5 y=false:=by simp [J5];omega
  have b:J5 x.1=true:=by simp [J5];omega
  grind
 have b2:(o.set f x.1).countP J5<=n:=by have:=Zg0 (o.set f x.1);rw[Vv,k.len]at this;omega
 have M:XY Ed s f x.1.2.1:=by
  refine⟨J,fun d G=>?_⟩
  have:=ZsK (S:=Hz o) (L:=lenOf o) (O:=fun v l=>∃d∈h,d.1.1=(v:Int)/\d.1.2.1=l) (m:=x.1.2.1) hw (fun u B d G=>by
   obtain⟨z,j,q⟩:=B;have:=((k.lab u z j).2 q).2 d G
   simpa [lenOf,j] using this) (by
   rcases k.src with g|⟨d,g,r,C⟩
   all_goals grind) (fun u v w B E=>by
   rcases k.out u v w B E with g|⟨d,g,r,C⟩
   all_goals grind) (by grind) G
  rcases this with ⟨z,j,q⟩|g
  all_goals grind
 have R:∀u,Hz o u->lenOf (o.set f x.1) u=lenOf o u:=fun u B=>by
  obtain⟨z,j,q⟩:=B;have a8:u≠f:=by grind
  unfold lenOf
  grind
 refine⟨by rw[Vv];exact k.len,Q,fun i z j=>?_,fun d G=>?_,?_,fun u Y w B E=>?_,?_⟩
 ·by_cases hi:i=f
  ·grind
  ·rw[H hi]at j;exact k.lab i z j
 ·rcases h3 d G with g|⟨e,E,g,r,C⟩
  ·obtain⟨t,Z,a2,a3,a4,a5,a6⟩:=k.opn d (by grind)
   grind
  ·obtain⟨t,Z,a2,a3,a4,a5⟩:=F.mem f hv e E;refine⟨t,Z,g.trans a2,by rw[r];exact .snoc J a5,by omega,by omega,?_⟩;omega
 ·rcases k.src with g|⟨d,g,r,C⟩
  ·exact .inl (Znr A g)
  ·rcases Vta.1 (V.mem_iff.1 g) with rfl|N
   ·have:s=f:=by omega
    subst this;exact .inl ⟨_,p,A⟩
   grind
 ·by_cases I:u=f
  ·subst I;obtain⟨_,e,P,g,rfl⟩:=F.all u Y w E;rcases h4 e P with ⟨t,r,C⟩|⟨d,r,C,N⟩
   ·grind
   ·refine .inr ⟨d,r,C.trans g,?_⟩;rw[N];simp [lenOf,p]
  ·have W:Hz o u:=by obtain⟨z,j,q⟩:=B;rw[H I]at j;exact⟨z,j,q⟩
   rcases k.out u Y w W E with g|⟨d,g,r,C⟩
   ·exact .inl (Znr A g)
   ·rcases Vta.1 (V.mem_iff.1 g) with rfl|N
    ·have:Y=f:=by omega
     subst this;exact .inl ⟨_,p,A⟩
    grind
 ·have a:=V.length_eq;have b:=k.size;have c:=F.len f hv
  grind
end Q
namespace Q
open Tr Go Gr
def Zgc(n:Nat)(Ed:Nat->Nat->Int->Prop)(s:Nat)(o:List XD):Prop:=
 o.length=n/\ ∀i x,o[i]? =Ua x->(XY Ed s i x.2.1/\0<=x.2.1)\/((∀d,¬Wk Ed s i d)/\x.2.1= -1)
theorem Ztg{n:Nat}(hn:n<=64){m:Adj}{Ed:Nat->Nat->Int->Prop}(R:Zf5 n m Ed){s:Nat}(hs:s<n):
 ∃z,F164 (n:Int) m (s:Int)=Ua z/\z.1=m/\Zgc n Ed s z.2:=by
 have hw:∀u v w,Ed u v w->0<=w:=fun u v w e=>by obtain⟨hu,z,hz,P,rfl⟩:=R.all u v w e;obtain⟨v',_,_,h6,_⟩:=R.mem u hu z hz;omega
 unfold F164
 have eg:Zz (decide ((0:Int)<=(n:Int)/\(n:Int)<=(n:Int)/\(n:Int)<=(ZD:Int)))=Ua ():=by rw[Zj (by simp [ZD];omega)];rfl
 rw[show Zz _=Ua () from eg];simp only[Za,Voa,Vo]
 refine Xz (fun st=>∃(o:List XD) (i:Nat),st=(o,(i:Int))/\o.length=n/\i<=n/\ ∀j,j<i->o[j]? =Ua ((j:Int), -1, -1,())) (fun st=>n - st.2.toNat)
  (fun o=>o.length=n/\ ∀j,j<n->o[j]? =Ua ((j:Int), -1, -1,())) ⟨_,0,rfl,by simp,Vm _,by omega⟩ ?_ ?_
 ·rintro st ⟨o,i,rfl,h1,h2,h3⟩;by_cases hi:i<n
  ·have X:i<o.length:=by omega
   have e1:Va .i64 ((i:Int)+1)=((i+1:Nat):Int):=by rw[ZH (by omega) (by omega)];omega
   simp only[show Ue ((i:Int)<(n:Int))=Uc from (by grind),Ze,KM X,Za,Vd X,e1]
   grind
  ·have:i=n:=by omega
   simp_all
 ·rintro o0 ⟨a7,a8⟩;obtain⟨⟨_,h0,c0,_⟩,K,_,a0,A⟩:=ZmI (l:=[]) (c:=0) ((s:Int),0,0,()) (fun k k1 k2=>by grind) (by simp);simp only at a0 A;unfold F50;simp only[Za];rw[show F46 _ _=Ua _ from K];simp only[Za];have J:∀d,d∈h0↔d=((((s:Int),0,0,()),0,()):Nd):=by grind
  have a6:o0.countP J5=0:=by rw[List.countP_eq_zero];intro a ha;obtain⟨i,hi,rfl⟩:=Vh ha;have:=a8 i (by omega);rw[Vd hi]at this;simp only[ZB]at this;rw[this];simp [J5]
  have a5:DI n Ed s o0 h0:= {
   len:=a7
   heap:=a0
   lab:=by grind
   opn:=fun d U=>by rw[J]at U;subst U;exact⟨s,hs,rfl,.nil,Vea _,by simp,by simp⟩
   src:=by simp_all
   out:=fun u v w hu=>by
    obtain⟨x,hx,a4⟩:=hu
    grind
   size:=by
    have:=A.length_eq
    grind}
  refine Xz (fun st=>∃(o:List XD) (h:List Nd) (c:Int),st=(o,(),h,c,())/\DI n Ed s o h) (fun st=>(n - st.1.countP J5) *8192+st.2.2.1.length)
   (fun o=>Zgc n Ed s o) ⟨o0,h0,c0,rfl,a5⟩ ?_ (by simp)
  rintro st ⟨o,h,c,rfl,y⟩;simp only;have b4:h.length<=300000:=by have:=y.size;omega
  have b0:h.length<2147483648:=by omega
  by_cases Z:h=[]
  ·subst Z;rw[Zur];simp only[Za,Vl,Ze];refine⟨_,rfl,y.len,fun i x hx=>?_⟩;by_cases a4:0<=x.2.2.1
   ·have:=(y.lab i x hx).2 a4;exact .inl ⟨this,this.1.nonneg hw⟩
   ·refine .inr ⟨fun d U=>?_,(y.lab i x hx).1 (by omega)⟩
    have:=Zq9 (S:=Hz o) (L:=lenOf o) (O:=fun _ _=>False) (by
     rcases y.src with P|⟨d,P,_⟩
     all_goals grind) (fun u v w hu he=>by
     rcases y.out u v w hu he with P|⟨d,P,_⟩
     all_goals grind) (by simp) U
    obtain⟨z,hz,d0⟩:=this
    grind
  ·obtain⟨E,x,a2,F,hp,Y⟩:=Zut (c:=c) y.heap Z b0;rw[a2];simp only[Za,Vb,Zd];obtain⟨v,hv,N,b1,b7,c4,c5⟩:=y.opn x (by grind);have D:v<o.length:=by rw[y.len];omega
   have a9:=hp.length_eq;simp only[Vya]at a9;have b5:o.countP J5<=n:=by have:=Zg0 o;rw[y.len]at this;omega
   simp only[N,KM D,Za,Vd D];have a1:o[v]? =Ua o[v]:=Vd D;by_cases a3:0<=(o[v]).2.2.1
   ·simp only[show Ue ((0:Int)<=(o[v]).2.2.1)=Uc from (by grind),Ze];exact⟨_,rfl,⟨o,E,c,rfl,ZrI y F hp N ⟨_,a1,a3⟩⟩,by grind⟩
   ·simp only[show Ue ((0:Int)<=(o[v]).2.2.1)=Ud from (by grind),Zd];have T:Ve (ZT (Zm Y3) (v:Int) m) []=Je m v:=rfl;have b6:=R.len v hv;have c8:0<=x.1.2.1:=b1.nonneg hw;have c9:x.1.2.1<=68719476736:=by omega
    refine Xz (fun st=>∃(g:List Nd) (B:Int) (j:Nat),st=(((),g,B,()),(j:Int))/\j<=(Je m v).length/\YJ g/\g.length<=E.length+j/\(∀d∈E,d∈g)/\
     (∀d∈g,d∈E\/ ∃e∈Je m v,d.1.1=e.2.1/\d.1.2.1=x.1.2.1+e.2.2.1/\d.1.2.2.1=x.1.2.2.1+1)/\
     ∀k e,k<j->(Je m v)[k]? =Ua e->(∃t:Nat,e.2.1=(t:Int)/\Hz (o.set v x.1) t)\/ ∃d∈g,d.1.1=e.2.1/\d.1.2.1=x.1.2.1+e.2.2.1) (fun st=>(Je m v).length - st.2.toNat)
     (fun r=>∃(g:List Nd) (B:Int),r=((),g,B,())/\YJ g/\g.length<=E.length+(Je m v).length/\(∀d∈E,d∈g)/\
       (∀d∈g,d∈E\/ ∃e∈Je m v,d.1.1=e.2.1/\d.1.2.1=x.1.2.1+e.2.2.1/\d.1.2.2.1=x.1.2.2.1+1)/\
       ∀e∈Je m v,(∃t:Nat,e.2.1=(t:Int)/\Hz (o.set v x.1) t)\/ ∃d∈g,d.1.1=e.2.1/\d.1.2.1=x.1.2.1+e.2.2.1)
     ⟨E,c,0,rfl,Vm _,F,Vw _,fun _ h=>h,by grind,by omega⟩ ?_ ?_
    ·rintro st ⟨g,B,j,rfl,hj,W,H,g1,g2,Q⟩;simp only[T];by_cases f:j<(Je m v).length
     ·obtain⟨t,ht,V,b8,b9,c1⟩:=R.mem v hv _ (Vf f);have M:t<(Vt o v x.1).length:=by rw[Vv,y.len];omega
      have e1:Va .i64 ((j:Int)+1)=((j+1:Nat):Int):=by rw[ZH (by omega) (by omega)];omega
      simp only[show Ue ((j:Int)<((Je m v).length:Int))=Uc from (by grind),Ze,KM f,Za,Vd f,V,KM M,Vd M,e1];by_cases c7:(Vt o v x.1)[t].2.2.1<0
      ·have e2:Va .i64 (x.1.2.1+((Je m v)[j]).2.2.1)=x.1.2.1+((Je m v)[j]).2.2.1:=ZH (by omega) (by omega);have e3:Va .i64 (x.1.2.2.1+1)=x.1.2.2.1+1:=ZH (by omega) (by omega);simp only[show Ue ((Vt o v x.1)[t].2.2.1<0)=Uc from (by grind),Ze,e2,e3];obtain⟨⟨_,g',c2,_⟩,C,_,G,q⟩:=ZmI (c:=B) ((t:Int),x.1.2.1+((Je m v)[j]).2.2.1,x.1.2.2.1+1,()) W (by omega);simp only at G q;rw[show F46 _ _=Ua _ from C];simp only[Za];have c6:∀d,d∈g' ↔d∈g\/d=(((t:Int),x.1.2.1+((Je m v)[j]).2.2.1,x.1.2.2.1+1,()),B,()):=by grind
       refine⟨_,rfl,⟨g',c2,j+1,rfl,f,G,?_,by grind,fun d U=>?_,fun k e hk p=>?_⟩,by omega⟩
       ·have:=q.length_eq;grind
       ·grind
       ·by_cases I:k=j
        ·subst I;rw[Vd f]at p;cases p;simp [*]
        ·rcases Q k e (by omega) p with P|⟨d,P,h6⟩
         all_goals grind
      ·simp only[show Ue ((Vt o v x.1)[t].2.2.1<0)=Ud from (by grind),Zd];refine⟨_,rfl,⟨g,B,j+1,rfl,f,W,by omega,g1,g2,fun k e hk p=>?_⟩,by omega⟩;by_cases I:k=j
       ·subst I;rw[Vd f]at p;cases p;exact .inl ⟨t,V,_,Vd M,by omega⟩
       ·exact Q k e (by omega) p
     ·have:j=(Je m v).length:=by omega
      subst this;simp only[show Ue (((Je m v).length:Int)<((Je m v).length:Int))=Ud by simp,Zd];refine⟨_,rfl,g,B,rfl,W,H,g1,g2,fun e he=>?_⟩;obtain⟨k,hk,rfl⟩:=Vh he;exact Q k _ hk (by simp)
    ·rintro r ⟨g,B,rfl,W,H,g1,g2,Q⟩;have hD:=ZrJ R y hv hp N Y a1 (by omega) W H g1 g2 Q;refine⟨_,rfl,⟨_,g,B,rfl,hD⟩,?_⟩
     have b3:(o.set v x.1).countP J5=o.countP J5+1:=by
      rw[Vdb D];have a:J5 o[v]=false:=by simp [J5];omega
      have b:J5 x.1=true:=by simp [J5];omega
      grind
     have b2:(o.set v x.1).countP J5<=n:=by have:=Zg0 (o.set v x.1);rw[hD.len]at this;omega
     grind
end Q
namespace Q
open Tr Go Gr
open Classical in
theorem Zag{t:Ty}{β:Type}(b:t.key=Uc)(k a:El t)(v:β):∀(l:List (El t×β)),ZT (Zm t) k (Kn (Zm t) a v l)=if k=a then Ua v else ZT (Zm t) k l
 |[]=>by
  simp only[Kn,ZT];by_cases h:k=a
  ·rw[(JO b).2 h,Zv h];rfl
  ·rw[Zg h]
   cases c:Zm t k a with
   |true=>exact absurd ((JO b).1 c) h
   |false=>rfl
 |e::l=>by
  simp only[Kn]
  cases c:Zm t a e.1 with
  |true=>
   have f:=(JO b).1 c;simp only[Ze,ZT];by_cases h:k=a
   ·rw[(JO b).2 h,Zv h];rfl
   ·rw[Zg h, <-f]
    cases d:Zm t k a with
    |true=>exact absurd ((JO b).1 d) h
    |false=>rfl
  |false=>
   simp only[Zd,ZT,Zag b k a v l]
   cases d:Zm t k e.1 with
   |false=>rfl
   |true=>
    have f:=(JO b).1 d
    have:k≠a:=by rintro rfl;rw[d]at c;cases c
    simp only[Ze];rw[Zg this]
def EdL(E:List YH)(u v:Nat)(w:Int):Prop:= ∃e∈E,e.1=(u:Int)/\e.2.1=(v:Int)/\e.2.2.1=w
theorem ZtU(E:List YH)(j:E.length<=4096):∃z,F167 E Ud=Ua z/\ ∀u:Nat,Je z u=E.filter fun e=>Ue (e.1=(u:Int)):=by
 unfold F167
 refine Xz (fun st=>∃(m:Adj) (i:Nat),st=(m,(i:Int))/\i<=E.length/\ ∀k:Int,Ve (ZT (Zm (.int .i64)) k m) []=(E.take i).filter fun e=>Ue (e.1=k)) (fun st=>E.length - st.2.toNat)
  (fun m=>∀u:Nat,Je m u=E.filter fun e=>Ue (e.1=(u:Int))) ⟨[],0,rfl,Vm _,fun k=>by rfl⟩ ?_ (by simp)
 rintro st ⟨m,i,rfl,l,c⟩;by_cases a:i<E.length
 ·have d:Va .i64 ((i:Int)+1)=((i+1:Nat):Int):=by rw[ZH (by omega) (by omega)];omega
  have h:=c (E[i]).1
  have b:(Ve (ZT (Zm (.int .i64)) (E[i]).1 m) []).length<=4096:=by
   grind
  have f:Zz (decide ((Ve (ZT (Zm (.int .i64)) (E[i]).1 m) []).length+ [E[i]].length<=ZD))=Ua ():=by rw[Zj (by simp [ZD];omega)];rfl
  have g:Zz (Tr.holeK (.int .i64) (Ua (E[i]).1) (E[i]).1)=Ua ():=by have:Tr.holeK (.int .i64) (Ua (E[i]).1) (E[i]).1=true:=(JO rfl).2 rfl;rw[this];rfl
  simp only[show Ue ((i:Int)<(E.length:Int))=Uc from (by grind),Ze,Zd,ZE a,Za,d];rw[show Zz _=Ua () from f];simp only[Za];rw[show Zz _=Ua () from g];simp only[Za];refine⟨_,rfl,⟨_,i+1,rfl,a,fun k=>?_⟩,by omega⟩
  rw[show Ve (ZT (Zm (.int .i64)) k (Kn (Zm (.int .i64)) (E[i]).1 (Ve (ZT (Zm (.int .i64)) (E[i]).1 m) []++[E[i]]) m)) []=if k=(E[i]).1 then Ve (ZT (Zm (.int .i64)) (E[i]).1 m) []++[E[i]] else Ve (ZT (Zm (.int .i64)) k m) [] by
   rw[Zag rfl]
   grind]
  rw[Vp a,List.filter_append]
  grind
 ·have:i=E.length:=by omega
  subst this;simp only[show Ue ((E.length:Int)<(E.length:Int))=Ud by simp,Zd];exact⟨_,rfl,fun u=>by have:=c (u:Int);rw[Vza]at this;assumption⟩
def EOk(n:Nat)(E:List YH):Prop:= ∀e∈E,0<=e.1/\e.1<n/\0<=e.2.1/\e.2.1<n/\0<=e.2.2.1/\e.2.2.1<=1073741824
theorem Zo3{n:Nat}{E:List YH}(i:EOk n E)(p:E.length<=4096){m:Adj}(l:∀u:Nat,Je m u=E.filter fun e=>Ue (e.1=(u:Int))):Zf5 n m (EdL E) where
 mem:=fun u q y j=>by rw[l]at j;obtain⟨h,g⟩:=List.mem_filter.1 j;have g:=Xq g;obtain⟨a,b,c,d,e,f⟩:=i y h;exact⟨y.2.1.toNat,by omega,by omega,e,f,y,h,g,by omega,rfl⟩
 all:=fun u v w ⟨e,k,h,g,o⟩=>by
  obtain⟨a,b,_⟩:=i e k
  grind
 len:=by grind
open Classical in
noncomputable def KB(Ed:Nat->Nat->Int->Prop)(i j:Nat):Int:=if h:∃d,XY Ed i j d then h.choose else -1
theorem XY.uniq{Ed:Nat->Nat->Int->Prop}{i j:Nat}{d a:Int}(h:XY Ed i j d)(k:XY Ed i j a):d=a:=by have:=h.2 a k.1;have:=k.2 d h.1;omega
theorem Zaq{Ed:Nat->Nat->Int->Prop}{i j:Nat}{d:Int}(h:XY Ed i j d):KB Ed i j=d:=by unfold KB;have a:∃d,XY Ed i j d:=⟨d,h⟩;rw[dif_pos a];exact XY.uniq a.choose_spec h
theorem ZrK{Ed:Nat->Nat->Int->Prop}{i j:Nat}(h:∀d,¬Wk Ed i j d):KB Ed i j= -1:=by unfold KB;rw[dif_neg];rintro ⟨d,a⟩;exact h d a.1
noncomputable def Yy(Ed:Nat->Nat->Int->Prop)(n:Nat):List (List Int):=(Vr n).map fun i=>(Vr n).map fun j=>KB Ed i j
theorem ZlT{Ed:Nat->Nat->Int->Prop}{n i:Nat}(h:i<n):(Yy Ed n)[i]? =Ua ((Vr n).map fun j=>KB Ed i j):=by
 unfold Yy
 grind
theorem Zty{n:Nat}(w:n<=64){Ed:Nat->Nat->Int->Prop}{s:Nat}{o:List XD}(h:Zgc n Ed s o):∃z,F165 o=Ua z/\z=(Vr n).map fun j=>KB Ed s j:=by
 obtain⟨u,k⟩:=h;unfold F165
 have g:Zz (decide ((0:Int)<=(o.length:Int)/\(o.length:Int)<=(o.length:Int)/\(o.length:Int)<=(ZD:Int)))=Ua ():=by rw[Zj (by simp [ZD];omega)];rfl
 rw[show Zz _=Ua () from g];simp only[Za,Vo]
 refine Xz (fun st=>∃(r:List Int) (i:Nat),st=(r,(i:Int))/\r.length=n/\i<=n/\ ∀j,j<i->r[j]? =Ua (KB Ed s j)) (fun st=>n - st.2.toNat)
  (fun r=>r.length=n/\ ∀j,j<n->r[j]? =Ua (KB Ed s j)) ⟨_,0,rfl,by grind,Vm _,by omega⟩ ?_ ?_
 ·rintro st ⟨r,i,rfl,t,v,p⟩;by_cases d:i<n
  ·have a:i<o.length:=by omega
   have b:i<r.length:=by omega
   have f:Va .i64 ((i:Int)+1)=((i+1:Nat):Int):=by rw[ZH (by omega) (by omega)];omega
   simp only[show Ue ((i:Int)<(o.length:Int))=Uc from (by grind),Ze,ZE a,KM b,Za,Vd b,f];refine⟨_,rfl,⟨_,i+1,rfl,by grind,d,fun j q=>?_⟩,by omega⟩;by_cases e:j=i
   ·subst e
    have:(o[j]).2.1=KB Ed s j:=by
     rcases k j _ (Vd a) with ⟨c,_⟩|⟨c,l⟩
     ·exact(Zaq c).symm
     ·rw[l,ZrK c]
    grind
   grind
  ·have m:i=n:=by omega
   simp_all
 ·rintro r ⟨t,p⟩;refine⟨_,rfl,?_⟩;apply Vxa
  grind
theorem ZqD{n:Nat}(q:n<=64){E:List YH}(k:EOk n E)(p:E.length<=4096):F162 (n:Int) E []=Ua 0:=by
 have key:∃z,F162 (n:Int) E []=Ua z/\z=0:=by
  unfold F162;simp only[show Ue ((n:Int)<0)=Ud from (by rfl),Zd,Za,show Ue ((64:Int)<(n:Int))=Ud from (by grind),show Ue ((4096:Int)<(E.length:Int))=Ud from (by grind)];refine Xz (fun st=>∃i:Nat,st=(i:Int)/\i<=E.length) (fun st=>E.length - st.toNat) (fun r=>r=.inl ()) (by grind) ?_ ?_
  ·rintro st ⟨i,rfl,o⟩;by_cases g:i<E.length
   ·have j:Va .i64 ((i:Int)+1)=((i+1:Nat):Int):=by rw[ZH (by omega) (by omega)];omega
    obtain⟨a,b,c,d,e,f⟩:=k _ (Vf g)
    have h:∀x:Int,0<=x->x<(n:Int)->F163 x (n:Int)=Ua false:=fun x l m=>by
     unfold F163
     grind
    simp only[show Ue ((i:Int)<(E.length:Int))=Uc from (by grind),Ze,ZE g,Za,h _ a b,h _ c d,Zd,show Ue ((E[i]).2.2.1<0)=Ud from (by grind),
     show Ue ((1073741824:Int)<(E[i]).2.2.1)=Ud from (by grind),j]
    grind
   simp [*]
  ·rintro r rfl;simp only[Vi];refine Xz (fun st=>st=(0:Int)) (fun _=>0) (fun r=>r=.inl ()) rfl ?_ ?_
   all_goals simp
 grind
theorem Zpb{n:Nat}(g:n<=64){E:List YH}(h:EOk n E)(d:E.length<=4096):∃z,F161 (n:Int) E=Ua z/\z=(Yy (EdL E) n,0):=by
 unfold F161;obtain⟨m,e,f⟩:=ZtU E d;have t:=Zo3 h d f;rw[ZqD g h d];simp only[Za,decide_true,Vb,Zd,e]
 have l:Zz (decide ((0:Int)<=(n:Int)/\(n:Int)<=(n:Int)/\(n:Int)<=(ZD:Int)))=Ua ():=by rw[Zj (by simp [ZD];omega)];rfl
 rw[show Zz _=Ua () from l];simp only[Za,Voa,Vo]
 refine Xz (fun st=>∃(r:List (List Int)) (i:Nat),st=(m,r,(i:Int))/\r.length=n/\i<=n/\ ∀j,j<i->r[j]? =(Yy (EdL E) n)[j]?) (fun st=>n - st.2.2.toNat)
  (fun r=>r.length=n/\ ∀j,j<n->r[j]? =(Yy (EdL E) n)[j]?) ⟨_,0,rfl,by simp,Vm _,by omega⟩ ?_ ?_
 ·rintro st ⟨r,i,rfl,y,A,v⟩;by_cases a:i<n
  ·have b:i<r.length:=by omega
   have k:Va .i64 ((i:Int)+1)=((i+1:Nat):Int):=by rw[ZH (by omega) (by omega)];omega
   obtain⟨⟨B,o⟩,p,rfl,q⟩:=Ztg g t a;obtain⟨_,s,rfl⟩:=Zty g q;simp only[show Ue ((i:Int)<(n:Int))=Uc from (by grind),Ze,p,Za,s,KM b,Vd b,k];refine⟨_,rfl,⟨_,i+1,rfl,by grind,a,fun j w=>?_⟩,by grind⟩;by_cases c:j=i
   ·subst c;rw[ZlT a];grind
   grind
  ·have u:i=n:=by omega
   simp_all
 ·rintro r ⟨y,v⟩;refine⟨_,rfl,?_⟩;congr 1;apply Vxa;intro j;by_cases x:j<n
  ·grind
  ·rw[Vpa (by omega),Vpa (by simp [Yy];omega)]
end Q
namespace Q
open Tr Go Gr
theorem Hv.uniq{σ τ ρ:Type}{cnt:σ->Nat}{step:σ->Nat->Option (σ ⊕ τ)}{k:τ->Option ρ}(a:∀s,0<cnt s){z i:ρ} :∀{n g:Nat}{s:σ},Hv cnt step k z n s->Hv cnt step k i g s->z=i
 |0,_,_,h,_=>h.elim
 |_+1,0,_,_,h=>h.elim
 |n+1,g+1,s,h,c=>by
  rcases h 0 (a s) with ⟨l,d,e⟩|⟨t,d,e⟩
  ·rcases c 0 (a s) with ⟨j,b,f⟩|⟨t,b,_⟩
   ·rw[d]at b;simp only[ZB,Sum.inl.injEq]at b;subst b;exact Hv.uniq a e f
   grind
  ·rcases c 0 (a s) with ⟨j,b,_⟩|⟨m,b,f⟩
   all_goals grind
theorem ZrX{σ τ ρ:Type}{cnt:σ->Nat}{step:σ->Nat->Option (σ ⊕ τ)}{k:τ->Option ρ}{s:σ}{z:ρ}{P:ρ->Prop}(n:Nat)(a:∀s,0<cnt s)(h:Hv cnt step k z n s)(d:P z):∃z,Tr.drun cnt step k s=Ua z/\P z:=by
 refine⟨z,?_,d⟩
 have b:∃r,Tr.drun cnt step k s=Ua r:=by
  unfold Tr.drun;split
  ·simp
  ·rw[dif_pos ⟨z,n,h⟩];simp
 obtain⟨r,c⟩:=b;obtain⟨m,e⟩:=ZkG c;rw[c,Hv.uniq a e h]
theorem ZlD{Ed c:Nat->Nat->Int->Prop}(j:∀u v w,Ed u v w->∃w',c u v w' /\w' <=w)(g:∀u v w,c u v w->∃w',Ed u v w' /\w' <=w){s v:Nat}{d:Int} :XY Ed s v d->XY c s v d:=by
 rintro ⟨a,b⟩;obtain⟨h,f,l⟩:=Wk.dom j a;obtain⟨i,c3,m⟩:=Wk.dom g f;have:=b i c3;have:h=d:=by omega
 subst this;refine⟨f,fun e k=>?_⟩;obtain⟨q,o,p⟩:=Wk.dom g k
 grind
theorem ZtO{Ed a:Nat->Nat->Int->Prop}(c:∀u v w,Ed u v w->∃w',a u v w' /\w' <=w)(e:∀u v w,a u v w->∃w',Ed u v w' /\w' <=w)(n:Nat):Yy Ed n=Yy a n:=by
 have:∀i j,KB Ed i j=KB a i j:=by
  intro i j;by_cases h:∃d,XY Ed i j d
  ·obtain⟨d,b⟩:=h;rw[Zaq b,Zaq (ZlD c e b)]
  ·have f:¬∃d,XY a i j d:=fun⟨d,b⟩=>h ⟨d,ZlD e c b⟩;unfold KB
   grind
 unfold Yy
 simp_all
abbrev Kh:=Int×Int×Int×Bool×Unit
abbrev Pr:=Int×Int×Bool×Unit
abbrev YM:Ty:=.prod (.int .i64) (.prod (.int .i64) (.prod .bool .unit))
def DA(n:Nat)(l:List Kh):Prop:= ∀p∈l,0<=p.1/\p.1<n/\0<=p.2.1/\p.2.1<n/\1<=p.2.2.1/\p.2.2.1<=14400
def HN(free:Bool)(p:Kh):Prop:=free=Uc->p.2.2.2.1=Uc
def Kg(l:List Kh)(free:Bool)(u v:Nat)(w:Int):Prop:= ∃p∈l,HN free p/\p.1=(u:Int)/\p.2.1=(v:Int)/\p.2.2.1=w
def ZeH(e:Pr×Int):YH:=(e.1.1,e.1.2.1,e.2,())
theorem Zjx{α β:Type}(eq:α->α->Bool)(k:α)(v:β):∀l:List (α×β),(Kn eq k v l).length<=l.length+1
 |[]=>by simp [Kn]
 |e::l=>by
  simp only[Kn]
  cases eq k e.1 with
  |true=>simp
  |false=>simp only[Zd,Vya];have:=Zjx eq k v l;omega
structure Dz (free:Bool) (l:List Kh) (b:List (Pr×Int)):Prop where
 nodup:(b.map Prod.fst).Nodup
 len:b.length<=l.length
 snd:∀e∈b,∃p∈l,HN free p/\e.1=(p.1,p.2.1,Ud,())/\e.2=p.2.2.1
 all:∀p∈l,HN free p->∃w,ZT (Zm YM) (p.1,p.2.1,Ud,()) b=Ua w/\w<=p.2.2.1
theorem Dz.more{free:Bool}{l:List Kh}{b a:List (Pr×Int)}{p:Kh}(h:Dz free l b)(f:(a.map Prod.fst).Nodup)(o:a.length<=b.length+1)(g:∀e∈a,e∈b\/(HN free p/\e.1=(p.1,p.2.1,Ud,())/\e.2=p.2.2.1))
 (r:∀k w,ZT (Zm YM) k b=Ua w->∃w',ZT (Zm YM) k a=Ua w' /\w' <=w) (s:HN free p->∃w,ZT (Zm YM) (p.1,p.2.1,Ud,()) a=Ua w/\w<=p.2.2.1):Dz free (l++[p]) a where
 nodup:=f
 len:=by have:=h.len;grind
 snd:=fun e j=>by
  rcases g e j with c|c
  ·obtain⟨q,d,i⟩:=h.snd e c
   grind
  grind
 all:=fun q d m=>by
  rcases Veb.1 d with c|c
  ·obtain⟨w,i,t⟩:=h.all q c m
   grind
  grind
theorem ZkL{α:Type} :∀{l:List α}{i:Nat} (h:i<l.length),(l[i]::l.eraseIdx i).Perm l
 |[],i,h=>by grind
 |x::l,0,_=>.refl _
 |x::l,i+1,h=>by
  have a:i<l.length:=by grind
  simp only[List.getElem_cons_succ,List.eraseIdx_cons_succ];exact(List.Perm.swap _ _ _).trans (List.Perm.cons _ (ZkL a))
theorem ZkC{n:Nat}(hn:n<=64){l:List Kh}(hF:DA n l)(hl:l.length<=4096)(free:Bool):∃z,F41 l (n:Int) free=Ua z/\z=Yy (Kg l free) n:=by
 unfold F41
 refine Xz (fun st=>∃(b:List (Pr×Int)) (i:Nat),st=(b,(i:Int))/\i<=l.length/\Dz free (l.take i) b) (fun st=>l.length - st.2.toNat)
  (fun b=>Dz free l b) ⟨[],0,rfl,Vm _,⟨by simp,by simp,by simp,by simp⟩⟩ ?_ ?_
 ·rintro st ⟨b,i,rfl,F,j⟩;by_cases A:i<l.length
  ·have X:Va .i64 ((i:Int)+1)=((i+1:Nat):Int):=by rw[ZH (by omega) (by omega)];omega
   simp only[show Ue ((i:Int)<(l.length:Int))=Uc from (by grind),Ze,ZE A,Za,X];have o:l.take (i+1)=l.take i++[l[i]]:=Vp A
   have stay:(HN free l[i]->∃w,ZT (Zm YM) ((l[i]).1,(l[i]).2.1,Ud,()) b=Ua w/\w<=(l[i]).2.2.1)->Dz free (l.take (i+1)) b:=fun K=>by rw[o];exact j.more j.nodup (by omega) (by grind) (by grind) K
   have put:HN free l[i]->(∀w,ZT (Zm YM) ((l[i]).1,(l[i]).2.1,Ud,()) b=Ua w->(l[i]).2.2.1<=w)->Dz free (l.take (i+1)) (Kn (Zm YM) ((l[i]).1,(l[i]).2.1,Ud,()) (l[i]).2.2.1 b):=fun B hw=>by
    rw[o];refine j.more (Zgv (t:=YM) (β:=Int) rfl j.nodup) (Zjx _ _ _ _) (fun e E=>?_) (fun k w h=>?_) fun _=>⟨(l[i]).2.2.1,by rw[Zag rfl,Zv rfl],Vea _⟩
    ·obtain⟨k',x⟩:=e;rcases Ze8 (t:=YM) rfl j.nodup E with ⟨rfl,rfl⟩|⟨_,h6⟩
     all_goals grind
    ·rw[Zag rfl]
     grind
   have U:Zm Yl=Zm YM:=rfl
   have rest:HN free l[i]->∃z,(Vc
         (bif !Vga (ZT (Zm YM) ((l[i]).1,(l[i]).2.1,Ud,()) b) then Ua Uc
         else Ua (decide ((l[i]).2.2.1<Ve (ZT (Zm YM) ((l[i]).1,(l[i]).2.1,Ud,()) b) (0:Int))))
         fun x3=>
         bif x3 then Ua (Sum.inl (Kn (Zm YM) ((l[i]).1,(l[i]).2.1,Ud,()) (l[i]).2.2.1 b,((i+1:Nat):Int)))
         else Ua (Sum.inl (b,((i+1:Nat):Int))))=Ua (z:(List (Pr×Int) ×Int) ⊕ List (Pr×Int))/\
         Vka (fun W=>(∃(b:List (Pr×Int)) (i:Nat),W=(b,(i:Int))/\i<=l.length/\Dz free (l.take i) b)/\l.length - W.2.toNat<l.length - ((i:Nat):Int).toNat) (fun b=>Dz free l b) z:=by
    intro B
    cases hg:ZT (Zm YM) ((l[i]).1,(l[i]).2.1,Ud,()) b with
    |none=>
     simp only[Option.isSome_none,Vl,Ze,Za]
     grind
    |some w=>
     simp only[Option.isSome_some,Vb,Zd,Option.getD_some,Za];by_cases a1:(l[i]).2.2.1<w
     ·simp only[show Ue ((l[i]).2.2.1<w)=Uc from (by grind),Ze]
      grind
     ·simp only[show Ue ((l[i]).2.2.1<w)=Ud from (by grind),Zd]
      grind
   cases m:free with
   |false=>
    simp only[Zd,Za];have:=rest (fun h=>by grind)
    grind
   |true=>
    simp only[Ze,Za]
    cases O:(l[i]).2.2.2.1 with
    |true=>
     simp only[Vb,Zd];have:=rest (fun _=>O)
     grind
    |false=>
     simp only[Vl,Ze];refine⟨_,rfl,⟨b,i+1,rfl,A,?_⟩,by omega⟩;rw[<-m];exact stay fun B=>by have:=B m;grind
  ·have a0:i=l.length:=by omega
   simp_all
 ·intro b j
  have Y:Zz (decide ((0:Int)<=(0:Int)/\(0:Int)<=(b.length:Int)/\(b.length:Int)<=(ZD:Int)))=Ua ():=by have:=j.len;rw[Zj (by simp [ZD];omega)];rfl
  rw[show Zz _=Ua () from Y];simp only[Za]
  have T:∀es:List YH,es.Perm (b.map ZeH)->F161 (n:Int) es=Ua (Yy (Kg l free) n,0):=by
   intro es y;have G:es.length<=4096:=by have:=y.length_eq;have:=j.len;grind
   have N:EOk n es:=fun e E=>by
    obtain⟨x,P,rfl⟩:=Vwa.1 (y.mem_iff.1 E);obtain⟨p,g,_,J,M⟩:=j.snd x P;obtain⟨a,b',c,d,e,f⟩:=hF p g;have Z:x.1.1=p.1/\x.1.2.1=p.2.1:=by grind
    show 0<=x.1.1/\x.1.1<n/\0<=x.1.2.1/\x.1.2.1<n/\0<=x.2/\x.2<=1073741824;omega
   obtain⟨z,hz,rfl⟩:=Zpb hn N G;rw[hz];congr 2;refine ZtO (fun u v w ⟨e,E,J,M,h3⟩=>?_) (fun u v w ⟨p,g,B,J,M,h3⟩=>?_) n
   ·obtain⟨x,P,rfl⟩:=Vwa.1 (y.mem_iff.1 E);obtain⟨p,g,B,S,K⟩:=j.snd x P;have D:x.1.1=p.1/\x.1.2.1=p.2.1:=by grind
    refine⟨w,⟨p,g,B,?_,?_,?_⟩,Vea _⟩
    ·rw[<-D.1];assumption
    ·rw[<-D.2];assumption
    ·rw[<-K];assumption
   ·obtain⟨w',S,K⟩:=j.all p g B;have H:=Zeb (t:=YM) rfl S;refine⟨w',⟨_,y.mem_iff.2 (Vwa.2 ⟨_,H,rfl⟩),J,M,rfl⟩,by omega⟩
  refine ZrX (z:=Yy (Kg l free) n) (b.length+1) (fun s=>?_) ?_ rfl
  ·grind
  ·have key:∀(r:Nat) (es:List YH) (rest:List (Pr×Int)),rest.length=r->(es++rest.map ZeH).Perm (b.map ZeH)->
    Hv (fun q:List YH×List (Pr×Int)=>bif Vjb q.snd then(1:Nat) else Vs q.snd)
     (fun q V=>bif Vjb q.snd then Ua (Sum.inr q.fst)
       else Vc q.snd[V]? fun C=>
        Vc (Zz (decide (Vs q.fst+Vs [((C.fst.fst,C.fst.snd.fst,C.snd,()):YH)]<=ZD))) fun _=>
         Ua (Sum.inl (q.fst++[(C.fst.fst,C.fst.snd.fst,C.snd,())],List.eraseIdx q.snd V)))
     (fun Q=>Vc (F161 (n:Int) Q) fun R=>Ua R.fst) (Yy (Kg l free) n) (r+1) (es,rest):=by
    intro r
    induction r with
    |zero=>
     intro es rest hr y i F
     grind
    |succ r ih=>
     intro es rest hr y i F;have I:rest.isEmpty=false:=by grind
     simp only[I,Zd]at F;left;have g:=y.length_eq;have:=j.len;simp only[Vq,Vfb]at g
     have L:Zz (decide (es.length+ [(((rest[i]).1.1,(rest[i]).1.2.1,(rest[i]).2,()):YH)].length<=ZD))=Ua ():=by rw[Zj (by simp [ZD];omega)];rfl
     refine⟨(es++[ZeH rest[i]],rest.eraseIdx i),?_,ih _ _ (by grind) ?_⟩
     ·simp only[I,Zd,Vd F,Za];rw[show Zz _=Ua () from L];rfl
     ·refine List.Perm.trans ?_ y;have J:(rest[i]::rest.eraseIdx i).Perm rest:=ZkL F
      grind
   grind
end Q
namespace Q
open Tr Go Gr
def Jz:Int:=1099511627776
def gm(m:List (List Int))(i j:Nat):Int:=(((m[i]?).getD [])[j]?).getD 0
def H4(n:Nat)(m:List (List Int)):Prop:=m.length=n/\ ∀(i:Nat) (r:List Int),m[i]? =Ua r->r.length=n
def upd(m:List (List Int))(i j:Nat)(v:Int):List (List Int):=m.set i (((m[i]?).getD []).set j v)
theorem H4.row{n:Nat}{m:List (List Int)}(h:H4 n m){i:Nat}(a:i<n):∃r,m[i]? =Ua r/\r.length=n:=by
 have:i<m.length:=by rw[h.1];omega
 exact⟨m[i],by simp,h.2 i _ (by simp)⟩
theorem H4.upd{n:Nat}{m:List (List Int)}(h:H4 n m){i:Nat}(c:i<n)(j:Nat)(v:Int):H4 n (upd m i j v):=by
 obtain⟨r,e,f⟩:=h.row c;refine⟨by simp [Q.upd];exact h.1,fun k d a=>?_⟩;unfold Q.upd at a;by_cases b:i=k
 ·grind
 ·rw[Vba b]at a;exact h.2 k d a
theorem Zc5{n:Nat}{m:List (List Int)}(h:H4 n m){i j:Nat}(c:i<n)(f:j<n)(v:Int)(a b:Nat):gm (upd m i j v) a b=if a=i/\b=j then v else gm m a b:=by
 obtain⟨r,d,e⟩:=h.row c;unfold gm upd
 grind
theorem Zb6{n:Nat}{m:List (List Int)}(h:H4 n m){i j:Nat}(_hi:i<n)(c:j<n){r:List Int}(a:m[i]? =Ua r):r[j]? =Ua (gm m i j):=by
 have b:=h.2 i r a;unfold gm
 grind
structure XW (Ed:Nat->Nat->Int->Prop) (n k:Nat) (m:List (List Int)):Prop where
 shp:H4 n m
 snd:∀i j,i<n->j<n->gm m i j=Jz\/(gm m i j<=Jz/\Wb Ed n i j (gm m i j))
 all:∀i j d,i<n->j<n->Wb Ed k i j d->gm m i j<=d
theorem XW.bnd{Ed:Nat->Nat->Int->Prop}(e:∀u v w,Ed u v w->0<=w){n k:Nat}{m:List (List Int)}(h:XW Ed n k m){i j:Nat}(c:i<n)(d:j<n):0<=gm m i j/\gm m i j<=Jz:=by
 rcases h.snd i j c d with a|⟨a,b⟩
 ·rw[a];unfold Jz;omega
 ·exact⟨b.nonneg e,a⟩
theorem XW.step{Ed:Nat->Nat->Int->Prop}(p:∀u v w,Ed u v w->0<=w){n k:Nat}{m:List (List Int)}(h:XW Ed n k m){i j:Nat}(c:i<n)(e:j<n)(f:k<n):
 XW Ed n k (upd m i j (min (gm m i j) (gm m i k+gm m k j)))/\(∀d,Wb Ed (k+1) i j d->min (gm m i j) (gm m i k+gm m k j)<=d)/\min (gm m i j) (gm m i k+gm m k j)<=gm m i j:=by
 have B:=h.bnd p c e;have C:=h.bnd p c f;have D:=h.bnd p f e;refine⟨⟨h.shp.upd c j _,fun a b q r=>?_,fun a b d q r s=>?_⟩,fun d s=>?_,Int.min_le_left _ _⟩
 ·rw[Zc5 h.shp c e];by_cases l:a=i/\b=j
  ·obtain⟨rfl,rfl⟩:=l;rw[Zv ⟨rfl,rfl⟩];by_cases t:gm m a b<=gm m a k+gm m k b
   ·rw[Int.min_eq_left t];exact h.snd a b c e
   ·rw[Vab (by omega)];right;refine⟨by omega,?_⟩;rcases h.snd a k c f with o|⟨_,o⟩
    ·omega
    ·rcases h.snd k b f e with g|⟨_,g⟩
     ·omega
     ·exact o.app f g
  ·rw[Zg l];exact h.snd a b q r
 ·rw[Zc5 h.shp c e];have:=h.all a b d q r s
  grind
 ·rcases s.round p with ⟨x,o,g⟩|⟨y,z,o,g,A⟩
  ·have:=h.all i j x c e g;omega
  ·have:=h.all i k y c f g;have:=h.all k j z f e A;omega
structure YP (Ed:Nat->Nat->Int->Prop) (n k a b:Nat) (m:List (List Int)):Prop where
 ent:XW Ed n k m
 done:∀i j d,i<n->j<n->(i<a\/i=a/\j<b)->Wb Ed (k+1) i j d->gm m i j<=d
theorem YP.step{Ed:Nat->Nat->Int->Prop}(r:∀u v w,Ed u v w->0<=w){n k a b:Nat}{m:List (List Int)}(h:YP Ed n k a b m)(e:a<n)(f:b<n)(q:k<n):YP Ed n k a (b+1) (upd m a b (min (gm m a b) (gm m a k+gm m k b))):=by
 obtain⟨g,s,t⟩:=h.ent.step r e f q;refine⟨g,fun i j d o p x l=>?_⟩;rw[Zc5 h.ent.shp e f];by_cases c:i=a/\j=b
 ·grind
 ·rw[Zg c];exact h.done i j d o p (by omega) l
theorem YP.next{Ed:Nat->Nat->Int->Prop}{n k a:Nat}{m:List (List Int)}(h:YP Ed n k a n m):YP Ed n k (a+1) 0 m:=
 ⟨h.ent,fun i j d c e f b=>h.done i j d c e (by omega) b⟩
theorem YP.fin{Ed:Nat->Nat->Int->Prop}{n k:Nat}{m:List (List Int)}(h:YP Ed n k n 0 m):XW Ed n (k+1) m:=
 ⟨h.ent.shp,h.ent.snd,fun i j d a c b=>h.done i j d a c (.inl a) b⟩
theorem YP.start{Ed:Nat->Nat->Int->Prop}{n k:Nat}{m:List (List Int)}(h:XW Ed n k m):YP Ed n k 0 0 m:=
 ⟨h,by omega⟩
theorem Zlh(a b:Int):Tr.imin a b=min a b:=by unfold Tr.imin;omega
theorem Zns{n:Nat}(hn:n<=64){l:List Kh}(hF:DA n l)(hl:l.length<=4096)(free:Bool):∃z,F122 l (n:Int) free=Ua z/\XW (Kg l free) n n z:=by
 have R:∀u v w,Kg l free u v w->0<=w:=fun u v w ⟨p,F,_,_,_,h⟩=>by have:=hF p F;omega
 unfold F122
 refine Xz (fun st=>∃i:Nat,st=(Vg i (Vg n Jz),(i:Int))/\i<=n) (fun st=>n - st.2.toNat)
  (fun r=>r=Vg n (Vg n Jz)) (by grind) ?_ ?_
 ·rintro st ⟨i,rfl,hi⟩;by_cases c:i<n
  ·have K:Va .i64 ((i:Int)+1)=((i+1:Nat):Int):=by rw[ZH (by omega) (by omega)];omega
   simp only[show Ue ((i:Int)<(n:Int))=Uc from (by grind),Ze,K]
   refine Xz (fun st=>∃j:Nat,st=(Vg i (Vg n Jz),Vg j Jz,(j:Int))/\j<=n) (fun st=>n - st.2.2.toNat)
    (fun r=>r=(Vg i (Vg n Jz),Vg n Jz)) (by grind) ?_ ?_
   ·rintro st ⟨j,rfl,hj⟩;by_cases a4:j<n
    ·have U:Va .i64 ((j:Int)+1)=((j+1:Nat):Int):=by rw[ZH (by omega) (by omega)];omega
     simp only[show Ue ((j:Int)<(n:Int))=Uc from (by grind),Ze,U];rw[Dg (by grind)];simp only[Za];refine⟨_,rfl,⟨j+1,?_,a4⟩,by grind⟩;rw[Vra];rfl
    ·have:j=n:=by omega
     simp_all
   ·rintro r rfl;simp only;rw[Dg (by grind)];simp only[Za];refine⟨_,rfl,⟨i+1,?_,c⟩,by omega⟩;rw[Vra]
  ·have:i=n:=by omega
   simp_all
 ·rintro r rfl;have W:H4 n (Vg n (Vg n Jz)):=⟨by simp,by grind⟩
  have c1:∀i j,i<n->j<n->gm (Vg n (Vg n Jz)) i j=Jz:=fun i j hi hj=>by unfold gm;grind
  refine Xz (fun st=>∃(m:List (List Int)) (i:Nat),st=(m,(i:Int))/\i<=l.length/\H4 n m/\(∀a b,a<n->b<n->gm m a b=Jz\/(gm m a b<=Jz/\Wb (Kg l free) n a b (gm m a b)))/\
   ∀p∈l.take i,HN free p->gm m p.1.toNat p.2.1.toNat<=p.2.2.1) (fun st=>l.length - st.2.toNat)
   (fun m=>XW (Kg l free) n 0 m) ⟨_,0,rfl,Vm _,W,by grind,by simp⟩ ?_ ?_
  ·rintro st ⟨m,i,rfl,hi,o,B,s⟩;by_cases c:i<l.length
   ·have K:Va .i64 ((i:Int)+1)=((i+1:Nat):Int):=by rw[ZH (by omega) (by omega)];omega
    obtain⟨p1,p2,p3,p4,p5,p6⟩:=hF _ (Vf c);have H:l.take (i+1)=l.take i++[l[i]]:=Vp c;obtain⟨u,hu⟩:∃u:Nat,(l[i]).1=(u:Int):=by grind
    obtain⟨v,hv⟩:∃v:Nat,(l[i]).2.1=(v:Int):=by grind
    have y:u<n:=by omega
    have I:v<n:=by omega
    obtain⟨row,x,c4⟩:=o.row y;have D:=Zb6 o y I x;have a8:u<m.length:=by grind
    simp only[show Ue ((i:Int)<(l.length:Int))=Uc from (by grind),Ze,K,ZE c,Za]
    have stay:¬HN free l[i]->∃z,Ua (Sum.inl (m,((i+1:Nat):Int)):(List (List Int) ×Int) ⊕ List (List Int))=Ua z/\Vka (fun O:List (List Int) ×Int=>(∃(m:List (List Int)) (i:Nat),O=(m,(i:Int))/\i<=l.length/\H4 n m/\(∀a b,a<n->b<n->gm m a b=Jz\/(gm m a b<=Jz/\Wb (Kg l free) n a b (gm m a b)))/\
     ∀p∈l.take i,HN free p->gm m p.1.toNat p.2.1.toNat<=p.2.2.1)/\l.length - O.2.toNat<l.length - ((i:Nat):Int).toNat) (fun m=>XW (Kg l free) n 0 m) z:=fun A=>by
     refine⟨_,rfl,⟨m,i+1,rfl,c,o,B,fun p F M=>?_⟩,by omega⟩
     grind
    have put:HN free l[i]->∀b:Bool,b=Uc->∃z,(bif b then
             Vc (Zs (u:Int) (Vs m)) fun T=>
              Vc m[T]? fun _=>
               Vc (Zs (u:Int) (Vs m)) fun J=>
                Vc m[J]? fun _=>
                 Vc (idx m (J:Int)) fun b0=>
                  Vc (Zs (v:Int) (Vs b0)) fun b4=>
                   Vc (idx m (J:Int)) fun b5=>
                    Vc b5[b4]? fun b6=>
                     Vc (idx m (T:Int)) fun b7=>
                      Vc (Zs (v:Int) (Vs b7)) fun P=>
                       Vc (idx m (T:Int)) fun Q=>
                        Vc Q[P]? fun _=>
                         Ua
                          (Sum.inl (Vt m (Int.toNat (T:Int)) (Vt Q P (Tr.imin b6 (l[i]).2.2.1)),((i+1:Nat):Int)))
          else Ua (Sum.inl (m,((i+1:Nat):Int))))=Ua (z:(List (List Int) ×Int) ⊕ List (List Int))/\Vka (fun O:List (List Int) ×Int=>(∃(m:List (List Int)) (i:Nat),O=(m,(i:Int))/\i<=l.length/\H4 n m/\(∀a b,a<n->b<n->gm m a b=Jz\/(gm m a b<=Jz/\Wb (Kg l free) n a b (gm m a b)))/\
     ∀p∈l.take i,HN free p->gm m p.1.toNat p.2.1.toNat<=p.2.2.1)/\l.length - O.2.toNat<l.length - ((i:Nat):Int).toNat) (fun m=>XW (Kg l free) n 0 m) z:=by
     rintro A b rfl;have a9:v<row.length:=by omega
     have L:idx m (u:Int)=Ua row:=by assumption
     simp only[Ze,KM a8,Za,x,L,KM a9,D,Vo]
     have t:Vt m u (Vt row v (Tr.imin (gm m u v) (l[i]).2.2.1))=upd m u v (min (gm m u v) (l[i]).2.2.1):=by unfold upd;rw[x,Zlh];rfl
     rw[t];have a1:Kg l free u v (l[i]).2.2.1:=⟨_,Vf c,A,hu,hv,rfl⟩;refine⟨_,rfl,⟨_,i+1,rfl,c,o.upd y v _,fun a b ha hb=>?_,fun p F M=>?_⟩,by omega⟩
     ·rw[Zc5 o y I];by_cases X:a=u/\b=v
      ·obtain⟨rfl,rfl⟩:=X;rw[Zv ⟨rfl,rfl⟩];by_cases c2:gm m a b<=(l[i]).2.2.1
       ·grind
       ·rw[Vab (by omega)];exact .inr ⟨by grind,.one a1⟩
      grind
     ·rw[Zc5 o y I];rw[H]at F;rcases Veb.1 F with h|h
      ·have:=s p h M
       grind
      ·simp at h;grind
    simp only[hu,hv]
    cases a7:(l[i]).2.2.2.1 with
    |true=>
     simp only[Ze,Za]
     exact put (fun _=>a7) Uc rfl
    |false=>
     simp only[Zd,Za]
     cases E:free with
     |false=>
      have:=put (fun h=>by grind) Uc rfl;rw[E]at this
      grind
     |true=>
      have:=stay (fun h=>by have:=h E;grind);rw[E]at this
      grind
   ·have:i=l.length:=by omega
    subst this;simp only[show Ue ((l.length:Int)<(l.length:Int))=Ud from (by simp),Zd];rw[Vza]at s;refine⟨_,rfl,o,B,fun a b d ha hb hd=>?_⟩
    cases hd with
    |one e=>
     obtain⟨p,F,A,h1,h2,rfl⟩:=e;have:=s p F A
     simp_all
    |cons e A _=>omega
  ·intro m V;refine Xz (fun st=>∃(m:List (List Int)) (k:Nat),st=(m,(k:Int))/\k<=n/\XW (Kg l free) n k m) (fun st=>n - st.2.toNat) (fun m=>XW (Kg l free) n n m) ⟨m,0,rfl,Vm _,V⟩ ?_ (by simp);rintro st ⟨m,k,rfl,hk,V⟩;by_cases g:k<n
   ·have K:Va .i64 ((k:Int)+1)=((k+1:Nat):Int):=by rw[ZH (by omega) (by omega)];omega
    simp only[show Ue ((k:Int)<(n:Int))=Uc from (by grind),Ze,K];refine Xz (fun st=>∃(m:List (List Int)) (a:Nat),st=(m,(a:Int))/\a<=n/\YP (Kg l free) n k a 0 m) (fun st=>n - st.2.toNat) (fun m=>YP (Kg l free) n k n 0 m) ⟨m,0,rfl,Vm _,YP.start V⟩ ?_ (fun m A=>⟨_,rfl,⟨m,k+1,rfl,g,A.fin⟩,by omega⟩);rintro st ⟨m,a,rfl,ha,C⟩;by_cases f:a<n
    ·have U:Va .i64 ((a:Int)+1)=((a+1:Nat):Int):=by rw[ZH (by omega) (by omega)];omega
     simp only[show Ue ((a:Int)<(n:Int))=Uc from (by grind),Ze,U]
     refine Xz (fun st=>∃(m:List (List Int)) (b:Nat),st=(m,(b:Int))/\b<=n/\YP (Kg l free) n k a b m) (fun st=>n - st.2.toNat) (fun m=>YP (Kg l free) n k a n m) ⟨m,0,rfl,Vm _,C⟩ ?_ (fun m A=>⟨_,rfl,⟨m,a+1,rfl,f,A.next⟩,by omega⟩)
     rintro st ⟨m,b,rfl,hb,C⟩;by_cases q:b<n
     ·have e3:Va .i64 ((b:Int)+1)=((b+1:Nat):Int):=by rw[ZH (by omega) (by omega)];omega
      have o:=C.ent.shp;obtain⟨S,G,b8⟩:=o.row f;obtain⟨rk,N,b9⟩:=o.row g;have Y:a<m.length:=by grind
      have a6:k<m.length:=by grind
      have a2:idx m (a:Int)=Ua S:=by assumption
      have a3:idx m (k:Int)=Ua rk:=by assumption
      have Z:b<S.length:=by omega
      have a0:b<rk.length:=by omega
      have a5:k<S.length:=by omega
      have b1:=C.ent.bnd R f q;have b2:=C.ent.bnd R f g;have b3:=C.ent.bnd R g q;have e4:Va .i64 (gm m a k+gm m k b)=gm m a k+gm m k b:=ZH (by omega) (by unfold Jz at*;omega);simp only[show Ue ((b:Int)<(n:Int))=Uc from (by grind),Ze,e3,KM Y,KM a6,Za,G,N,a2,a3,KM Z,KM a0,KM a5,Zb6 o f q G,Zb6 o f g G,Zb6 o g q N,e4,Vo,Zlh]
      have t:Vt m a (Vt S b (min (gm m a b) (gm m a k+gm m k b)))=upd m a b (min (gm m a b) (gm m a k+gm m k b)):=by unfold upd;grind
      rw[t];exact⟨_,rfl,⟨_,b+1,rfl,q,C.step R f q g⟩,by omega⟩
     ·have:b=n:=by omega
      simp_all
    ·have:a=n:=by omega
     simp_all
   ·have:k=n:=by omega
    simp_all
end Q
namespace Q
open Tr Go
abbrev JI:=Int×Int×Int×Bool×Unit
def Gk(a b:JI):Prop:=a.1<b.1\/(a.1=b.1/\(a.2.1<b.2.1\/(a.2.1=b.2.1/\a.2.2.1<b.2.2.1)))
def XN(a b:Int):Int:=if a<b then -1 else if b<a then 1 else 0
theorem Zkp(a b:Int):F8 a b=Ua (XN a b):=by
 unfold F8 F10 XN
 grind
theorem Zuc(x y z:Int):F9 [x,y,z]=Ua (if x≠0 then x else if y≠0 then y else z):=by
 unfold F9;have h:Va .i64 (0+1:Int)=1:=by decide
 have i:Va .i64 (1+1:Int)=2:=by decide
 have j:Va .i64 (2+1:Int)=3:=by decide
 have e:idx [x,y,z] 0=Ua x:=rfl;have f:idx [x,y,z] 1=Ua y:=rfl;have g:idx [x,y,z] 2=Ua z:=rfl;have a:(([x,y,z]:List Int).length:Int)=3:=rfl;rw[ZdC];simp only[a,show Ue ((0:Int)<3)=Uc from rfl,Ze,e,Za,h];by_cases b:x=0
 ·subst b;simp only[decide_true,Vb,Zd,Za,Vi];rw[ZdC];simp only[show Ue ((1:Int)<3)=Uc from rfl,Ze,f,Za,i];by_cases c:y=0
  ·subst c;simp only[decide_true,Vb,Zd,Za,Vi];rw[ZdC];simp only[show Ue ((2:Int)<3)=Uc from rfl,Ze,g,Za,j];by_cases d:z=0
   ·subst d;rfl
   grind
  grind
 grind
def c3(a b:JI):Int:=if XN a.1 b.1≠0 then XN a.1 b.1 else if XN a.2.1 b.2.1≠0 then XN a.2.1 b.2.1 else XN a.2.2.1 b.2.2.1
theorem Zql(a b:JI):F40 a b=Ua (c3 a b):=by unfold F40;simp only[Zkp,Za];rw[show F9 [XN a.1 b.1,XN a.2.1 b.2.1,XN a.2.2.1 b.2.2.1]=_ from Zuc _ _ _];rfl
theorem Zqj(a b:JI):c3 a b<0↔Gk a b:=by unfold c3 Gk XN;omega
theorem Zqk(a b:JI):0<c3 a b↔Gk b a:=by unfold c3 Gk XN;omega
def Srt(l:List JI):Prop:=l.Pairwise Gk
theorem ZvZ{l:List JI}(h:Srt l)(d:l.length<16384):F182 l ()=Ua l:=by
 unfold F182;refine Tr.sortF_sorted Gk l (by omega) (fun x _ y _=>⟨_,Zql x y,Zqj x y,Zqk x y⟩) (fun x _=>?_) (fun a _ b _ c _=>?_) h
 ·unfold Gk;omega
 ·unfold Gk;omega
end Q
namespace Q
open Tr Go Gr
def JC(a b:Nat)(d f:Int):List JI:=
 (if 0<d/\d<=14400 then [((a:Int),(b:Int),d,Ue (f=d),())] else [])++(if f=d then [] else if 0<f/\f<=14400 then [((a:Int),(b:Int),f,Uc,())] else [])
def XP(a b:Nat)(e g:Int):List JI:=
 if 14400<e then [] else((a:Int),(b:Int),e,Ue (g=e),())::(if e<g/\g<=14400 then [((a:Int),(b:Int),g,Uc,())] else [])
def Rel(d e:Int):Prop:=(e=d/\1<=d)\/(e=Jz/\(d= -1\/Jz<=d))
theorem Zs4{a b:Nat}{d e f g:Int}(j:Rel d e)(k:Rel f g)(l:f= -1\/(d≠ -1/\d<=f)):JC a b d f=XP a b e g:=by
 unfold Rel Jz at*;unfold JC XP;by_cases c:0<d/\d<=14400
 ·have h:e=d:=by omega
  subst h;rw[Zv c,Zg (show¬(14400:Int)<e by omega)];by_cases i:f=e
  ·grind
  ·rw[Zg i];have m:¬g=e:=by omega
   grind
 ·rw[Zg c,Zv (show (14400:Int)<e by omega)]
  grind
theorem Zlv(a b:Nat)(d f:Int):(JC a b d f).length<=2:=by
 unfold JC
 grind
theorem Zkf{a b:Nat}{d:Int}{s:Bool}{out:List JI}(h:out.length<4294967295):F39 (a:Int) (b:Int) d s out=Ua (out++if 0<d/\d<=14400 then [((a:Int),(b:Int),d,s,())] else []):=by
 unfold F39;by_cases c:0<d
 ·by_cases e:d<=14400
  ·simp only[show Ue ((0:Int)<d)=Uc from Zj c,Ze,Za,show Ue (d<=(14400:Int))=Uc from Zj e];rw[Dg (by grind),Zv ⟨c,e⟩];rfl
  grind
 grind
section
variable (it:Nat->Nat->List JI) (n:Nat)
def XS(a m:Nat):List JI:=(Vr m).flatMap fun b=>if a=b then [] else it a b
def WN(m:Nat):List JI:=(Vr m).flatMap fun a=>XS it a n
end
theorem GW(it:Nat->Nat->List JI)(a m:Nat):XS it a (m+1)=XS it a m++if a=m then [] else it a m:=by unfold XS;rw[Vgb,Vua];simp
theorem ZcB(it:Nat->Nat->List JI)(n m:Nat):WN it n (m+1)=WN it n m++XS it m n:=by unfold WN;rw[Vgb,Vua];simp
theorem Zfu{it:Nat->Nat->List JI}(h:∀a b,(it a b).length<=2)(a:Nat):∀m,(XS it a m).length<=2*m
 |0=>by simp [XS]
 |m+1=>by
  rw[GW,Vq];have:=Zfu h a m
  grind
theorem Zju{it:Nat->Nat->List JI}(h:∀a b,(it a b).length<=2)(n:Nat):∀m,(WN it n m).length<=2*n*m
 |0=>by simp [WN]
 |m+1=>by
  rw[ZcB,Vq];have:=Zju h n m;have:=Zfu h m n
  grind
theorem Zea{it:Nat->Nat->List JI}(h:∀a b,(it a b).length<=2){n m:Nat}(f:n<=64)(e:m<=n):(WN it n m).length<=8192:=by have c:=Zju h n m;have d:2*n*m<=2*64*64:=Nat.mul_le_mul (by omega) (by omega);omega
theorem Zo8{it c:Nat->Nat->List JI}{n m:Nat}(g:m<=n)(h:∀a b,a<n->b<n->a≠b->it a b=c a b):WN it n m=WN c n m:=by
 induction m with
 |zero=>rfl
 |succ m e=>
  rw[ZcB,ZcB,e (by omega)];congr 1
  have:∀k,k<=n->XS it m k=XS c m k:=by
   intro k
   induction k with
   |zero=>intro _;rfl
   |succ k d=>
    intro f;rw[GW,GW,d (by omega)]
    grind
  grind
theorem Zpa{it:Nat->Nat->List JI}{n m:Nat}(e:∀a b x,x∈it a b->x.1=(a:Int)/\x.2.1=(b:Int))(l:∀a b,(it a b).Pairwise fun x y=>x.2.2.1<y.2.2.1):Srt (WN it n m):=by
 show (WN it n m).Pairwise Gk
 ·unfold WN;rw[Vqa];refine⟨fun a _=>?_,?_⟩
  ·unfold XS;rw[Vqa];refine⟨fun b _=>?_,?_⟩
   ·split
    ·simp
    ·refine List.Pairwise.imp_of_mem ?_ (l a b);intro x y c d q;obtain⟨g,h⟩:=e a b x c;obtain⟨i,j⟩:=e a b y d;unfold Gk;omega
   ·refine List.Pairwise.imp ?_ Vla;intro b f p x c y d;split at c
    ·grind
    ·split at d
     ·grind
     ·obtain⟨g,h⟩:=e a b x c;obtain⟨i,j⟩:=e a f y d;unfold Gk;omega
  ·refine List.Pairwise.imp ?_ Vla;intro a k o x c y d;unfold XS at c d;obtain⟨b,_,c⟩:=Vbb.1 c;obtain⟨f,_,d⟩:=Vbb.1 d;split at c
   ·grind
   ·split at d
    ·grind
    ·obtain⟨g,h⟩:=e a b x c;obtain⟨i,j⟩:=e k f y d;unfold Gk;omega
theorem Zs1{a b:Nat}{d f:Int}{x:JI}(h:x∈JC a b d f):x.1=(a:Int)/\x.2.1=(b:Int):=by
 unfold JC at h
 grind
theorem ZgQ{n:Nat}(m:n<=64){l:List Kh}(hF:DA n l)(s:l.length<=4096)
 (q:∀a b,KB (Kg l Uc) a b= -1\/KB (Kg l Ud) a b<=KB (Kg l Uc) a b):
 F38 l (n:Int)=Ua (WN (fun a b=>JC a b (KB (Kg l Ud) a b) (KB (Kg l Uc) a b)) n n):=by
 have key:∃z,F38 l (n:Int)=Ua z/\z=WN (fun a b=>JC a b (KB (Kg l Ud) a b) (KB (Kg l Uc) a b)) n n:=by
  unfold F38;obtain⟨_,v,rfl⟩:=ZkC m hF s Ud;obtain⟨_,w,rfl⟩:=ZkC m hF s Uc;rw[v];simp only[Za];rw[w];simp only[Za];have i:∀Ed,(Yy Ed n).length=n:=fun Ed=>by simp [Yy]
  have c:∀a b:Nat,((fun a b=>JC a b (KB (Kg l Ud) a b) (KB (Kg l Uc) a b)) a b).length<=2:=fun a b=>Zlv _ _ _ _
  have k:∀Ed (a:Nat),a<n->idx (Yy Ed n) (a:Int)=Ua ((Vr n).map fun j=>KB Ed a j):=fun Ed a o=>by
   have h:=ZlT (Ed:=Ed) o
   assumption
  have f:∀Ed (a b:Nat),b<n->idx ((Vr n).map fun j=>KB Ed a j) (b:Int)=Ua (KB Ed a b):=fun Ed a b y=>by rw[ZE (by grind)];simp
  refine Xz (fun st=>∃a:Nat,st=(WN (fun a b=>JC a b (KB (Kg l Ud) a b) (KB (Kg l Uc) a b)) n a,(a:Int))/\a<=n) (fun st=>n - st.2.toNat)
   (fun r=>r=WN (fun a b=>JC a b (KB (Kg l Ud) a b) (KB (Kg l Uc) a b)) n n) ⟨0,rfl,Vm _⟩ ?_ ?_
  ·rintro st ⟨a,rfl,o⟩;by_cases p:a<n
   ·have t:Va .i64 ((a:Int)+1)=((a+1:Nat):Int):=by rw[ZH (by omega) (by omega)];omega
    simp only[i,show Ue ((a:Int)<(n:Int))=Uc from (by grind),Ze,k _ a p,Za,t,Vfb,List.length_range]
    refine Xz (fun st=>∃b:Nat,st=(WN (fun a b=>JC a b (KB (Kg l Ud) a b) (KB (Kg l Uc) a b)) n a++XS (fun a b=>JC a b (KB (Kg l Ud) a b) (KB (Kg l Uc) a b)) a b,(b:Int))/\b<=n) (fun st=>n - st.2.toNat)
     (fun r=>r=WN (fun a b=>JC a b (KB (Kg l Ud) a b) (KB (Kg l Uc) a b)) n (a+1)) ⟨0,by simp [XS],Vm _⟩ ?_ ?_
    ·rintro st ⟨b,rfl,y⟩;by_cases d:b<n
     ·have u:Va .i64 ((b:Int)+1)=((b+1:Nat):Int):=by rw[ZH (by omega) (by omega)];omega
      simp only[show Ue ((b:Int)<(n:Int))=Uc from (by grind),Ze,f _ a b d,Za,u];by_cases e:a=b
      ·subst e;simp only[decide_true,Ze];exact⟨_,rfl,⟨a+1,by rw[GW,Zv rfl,Vhb],d⟩,by omega⟩
      ·have A:(WN (fun a b=>JC a b (KB (Kg l Ud) a b) (KB (Kg l Uc) a b)) n a++XS (fun a b=>JC a b (KB (Kg l Ud) a b) (KB (Kg l Uc) a b)) a b).length<=10000:=by rw[Vq];have:=Zea c m o;have:=Zfu c a b;omega
       simp only[show Ue ((a:Int)=(b:Int))=Ud from (by grind),Zd];rw[Zkf (by omega)];simp only[Za];by_cases g:KB (Kg l Uc) a b=KB (Kg l Ud) a b
       ·simp only[g,decide_true,Vb,Zd];refine⟨_,rfl,⟨b+1,?_,d⟩,by omega⟩;rw[GW,Zg e, <-Vha];congr 1;unfold JC
        grind
       ·simp only[Zr g,Vl,Ze];rw[Zkf (by grind)];simp only[Za];refine⟨_,rfl,⟨b+1,?_,d⟩,by omega⟩;rw[GW,Zg e,Vha, <-Vha (WN _ _ _)];congr 1;unfold JC
        grind
     ·have:b=n:=by omega
      subst this;simp only[show Ue ((b:Int)<(b:Int))=Ud from (by simp),Zd];exact⟨_,rfl,(ZcB _ _ _).symm⟩
    grind
   ·have:a=n:=by omega
    simp_all
  ·rintro r rfl
   have B:Srt (WN (fun a b=>JC a b (KB (Kg l Ud) a b) (KB (Kg l Uc) a b)) n n):=Zpa (fun a b x C=>Zs1 C) (fun a b=>by
    unfold JC;have:=q a b;split
    ·grind
    ·split
     ·simp
     ·split<;>simp)
   rw[ZvZ B (by have:=Zea c m (Vw n);omega)];simp
 grind
end Q
namespace Q
open Tr Go Gr
theorem Ztn{Ed:Nat->Nat->Int->Prop}(f:∀u v w,Ed u v w->0<=w){s v:Nat} :∀(k:Nat) (d:Int),d.toNat=k->Wk Ed s v d->∃m,XY Ed s v m:=by
 intro k
 induction k using Vcb with
 |ind k j=>
  intro d i h;by_cases c:∃b,Wk Ed s v b/\b<d
  ·obtain⟨b,e,g⟩:=c;have a:=e.nonneg f
   grind
  ·exact⟨d,h,by grind⟩
theorem ZwJ{Ed:Nat->Nat->Int->Prop}(a:∀u v w,Ed u v w->1<=w){k i j:Nat}{d:Int}(h:Wb Ed k i j d):1<=d:=by
 induction h with
 |one e=>grind
 |cons e _ _ b=>grind
theorem ZeI{n:Nat}{l:List Kh}(hF:DA n l)(free:Bool):∀u v w,Kg l free u v w->u<n/\v<n/\1<=w:=fun u v w ⟨p,a,_,b,c,d⟩=>by have:=hF p a;omega
theorem ZeA{n:Nat}{l:List Kh}(hF:DA n l)(a b:Nat):KB (Kg l Uc) a b= -1\/(KB (Kg l Ud) a b≠ -1/\KB (Kg l Ud) a b<=KB (Kg l Uc) a b):=by
 by_cases h:∃d,XY (Kg l Uc) a b d
 ·right;obtain⟨d,g⟩:=h;have i:∀u v w,Kg l Ud u v w->0<=w:=fun u v w h=>by have:=ZeI hF Ud u v w h;omega
  have c:Wk (Kg l Ud) a b d:=by
   have key:∀{v:Nat}{d:Int},Wk (Kg l Uc) a v d->Wk (Kg l Ud) a v d:=by
    intro v d h
    induction h with
    |nil=>exact .nil
    |snoc _ e o=>
     obtain⟨p,k,_,j⟩:=e;exact .snoc o ⟨p,k,(fun(h:Ud=Uc)=>by cases h),j⟩
   exact key g.1
  obtain⟨m,f⟩:=Ztn i _ d rfl c;rw[Zaq f,Zaq g];have:=f.1.nonneg i;exact⟨by omega,f.2 d c⟩
 ·left;unfold KB
  grind
theorem ZmT{n:Nat}{l:List Kh}(hF:DA n l){free:Bool}{m:List (List Int)}(i:XW (Kg l free) n n m){a b:Nat}(j:a<n)(k:b<n)(o:a≠b):Rel (KB (Kg l free) a b) (gm m a b):=by
 have p:∀u v w,Kg l free u v w->u<n/\v<n:=fun u v w h=>⟨(ZeI hF free u v w h).1,(ZeI hF free u v w h).2.1⟩
 have c:∀d,Wk (Kg l free) a b d->gm m a b<=d:=fun d f=>by
  rcases f.wb p with ⟨h,_⟩|h
  ·omega
  ·exact i.all a b d j k h
 rcases i.snd a b j k with h|⟨_,h⟩
 ·right;refine⟨h,?_⟩;by_cases g:∃d,XY (Kg l free) a b d
  ·obtain⟨d,f⟩:=g;rw[Zaq f];have:=c d f.1;omega
  ·left;unfold KB;grind
 ·left;have e:=Wb.wk (Wk.nil (Ed:=Kg l free) (s:=a)) h;rw[Int.zero_add]at e;rw[Zaq ⟨e,c⟩];exact⟨rfl,ZwJ (fun u v w h=>(ZeI hF free u v w h).2.2) h⟩
theorem Zs2(a b:Nat)(d f:Int):(XP a b d f).length<=2:=by
 unfold XP
 grind
theorem Zq8{n:Nat}(q:n<=64){l:List Kh}(hF:DA n l)(w:l.length<=4096):
 ∃c d,XW (Kg l Ud) n n c/\XW (Kg l Uc) n n d/\F120 l (n:Int)=Ua (WN (fun a b=>XP a b (gm c a b) (gm d a b)) n n):=by
 obtain⟨c,C,j⟩:=Zns q hF w Ud;obtain⟨d,D,k⟩:=Zns q hF w Uc;refine⟨c,d,j,k,?_⟩
 have key:∃z,F120 l (n:Int)=Ua z/\z=WN (fun a b=>XP a b (gm c a b) (gm d a b)) n n:=by
  unfold F120;rw[C];simp only[Za];rw[D];simp only[Za];have i:∀a b:Nat,((fun a b=>XP a b (gm c a b) (gm d a b)) a b).length<=2:=fun a b=>Zs2 _ _ _ _
  refine Xz (fun st=>∃a:Nat,st=(WN (fun a b=>XP a b (gm c a b) (gm d a b)) n a,(a:Int))/\a<=n) (fun st=>n - st.2.toNat)
   (fun r=>r=WN (fun a b=>XP a b (gm c a b) (gm d a b)) n n) ⟨0,rfl,Vm _⟩ ?_ (by simp)
  rintro st ⟨a,rfl,E⟩;by_cases g:a<n
  ·have A:Va .i64 ((a:Int)+1)=((a+1:Nat):Int):=by rw[ZH (by omega) (by omega)];omega
   obtain⟨u,s,J⟩:=j.shp.row g;obtain⟨v,t,K⟩:=k.shp.row g;have F:a<c.length:=by grind
   have G:a<d.length:=by grind
   have L:idx c (a:Int)=Ua u:=by assumption
   have M:idx d (a:Int)=Ua v:=by assumption
   simp only[show Ue ((a:Int)<(n:Int))=Uc from (by grind),Ze,A]
   refine Xz (fun st=>∃b:Nat,st=(WN (fun a b=>XP a b (gm c a b) (gm d a b)) n a++XS (fun a b=>XP a b (gm c a b) (gm d a b)) a b,(b:Int))/\b<=n) (fun st=>n - st.2.toNat)
    (fun r=>r=WN (fun a b=>XP a b (gm c a b) (gm d a b)) n (a+1)) ⟨0,by simp [XS],Vm _⟩ ?_ ?_
   ·rintro st ⟨b,rfl,N⟩;by_cases e:b<n
    ·have B:Va .i64 ((b:Int)+1)=((b+1:Nat):Int):=by rw[ZH (by omega) (by omega)];omega
     have H:b<u.length:=by omega
     have I:b<v.length:=by omega
     have x:idx u (b:Int)=Ua (gm c a b):=by
      have:=Zb6 j.shp g e s
      assumption
     have y:idx v (b:Int)=Ua (gm d a b):=by
      have:=Zb6 k.shp g e t
      assumption
     simp only[show Ue ((b:Int)<(n:Int))=Uc from (by grind),Ze,L,M,x,y,Za,B];by_cases f:a=b
     ·subst f;simp only[decide_true,Ze,Za];exact⟨_,rfl,⟨a+1,by rw[GW,Zv rfl,Vhb],e⟩,by omega⟩
     ·have p:(WN (fun a b=>XP a b (gm c a b) (gm d a b)) n a++XS (fun a b=>XP a b (gm c a b) (gm d a b)) a b).length<=10000:=by rw[Vq];have:=Zea i q E;have:=Zfu i a b;omega
      simp only[show Ue ((a:Int)=(b:Int))=Ud from (by grind),Zd,Za];by_cases h:14400<gm c a b
      ·simp only[Zj h,Ze];refine⟨_,rfl,⟨b+1,?_,e⟩,by omega⟩;rw[GW,Zg f];unfold XP
       grind
      ·simp only[Zr h,Zd];rw[Dg (by grind)];simp only[Za];by_cases o:gm c a b<gm d a b
       ·simp only[Zj o,Ze,Za];by_cases m:gm d a b<=14400
        ·simp only[Zj m,Ze];rw[Dg (by grind)];simp only[Za];refine⟨_,rfl,⟨b+1,?_,e⟩,by omega⟩;rw[GW,Zg f];unfold XP
         grind
        ·simp only[Zr m,Zd];refine⟨_,rfl,⟨b+1,?_,e⟩,by omega⟩;rw[GW,Zg f];unfold XP
         grind
       ·simp only[Zr o,Zd,Za];refine⟨_,rfl,⟨b+1,?_,e⟩,by omega⟩;rw[GW,Zg f];unfold XP
        grind
    ·have:b=n:=by omega
     subst this;simp only[show Ue ((b:Int)<(b:Int))=Ud from (by simp),Zd];exact⟨_,rfl,(ZcB _ _ _).symm⟩
   grind
  ·have:a=n:=by omega
   simp_all
 grind
theorem ZgP{n:Nat}(g:n<=64){l:List Kh}(hF:DA n l)(k:l.length<=4096):∃c:List Kh,F38 l (n:Int)=Ua c/\F120 l (n:Int)=Ua c/\c.length<=8192:=by obtain⟨m,o,e,f,h⟩:=Zq8 g hF k;refine⟨_,ZgQ g hF k (fun a b=>(ZeA hF a b).imp id fun h=>h.2),?_,Zea (fun a b=>Zlv _ _ _ _) g (Vw n)⟩;rw[h];congr 1;refine(Zo8 (Vw n) fun a b i j d=>?_).symm;exact Zs4 (ZmT hF e i j d) (ZmT hF f i j d) (ZeA hF a b)
end Q
namespace Q
open Tr Go
def Wq(n:Nat)(chk:Nat->Int):Option Nat:=(Vr n).find? fun i=>Ue (chk i≠0)
theorem Zsf{n i:Nat}{chk:Nat->Int}(b:i<n)(h:∀j,j<i->chk j=0)(a:chk i≠0):Wq n chk=Ua i:=by
 unfold Wq
 simp_all
theorem ZeP{n:Nat}{chk:Nat->Int}(h:∀j,j<n->chk j=0):Wq n chk=none:=by
 unfold Wq
 grind
theorem WU{n:Nat}{chk:Nat->Int} :Wq n chk=Ub↔∀j,j<n->chk j=0:=by
 refine⟨fun h j a=>?_,ZeP⟩;unfold Wq at h
 grind
theorem Zat{n i:Nat}{chk:Nat->Int}(h:Wq n chk=Ua i):i<n/\chk i≠0:=by
 unfold Wq at h
 grind
def pick{τ:Type}(n:Nat)(chk:Nat->Int)(R:Nat->τ)(E:τ):τ:=match Wq n chk with
 |some i=>R i
 |none=>E
theorem JG{σ τ:Type}{step:σ->Option (σ ⊕ τ)}{n:Nat}(a:Nat->σ->Prop)(chk:Nat->Int)(R:Nat->τ)(E:τ)
 (g:∀i s,i<n->a i s->chk i=0->∃s',step s=Ua (.inl s')/\a (i+1) s')
 (b:∀i s,i<n->a i s->chk i≠0->step s=Ua (.inr (R i)))
 (c:∀s,a n s->step s=Ua (.inr E)):∀s,a 0 s->run step s=Ua (pick n chk R E):=by
 have key:∀(k i:Nat) (s:σ),n - i=k->i<=n->a i s->(∀j,j<i->chk j=0)->run step s=Ua (pick n chk R E):=by
  intro k
  induction k with
  |zero=>
   intro i s m l d f;have:i=n:=by omega
   subst this;rw[XA (c s d)];unfold pick
   rw[ZeP f]
  |succ k p=>
   intro i s m l d f;by_cases e:chk i=0
   ·obtain⟨s',h,o⟩:=g i s (by omega) d e;rw[Y1 h]
    grind
   ·rw[XA (b i s (by omega) d e)];unfold pick;rw[Zsf (by omega) f e]
 grind
theorem ZvF{τ:Type}{step:Int->Option (Int ⊕ τ)}{n:Nat}(chk:Nat->Int)(R:Nat->τ)(E:τ)
 (b:∀i:Nat,i<n->step (i:Int)=if chk i=0 then Ua (.inl ((i+1:Nat):Int)) else Ua (.inr (R i))) (a:step (n:Int)=Ua (.inr E)):run step (0:Int)=Ua (pick n chk R E):=by
 refine JG (fun i st=>st=(i:Int)) _ _ _ ?_ ?_ ?_ _ rfl
 all_goals grind
def WX{t:Ty}(key:Nat->El t)(i:Nat)(m:List (El t×Bool)):Prop:= ∀k,Ve (ZT (Zm t) k m) Ud=Uc↔∃j,j<i/\key j=k
theorem WX.nil{t:Ty}(key:Nat->El t):WX key 0 []:=fun k=>by simp [ZT]
theorem WX.add{t:Ty}(b:t.key=Uc){key:Nat->El t}{i:Nat}{m:List (El t×Bool)}(h:WX key i m):WX key (i+1) (Kn (Zm t) (key i) Uc m):=by
 classical
 intro k;rw[Zag b];by_cases a:k=key i
 ·grind
 ·rw[Zg a,h k]
  grind
theorem Kb{i n:Nat}(h:i<n)(a:n<=9223372036854775807):Va .i64 ((i:Int)+1)=((i+1:Nat):Int):=by rw[ZH (by omega) (by omega)];omega
theorem ZQ{i n:Nat}(h:i<n):Ue ((i:Int)<(n:Int))=true:=by grind
theorem XQ(n:Nat):Ue ((n:Int)<(n:Int))=false:=by simp
def okx(x:Int):Bool:=
 ((Ue (97<=x) &&Ue (x<=122)) || (Ue (65<=x) &&Ue (x<=90)) || (Ue (48<=x) &&Ue (x<=57))) || (Ue (x=45) ||decide (x=95) ||decide (x=46))
def YY(c:UInt8):Bool:=okx (c.toNat:Int)
def Wt(s:List UInt8):Bool:=Ue (1<=s.length/\s.length<=32) &&s.all YY
theorem ZjV(b:Bool)(x y:Bool):(bif b then Ua x else Ua y)=Ua (bif b then x else y):=by grind
def GG(s:List UInt8)(i:Nat):Int:=if YY ((s[i]?).getD 0) then 0 else 1
theorem Zem(s:List UInt8):Wq s.length (GG s)=Ub↔s.all YY=true:=by
 rw[WU,List.all_eq_true];constructor
 ·intro h c b;obtain⟨i,a,rfl⟩:=Vh b;have:=h i a;unfold GG at this
  grind
 ·intro h i a;unfold GG
  grind
theorem R3(s:List UInt8)(f:s.length<=9223372036854775807):F51 s=Ua (Wt s):=by
 unfold F51;rw[JG (n:=s.length) (fun i st=>st=(i:Int)) (GG s) (fun _=>.inr Ud) (.inl ()) ?_ ?_ ?_ (0:Int) rfl]
 ·unfold pick;simp only[Za]
  cases e:Wq s.length (GG s) with
  |none=>
   have d:=(Zem s).1 e;simp only[Vi];unfold Wt;rw[d,Bool.and_true];by_cases g:0<s.length
   ·rw[Zj (by omega)];simp only[Ze,Za];congr 1
    grind
   grind
  |some i=>
   simp only[Sum.elim_inr]
   have d:s.all YY=false:=by
    cases b:s.all YY with
    |false=>rfl
    |true=>rw[(Zem s).2 b]at e;grind
   unfold Wt
   grind
 ·rintro i _ a rfl b;refine⟨_,?_,rfl⟩
  have c:YY s[i]=true:=by
   unfold GG at b
   grind
  simp only[ZQ a,Ze,ZE a,Za,ZjV,Kb a f];unfold YY okx at c
  grind
 ·rintro i _ a rfl b
  have c:YY s[i]=false:=by
   unfold GG at b
   grind
  simp only[ZQ a,Ze,ZE a,Za,ZjV,Kb a f];unfold YY okx at c
  grind
 simp
theorem Za3(s:List UInt8):F125 s=Ua (Wt s):=by
 unfold F125;by_cases f:s.length<1
 ·rw[Zj (by omega)];simp only[Ze,Za];unfold Wt
  grind
 ·rw[Zr (by omega)];simp only[Zd,Za];by_cases g:32<s.length
  ·rw[Zj (by omega)];simp only[Ze];unfold Wt
   grind
  ·rw[Zr (by omega)];simp only[Zd];have e:s.length<=9223372036854775807:=by omega
   rw[JG (n:=s.length) (fun i st=>st=(i:Int)) (GG s) (fun _=>.inr Ud) (.inl ()) ?_ ?_ ?_ (0:Int) rfl]
   ·unfold pick;simp only[Za];unfold Wt;rw[Zj (by omega),Vaa]
    cases d:Wq s.length (GG s) with
    |none=>rw[(Zem s).1 d];rfl
    |some i=>
     have h:s.all YY=false:=by
      cases b:s.all YY with
      |false=>rfl
      |true=>rw[(Zem s).2 b]at d;grind
     grind
   ·rintro i _ a rfl b;refine⟨_,?_,rfl⟩
    have c:YY s[i]=true:=by
     unfold GG at b
     grind
    simp only[ZQ a,Ze,ZE a,Za,Kb a e];unfold YY okx at c
    grind
   ·rintro i _ a rfl b
    have c:YY s[i]=false:=by
     unfold GG at b
     grind
    simp only[ZQ a,Ze,ZE a,Za,Kb a e];unfold YY okx at c
    grind
   simp
end Q
namespace Q
open Tr Go
open Classical in
noncomputable def YV(name dup num:Prop):Int:=if name then 12 else if dup then 6 else if num then 2 else 0
theorem De{a b c:Prop} :YV a b c=0↔¬a/\ ¬b/\ ¬c:=by
 unfold YV
 grind
theorem ZbE{a b c:Prop}(h:a):YV a b c=12:=by unfold YV;grind
theorem ZbD{a b c:Prop}(h:¬a)(d:b):YV a b c=6:=by unfold YV;grind
theorem ZbG{a b c:Prop}(h:¬a)(d:¬b)(e:c):YV a b c=2:=by unfold YV;grind
theorem ZbF{a b c:Prop}(h:¬a)(d:¬b)(e:¬c):YV a b c=0:=by unfold YV;grind
theorem ZcU{τ:Type}{step:Int->Option (Int ⊕ τ)}{i:Nat}{p:Nat->Prop}{R E:τ}(f:∀j:Nat,j<i->¬p j->step (j:Int)=Ua (.inl ((j+1:Nat):Int)))(c:∀j:Nat,j<i->p j->step (j:Int)=Ua (.inr R))
 (a:step (i:Int)=Ua (.inr E)):((∃j,j<i/\p j)->run step (0:Int)=Ua R)/\((¬∃j,j<i/\p j)->run step (0:Int)=Ua E):=by
 classical
 have key:=JG (n:=i) (step:=step) (fun j st=>st=(j:Int)) (fun j=>if p j then 1 else 0) (fun _=>R) E (by grind) (by grind) (by grind) (0:Int) rfl
 constructor
 ·rintro ⟨j,e,g⟩;rw[key];unfold pick
  cases d:Wq i (fun j=>if p j then 1 else 0) with
  |some k=>rfl
  |none=>
   have:=WU.1 d j e
   grind
 ·intro b;rw[key];unfold pick;rw[ZeP (by grind)]
theorem Hk(x a b:Int):F126 x a b=Ua (Ue (a<=x/\x<=b)):=by
 unfold F126
 grind
theorem ZiV(x a b:Int):F86 x a b=Ua (Ue (a<=x/\x<=b)):=Hk x a b
abbrev DH:=List UInt8×Int×Bool×Int×Unit
abbrev Hb:=List UInt8×Int×Bool×Unit
noncomputable def Gu(l:List DH)(i:Nat):Int:=
 let x:DH:=(l[i]?).getD ([],0,Ud,0,())
 YV (Wt x.1=Ud) (∃j,j<i/\((l[j]?).getD ([],0,Ud,0,())).1=x.1) (x.2.1<0\/16<=x.2.1\/x.2.2.2.1<0\/3600<x.2.2.2.1)
noncomputable def Gv(l:List DH):Int×Int:=if 64<l.length then(0,5) else pick l.length (Gu l) (fun i=>((i:Int),Gu l i)) (0,0)
theorem Zv5(l:List DH)(q:∀x∈l,x.1.length<=9223372036854775807):F185 l=Ua (Gv l):=by
 unfold F185 Gv;by_cases k:64<l.length
 ·grind
 ·rw[Zg k,Zr (by omega)];simp only[Zd];rw[JG (n:=l.length) (fun i st=>∃m,st=(m,(i:Int))/\WX (t:=Y9) (fun j=>((l[j]?).getD ([],0,Ud,0,())).1) i m) (Gu l) (fun i=>.inr ((i:Int),Gu l i)) (.inl ()) ?_ ?_ ?_ ([],(0:Int)) ⟨[],rfl,WX.nil _⟩]
  ·unfold pick
   grind
  ·rintro i _ a ⟨m,rfl,f⟩ d;have p:(l[i]?).getD ([],0,Ud,0,())=l[i]:=by grind
   unfold Gu at d;simp only[p]at d;obtain⟨e,b,g⟩:=De.1 d;have e:Wt (l[i]).1=true:=by grind
   have c:Ve (ZT (Zm Y9) (l[i]).1 m) Ud=false:=by
    cases o:Ve (ZT (Zm Y9) (l[i]).1 m) Ud with
    |false=>rfl
    |true=>exact absurd ((f _).1 o) b
   refine⟨(Kn (Zm Y9) (l[i]).1 Uc m,((i+1:Nat):Int)),?_,_,rfl,?_⟩
   ·simp only[ZQ a,Ze,ZE a,Za,R3 _ (q _ (Vf a)),e,Vb,Zd,c,Kb a (by omega),
     show Ue ((l[i]).2.1<0)=Ud from (by grind),show Ue ((16:Int)<=(l[i]).2.1)=Ud from (by grind),show Ue ((l[i]).2.2.2.1<0)=Ud from (by grind),show Ue ((3600:Int)<(l[i]).2.2.2.1)=Ud from (by grind)]
   ·have:=WX.add (t:=Y9) rfl f
    grind
  ·rintro i _ a ⟨m,rfl,f⟩ d;have p:(l[i]?).getD ([],0,Ud,0,())=l[i]:=by grind
   simp only[ZQ a,Ze,ZE a,Za,R3 _ (q _ (Vf a))];unfold Gu at d⊢;simp only[p]at d⊢;by_cases e:Wt (l[i]).1=Ud
   ·rw[ZbE e,e];rfl
   ·have h:Wt (l[i]).1=true:=by grind
    simp only[h,Vb,Zd];by_cases b:∃j,j<i/\((l[j]?).getD ([],0,Ud,0,())).1=(l[i]).1
    ·rw[ZbD (by simp) b,(f _).2 b];rfl
    ·have c:Ve (ZT (Zm Y9) (l[i]).1 m) Ud=false:=by
      cases o:Ve (ZT (Zm Y9) (l[i]).1 m) Ud with
      |false=>rfl
      |true=>exact absurd ((f _).1 o) b
     simp only[c,Zd]
     have g:(l[i]).2.1<0\/16<=(l[i]).2.1\/(l[i]).2.2.2.1<0\/3600<(l[i]).2.2.2.1:=by
      by_cases g:(l[i]).2.1<0\/16<=(l[i]).2.1\/(l[i]).2.2.2.1<0\/3600<(l[i]).2.2.2.1
      ·omega
      ·exact absurd (ZbF e b g) d
     rw[ZbG (by simp) b g]
     grind
  simp
theorem Zv6(l:List DH):F132 l=Ua (Gv l):=by
 unfold F132 Gv;by_cases s:64<l.length
 ·grind
 ·rw[Zg s,Zr (by omega)];simp only[Zd]
  have a:∀i (b:i<l.length) (τ:Type) (R E:τ) (f:Int->τ),f (i:Int)=R->((∃j,j<i/\((l[j]?).getD ([],0,Ud,0,())).1=(l[i]).1)->run (fun h:Int=>
        bif decide (h<(i:Int)) then
         Vc (idx l h) fun t=>
          bif decide (t.fst=(l[i]).fst) then Ua (Sum.inr (f (i:Int))) else Ua (Sum.inl (Va .i64 (h+(1:Int))))
        else Ua (Sum.inr E)) (0:Int)=Ua R)/\((¬∃j,j<i/\((l[j]?).getD ([],0,Ud,0,())).1=(l[i]).1)->run (fun h:Int=>
        bif decide (h<(i:Int)) then
         Vc (idx l h) fun t=>
          bif decide (t.fst=(l[i]).fst) then Ua (Sum.inr (f (i:Int))) else Ua (Sum.inl (Va .i64 (h+(1:Int))))
        else Ua (Sum.inr E)) (0:Int)=Ua E):=by
   intro i b τ R E f u;refine ZcU (p:=fun j=>((l[j]?).getD ([],0,Ud,0,())).1=(l[i]).1) (fun j q m=>?_) (fun j q m=>?_) ?_
   ·have e:j<l.length:=by omega
    have g:(l[j]?).getD ([],0,Ud,0,())=l[j]:=by grind
    rw[g]at m;simp only[ZQ q,Ze,ZE e,Za,Zr m,Zd,Kb q (by omega)]
   ·have e:j<l.length:=by omega
    have g:(l[j]?).getD ([],0,Ud,0,())=l[j]:=by grind
    rw[g]at m;simp only[ZQ q,Ze,ZE e,Za,Zj m,u]
   simp
  rw[JG (n:=l.length) (fun i st=>st=(i:Int)) (Gu l) (fun i=>.inr ((i:Int),Gu l i)) (.inl ()) ?_ ?_ ?_ (0:Int) rfl]
  ·unfold pick
   grind
  ·rintro i _ b rfl d;have g:(l[i]?).getD ([],0,Ud,0,())=l[i]:=by grind
   unfold Gu at d;simp only[g]at d;obtain⟨k,c,o⟩:=De.1 d;have k:Wt (l[i]).1=true:=by grind
   refine⟨((i+1:Nat):Int),?_,rfl⟩;simp only[ZQ b,Ze,ZE b,Za,Za3,k,Vb,Zd];rw[(a i b _ _ (Sum.inl ()) (fun x=>Sum.inr (x,(6:Int))) rfl).2 c];simp only[Za,Vi,Hk,Zj (show (0:Int)<=(l[i]).2.1/\(l[i]).2.1<=15 by omega),Vb,Zd,Zj (show (0:Int)<=(l[i]).2.2.2.1/\(l[i]).2.2.2.1<=3600 by omega),Kb b (by omega)]
  ·rintro i _ b rfl d;have g:(l[i]?).getD ([],0,Ud,0,())=l[i]:=by grind
   simp only[ZQ b,Ze,ZE b,Za,Za3];unfold Gu at d⊢;simp only[g]at d⊢;by_cases k:Wt (l[i]).1=Ud
   ·rw[ZbE k,k];rfl
   ·have r:Wt (l[i]).1=true:=by grind
    simp only[r,Vb,Zd];by_cases c:∃j,j<i/\((l[j]?).getD ([],0,Ud,0,())).1=(l[i]).1
    ·rw[ZbD (by simp) c,(a i b _ _ (Sum.inl ()) (fun x=>Sum.inr (x,(6:Int))) rfl).1 c];rfl
    ·rw[(a i b _ _ (Sum.inl ()) (fun x=>Sum.inr (x,(6:Int))) rfl).2 c]
     have o:(l[i]).2.1<0\/16<=(l[i]).2.1\/(l[i]).2.2.2.1<0\/3600<(l[i]).2.2.2.1:=by
      by_cases o:(l[i]).2.1<0\/16<=(l[i]).2.1\/(l[i]).2.2.2.1<0\/3600<(l[i]).2.2.2.1
      ·omega
      ·exact absurd (ZbF k c o) d
     rw[ZbG (by simp) c o];simp only[Za,Vi,Hk]
     grind
  simp
end Q
namespace Q
open Tr Go
theorem ZlB(x:Int):F160 x=Ua (Ue (0<=x/\x<=7)):=by
 unfold F160
 grind
theorem ZbA{α:Type}{l:List α}{nm:α->List UInt8}{d:α}{i:Nat}(h:i<l.length)(k:l.length<=9223372036854775807){y:List UInt8}{τ:Type}(R E:τ):
 ((∃j,j<i/\nm ((l[j]?).getD d)=y)->run (fun b:Int=>
        bif decide (b<(i:Int)) then
         Vc (idx l b) fun g=>
          bif decide (nm g=y) then Ua (Sum.inr R) else Ua (Sum.inl (Va .i64 (b+(1:Int))))
        else Ua (Sum.inr E)) (0:Int)=Ua R)/\((¬∃j,j<i/\nm ((l[j]?).getD d)=y)->run (fun b:Int=>
        bif decide (b<(i:Int)) then
         Vc (idx l b) fun g=>
          bif decide (nm g=y) then Ua (Sum.inr R) else Ua (Sum.inl (Va .i64 (b+(1:Int))))
        else Ua (Sum.inr E)) (0:Int)=Ua E):=by
 refine ZcU (p:=fun j=>nm ((l[j]?).getD d)=y) (fun j e c=>?_) (fun j e c=>?_) ?_
 ·have a:j<l.length:=by omega
  have f:(l[j]?).getD d=l[j]:=by grind
  rw[f]at c;simp only[ZQ e,Ze,ZE a,Za,Zr c,Zd,Kb e (by omega)]
 ·have a:j<l.length:=by omega
  have f:(l[j]?).getD d=l[j]:=by grind
  rw[f]at c;simp only[ZQ e,Ze,ZE a,Za,Zj c]
 simp
def r0:Hb:=([],0,Ud,())
noncomputable def GU(l:List Hb)(i:Nat):Int:=
 YV (Wt ((l[i]?).getD r0).1=Ud) (∃j,j<i/\((l[j]?).getD r0).1=((l[i]?).getD r0).1) (¬(0<=((l[i]?).getD r0).2.1/\((l[i]?).getD r0).2.1<=7))
noncomputable def GV(l:List Hb):Int×Int:=if 64<l.length then(0,5) else pick l.length (GU l) (fun i=>((i:Int),GU l i)) (0,0)
theorem Ku{α:Type}{l:List α}{i:Nat}(h:i<l.length)(d:α):(l[i]?).getD d=l[i]:=by grind
theorem Rh{t:Ty}{key:Nat->El t}{i:Nat}{m:List (El t×Bool)}(h:WX key i m){k:El t}(b:¬∃j,j<i/\key j=k):Ve (ZT (Zm t) k m) Ud=false:=by
 cases a:Ve (ZT (Zm t) k m) Ud with
 |false=>rfl
 |true=>exact absurd ((h k).1 a) b
theorem Zvf(l:List Hb)(p:∀x∈l,x.1.length<=9223372036854775807):F159 l=Ua (GV l):=by
 unfold F159 GV;by_cases o:64<l.length
 ·grind
 ·rw[Zg o,Zr (by omega)];simp only[Zd];rw[JG (n:=l.length) (fun i st=>∃m,st=(m,(i:Int))/\WX (t:=Y9) (fun j=>((l[j]?).getD r0).1) i m) (GU l) (fun i=>.inr ((i:Int),GU l i)) (.inl ()) ?_ ?_ ?_ ([],(0:Int)) ⟨[],rfl,WX.nil _⟩]
  ·unfold pick
   grind
  ·rintro i _ a ⟨m,rfl,f⟩ c;have g:=Ku a r0;unfold GU at c;rw[g]at c;obtain⟨d,b,e⟩:=De.1 c;have d:Wt (l[i]).1=true:=by grind
   have k:=Rh f b;have e:0<=(l[i]).2.1/\(l[i]).2.1<=7:=by omega
   refine⟨(Kn (Zm Y9) (l[i]).1 Uc m,((i+1:Nat):Int)),?_,_,rfl,?_⟩
   ·simp only[ZQ a,Ze,ZE a,Za,R3 _ (p _ (Vf a)),d,Vb,Zd,k,Kb a (by omega),ZlB,Zj e]
   ·have:=WX.add (t:=Y9) rfl f
    grind
  ·rintro i _ a ⟨m,rfl,f⟩ c;have g:=Ku a r0;simp only[ZQ a,Ze,ZE a,Za,R3 _ (p _ (Vf a))];unfold GU at c⊢;rw[g]at c;simp only[g];by_cases d:Wt (l[i]).1=Ud
   ·rw[ZbE d,d];rfl
   ·have h:Wt (l[i]).1=true:=by grind
    simp only[h,Vb,Zd];by_cases b:∃j,j<i/\((l[j]?).getD r0).1=(l[i]).1
    ·rw[ZbD (by simp) b,(f _).2 b];rfl
    ·simp only[Rh f b,Zd];have e:¬(0<=(l[i]).2.1/\(l[i]).2.1<=7):=fun e=>c (ZbF d b (by omega));rw[ZbG (by simp) b e,ZlB,Zr e];rfl
  simp
theorem Zvg(l:List Hb):F130 l=Ua (GV l):=by
 unfold F130 GV;by_cases m:64<l.length
 ·grind
 ·rw[Zg m,Zr (by omega)];simp only[Zd];have g:l.length<=9223372036854775807:=by omega
  rw[JG (n:=l.length) (fun i st=>st=(i:Int)) (GU l) (fun i=>.inr ((i:Int),GU l i)) (.inl ()) ?_ ?_ ?_ (0:Int) rfl]
  ·unfold pick
   grind
  ·rintro i _ a rfl c;have h:=Ku a r0;unfold GU at c;rw[h]at c;obtain⟨e,b,f⟩:=De.1 c;have e:Wt (l[i]).1=true:=by grind
   have f:0<=(l[i]).2.1/\(l[i]).2.1<=7:=by omega
   refine⟨((i+1:Nat):Int),?_,rfl⟩;simp only[ZQ a,Ze,ZE a,Za,Za3,e,Vb,Zd];rw[(ZbA (nm:=fun x:Hb=>x.1) (d:=r0) a g (y:=(l[i]).1) _ _).2 b];simp only[Za,Vi,Hk,Zj f,Vb,Zd,Kb a g]
  ·rintro i _ a rfl c;have h:=Ku a r0;simp only[ZQ a,Ze,ZE a,Za,Za3];unfold GU at c⊢;rw[h]at c;simp only[h];by_cases e:Wt (l[i]).1=Ud
   ·rw[ZbE e,e];rfl
   ·have k:Wt (l[i]).1=true:=by grind
    simp only[k,Vb,Zd];by_cases b:∃j,j<i/\((l[j]?).getD r0).1=(l[i]).1
    ·rw[ZbD (by simp) b,(ZbA (nm:=fun x:Hb=>x.1) (d:=r0) a g (y:=(l[i]).1) _ _).1 b];rfl
    ·rw[(ZbA (nm:=fun x:Hb=>x.1) (d:=r0) a g (y:=(l[i]).1) _ _).2 b];have f:¬(0<=(l[i]).2.1/\(l[i]).2.1<=7):=fun f=>c (ZbF e b (by omega));rw[ZbG (by simp) b f];simp only[Za,Vi,Hk,Zr f];rfl
  simp
abbrev JV:=List UInt8×Int×Int×Int×Int×Int×Unit
abbrev Z4:=List JV×Int×Int×Int×Unit
def p0:JV:=([],0,0,0,0,0,())
def YW(x:JV):Bool:=Ue (0<=x.2.1/\x.2.1<=1000000) && (Ue (1<=x.2.2.1/\x.2.2.1<=8) && (Ue (1<=x.2.2.2.1/\x.2.2.2.1<=16) && (Ue (0<=x.2.2.2.2.1/\x.2.2.2.2.1<=86400) &&Ue (1<=x.2.2.2.2.2.1/\x.2.2.2.2.2.1<=255))))
noncomputable def HQ(l:List JV)(i:Nat):Int:=
 YV (Wt ((l[i]?).getD p0).1=Ud) (∃j,j<i/\((l[j]?).getD p0).1=((l[i]?).getD p0).1) (YW ((l[i]?).getD p0)=Ud)
def Gf(f:Z4):Bool:=Ue (0<=f.2.1/\f.2.1<=1000000) && (Ue (0<=f.2.2.1/\f.2.2.1<=86400) &&Ue (0<=f.2.2.2.1/\f.2.2.2.1<=1000000))
noncomputable def J3(f:Z4):Int×Int:=
 if Gf f=Ud then(-1,2) else if 16<f.1.length then(0,5) else pick f.1.length (HQ f.1) (fun i=>((i:Int),HQ f.1 i)) (0,0)
theorem ZnN{w:Int->Int->Int->Option Bool}(c:∀x a b,w x a b=Ua (Ue (a<=x/\x<=b)))(f:Z4):
 (Vc (w f.2.1 0 1000000) fun x0=>bif !x0 then Ua Uc else Vc (w f.2.2.1 0 86400) fun d=>bif !d then Ua Uc else Vc (w f.2.2.2.1 0 1000000) fun e=>Ua !e)=Ua (!Gf f):=by
 unfold Gf;simp only[c,Za]
 grind
theorem ZeR{w:Int->Int->Int->Option Bool}(c:∀x a b,w x a b=Ua (Ue (a<=x/\x<=b)))(x:JV):
 (Vc (w x.2.1 0 1000000) fun x0=>bif !x0 then Ua Uc else Vc (w x.2.2.1 1 8) fun d=>bif !d then Ua Uc else Vc (w x.2.2.2.1 1 16) fun e=>bif !e then Ua Uc else
   Vc (w x.2.2.2.2.1 0 86400) fun f=>bif !f then Ua Uc else Vc (w x.2.2.2.2.2.1 1 255) fun g=>Ua !g)=Ua (!YW x):=by
 unfold YW;simp only[c,Za]
 grind
theorem Zhu(f:Z4)(p:∀x∈f.1,x.1.length<=9223372036854775807):F82 f=Ua (J3 f):=by
 unfold F82 J3;rw[ZnN (w:=F86) ZiV f];simp only[Za]
 cases r:Gf f with
 |true=>
  rw[Zg (by simp)];simp only[Vb,Zd];by_cases l:16<f.1.length
  ·grind
  ·rw[Zg l,Zr (by omega)];simp only[Zd];rw[JG (n:=f.1.length) (fun i st=>∃m,st=(m,(i:Int))/\WX (t:=Y9) (fun j=>((f.1[j]?).getD p0).1) i m) (HQ f.1) (fun i=>.inr ((i:Int),HQ f.1 i)) (.inl ()) ?_ ?_ ?_ ([],(0:Int)) ⟨[],rfl,WX.nil _⟩]
   ·unfold pick
    grind
   ·rintro i _ a ⟨m,rfl,g⟩ c;have h:=Ku a p0;unfold HQ at c;rw[h]at c;obtain⟨d,b,e⟩:=De.1 c;have d:Wt (f.1[i]).1=true:=by grind
    have o:=Rh g b;have e:YW f.1[i]=true:=by grind
    refine⟨(Kn (Zm Y9) (f.1[i]).1 Uc m,((i+1:Nat):Int)),?_,_,rfl,?_⟩
    ·simp only[ZQ a,Ze,ZE a,Za,R3 _ (p _ (Vf a)),d,Vb,Zd,o,Kb a (by omega)];rw[ZeR (w:=F86) ZiV,e];rfl
    ·have:=WX.add (t:=Y9) rfl g
     grind
   ·rintro i _ a ⟨m,rfl,g⟩ c;have h:=Ku a p0;simp only[ZQ a,Ze,ZE a,Za,R3 _ (p _ (Vf a))];unfold HQ at c⊢;rw[h]at c;simp only[h];by_cases d:Wt (f.1[i]).1=Ud
    ·rw[ZbE d,d];rfl
    ·have k:Wt (f.1[i]).1=true:=by grind
     simp only[k,Vb,Zd];by_cases b:∃j,j<i/\((f.1[j]?).getD p0).1=(f.1[i]).1
     ·rw[ZbD (by simp) b,(g _).2 b];rfl
     ·simp only[Rh g b,Zd]
      have e:YW f.1[i]=false:=by
       cases q:YW f.1[i] with
       |false=>rfl
       |true=>exact absurd (ZbF d b (by grind)) c
      rw[ZbG (by simp) b e,ZeR (w:=F86) ZiV,e];rfl
   simp
 |false=>rfl
theorem Zsb(f:Z4):F121 f=Ua (J3 f):=by
 unfold F121 J3;rw[ZnN (w:=F126) Hk f];simp only[Za]
 cases p:Gf f with
 |true=>
  rw[Zg (by simp)];simp only[Vb,Zd];by_cases m:16<f.1.length
  ·grind
  ·rw[Zg m,Zr (by omega)];simp only[Zd];have h:f.1.length<=9223372036854775807:=by omega
   rw[JG (n:=f.1.length) (fun i st=>st=(i:Int)) (HQ f.1) (fun i=>.inr ((i:Int),HQ f.1 i)) (.inl ()) ?_ ?_ ?_ (0:Int) rfl]
   ·unfold pick
    grind
   ·rintro i _ a rfl c;have k:=Ku a p0;unfold HQ at c;rw[k]at c;obtain⟨e,b,g⟩:=De.1 c;have e:Wt (f.1[i]).1=true:=by grind
    have g:YW f.1[i]=true:=by grind
    refine⟨((i+1:Nat):Int),?_,rfl⟩;simp only[ZQ a,Ze,ZE a,Za,Za3,e,Vb,Zd];rw[(ZbA (nm:=fun x:JV=>x.1) (d:=p0) a h (y:=(f.1[i]).1) _ _).2 b];simp only[Za,Vi];rw[ZeR (w:=F126) Hk,g];simp only[Vb,Za,Zd,Kb a h]
   ·rintro i _ a rfl c;have k:=Ku a p0;simp only[ZQ a,Ze,ZE a,Za,Za3];unfold HQ at c⊢;rw[k]at c;simp only[k];by_cases e:Wt (f.1[i]).1=Ud
    ·rw[ZbE e,e];rfl
    ·have l:Wt (f.1[i]).1=true:=by grind
     simp only[l,Vb,Zd];by_cases b:∃j,j<i/\((f.1[j]?).getD p0).1=(f.1[i]).1
     ·rw[ZbD (by simp) b,(ZbA (nm:=fun x:JV=>x.1) (d:=p0) a h (y:=(f.1[i]).1) _ _).1 b];rfl
     ·rw[(ZbA (nm:=fun x:JV=>x.1) (d:=p0) a h (y:=(f.1[i]).1) _ _).2 b]
      have g:YW f.1[i]=false:=by
       cases o:YW f.1[i] with
       |false=>rfl
       |true=>exact absurd (ZbF e b (by grind)) c
      rw[ZbG (by simp) b g];simp only[Za,Vi];rw[ZeR (w:=F126) Hk,g];rfl
   simp
 |false=>rfl
end Q
namespace Q
open Tr Go
abbrev Wu:=Int×Int×Int×Bool×Bool×Unit
def c0:Wu:=(0,0,0,Ud,Ud,())
def ZcK(l:List Wu)(i:Nat)(n:Int):Bool:=Ue (((l[i]?).getD c0).1<0) ||decide (n<=((l[i]?).getD c0).1)
def ZcL(l:List Wu)(i:Nat):Bool:=Ue (0<i) &&Ue (((l[i - 1]?).getD c0).1=((l[i]?).getD c0).1)
def ZcM(l:List Wu)(i:Nat)(lo a:Int):Bool:=Ue (((l[i]?).getD c0).2.1<lo) || (Ue (((l[i]?).getD c0).2.2.1<((l[i]?).getD c0).2.1) || (Ue (a<((l[i]?).getD c0).2.2.1) || (Ue (0<i) &&Ue (((l[i]?).getD c0).2.1<((l[i - 1]?).getD c0).2.2.1))))
def Xx(l:List Wu)(n lo a:Int)(i:Nat):Int:=if ZcK l i n then 9 else if ZcL l i then 13 else if ZcM l i lo a then 10 else 0
theorem Zlq(i:Nat):Ue ((0:Int)<(i:Int))=Ue (0<i):=by simp
theorem ZmC{l:List Wu}{i:Nat}(b:i<l.length)(c:l.length<=9223372036854775807)(a:0<i):idx l (Va .i64 ((i:Int) - 1))=Ua ((l[i - 1]?).getD c0):=by
 have e:Va .i64 ((i:Int) - 1)=((i - 1:Nat):Int):=by rw[ZH (by omega) (by omega)];omega
 rw[e,ZE (by omega),Ku (by omega)]
theorem Zmh{l:List Wu}{i:Nat}(b:i<l.length)(d:l.length<=9223372036854775807)(n lo a:Int):F7 l (i:Int) n lo a=Ua (Xx l n lo a i):=by
 unfold F7 Xx ZcK ZcL ZcM;rw[Ku b,ZE b];simp only[Za,Zlq];by_cases c:0<i
 ·simp only[ZmC b d c,Za,Zj c,Ze,Vaa]
  grind
 grind
noncomputable def Xs(l:List Wu)(n lo a:Int):Int:=if l.length<2\/32<l.length then 5 else pick l.length (Xx l n lo a) (Xx l n lo a) 0
theorem Zj0(l:List Wu)(n lo b:Int):∃i,F6 l n lo b=Ua (i,Xs l n lo b):=by
 unfold F6 Xs;by_cases e:l.length<2
 ·rw[Zj (by omega),Zv (.inl e)];simp
 ·rw[Zr (by omega)];by_cases f:32<l.length
  ·rw[Zv (.inr f)];simp only[Zd,Za,Zj (show (32:Int)<(l.length:Int) by omega),Ze];simp
  ·rw[Zg (by omega)];simp only[Zd,Za,Zr (show¬(32:Int)<(l.length:Int) by omega)];have d:l.length<=9223372036854775807:=by omega
   rw[JG (n:=l.length) (fun i st=>st=(i:Int)) (Xx l n lo b) (fun i=>.inr ((i:Int),Xx l n lo b i)) (.inl ()) ?_ ?_ ?_ (0:Int) rfl]
   ·unfold pick
    cases Wq l.length (Xx l n lo b)<;>exact⟨_,rfl⟩
   ·rintro i _ a rfl c;refine⟨((i+1:Nat):Int),?_,rfl⟩;simp only[ZQ a,Ze,Zmh a d,Za,c,decide_true,Vb,Zd,Kb a d]
   ·rintro i _ a rfl c;simp only[ZQ a,Ze,Zmh a d,Za,Zr c,Vl]
   simp
theorem Zqq(l:List Wu)(n lo b:Int):F118 l n lo b=Ua (Xs l n lo b):=by
 unfold F118 Xs;by_cases e:l.length<2
 ·grind
 ·rw[Zr (by omega)];by_cases f:32<l.length
  ·grind
  ·rw[Zg (by omega)];simp only[Zd,Za];have d:l.length<=9223372036854775807:=by omega
   rw[ZvF (n:=l.length) (Xx l n lo b) (fun i=>.inr (Xx l n lo b i)) (.inl ()) ?_ (by simp)]
   ·unfold pick
    grind
   ·intro i a;simp only[ZQ a,Ze,ZE a,Za,Zlq,Kb a d];unfold Xx ZcK ZcL ZcM;rw[Ku a];by_cases c:0<i
    ·simp only[ZmC a d c,Za,Zj c,Ze,Vaa]
     grind
    grind
abbrev Hd:=Int×Int×Int×List UInt8×Int×Bool×Bool×List Wu×Unit
abbrev H2:=Int×Int×Int×Int×Bool×Unit
abbrev Zc:=List DH×List Hb×List Hd×List H2×List Kh×Z4×Unit
def u0:Hd:=(0,0,0,[],0,Ud,Ud,[],())
abbrev ZoB:=List UInt8×Int×Int×Unit
def runK(x:Hd):ZoB:=(x.2.2.2.1,x.2.1,x.2.2.1,())
open Classical in
noncomputable def XT(n:Zc)(i:Nat):Int:=
 let x:=(n.2.2.1[i]?).getD u0
 if Wt x.2.2.2.1=Ud then 12 else if (Ue (x.1< -1) ||decide (x.2.2.1<0))=Uc then 2 else if (Ue (x.2.1<0) ||decide (36524<x.2.1))=Uc then 11
 else if (Ue (x.2.2.2.2.1<0) ||decide ((n.2.1.length:Int)<=x.2.2.2.2.1))=Uc then 9
 else if Xs x.2.2.2.2.2.2.2.1 (n.1.length:Int) 0 3155932800≠0 then Xs x.2.2.2.2.2.2.2.1 (n.1.length:Int) 0 3155932800
 else if∃j,j<i/\runK ((n.2.2.1[j]?).getD u0)=runK x then 6 else 0
noncomputable def Zfz(n:Zc):Int×Int×Int×Unit:=if 1024<n.2.2.1.length then(2,0,5,()) else pick n.2.2.1.length (XT n) (fun i=>(2,(i:Int),XT n i,())) (0,0,0,())
theorem ZvA(n:Zc)(q:∀x∈n.2.2.1,x.2.2.2.1.length<=9223372036854775807):F69 n=Ua (Zfz n):=by
 unfold F69 Zfz F79;by_cases r:1024<n.2.2.1.length
 ·grind
 ·rw[Zg r,Zr (by omega)];simp only[Zd];have s:n.2.2.1.length<=9223372036854775807:=by omega
  rw[JG (n:=n.2.2.1.length) (fun i st=>∃m,st=((0,0,0,()),m,(i:Int))/\WX (t:=G5) (fun j=>runK ((n.2.2.1[j]?).getD u0)) i m) (XT n) (fun i=>.inr (2,(i:Int),XT n i,())) (.inl (0,0,0,())) ?_ ?_ ?_ _ ⟨[],rfl,WX.nil _⟩]
  ·unfold pick
   grind
  ·rintro i _ b ⟨m,rfl,k⟩ a;have p:=Ku b u0;unfold XT at a;simp only[p]at a;obtain⟨ci,g⟩:=Zj0 (n.2.2.1[i]).2.2.2.2.2.2.2.1 (n.1.length:Int) 0 3155932800;by_cases l:Wt (n.2.2.1[i]).2.2.2.1=Ud
   ·grind
   rw[Zg l]at a;by_cases c:(Ue ((n.2.2.1[i]).1< -1) ||decide ((n.2.2.1[i]).2.2.1<0))=Uc
   ·grind
   rw[Zg c]at a;by_cases d:(Ue ((n.2.2.1[i]).2.1<0) ||decide (36524<(n.2.2.1[i]).2.1))=Uc
   ·grind
   rw[Zg d]at a;by_cases e:(Ue ((n.2.2.1[i]).2.2.2.2.1<0) ||decide ((n.2.1.length:Int)<=(n.2.2.1[i]).2.2.2.2.1))=Uc
   ·grind
   rw[Zg e]at a;by_cases o:Xs (n.2.2.1[i]).2.2.2.2.2.2.2.1 (n.1.length:Int) 0 3155932800=0
   ·rw[Zg (by omega)]at a;by_cases h:∃j,j<i/\runK ((n.2.2.1[j]?).getD u0)=runK n.2.2.1[i]
    ·simp_all
    ·have f:Wt (n.2.2.1[i]).2.2.2.1=true:=by grind
     have u:=Rh k h;refine⟨((0,0,0,()),Kn (Zm G5) (runK n.2.2.1[i]) Uc m,((i+1:Nat):Int)),?_,_,rfl,?_⟩
     ·simp only[ZQ b,Ze,ZE b,Za,R3 _ (q _ (Vf b)),f,Vb,Zd,g,o,decide_true,Kb b s];simp only[Vn,Vj]at c d e;simp only[c.1,c.2,d.1,d.2,e.1,e.2,Zd,Za];rw[show Ve (ZT (Zm G5) ((n.2.2.1[i]).2.2.2.1,(n.2.2.1[i]).2.1,(n.2.2.1[i]).2.2.1,()) m) Ud=Ud from u];rfl
     ·have:=WX.add (t:=G5) rfl k
      grind
   omega
  ·rintro i _ b ⟨m,rfl,k⟩ a;have p:=Ku b u0;obtain⟨ci,g⟩:=Zj0 (n.2.2.1[i]).2.2.2.2.2.2.2.1 (n.1.length:Int) 0 3155932800;simp only[ZQ b,Ze,ZE b,Za,R3 _ (q _ (Vf b))];unfold XT at a⊢;simp only[p]at a⊢;by_cases l:Wt (n.2.2.1[i]).2.2.2.1=Ud
   ·grind
   have f:Wt (n.2.2.1[i]).2.2.2.1=true:=by grind
   rw[Zg l]at a⊢;simp only[f,Vb,Zd];by_cases c:(Ue ((n.2.2.1[i]).1< -1) ||decide ((n.2.2.1[i]).2.2.1<0))=Uc
   ·grind
   rw[Zg c]at a⊢;by_cases d:(Ue ((n.2.2.1[i]).2.1<0) ||decide (36524<(n.2.2.1[i]).2.1))=Uc
   ·grind
   rw[Zg d]at a⊢;simp only[Vn,Vj]at c d;simp only[c.1,c.2,d.1,d.2,Zd,Za];by_cases e:(Ue ((n.2.2.1[i]).2.2.2.2.1<0) ||decide ((n.2.1.length:Int)<=(n.2.2.1[i]).2.2.2.2.1))=Uc
   ·grind
   rw[Zg e]at a⊢;simp only[Vn,Vj]at e;simp only[e.1,e.2,Zd,Za,g];by_cases o:Xs (n.2.2.1[i]).2.2.2.2.2.2.2.1 (n.1.length:Int) 0 3155932800=0
   ·rw[Zg (by omega)]at a⊢;simp only[o,decide_true,Vb,Zd];by_cases h:∃j,j<i/\runK ((n.2.2.1[j]?).getD u0)=runK n.2.2.1[i]
    ·rw[Zv h];rw[show Ve (ZT (Zm G5) ((n.2.2.1[i]).2.2.2.1,(n.2.2.1[i]).2.1,(n.2.2.1[i]).2.2.1,()) m) Ud=Uc from (k _).2 h];rfl
    grind
   grind
  grind
theorem Zng(n:Zc){i:Nat}(l:i<n.2.2.1.length)(y:n.2.2.1.length<=9223372036854775807):F131 n (i:Int)=Ua (XT n i):=by
 unfold F131 XT;have v:=Ku l u0;simp only[v,ZE l,Za,Za3,Zqq,Hk];by_cases m:Wt (n.2.2.1[i]).2.2.2.1=Ud
 ·grind
 have f:Wt (n.2.2.1[i]).2.2.2.1=true:=by grind
 rw[Zg m];simp only[f,Vb,Zd];by_cases c:(Ue ((n.2.2.1[i]).1< -1) ||decide ((n.2.2.1[i]).2.2.1<0))=Uc
 ·grind
 rw[Zg c];simp only[Vn,Vj]at c;simp only[c.1,c.2,Zd,Za];by_cases o:(Ue ((n.2.2.1[i]).2.1<0) ||decide (36524<(n.2.2.1[i]).2.1))=Uc
 ·grind
 rw[Zg o]
 have u:0<=(n.2.2.1[i]).2.1/\(n.2.2.1[i]).2.1<=36524:=by
  grind
 simp only[Zj u,Vb,Zd];by_cases d:(Ue ((n.2.2.1[i]).2.2.2.2.1<0) ||decide ((n.2.1.length:Int)<=(n.2.2.1[i]).2.2.2.2.1))=Uc
 ·grind
 rw[Zg d];simp only[Vn,Vj]at d;simp only[d.1,d.2,Zd,Za];by_cases q:Xs (n.2.2.1[i]).2.2.2.2.2.2.2.1 (n.1.length:Int) 0 3155932800=0
 ·rw[Zg (by omega)];simp only[q,decide_true,Vb,Zd]
  have k:=ZcU (i:=i) (p:=fun j=>runK ((n.2.2.1[j]?).getD u0)=runK n.2.2.1[i]) (τ:=Unit ⊕ Int) (R:=.inr 6) (E:=.inl ()) (step:=fun g:Int=>
   bif decide (g<(i:Int)) then
    Vc (idx n.2.2.1 g) fun h=>
     Vc
      (bif decide (h.snd.snd.snd.fst=(n.2.2.1[i]).snd.snd.snd.fst) then
        bif decide (h.snd.fst=(n.2.2.1[i]).snd.fst) then Ua (decide (h.snd.snd.fst=(n.2.2.1[i]).snd.snd.fst)) else Ua Ud
      else Ua Ud)
      fun w=>bif w then Ua (Sum.inr (Sum.inr (6:Int))) else Ua (Sum.inl (Va .i64 (g+(1:Int))))
   else Ua (Sum.inr (Sum.inl ()))) (fun j e a=>?_) (fun j e a=>?_) (by simp)
  ·by_cases x:∃j,j<i/\runK ((n.2.2.1[j]?).getD u0)=runK n.2.2.1[i]
   all_goals simp_all
  ·have b:j<n.2.2.1.length:=by omega
   have a:¬runK n.2.2.1[j]=runK n.2.2.1[i]:=by grind
   simp only[ZQ e,Ze,ZE b,Za,Kb e (by omega)];by_cases r:(n.2.2.1[j]).2.2.2.1=(n.2.2.1[i]).2.2.2.1
   ·rw[Zj r];by_cases s:(n.2.2.1[j]).2.1=(n.2.2.1[i]).2.1
    ·rw[Zj s];have t:¬(n.2.2.1[j]).2.2.1=(n.2.2.1[i]).2.2.1:=fun t=>a (by unfold runK;grind)
     grind
    grind
   grind
  ·have b:j<n.2.2.1.length:=by omega
   have a:runK n.2.2.1[j]=runK n.2.2.1[i]:=by grind
   unfold runK at a;simp only[Vva,and_true]at a;simp only[ZQ e,Ze,ZE b,Za,Zj a.1,Zj a.2.1,Zj a.2.2]
 grind
end Q
namespace Q
open Tr Go Gr
def f0:Kh:=(0,0,0,Ud,())
def JP(p:Kh):Kh:=(p.1,p.2.1,0,p.2.2.2.1,())
def YZ(n:Nat)(p:Kh):Bool:= !Ue (0<=p.1/\p.1<(n:Int)) || (!Ue (0<=p.2.1/\p.2.1<(n:Int)) ||decide (p.1=p.2.1))
def Y0(p:Kh):Bool:=Ue (p.2.2.1<1) ||decide (14400<p.2.2.1)
open Classical in
noncomputable def Wh(n:Nat)(l:List Kh)(i:Nat):Int:=
 if YZ n ((l[i]?).getD f0)=Uc then 9 else if Y0 ((l[i]?).getD f0)=Uc then 2 else if∃j,j<i/\JP ((l[j]?).getD f0)=JP ((l[i]?).getD f0) then 6 else 0
theorem ZaT{n:Nat}{l:List Kh}{i:Nat}(h:Wh n l i=0):YZ n ((l[i]?).getD f0)=Ud/\Y0 ((l[i]?).getD f0)=Ud/\ ¬∃j,j<i/\JP ((l[j]?).getD f0)=JP ((l[i]?).getD f0):=by
 unfold Wh at h;by_cases a:YZ n ((l[i]?).getD f0)=Uc
 ·grind
 ·rw[Zg a]at h;by_cases b:Y0 ((l[i]?).getD f0)=Uc
  all_goals simp_all
theorem Zmw{n:Nat}{p:Kh}(h:YZ n p=Ud):(0<=p.1/\p.1<n)/\(0<=p.2.1/\p.2.1<n)/\p.1≠p.2.1:=by
 unfold YZ at h
 grind
theorem Zmx{p:Kh}(h:Y0 p=Ud):1<=p.2.2.1/\p.2.2.1<=14400:=by
 unfold Y0 at h
 grind
theorem ZhA{n:Nat}{l:List Kh}(h:∀i,i<l.length->Wh n l i=0):DA n l:=by intro p d;obtain⟨i,c,rfl⟩:=Vh d;obtain⟨a,b,_⟩:=ZaT (h i c);rw[Ku c]at a b;have:=Zmw a;have:=Zmx b;omega
theorem ZwO(x:Int)(n:Nat):F80 x (n:Int)=Ua (Ue (0<=x/\x<(n:Int))):=by
 unfold F80
 grind
theorem ZjL(n:Nat)(p:Kh):(Vc (F80 p.1 (n:Int)) fun a=>bif !a then Ua Uc else Vc (F80 p.2.1 (n:Int)) fun b=>bif !b then Ua Uc else Ua (decide (p.1=p.2.1)))=Ua (YZ n p):=by
 unfold YZ;simp only[ZwO,Za]
 grind
theorem Zp7{n:Nat}(c:n<=9223372036854775807)(p:Kh):(Vc (F126 p.1 0 (Va .i64 ((n:Int) - 1))) fun a=>bif !a then Ua Uc else Vc (F126 p.2.1 0 (Va .i64 ((n:Int) - 1))) fun b=>bif !b then Ua Uc else Ua (decide (p.1=p.2.1)))=Ua (YZ n p):=by
 have e:Va .i64 ((n:Int) - 1)=(n:Int) - 1:=ZH (by omega) (by omega);have h:∀x:Int,Ue (0<=x/\x<=(n:Int) - 1)=Ue (0<=x/\x<(n:Int)):=by grind
 unfold YZ;simp only[e,Hk,Za,h]
 grind
theorem ZjM(p:Kh):(bif decide (p.2.2.1<(1:Int)) then Ua Uc else Ua (decide ((14400:Int)<p.2.2.1)))=Ua (Y0 p):=by
 unfold Y0
 grind
theorem Zp8(p:Kh):Ue ((1:Int)<=p.2.2.1/\p.2.2.1<=14400)= !Y0 p:=by
 unfold Y0
 grind
def sameF(a b:Kh):Bool:=Ue (a.1=b.1) && (Ue (a.2.1=b.2.1) && (Ue (a.2.2.1=b.2.2.1) &&a.2.2.2.1==b.2.2.2.1))
def eqF(c l:List Kh)(i:Nat):Int:=if sameF ((c[i]?).getD f0) ((l[i]?).getD f0) then 0 else 1
def XM(c l:List Kh):Bool:=Ue (c.length=l.length) && (Wq c.length (eqF c l)).isNone
theorem Zkr{τ:Type}{c l:List Kh}(h:c.length=l.length)(j:c.length<=9223372036854775807)(R E:τ):run (fun s2:Int=>
              bif decide (s2<(↑(Vs c):Int)) then
               Vc (idx c s2) fun f=>
                Vc (idx l s2) fun g=>
                 bif !(decide (f.fst=g.fst) && (decide (f.snd.fst=g.snd.fst) && (decide (f.snd.snd.fst=g.snd.snd.fst) &&f.snd.snd.snd.fst==g.snd.snd.snd.fst))) then
                  Ua (Sum.inr R)
                 else Ua (Sum.inl (Va .i64 (s2+(1:Int))))
              else Ua (Sum.inr E)) (0:Int)=Ua (if (Wq c.length (eqF c l)).isNone then E else R):=by
 rw[JG (n:=c.length) (fun i st=>st=(i:Int)) (eqF c l) (fun _=>R) E ?_ ?_ ?_ (0:Int) rfl]
 ·unfold pick
  grind
 ·rintro i _ b rfl d;have a:i<l.length:=by omega
  refine⟨((i+1:Nat):Int),?_,rfl⟩;unfold eqF at d;rw[Ku b,Ku a]at d
  have e:sameF c[i] l[i]=true:=by
   grind
  unfold sameF at e;simp only[ZQ b,Ze,ZE b,ZE a,Za,e,Vb,Zd,Kb b j]
 ·rintro i _ b rfl d;have a:i<l.length:=by omega
  unfold eqF at d;rw[Ku b,Ku a]at d
  have e:sameF c[i] l[i]=false:=by
   grind
  unfold sameF at e;simp only[ZQ b,Ze,ZE b,ZE a,Za,e,Vl]
 simp
theorem Zv1{n:Nat}{l:List Kh}(u:l.length<=4096)(h:∀i,i<l.length->Wh n l i=0):F42 l (n:Int)=Ua (0,0):=by
 unfold F42
 have b:∀i (_:i<l.length),¬∃j,j<i/\(fun j=>(((l[j]?).getD f0).1,((l[j]?).getD f0).2.1,((l[j]?).getD f0).2.2.2.1,())) j=(((l[i]?).getD f0).1,((l[i]?).getD f0).2.1,((l[i]?).getD f0).2.2.2.1,()):=by
  rintro i a ⟨j,o,k⟩;refine(ZaT (h i a)).2.2 ⟨j,o,?_⟩;simp only[Vva,and_true]at k;unfold JP
  grind
 rw[JG (n:=l.length) (fun i st=>∃m,st=(m,(i:Int))/\WX (t:=Yl) (fun j=>(((l[j]?).getD f0).1,((l[j]?).getD f0).2.1,((l[j]?).getD f0).2.2.2.1,())) i m) (Wh n l) (fun i=>.inr ((i:Int),Wh n l i)) (.inl ()) ?_ ?_ ?_ ([],(0:Int)) ⟨[],rfl,WX.nil _⟩]
 ·unfold pick;rw[ZeP h];rfl
 ·rintro i _ a ⟨m,rfl,e⟩ g;have p:=Ku a f0;have v:=Rh e (b i a);obtain⟨c,d,_⟩:=ZaT g;rw[p]at c d;obtain⟨q,r,f⟩:=Zmw c;have s:=Zmx d;refine⟨(Kn (Zm Yl) ((l[i]).1,(l[i]).2.1,(l[i]).2.2.2.1,()) Uc m,((i+1:Nat):Int)),?_,_,rfl,?_⟩
  ·simp only[ZQ a,Ze,ZE a,Za,show Ue ((l[i]).1<0)=Ud from (by grind),show Ue ((n:Int)<=(l[i]).1)=Ud from (by grind),show Ue ((l[i]).2.1<0)=Ud from (by grind),
    show Ue ((n:Int)<=(l[i]).2.1)=Ud from (by grind),Zr f,Zd,show Ue ((l[i]).2.2.1<1)=Ud from (by grind),show Ue ((14400:Int)<(l[i]).2.2.1)=Ud from (by grind),Kb a (by omega)]
   grind
  ·have:=WX.add (t:=Yl) rfl e
   grind
 all_goals grind
theorem ZsY{n:Nat}(g:n<=64){l:List Kh}(b:l.length<=4096)(h:∀i,i<l.length->Wh n l i=0):∃c,F120 l (n:Int)=Ua c/\c.length<=8192/\F37 l (n:Int)=Ua (XM c l):=by
 obtain⟨c,d,e,f⟩:=ZgP g (ZhA h) b;refine⟨c,e,f,?_⟩;unfold F37 XM;rw[Zv1 b h]
 have em:Tr.imax (n:Int) 0=(n:Int):=by rfl
 simp only[show Ue ((64:Int)<(n:Int))=Ud from (by grind),Zd,Za,decide_true,Vb,em];rw[d];simp only[Za];by_cases a:c.length=l.length
 ·rw[Zj (by omega),Zj a];simp only[Vb,Zd,Vaa];rw[Zkr a (by omega) _ _]
  grind
 grind
theorem Zul(n:Zc)(I:n.1.length<=64)(H:n.2.2.2.2.1.length<=4096):∃c,((∀i,i<n.2.2.2.2.1.length->Wh n.1.length n.2.2.2.2.1 i=0)->F120 n.2.2.2.2.1 (n.1.length:Int)=Ua c)/\F68 n=Ua (match Wq n.2.2.2.2.1.length (Wh n.1.length n.2.2.2.2.1) with
 |some i=>(4,(i:Int),Wh n.1.length n.2.2.2.2.1 i,())
 |none=>if XM c n.2.2.2.2.1 then(0,0,0,()) else(4,0,18,()))/\
 F129 n=Ua (match Wq n.2.2.2.2.1.length (Wh n.1.length n.2.2.2.2.1) with
  |some i=>((i:Int),Wh n.1.length n.2.2.2.2.1 i)
  |none=>if XM c n.2.2.2.2.1 then(0,0) else(0,18)):=by
 have w:n.2.2.2.2.1.length<=9223372036854775807:=by omega
 have B:∀i (a:i<n.2.2.2.2.1.length) (τ:Type) (R E:τ),((∃j,j<i/\JP ((n.2.2.2.2.1[j]?).getD f0)=JP n.2.2.2.2.1[i])->run (fun q:Int=>
               bif decide (q<(i:Int)) then
                Vc (idx n.snd.snd.snd.snd.fst q) fun r=>
                 Vc
                  (bif decide (r.fst=(n.2.2.2.2.1[i]).fst) then
                    bif decide (r.snd.fst=(n.2.2.2.2.1[i]).snd.fst) then Ua (r.snd.snd.snd.fst== (n.2.2.2.2.1[i]).snd.snd.snd.fst) else Ua Ud
                  else Ua Ud)
                  fun A=>bif A then Ua (Sum.inr R) else Ua (Sum.inl (Va .i64 (q+(1:Int))))
               else Ua (Sum.inr E)) (0:Int)=Ua R)/\((¬∃j,j<i/\JP ((n.2.2.2.2.1[j]?).getD f0)=JP n.2.2.2.2.1[i])->run (fun q:Int=>
               bif decide (q<(i:Int)) then
                Vc (idx n.snd.snd.snd.snd.fst q) fun r=>
                 Vc
                  (bif decide (r.fst=(n.2.2.2.2.1[i]).fst) then
                    bif decide (r.snd.fst=(n.2.2.2.2.1[i]).snd.fst) then Ua (r.snd.snd.snd.fst== (n.2.2.2.2.1[i]).snd.snd.snd.fst) else Ua Ud
                  else Ua Ud)
                  fun A=>bif A then Ua (Sum.inr R) else Ua (Sum.inl (Va .i64 (q+(1:Int))))
               else Ua (Sum.inr E)) (0:Int)=Ua E):=by
  intro i a τ R E;refine ZcU (p:=fun j=>JP ((n.2.2.2.2.1[j]?).getD f0)=JP n.2.2.2.2.1[i]) (fun j z h=>?_) (fun j z h=>?_) (by simp)
  ·have f:j<n.2.2.2.2.1.length:=by omega
   rw[Ku f f0]at h;simp only[ZQ z,Ze,ZE f,Za,Kb z (by omega)];by_cases D:(n.2.2.2.2.1[j]).1=(n.2.2.2.2.1[i]).1
   ·rw[Zj D];by_cases F:(n.2.2.2.2.1[j]).2.1=(n.2.2.2.2.1[i]).2.1
    ·rw[Zj F]
     have G:((n.2.2.2.2.1[j]).2.2.2.1== (n.2.2.2.2.1[i]).2.2.2.1)=false:=by
      cases y:((n.2.2.2.2.1[j]).2.2.2.1== (n.2.2.2.2.1[i]).2.2.2.1) with
      |false=>rfl
      |true=>exact absurd (by unfold JP;grind) h
     grind
    grind
   grind
  ·have f:j<n.2.2.2.2.1.length:=by omega
   rw[Ku f f0]at h;unfold JP at h;simp only[Vva,and_true,true_and]at h;have G:((n.2.2.2.2.1[j]).2.2.2.1== (n.2.2.2.2.1[i]).2.2.2.1)=true:=beq_iff_eq.2 h.2.2;simp only[ZQ z,Ze,ZE f,Za,Zj h.1,Zj h.2.1]
   grind
 have b:∀(step:Int->Option (Int ⊕ (Unit ⊕ (Int×Int)))),(∀i,i<n.2.2.2.2.1.length->step (i:Int)=if Wh n.1.length n.2.2.2.2.1 i=0 then Ua (.inl ((i+1:Nat):Int)) else Ua (.inr (.inr ((i:Int),Wh n.1.length n.2.2.2.2.1 i))))->step (n.2.2.2.2.1.length:Int)=Ua (.inr (.inl ()))->
  run step (0:Int)=Ua (pick n.2.2.2.2.1.length (Wh n.1.length n.2.2.2.2.1) (fun i=>.inr ((i:Int),Wh n.1.length n.2.2.2.2.1 i)) (.inl ())):=by
  intro step d e;refine JG (fun i st=>st=(i:Int)) _ _ _ ?_ ?_ ?_ _ rfl
  all_goals grind
 have key:∀c,(∀(_:∀i,i<n.2.2.2.2.1.length->Wh n.1.length n.2.2.2.2.1 i=0),F120 n.2.2.2.2.1 (n.1.length:Int)=Ua c/\c.length<=8192/\F37 n.2.2.2.2.1 (n.1.length:Int)=Ua (XM c n.2.2.2.2.1))->
  F68 n=Ua (match Wq n.2.2.2.2.1.length (Wh n.1.length n.2.2.2.2.1) with
  |some i=>(4,(i:Int),Wh n.1.length n.2.2.2.2.1 i,())
  |none=>if XM c n.2.2.2.2.1 then(0,0,0,()) else(4,0,18,()))/\
  F129 n=Ua (match Wq n.2.2.2.2.1.length (Wh n.1.length n.2.2.2.2.1) with
   |some i=>((i:Int),Wh n.1.length n.2.2.2.2.1 i)
   |none=>if XM c n.2.2.2.2.1 then(0,0) else(0,18)):=by
  intro c g;constructor
  ·unfold F68;rw[JG (n:=n.2.2.2.2.1.length) (fun i st=>∃m,st=((0,0,0,()),m,(i:Int))/\WX (t:=K8) (fun j=>JP ((n.2.2.2.2.1[j]?).getD f0)) i m) (Wh n.1.length n.2.2.2.2.1) (fun i=>.inr (4,(i:Int),Wh n.1.length n.2.2.2.2.1 i,())) (.inl (0,0,0,())) ?c1 ?c2 ?c3 _ ⟨[],rfl,WX.nil _⟩]
   case c1=>
    rintro i _ a ⟨m,rfl,x⟩ g;have s:=Ku a f0;obtain⟨d,e,k⟩:=ZaT g;have C:=Rh x k;rw[s]at d e C;refine⟨((0,0,0,()),Kn (Zm K8) (JP n.2.2.2.2.1[i]) Uc m,((i+1:Nat):Int)),?_,_,rfl,?_⟩
    ·simp only[ZQ a,Ze,ZE a,Za,Kb a w];rw[ZjL,ZjM];simp only[Za,d,e,Zd];rw[show Ve (ZT (Zm K8) ((n.2.2.2.2.1[i]).1,(n.2.2.2.2.1[i]).2.1,(0:Int),(n.2.2.2.2.1[i]).2.2.2.1,()) m) Ud=Ud from C];rfl
    ·have:=WX.add (t:=K8) rfl x
     grind
   case c2=>
    rintro i _ a ⟨m,rfl,x⟩ g;have s:=Ku a f0;simp only[ZQ a,Ze,ZE a,Za];rw[ZjL,ZjM];simp only[Za];unfold Wh at g⊢;rw[s]at g;simp only[s];by_cases d:YZ n.1.length n.2.2.2.2.1[i]=Uc
    ·rw[Zv d,d];rfl
    rw[Zg d]at g⊢;have l:YZ n.1.length n.2.2.2.2.1[i]=false:=by grind
    simp only[l,Zd];by_cases e:Y0 n.2.2.2.2.1[i]=Uc
    ·rw[Zv e,e];rfl
    rw[Zg e]at g⊢;have o:Y0 n.2.2.2.2.1[i]=false:=by grind
    simp only[o,Zd];by_cases k:∃j,j<i/\JP ((n.2.2.2.2.1[j]?).getD f0)=JP n.2.2.2.2.1[i]
    ·rw[Zv k];rw[show Ve (ZT (Zm K8) ((n.2.2.2.2.1[i]).1,(n.2.2.2.2.1[i]).2.1,(0:Int),(n.2.2.2.2.1[i]).2.2.2.1,()) m) Ud=Uc from (x _).2 k];rfl
    grind
   case c3=>grind
   unfold pick;simp only[Za]
   cases y:Wq n.2.2.2.2.1.length (Wh n.1.length n.2.2.2.2.1) with
   |some i=>rfl
   |none=>
    obtain⟨_,_,k⟩:=g (WU.1 y);simp only[Vi];rw[k]
    cases XM c n.2.2.2.2.1<;>rfl
  ·unfold F129;rw[b _ (fun i a=>?_) (by simp)]
   ·unfold pick;simp only[Za]
    cases y:Wq n.2.2.2.2.1.length (Wh n.1.length n.2.2.2.2.1) with
    |some i=>rfl
    |none=>
     obtain⟨d,e,_⟩:=g (WU.1 y);simp only[Vi];rw[d];simp only[Za];unfold XM;by_cases v:c.length=n.2.2.2.2.1.length
     ·rw[Zj (by omega),Zj v];simp only[Vb,Zd,Vaa];rw[Zkr v (by omega) _ _]
      grind
     grind
   ·have s:=Ku a f0;simp only[ZQ a,Ze,ZE a,Za,Kb a w];rw[Zp7 (by omega),Hk,Zp8];simp only[Za];unfold Wh;rw[s];by_cases d:YZ n.1.length n.2.2.2.2.1[i]=Uc
    ·grind
    have l:YZ n.1.length n.2.2.2.2.1[i]=false:=by grind
    rw[Zg d,l];simp only[Zd];by_cases e:Y0 n.2.2.2.2.1[i]=Uc
    ·grind
    have o:Y0 n.2.2.2.2.1[i]=false:=by grind
    rw[Zg e,o];simp only[Vl,Vb,Zd];by_cases k:∃j,j<i/\JP ((n.2.2.2.2.1[j]?).getD f0)=JP n.2.2.2.2.1[i]
    all_goals simp [*]
 by_cases u:∀i,i<n.2.2.2.2.1.length->Wh n.1.length n.2.2.2.2.1 i=0
 ·obtain⟨c,d,e,k⟩:=ZsY I H u
  grind
 grind
end Q
namespace Q
open Tr Go
def Kz(f:Int->Option Int)(a:Int):Nat->Option Int
 |0=>Ua a
 |k+1=>(f a).bind fun b=>Kz f b k
inductive J8 (f:Int->Option Int):Int->Prop
 |stop {a:Int} :f a=Ub->J8 f a
 |step {a b:Int} :f a=Ua b->J8 f b->J8 f a
theorem J8.next{f:Int->Option Int}{a b:Int}(h:J8 f a)(e:f a=Ua b):J8 f b:=by
 cases h with
 |stop c=>grind
 |step c d=>grind
theorem Zml(f:Int->Option Int):∀(k:Nat) (a:Int),Kz f a (k+1)=(Kz f a k).bind f
 |0,a=>by
  show (f a).bind (fun b=>Ua b)=f a
  simp
 |k+1,a=>by
  show (f a).bind (fun b=>Kz f b (k+1))=((f a).bind fun b=>Kz f b k).bind f
  cases h:f a with
  |none=>rfl
  |some b=>exact Zml f k b
theorem Zma{f:Int->Option Int}{a:Int}(h:J8 f a):∀k,Kz f a (k+1)≠Ua a:=by
 induction h with
 |stop c=>intro k d;simp [Kz,c]at d
 | @step a b c i g=>
   intro k d;have e:Kz f b k=Ua a:=by simpa [Kz,c] using d
   refine g k ?_;rw[Zml,e]
   grind
theorem few:∀(i:Nat) (l:List Nat),l.Nodup->(∀j∈l,j<i)->l.length<=i
 |0,l,_,h=>by
  cases l with
  |nil=>simp
  |cons a t=>exact absurd (h a (by simp)) (by omega)
 |i+1,l,b,h=>by
  have c:=few i (l.erase i) (b.erase i) (by grind)
  grind
def nx(from_ to_:Nat->Int)(st:Nat->Bool):Nat->Int->Option Int
 |0,_=>Ub
 |i+1,a=>if st i=Uc/\from_ i=a then Ua (to_ i) else nx from_ to_ st i a
variable {from_ to_:Nat->Int}{st:Nat->Bool}
theorem Zdl:∀{i:Nat}{a b:Int},nx from_ to_ st i a=Ua b->∃j,j<i/\st j=Uc/\from_ j=a/\to_ j=b
 |0,a,b,h=>by cases h
 |i+1,a,b,h=>by
  unfold nx at h;split at h
  ·grind
  ·obtain⟨j,c,d⟩:=Zdl h
   grind
theorem Zh5:∀{i:Nat}{a:Int},nx from_ to_ st i a=Ub->∀j,j<i->st j=Uc->from_ j≠a
 |0,a,_,j,b,_=>by omega
 |i+1,a,h,j,b,d=>by
  unfold nx at h;split at h
  ·cases h
  ·next e=>
   by_cases c:j=i
   ·grind
   ·exact Zh5 h j (by omega) d
theorem Zmy{i:Nat} :∀(k:Nat) (a c:Int),J8 (nx from_ to_ st i) a->Kz (nx from_ to_ st i) a k=Ua c->
 ∃l:List Nat,l.length=k/\l.Nodup/\ ∀j∈l,j<i/\ ∃t,Kz (nx from_ to_ st i) a t=Ua (from_ j)
 |0,_,_,_,_=>⟨[],rfl,List.nodup_nil,by simp⟩
 |k+1,a,c,p,h=>by
  cases d:nx from_ to_ st i a with
  |none=>simp [Kz,d]at h
  |some b=>
   have q:Kz (nx from_ to_ st i) b k=Ua c:=by simpa [Kz,d] using h
   obtain⟨l,y,r,o⟩:=Zmy k b c (p.next d) q
   obtain⟨j,g,u,e,v⟩:=Zdl d;refine⟨j::l,by grind,List.nodup_cons.2 ⟨fun w=>?_,r⟩,fun x m=>?_⟩
   ·obtain⟨_,t,f⟩:=o j w;rw[e]at f;refine Zma p t ?_;simpa [Kz,d] using f
   ·rcases Vta.1 m with rfl|m
    ·exact⟨g,0,by rw[e];rfl⟩
    ·obtain⟨s,t,f⟩:=o x m;exact⟨s,t+1,by simpa [Kz,d] using f⟩
theorem Zuk{i k:Nat}{a c:Int}(d:J8 (nx from_ to_ st i) a)(h:Kz (nx from_ to_ st i) a k=Ua c):k<=i:=by obtain⟨l,e,b,f⟩:=Zmy k a c d h;have:=few i l b (by grind);omega
theorem Zr0{f g:Int->Option Int}{fr:Int}(m:∀a,a≠fr->g a=f a){a:Int}(h:J8 f a)(c:∀k,Kz f a k≠Ua fr):J8 g a:=by
 induction h with
 | @stop a d=>
   have:a≠fr:=fun e=>c 0 (by rw[e];rfl)
   exact .stop (by grind)
 | @step a b d l j=>
   have:a≠fr:=fun e=>c 0 (by rw[e];rfl);refine .step (by grind) (j fun k i=>c (k+1) ?_);simpa [Kz,d] using i
theorem ZrZ{f g:Int->Option Int}{fr to:Int}(l:∀a,a≠fr->g a=f a)(c:g fr=Ua to)(d:J8 g to){a:Int}(h:J8 f a):J8 g a:=by
 induction h with
 | @stop a i=>
   by_cases e:a=fr
   ·subst e;exact .step c d
   ·exact .stop (by grind)
 | @step a b i k j=>
   by_cases e:a=fr
   ·subst e;exact .step c d
   ·exact .step (by grind) j
theorem Zr1{i:Nat}(h:∀a,J8 (nx from_ to_ st i) a)(f:st i=Uc->to_ i≠from_ i/\ ∀k,Kz (nx from_ to_ st i) (to_ i) (k+1)≠Ua (from_ i))(a:Int):J8 (nx from_ to_ st (i+1)) a:=by
 by_cases c:st i=Uc
 ·obtain⟨d,g⟩:=f c;have b:∀a,a≠from_ i->nx from_ to_ st (i+1) a=nx from_ to_ st i a:=fun a j=>Zg (by omega);refine ZrZ b (Zv ⟨c,rfl⟩) (Zr0 b (h _) fun k=>?_) (h a)
  cases k with
  |zero=>exact fun e=>d (Ky e)
  |succ k=>grind
 ·have:nx from_ to_ st (i+1)=nx from_ to_ st i:=funext fun a=>Zg (by grind)
  grind
theorem Zr2(a:Int):J8 (nx from_ to_ st 0) a:=.stop rfl
theorem Ztm{f:Int->Option Int}{m:List (Int×Int)}(j:∀a,ZT (Zm Y3) a m=f a){a fr:Int}(e:J8 f a):F78 m a fr=Ua (m, @decide (∃k,Kz f a (k+1)=Ua fr) (Classical.propDecidable _)):=by
 classical
 unfold F78
 have key:∀a,J8 f a->run (fun s0:Int×Bool=>
       bif s0.snd then
        bif decide (s0.fst=fr) then Ua (Sum.inr (Sum.inr Uc))
        else Ua (Sum.inl (Ve (ZT (Zm Y3) s0.fst m) ((0:Int)),Vga (ZT (Zm Y3) s0.fst m)))
       else Ua (Sum.inr (Sum.inl ())))
  (Ve (ZT (Zm Y3) a m) ((0:Int)),Vga (ZT (Zm Y3) a m))=Ua (if∃k,Kz f a (k+1)=Ua fr then Sum.inr Uc else Sum.inl ()):=by
  intro a e
  induction e with
  | @stop a c=>
    rw[j a,c,Zg (by rintro ⟨k,d⟩;simp [Kz,c]at d)]
    rfl
  | @step a b c o l=>
    rw[j a,c];by_cases g:b=fr
    ·rw[Zv ⟨0,by simp [Kz,c,g]⟩];exact XA (by grind)
    ·rw[Y1 (s' :=(Ve (ZT (Zm Y3) b m) ((0:Int)),Vga (ZT (Zm Y3) b m))) (by grind),l]
     have i:(∃k,Kz f b (k+1)=Ua fr)↔∃k,Kz f a (k+1)=Ua fr:=by
      refine⟨fun⟨k,d⟩=>⟨k+1,by simpa [Kz,c] using d⟩,fun⟨k,d⟩=>?_⟩
      cases k with
      |zero=>exact absurd (by simpa [Kz,c] using d) g
      |succ k=>exact⟨k,by simpa [Kz,c] using d⟩
     simp_all
 refine(congrArg (Vc · _) (key a e)).trans ?_;by_cases h:∃k,Kz f a (k+1)=Ua fr
 all_goals grind
end Q
namespace Q
open Tr Go
theorem Zno{σ τ:Type}{step:σ->Option (σ ⊕ τ)}{n:Nat}(a:Nat->σ->Prop)(chk:Nat->Int)(R:Nat->τ)(E:τ)
 (b:∀i s,i<n->(∀j,j<i->chk j=0)->a i s->(chk i=0/\ ∃s',step s=Ua (.inl s')/\a (i+1) s')\/(chk i≠0/\step s=Ua (.inr (R i))))
 (c:∀s,a n s->step s=Ua (.inr E)) (s:σ) (d:a 0 s):run step s=Ua (pick n chk R E):=by
 refine JG (fun i s=>a i s/\ ∀j,j<i->chk j=0) chk R E ?_ ?_ (by grind) s (by grind)
 all_goals grind
def l0:H2:=(0,0,0,0,Ud,())
def lk(n:Zc)(j:Nat):H2:=(n.2.2.2.1[j]?).getD l0
def rn(n:Zc)(a:Int):Hd:=(n.2.2.1[a.toNat]?).getD u0
def cl(l:List Wu)(a:Int):Wu:=(l[a.toNat]?).getD c0
def Ke(x:Int)(m:Nat):Bool:=Ue (0<=x) &&Ue (x<(m:Int))
def Wc(n:Zc)(i:Nat):Int->Option Int:=nx (fun j=>(lk n j).1) (fun j=>(lk n j).2.2.1) (fun j=>(lk n j).2.2.2.2.1) i
abbrev Zi1:=List Int
def J6(x:H2):Zi1:=[x.1,x.2.1,x.2.2.1,x.2.2.2.1]
theorem ZwN(x:Int)(m:Nat):F80 x (m:Int)=Ua (Ke x m):=by
 unfold F80 Ke
 grind
theorem W7{α:Type}{l:List α}{x:Int}(h:Ke x l.length=Uc)(d:α):idx l x=Ua ((l[x.toNat]?).getD d):=by
 unfold Ke at h;simp only[Vk,KD]at h;have e:x=(x.toNat:Int):=by omega
 have a:x.toNat<l.length:=by omega
 rw[e,ZE a,Vo,Ku a]
def Hg(n:Zc)(x:H2):Bool:= !Ke x.1 n.2.2.1.length|| (!Ke x.2.2.1 n.2.2.1.length||decide (x.1=x.2.2.1))
def H7(n:Zc)(x:H2):Bool:= !Ke x.2.1 (rn n x.1).2.2.2.2.2.2.2.1.length|| !Ke x.2.2.2.1 (rn n x.2.2.1).2.2.2.2.2.2.2.1.length
open Classical in
noncomputable def WV(n:Zc)(i:Nat):Int:=
 let x:=lk n i
 if Hg n x=Uc then 9 else if H7 n x=Uc then 9
 else if¬(cl (rn n x.1).2.2.2.2.2.2.2.1 x.2.1).1=(cl (rn n x.2.2.1).2.2.2.2.2.2.2.1 x.2.2.2.1).1 then 13
 else if x.2.2.2.2.1=Uc/\ ¬x.2.1+1=((rn n x.1).2.2.2.2.2.2.2.1.length:Int) then 19
 else if x.2.2.2.2.1=Uc/\ ¬x.2.2.2.1=0 then 19
 else if x.2.2.2.2.1=Uc/\ ∃j,j<i/\(lk n j).2.2.2.2.1=Uc/\((lk n j).1=x.1\/(lk n j).2.2.1=x.2.2.1) then 19
 else if x.2.2.2.2.1=Uc/\ ∃k,Kz (Wc n i) x.2.2.1 (k+1)=Ua x.1 then 19
 else if∃j,j<i/\J6 (lk n j)=J6 x then 6 else 0
theorem ZaK{n:Zc}{i:Nat}(h:WV n i=0):Hg n (lk n i)=Ud/\H7 n (lk n i)=Ud/\((lk n i).2.2.2.2.1=Uc->
 (¬∃j,j<i/\(lk n j).2.2.2.2.1=Uc/\((lk n j).1=(lk n i).1\/(lk n j).2.2.1=(lk n i).2.2.1))/\ ¬∃k,Kz (Wc n i) (lk n i).2.2.1 (k+1)=Ua (lk n i).1):=by
 unfold WV at h;simp only at h;by_cases a:Hg n (lk n i)=Uc
 ·grind
 rw[Zg a]at h;by_cases b:H7 n (lk n i)=Uc
 ·grind
 rw[Zg b]at h;refine⟨by grind,by grind,fun c=>?_⟩
 repeat (split at h; · omega)
 grind
theorem ZeJ{n:Zc} :∀{i:Nat},(∀j,j<i->WV n j=0)->∀a,J8 (Wc n i) a
 |0,_,a=>Zr2 a
 |i+1,h,a=>by
  obtain⟨b,_,c⟩:=ZaK (h i (by omega));refine Zr1 (ZeJ (by grind)) (fun f=>⟨fun e=>?_,fun k d=>(c f).2 ⟨k,d⟩⟩) a;unfold Hg at b
  grind
theorem ZsJ{n:Zc}{j:Nat}(h:WV n j=0):0<=(lk n j).1:=by
 obtain⟨a,_⟩:=ZaK h;unfold Hg Ke at a
 grind
end Q
namespace Q
open Tr Go
noncomputable def Ze6(n:Zc):Int×Int×Int×Unit:=if 1024<n.2.2.2.1.length then(3,0,5,()) else pick n.2.2.2.1.length (WV n) (fun i=>(3,(i:Int),WV n i,())) (0,0,0,())
theorem D5{n:Zc}{a:Int}(h:Ke a n.2.2.1.length=Uc):rn n a∈n.2.2.1:=by
 unfold Ke at h;simp only[Vk,KD]at h;have b:a.toNat<n.2.2.1.length:=by omega
 unfold rn
 grind
def LSt(n:Zc)(i:Nat)(s:(Int×Int×Int×Unit) ×List (Int×Int) ×List (Int×Bool) ×List (Zi1×Bool) ×Int):Prop:=
 ∃d c e,s=((0,0,0,()),d,c,e,(i:Int))/\(∀a,ZT (Zm Y3) a d=Wc n i a)/\(∀b,Ve (ZT (Zm Y3) b c) Ud=Uc↔∃j,j<i/\(lk n j).2.2.2.2.1=Uc/\(lk n j).2.2.1=b)
  /\WX (t:=XI) (fun j=>J6 (lk n j)) i e
theorem Zmc{n:Zc}{i:Nat}{a:Int} :(Wc n i a).isSome=Uc↔∃j,j<i/\(lk n j).2.2.2.2.1=Uc/\(lk n j).1=a:=by
 cases h:Wc n i a with
 |none=>
  refine⟨by simp,fun⟨j,c,d,e⟩=>absurd e (Zh5 h j c d)⟩
 |some b=>
  obtain⟨j,c,d,e,_⟩:=Zdl h
  grind
theorem ZtH(n:Zc)(P:∀x∈n.2.2.1,x.2.2.2.2.2.2.2.1.length<=9223372036854775807):F67 n=Ua (Ze6 n):=by
 unfold F67 Ze6 F79;by_cases u:1024<n.2.2.2.1.length
 ·grind
 rw[Zg u,Zr (by omega)];simp only[Zd];have C:n.2.2.2.1.length<=9223372036854775807:=by omega
 rw[Zno (n:=n.2.2.2.1.length) (LSt n) (WV n) (fun i=>.inr (3,(i:Int),WV n i,())) (.inl (0,0,0,())) ?_ ?_ ((0,0,0,()),[],[],[],(0:Int))
  ⟨[],[],[],rfl,fun _=>rfl,fun b=>⟨fun h=>(nomatch h),by omega⟩,WX.nil _⟩]
 ·unfold pick
  grind
 ·rintro i _ q R ⟨A,s,f,rfl,v,W,m⟩;have U:n.2.2.2.1[i]=lk n i:=(Ku q l0).symm;simp only[ZQ q,Ze,ZE q,Za,U,ZwN];have c:WV n i=WV n i:=rfl
  conv at c=>rhs;unfold WV
  simp only at c;generalize E:lk n i=x at c⊢;by_cases g:Hg n x=Uc
  ·rw[Zv g]at c;refine .inr ⟨by omega,?_⟩;rw[c];unfold Hg at g
   grind
  rw[Zg g]at c;unfold Hg at g;simp only[Vn,Vj,Vx]at g;obtain⟨B,F,V⟩:=g;have L:idx n.2.2.1 x.1=Ua (rn n x.1):=W7 B u0;have M:idx n.2.2.1 x.2.2.1=Ua (rn n x.2.2.1):=W7 F u0;simp only[B,F,V,Vb,Zd,Za,L,M];by_cases l:H7 n x=Uc
  ·rw[Zv l]at c;refine .inr ⟨by omega,?_⟩;rw[c];unfold H7 at l
   grind
  rw[Zg l]at c;unfold H7 at l;simp only[Vn,Vj,Vx]at l;obtain⟨w,G⟩:=l;have N:idx (rn n x.1).2.2.2.2.2.2.2.1 x.2.1=Ua (cl (rn n x.1).2.2.2.2.2.2.2.1 x.2.1):=W7 w c0;have O:idx (rn n x.2.2.1).2.2.2.2.2.2.2.1 x.2.2.2.1=Ua (cl (rn n x.2.2.1).2.2.2.2.2.2.2.1 x.2.2.2.1):=W7 G c0;simp only[w,G,Vb,Zd,Za,N,O];by_cases H:(cl (rn n x.1).2.2.2.2.2.2.2.1 x.2.1).1=(cl (rn n x.2.2.1).2.2.2.2.2.2.2.1 x.2.2.2.1).1
  case neg=>
   grind
  rw[Zg (by omega)]at c;simp only[Zj H,Vb,Zd];by_cases D:x.2.2.2.2.1=Uc
  ·simp only[D,true_and,Ze]at c⊢
   have T:Va .i64 (x.2.1+1)=x.2.1+1:=by have z:=P _ (D5 B);unfold Ke at w;simp only[Vk,KD]at w;exact ZH (by omega) (by omega)
   rw[T];by_cases I:x.2.1+1=((rn n x.1).2.2.2.2.2.2.2.1.length:Int)
   case neg=>
    grind
   rw[Zg (by omega)]at c;simp only[Zj I,Vb,Zd];by_cases J:x.2.2.2.1=0
   case neg=>
    grind
   rw[Zg (by omega)]at c;simp only[Zj J,Vb,Zd,v,Ztm v (ZeJ R x.2.2.1),Za];by_cases y:∃j,j<i/\(lk n j).2.2.2.2.1=Uc/\((lk n j).1=x.1\/(lk n j).2.2.1=x.2.2.1)
   ·rw[Zv y]at c;refine .inr ⟨by omega,?_⟩;rw[c];by_cases e:(Wc n i x.1).isSome=Uc
    ·grind
    ·have o:Ve (ZT (Zm Y3) x.2.2.1 s) Ud=true:=by
      obtain⟨j,u,z,p⟩:=y;rcases p with p|p
      ·exact absurd (Zmc.2 ⟨j,u,z,p⟩) e
      grind
     grind
   rw[Zg y]at c
   have e:(Wc n i x.1).isSome=false:=by
    cases S:(Wc n i x.1).isSome with
    |false=>rfl
    |true=>obtain⟨j,u,z,p⟩:=Zmc.1 S;grind
   have o:Ve (ZT (Zm Y3) x.2.2.1 s) Ud=false:=by
    grind
   simp only[e,o,Zd];by_cases K:∃k,Kz (Wc n i) x.2.2.1 (k+1)=Ua x.1
   ·grind
   rw[Zg (by grind)]at c;simp only[@decide_eq_false _ (Classical.propDecidable _) K,Zd];by_cases d:∃j,j<i/\J6 (lk n j)=J6 x
   ·rw[Zv d]at c;refine .inr ⟨by omega,?_⟩;rw[c];rw[show Ve (ZT (Zm XI) [x.1,x.2.1,x.2.2.1,x.2.2.2.1] f) Ud=Uc from (m _).2 d];rfl
   rw[Zg d]at c;refine .inl ⟨c,_,?_,Kn (Zm Y3) x.1 x.2.2.1 A,Kn (Zm Y3) x.2.2.1 Uc s,Kn (Zm XI) (J6 x) Uc f,rfl,?_,?_,?_⟩
   ·rw[show Ve (ZT (Zm XI) [x.1,x.2.1,x.2.2.1,x.2.2.2.1] f) Ud=Ud from Rh m d];simp only[Zd,Kb q C];rfl
   ·intro a;rw[Zag rfl,v];show _=nx _ _ _ (i+1) a;unfold nx;simp only[E,D,true_and];by_cases Q:a=x.1
    ·grind
    ·rw[Zg Q,Zg (by grind)];rfl
   ·intro b;rw[Zag rfl]
    grind
   ·have:=WX.add (t:=XI) rfl m
    grind
  ·have r:x.2.2.2.2.1=false:=by grind
   simp only[r,Vda,false_and,if_false,Zd]at c⊢;by_cases d:∃j,j<i/\J6 (lk n j)=J6 x
   ·rw[Zv d]at c;refine .inr ⟨by omega,?_⟩;rw[c];rw[show Ve (ZT (Zm XI) [x.1,x.2.1,x.2.2.1,x.2.2.2.1] f) Ud=Uc from (m _).2 d];rfl
   rw[Zg d]at c;refine .inl ⟨c,_,?_,A,s,Kn (Zm XI) (J6 x) Uc f,rfl,?_,?_,?_⟩
   ·rw[show Ve (ZT (Zm XI) [x.1,x.2.1,x.2.2.1,x.2.2.2.1] f) Ud=Ud from Rh m d];simp only[Zd,Kb q C];rfl
   ·intro a;rw[v];show _=nx _ _ _ (i+1) a;unfold nx;simp only[E,r,Vda,false_and,if_false];rfl
   ·grind
   ·have:=WX.add (t:=XI) rfl m
    grind
 ·rintro _ ⟨A,s,f,rfl,_⟩;simp
end Q
namespace Q
open Tr Go
theorem ZeY(x:Int){m:Nat}(b:m<=9223372036854775807):F126 x 0 (Va .i64 ((m:Int) - 1))=Ua (Ke x m):=by
 rw[Hk,ZH (by omega) (by omega)];unfold Ke;by_cases a:0<=x
 all_goals grind
theorem Zth(n:Zc){i:Nat}(o:i<=n.2.2.2.1.length)(l:n.2.2.2.1.length<=9223372036854775807)(a:Int):
 run (fun b:Int×Int=>
          bif decide (b.snd<(i:Int)) then
           Vc
            (Vc (idx n.snd.snd.snd.fst b.snd) fun d=>
              bif d.snd.snd.snd.snd.fst then Vc (idx n.snd.snd.snd.fst b.snd) fun e=>Ua (decide (e.fst=a)) else Ua Ud)
            fun f=>
            bif f then Vc (idx n.snd.snd.snd.fst b.snd) fun g=>Ua (Sum.inl (g.snd.snd.fst,Va .i64 (b.snd+(1:Int))))
            else Ua (Sum.inl (b.fst,Va .i64 (b.snd+(1:Int))))
          else Ua (Sum.inr b.fst))
       ((-1:Int),(0:Int))=Ua ((Wc n i a).getD (-1)):=by
 have h:=JG (n:=i) (fun j (st:Int×Int)=>st=((Wc n j a).getD (-1),(j:Int))) (fun _=>0) (fun _=>(Wc n i a).getD (-1)) ((Wc n i a).getD (-1)) (step:=fun b:Int×Int=>
          bif decide (b.snd<(i:Int)) then
           Vc
            (Vc (idx n.snd.snd.snd.fst b.snd) fun d=>
              bif d.snd.snd.snd.snd.fst then Vc (idx n.snd.snd.snd.fst b.snd) fun e=>Ua (decide (e.fst=a)) else Ua Ud)
            fun f=>
            bif f then Vc (idx n.snd.snd.snd.fst b.snd) fun g=>Ua (Sum.inl (g.snd.snd.fst,Va .i64 (b.snd+(1:Int))))
            else Ua (Sum.inl (b.fst,Va .i64 (b.snd+(1:Int))))
          else Ua (Sum.inr b.fst)) ?_ ?_ ?_ ((-1:Int),(0:Int)) rfl
 ·rw[h];unfold pick
  grind
 ·rintro j _ k rfl _;have c:j<n.2.2.2.1.length:=by omega
  have m:n.2.2.2.1[j]=lk n j:=(Ku c l0).symm;refine⟨((Wc n (j+1) a).getD (-1),((j+1:Nat):Int)),?_,rfl⟩;simp only[ZQ k,Ze,ZE c,Za,m,Kb c l]
  have p:Wc n (j+1) a=if (lk n j).2.2.2.2.1=Uc/\(lk n j).1=a then Ua (lk n j).2.2.1 else Wc n j a:=rfl
  grind
 all_goals simp
theorem Ztl(n:Zc){i:Nat}(u:i<=n.2.2.2.1.length)(E:n.2.2.2.1.length<=9223372036854775806)(p:∀j,j<i->WV n j=0)(to fr:Int)(s:0<=fr):
 F127 n (i:Int) to fr=Ua (@decide (∃k,Kz (Wc n i) to (k+1)=Ua fr) (Classical.propDecidable _)):=by
 classical
 unfold F127
 have f:Wc n i (-1)=none:=by
  cases h:Wc n i (-1) with
  |none=>rfl
  |some b=>
   obtain⟨j,l,C,D,_⟩:=Zdl h;have:=ZsJ (p j l);omega
 have m:=Zth n u (by omega)
 have key:∀(r k:Nat) (a:Int),i+1 - k=r->k<=i+1->run (fun s0:Int×Int=>
       bif decide (s0.snd<=(i:Int)) then
        Vc
         (run
           (fun c=>
             bif decide (c.snd<(i:Int)) then
              Vc
               (Vc (idx n.snd.snd.snd.fst c.snd) fun y=>
                 bif y.snd.snd.snd.snd.fst then Vc (idx n.snd.snd.snd.fst c.snd) fun z=>Ua (decide (z.fst=s0.fst)) else Ua Ud)
               fun A=>
               bif A then Vc (idx n.snd.snd.snd.fst c.snd) fun B=>Ua (Sum.inl (B.snd.snd.fst,Va .i64 (c.snd+(1:Int))))
               else Ua (Sum.inl (c.fst,Va .i64 (c.snd+(1:Int))))
             else Ua (Sum.inr c.fst))
           ((-1:Int),(0:Int)))
         fun q=>bif decide (q=fr) then Ua (Sum.inr (Sum.inr Uc)) else Ua (Sum.inl (q,Va .i64 (s0.snd+(1:Int))))
       else Ua (Sum.inr (Sum.inl ())))
  (a,(k:Int))=Ua (if∃t,k+t<=i/\Kz (Wc n i) a (t+1)=Ua fr then Sum.inr Uc else Sum.inl ()):=by
  intro r
  induction r with
  |zero=>
   intro k a w v;rw[Zg (by omega)]
   exact XA (by grind)
  |succ r x=>
   intro k a w v;have F:Va .i64 ((k:Int)+1)=((k+1:Nat):Int):=by rw[ZH (by omega) (by omega)];omega
   by_cases o:(Wc n i a).getD (-1)=fr
   ·have:Wc n i a=Ua fr:=by
     cases h:Wc n i a with
     |none=>grind
     |some b=>grind
    rw[Zv ⟨0,by omega,by simp [Kz,this]⟩];refine XA ?_
    grind
   ·rw[Y1 (s' :=((Wc n i a).getD (-1),((k+1:Nat):Int))) (by
     grind),x (k+1) _ (by omega) (by omega)]
    have e:(∃t,k+1+t<=i/\Kz (Wc n i) ((Wc n i a).getD (-1)) (t+1)=Ua fr)↔∃t,k+t<=i/\Kz (Wc n i) a (t+1)=Ua fr:=by
     cases h:Wc n i a with
     |none=>
      refine⟨fun⟨t,_,d⟩=>?_,fun⟨t,_,d⟩=>?_⟩
      ·simp [Kz,f]at d
      ·simp [Kz,h]at d
     |some b=>
      refine⟨fun⟨t,l,d⟩=>⟨t+1,by omega,?_⟩,fun⟨t,l,d⟩=>?_⟩
      ·show (Wc n i a).bind (fun b=>Kz (Wc n i) b (t+1))=_
       grind
      ·have g:(Wc n i a).bind (fun b=>Kz (Wc n i) b t)=Ua fr:=d;rw[h]at g
       cases t with
       |zero=>rw[h]at o;exact absurd (Ky g) o
       |succ t=>grind
    simp_all
 refine(congrArg (Vc · _) (key _ 0 to rfl (by omega))).trans ?_
 have e:(∃t,0+t<=i/\Kz (Wc n i) to (t+1)=Ua fr)↔∃k,Kz (Wc n i) to (k+1)=Ua fr:=by refine⟨by grind,fun⟨t,h⟩=>⟨t,?_,h⟩⟩;have:=Zuk (ZeJ p to) h;omega
 by_cases h:∃k,Kz (Wc n i) to (k+1)=Ua fr
 all_goals grind
end Q
namespace Q
open Tr Go
theorem Zhh{τ:Type}{step:Int->Option (Int ⊕ τ)}{i:Nat}{p:Nat->Prop}{R E:τ}(c:∀j:Nat,j<i->¬p j->step (j:Int)=Ua (.inl ((j+1:Nat):Int)))(b:∀j:Nat,j<i->p j->step (j:Int)=Ua (.inr R))
 (a:step (i:Int)=Ua (.inr E)):run step (0:Int)=Ua (@ite _ (∃j,j<i/\p j) (Classical.propDecidable _) R E):=by
 classical
 obtain⟨d,e⟩:=ZcU c b a;by_cases h:∃j,j<i/\p j
 all_goals grind
theorem ZtF(n:Zc){i:Nat}(w:i<n.2.2.2.1.length)(W:n.2.2.2.1.length<=9223372036854775806)(Y:n.2.2.1.length<=9223372036854775807)
 (D:∀x∈n.2.2.1,x.2.2.2.2.2.2.2.1.length<=9223372036854775807) (V:∀j,j<i->WV n j=0):F128 n (i:Int)=Ua (WV n i):=by
 classical
 unfold F128;have hx:n.2.2.2.1[i]=lk n i:=(Ku w l0).symm;have X:n.2.2.2.1.length<=9223372036854775807:=by omega
 simp only[ZE w,Za,hx,ZeY _ Y];have c:WV n i=WV n i:=rfl
 conv at c=>rhs;unfold WV
 simp only at c;generalize hy:lk n i=x at c⊢;by_cases s:Hg n x=Uc
 ·rw[Zv s]at c;rw[c];unfold Hg at s
  grind
 rw[Zg s]at c;unfold Hg at s;simp only[Vn,Vj,Vx]at s;obtain⟨u,z,p3⟩:=s;have Q:idx n.2.2.1 x.1=Ua (rn n x.1):=W7 u u0;have S:idx n.2.2.1 x.2.2.1=Ua (rn n x.2.2.1):=W7 z u0;have K:=D _ (D5 u);have L:=D _ (D5 z);simp only[u,z,p3,Vb,Zd,Za,Q,S,ZeY _ K,ZeY _ L];by_cases t:H7 n x=Uc
 ·rw[Zv t]at c;rw[c];unfold H7 at t
  grind
 rw[Zg t]at c;unfold H7 at t;simp only[Vn,Vj,Vx]at t;obtain⟨F,G⟩:=t;have T:idx (rn n x.1).2.2.2.2.2.2.2.1 x.2.1=Ua (cl (rn n x.1).2.2.2.2.2.2.2.1 x.2.1):=W7 F c0;have U:idx (rn n x.2.2.1).2.2.2.2.2.2.2.1 x.2.2.2.1=Ua (cl (rn n x.2.2.1).2.2.2.2.2.2.2.1 x.2.2.2.1):=W7 G c0;simp only[F,G,Vb,Zd,Za,T,U];by_cases H:(cl (rn n x.1).2.2.2.2.2.2.2.1 x.2.1).1=(cl (rn n x.2.2.1).2.2.2.2.2.2.2.1 x.2.2.2.1).1
 case neg=>
  grind
 rw[Zg (by omega)]at c;simp only[Zj H,Vb,Zd];have hw:Va .i64 (((rn n x.1).2.2.2.2.2.2.2.1.length:Int) - 1)=((rn n x.1).2.2.2.2.2.2.2.1.length:Int) - 1:=ZH (by omega) (by omega)
 have f:=Zhh (i:=i) (p:=fun j=>J6 (lk n j)=J6 x) (τ:=Unit ⊕ Int) (R:=.inr 6) (E:=.inl ()) (step:=fun o:Int=>
                         bif decide (o<(i:Int)) then
                             Vc (idx n.snd.snd.snd.fst o) fun m=>
                              Vc
                               (bif decide (m.fst=x.fst) then
                                 bif decide (m.snd.fst=x.snd.fst) then
                                  bif decide (m.snd.snd.fst=x.snd.snd.fst) then Ua (decide (m.snd.snd.snd.fst=x.snd.snd.snd.fst))
                                  else Ua Ud
                                 else Ua Ud
                               else Ua Ud)
                               fun A=>bif A then Ua (Sum.inr (Sum.inr (6:Int))) else Ua (Sum.inl (Va .i64 (o+(1:Int))))
                          else Ua (Sum.inr (Sum.inl ()))) (fun j b g=>by
  have a:j<n.2.2.2.1.length:=by omega
  have d:n.2.2.2.1[j]=lk n j:=(Ku a l0).symm;simp only[ZQ b,Ze,ZE a,Za,d,Kb b (by omega)];by_cases M:(lk n j).1=x.1
  ·rw[Zj M];by_cases N:(lk n j).2.1=x.2.1
   ·rw[Zj N];by_cases O:(lk n j).2.2.1=x.2.2.1
    ·rw[Zj O];have P:¬(lk n j).2.2.2.1=x.2.2.2.1:=fun P=>g (by unfold J6;grind)
     grind
    grind
   grind
  grind) (fun j b g=>by
  have a:j<n.2.2.2.1.length:=by omega
  have d:n.2.2.2.1[j]=lk n j:=(Ku a l0).symm;unfold J6 at g;simp only[Xe,and_true]at g;simp only[ZQ b,Ze,ZE a,Za,d,Zj g.1,Zj g.2.1,Zj g.2.2.1,Zj g.2.2.2]) (by simp)
 by_cases Z:x.2.2.2.2.1=Uc
 ·simp only[Z,true_and,Ze,hw]at c f⊢;by_cases b4:x.2.1+1=((rn n x.1).2.2.2.2.2.2.2.1.length:Int)
  case neg=>
   grind
  rw[Zg (by omega)]at c;simp only[Zj (show x.2.1=((rn n x.1).2.2.2.2.2.2.2.1.length:Int) - 1 by omega),Vb,Zd,Za];by_cases I:x.2.2.2.1=0
  case neg=>
   grind
  rw[Zg (by omega)]at c
  have v:0<=x.1:=by
   unfold Ke at u
   grind
  have l:=Zhh (i:=i) (p:=fun j=>(lk n j).2.2.2.2.1=Uc/\((lk n j).1=x.1\/(lk n j).2.2.1=x.2.2.1)) (τ:=Unit ⊕ Int) (R:=.inr 19) (E:=.inl ()) (step:=fun e:Int=>
                  bif decide (e<(i:Int)) then
                   Vc (idx n.snd.snd.snd.fst e) fun q=>
                    Vc
                     (
                      bif q.snd.snd.snd.snd.fst then
                       bif decide (q.fst=x.fst) then Ua Uc else Ua (decide (q.snd.snd.fst=x.snd.snd.fst))
                      else Ua Ud)
                     fun r=>bif r then Ua (Sum.inr (Sum.inr (19:Int))) else Ua (Sum.inl (Va .i64 (e+(1:Int))))
                  else Ua (Sum.inr (Sum.inl ()))) (fun j b g=>by
   have a:j<n.2.2.2.1.length:=by omega
   have d:n.2.2.2.1[j]=lk n j:=(Ku a l0).symm;simp only[ZQ b,Ze,ZE a,Za,d,Kb b (by omega)]
   grind) (fun j b g=>by
   have a:j<n.2.2.2.1.length:=by omega
   have d:n.2.2.2.1[j]=lk n j:=(Ku a l0).symm;simp only[ZQ b,Ze,ZE a,Za,d,g.1]
   grind) (by simp)
  simp only[Zj I,Vb,Zd];refine(congrArg (Vc · _) l).trans ?_;simp only[Za];by_cases B:∃j,j<i/\(lk n j).2.2.2.2.1=Uc/\((lk n j).1=x.1\/(lk n j).2.2.1=x.2.2.1)
  ·grind
  rw[Zg B]at c;rw[Zg B];simp only[Vi,Ztl n (Nat.le_of_lt w) W V x.2.2.1 x.1 v,Za];by_cases C:∃k,Kz (Wc n i) x.2.2.1 (k+1)=Ua x.1
  ·grind
  rw[Zg C]at c;rw[Zr C];simp only[Zd];refine(congrArg (Vc · _) f).trans ?_;rw[c];by_cases J:∃j,j<i/\J6 (lk n j)=J6 x
  all_goals grind
 ·have y:x.2.2.2.2.1=false:=by grind
  have h:=Zhh (i:=i) (p:=fun _=>False) (τ:=Unit ⊕ Int) (R:=.inr 19) (E:=.inl ()) (step:=fun e:Int=>
                    bif decide (e<(i:Int)) then
                     Vc (idx n.snd.snd.snd.fst e) fun _=>
                      Vc
                       (Ua Ud)
                       fun r=>bif r then Ua (Sum.inr (Sum.inr (19:Int))) else Ua (Sum.inl (Va .i64 (e+(1:Int))))
                    else Ua (Sum.inr (Sum.inl ()))) (fun j b _=>by
   have a:j<n.2.2.2.1.length:=by omega
   simp only[ZQ b,Ze,ZE a,Za,Zd,Kb b (by omega)]) (by simp) (by simp)
  rw[Zg (by simp)]at h;simp only[y,Vda,false_and,if_false,Zd,Za]at c h f⊢;refine(congrArg (Vc · _) h).trans ?_;simp only[Za,Vi];refine(congrArg (Vc · _) f).trans ?_;rw[c];by_cases J:∃j,j<i/\J6 (lk n j)=J6 x
  all_goals grind
end Q
namespace Q
open Tr Go
abbrev Zf8:=Int×Int×Int×Unit
def ZaR(a b:Zf8):Zf8:=if a.2.2.1=0 then b else a
theorem Zk2(a b:El KP):F70 [a,b]=Ua (ZaR a (ZaR b (0,0,0,()))):=by
 revert a b
 show∀a b:Zf8,F70 [a,b]=Ua (ZaR a (ZaR b (0,0,0,())));intro a b;unfold F70 ZaR;by_cases c:a.2.2.1=0
 ·rw[Zv c];by_cases d:b.2.2.1=0
  ·rw[Zv d,Y1 (s' :=((0,0,0,()),(1:Int))) (by simp [idx,c,Va,Vz,Vca]),Y1 (s' :=((0,0,0,()),(2:Int))) (by simp [idx,d,Va,Vz,Vca]),XA (r:=.inl (0,0,0,())) (by simp)];rfl
  ·rw[Zg d,Y1 (s' :=((0,0,0,()),(1:Int))) (by simp [idx,c,Va,Vz,Vca]),XA (r:=.inr b) (by simp [idx,d])];rfl
 ·rw[Zg c,XA (r:=.inr a) (by simp [idx,c])];rfl
structure Yh (n:Zc):Prop where
 stops:∀x∈n.1,x.1.length<=9223372036854775807
 routes:∀x∈n.2.1,x.1.length<=9223372036854775807
 runs:∀x∈n.2.2.1,x.2.2.2.1.length<=9223372036854775807
 calls:∀x∈n.2.2.1,x.2.2.2.2.2.2.2.1.length<=9223372036854775807
 paths:n.2.2.2.2.1.length<=4096
 prods:∀x∈n.2.2.2.2.2.1.1,x.1.length<=9223372036854775807
def Zi7(l:List Wu):Prop:= ∀i (a:i<l.length),0<=l[i].2.1/\l[i].2.1<=l[i].2.2.1/\l[i].2.2.1<=3155932800/\(0<i->(l[i - 1]'(by omega)).1≠l[i].1/\(l[i - 1]'(by omega)).2.2.1<=l[i].2.1)
structure WJ (n:Zc):Prop where
 stops:n.1.length<=64
 runs:n.2.2.1.length<=1024
 links:n.2.2.2.1.length<=1024
 zone:∀x∈n.1,0<=x.2.1/\x.2.1<16
 mode:∀x∈n.2.1,0<=x.2.1/\x.2.1<=7
 route:∀x∈n.2.2.1,0<=x.2.2.2.2.1/\x.2.2.2.2.1<(n.2.1.length:Int)
 many:∀x∈n.2.2.1,2<=x.2.2.2.2.2.2.2.1.length/\x.2.2.2.2.2.2.2.1.length<=32
 call:∀x∈n.2.2.1,∀c∈x.2.2.2.2.2.2.2.1,0<=c.1/\c.1<(n.1.length:Int)
 time:∀x∈n.2.2.1,Zi7 x.2.2.2.2.2.2.2.1
 base:∀x∈n.2.2.1, -1<=x.1/\0<=x.2.2.1/\0<=x.2.1/\x.2.1<=36524
 fare:(J3 n.2.2.2.2.2.1).2=0
theorem Zb1{n:Nat}{chk:Nat->Int}{E:Int×Int}(h:(pick n chk (fun i=>((i:Int),chk i)) E).2=0):∀j,j<n->chk j=0:=by
 unfold pick at h
 cases a:Wq n chk with
 |none=>exact WU.1 a
 |some i=>rw[a]at h;exact absurd h (Zat a).2
theorem Zqo{l:List Wu}{n:Int}(h:Xs l n 0 3155932800=0):Zi7 l:=by
 unfold Xs at h;split at h
 ·omega
 ·intro i e
  have a:Xx l n 0 3155932800 i=0:=by
   unfold pick at h
   cases b:Wq l.length (Xx l n 0 3155932800) with
   |none=>exact WU.1 b i e
   |some i=>rw[b]at h;exact absurd h (Zat b).2
  unfold Xx at a;split at a
  ·omega
  split at a
  ·omega
  next c=>
   split at a
   ·omega
   next d=>
    unfold ZcL at c;unfold ZcM at d
    grind
theorem Zj1{l:List Wu}{n lo b:Int}(h:Xs l n lo b=0):(2<=l.length/\l.length<=32)/\ ∀c∈l,0<=c.1/\c.1<n:=by
 unfold Xs at h;split at h
 ·omega
 ·refine⟨by omega,fun c f=>?_⟩;obtain⟨j,g,rfl⟩:=Vh f
  have d:Xx l n lo b j=0:=by
   unfold pick at h
   cases a:Wq l.length (Xx l n lo b) with
   |none=>exact WU.1 a j g
   |some i=>rw[a]at h;exact absurd h (Zat a).2
  unfold Xx at d;split at d
  ·omega
  ·next e=>
   unfold ZcK at e
   grind
theorem Zv0{n:Zc}(s:(Gv n.1).2=0)(t:(GV n.2.1).2=0)(u:n.2.2.1.length<=1024)(c:Wq n.2.2.1.length (XT n)=Ub)(v:n.2.2.2.1.length<=1024)(z:(J3 n.2.2.2.2.2.1).2=0):WJ n:=by
 unfold Gv at s;unfold GV at t;split at s
 ·omega
 split at t
 ·omega
 have e:=Zb1 s;have f:=Zb1 t;have d:=WU.1 c
 have key:∀x∈n.2.2.1,((0<=x.2.2.2.2.1/\x.2.2.2.2.1<(n.2.1.length:Int))/\ -1<=x.1/\0<=x.2.2.1/\0<=x.2.1/\x.2.1<=36524)/\Xs x.2.2.2.2.2.2.2.1 (n.1.length:Int) 0 3155932800=0:=by
  intro x a;obtain⟨j,b,rfl⟩:=Vh a;have h:=d j b;unfold XT at h
  grind
 refine⟨by omega,u,v,fun x a=>?_,fun x a=>?_,by grind,fun x a=>(Zj1 (key x a).2).1,fun x a=>(Zj1 (key x a).2).2,fun x a=>Zqo (key x a).2,by grind,z⟩
 ·obtain⟨j,b,rfl⟩:=Vh a;have h:=e j b;unfold Gu YV at h;simp only[Ku b]at h;split at h
  ·omega
  split at h
  all_goals omega
 ·obtain⟨j,b,rfl⟩:=Vh a;have h:=f j b;unfold GU YV at h;simp only[Ku b]at h;split at h
  ·omega
  split at h
  all_goals omega
structure Whole (n:Zc):Prop where
 s:(Gv n.1).2=0
 t:(GV n.2.1).2=0
 u:n.2.2.1.length<=1024
 f:Wq n.2.2.1.length (XT n)=Ub
 v:n.2.2.2.1.length<=1024
 g:Wq n.2.2.2.1.length (WV n)=Ub
 q:Wq n.2.2.2.2.1.length (Wh n.1.length n.2.2.2.2.1)=Ub
 w:∀c,F120 n.2.2.2.2.1 (n.1.length:Int)=Ua c->XM c n.2.2.2.2.1=Uc
 z:(J3 n.2.2.2.2.2.1).2=0
theorem Whole.sound{n:Zc}(h:Whole n):WJ n:=Zv0 h.s h.t h.u h.f h.v h.z
theorem ZgL(n:Zc)(h:Yh n):∃r:Int×Int×Int,F65 n=Ua r/\F119 n=Ua r/\(r.2.2=0↔Whole n):=by
 unfold F65 F119;rw[Zv5 n.1 h.stops,Zvf n.2.1 h.routes,Zv6 n.1,Zvg n.2.1,ZvA n h.runs,ZtH n h.calls,Zhu _ h.prods,Zsb];simp only[Za,F79];erw[Zk2];simp only[Za];by_cases s:(Gv n.1).2=0
 case neg=>
  refine⟨(0,(Gv n.1).1,(Gv n.1).2),?_,?_,⟨by grind,fun W=>absurd W.s s⟩⟩
  ·simp only[ZaR,Zg s,Zr s,Zd,Za]
  grind
 have y:n.1.length<=64:=by
  unfold Gv at s
  grind
 obtain⟨c,d,e,j⟩:=Zul n y h.paths;rw[e,j];clear e j;simp only[Za];erw[Zk2];simp only[ZaR,Zv s,Zj s,Vb,Zd,Za];by_cases t:(GV n.2.1).2=0
 case neg=>
  refine⟨(1,(GV n.2.1).1,(GV n.2.1).2),?_,?_,⟨by grind,fun W=>absurd W.t t⟩⟩
  all_goals grind
 simp only[Zv t,Zj t,Vb,Zd];by_cases u:1024<n.2.2.1.length
 ·refine⟨(2,0,5),?_,?_,⟨by simp,fun W=>absurd W.u (by omega)⟩⟩
  ·simp [Zfz,u]
  grind
 rw[Zr (show¬(1024:Int)<(n.2.2.1.length:Int) by omega)];simp only[Zd];rw[JG (n:=n.2.2.1.length) (fun i (st:Int)=>st=(i:Int)) (XT n) (fun i=>.inr ((2:Int),(i:Int),XT n i)) (.inl ()) ?_ ?_ ?_ (0:Int) rfl]
 rotate_left
 ·rintro i _ a rfl b;refine⟨((i+1:Nat):Int),?_,rfl⟩;simp only[ZQ a,Ze,Zng n a (by omega),Za,b,decide_true,Vb,Zd,Kb a (by omega)]
 ·rintro i _ a rfl b;simp only[ZQ a,Ze,Zng n a (by omega),Za,Zr b,Vl]
 ·simp
 unfold Zfz;rw[Zg u];unfold pick
 cases l:Wq n.2.2.1.length (XT n) with
 |some i=>
  have o:=(Zat l).2;refine⟨(2,(i:Int),XT n i),?_,?_,⟨by grind,fun W=>by rw[W.f]at l;grind⟩⟩
  all_goals grind
 |none=>
 simp only[Za,Vi,decide_true,Ze];by_cases v:1024<n.2.2.2.1.length
 ·refine⟨(3,0,5),?_,?_,⟨by simp,fun W=>absurd W.v (by omega)⟩⟩
  ·simp [Ze6,v]
  grind
 rw[Zr (show¬(1024:Int)<(n.2.2.2.1.length:Int) by omega)];simp only[Zd];rw[Zno (n:=n.2.2.2.1.length) (fun i (st:Int)=>st=(i:Int)) (WV n) (fun i=>.inr ((3:Int),(i:Int),WV n i)) (.inl ()) ?_ ?_ (0:Int) rfl]
 rotate_left
 ·rintro i _ a x rfl;have A:=ZtF n a (by omega) (by omega) h.calls x;by_cases b:WV n i=0
  ·refine .inl ⟨b,((i+1:Nat):Int),?_,rfl⟩;simp only[ZQ a,Ze,A,Za,b,decide_true,Vb,Zd,Kb a (by omega)]
  grind
 ·simp
 unfold Ze6;rw[Zg v];unfold pick
 cases m:Wq n.2.2.2.1.length (WV n) with
 |some i=>
  have o:=(Zat m).2;refine⟨(3,(i:Int),WV n i),?_,?_,⟨by grind,fun W=>by rw[W.g]at m;grind⟩⟩
  all_goals grind
 |none=>
 simp only[Za,Vi,decide_true,Ze]
 cases k:Wq n.2.2.2.2.1.length (Wh n.1.length n.2.2.2.2.1) with
 |some i=>
  have o:=(Zat k).2;refine⟨(4,(i:Int),Wh n.1.length n.2.2.2.2.1 i),?_,?_,⟨by grind,fun W=>by rw[W.q]at k;grind⟩⟩
  all_goals grind
 |none=>
 by_cases w:XM c n.2.2.2.2.1=Uc
 case neg=>
  refine⟨(4,0,18),?_,?_,⟨by simp,fun W=>absurd (W.w c (d (WU.1 k))) w⟩⟩
  all_goals grind
 simp only[Zv w,if_true,decide_true,Vb,Zd];by_cases z:(J3 n.2.2.2.2.2.1).2=0
 ·refine⟨(0,0,0),?_,?_,⟨fun _=>⟨s,t,by omega,l,by omega,m,k,fun B p=>by rw[d (WU.1 k)]at p;grind,z⟩,fun _=>rfl⟩⟩
  all_goals grind
 ·refine⟨(5,(J3 n.2.2.2.2.2.1).1,(J3 n.2.2.2.2.2.1).2),?_,?_,⟨by grind,fun W=>absurd W.z z⟩⟩
  all_goals grind
theorem Zj6(n:Zc)(h:Yh n):∃r:Int×Int×Int,F65 n=Ua r/\F119 n=Ua r/\(r.2.2=0->WJ n):=by obtain⟨r,a,b,c⟩:=ZgL n h;exact⟨r,a,b,fun h=>(c.1 h).sound⟩
end Q
namespace Q
open Tr Go
theorem Gn{a b:Nat}(e:a<65536)(f:b<65536):K5 .i64 (a:Int) (b:Int)=((a ||| b:Nat):Int):=by
 have d:a ||| b<2 ^ 16:=Via (n:=16) (by omega) (by omega);unfold K5
 have c:(Vja Vlb.bits (a:Int) ||| Vja Vlb.bits (b:Int)).toNat=a ||| b:=by
  rw[Vib,Vu,Vu,Vy,Vy];show a % 2 ^ 64 ||| b % 2 ^ 64=a ||| b
  grind
 rw[c,ZH (by omega) (by omega)]
theorem Zfj{a b:Nat}(e:a<65536)(f:b<65536):K5 .u64 (a:Int) (b:Int)=((a ||| b:Nat):Int):=by
 have d:a ||| b<2 ^ 16:=Via (n:=16) (by omega) (by omega);unfold K5
 have c:(Vja Vmb.bits (a:Int) ||| Vja Vmb.bits (b:Int)).toNat=a ||| b:=by
  rw[Vib,Vu,Vu,Vy,Vy];show a % 2 ^ 64 ||| b % 2 ^ 64=a ||| b
  grind
 rw[c];simp [Va,Vz,Vca];omega
theorem Rb{z:Int}(a:0<=z)(b:z<16):Gp .i64 1 z=Ua ((2 ^ z.toNat:Nat):Int):=by
 have:z=0\/z=1\/z=2\/z=3\/z=4\/z=5\/z=6\/z=7\/z=8\/z=9\/z=10\/z=11\/z=12\/z=13\/z=14\/z=15:=by omega
 rcases this with rfl|rfl|rfl|rfl|rfl|rfl|rfl|rfl|rfl|rfl|rfl|rfl|rfl|rfl|rfl|rfl<;>decide
theorem ZvL{z:Int}(a:0<=z)(b:z<16):Gp .u64 1 z=Ua ((2 ^ z.toNat:Nat):Int):=by
 have:z=0\/z=1\/z=2\/z=3\/z=4\/z=5\/z=6\/z=7\/z=8\/z=9\/z=10\/z=11\/z=12\/z=13\/z=14\/z=15:=by omega
 rcases this with rfl|rfl|rfl|rfl|rfl|rfl|rfl|rfl|rfl|rfl|rfl|rfl|rfl|rfl|rfl|rfl<;>decide
theorem Ho{z:Int}(a:z<16):2 ^ z.toNat<65536:=Nat.pow_lt_pow_right (by omega) (show z.toNat<16 by omega)
theorem Zmf{z:Int}(a:0<=z)(b:z<16):F5 z=Ua ((2 ^ z.toNat:Nat):Int):=by unfold F5;rw[Zr (show¬z<0 by omega),Zr (by omega)];simp only[Zd,Za,ZvL a b]
theorem ZwM{m:Nat}(c:m<65536){z:Int}(b:0<=z)(a:z<16):F3 (m:Int) z=Ua ((m ||| 2 ^ z.toNat:Nat):Int):=by unfold F3;rw[Zmf b a];simp only[Za];rw[Zfj c (Ho a)]
theorem Zmd{z:Int}(c:0<=z)(b:z<16):F0 [z]=Ua ((2 ^ z.toNat:Nat):Int):=by
 unfold F0;rw[Y1 (s' :=(((2 ^ z.toNat:Nat):Int),(1:Int))) ?_,XA (r:=((2 ^ z.toNat:Nat):Int)) ?_]
 ·rfl
 ·simp
 ·have:=Zfj (a:=0) (by omega) (Ho b);simp only[Nat.zero_or]at this
  show (bif Ue ((0:Int)<((1:Nat):Int)) then _ else _)=_
  rw[Zj (by omega)];simp only[Ze];rw[show idx [z] (0:Int)=Ua z from rfl];simp only[Za,Zmf c b];rw[show K5 .u64 (0:Int) ((2 ^ z.toNat:Nat):Int)=((2 ^ z.toNat:Nat):Int) from this];rfl
end Q
namespace Q
open Tr Go
abbrev Zw:=Bool×Int×Int×Int×Int×Int×Int×Int×Bool×Unit
abbrev ZM:=Int×Int×Int×Int×Unit
abbrev Za9:=List Zw×Unit
def KT(n:Zc)(x:Zw):List Wu:=(rn n x.2.1).2.2.2.2.2.2.2.1
def KF(n:Zc)(x:Zw):Bool:=Ke x.2.1 n.2.2.1.length&& (Ue (0<=x.2.2.1) && (Ue (x.2.2.1<x.2.2.2.1) &&Ue (x.2.2.2.1<((KT n x).length:Int))))
theorem ZkP(n:Zc)(x:Zw):F56 n x=Ua (KF n x):=by
 unfold F56 KF;by_cases h:Ke x.2.1 n.2.2.1.length=Uc
 ·have e:idx n.2.2.1 x.2.1=Ua (rn n x.2.1):=W7 h u0;simp only[e,Za,h];unfold Ke at h;simp only[Vk]at h;simp only[h.1,h.2,Ze];unfold KT
  grind
 ·have a:Ke x.2.1 n.2.2.1.length=false:=by grind
  rw[a];unfold Ke at a
  grind
theorem Zhm(n:Zc)(x:Zw):F136 n x=Ua (KF n x):=by
 unfold F136 KF;by_cases h:Ke x.2.1 n.2.2.1.length=Uc
 ·have e:idx n.2.2.1 x.2.1=Ua (rn n x.2.1):=W7 h u0;simp only[e,Za,h];unfold Ke at h;simp only[Vk,KD]at h;rw[Zr (show¬x.2.1<0 by omega),Zr (by omega)];simp only[Zd,Za];unfold KT
  grind
 ·have a:Ke x.2.1 n.2.2.1.length=false:=by grind
  rw[a];unfold Ke at h
  grind
def s0:DH:=([],0,Ud,0,())
def Gt(n:Zc)(a:Int):DH:=(n.1[a.toNat]?).getD s0
def zn(n:Zc)(l:List Wu)(j:Nat):Nat:=2 ^ (Gt n ((l[j]?).getD c0).1).2.1.toNat
def zN(n:Zc)(l:List Wu)(a:Nat):Nat->Nat
 |0=>0
 |k+1=>zN n l a k ||| zn n l (a+k)
theorem ZdH{n:Zc}(h:WJ n){a:Int}(d:0<=a)(e:a<(n.1.length:Int)):idx n.1 a=Ua (Gt n a)/\0<=(Gt n a).2.1/\(Gt n a).2.1<16:=by
 have c:Ke a n.1.length=true:=by unfold Ke;grind
 refine⟨W7 c s0,?_⟩;have b:a.toNat<n.1.length:=by omega
 unfold Gt;rw[Ku b];exact h.zone _ (Vf b)
theorem Zcn{n:Zc}(h:WJ n){l:List Wu}(d:∀c∈l,0<=c.1/\c.1<(n.1.length:Int)){a:Nat} :∀k,a+k<=l.length->zN n l a k<65536
 |0,_=>by unfold zN;omega
 |k+1,i=>by
  have g:=Zcn h d (a:=a) k (by omega);have e:a+k<l.length:=by omega
  have b:=d _ (Vf e);have f:=(ZdH h b.1 b.2).2
  have:zn n l (a+k)<65536:=by unfold zn;rw[Ku e];exact Ho f.2
  exact Via (n:=16) g this
theorem Zow{n:Zc}(h:WJ n){x:Zw}(q:KF n x=Uc):F57 n x=Ua ((zN n (KT n x) x.2.2.1.toNat (x.2.2.2.1.toNat+1 - x.2.2.1.toNat):Nat):Int):=by
 unfold KF at q;simp only[Vk,KD]at q;obtain⟨y,z,r,A⟩:=q;have w:=D5 y;have f:=(h.many _ w).2;have u:∀c∈KT n x,0<=c.1/\c.1<(n.1.length:Int):=h.call _ w;have e:idx n.2.2.1 x.2.1=Ua (rn n x.2.1):=W7 y u0;unfold F57;rw[e];simp only[Za];have d:(rn n x.2.1).2.2.2.2.2.2.2.1=KT n x:=rfl;simp only[d]at f⊢;generalize KT n x=l at*;obtain⟨a,s⟩:∃a:Nat,x.2.2.1=(a:Int):=⟨x.2.2.1.toNat,by omega⟩;obtain⟨b,t⟩:∃b:Nat,x.2.2.2.1=(b:Int):=⟨x.2.2.2.1.toNat,by omega⟩;rw[s]at z r;rw[t]at r A;rw[s,t];have C:Va .i64 ((b:Int)+1)=((b+1:Nat):Int):=by rw[ZH (by omega) (by omega)];omega
 have p:sliceB l.length l.length (Ua (a:Int)) (Ua ((b+1:Nat):Int))=Ua (a,b+1):=by
  unfold sliceB
  grind
 rw[C,p];simp only[Za,Vo]
 have j:(Vna (b+1 - a) (List.drop a l)).length=b+1 - a:=by
  grind
 rw[JG (n:=b+1 - a) (fun i (st:Int×Int)=>st=(((zN n l a i:Nat):Int),(i:Int))) (fun _=>0) (fun _=>((zN n l a (b+1 - a):Nat):Int)) ((zN n l a (b+1 - a):Nat):Int) ?_ ?_ ?_ ((0:Int),(0:Int)) rfl]
 ·unfold pick
  grind
 ·rintro i _ v rfl _;have B:a+i<l.length:=by omega
  have g:=u _ (Vf B);obtain⟨k,m,o⟩:=ZdH h g.1 g.2;refine⟨(((zN n l a (i+1):Nat):Int),((i+1:Nat):Int)),?_,rfl⟩;simp only[j,ZQ v,Ze];rw[ZE (by omega)];simp only[List.getElem_take,List.getElem_drop,Za,k,ZwM (Zcn h u (a:=a) i (by omega)) m o,Kb v (by omega)]
  have:zN n l a (i+1)=zN n l a i ||| 2 ^ (Gt n l[a+i].1).2.1.toNat:=by
   show zN n l a i ||| zn n l (a+i)=_;unfold zn
   grind
  grind
 all_goals grind
theorem Zov{n:Zc}(h:WJ n){x:Zw}(o:KF n x=Uc):F144 n x=Ua ((zN n (KT n x) x.2.2.1.toNat (x.2.2.2.1.toNat+1 - x.2.2.1.toNat):Nat):Int):=by
 unfold KF at o;simp only[Vk,KD]at o;obtain⟨v,w,p,y⟩:=o;have u:=D5 v;have f:=(h.many _ u).2;have s:∀c∈KT n x,0<=c.1/\c.1<(n.1.length:Int):=h.call _ u;have e:idx n.2.2.1 x.2.1=Ua (rn n x.2.1):=W7 v u0;unfold F144;rw[e];simp only[Za];have d:(rn n x.2.1).2.2.2.2.2.2.2.1=KT n x:=rfl;simp only[d]at f⊢;generalize KT n x=l at*;obtain⟨a,q⟩:∃a:Nat,x.2.2.1=(a:Int):=⟨x.2.2.1.toNat,by omega⟩;obtain⟨b,r⟩:∃b:Nat,x.2.2.2.1=(b:Int):=⟨x.2.2.2.1.toNat,by omega⟩;rw[q]at w p;rw[r]at p y;rw[q,r];simp only[Vo];rw[JG (n:=b+1 - a) (fun i (st:Int×Int)=>st=(((zN n l a i:Nat):Int),((a+i:Nat):Int))) (fun _=>0) (fun _=>((zN n l a (b+1 - a):Nat):Int)) ((zN n l a (b+1 - a):Nat):Int) ?_ ?_ ?_ ((0:Int),(a:Int)) rfl]
 ·unfold pick
  grind
 ·rintro i _ A rfl _;have t:a+i<l.length:=by omega
  have g:=s _ (Vf t);obtain⟨k,m,j⟩:=ZdH h g.1 g.2;refine⟨(((zN n l a (i+1):Nat):Int),((a+(i+1):Nat):Int)),?_,rfl⟩;have z:Va .i64 (((a+i:Nat):Int)+1)=((a+(i+1):Nat):Int):=by rw[ZH (by omega) (by omega)];omega
  simp only[Zj (show ((a+i:Nat):Int)<=(b:Int) by omega),Ze,ZE t,Za,k,Rb m j,z];rw[Gn (Zcn h s (a:=a) i (by omega)) (Ho j)]
  have:zN n l a (i+1)=zN n l a i ||| 2 ^ (Gt n l[a+i].1).2.1.toNat:=by
   show zN n l a i ||| zn n l (a+i)=_;unfold zn
   grind
  grind
 all_goals grind
end Q
namespace Q
open Tr Go
theorem Zvv{σ ρ τ:Type}{f:σ->Option (σ ⊕ τ)}{g:ρ->Option (ρ ⊕ τ)}{n:Nat}(P:τ->Prop)(R:Nat->σ->ρ->Prop)
 (a:∀i s t,i<n->R i s t->(∃s' j,f s=Ua (.inl s')/\g t=Ua (.inl j)/\R (i+1) s' j)\/ ∃r,f s=Ua (.inr r)/\g t=Ua (.inr r)/\P r)
 (d:∀s t,R n s t->∃r,f s=Ua (.inr r)/\g t=Ua (.inr r)/\P r) (s:σ) (t:ρ) (o:R 0 s t):∃r,run f s=Ua r/\run g t=Ua r/\P r:=by
 have key:∀(k i:Nat) (s:σ) (t:ρ),n - i=k->i<=n->R i s t->∃r,run f s=Ua r/\run g t=Ua r/\P r:=by
  intro k
  induction k with
  |zero=>
   intro i s t m l h;have:i=n:=by omega
   subst this;obtain⟨r,b,c,e⟩:=d s t h
   exact⟨r,XA b,XA c,e⟩
  |succ k p=>
   intro i s t m l h;rcases a i s t (by omega) h with ⟨s',j,b,c,e⟩|⟨r,b,c,e⟩
   ·rw[Y1 b,Y1 c]
    grind
   ·exact⟨r,XA b,XA c,e⟩
 grind
theorem Zwo{α τ:Type}{o a:Option τ}{F G:τ->Option α}{P:τ->Prop}{Q:α->Prop}(h:∃r,o=Ua r/\a=Ua r/\P r)(k:∀r,P r->∃z,F r=Ua z/\G r=Ua z/\Q z):∃z,Vc o F=Ua z/\Vc a G=Ua z/\Q z:=by
 grind
theorem ZhE{k:Nat}(h:0<k)(a:k<=9223372036854775807):Zs (Va .i64 ((k:Int) - 1)) k=Ua (k - 1):=by
 have e:Va .i64 ((k:Int) - 1)=((k - 1:Nat):Int):=by rw[ZH (by omega) (by omega)];omega
 rw[e,KM (by omega)]
theorem Zca{α:Type}{l:List α}{k:Nat}(h:k<l.length)(w:α):(l.set k w)[k]? =Ua w:=by grind
theorem ZfW{m:Nat}(h:m<65536):Va .i64 (m:Int)=(m:Int):=ZH (by omega) (by omega)
def HW(n:Zc)(x:Zw):Nat:=zN n (KT n x) x.2.2.1.toNat (x.2.2.2.1.toNat+1 - x.2.2.1.toNat)
theorem ZdN{n:Zc}(h:WJ n){x:Zw}(a:KF n x=Uc):HW n x<65536:=by unfold KF at a;simp only[Vk,KD]at a;obtain⟨c,d,e,b⟩:=a;exact Zcn h (h.call _ (D5 c)) _ (by unfold KT at b;omega)
def RX:Hb:=([],0,Ud,())
def HS(n:Zc)(x:Zw):Hb:=(n.2.1[(rn n x.2.1).2.2.2.2.1.toNat]?).getD RX
theorem ZaW{n:Zc}(h:WJ n){x:Zw}(a:KF n x=Uc):idx n.2.2.1 x.2.1=Ua (rn n x.2.1)/\idx n.2.1 (rn n x.2.1).2.2.2.2.1=Ua (HS n x)/\0<=(HS n x).2.1/\(HS n x).2.1<16:=by
 unfold KF at a;simp only[Vk]at a;have d:=D5 a.1;have e:=h.route _ d;have c:Ke (rn n x.2.1).2.2.2.2.1 n.2.1.length=true:=by unfold Ke;grind
 refine⟨W7 a.1 u0,W7 c RX,?_⟩;have b:(rn n x.2.1).2.2.2.2.1.toNat<n.2.1.length:=by omega
 unfold HS;rw[Ku b];have:=h.mode _ (Vf b);omega
def Xv(n:Zc)(x:Zw):ZM:=(x.2.2.2.2.2.2.1,x.2.2.2.2.2.2.2.1,((HW n x:Nat):Int),((2 ^ (HS n x).2.1.toNat:Nat):Int),())
def Yo(n:Zc)(x:Zw)(l:List ZM)(v:ZM):List ZM:=
 l.set (l.length - 1) (v.1,x.2.2.2.2.2.2.2.1,K5 .i64 v.2.2.1 ((HW n x:Nat):Int),K5 .i64 v.2.2.2.1 ((2 ^ (HS n x).2.1.toNat:Nat):Int),())
theorem Zm1{n:Zc}(h:WJ n){x:Zw}(a:KF n x=Uc)(g:x.2.2.2.2.2.2.2.2.1=Ud){l:List ZM}(i:l.length<=100):F54 x n l=Ua (l++[Xv n x]):=by obtain⟨c,d,e,b⟩:=ZaW h a;unfold F54;rw[Zow h a];simp only[Za,c,d,Zmd e b,g,Vl,Ze];rw[show Va .i64 ((zN n (KT n x) x.2.2.1.toNat (x.2.2.2.1.toNat+1 - x.2.2.1.toNat):Nat):Int)=((HW n x:Nat):Int) from ZfW (ZdN h a),ZfW (Ho b)];have f:(Ue (l.length+ [Xv n x].length<=ZD))=true:=Zj (by simp [ZD];omega);show (Zz (Ue (l.length+ [Xv n x].length<=ZD))).bind (fun _=>Ua (l++[Xv n x]))=_;rw[f];rfl
theorem Zm2{n:Zc}(h:WJ n){x:Zw}(a:KF n x=Uc)(i:x.2.2.2.2.2.2.2.2.1=Uc){l:List ZM}(k:l.length<=100){v:ZM}(g:0<l.length)(j:l[l.length - 1]? =Ua v):F54 x n l=Ua (Yo n x l v):=by
 obtain⟨d,e,f,b⟩:=ZaW h a;unfold F54;rw[Zow h a];simp only[Za,d,e,Zmd f b,i,Vb,Zd];rw[show Va .i64 ((zN n (KT n x) x.2.2.1.toNat (x.2.2.2.1.toNat+1 - x.2.2.1.toNat):Nat):Int)=((HW n x:Nat):Int) from ZfW (ZdN h a),ZfW (Ho b)];have c:l.length - 1<l.length:=by omega
 simp only[ZhE g (by omega),Za];erw[j];simp only[Za,Vkb];erw[Zca c];simp only[Za];erw[Zca c];rfl
theorem Zva(n:Zc)(j:Za9)(I:Yh n)(O:j.1.length<=40):∃r:List ZM×Int,F53 n j=Ua r/\F138 n j=Ua r/\r.1.length<=40:=by
 obtain⟨c,k,m,o⟩:=Zj6 n I;unfold F53 F138 F124;rw[k,m];simp only[Za];by_cases F:c.2.2=0
 case neg=>
  simp_all
 have h:=o F;rw[Zj F];simp only[Vb,Zd]
 refine Zwo (Zvv (n:=j.1.length) (τ:=List ZM ⊕ (List ZM×Int)) (fun r=>Vka (fun l:List ZM=>l.length<=40) (fun y=>y.1.length<=40) r)
  (fun i (s:List ZM×Bool×Int) (t:List ZM×Int)=>∃l w,s=(l,w,(i:Int))/\t=(l,(i:Int))/\l.length<=i/\(w=Uc->0<l.length)/\w=(if i=0 then Ud else((j.1[i - 1]?).getD (Ud,0,0,0,0,0,0,0,Ud,())).1))
  ?_ ?_ _ _ ⟨[],Ud,rfl,rfl,by simp,by simp,rfl⟩) ?_
 rotate_left 2
 ·intro r N;refine⟨Vka (fun l=>(l,(0:Int))) id r,?_,?_,?_⟩
  all_goals grind
 ·rintro i _ _ p ⟨l,w,rfl,rfl,K,L,f⟩;have q:j.1.length<=9223372036854775807:=by omega
  simp only[ZQ p,Ze,ZE p,Za,Kb p q]
  have u:∀b:Bool,b=(j.1[i]).1->b=(if i+1=0 then Ud else((j.1[i+1 - 1]?).getD (Ud,0,0,0,0,0,0,0,Ud,())).1):=by
   grind
  have d:0<i->idx j.1 (Va .i64 ((i:Int) - 1))=Ua ((j.1[i - 1]?).getD (Ud,0,0,0,0,0,0,0,Ud,())):=by
   intro E;have e:Va .i64 ((i:Int) - 1)=((i - 1:Nat):Int):=by rw[ZH (by omega) (by omega)];omega
   rw[e,ZE (by omega),Ku (by omega)]
  generalize j.1[i]=x at*
  cases M:x.1 with
  |false=>
   simp only[Zd,Za,Vl,Ze]
   cases z:x.2.2.2.2.2.2.2.2.1 with
   |true=>simp
   |false=>exact .inl ⟨(l,Ud,((i+1:Nat):Int)),(l,((i+1:Nat):Int)),rfl,rfl,l,Ud,rfl,rfl,by omega,by simp,by grind⟩
  |true=>
   simp only[Ze,Za,Vb,Zd,ZkP,Zhm]
   cases g:KF n x with
   |false=>simp
   |true=>
    obtain⟨A,B,C,D⟩:=ZaW h g;simp only[Vb,Zd]
    cases z:x.2.2.2.2.2.2.2.2.1 with
    |false=>
     simp only[Zd,Za,Zm1 h g z (show l.length<=100 by omega),A,B,Rb C D,Zov h g];refine .inl ⟨(l++[Xv n x],Uc,((i+1:Nat):Int)),(l++[Xv n x],((i+1:Nat):Int)),rfl,?_,l++[Xv n x],Uc,rfl,rfl,by grind,by simp,by grind⟩;have J:(Ue (l.length+ [Xv n x].length<=ZD))=true:=Zj (by simp [ZD];omega);show (Zz (Ue (l.length+ [Xv n x].length<=ZD))).bind (fun _=>Ua (Sum.inl (l++[Xv n x],((i+1:Nat):Int))))=_;rw[J]
     rfl
    |true=>
     simp only[Ze]
     cases w with
     |false=>
      refine .inr ⟨.inr ([],19),rfl,?_,by simp⟩
      grind
     |true=>
      have E:i≠0:=by grind
      rw[Zg E]at f;have a:=L rfl;have G:l.length - 1<l.length:=by omega
      obtain⟨v,H⟩:∃v,l[l.length - 1]? =Ua v:=by simp_all
      refine .inl ⟨(Yo n x l v,Uc,((i+1:Nat):Int)),(Yo n x l v,((i+1:Nat):Int)),?_,?_,Yo n x l v,Uc,rfl,rfl,by unfold Yo;grind,fun _=>by unfold Yo;grind,by grind⟩
      ·simp only[Vb,Za,Zd,Zm2 h g z (by omega) a H]
      ·rw[Zr (by omega)];simp only[Zd,d (by omega),Za, <-f,Vb,A,B,Rb C D,Zov h g,ZhE a (by omega),Vv];erw[H];simp only[Za,Vkb];erw[Zca G];simp only[Za];erw[Zca G];rfl
 ·rintro _ _ ⟨l,w,rfl,rfl,K,_⟩
  grind
end Q
namespace Q
open Tr Go
abbrev K0(x:Zw):Bool:=x.2.2.2.2.2.2.2.2.1
def X5(n:Zc)(x:Zw)(out:List ZM):List ZM:=match out[out.length - 1]? with
 |some v=>Yo n x out v
 |none=>out
def K6(n:Zc):List Zw->Bool->List ZM->List ZM×Int
 |[],_,out=>(out,0)
 |x::l,rode,out=>
  if x.1=Uc/\KF n x=Ud then([],9)
  else if K0 x=Uc/\(x.1=Ud\/rode=Ud) then([],19)
  else if x.1=Uc then K6 n l Uc (if K0 x=Uc then X5 n x out else out++[Xv n x])
  else K6 n l Ud out
theorem Gs(n:Zc)(x:Zw)(l:List Zw)(rode:Bool)(out:List ZM):K6 n (x::l) rode out=if x.1=Uc/\KF n x=Ud then([],9)
 else if K0 x=Uc/\(x.1=Ud\/rode=Ud) then([],19)
 else if x.1=Uc then K6 n l Uc (if K0 x=Uc then X5 n x out else out++[Xv n x])
 else K6 n l Ud out:=rfl
theorem Zd8(n:Zc)(x:Zw)(out:List ZM):(X5 n x out).length=out.length:=by
 unfold X5;split
 ·unfold Yo;simp
 ·rfl
theorem Zfq(n:Zc)(j:Za9)(A:Yh n)(D:j.1.length<=90):(F53 n j=Ua ([],21)/\F124 n=Ua Ud)\/(WJ n/\F124 n=Ua Uc/\F53 n j=Ua (K6 n j.1 Ud [])):=by
 obtain⟨c,k,m,o⟩:=Zj6 n A;unfold F53 F124;rw[k,m];simp only[Za];by_cases u:c.2.2=0
 case neg=>
  grind
 have h:=o u;rw[Zj u];simp only[Vb,Zd];refine .inr ⟨h,by simp,?_⟩;refine K4 (fun r=>K6 n j.1 Ud []=Vka (fun l:List ZM=>(l,(0:Int))) (fun y=>y) r) ?_ ?_
 ·refine KC j.1.length _ (fun i (s:List ZM×Bool×Int)=>∃l w,s=(l,w,(i:Int))/\l.length<=i/\(w=Uc->0<l.length)/\K6 n j.1 Ud []=K6 n (j.1.drop i) w l) ?_ ?_ _ ⟨[],Ud,rfl,by simp,by simp,rfl⟩
  ·rintro i _ g ⟨l,w,rfl,B,z,a⟩;have p:j.1.length<=9223372036854775807:=by omega
   rw[Vfa g]at a;simp only[ZQ g,Ze,ZE g,Za,Kb g p];generalize j.1[i]=x at*;rw[Gs]at a
   cases f:x.1 with
   |false=>
    rw[f]at a;simp only[Zd,Za,Vl,Ze]
    cases e:K0 x with
    |true=>
     simp_all
    |false=>
     grind
   |true=>
    rw[f]at a;simp only[Ze,Za,Vb,Zd,ZkP]
    cases q:KF n x with
    |false=>
     simp_all
    |true=>
     rw[q]at a;simp only[Vb,Zd]
     cases e:K0 x with
     |false=>
      left;rw[e]at a;have b:=e;unfold K0 at b;rw[b];simp only[Zd,Za,Zm1 h q b (show l.length<=100 by omega)]
      grind
     |true=>
      rw[e]at a;have b:=e;unfold K0 at b;rw[b];simp only[Ze]
      cases w with
      |false=>
       simp_all
      |true=>
       left;have d:=z rfl;obtain⟨v,C⟩:∃v,l[l.length - 1]? =Ua v:=⟨_,Vd (by omega)⟩;simp only[Vb,Za,Zd,Zm2 h q b (by omega) d C];have t:X5 n x l=Yo n x l v:=by unfold X5;grind
       refine⟨_,rfl,Yo n x l v,Uc,rfl,by rw[<-t,Zd8];omega,fun _=>by rw[<-t,Zd8];omega,?_⟩
       grind
  ·rintro _ ⟨l,w,rfl,B,z,a⟩;simp only[XQ,Zd];refine⟨_,rfl,?_⟩;rw[a,List.drop_length];rfl
 grind
end Q
namespace Dv
abbrev Tk:=Int×Int×Int×Int×Unit
structure Yi where
 n:Nat
 np:Nat
 cov:Nat->Nat->Nat->Bool
 pr:Nat->Nat->Int
abbrev KA:=Option (Int×List Tk)
def ZcH(cur:KA)(s:Int)(c:Nat):Bool:=match cur with
 |none=>Uc
 |some (cs,a)=>Ue (s<cs) || (Ue (s=cs) &&Ue (c<a.length))
def DN(L:Yi)(nx:KA)(i k p:Nat)(cur:KA):KA:=match nx with
 |none=>cur
 |some (s,t)=>if L.cov p i k=Uc then(if ZcH cur (L.pr p i+s) (1+t.length)=Uc then Ua (L.pr p i+s,((p:Int),(i:Int),(k:Int),L.pr p i,())::t) else cur) else cur
def Dr(L:Yi)(nx:KA)(i k:Nat)(cur:KA):Nat->KA
 |0=>cur
 |m+1=>DN L nx i k m (Dr L nx i k cur m)
def rowK(L:Yi)(B:Nat->KA)(i:Nat):Nat->KA
 |0=>Ub
 |m+1=>Dr L (B (i+m+1)) i (i+m) (rowK L B i m) L.np
def Kl(L:Yi):Nat->Nat->KA
 |0,j=>if j=L.n then Ua (0,[]) else Ub
 |d+1,j=>if j=L.n - (d+1) then rowK L (Kl L d) j (L.n - j) else Kl L d j
def Za7(B:Nat->KA)(n i:Nat)(c:KA):Prop:= ∀s t,c=Ua (s,t)->∃p k q b a,t=((p:Int),(i:Int),((k:Nat):Int),(q:Int),())::a/\i<=k/\k<n/\B (k+1)=Ua (b,a)
theorem Zqt{L:Yi}{B:Nat->KA}{n i k p:Nat}{cur:KA}(a:i<=k)(c:k<n)(h:Za7 B n i cur):Za7 B n i (DN L (B (k+1)) i k p cur):=by
 unfold DN
 cases d:B (k+1) with
 |none=>exact h
 |some x=>
  obtain⟨s,t⟩:=x;simp only;split
  ·split
   ·intro e f b
    grind
   omega
  omega
theorem Znb{L:Yi}{B:Nat->KA}{n i k:Nat}{cur:KA}(a:i<=k)(b:k<n)(h:Za7 B n i cur):∀m,Za7 B n i (Dr L (B (k+1)) i k cur m)
 |0=>h
 |m+1=>Zqt a b (Znb a b h m)
theorem Zna{L:Yi}{B:Nat->KA}{n i:Nat} :∀m,i+m<=n->Za7 B n i (rowK L B i m)
 |0,_=>fun s t h=>by simp [rowK]at h
 |m+1,h=>Znb (by omega) (by omega) (Zna m (by omega)) L.np
theorem ZiH(L:Yi):∀d e j,L.n - d<=j->d<=e->e<=L.n->Kl L e j=Kl L d j
 |d,e,j,a,b,c=>by
  induction e with
  |zero=>grind
  |succ e g=>
   by_cases f:d=e+1
   ·grind
   ·rw[Kl,if_neg (by omega)]
    grind
theorem Zwf(L:Yi){j:Nat}(r:j<L.n):Za7 (Kl L L.n) L.n j (Kl L L.n j):=by
 have b:Kl L L.n j=rowK L (Kl L (L.n - j - 1)) j (L.n - j):=by rw[ZiH L (L.n - j) L.n j (by omega) (by omega) (Vw _)];obtain⟨d,a⟩:∃d,L.n - j=d+1:=⟨L.n - j - 1,by omega⟩;rw[show L.n - j - 1=d by omega,a,Kl,if_pos (by omega),a]
 have h:=Zna (L:=L) (B:=Kl L (L.n - j - 1)) (n:=L.n) (i:=j) (L.n - j) (by omega);rw[b];intro s t g;obtain⟨p,k,q,l,m,c,e,f,o⟩:=h s t g;exact⟨p,k,q,l,m,c,e,f,by rw[ZiH L (L.n - j - 1) L.n (k+1) (by omega) (by omega) (Vw _)];omega⟩
end Dv
namespace Q
open Tr Go Dv
abbrev Yk:=Bool×Int×Int×Tk×Unit
theorem ZmO(a b:Int):0<=K5 .u64 a b/\K5 .u64 a b<18446744073709551616:=by
 have c:∀x:Int,0<=Va .u64 x/\Va .u64 x<18446744073709551616:=fun x=>by simp [Va,Vca,Vz];omega
 unfold K5
 grind
theorem Zti(a b d:Int):∃z:Bool,F85 a b d=Ua z:=by
 unfold F85;by_cases h:a<=b
 ·rw[Zj h];by_cases c:d<0
  all_goals simp [*]
 ·rw[Zr h];by_cases c:d<0
  all_goals simp [*]
theorem Zry(p:JV)(s:List ZM)(v:s.length<=100):∃z:Bool,F83 p s=Ua z/\(s=[]->z=Ud):=by
 unfold F83;by_cases d:s=[]
 ·simp_all
 ·have h:0<s.length:=Vsa.2 d;rw[Zr (by omega)];have el:Va .i64 ((s.length:Int) - 1)=((s.length - 1:Nat):Int):=by rw[ZH (by omega) (by omega)];omega
  have m:idx s (0:Int)=Ua s[0]:=ZE (i:=0) h;obtain⟨lt,b⟩:=Zti (s[0]).1 (s[s.length - 1]).1 p.2.2.2.2.1;simp only[Zd,el,ZE (show s.length - 1<s.length by omega),m,Za,b]
  have e:∃c:Bool,(bif Ue (p.2.2.1<(s.length:Int)) then Ua Uc else Ua lt)=Ua c:=by
   grind
  obtain⟨c,f⟩:=e;rw[f];simp only[Za]
  cases c with
  |true=>simp
  |false=>
   simp only[Zd]
   have key:∀(o:Option (Int×Int)) (k:Int×Int->Option Bool),(∃r,o=Ua r/\(0<=r.1/\r.1<18446744073709551616))->(∀r:Int×Int,0<=r.1->r.1<18446744073709551616->∃z,k r=Ua z)->∃z:Bool,Vc o k=Ua z/\(s=[]->z=Ud):=by
    simp_all
   refine key _ _ ?_ ?_
   ·refine KC s.length _ (fun i (t:Int×Int×Int)=>∃x y,t=(x,y,(i:Int))/\0<=x/\x<18446744073709551616) ?_ ?_ _ ⟨0,0,rfl,by omega,by omega⟩
    ·rintro i _ a ⟨x,y,rfl,j,l⟩;left;simp only[ZQ a,Ze,ZE a,Za,Kb a (by omega),F84,F2];exact⟨_,rfl,_,_,rfl,(ZmO _ _).1,(ZmO _ _).2⟩
    simp_all
   ·intro r q u
    have g:F1 r.1=Ua ((Jw 64 r.1.toNat:Nat):Int):=by
     show lenF r.1=_;unfold lenF
     grind
    simp only[g,Za,F4]
    grind
noncomputable def covB(p:JV)(s:List ZM):Bool:=(F83 p s).getD Ud
theorem ZrA(p:JV)(s:List ZM)(a:s.length<=100):F83 p s=Ua (covB p s):=by
 obtain⟨z,h,_⟩:=Zry p s a;unfold covB
 grind
def Rk(a b d:Int):Bool:=bif Ue (b<=a) then Uc else Ue (Va .u64 (Va .u64 b - Va .u64 a)<=Va .u64 d)
theorem ZwQ(a b d:Int):F18 a b d=Ua (Rk a b d):=by
 unfold F18 Rk
 grind
def rd0:ZM:=(0,0,0,0,())
def Do(F:Z4)(p:JV)(l:List ZM)(i:Nat):Int:=
 if 0<i/\Rk ((l[i - 1]?).getD rd0).2.1 ((l[i]?).getD rd0).1 F.2.2.1=Uc then(if 0<p.2.1 - F.2.1 then p.2.1 - F.2.1 else 0) else p.2.1
theorem Zuy(F:Z4)(p:JV)(l:List ZM)(i:Nat)(b:i<l.length)(g:l.length<=100)(e:0<=p.2.1/\p.2.1<=1000000)(f:0<=F.2.1/\F.2.1<=1000000):F16 F p l (i:Int)=Ua (Do F p l i):=by
 unfold F16 Do;have c:Va .i64 (p.2.1 - F.2.1)=p.2.1 - F.2.1:=ZH (by omega) (by omega)
 have em:Tr.imax 0 (p.2.1 - F.2.1)=if 0<p.2.1 - F.2.1 then p.2.1 - F.2.1 else 0:=rfl
 by_cases d:0<i
 ·have a:Va .i64 ((i:Int) - 1)=((i - 1:Nat):Int):=by rw[ZH (by omega) (by omega)];omega
  rw[Zj (by omega)];simp only[Ze,a,ZE (show i - 1<l.length by omega),ZE b,Za,ZwQ]
  grind
 grind
structure ZdT (F:Z4):Prop where
 disc:0<=F.2.1/\F.2.1<=1000000
 cap:0<=F.2.2.2.1
 price:∀p∈F.1,0<=p.2.1/\p.2.1<=1000000
 many:F.1.length<=16
theorem ZeM{F:Z4}(h:(J3 F).2=0):ZdT F:=by
 unfold J3 at h;by_cases a:Gf F=Ud
 ·grind
 rw[Zg a]at h;by_cases c:16<F.1.length
 ·grind
 rw[Zg c]at h;have g:=Zb1 h;have a:Gf F=true:=by grind
 unfold Gf at a;simp only[Vk,KD]at a;refine⟨a.1,a.2.2.1,fun p f=>?_,by omega⟩;obtain⟨i,e,rfl⟩:=Vh f;have b:=g i e;unfold HQ at b;rw[Ku e]at b;obtain⟨_,_,d⟩:=De.1 b;have d:YW F.1[i]=true:=by grind
 unfold YW at d
 grind
noncomputable def ZV(F:Z4)(l:List ZM):Yi where
 n:=l.length
 np:=F.1.length
 cov:=fun p i k=>covB ((F.1[p]?).getD p0) ((l.drop i).take (k+1 - i))
 pr:=fun p i=>Do F ((F.1[p]?).getD p0) l i
theorem Zds{F:Z4}(hF:ZdT F){l:List ZM}{p i:Nat}(a:p<(ZV F l).np):0<=(ZV F l).pr p i/\(ZV F l).pr p i<=1000000:=by have h:=hF.price _ (Vf (show p<F.1.length from a));have b:=hF.disc;show 0<=Do F ((F.1[p]?).getD p0) l i/\Do F ((F.1[p]?).getD p0) l i<=1000000;rw[Ku (by grind)];unfold Do;omega
def Bd(n:Nat)(f:Nat->KA):Prop:= ∀j s t,j<=n->f j=Ua (s,t)->0<=s/\s<=1000000* ((n:Int) - (j:Int))/\t.length<=n - j
def G2(c:KA)(r:Yk):Prop:=match c with
 |none=>r.1=Ud
 |some (s,t)=>r.1=Uc/\r.2.1=s/\r.2.2.1=(t.length:Int)/\ ∀x a,t=x::a->r.2.2.2.1=x
def X0(f:Nat->KA)(T:List Yk):Prop:=T.length=9/\ ∀j,j<=8->∃r,T[j]? =Ua r/\G2 (f j) r
theorem X0.congr{f g:Nat->KA}{T:List Yk}(h:X0 f T)(e:∀j,j<=8->g j=f j):X0 g T:=
 ⟨h.1,fun j a=>by rw[e j a];exact h.2 j a⟩
def Jx(f:Nat->KA)(i:Nat)(c:KA):Nat->KA:=fun j=>if j=i then c else f j
theorem X0.set{f:Nat->KA}{T:List Yk}(h:X0 f T){i:Nat}(d:i<=8){c:KA}{r:Yk}(e:G2 c r):X0 (Jx f i c) (T.set i r):=by
 refine⟨by rw[Vv];exact h.1,fun j b=>?_⟩;unfold Jx;by_cases a:j=i
 ·subst a;rw[Zv rfl,Vma (by rw[h.1];omega)]
  grind
 ·rw[Zg a,Vba (Ne.symm a)];exact h.2 j b
theorem G2.ok{s:Int}{t:List Tk}{r:Yk}(h:G2 (Ua (s,t)) r):r.1=Uc/\r.2.1=s/\r.2.2.1=(t.length:Int)/\ ∀x a,t=x::a->r.2.2.2.1=x:=h
theorem Zqe{cur:KA}{r:Yk}(h:G2 cur r)(s:Int)(c:Nat):F15 r s (c:Int)=Ua (ZcH cur s c):=by
 cases cur with
 |none=>
  unfold F15
  rw[show r.1=Ud from h];rfl
 |some x=>
  obtain⟨cs,a⟩:=x;obtain⟨b,d,f,_⟩:=G2.ok h;unfold F15;rw[b,d,f];have e:Ue ((c:Int)<(a.length:Int))=Ue (c<a.length):=by simp
  rw[e];show _=Ua (Ue (s<cs) || (Ue (s=cs) &&Ue (c<a.length)))
  grind
theorem Zwn{F:Z4}(hF:ZdT F){l:List ZM}(P:l.length<=8){f:Nat->KA}{T:List Yk}(b:X0 f T)(A:Bd l.length f){i k p:Nat}(C:i<=k)(O:k<l.length)(x:p<F.1.length){s:Int}{t:List Tk}(m:f (k+1)=Ua (s,t)):
 ∃v,F14 (i:Int) (k:Int) (p:Int) F l T=Ua v/\X0 (Jx f i (DN (ZV F l) (f (k+1)) i k p (f i))) v:=by
 unfold F14;have a:=hF.price _ (Vf x);obtain⟨J,K,L⟩:=A (k+1) s t (by omega) m;have z:Va .i64 ((k:Int)+1)=((k+1:Nat):Int):=by rw[ZH (by omega) (by omega)];omega
 have G:sliceB l.length l.length (Ua (i:Int)) (Ua ((k+1:Nat):Int))=Ua (i,k+1):=by
  unfold sliceB
  grind
 have u:((l.drop i).take (k+1 - i)).length<=100:=by grind
 obtain⟨R,r,c⟩:=b.2 (k+1) (by omega);obtain⟨Q,q,e⟩:=b.2 i (by omega);rw[m]at c;obtain⟨M,y,c3,N⟩:=G2.ok c;have d:Zs ((k+1:Nat):Int) 9=Ua (k+1):=KM (by omega);have h:Zs (i:Int) 9=Ua i:=KM (by omega)
 have o:F16 F F.1[p] l (i:Int)=Ua ((ZV F l).pr p i):=by
  rw[Zuy F F.1[p] l i (by omega) (by omega) a hF.disc];show _=Ua (Do F ((F.1[p]?).getD p0) l i)
  grind
 have E:=Zds hF (l:=l) (i:=i) (by assumption)
 have g:covB F.1[p] ((l.drop i).take (k+1 - i))=(ZV F l).cov p i k:=by
  show _=covB ((F.1[p]?).getD p0) ((l.drop i).take (k+1 - i))
  grind
 have H:Va .i64 ((ZV F l).pr p i+s)=(ZV F l).pr p i+s:=ZH (by omega) (by omega);have I:Va .i64 ((t.length:Int)+1)=((1+t.length:Nat):Int):=by rw[ZH (by omega) (by omega)];omega
 simp only[ZE x,Za,z,G,ZrA F.1[p] _ u,g,o,d,h,r,q,y,c3,H,I];rw[m];unfold DN;simp only
 cases w:(ZV F l).cov p i k with
 |false=>
  refine⟨T,rfl,b.congr fun j D=>?_⟩;unfold Jx
  grind
 |true=>
  simp only[Vb,Zd,Zqe e,Za,if_true]
  cases B:ZcH (f i) ((ZV F l).pr p i+s) (1+t.length) with
  |false=>
   refine⟨T,rfl,b.congr fun j D=>?_⟩;unfold Jx
   grind
  |true=>
   refine⟨_,rfl,b.set (by omega) ⟨rfl,rfl,?_,by simp⟩⟩
   all_goals grind
end Q
namespace Q
open Tr Go Dv
def Dy(n i:Nat)(c:KA):Prop:= ∀s t,c=Ua (s,t)->0<=s/\s<=1000000* ((n:Int) - (i:Int))/\t.length<=n - i
theorem Zqs{L:Yi}{n i k p:Nat}{nx cur:KA}(c:0<=L.pr p i/\L.pr p i<=1000000)(a:i<=k)(j:k<n)(b:Dy n (k+1) nx)(h:Dy n i cur):Dy n i (DN L nx i k p cur):=by
 unfold DN
 cases nx with
 |none=>omega
 |some x=>
  obtain⟨s,t⟩:=x;obtain⟨d,f,g⟩:=b s t rfl;simp only;split
  ·split
   ·intro l m e
    grind
   omega
  omega
theorem Zfv{L:Yi}{n i k:Nat}{nx cur:KA}(b:∀p,p<L.np->0<=L.pr p i/\L.pr p i<=1000000)(a:i<=k)(d:k<n)(e:Dy n (k+1) nx)(c:Dy n i cur):∀m,m<=L.np->Dy n i (Dr L nx i k cur m)
 |0,_=>c
 |m+1,h=>Zqs (by grind) a d e (Zfv b a d e c m (by omega))
theorem Zft{L:Yi}{n i:Nat}{B:Nat->KA}(a:∀p,p<L.np->0<=L.pr p i/\L.pr p i<=1000000)(b:∀j,Dy n j (B j)):∀m,i+m<=n->Dy n i (rowK L B i m)
 |0,_=>fun s t h=>by simp [Dv.rowK]at h
 |m+1,h=>Zfv a (by omega) (by omega) (by grind) (Zft a b m (by omega)) L.np (Vw _)
theorem ZdI{L:Yi}(a:∀p i,p<L.np->0<=L.pr p i/\L.pr p i<=1000000):∀d,d<=L.n->∀j,Dy L.n j (Kl L d j)
 |0,_,j=>by
  intro s t h;rw[Kl]at h
  grind
 |d+1,b,j=>by
  rw[Kl];split
  ·next c=>exact Zft (by grind) (ZdI a d (by omega)) _ (by omega)
  ·exact ZdI a d (by omega) j
theorem ZiG(L:Yi):∀d,d<=L.n->∀j,j<L.n - d->Kl L d j=Ub
 |0,_,j,h=>by rw[Kl,Zg (by omega)]
 |d+1,a,j,h=>by rw[Kl,Zg (by omega)];exact ZiG L d (by omega) j (by omega)
theorem Zn3(f:Nat->KA)(i:Nat)(c c' :KA):Jx (Jx f i c) i c' =Jx f i c' :=by
 funext j;unfold Jx
 grind
theorem R2(f:Nat->KA)(i:Nat)(c:KA):Jx f i c i=c:=Zv rfl
theorem Gx(f:Nat->KA){i j:Nat}(c:KA)(h:j≠i):Jx f i c j=f j:=Zg h
def rz:Yk:=(Ud,0,0,(0,0,0,0,()),())
theorem ZrL{F:Z4}(hF:ZdT F){l:List ZM}(P:l.length<=8):∃T,F13 F l=Ua T/\X0 (Kl (ZV F l) l.length) T:=by
 have D:∀p i,p<(ZV F l).np->0<=(ZV F l).pr p i/\(ZV F l).pr p i<=1000000:=fun p i u=>Zds hF u;have y:(ZV F l).n=l.length:=rfl;unfold F13;have V:(Tr.zeroEl JB:List Yk)=Vg 9 rz:=rfl;have B:Zs (l.length:Int) 9=Ua l.length:=KM (by omega);have E:(Tr.zeroEl JB:List Yk)[l.length]? =Ua rz:=by grind
 rw[B];simp only[Za];erw[E];simp only[Za]
 have key:∀o:Option (List Yk),(∃T,o=Ua T/\X0 (Kl (ZV F l) l.length) T)->∃T,(Vc o fun G=>Ua G)=Ua T/\X0 (Kl (ZV F l) l.length) T:=by simp
 refine key _ (KC l.length _ (fun c (s:List Yk×Int)=>∃T,s=(T,(l.length:Int) - 1 - (c:Int))/\X0 (Kl (ZV F l) c) T) ?_ ?_ _ ?_)
 ·rintro c _ S ⟨T,rfl,b⟩;left;obtain⟨i,M⟩:∃i:Nat,(l.length:Int) - 1 - (c:Int)=(i:Int):=by grind
  have O:i<l.length:=by omega
  have N:i=l.length - (c+1):=by omega
  rw[M];rw[Zj (by omega)];simp only[Ze];refine RB (fun g=>X0 (Kl (ZV F l) (c+1)) g) ?_ ?_
  ·refine KC (l.length - i) _ (fun m (s:List Yk×Int)=>∃T,s=(T,((i+m:Nat):Int))/\X0 (Jx (Kl (ZV F l) c) i (rowK (ZV F l) (Kl (ZV F l) c) i m)) T) ?_ ?_ _ ⟨T,rfl,b.congr fun j C=>?_⟩
   ·rintro m _ U ⟨T,rfl,b⟩;left;have I:i+m<l.length:=by omega
    simp only[ZQ I,Ze];refine RB (fun g=>X0 (Jx (Kl (ZV F l) c) i (rowK (ZV F l) (Kl (ZV F l) c) i (m+1))) g) ?_ ?_
    ·refine KC F.1.length _ (fun p (s:List Yk×Int)=>∃T,s=(T,(p:Int))/\X0 (Jx (Kl (ZV F l) c) i (Dr (ZV F l) (Kl (ZV F l) c (i+m+1)) i (i+m) (rowK (ZV F l) (Kl (ZV F l) c) i m) p)) T) ?_ ?_ _ ⟨T,rfl,b⟩
     ·rintro p _ u ⟨T,rfl,b⟩;left;have v:Va .i64 (((i+m:Nat):Int)+1)=((i+m+1:Nat):Int):=by rw[ZH (by omega) (by omega)];omega
      have A:Zs ((i+m+1:Nat):Int) 9=Ua (i+m+1):=KM (by omega);obtain⟨r,Q,d⟩:=b.2 (i+m+1) (by omega);rw[Gx _ _ (by omega)]at d;simp only[ZQ u,Ze,v,A,Q,Za,Kb u (show F.1.length<=9223372036854775807 by have:=hF.many;omega)]
      cases f:Kl (ZV F l) c (i+m+1) with
      |none=>
       rw[f]at d;rw[show r.1=Ud from d];refine⟨_,rfl,T,rfl,?_⟩;rw[f]at b
       assumption
      |some x=>
       obtain⟨s,t⟩:=x;rw[f]at d;obtain⟨R,_⟩:=G2.ok d;rw[R];simp only[Ze]
       have w:Bd l.length (Jx (Kl (ZV F l) c) i (Dr (ZV F l) (Kl (ZV F l) c (i+m+1)) i (i+m) (rowK (ZV F l) (Kl (ZV F l) c) i m) p)):=by
        intro j J K C e;have h:=ZdI D c (by omega);by_cases a:j=i
        ·subst a;rw[R2]at e;exact Zfv (n:=l.length) (by grind) (by omega) (by omega) (h _) (Zft (by grind) h m (by omega)) p (show p<=F.1.length by omega) J K e
        ·rw[Gx _ _ a]at e;exact h j J K e
       obtain⟨g,L,H⟩:=Zwn hF P b w (i:=i) (k:=i+m) (p:=p) (by omega) I u (s:=s) (t:=t) (by rw[Gx _ _ (by omega)];omega);rw[L];refine⟨_,rfl,g,rfl,?_⟩;rw[Zn3,R2,Gx _ _ (by omega)]at H;rw[f]at H
       assumption
     ·rintro _ ⟨T,rfl,b⟩;simp only[XQ,Zd];exact⟨_,rfl,b⟩
    ·intro g z;have v:Va .i64 (((i+m:Nat):Int)+1)=((i+(m+1):Nat):Int):=by rw[ZH (by omega) (by omega)];omega
     grind
   ·rintro _ ⟨T,rfl,b⟩;rw[show i+(l.length - i)=l.length by omega];simp only[XQ,Zd];refine⟨_,rfl,b.congr fun j C=>?_⟩;rw[Kl];by_cases a:j=i
    ·subst a;rw[Zv (by omega),R2];rfl
    ·rw[Zg (by omega),Gx _ _ a]
   ·by_cases a:j=i
    ·subst a;rw[R2,ZiG (ZV F l) c (by omega) j (by omega)];rfl
    ·rw[Gx _ _ a]
  ·intro g z;have v:Va .i64 ((i:Int) - 1)=(l.length:Int) - 1 - ((c+1:Nat):Int):=by rw[ZH (by omega) (by omega)];omega
   grind
 ·grind
 ·refine⟨(Vg 9 rz).set l.length (Uc,rz.2),?_,by simp,fun j C=>?_⟩
  ·rw[ZH (by omega) (by omega)]
   grind
  ·rw[Kl];by_cases q:j=l.length
   ·subst q;rw[Zv y.symm,Vma (by grind)];exact⟨_,rfl,rfl,rfl,rfl,by simp⟩
   ·rw[Zg (by omega),Vba (Ne.symm q),List.getElem?_replicate,Zv (by omega)];exact⟨_,rfl,rfl⟩
def ZcP(F:Z4)(s:Int):Int:=if 0<F.2.2.2.1/\F.2.2.2.1<s then F.2.2.2.1 else s
theorem Zqx(F:Z4)(s:Int):F12 F s=Ua (ZcP F s):=by
 unfold F12 ZcP
 grind
end Q
namespace Q
open Tr Go Dv
def R4(x:Zw):Int:=if x.1=Uc\/x.2.2.2.2.2.2.1<0\/x.2.2.2.2.2.2.2.1<x.2.2.2.2.2.2.1\/14400<x.2.2.2.2.2.2.2.1 - x.2.2.2.2.2.2.1 then 0 else x.2.2.2.2.2.2.2.1 - x.2.2.2.2.2.2.1
def Jr(l:List Zw):Int:=(l.map R4).sum
theorem ZwD(x:Zw):0<=R4 x/\R4 x<=14400:=by unfold R4;omega
theorem ZiO(a b:List Zw):Jr (a++b)=Jr a+Jr b:=by unfold Jr;simp
theorem Zoe:∀l:List Zw,0<=Jr l/\Jr l<=14400* (l.length:Int)
 |[]=>by simp [Jr]
 |x::l=>by
  have a:=ZwD x;have b:=Zoe l;unfold Jr at*
  grind
def R7(x:Zw):Prop:=x.2.2.2.2.2.2.2.1<=9223372036854775807
theorem ZiS(j:Za9)(l:j.1.length<=1000)(f:∀x∈j.1,R7 x):F55 j=Ua (Jr j.1):=by
 unfold F55;refine K4 (fun r=>r=Jr j.1) ?_ (by simp);refine KC j.1.length _ (fun i (s:Int×Int)=>s=(Jr (j.1.take i),(i:Int))) ?_ ?_ _ rfl
 ·rintro i _ a rfl;left;have h:=f _ (Vf a);have g:=Zoe (j.1.take i);rw[List.length_take]at g;refine⟨_,?_,rfl⟩;rw[Vp a,ZiO];generalize Jr (j.1.take i)=W at*;simp only[ZQ a,Ze,ZE a,Za,Kb a (by omega)];generalize j.1[i]=x at*;unfold R7 at h;have e0:Jr [x]=R4 x:=by simp [Jr]
  rw[e0];unfold R4
  cases k:x.1 with
  |true=>
   simp
  |false=>
   simp only[Zd];by_cases c:x.2.2.2.2.2.2.1<0
   ·grind
   ·rw[Zr c];by_cases d:x.2.2.2.2.2.2.2.1<x.2.2.2.2.2.2.1
    ·grind
    ·rw[Zr d];have b:Va .i64 (x.2.2.2.2.2.2.2.1 - x.2.2.2.2.2.2.1)=x.2.2.2.2.2.2.2.1 - x.2.2.2.2.2.2.1:=ZH (by omega) (by omega);simp only[Zd,b,Za];by_cases e:14400<x.2.2.2.2.2.2.2.1 - x.2.2.2.2.2.2.1
     ·grind
     ·rw[Zr e,Zg (by grind),ZH (by omega) (by omega)];rfl
 simp
end Q
