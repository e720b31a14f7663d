/- Plain laws: shortest walks and closures. -/
import Derived.Test.YtdpenljjnfmgiaaGreatFin45hc
import Derived.Test.YtdpenljjnfmgiaaGreatETsF
import Derived.Test.YtdpenljjnfmgiaaGreatLxPop
open BitVec renaming ofInt ->Vn,ofInt_natCast ->Vv,toNat_ofNat ->Vx,toNat_ofInt ->Vcb,toNat_or ->Vob
open Bool renaming not_true ->Vc,or_eq_false_iff ->Vk,and_eq_true ->Vl,not_false ->Vp,not_eq_true ->Vs,not_eq_false' ->Vba,true_and ->Vda,false_eq_true ->Vha,or_eq_true ->Vpb
open Int renaming toNat_natCast ->Vo,le_refl ->Via,toNat_of_nonneg ->Vbb,min_eq_right ->Vhb
open Go.IntKind renaming wrap ->Va,signed ->Vq,bits ->Vt,i64 ->Vea,u64 ->Vjb
open List renaming getElem?_eq_getElem ->Vd,getElem_mem ->Ve,take_succ_eq_append_getElem ->Vg,replicate ->Vh,getElem_of_mem ->Vi,length ->Vr,length_append ->Vw,range ->Vy,set ->Vaa,foldl_append ->Vca,getElem?_set_ne ->Vfa,length_set ->Vga,drop_eq_getElem_cons ->Vja,append_assoc ->Vla,mem_append ->Voa,pairwise_lt_range ->Vpa,append_nil ->Vqa,getElem?_set_self ->Vra,take ->Vsa,length_replicate ->Vta,getElem?_eq_none ->Vua,pairwise_flatMap ->Vva,replicate_succ' ->Vwa,length_pos_iff ->Vxa,mem_cons ->Vya,flatMap_append ->Vza,mem_map ->Vdb,ext_getElem? ->Veb,length_cons ->Vfb,take_length ->Vgb,mem_flatMap ->Vib,countP_set ->Vkb,length_map ->Vmb,range_succ ->Vnb,isEmpty ->Vqb
open Nat renaming zero_le ->Vm,le_refl ->Vu,or_lt_two_pow ->Vz,shiftRight_eq_div_pow ->Vma,strongRecOn ->Vna
open Option renaming bind ->Vb,getD ->Vf,isSome ->Vka
open Prod.mk renaming injEq ->Vab
open Sum renaming elim_inl ->Vj,elim ->Vlb
open Option renaming some ->Ua,none ->Ub
open Bool renaming true ->Uc,false ->Ud
open Decidable renaming decide ->Ue
namespace Gr
inductive Wk (Ed:Nat->Nat->Int->Prop) (s:Nat):Nat->Int->Prop
 |nil:Wk Ed s s 0
 |snoc {u v:Nat}{d w:Int} (h:Wk Ed s u d) (e:Ed u v w):Wk Ed s v (d+w)
def X3(Ed:Nat->Nat->Int->Prop)(s v:Nat)(d:Int):Prop:=Wk Ed s v d/\∀a,Wk Ed s v a->d<=a
theorem Wk.nonneg{Ed:Nat->Nat->Int->Prop}(a:∀u v w,Ed u v w->0<=w){s v:Nat}{d:Int}(h:Wk Ed s v d):0<=d:=by
 induction h with
 |nil=>omega
 |snoc h e b=>grind
theorem Ztv{Ed:Nat->Nat->Int->Prop}(g:∀u v w,Ed u v w->0<=w){s:Nat}{S:Nat->Prop}{L:Nat->Int}{O:Nat->Int->Prop}{m:Int}
 (a:∀u,S u->∀d,Wk Ed s u d->L u<=d) (b:S s\/∃l,O s l/\l<=0) (c:∀u v w,S u->Ed u v w->S v\/∃l,O v l/\l<=L u+w) (f:∀v l,O v l->m<=l):
 ∀{v:Nat}{d:Int},Wk Ed s v d->S v\/m<=d:=by
 intro v d h
 induction h with
 |nil=>
  grind
 | @snoc u v d w h e i=>
   grind
theorem ZrI{Ed:Nat->Nat->Int->Prop}{s:Nat}{S:Nat->Prop}{L:Nat->Int}{O:Nat->Int->Prop}
 (a:S s\/∃l,O s l/\l<=0) (b:∀u v w,S u->Ed u v w->S v\/∃l,O v l/\l<=L u+w) (c:∀v l,¬O v l):∀{v:Nat}{d:Int},Wk Ed s v d->S v:=by
 intro v d h
 induction h with
 |nil=>grind
 | @snoc u v d w h e f=>grind
theorem Wk.dom{Ed a:Nat->Nat->Int->Prop}(h:∀u v w,Ed u v w->∃w',a u v w' /\w' <=w){s v:Nat}{d:Int}(k:Wk Ed s v d):∃b,Wk a s v b/\b<=d:=by
 induction k with
 |nil=>exact⟨0,.nil,Via _⟩
 |snoc k e g=>
  obtain⟨b,c,i⟩:=g;obtain⟨w',f,j⟩:=h _ _ _ e;exact⟨_,.snoc c f,by omega⟩
inductive Wb (Ed:Nat->Nat->Int->Prop) (k:Nat):Nat->Nat->Int->Prop
 |one {i j:Nat}{w:Int} (e:Ed i j w):Wb Ed k i j w
 |cons {i m j:Nat}{w d:Int} (e:Ed i m w) (hm:m<k) (h:Wb Ed k m j d):Wb Ed k i j (w+d)
theorem Wb.nonneg{Ed:Nat->Nat->Int->Prop}(a:∀u v w,Ed u v w->0<=w){k i j:Nat}{d:Int}(h:Wb Ed k i j d):0<=d:=by
 induction h with
 |one e=>grind
 |cons e _ _ b=>grind
theorem Wb.round{Ed:Nat->Nat->Int->Prop}(r:∀u v w,Ed u v w->0<=w){k i j:Nat}{d:Int}(h:Wb Ed (k+1) i j d):
 (∃b,b<=d/\Wb Ed k i j b)\/∃f c,f+c<=d/\Wb Ed k i k f/\Wb Ed k k j c:=by
 induction h with
 |one e=>exact .inl ⟨_,Via _,.one e⟩
 | @cons i m j w d e s h q=>
   by_cases p:m=k
   ·subst p;rcases q with ⟨b,l,a⟩|⟨f,c,l,a,o⟩
    ·exact .inr ⟨w,b,by omega,.one e,a⟩
    ·have:=a.nonneg r;exact .inr ⟨w,c,by omega,.one e,o⟩
   ·have g:m<k:=by omega
    rcases q with ⟨b,l,a⟩|⟨f,c,l,a,o⟩
    ·exact .inl ⟨w+b,by omega,.cons e g a⟩
    ·exact .inr ⟨w+f,c,by omega,.cons e g a,o⟩
theorem Wb.app{Ed:Nat->Nat->Int->Prop}{k i m j:Nat}{b c:Int}(g:m<k)(h:Wb Ed k i m b)(f:Wb Ed k m j c):Wb Ed k i j (b+c):=by
 induction h with
 |one e=>exact .cons e g f
 | @cons i p o w d e a _ l=>
   have:=Wb.cons e a (l g f);grind
theorem Wb.wk{Ed:Nat->Nat->Int->Prop}{k s i j:Nat}{d a:Int}(b:Wk Ed s i a)(h:Wb Ed k i j d):Wk Ed s j (a+d):=by
 induction h generalizing a with
 |one e=>exact .snoc b e
 |cons e _ _ c=>
  have:=c (.snoc b e);grind
theorem Wb.snoc{Ed:Nat->Nat->Int->Prop}{k i j v:Nat}{d w:Int}(a:j<k)(h:Wb Ed k i j d)(e:Ed j v w):Wb Ed k i v (d+w):=h.app a (.one e)
theorem Wk.wb{Ed:Nat->Nat->Int->Prop}{n s v:Nat}{d:Int}(c:∀u v w,Ed u v w->u<n/\v<n)(h:Wk Ed s v d):(v=s/\d=0)\/Wb Ed n s v d:=by
 induction h with
 |nil=>omega
 | @snoc u v d w h e b=>
   rcases b with ⟨rfl,rfl⟩|a
   ·right;rw[Int.zero_add];exact .one e
   ·exact .inr (a.snoc (by grind) e)
end Gr
namespace Q
open Tr Go
abbrev XM:=Int×Int×Int×Unit
abbrev Nd:=XM×Int×Unit
abbrev Hp:=Unit×List Nd×Int×Unit
def Zig(a b:XM):Bool:=Ue (a.2.1<b.2.1\/(a.2.1=b.2.1/\a.2.2.1<b.2.2.1))
def KX(a b:Nd):Bool:=Ue (a.1.2.1<b.1.2.1\/(a.1.2.1=b.1.2.1/\(a.1.2.2.1<b.1.2.2.1\/(a.1.2.2.1=b.1.2.2.1/\a.2.1<b.2.1))))
def le(a b:Nd):Prop:= ¬(b.1.2.1<a.1.2.1\/(b.1.2.1=a.1.2.1/\(b.1.2.2.1<a.1.2.2.1\/(b.1.2.2.1=a.1.2.2.1/\b.2.1<a.2.1))))
theorem le_refl(a:Nd):le a a:=by unfold le;omega
theorem le_trans{a b c:Nd}(h:le a b)(k:le b c):le a c:=by unfold le at*;omega
theorem Zia{a b:Nd}(h:KX a b=Uc):le a b:=by unfold KX at h;unfold le;grind
theorem Zib{a b:Nd}(h:KX a b=Ud):le b a:=by unfold KX at h;exact of_decide_eq_false h
theorem Zt3{a b:Nd}(h:le a b):a.1.2.1<=b.1.2.1:=by unfold le at h;omega
def nd0:Nd:=((0,0,0,()),0,())
def Z5(l:List Nd)(k:Nat):Nd:=(l[k]?).getD nd0
theorem ZcF{l:List Nd}{k:Nat}(h:k<l.length):l[k]? =Ua (Z5 l k):=by simp [Z5,h]
theorem Zj8{l:List Nd}{i:Nat}(h:i<l.length)(b:Nd)(k:Nat):Z5 (l.set i b) k=if k=i then b else Z5 l k:=by unfold Z5;grind
def JW(l:List Nd)(i k:Nat):List Nd:=(l.set i (Z5 l k)).set k (Z5 l i)
theorem Ro(l:List Nd)(i k:Nat):(JW l i k).length=l.length:=by simp [JW]
theorem Dw{l:List Nd}{i k:Nat}(a:i<l.length)(b:k<l.length)(j:Nat):Z5 (JW l i k) j=if j=k then Z5 l i else if j=i then Z5 l k else Z5 l j:=by unfold JW;rw[Zj8 (by grind),Zj8 a]
theorem Zi5{l:List Nd}{i k:Nat}(a:i<l.length)(b:k<l.length):(JW l i k).Perm l:=by
 have c:Z5 l k=l[k]:=by simp [Z5,b]
 have d:Z5 l i=l[i]:=by simp [Z5,a]
 unfold JW;grind
theorem Zug(a b:XM):F165 a b=Ua (Zig a b):=by unfold F165 Zig;grind
theorem ZgQ{l:List Nd}{c:Int}{i k:Nat}(a:i<l.length)(b:k<l.length):F47 ((),l,c,()) (i:Int) (k:Int)=Ua (((),l,c,()),KX (Z5 l i) (Z5 l k)):=by
 unfold F47;simp only[KS a,KS b,ZcF a,ZcF b,Za,Zug];unfold Zig KX;by_cases d:(Z5 l i).1.2.1<(Z5 l k).1.2.1\/((Z5 l i).1.2.1=(Z5 l k).1.2.1/\(Z5 l i).1.2.2.1<(Z5 l k).1.2.2.1)
 ·grind
 ·rw[Zt d];simp only[Ze];by_cases e:(Z5 l k).1.2.1<(Z5 l i).1.2.1\/((Z5 l k).1.2.1=(Z5 l i).1.2.1/\(Z5 l k).1.2.2.1<(Z5 l i).1.2.2.1)
  ·rw[Zi e];simp only[Zd];rw[Zt (by omega)]
  grind
theorem Zi6{l:List Nd}{c:Int}{i k:Nat}(b:i<l.length)(d:k<l.length):F49 ((),l,c,()) (i:Int) (k:Int)=Ua ((),JW l i k,c,()):=by
 unfold F49;have a:k<(Vaa l i (Z5 l k)).length:=by grind
 simp only[KS b,KS d,ZcF b,ZcF d,Za,KS a];rw[Vd a];rfl
def YE(l:List Nd):Prop:= ∀k,0<k->k<l.length->le (Z5 l ((k - 1) / 2)) (Z5 l k)
theorem ZtD{l:List Nd}(h:YE l):∀k,k<l.length->le (Z5 l 0) (Z5 l k):=by
 intro k
 induction k using Vna with
 |ind k c=>
  intro b;by_cases a:k=0
  ·subst a;exact le_refl _
  ·exact le_trans (by grind) (h k (by omega) b)
def Up(l:List Nd)(i:Nat):Prop:=
 i<l.length/\(∀k,0<k->k<l.length->k≠i->le (Z5 l ((k - 1) / 2)) (Z5 l k))/\∀k,0<k->k<l.length->(k - 1) / 2=i->0<i->le (Z5 l ((i - 1) / 2)) (Z5 l k)
theorem Zw8{l:List Nd}{i:Nat}(h:Up l i)(t:0<i)(q:KX (Z5 l i) (Z5 l ((i - 1) / 2))=Uc):Up (JW l i ((i - 1) / 2)) ((i - 1) / 2):=by
 obtain⟨g,j,s⟩:=h;have d:(i - 1) / 2<l.length:=by omega
 have m:=Zia q;refine⟨by rw[Ro];omega,λk o f p=>?_,λk o f p r=>?_⟩
 ·rw[Ro]at f;rw[Dw g d,Dw g d];by_cases c:k=i
  ·grind
  ·rw[Zg p,Zg c];by_cases u:(k - 1) / 2=i
   ·grind
   ·by_cases e:(k - 1) / 2=(i - 1) / 2
    ·rw[Zn e];have:=j k o f c;rw[e]at this;exact le_trans m this
    grind
 ·rw[Ro]at f;rw[Dw g d,Dw g d,Zg (by omega),Zg (by omega)];by_cases c:k=i
  ·grind
  ·rw[Zg (by omega),Zg c];have a:=j _ r d (by omega);have b:=j k o f c;rw[p]at b;exact le_trans a b
theorem Zng{l:List Nd}{c:Int}(x:XM)(h:YE l)(E:l.length<2147483648):
 ∃z:Hp,F46 ((),l,c,()) x=Ua z/\z.2.2.1=Va .i64 (c+1)/\YE z.2.1/\z.2.1.Perm (l++[(x,c,())]):=by
 have b:(l++[(x,c,())]).length=l.length+1:=by simp
 have A:Up (l++[(x,c,())]) l.length:=by
  refine⟨by omega,λk d g F=>?_,by omega⟩;have e:∀j,j<l.length->Z5 (l++[(x,c,())]) j=Z5 l j:=λj C=>by simp [Z5,List.getElem?_append_left C]
  rw[e _ (by omega),e _ (by omega)];exact h k d (by omega)
 unfold F46;have w:ZD (decide (l.length+ [((x,c,()):Nd)].length<=ZI))=Ua ():=by rw[Zi (by simp [ZI];omega)];rfl
 have y:Va .i64 (((l++[(x,c,())]).length:Int) - 1)=(l.length:Int):=by rw[b,ZN (by omega) (by omega)];omega
 simp only[w,Za,y];refine run_bind (λs=>∃(m:List Nd) (i:Nat),s=(((),m,Va .i64 (c+1),()),(i:Int))/\Up m i/\m.Perm (l++[(x,c,())])) (λs=>s.2.toNat)
  (λr=>∃m:List Nd,r=((),m,Va .i64 (c+1),())/\YE m/\m.Perm (l++[(x,c,())])) ⟨_,l.length,rfl,A,.refl _⟩ ?_ ?_
 ·rintro s ⟨m,i,rfl,a,f⟩;have D:m.length=l.length+1:=by rw[f.length_eq,b]
  by_cases B:0<i
  ·have t:Va .i64 ((i:Int) - 1)=((i - 1:Nat):Int):=by have:=a.1;rw[ZN (by omega) (by omega)];omega
   have u:Int.tdiv ((i - 1:Nat):Int) 2=(((i - 1) / 2:Nat):Int):=by rfl
   have v:Va .i64 ((((i - 1) / 2:Nat)):Int)=(((i - 1) / 2:Nat):Int):=by have:=a.1;exact ZN (by omega) (by omega)
   have o:(i - 1) / 2<m.length:=by have:=a.1;omega
   simp only[show Ue ((0:Int)<(i:Int))=Uc from (by grind),Zd,t,u,v,ZgQ a.1 o,Za]
   cases p:KX (Z5 m i) (Z5 m ((i - 1) / 2)) with
   |true=>
    left;refine⟨_,by simp only[Zd,Zi6 a.1 o,Za],⟨JW m i ((i - 1) / 2),(i - 1) / 2,rfl,Zw8 a B p,(Zi5 a.1 o).trans f⟩,?_⟩
    omega
   |false=>
    right;refine⟨_,rfl,m,rfl,λk d g=>?_,f⟩;by_cases q:k=i
    ·subst q;exact Zib p
    ·exact a.2.1 k d g q
  ·right;have:i=0:=by omega
   subst this;refine⟨_,by rfl,m,rfl,λk d g=>a.2.1 k d g (by omega),f⟩
 grind
def Dn(l:List Nd)(i:Nat):Prop:=
 (∀k,0<k->k<l.length->(k - 1) / 2≠i->le (Z5 l ((k - 1) / 2)) (Z5 l k))/\∀k,0<k->k<l.length->(k - 1) / 2=i->0<i->le (Z5 l ((i - 1) / 2)) (Z5 l k)
theorem Zso{l:List Nd}{i c:Nat}(h:Dn l i)(b:i<l.length)(a:c<l.length)(e:(c - 1) / 2=i)(m:0<c)(j:KX (Z5 l c) (Z5 l i)=Uc)(t:∀k,0<k->k<l.length->(k - 1) / 2=i->le (Z5 l c) (Z5 l k)):Dn (JW l i c) c:=by
 obtain⟨r,s⟩:=h;have o:=Zia j;refine⟨λk q f g=>?_,λk q f g u=>?_⟩
 ·rw[Ro]at f;rw[Dw b a,Dw b a,Zg g];by_cases d:k=i
  ·grind
  ·by_cases p:(k - 1) / 2=i
   ·grind
   ·rw[Zg p,Zg (by omega),Zg d];grind
 ·rw[Ro]at f;rw[e,Dw b a,Dw b a,Zg (by omega),Zn rfl,Zg (by omega),Zg (by omega)];grind
theorem ZkY{l:List Nd}{i:Nat}(h:Dn l i)(d:∀k,0<k->k<l.length->(k - 1) / 2=i->le (Z5 l i) (Z5 l k)):YE l:=by
 intro k b c;by_cases a:(k - 1) / 2=i
 ·grind
 ·exact h.1 k b c a
theorem Zwx{l:List Nd}{c:Int}(h:Dn l 0)(H:l.length<2147483648):∃z:Hp,F48 ((),l,c,())=Ua z/\z.2.2.1=c/\YE z.2.1/\z.2.1.Perm l:=by
 unfold F48;simp only;refine run_bind (λs=>∃(m:List Nd) (i:Nat),s=(((),m,c,()),(i:Int))/\(i<m.length\/i=0)/\Dn m i/\m.Perm l) (λs=>l.length - s.2.toNat)
  (λr=>∃m:List Nd,r=((),m,c,())/\YE m/\m.Perm l) ⟨l,0,rfl,.inr rfl,h,.refl _⟩ ?_ ?_
 ·rintro s ⟨m,i,rfl,F,t,p⟩;have D:m.length=l.length:=p.length_eq;have y:Va .i64 ((2:Int) * (i:Int))=((2*i:Nat):Int):=by rw[ZN (by omega) (by omega)];omega
  have A:Va .i64 (((2*i:Nat):Int)+1)=((2*i+1:Nat):Int):=by rw[ZN (by omega) (by omega)];omega
  have B:Va .i64 (((2*i+1:Nat):Int)+1)=((2*i+2:Nat):Int):=by rw[ZN (by omega) (by omega)];omega
  simp only[y,A,B];by_cases G:m.length<=2*i+1
  ·right;refine⟨_,by grind,m,rfl,ZkY t (by omega),p⟩
  ·simp only[show Ue ((m.length:Int)<=((2*i+1:Nat):Int))=Ud from (by grind),Ze];have e:i<m.length:=by omega
   have fin:∀a:Nat,(a=2*i+1\/a=2*i+2)->a<m.length->(∀k,0<k->k<m.length->(k - 1) / 2=i->le (Z5 m a) (Z5 m k))->
    (∃x:Hp×Int,(Vb (F47 ((),m,c,()) (a:Int) (i:Int)) λb=>
       bif !b.snd then Ua (Sum.inr ((),b.fst.snd.fst,b.fst.snd.snd.fst,()))
       else Vb (F49 ((),b.fst.snd.fst,b.fst.snd.snd.fst,()) (i:Int) (a:Int)) λo=>Ua (Sum.inl (((),o.snd.fst,o.snd.snd.fst,()),(a:Int))))=Ua (Sum.inl x:(Hp×Int) ⊕ Hp)/\
       (∃(f:List Nd) (q:Nat),x=(((),f,c,()),(q:Int))/\(q<f.length\/q=0)/\Dn f q/\f.Perm l)/\l.length - x.2.toNat<l.length - (i:Int).toNat)\/
    ∃r:Hp,(Vb (F47 ((),m,c,()) (a:Int) (i:Int)) λb=>
       bif !b.snd then Ua (Sum.inr ((),b.fst.snd.fst,b.fst.snd.snd.fst,()))
       else Vb (F49 ((),b.fst.snd.fst,b.fst.snd.snd.fst,()) (i:Int) (a:Int)) λo=>Ua (Sum.inl (((),o.snd.fst,o.snd.snd.fst,()),(a:Int))))=Ua (Sum.inr r:(Hp×Int) ⊕ Hp)/\
      ∃f:List Nd,r=((),f,c,())/\YE f/\f.Perm l:=by
    intro a C d E;rw[ZgQ d e];simp only[Za]
    cases g:KX (Z5 m a) (Z5 m i) with
    |true=>
     left;refine⟨_,by simp only[Vc,Ze,Zi6 e d,Za],⟨JW m i a,a,rfl,.inl (by rw[Ro];omega),Zso t e d (by omega) (by omega) g E,(Zi5 e d).trans p⟩,?_⟩
     omega
    |false=>
     right;exact⟨_,by rfl,m,rfl,ZkY t λk u v w=>le_trans (Zib g) (by grind),p⟩
   by_cases j:2*i+2<m.length
   ·simp only[show Ue (((2*i+2:Nat):Int)<(m.length:Int))=Uc from (by grind),Zd,ZgQ j (show 2*i+1<m.length by omega),Za]
    cases g:KX (Z5 m (2*i+2)) (Z5 m (2*i+1)) with
    |true=>
     simp only[Zd,Za];exact fin (2*i+2) (.inr rfl) j λk u v w=>by
      have:k=2*i+1\/k=2*i+2:=by omega
      rcases this with rfl|rfl
      ·exact Zia g
      ·exact le_refl _
    |false=>
     simp only[Ze,Za];exact fin (2*i+1) (.inl rfl) (by omega) λk u v w=>by
      have:k=2*i+1\/k=2*i+2:=by omega
      rcases this with rfl|rfl
      ·exact le_refl _
      ·exact Zib g
   ·simp only[show Ue (((2*i+2:Nat):Int)<(m.length:Int))=Ud from (by grind),Ze];exact fin (2*i+1) (.inl rfl) (by omega) λk u v w=>by
     have:k=2*i+1:=by omega
     subst this;exact le_refl _
 grind
theorem Zvh(c:Int):F45 ((),[],c,())=Ua (((),[],c,()),(0,0,0,()),Ud):=by rfl
theorem Zvj{l:List Nd}{c:Int}(h:YE l)(o:l≠ [])(G:l.length<2147483648):
 ∃f x,F45 ((),l,c,())=Ua (((),f,c,()),x.1,Uc)/\YE f/\l.Perm (x::f)/\∀y∈l,x.1.2.1<=y.1.2.1:=by
 have b:0<l.length:=Vxa.2 o;have a:l.length - 1<l.length:=by omega
 have d:F44 ((),l,c,())=Ua (((),l,c,()),(Z5 l 0).1,Uc):=by unfold F44 F43;simp only[Za,show Ue ((l.length:Int)=0)=Ud from (by grind),Ze];rw[show (0:Int)=((0:Nat):Int) from rfl,KS b];simp only[Za,ZcF b]
 have r:Va .i64 ((l.length:Int) - 1)=((l.length - 1:Nat):Int):=by rw[ZN (by omega) (by omega)];omega
 have v:sliceB (JW l 0 (l.length - 1)).length (JW l 0 (l.length - 1)).length Ub (Ua ((l.length - 1:Nat):Int))=Ua (0,l.length - 1):=by unfold sliceB;rw[Ro];simp
 have u:Dn (Vsa (l.length - 1) (JW l 0 (l.length - 1))) 0:=by
  refine⟨λk A B H=>?_,by omega⟩;simp [Ro]at B;have e:∀j,j<l.length - 1->j≠0->Z5 (Vsa (l.length - 1) (JW l 0 (l.length - 1))) j=Z5 l j:=λj F g=>by
   have:Z5 (Vsa (l.length - 1) (JW l 0 (l.length - 1))) j=Z5 (JW l 0 (l.length - 1)) j:=by unfold Z5;grind
   rw[this,Dw b a,Zg (by omega),Zg g]
  rw[e _ (by omega) (by omega),e _ (by omega) (by omega)];exact h k A (by omega)
 obtain⟨⟨_,f,C,_⟩,D,rfl,s,E⟩:=Zwx (c:=c) u (by grind);refine⟨f,Z5 l 0,?_,s,?_,λy z=>?_⟩
 ·unfold F45;rw[d];simp only[Za,Vc,Ze,r];rw[show (0:Int)=((0:Nat):Int) from rfl,Zi6 b a];grind
 ·have w:=Zi5 b a;have e:JW l 0 (l.length - 1)=Vsa (l.length - 1) (JW l 0 (l.length - 1))++[Z5 l 0]:=by
   conv=>lhs;rw[<-List.take_append_drop (l.length - 1) (JW l 0 (l.length - 1))]
   congr 1;have m:(JW l 0 (l.length - 1)).length=l.length:=Ro ..;rw[Vja (by omega)];have t:List.drop (l.length - 1+1) (JW l 0 (l.length - 1))=[]:=by grind
   rw[t];have p:=Dw b a (l.length - 1);rw[Zn rfl]at p;rw[<-p];simp [Z5,m,a]
  grind
 ·obtain⟨i,q,rfl⟩:=Vi z;have:=Zt3 (ZtD h i q);simpa [Z5,q] using this
end Q
namespace Q
open Tr Go Gr
abbrev YC:=Int×Int×Int×Unit
abbrev Adj:=List (Int×List YC)
def Jm(m:Adj)(u:Nat):List YC:=Vf (ZW (Zr (.int .i64)) (u:Int) m) []
structure Zgj (n:Nat) (m:Adj) (Ed:Nat->Nat->Int->Prop):Prop where
 mem:∀u,u<n->∀y∈Jm m u,∃v:Nat,v<n/\y.2.1=(v:Int)/\0<=y.2.2.1/\y.2.2.1<=1073741824/\Ed u v y.2.2.1
 all:∀u v w,Ed u v w->u<n/\∃y∈Jm m u,y.2.1=(v:Int)/\y.2.2.1=w
 len:∀u,u<n->(Jm m u).length<=4096
def Xb(x:XM):Bool:=Ue (0<=x.2.2.1)
def HF(o:List XM)(i:Nat):Prop:= ∃x,o[i]? =Ua x/\0<=x.2.2.1
def lenOf(o:List XM)(i:Nat):Int:=((o[i]?).getD (0,0,0,())).2.1
structure DI (n:Nat) (Ed:Nat->Nat->Int->Prop) (s:Nat) (o:List XM) (h:List Nd):Prop where
 len:o.length=n
 heap:YE h
 lab:∀i x,o[i]? =Ua x->(x.2.2.1<0->x.2.1= -1)/\(0<=x.2.2.1->X3 Ed s i x.2.1)
 opn:∀d∈h,∃v:Nat,v<n/\d.1.1=(v:Int)/\Wk Ed s v d.1.2.1/\0<=d.1.2.2.1/\d.1.2.2.1<=(o.countP Xb:Nat)/\d.1.2.1<=d.1.2.2.1*1073741824
 src:HF o s\/∃d∈h,d.1.1=(s:Int)/\d.1.2.1<=0
 out:∀u v w,HF o u->Ed u v w->HF o v\/∃d∈h,d.1.1=(v:Int)/\d.1.2.1<=lenOf o u+w
 size:h.length+(n - o.countP Xb) *4096<=1+n*4096
theorem Zhf(o:List XM):o.countP Xb<=o.length:=List.countP_le_length
theorem Zsh{n:Nat}{Ed:Nat->Nat->Int->Prop}{s:Nat}{o:List XM}{h b:List Nd}{x:Nd}{v:Nat}(a:DI n Ed s o h)(i:YE b)(j:h.Perm (x::b))(q:x.1.1=(v:Int))(p:HF o v):DI n Ed s o b where
 len:=a.len
 heap:=i
 lab:=a.lab
 opn:=λd m=>a.opn d (by grind)
 src:=by
  rcases a.src with c|⟨d,c,e,f⟩
  all_goals grind
 out:=λu l w k g=>by
  rcases a.out u l w k g with c|⟨d,c,e,f⟩
  all_goals grind
 size:=by have:=j.length_eq;have:=a.size;grind
theorem Zn5{o:List XM}{v:Nat}{x:XM}(c:0<=x.2.2.1){i:Nat}(h:HF o i):HF (o.set v x) i:=by
 obtain⟨y,d,a⟩:=h;by_cases b:v=i
 ·subst b;have e:v<o.length:=by grind
  exact⟨x,by grind,c⟩
 ·exact⟨y,by grind,a⟩
theorem Zsi{n:Nat}{Ed:Nat->Nat->Int->Prop}{m:Adj}(F:Zgj n m Ed){s:Nat}{o:List XM}{h K D:List Nd}{x:Nd}{v:Nat}{y:XM}(k:DI n Ed s o h)(hv:v<n)(V:h.Perm (x::K))(b5:x.1.1=(v:Int))
 (a7:∀d∈h,x.1.2.1<=d.1.2.1) (ho:o[v]? =Ua y) (hy:y.2.2.1<0) (Q:YE D) (b1:D.length<=K.length+(Jm m v).length) (h1:∀d∈K,d∈D)
 (h3:∀d∈D,d∈K\/∃e∈Jm m v,d.1.1=e.2.1/\d.1.2.1=x.1.2.1+e.2.2.1/\d.1.2.2.1=x.1.2.2.1+1)
 (h4:∀e∈Jm m v,(∃t:Nat,e.2.1=(t:Int)/\HF (o.set v x.1) t)\/∃d∈D,d.1.1=e.2.1/\d.1.2.1=x.1.2.1+e.2.2.1):DI n Ed s (o.set v x.1) D:=by
 have hw:∀u v w,Ed u v w->0<=w:=λu v w e=>by obtain⟨B,z,j,g,rfl⟩:=F.all u v w e;obtain⟨f,_,_,r,_⟩:=F.mem u B z j;omega
 have X:x∈h:=by grind
 obtain⟨f,b3,b4,J,A,a9,b0⟩:=k.opn x X;have:f=v:=by omega
 subst this;have T:f<o.length:=by grind
 have p:(o.set f x.1)[f]? =Ua x.1:=by grind
 have H:∀{i},i≠f->(o.set f x.1)[i]? =o[i]? :=by grind
 have U:o[f]=y:=by grind
 have a0:(o.set f x.1).countP Xb=o.countP Xb+1:=by
  rw[Vkb T,U];have a:Xb y=false:=by simp [Xb];omega
  have b:Xb x.1=true:=by simp [Xb];omega
  grind
 have b2:(o.set f x.1).countP Xb<=n:=by have:=Zhf (o.set f x.1);rw[Vga,k.len]at this;omega
 have M:X3 Ed s f x.1.2.1:=by
  refine⟨J,λd G=>?_⟩;have:=Ztv (S:=HF o) (L:=lenOf o) (O:=λv l=>∃d∈h,d.1.1=(v:Int)/\d.1.2.1=l) (m:=x.1.2.1) hw (λu B d G=>by
   obtain⟨z,j,q⟩:=B;have:=((k.lab u z j).2 q).2 d G;simpa [lenOf,j] using this) (by
   rcases k.src with g|⟨d,g,r,C⟩
   all_goals grind) (λu v w B E=>by
   rcases k.out u v w B E with g|⟨d,g,r,C⟩
   all_goals grind) (by grind) G
  rcases this with ⟨z,j,q⟩|g
  all_goals grind
 have R:∀u,HF o u->lenOf (o.set f x.1) u=lenOf o u:=λu B=>by
  obtain⟨z,j,q⟩:=B;have a8:u≠f:=by grind
  unfold lenOf;grind
 refine⟨by rw[Vga];exact k.len,Q,λi z j=>?_,λd G=>?_,?_,λu Y w B E=>?_,?_⟩
 ·by_cases hi:i=f
  ·grind
  ·rw[H hi]at j;exact k.lab i z j
 ·rcases h3 d G with g|⟨e,E,g,r,C⟩
  ·obtain⟨t,Z,a2,a3,a4,a5,a6⟩:=k.opn d (by grind);grind
  ·obtain⟨t,Z,a2,a3,a4,a5⟩:=F.mem f hv e E;refine⟨t,Z,g.trans a2,by rw[r];exact .snoc J a5,by omega,by omega,?_⟩;omega
 ·rcases k.src with g|⟨d,g,r,C⟩
  ·exact .inl (Zn5 A g)
  ·rcases Vya.1 (V.mem_iff.1 g) with rfl|N
   ·have:s=f:=by omega
    subst this;exact .inl ⟨_,p,A⟩
   grind
 ·by_cases I:u=f
  ·subst I;obtain⟨_,e,P,g,rfl⟩:=F.all u Y w E;rcases h4 e P with ⟨t,r,C⟩|⟨d,r,C,N⟩
   ·grind
   ·refine .inr ⟨d,r,C.trans g,?_⟩;rw[N];simp [lenOf,p]
  ·have W:HF o u:=by obtain⟨z,j,q⟩:=B;rw[H I]at j;exact⟨z,j,q⟩
   rcases k.out u Y w W E with g|⟨d,g,r,C⟩
   ·exact .inl (Zn5 A g)
   ·rcases Vya.1 (V.mem_iff.1 g) with rfl|N
    ·have:Y=f:=by omega
     subst this;exact .inl ⟨_,p,A⟩
    grind
 ·have a:=V.length_eq;have b:=k.size;have c:=F.len f hv;grind
end Q
namespace Q
open Tr Go Gr
def Zgq(n:Nat)(Ed:Nat->Nat->Int->Prop)(s:Nat)(o:List XM):Prop:=
 o.length=n/\∀i x,o[i]? =Ua x->(X3 Ed s i x.2.1/\0<=x.2.1)\/((∀d,¬Wk Ed s i d)/\x.2.1= -1)
theorem ZtY{n:Nat}(hn:n<=64){m:Adj}{Ed:Nat->Nat->Int->Prop}(R:Zgj n m Ed){s:Nat}(hs:s<n):
 ∃z,F163 (n:Int) m (s:Int)=Ua z/\z.1=m/\Zgq n Ed s z.2:=by
 have hw:∀u v w,Ed u v w->0<=w:=λu v w e=>by obtain⟨hu,z,hz,P,rfl⟩:=R.all u v w e;obtain⟨v',_,_,h6,_⟩:=R.mem u hu z hz;omega
 unfold F163;have eg:ZD (decide ((0:Int)<=(n:Int)/\(n:Int)<=(n:Int)/\(n:Int)<=(ZI:Int)))=Ua ():=by rw[Zi (by simp [ZI];omega)];rfl
 rw[show ZD _=Ua () from eg];simp only[Za,Vta,Vo];refine XJ (λst=>∃(o:List XM) (i:Nat),st=(o,(i:Int))/\o.length=n/\i<=n/\∀j,j<i->o[j]? =Ua ((j:Int), -1, -1,())) (λst=>n - st.2.toNat)
  (λo=>o.length=n/\∀j,j<n->o[j]? =Ua ((j:Int), -1, -1,())) ⟨_,0,rfl,by simp,Vm _,by omega⟩ ?_ ?_
 ·rintro st ⟨o,i,rfl,h1,h2,h3⟩;by_cases hi:i<n
  ·have X:i<o.length:=by omega
   have e1:Va .i64 ((i:Int)+1)=((i+1:Nat):Int):=by rw[ZN (by omega) (by omega)];omega
   simp only[show Ue ((i:Int)<(n:Int))=Uc from (by grind),Zd,KS X,Za,Vd X,e1];grind
  ·have:i=n:=by omega
   simp_all
 ·rintro o0 ⟨a7,a8⟩;obtain⟨⟨_,h0,c0,_⟩,K,_,a0,A⟩:=Zng (l:=[]) (c:=0) ((s:Int),0,0,()) (λk k1 k2=>by grind) (by simp);simp only at a0 A;unfold F50;simp only[Za];rw[show F46 _ _=Ua _ from K];simp only[Za];have J:∀d,d∈h0↔d=((((s:Int),0,0,()),0,()):Nd):=by grind
  have a6:o0.countP Xb=0:=by rw[List.countP_eq_zero];intro a ha;obtain⟨i,hi,rfl⟩:=Vi ha;have:=a8 i (by omega);rw[Vd hi]at this;simp only[ZL]at this;rw[this];simp [Xb]
  have a5:DI n Ed s o0 h0:={
   len:=a7
   heap:=a0
   lab:=by grind
   opn:=λd U=>by rw[J]at U;subst U;exact⟨s,hs,rfl,.nil,Via _,by simp,by simp⟩
   src:=by simp_all
   out:=λu v w hu=>by obtain⟨x,hx,a4⟩:=hu;grind
   size:=by have:=A.length_eq;grind}
  refine XJ (λst=>∃(o:List XM) (h:List Nd) (c:Int),st=(o,(),h,c,())/\DI n Ed s o h) (λst=>(n - st.1.countP Xb) *8192+st.2.2.1.length)
   (λo=>Zgq n Ed s o) ⟨o0,h0,c0,rfl,a5⟩ ?_ (by simp)
  rintro st ⟨o,h,c,rfl,y⟩;simp only;have b4:h.length<=300000:=by have:=y.size;omega
  have b0:h.length<2147483648:=by omega
  by_cases Z:h=[]
  ·subst Z;rw[Zvh];simp only[Za,Vp,Zd];refine⟨_,rfl,y.len,λi x hx=>?_⟩;by_cases a4:0<=x.2.2.1
   ·have:=(y.lab i x hx).2 a4;exact .inl ⟨this,this.1.nonneg hw⟩
   ·refine .inr ⟨λd U=>?_,(y.lab i x hx).1 (by omega)⟩;have:=ZrI (S:=HF o) (L:=lenOf o) (O:=λ_ _=>False) (by
     rcases y.src with P|⟨d,P,_⟩
     all_goals grind) (λu v w hu he=>by
     rcases y.out u v w hu he with P|⟨d,P,_⟩
     all_goals grind) (by simp) U
    obtain⟨z,hz,d0⟩:=this;grind
  ·obtain⟨E,x,a2,F,hp,Y⟩:=Zvj (c:=c) y.heap Z b0;rw[a2];simp only[Za,Vc,Ze];obtain⟨v,hv,N,b1,b7,c4,c5⟩:=y.opn x (by grind);have D:v<o.length:=by rw[y.len];omega
   have a9:=hp.length_eq;simp only[Vfb]at a9;have b5:o.countP Xb<=n:=by have:=Zhf o;rw[y.len]at this;omega
   simp only[N,KS D,Za,Vd D];have a1:o[v]? =Ua o[v]:=Vd D;by_cases a3:0<=(o[v]).2.2.1
   ·simp only[show Ue ((0:Int)<=(o[v]).2.2.1)=Uc from (by grind),Zd];exact⟨_,rfl,⟨o,E,c,rfl,Zsh y F hp N ⟨_,a1,a3⟩⟩,by grind⟩
   ·simp only[show Ue ((0:Int)<=(o[v]).2.2.1)=Ud from (by grind),Ze];have T:Vf (ZW (Zr Y3) (v:Int) m) []=Jm m v:=rfl;have b6:=R.len v hv;have c8:0<=x.1.2.1:=b1.nonneg hw;have c9:x.1.2.1<=68719476736:=by omega
    refine XJ (λst=>∃(g:List Nd) (B:Int) (j:Nat),st=(((),g,B,()),(j:Int))/\j<=(Jm m v).length/\YE g/\g.length<=E.length+j/\(∀d∈E,d∈g)/\
     (∀d∈g,d∈E\/∃e∈Jm m v,d.1.1=e.2.1/\d.1.2.1=x.1.2.1+e.2.2.1/\d.1.2.2.1=x.1.2.2.1+1)/\
     ∀k e,k<j->(Jm m v)[k]? =Ua e->(∃t:Nat,e.2.1=(t:Int)/\HF (o.set v x.1) t)\/∃d∈g,d.1.1=e.2.1/\d.1.2.1=x.1.2.1+e.2.2.1) (λst=>(Jm m v).length - st.2.toNat)
     (λr=>∃(g:List Nd) (B:Int),r=((),g,B,())/\YE g/\g.length<=E.length+(Jm m v).length/\(∀d∈E,d∈g)/\
       (∀d∈g,d∈E\/∃e∈Jm m v,d.1.1=e.2.1/\d.1.2.1=x.1.2.1+e.2.2.1/\d.1.2.2.1=x.1.2.2.1+1)/\
       ∀e∈Jm m v,(∃t:Nat,e.2.1=(t:Int)/\HF (o.set v x.1) t)\/∃d∈g,d.1.1=e.2.1/\d.1.2.1=x.1.2.1+e.2.2.1)
     ⟨E,c,0,rfl,Vm _,F,Vu _,λ_ h=>h,by grind,by omega⟩ ?_ ?_
    ·rintro st ⟨g,B,j,rfl,hj,W,H,g1,g2,Q⟩;simp only[T];by_cases f:j<(Jm m v).length
     ·obtain⟨t,ht,V,b8,b9,c1⟩:=R.mem v hv _ (Ve f);have M:t<(Vaa o v x.1).length:=by rw[Vga,y.len];omega
      have e1:Va .i64 ((j:Int)+1)=((j+1:Nat):Int):=by rw[ZN (by omega) (by omega)];omega
      simp only[show Ue ((j:Int)<((Jm m v).length:Int))=Uc from (by grind),Zd,KS f,Za,Vd f,V,KS M,Vd M,e1];by_cases c7:(Vaa o v x.1)[t].2.2.1<0
      ·have e2:Va .i64 (x.1.2.1+((Jm m v)[j]).2.2.1)=x.1.2.1+((Jm m v)[j]).2.2.1:=ZN (by omega) (by omega);have e3:Va .i64 (x.1.2.2.1+1)=x.1.2.2.1+1:=ZN (by omega) (by omega);simp only[show Ue ((Vaa o v x.1)[t].2.2.1<0)=Uc from (by grind),Zd,e2,e3];obtain⟨⟨_,g',c2,_⟩,C,_,G,q⟩:=Zng (c:=B) ((t:Int),x.1.2.1+((Jm m v)[j]).2.2.1,x.1.2.2.1+1,()) W (by omega);simp only at G q;rw[show F46 _ _=Ua _ from C];simp only[Za];have c6:∀d,d∈g' ↔d∈g\/d=(((t:Int),x.1.2.1+((Jm m v)[j]).2.2.1,x.1.2.2.1+1,()),B,()):=by grind
       refine⟨_,rfl,⟨g',c2,j+1,rfl,f,G,?_,by grind,λd U=>?_,λk e hk p=>?_⟩,by omega⟩
       ·have:=q.length_eq;grind
       ·grind
       ·by_cases I:k=j
        ·subst I;rw[Vd f]at p;cases p;simp [*]
        ·rcases Q k e (by omega) p with P|⟨d,P,h6⟩
         all_goals grind
      ·simp only[show Ue ((Vaa o v x.1)[t].2.2.1<0)=Ud from (by grind),Ze];refine⟨_,rfl,⟨g,B,j+1,rfl,f,W,by omega,g1,g2,λk e hk p=>?_⟩,by omega⟩;by_cases I:k=j
       ·subst I;rw[Vd f]at p;cases p;exact .inl ⟨t,V,_,Vd M,by omega⟩
       ·exact Q k e (by omega) p
     ·have:j=(Jm m v).length:=by omega
      subst this;simp only[show Ue (((Jm m v).length:Int)<((Jm m v).length:Int))=Ud by simp,Ze];refine⟨_,rfl,g,B,rfl,W,H,g1,g2,λe he=>?_⟩;obtain⟨k,hk,rfl⟩:=Vi he;exact Q k _ hk (by simp)
    ·rintro r ⟨g,B,rfl,W,H,g1,g2,Q⟩;have hD:=Zsi R y hv hp N Y a1 (by omega) W H g1 g2 Q;refine⟨_,rfl,⟨_,g,B,rfl,hD⟩,?_⟩;have b3:(o.set v x.1).countP Xb=o.countP Xb+1:=by
      rw[Vkb D];have a:Xb o[v]=false:=by simp [Xb];omega
      have b:Xb x.1=true:=by simp [Xb];omega
      grind
     have b2:(o.set v x.1).countP Xb<=n:=by have:=Zhf (o.set v x.1);rw[hD.len]at this;omega
     grind
end Q
namespace Q
open Tr Go Gr
open Classical in
theorem Zak{t:Ty}{β:Type}(b:t.key=Uc)(k a:El t)(v:β):∀(l:List (El t×β)),ZW (Zr t) k (Kv (Zr t) a v l)=if k=a then Ua v else ZW (Zr t) k l
 |[]=>by
  simp only[Kv,ZW];by_cases h:k=a
  ·rw[(XD b).2 h,Zn h];rfl
  ·rw[Zg h]
   cases c:Zr t k a with
   |true=>exact absurd ((XD b).1 c) h
   |false=>rfl
 |e::l=>by
  simp only[Kv]
  cases c:Zr t a e.1 with
  |true=>
   have f:=(XD b).1 c;simp only[Zd,ZW];by_cases h:k=a
   ·rw[(XD b).2 h,Zn h];rfl
   ·rw[Zg h,<-f]
    cases d:Zr t k a with
    |true=>exact absurd ((XD b).1 d) h
    |false=>rfl
  |false=>
   simp only[Ze,ZW,Zak b k a v l]
   cases d:Zr t k e.1 with
   |false=>rfl
   |true=>
    have f:=(XD b).1 d;have:k≠a:=by rintro rfl;rw[d]at c;cases c
    simp only[Zd];rw[Zg this]
def EdL(E:List YC)(u v:Nat)(w:Int):Prop:= ∃e∈E,e.1=(u:Int)/\e.2.1=(v:Int)/\e.2.2.1=w
theorem ZuC(E:List YC)(j:E.length<=4096):∃z,F166 E Ud=Ua z/\∀u:Nat,Jm z u=E.filter λe=>Ue (e.1=(u:Int)):=by
 unfold F166;refine XJ (λst=>∃(m:Adj) (i:Nat),st=(m,(i:Int))/\i<=E.length/\∀k:Int,Vf (ZW (Zr (.int .i64)) k m) []=(E.take i).filter λe=>Ue (e.1=k)) (λst=>E.length - st.2.toNat)
  (λm=>∀u:Nat,Jm m u=E.filter λe=>Ue (e.1=(u:Int))) ⟨[],0,rfl,Vm _,λk=>by rfl⟩ ?_ (by simp)
 rintro st ⟨m,i,rfl,l,c⟩;by_cases a:i<E.length
 ·have d:Va .i64 ((i:Int)+1)=((i+1:Nat):Int):=by rw[ZN (by omega) (by omega)];omega
  have h:=c (E[i]).1;have b:(Vf (ZW (Zr (.int .i64)) (E[i]).1 m) []).length<=4096:=by grind
  have f:ZD (decide ((Vf (ZW (Zr (.int .i64)) (E[i]).1 m) []).length+ [E[i]].length<=ZI))=Ua ():=by rw[Zi (by simp [ZI];omega)];rfl
  have g:ZD (Tr.holeK (.int .i64) (Ua (E[i]).1) (E[i]).1)=Ua ():=by have:Tr.holeK (.int .i64) (Ua (E[i]).1) (E[i]).1=true:=(XD rfl).2 rfl;rw[this];rfl
  simp only[show Ue ((i:Int)<(E.length:Int))=Uc from (by grind),Zd,Ze,ZJ a,Za,d];rw[show ZD _=Ua () from f];simp only[Za];rw[show ZD _=Ua () from g];simp only[Za];refine⟨_,rfl,⟨_,i+1,rfl,a,λk=>?_⟩,by omega⟩;rw[show Vf (ZW (Zr (.int .i64)) k (Kv (Zr (.int .i64)) (E[i]).1 (Vf (ZW (Zr (.int .i64)) (E[i]).1 m) []++[E[i]]) m)) []=if k=(E[i]).1 then Vf (ZW (Zr (.int .i64)) (E[i]).1 m) []++[E[i]] else Vf (ZW (Zr (.int .i64)) k m) [] by rw[Zak rfl];grind]
  rw[Vg a,List.filter_append];grind
 ·have:i=E.length:=by omega
  subst this;simp only[show Ue ((E.length:Int)<(E.length:Int))=Ud by simp,Ze];exact⟨_,rfl,λu=>by have:=c (u:Int);rw[Vgb]at this;assumption⟩
def EOk(n:Nat)(E:List YC):Prop:= ∀e∈E,0<=e.1/\e.1<n/\0<=e.2.1/\e.2.1<n/\0<=e.2.2.1/\e.2.2.1<=1073741824
theorem Zpz{n:Nat}{E:List YC}(i:EOk n E)(p:E.length<=4096){m:Adj}(l:∀u:Nat,Jm m u=E.filter λe=>Ue (e.1=(u:Int))):Zgj n m (EdL E) where
 mem:=λu q y j=>by rw[l]at j;obtain⟨h,g⟩:=List.mem_filter.1 j;have g:=Xy g;obtain⟨a,b,c,d,e,f⟩:=i y h;exact⟨y.2.1.toNat,by omega,by omega,e,f,y,h,g,by omega,rfl⟩
 all:=λu v w ⟨e,k,h,g,o⟩=>by obtain⟨a,b,_⟩:=i e k;grind
 len:=by grind
open Classical in
noncomputable def KH(Ed:Nat->Nat->Int->Prop)(i j:Nat):Int:=if h:∃d,X3 Ed i j d then h.choose else -1
theorem X3.uniq{Ed:Nat->Nat->Int->Prop}{i j:Nat}{d a:Int}(h:X3 Ed i j d)(k:X3 Ed i j a):d=a:=by have:=h.2 a k.1;have:=k.2 d h.1;omega
theorem Zat{Ed:Nat->Nat->Int->Prop}{i j:Nat}{d:Int}(h:X3 Ed i j d):KH Ed i j=d:=by unfold KH;have a:∃d,X3 Ed i j d:=⟨d,h⟩;rw[dif_pos a];exact X3.uniq a.choose_spec h
theorem Zsj{Ed:Nat->Nat->Int->Prop}{i j:Nat}(h:∀d,¬Wk Ed i j d):KH Ed i j= -1:=by unfold KH;rw[dif_neg];rintro ⟨d,a⟩;exact h d a.1
noncomputable def Yx(Ed:Nat->Nat->Int->Prop)(n:Nat):List (List Int):=(Vy n).map λi=>(Vy n).map λj=>KH Ed i j
theorem Zml{Ed:Nat->Nat->Int->Prop}{n i:Nat}(h:i<n):(Yx Ed n)[i]? =Ua ((Vy n).map λj=>KH Ed i j):=by unfold Yx;grind
theorem Zuf{n:Nat}(w:n<=64){Ed:Nat->Nat->Int->Prop}{s:Nat}{o:List XM}(h:Zgq n Ed s o):∃z,F164 o=Ua z/\z=(Vy n).map λj=>KH Ed s j:=by
 obtain⟨u,k⟩:=h;unfold F164;have g:ZD (decide ((0:Int)<=(o.length:Int)/\(o.length:Int)<=(o.length:Int)/\(o.length:Int)<=(ZI:Int)))=Ua ():=by rw[Zi (by simp [ZI];omega)];rfl
 rw[show ZD _=Ua () from g];simp only[Za,Vo];refine XJ (λst=>∃(r:List Int) (i:Nat),st=(r,(i:Int))/\r.length=n/\i<=n/\∀j,j<i->r[j]? =Ua (KH Ed s j)) (λst=>n - st.2.toNat)
  (λr=>r.length=n/\∀j,j<n->r[j]? =Ua (KH Ed s j)) ⟨_,0,rfl,by grind,Vm _,by omega⟩ ?_ ?_
 ·rintro st ⟨r,i,rfl,t,v,p⟩;by_cases d:i<n
  ·have a:i<o.length:=by omega
   have b:i<r.length:=by omega
   have f:Va .i64 ((i:Int)+1)=((i+1:Nat):Int):=by rw[ZN (by omega) (by omega)];omega
   simp only[show Ue ((i:Int)<(o.length:Int))=Uc from (by grind),Zd,ZJ a,KS b,Za,Vd b,f];refine⟨_,rfl,⟨_,i+1,rfl,by grind,d,λj q=>?_⟩,by omega⟩;by_cases e:j=i
   ·subst e;have:(o[j]).2.1=KH Ed s j:=by
     rcases k j _ (Vd a) with ⟨c,_⟩|⟨c,l⟩
     ·exact(Zat c).symm
     ·rw[l,Zsj c]
    grind
   grind
  ·have m:i=n:=by omega
   simp_all
 ·rintro r ⟨t,p⟩;refine⟨_,rfl,?_⟩;apply Veb;grind
theorem Zq9{n:Nat}(q:n<=64){E:List YC}(k:EOk n E)(p:E.length<=4096):F161 (n:Int) E []=Ua 0:=by
 have key:∃z,F161 (n:Int) E []=Ua z/\z=0:=by
  unfold F161;simp only[show Ue ((n:Int)<0)=Ud from (by rfl),Ze,Za,show Ue ((64:Int)<(n:Int))=Ud from (by grind),show Ue ((4096:Int)<(E.length:Int))=Ud from (by grind)];refine XJ (λst=>∃i:Nat,st=(i:Int)/\i<=E.length) (λst=>E.length - st.toNat) (λr=>r=.inl ()) (by grind) ?_ ?_
  ·rintro st ⟨i,rfl,o⟩;by_cases g:i<E.length
   ·have j:Va .i64 ((i:Int)+1)=((i+1:Nat):Int):=by rw[ZN (by omega) (by omega)];omega
    obtain⟨a,b,c,d,e,f⟩:=k _ (Ve g);have h:∀x:Int,0<=x->x<(n:Int)->F162 x (n:Int)=Ua false:=λx l m=>by unfold F162;grind
    simp only[show Ue ((i:Int)<(E.length:Int))=Uc from (by grind),Zd,ZJ g,Za,h _ a b,h _ c d,Ze,show Ue ((E[i]).2.2.1<0)=Ud from (by grind),
     show Ue ((1073741824:Int)<(E[i]).2.2.1)=Ud from (by grind),j]
    grind
   simp [*]
  ·rintro r rfl;simp only[Vj];refine XJ (λst=>st=(0:Int)) (λ_=>0) (λr=>r=.inl ()) rfl ?_ ?_
   all_goals simp
 grind
theorem ZpH{n:Nat}(g:n<=64){E:List YC}(h:EOk n E)(d:E.length<=4096):∃z,F160 (n:Int) E=Ua z/\z=(Yx (EdL E) n,0):=by
 unfold F160;obtain⟨m,e,f⟩:=ZuC E d;have t:=Zpz h d f;rw[Zq9 g h d];simp only[Za,decide_true,Vc,Ze,e];have l:ZD (decide ((0:Int)<=(n:Int)/\(n:Int)<=(n:Int)/\(n:Int)<=(ZI:Int)))=Ua ():=by rw[Zi (by simp [ZI];omega)];rfl
 rw[show ZD _=Ua () from l];simp only[Za,Vta,Vo];refine XJ (λst=>∃(r:List (List Int)) (i:Nat),st=(m,r,(i:Int))/\r.length=n/\i<=n/\∀j,j<i->r[j]? =(Yx (EdL E) n)[j]?) (λst=>n - st.2.2.toNat)
  (λr=>r.length=n/\∀j,j<n->r[j]? =(Yx (EdL E) n)[j]?) ⟨_,0,rfl,by simp,Vm _,by omega⟩ ?_ ?_
 ·rintro st ⟨r,i,rfl,y,A,v⟩;by_cases a:i<n
  ·have b:i<r.length:=by omega
   have k:Va .i64 ((i:Int)+1)=((i+1:Nat):Int):=by rw[ZN (by omega) (by omega)];omega
   obtain⟨⟨B,o⟩,p,rfl,q⟩:=ZtY g t a;obtain⟨_,s,rfl⟩:=Zuf g q;simp only[show Ue ((i:Int)<(n:Int))=Uc from (by grind),Zd,p,Za,s,KS b,Vd b,k];refine⟨_,rfl,⟨_,i+1,rfl,by grind,a,λj w=>?_⟩,by grind⟩;by_cases c:j=i
   ·subst c;rw[Zml a];grind
   grind
  ·have u:i=n:=by omega
   simp_all
 ·rintro r ⟨y,v⟩;refine⟨_,rfl,?_⟩;congr 1;apply Veb;intro j;by_cases x:j<n
  ·grind
  ·rw[Vua (by omega),Vua (by simp [Yx];omega)]
end Q
namespace Q
open Tr Go Gr
theorem HA.uniq{σ τ ρ:Type}{cnt:σ->Nat}{step:σ->Nat->Option (σ ⊕ τ)}{k:τ->Option ρ}(a:∀s,0<cnt s){z i:ρ}:∀{n g:Nat}{s:σ},HA cnt step k z n s->HA cnt step k i g s->z=i
 |0,_,_,h,_=>h.elim
 |_+1,0,_,_,h=>h.elim
 |n+1,g+1,s,h,c=>by
  rcases h 0 (a s) with ⟨l,d,e⟩|⟨t,d,e⟩
  ·rcases c 0 (a s) with ⟨j,b,f⟩|⟨t,b,_⟩
   ·rw[d]at b;simp only[ZL,Sum.inl.injEq]at b;subst b;exact HA.uniq a e f
   grind
  ·rcases c 0 (a s) with ⟨j,b,_⟩|⟨m,b,f⟩
   all_goals grind
theorem ZsA{σ τ ρ:Type}{cnt:σ->Nat}{step:σ->Nat->Option (σ ⊕ τ)}{k:τ->Option ρ}{s:σ}{z:ρ}{P:ρ->Prop}(n:Nat)(a:∀s,0<cnt s)(h:HA cnt step k z n s)(d:P z):∃z,Tr.drun cnt step k s=Ua z/\P z:=by
 refine⟨z,?_,d⟩;have b:∃r,Tr.drun cnt step k s=Ua r:=by
  unfold Tr.drun;split
  ·simp
  ·rw[dif_pos ⟨z,n,h⟩];simp
 obtain⟨r,c⟩:=b;obtain⟨m,e⟩:=Zk1 c;rw[c,HA.uniq a e h]
theorem Zl3{Ed c:Nat->Nat->Int->Prop}(j:∀u v w,Ed u v w->∃w',c u v w' /\w' <=w)(g:∀u v w,c u v w->∃w',Ed u v w' /\w' <=w){s v:Nat}{d:Int}:X3 Ed s v d->X3 c s v d:=by
 rintro ⟨a,b⟩;obtain⟨h,f,l⟩:=Wk.dom j a;obtain⟨i,c3,m⟩:=Wk.dom g f;have:=b i c3;have:h=d:=by omega
 subst this;refine⟨f,λe k=>?_⟩;obtain⟨q,o,p⟩:=Wk.dom g k;grind
theorem Zuv{Ed a:Nat->Nat->Int->Prop}(c:∀u v w,Ed u v w->∃w',a u v w' /\w' <=w)(e:∀u v w,a u v w->∃w',Ed u v w' /\w' <=w)(n:Nat):Yx Ed n=Yx a n:=by
 have:∀i j,KH Ed i j=KH a i j:=by
  intro i j;by_cases h:∃d,X3 Ed i j d
  ·obtain⟨d,b⟩:=h;rw[Zat b,Zat (Zl3 c e b)]
  ·have f:¬∃d,X3 a i j d:=λ⟨d,b⟩=>h ⟨d,Zl3 e c b⟩;unfold KH;grind
 unfold Yx;simp_all
abbrev Kl:=Int×Int×Int×Bool×Unit
abbrev Pr:=Int×Int×Bool×Unit
abbrev YJ:Ty:=.prod (.int .i64) (.prod (.int .i64) (.prod .bool .unit))
def DW(n:Nat)(l:List Kl):Prop:= ∀p∈l,0<=p.1/\p.1<n/\0<=p.2.1/\p.2.1<n/\1<=p.2.2.1/\p.2.2.1<=14400
def HT(free:Bool)(p:Kl):Prop:=free=Uc->p.2.2.2.1=Uc
def Kf(l:List Kl)(free:Bool)(u v:Nat)(w:Int):Prop:= ∃p∈l,HT free p/\p.1=(u:Int)/\p.2.1=(v:Int)/\p.2.2.1=w
def ZeO(e:Pr×Int):YC:=(e.1.1,e.1.2.1,e.2,())
theorem ZjW{α β:Type}(eq:α->α->Bool)(k:α)(v:β):∀l:List (α×β),(Kv eq k v l).length<=l.length+1
 |[]=>by simp [Kv]
 |e::l=>by
  simp only[Kv]
  cases eq k e.1 with
  |true=>simp
  |false=>simp only[Ze,Vfb];have:=ZjW eq k v l;omega
structure Xs (free:Bool) (l:List Kl) (b:List (Pr×Int)):Prop where
 nodup:(b.map Prod.fst).Nodup
 len:b.length<=l.length
 snd:∀e∈b,∃p∈l,HT free p/\e.1=(p.1,p.2.1,Ud,())/\e.2=p.2.2.1
 all:∀p∈l,HT free p->∃w,ZW (Zr YJ) (p.1,p.2.1,Ud,()) b=Ua w/\w<=p.2.2.1
theorem Xs.more{free:Bool}{l:List Kl}{b a:List (Pr×Int)}{p:Kl}(h:Xs free l b)(f:(a.map Prod.fst).Nodup)(o:a.length<=b.length+1)(g:∀e∈a,e∈b\/(HT free p/\e.1=(p.1,p.2.1,Ud,())/\e.2=p.2.2.1))
 (r:∀k w,ZW (Zr YJ) k b=Ua w->∃w',ZW (Zr YJ) k a=Ua w' /\w' <=w) (s:HT free p->∃w,ZW (Zr YJ) (p.1,p.2.1,Ud,()) a=Ua w/\w<=p.2.2.1):Xs free (l++[p]) a where
 nodup:=f
 len:=by have:=h.len;grind
 snd:=λe j=>by
  rcases g e j with c|c
  ·obtain⟨q,d,i⟩:=h.snd e c;grind
  grind
 all:=λq d m=>by
  rcases Voa.1 d with c|c
  ·obtain⟨w,i,t⟩:=h.all q c m;grind
  grind
theorem Zk6{α:Type}:∀{l:List α}{i:Nat} (h:i<l.length),(l[i]::l.eraseIdx i).Perm l
 |[],i,h=>by grind
 |x::l,0,_=>.refl _
 |x::l,i+1,h=>by
  have a:i<l.length:=by grind
  simp only[List.getElem_cons_succ,List.eraseIdx_cons_succ];exact(List.Perm.swap _ _ _).trans (List.Perm.cons _ (Zk6 a))
theorem ZkX{n:Nat}(hn:n<=64){l:List Kl}(hF:DW n l)(hl:l.length<=4096)(free:Bool):∃z,F41 l (n:Int) free=Ua z/\z=Yx (Kf l free) n:=by
 unfold F41;refine XJ (λst=>∃(b:List (Pr×Int)) (i:Nat),st=(b,(i:Int))/\i<=l.length/\Xs free (l.take i) b) (λst=>l.length - st.2.toNat)
  (λb=>Xs free l b) ⟨[],0,rfl,Vm _,⟨by simp,by simp,by simp,by simp⟩⟩ ?_ ?_
 ·rintro st ⟨b,i,rfl,F,j⟩;by_cases A:i<l.length
  ·have X:Va .i64 ((i:Int)+1)=((i+1:Nat):Int):=by rw[ZN (by omega) (by omega)];omega
   simp only[show Ue ((i:Int)<(l.length:Int))=Uc from (by grind),Zd,ZJ A,Za,X];have o:l.take (i+1)=l.take i++[l[i]]:=Vg A;have stay:(HT free l[i]->∃w,ZW (Zr YJ) ((l[i]).1,(l[i]).2.1,Ud,()) b=Ua w/\w<=(l[i]).2.2.1)->Xs free (l.take (i+1)) b:=λK=>by rw[o];exact j.more j.nodup (by omega) (by grind) (by grind) K
   have put:HT free l[i]->(∀w,ZW (Zr YJ) ((l[i]).1,(l[i]).2.1,Ud,()) b=Ua w->(l[i]).2.2.1<=w)->Xs free (l.take (i+1)) (Kv (Zr YJ) ((l[i]).1,(l[i]).2.1,Ud,()) (l[i]).2.2.1 b):=λB hw=>by
    rw[o];refine j.more (ZgM (t:=YJ) (β:=Int) rfl j.nodup) (ZjW _ _ _ _) (λe E=>?_) (λk w h=>?_) λ_=>⟨(l[i]).2.2.1,by rw[Zak rfl,Zn rfl],Via _⟩
    ·obtain⟨k',x⟩:=e;rcases Zfh (t:=YJ) rfl j.nodup E with ⟨rfl,rfl⟩|⟨_,h6⟩
     all_goals grind
    ·rw[Zak rfl];grind
   have U:Zr Yl=Zr YJ:=rfl;have rest:HT free l[i]->∃z,(Vb
         (bif !Vka (ZW (Zr YJ) ((l[i]).1,(l[i]).2.1,Ud,()) b) then Ua Uc
         else Ua (decide ((l[i]).2.2.1<Vf (ZW (Zr YJ) ((l[i]).1,(l[i]).2.1,Ud,()) b) (0:Int))))
         λx3=>
         bif x3 then Ua (Sum.inl (Kv (Zr YJ) ((l[i]).1,(l[i]).2.1,Ud,()) (l[i]).2.2.1 b,((i+1:Nat):Int)))
         else Ua (Sum.inl (b,((i+1:Nat):Int))))=Ua (z:(List (Pr×Int)×Int) ⊕ List (Pr×Int))/\
         Vlb (λW=>(∃(b:List (Pr×Int)) (i:Nat),W=(b,(i:Int))/\i<=l.length/\Xs free (l.take i) b)/\l.length - W.2.toNat<l.length - ((i:Nat):Int).toNat) (λb=>Xs free l b) z:=by
    intro B
    cases hg:ZW (Zr YJ) ((l[i]).1,(l[i]).2.1,Ud,()) b with
    |none=>
     simp only[Option.isSome_none,Vp,Zd,Za]
     grind
    |some w=>
     simp only[Option.isSome_some,Vc,Ze,Option.getD_some,Za];by_cases a1:(l[i]).2.2.1<w
     ·simp only[show Ue ((l[i]).2.2.1<w)=Uc from (by grind),Zd];grind
     ·simp only[show Ue ((l[i]).2.2.1<w)=Ud from (by grind),Ze];grind
   cases m:free with
   |false=>
    simp only[Ze,Za];have:=rest (λh=>by grind)
    grind
   |true=>
    simp only[Zd,Za]
    cases O:(l[i]).2.2.2.1 with
    |true=>
     simp only[Vc,Ze];have:=rest (λ_=>O)
     grind
    |false=>
     simp only[Vp,Zd];refine⟨_,rfl,⟨b,i+1,rfl,A,?_⟩,by omega⟩;rw[<-m];exact stay λB=>by have:=B m;grind
  ·have a0:i=l.length:=by omega
   simp_all
 ·intro b j;have Y:ZD (decide ((0:Int)<=(0:Int)/\(0:Int)<=(b.length:Int)/\(b.length:Int)<=(ZI:Int)))=Ua ():=by have:=j.len;rw[Zi (by simp [ZI];omega)];rfl
  rw[show ZD _=Ua () from Y];simp only[Za];have T:∀es:List YC,es.Perm (b.map ZeO)->F160 (n:Int) es=Ua (Yx (Kf l free) n,0):=by
   intro es y;have G:es.length<=4096:=by have:=y.length_eq;have:=j.len;grind
   have N:EOk n es:=λe E=>by
    obtain⟨x,P,rfl⟩:=Vdb.1 (y.mem_iff.1 E);obtain⟨p,g,_,J,M⟩:=j.snd x P;obtain⟨a,b',c,d,e,f⟩:=hF p g;have Z:x.1.1=p.1/\x.1.2.1=p.2.1:=by grind
    show 0<=x.1.1/\x.1.1<n/\0<=x.1.2.1/\x.1.2.1<n/\0<=x.2/\x.2<=1073741824;omega
   obtain⟨z,hz,rfl⟩:=ZpH hn N G;rw[hz];congr 2;refine Zuv (λu v w ⟨e,E,J,M,h3⟩=>?_) (λu v w ⟨p,g,B,J,M,h3⟩=>?_) n
   ·obtain⟨x,P,rfl⟩:=Vdb.1 (y.mem_iff.1 E);obtain⟨p,g,B,S,K⟩:=j.snd x P;have D:x.1.1=p.1/\x.1.2.1=p.2.1:=by grind
    refine⟨w,⟨p,g,B,?_,?_,?_⟩,Via _⟩
    ·rw[<-D.1];assumption
    ·rw[<-D.2];assumption
    ·rw[<-K];assumption
   ·obtain⟨w',S,K⟩:=j.all p g B;have H:=Zeb (t:=YJ) rfl S;refine⟨w',⟨_,y.mem_iff.2 (Vdb.2 ⟨_,H,rfl⟩),J,M,rfl⟩,by omega⟩
  refine ZsA (z:=Yx (Kf l free) n) (b.length+1) (λs=>?_) ?_ rfl
  ·grind
  ·have key:∀(r:Nat) (es:List YC) (rest:List (Pr×Int)),rest.length=r->(es++rest.map ZeO).Perm (b.map ZeO)->
    HA (λq:List YC×List (Pr×Int)=>bif Vqb q.snd then(1:Nat) else Vr q.snd)
     (λq V=>bif Vqb q.snd then Ua (Sum.inr q.fst)
       else Vb q.snd[V]? λC=>
        Vb (ZD (decide (Vr q.fst+Vr [((C.fst.fst,C.fst.snd.fst,C.snd,()):YC)]<=ZI))) λ_=>
         Ua (Sum.inl (q.fst++[(C.fst.fst,C.fst.snd.fst,C.snd,())],List.eraseIdx q.snd V)))
     (λQ=>Vb (F160 (n:Int) Q) λR=>Ua R.fst) (Yx (Kf l free) n) (r+1) (es,rest):=by
    intro r
    induction r with
    |zero=>
     intro es rest hr y i F
     grind
    |succ r ih=>
     intro es rest hr y i F;have I:rest.isEmpty=false:=by grind
     simp only[I,Ze]at F;left;have g:=y.length_eq;have:=j.len;simp only[Vw,Vmb]at g;have L:ZD (decide (es.length+ [(((rest[i]).1.1,(rest[i]).1.2.1,(rest[i]).2,()):YC)].length<=ZI))=Ua ():=by rw[Zi (by simp [ZI];omega)];rfl
     refine⟨(es++[ZeO rest[i]],rest.eraseIdx i),?_,ih _ _ (by grind) ?_⟩
     ·simp only[I,Ze,Vd F,Za];rw[show ZD _=Ua () from L];rfl
     ·refine List.Perm.trans ?_ y;have J:(rest[i]::rest.eraseIdx i).Perm rest:=Zk6 F;grind
   grind
end Q
namespace Q
open Tr Go Gr
def Jz:Int:=1099511627776
def gm(m:List (List Int))(i j:Nat):Int:=(((m[i]?).getD [])[j]?).getD 0
def Gk(n:Nat)(m:List (List Int)):Prop:=m.length=n/\∀(i:Nat) (r:List Int),m[i]? =Ua r->r.length=n
def upd(m:List (List Int))(i j:Nat)(v:Int):List (List Int):=m.set i (((m[i]?).getD []).set j v)
theorem Gk.row{n:Nat}{m:List (List Int)}(h:Gk n m){i:Nat}(a:i<n):∃r,m[i]? =Ua r/\r.length=n:=by
 have:i<m.length:=by rw[h.1];omega
 exact⟨m[i],by simp,h.2 i _ (by simp)⟩
theorem Gk.upd{n:Nat}{m:List (List Int)}(h:Gk n m){i:Nat}(c:i<n)(j:Nat)(v:Int):Gk n (upd m i j v):=by
 obtain⟨r,e,f⟩:=h.row c;refine⟨by simp [Q.upd];exact h.1,λk d a=>?_⟩;unfold Q.upd at a;by_cases b:i=k
 ·grind
 ·rw[Vfa b]at a;exact h.2 k d a
theorem Zc4{n:Nat}{m:List (List Int)}(h:Gk n m){i j:Nat}(c:i<n)(f:j<n)(v:Int)(a b:Nat):gm (upd m i j v) a b=if a=i/\b=j then v else gm m a b:=by obtain⟨r,d,e⟩:=h.row c;unfold gm upd;grind
theorem Zb7{n:Nat}{m:List (List Int)}(h:Gk n m){i j:Nat}(_hi:i<n)(c:j<n){r:List Int}(a:m[i]? =Ua r):r[j]? =Ua (gm m i j):=by have b:=h.2 i r a;unfold gm;grind
structure X2 (Ed:Nat->Nat->Int->Prop) (n k:Nat) (m:List (List Int)):Prop where
 shp:Gk n m
 snd:∀i j,i<n->j<n->gm m i j=Jz\/(gm m i j<=Jz/\Wb Ed n i j (gm m i j))
 all:∀i j d,i<n->j<n->Wb Ed k i j d->gm m i j<=d
theorem X2.bnd{Ed:Nat->Nat->Int->Prop}(e:∀u v w,Ed u v w->0<=w){n k:Nat}{m:List (List Int)}(h:X2 Ed n k m){i j:Nat}(c:i<n)(d:j<n):0<=gm m i j/\gm m i j<=Jz:=by
 rcases h.snd i j c d with a|⟨a,b⟩
 ·rw[a];unfold Jz;omega
 ·exact⟨b.nonneg e,a⟩
theorem X2.step{Ed:Nat->Nat->Int->Prop}(p:∀u v w,Ed u v w->0<=w){n k:Nat}{m:List (List Int)}(h:X2 Ed n k m){i j:Nat}(c:i<n)(e:j<n)(f:k<n):
 X2 Ed n k (upd m i j (min (gm m i j) (gm m i k+gm m k j)))/\(∀d,Wb Ed (k+1) i j d->min (gm m i j) (gm m i k+gm m k j)<=d)/\min (gm m i j) (gm m i k+gm m k j)<=gm m i j:=by
 have B:=h.bnd p c e;have C:=h.bnd p c f;have D:=h.bnd p f e;refine⟨⟨h.shp.upd c j _,λa b q r=>?_,λa b d q r s=>?_⟩,λd s=>?_,Int.min_le_left _ _⟩
 ·rw[Zc4 h.shp c e];by_cases l:a=i/\b=j
  ·obtain⟨rfl,rfl⟩:=l;rw[Zn ⟨rfl,rfl⟩];by_cases t:gm m a b<=gm m a k+gm m k b
   ·rw[Int.min_eq_left t];exact h.snd a b c e
   ·rw[Vhb (by omega)];right;refine⟨by omega,?_⟩;rcases h.snd a k c f with o|⟨_,o⟩
    ·omega
    ·rcases h.snd k b f e with g|⟨_,g⟩
     ·omega
     ·exact o.app f g
  ·rw[Zg l];exact h.snd a b q r
 ·rw[Zc4 h.shp c e];have:=h.all a b d q r s;grind
 ·rcases s.round p with ⟨x,o,g⟩|⟨y,z,o,g,A⟩
  ·have:=h.all i j x c e g;omega
  ·have:=h.all i k y c f g;have:=h.all k j z f e A;omega
structure YL (Ed:Nat->Nat->Int->Prop) (n k a b:Nat) (m:List (List Int)):Prop where
 ent:X2 Ed n k m
 done:∀i j d,i<n->j<n->(i<a\/i=a/\j<b)->Wb Ed (k+1) i j d->gm m i j<=d
theorem YL.step{Ed:Nat->Nat->Int->Prop}(r:∀u v w,Ed u v w->0<=w){n k a b:Nat}{m:List (List Int)}(h:YL Ed n k a b m)(e:a<n)(f:b<n)(q:k<n):YL Ed n k a (b+1) (upd m a b (min (gm m a b) (gm m a k+gm m k b))):=by
 obtain⟨g,s,t⟩:=h.ent.step r e f q;refine⟨g,λi j d o p x l=>?_⟩;rw[Zc4 h.ent.shp e f];by_cases c:i=a/\j=b
 ·grind
 ·rw[Zg c];exact h.done i j d o p (by omega) l
theorem YL.next{Ed:Nat->Nat->Int->Prop}{n k a:Nat}{m:List (List Int)}(h:YL Ed n k a n m):YL Ed n k (a+1) 0 m:=
 ⟨h.ent,λi j d c e f b=>h.done i j d c e (by omega) b⟩
theorem YL.fin{Ed:Nat->Nat->Int->Prop}{n k:Nat}{m:List (List Int)}(h:YL Ed n k n 0 m):X2 Ed n (k+1) m:=
 ⟨h.ent.shp,h.ent.snd,λi j d a c b=>h.done i j d a c (.inl a) b⟩
theorem YL.start{Ed:Nat->Nat->Int->Prop}{n k:Nat}{m:List (List Int)}(h:X2 Ed n k m):YL Ed n k 0 0 m:=
 ⟨h,by omega⟩
theorem ZlE(a b:Int):Tr.imin a b=min a b:=by unfold Tr.imin;omega
theorem Zn6{n:Nat}(hn:n<=64){l:List Kl}(hF:DW n l)(hl:l.length<=4096)(free:Bool):∃z,F121 l (n:Int) free=Ua z/\X2 (Kf l free) n n z:=by
 have R:∀u v w,Kf l free u v w->0<=w:=λu v w ⟨p,F,_,_,_,h⟩=>by have:=hF p F;omega
 unfold F121;refine XJ (λst=>∃i:Nat,st=(Vh i (Vh n Jz),(i:Int))/\i<=n) (λst=>n - st.2.toNat)
  (λr=>r=Vh n (Vh n Jz)) (by grind) ?_ ?_
 ·rintro st ⟨i,rfl,hi⟩;by_cases c:i<n
  ·have K:Va .i64 ((i:Int)+1)=((i+1:Nat):Int):=by rw[ZN (by omega) (by omega)];omega
   simp only[show Ue ((i:Int)<(n:Int))=Uc from (by grind),Zd,K];refine XJ (λst=>∃j:Nat,st=(Vh i (Vh n Jz),Vh j Jz,(j:Int))/\j<=n) (λst=>n - st.2.2.toNat)
    (λr=>r=(Vh i (Vh n Jz),Vh n Jz)) (by grind) ?_ ?_
   ·rintro st ⟨j,rfl,hj⟩;by_cases a4:j<n
    ·have U:Va .i64 ((j:Int)+1)=((j+1:Nat):Int):=by rw[ZN (by omega) (by omega)];omega
     simp only[show Ue ((j:Int)<(n:Int))=Uc from (by grind),Zd,U];rw[DE (by grind)];simp only[Za];refine⟨_,rfl,⟨j+1,?_,a4⟩,by grind⟩;rw[Vwa];rfl
    ·have:j=n:=by omega
     simp_all
   ·rintro r rfl;simp only;rw[DE (by grind)];simp only[Za];refine⟨_,rfl,⟨i+1,?_,c⟩,by omega⟩;rw[Vwa]
  ·have:i=n:=by omega
   simp_all
 ·rintro r rfl;have W:Gk n (Vh n (Vh n Jz)):=⟨by simp,by grind⟩;have c1:∀i j,i<n->j<n->gm (Vh n (Vh n Jz)) i j=Jz:=λi j hi hj=>by unfold gm;grind
  refine XJ (λst=>∃(m:List (List Int)) (i:Nat),st=(m,(i:Int))/\i<=l.length/\Gk n m/\(∀a b,a<n->b<n->gm m a b=Jz\/(gm m a b<=Jz/\Wb (Kf l free) n a b (gm m a b)))/\
   ∀p∈l.take i,HT free p->gm m p.1.toNat p.2.1.toNat<=p.2.2.1) (λst=>l.length - st.2.toNat)
   (λm=>X2 (Kf l free) n 0 m) ⟨_,0,rfl,Vm _,W,by grind,by simp⟩ ?_ ?_
  ·rintro st ⟨m,i,rfl,hi,o,B,s⟩;by_cases c:i<l.length
   ·have K:Va .i64 ((i:Int)+1)=((i+1:Nat):Int):=by rw[ZN (by omega) (by omega)];omega
    obtain⟨p1,p2,p3,p4,p5,p6⟩:=hF _ (Ve c);have H:l.take (i+1)=l.take i++[l[i]]:=Vg c;obtain⟨u,hu⟩:∃u:Nat,(l[i]).1=(u:Int):=by grind
    obtain⟨v,hv⟩:∃v:Nat,(l[i]).2.1=(v:Int):=by grind
    have y:u<n:=by omega
    have I:v<n:=by omega
    obtain⟨row,x,c4⟩:=o.row y;have D:=Zb7 o y I x;have a8:u<m.length:=by grind
    simp only[show Ue ((i:Int)<(l.length:Int))=Uc from (by grind),Zd,K,ZJ c,Za];have stay:¬HT free l[i]->∃z,Ua (Sum.inl (m,((i+1:Nat):Int)):(List (List Int)×Int) ⊕ List (List Int))=Ua z/\Vlb (λO:List (List Int)×Int=>(∃(m:List (List Int)) (i:Nat),O=(m,(i:Int))/\i<=l.length/\Gk n m/\(∀a b,a<n->b<n->gm m a b=Jz\/(gm m a b<=Jz/\Wb (Kf l free) n a b (gm m a b)))/\
     ∀p∈l.take i,HT free p->gm m p.1.toNat p.2.1.toNat<=p.2.2.1)/\l.length - O.2.toNat<l.length - ((i:Nat):Int).toNat) (λm=>X2 (Kf l free) n 0 m) z:=λA=>by
     refine⟨_,rfl,⟨m,i+1,rfl,c,o,B,λp F M=>?_⟩,by omega⟩;grind
    have put:HT free l[i]->∀b:Bool,b=Uc->∃z,(bif b then
             Vb (Zv (u:Int) (Vr m)) λT=>
              Vb m[T]? λ_=>
               Vb (Zv (u:Int) (Vr m)) λJ=>
                Vb m[J]? λ_=>
                 Vb (idx m (J:Int)) λb0=>
                  Vb (Zv (v:Int) (Vr b0)) λb4=>
                   Vb (idx m (J:Int)) λb5=>
                    Vb b5[b4]? λb6=>
                     Vb (idx m (T:Int)) λb7=>
                      Vb (Zv (v:Int) (Vr b7)) λP=>
                       Vb (idx m (T:Int)) λQ=>
                        Vb Q[P]? λ_=>
                         Ua
                          (Sum.inl (Vaa m (Int.toNat (T:Int)) (Vaa Q P (Tr.imin b6 (l[i]).2.2.1)),((i+1:Nat):Int)))
          else Ua (Sum.inl (m,((i+1:Nat):Int))))=Ua (z:(List (List Int)×Int) ⊕ List (List Int))/\Vlb (λO:List (List Int)×Int=>(∃(m:List (List Int)) (i:Nat),O=(m,(i:Int))/\i<=l.length/\Gk n m/\(∀a b,a<n->b<n->gm m a b=Jz\/(gm m a b<=Jz/\Wb (Kf l free) n a b (gm m a b)))/\
     ∀p∈l.take i,HT free p->gm m p.1.toNat p.2.1.toNat<=p.2.2.1)/\l.length - O.2.toNat<l.length - ((i:Nat):Int).toNat) (λm=>X2 (Kf l free) n 0 m) z:=by
     rintro A b rfl;have a9:v<row.length:=by omega
     have L:idx m (u:Int)=Ua row:=by assumption
     simp only[Zd,KS a8,Za,x,L,KS a9,D,Vo];have t:Vaa m u (Vaa row v (Tr.imin (gm m u v) (l[i]).2.2.1))=upd m u v (min (gm m u v) (l[i]).2.2.1):=by unfold upd;rw[x,ZlE];rfl
     rw[t];have a1:Kf l free u v (l[i]).2.2.1:=⟨_,Ve c,A,hu,hv,rfl⟩;refine⟨_,rfl,⟨_,i+1,rfl,c,o.upd y v _,λa b ha hb=>?_,λp F M=>?_⟩,by omega⟩
     ·rw[Zc4 o y I];by_cases X:a=u/\b=v
      ·obtain⟨rfl,rfl⟩:=X;rw[Zn ⟨rfl,rfl⟩];by_cases c2:gm m a b<=(l[i]).2.2.1
       ·grind
       ·rw[Vhb (by omega)];exact .inr ⟨by grind,.one a1⟩
      grind
     ·rw[Zc4 o y I];rw[H]at F;rcases Voa.1 F with h|h
      ·have:=s p h M;grind
      ·simp at h;grind
    simp only[hu,hv]
    cases a7:(l[i]).2.2.2.1 with
    |true=>
     simp only[Zd,Za]
     exact put (λ_=>a7) Uc rfl
    |false=>
     simp only[Ze,Za]
     cases E:free with
     |false=>
      have:=put (λh=>by grind) Uc rfl;rw[E]at this
      grind
     |true=>
      have:=stay (λh=>by have:=h E;grind);rw[E]at this;grind
   ·have:i=l.length:=by omega
    subst this;simp only[show Ue ((l.length:Int)<(l.length:Int))=Ud from (by simp),Ze];rw[Vgb]at s;refine⟨_,rfl,o,B,λa b d ha hb hd=>?_⟩
    cases hd with
    |one e=>
     obtain⟨p,F,A,h1,h2,rfl⟩:=e;have:=s p F A
     simp_all
    |cons e A _=>omega
  ·intro m V;refine XJ (λst=>∃(m:List (List Int)) (k:Nat),st=(m,(k:Int))/\k<=n/\X2 (Kf l free) n k m) (λst=>n - st.2.toNat) (λm=>X2 (Kf l free) n n m) ⟨m,0,rfl,Vm _,V⟩ ?_ (by simp);rintro st ⟨m,k,rfl,hk,V⟩;by_cases g:k<n
   ·have K:Va .i64 ((k:Int)+1)=((k+1:Nat):Int):=by rw[ZN (by omega) (by omega)];omega
    simp only[show Ue ((k:Int)<(n:Int))=Uc from (by grind),Zd,K];refine XJ (λst=>∃(m:List (List Int)) (a:Nat),st=(m,(a:Int))/\a<=n/\YL (Kf l free) n k a 0 m) (λst=>n - st.2.toNat) (λm=>YL (Kf l free) n k n 0 m) ⟨m,0,rfl,Vm _,YL.start V⟩ ?_ (λm A=>⟨_,rfl,⟨m,k+1,rfl,g,A.fin⟩,by omega⟩);rintro st ⟨m,a,rfl,ha,C⟩;by_cases f:a<n
    ·have U:Va .i64 ((a:Int)+1)=((a+1:Nat):Int):=by rw[ZN (by omega) (by omega)];omega
     simp only[show Ue ((a:Int)<(n:Int))=Uc from (by grind),Zd,U];refine XJ (λst=>∃(m:List (List Int)) (b:Nat),st=(m,(b:Int))/\b<=n/\YL (Kf l free) n k a b m) (λst=>n - st.2.toNat) (λm=>YL (Kf l free) n k a n m) ⟨m,0,rfl,Vm _,C⟩ ?_ (λm A=>⟨_,rfl,⟨m,a+1,rfl,f,A.next⟩,by omega⟩)
     rintro st ⟨m,b,rfl,hb,C⟩;by_cases q:b<n
     ·have e3:Va .i64 ((b:Int)+1)=((b+1:Nat):Int):=by rw[ZN (by omega) (by omega)];omega
      have o:=C.ent.shp;obtain⟨S,G,b8⟩:=o.row f;obtain⟨rk,N,b9⟩:=o.row g;have Y:a<m.length:=by grind
      have a6:k<m.length:=by grind
      have a2:idx m (a:Int)=Ua S:=by assumption
      have a3:idx m (k:Int)=Ua rk:=by assumption
      have Z:b<S.length:=by omega
      have a0:b<rk.length:=by omega
      have a5:k<S.length:=by omega
      have b1:=C.ent.bnd R f q;have b2:=C.ent.bnd R f g;have b3:=C.ent.bnd R g q;have e4:Va .i64 (gm m a k+gm m k b)=gm m a k+gm m k b:=ZN (by omega) (by unfold Jz at*;omega);simp only[show Ue ((b:Int)<(n:Int))=Uc from (by grind),Zd,e3,KS Y,KS a6,Za,G,N,a2,a3,KS Z,KS a0,KS a5,Zb7 o f q G,Zb7 o f g G,Zb7 o g q N,e4,Vo,ZlE];have t:Vaa m a (Vaa S b (min (gm m a b) (gm m a k+gm m k b)))=upd m a b (min (gm m a b) (gm m a k+gm m k b)):=by unfold upd;grind
      rw[t];exact⟨_,rfl,⟨_,b+1,rfl,q,C.step R f q g⟩,by omega⟩
     ·have:b=n:=by omega
      simp_all
    ·have:a=n:=by omega
     simp_all
   ·have:k=n:=by omega
    simp_all
end Q
namespace Q
open Tr Go
abbrev JH:=Int×Int×Int×Bool×Unit
def GA(a b:JH):Prop:=a.1<b.1\/(a.1=b.1/\(a.2.1<b.2.1\/(a.2.1=b.2.1/\a.2.2.1<b.2.2.1)))
def XU(a b:Int):Int:=if a<b then -1 else if b<a then 1 else 0
theorem ZkM(a b:Int):F8 a b=Ua (XU a b):=by unfold F8 F10 XU;grind
theorem Zu1(x y z:Int):F9 [x,y,z]=Ua (if x≠0 then x else if y≠0 then y else z):=by
 unfold F9;have h:Va .i64 (0+1:Int)=1:=by decide
 have i:Va .i64 (1+1:Int)=2:=by decide
 have j:Va .i64 (2+1:Int)=3:=by decide
 have e:idx [x,y,z] 0=Ua x:=rfl;have f:idx [x,y,z] 1=Ua y:=rfl;have g:idx [x,y,z] 2=Ua z:=rfl;have a:(([x,y,z]:List Int).length:Int)=3:=rfl;rw[ZdB];simp only[a,show Ue ((0:Int)<3)=Uc from rfl,Zd,e,Za,h];by_cases b:x=0
 ·subst b;simp only[decide_true,Vc,Ze,Za,Vj];rw[ZdB];simp only[show Ue ((1:Int)<3)=Uc from rfl,Zd,f,Za,i];by_cases c:y=0
  ·subst c;simp only[decide_true,Vc,Ze,Za,Vj];rw[ZdB];simp only[show Ue ((2:Int)<3)=Uc from rfl,Zd,g,Za,j];by_cases d:z=0
   ·subst d;rfl
   grind
  grind
 grind
def c3(a b:JH):Int:=if XU a.1 b.1≠0 then XU a.1 b.1 else if XU a.2.1 b.2.1≠0 then XU a.2.1 b.2.1 else XU a.2.2.1 b.2.2.1
theorem ZqR(a b:JH):F40 a b=Ua (c3 a b):=by unfold F40;simp only[ZkM,Za];rw[show F9 [XU a.1 b.1,XU a.2.1 b.2.1,XU a.2.2.1 b.2.2.1]=_ from Zu1 _ _ _];rfl
theorem ZqP(a b:JH):c3 a b<0↔GA a b:=by unfold c3 GA XU;omega
theorem ZqQ(a b:JH):0<c3 a b↔GA b a:=by unfold c3 GA XU;omega
def Srt(l:List JH):Prop:=l.Pairwise GA
theorem ZwH{l:List JH}(h:Srt l)(d:l.length<16384):F181 l ()=Ua l:=by
 unfold F181;refine Tr.sortF_sorted GA l (by omega) (λx _ y _=>⟨_,ZqR x y,ZqP x y,ZqQ x y⟩) (λx _=>?_) (λa _ b _ c _=>?_) h
 ·unfold GA;omega
 ·unfold GA;omega
end Q
namespace Q
open Tr Go Gr
def JF(a b:Nat)(d f:Int):List JH:=
 (if 0<d/\d<=14400 then [((a:Int),(b:Int),d,Ue (f=d),())] else [])++(if f=d then [] else if 0<f/\f<=14400 then [((a:Int),(b:Int),f,Uc,())] else [])
def XW(a b:Nat)(e g:Int):List JH:=
 if 14400<e then [] else((a:Int),(b:Int),e,Ue (g=e),())::(if e<g/\g<=14400 then [((a:Int),(b:Int),g,Uc,())] else [])
def Rel(d e:Int):Prop:=(e=d/\1<=d)\/(e=Jz/\(d= -1\/Jz<=d))
theorem ZtO{a b:Nat}{d e f g:Int}(j:Rel d e)(k:Rel f g)(l:f= -1\/(d≠ -1/\d<=f)):JF a b d f=XW a b e g:=by
 unfold Rel Jz at*;unfold JF XW;by_cases c:0<d/\d<=14400
 ·have h:e=d:=by omega
  subst h;rw[Zn c,Zg (show¬(14400:Int)<e by omega)];by_cases i:f=e
  ·grind
  ·rw[Zg i];have m:¬g=e:=by omega
   grind
 ·rw[Zg c,Zn (show (14400:Int)<e by omega)];grind
theorem ZlT(a b:Nat)(d f:Int):(JF a b d f).length<=2:=by unfold JF;grind
theorem ZkC{a b:Nat}{d:Int}{s:Bool}{out:List JH}(h:out.length<4294967295):F39 (a:Int) (b:Int) d s out=Ua (out++if 0<d/\d<=14400 then [((a:Int),(b:Int),d,s,())] else []):=by
 unfold F39;by_cases c:0<d
 ·by_cases e:d<=14400
  ·simp only[show Ue ((0:Int)<d)=Uc from Zi c,Zd,Za,show Ue (d<=(14400:Int))=Uc from Zi e];rw[DE (by grind),Zn ⟨c,e⟩];rfl
  grind
 grind
section
variable (it:Nat->Nat->List JH) (n:Nat)
def XZ(a m:Nat):List JH:=(Vy m).flatMap λb=>if a=b then [] else it a b
def WX(m:Nat):List JH:=(Vy m).flatMap λa=>XZ it a n
end
theorem De(it:Nat->Nat->List JH)(a m:Nat):XZ it a (m+1)=XZ it a m++if a=m then [] else it a m:=by unfold XZ;rw[Vnb,Vza];simp
theorem ZcA(it:Nat->Nat->List JH)(n m:Nat):WX it n (m+1)=WX it n m++XZ it m n:=by unfold WX;rw[Vnb,Vza];simp
theorem ZfC{it:Nat->Nat->List JH}(h:∀a b,(it a b).length<=2)(a:Nat):∀m,(XZ it a m).length<=2*m
 |0=>by simp [XZ]
 |m+1=>by rw[De,Vw];have:=ZfC h a m;grind
theorem ZjV{it:Nat->Nat->List JH}(h:∀a b,(it a b).length<=2)(n:Nat):∀m,(WX it n m).length<=2*n*m
 |0=>by simp [WX]
 |m+1=>by rw[ZcA,Vw];have:=ZjV h n m;have:=ZfC h m n;grind
theorem Zd9{it:Nat->Nat->List JH}(h:∀a b,(it a b).length<=2){n m:Nat}(f:n<=64)(e:m<=n):(WX it n m).length<=8192:=by have c:=ZjV h n m;have d:2*n*m<=2*64*64:=Nat.mul_le_mul (by omega) (by omega);omega
theorem ZpE{it c:Nat->Nat->List JH}{n m:Nat}(g:m<=n)(h:∀a b,a<n->b<n->a≠b->it a b=c a b):WX it n m=WX c n m:=by
 induction m with
 |zero=>rfl
 |succ m e=>
  rw[ZcA,ZcA,e (by omega)];congr 1;have:∀k,k<=n->XZ it m k=XZ c m k:=by
   intro k
   induction k with
   |zero=>intro _;rfl
   |succ k d=>
    intro f;rw[De,De,d (by omega)];grind
  grind
theorem ZpG{it:Nat->Nat->List JH}{n m:Nat}(e:∀a b x,x∈it a b->x.1=(a:Int)/\x.2.1=(b:Int))(l:∀a b,(it a b).Pairwise λx y=>x.2.2.1<y.2.2.1):Srt (WX it n m):=by
 show (WX it n m).Pairwise GA
 ·unfold WX;rw[Vva];refine⟨λa _=>?_,?_⟩
  ·unfold XZ;rw[Vva];refine⟨λb _=>?_,?_⟩
   ·split
    ·simp
    ·refine List.Pairwise.imp_of_mem ?_ (l a b);intro x y c d q;obtain⟨g,h⟩:=e a b x c;obtain⟨i,j⟩:=e a b y d;unfold GA;omega
   ·refine List.Pairwise.imp ?_ Vpa;intro b f p x c y d;split at c
    ·grind
    ·split at d
     ·grind
     ·obtain⟨g,h⟩:=e a b x c;obtain⟨i,j⟩:=e a f y d;unfold GA;omega
  ·refine List.Pairwise.imp ?_ Vpa;intro a k o x c y d;unfold XZ at c d;obtain⟨b,_,c⟩:=Vib.1 c;obtain⟨f,_,d⟩:=Vib.1 d;split at c
   ·grind
   ·split at d
    ·grind
    ·obtain⟨g,h⟩:=e a b x c;obtain⟨i,j⟩:=e k f y d;unfold GA;omega
theorem ZtL{a b:Nat}{d f:Int}{x:JH}(h:x∈JF a b d f):x.1=(a:Int)/\x.2.1=(b:Int):=by unfold JF at h;grind
theorem Zg4{n:Nat}(m:n<=64){l:List Kl}(hF:DW n l)(s:l.length<=4096)
 (q:∀a b,KH (Kf l Uc) a b= -1\/KH (Kf l Ud) a b<=KH (Kf l Uc) a b):
 F38 l (n:Int)=Ua (WX (λa b=>JF a b (KH (Kf l Ud) a b) (KH (Kf l Uc) a b)) n n):=by
 have key:∃z,F38 l (n:Int)=Ua z/\z=WX (λa b=>JF a b (KH (Kf l Ud) a b) (KH (Kf l Uc) a b)) n n:=by
  unfold F38;obtain⟨_,v,rfl⟩:=ZkX m hF s Ud;obtain⟨_,w,rfl⟩:=ZkX m hF s Uc;rw[v];simp only[Za];rw[w];simp only[Za];have i:∀Ed,(Yx Ed n).length=n:=λEd=>by simp [Yx]
  have c:∀a b:Nat,((λa b=>JF a b (KH (Kf l Ud) a b) (KH (Kf l Uc) a b)) a b).length<=2:=λa b=>ZlT _ _ _ _;have k:∀Ed (a:Nat),a<n->idx (Yx Ed n) (a:Int)=Ua ((Vy n).map λj=>KH Ed a j):=λEd a o=>by have h:=Zml (Ed:=Ed) o;assumption
  have f:∀Ed (a b:Nat),b<n->idx ((Vy n).map λj=>KH Ed a j) (b:Int)=Ua (KH Ed a b):=λEd a b y=>by rw[ZJ (by grind)];simp
  refine XJ (λst=>∃a:Nat,st=(WX (λa b=>JF a b (KH (Kf l Ud) a b) (KH (Kf l Uc) a b)) n a,(a:Int))/\a<=n) (λst=>n - st.2.toNat)
   (λr=>r=WX (λa b=>JF a b (KH (Kf l Ud) a b) (KH (Kf l Uc) a b)) n n) ⟨0,rfl,Vm _⟩ ?_ ?_
  ·rintro st ⟨a,rfl,o⟩;by_cases p:a<n
   ·have t:Va .i64 ((a:Int)+1)=((a+1:Nat):Int):=by rw[ZN (by omega) (by omega)];omega
    simp only[i,show Ue ((a:Int)<(n:Int))=Uc from (by grind),Zd,k _ a p,Za,t,Vmb,List.length_range];refine XJ (λst=>∃b:Nat,st=(WX (λa b=>JF a b (KH (Kf l Ud) a b) (KH (Kf l Uc) a b)) n a++XZ (λa b=>JF a b (KH (Kf l Ud) a b) (KH (Kf l Uc) a b)) a b,(b:Int))/\b<=n) (λst=>n - st.2.toNat)
     (λr=>r=WX (λa b=>JF a b (KH (Kf l Ud) a b) (KH (Kf l Uc) a b)) n (a+1)) ⟨0,by simp [XZ],Vm _⟩ ?_ ?_
    ·rintro st ⟨b,rfl,y⟩;by_cases d:b<n
     ·have u:Va .i64 ((b:Int)+1)=((b+1:Nat):Int):=by rw[ZN (by omega) (by omega)];omega
      simp only[show Ue ((b:Int)<(n:Int))=Uc from (by grind),Zd,f _ a b d,Za,u];by_cases e:a=b
      ·subst e;simp only[decide_true,Zd];exact⟨_,rfl,⟨a+1,by rw[De,Zn rfl,Vqa],d⟩,by omega⟩
      ·have A:(WX (λa b=>JF a b (KH (Kf l Ud) a b) (KH (Kf l Uc) a b)) n a++XZ (λa b=>JF a b (KH (Kf l Ud) a b) (KH (Kf l Uc) a b)) a b).length<=10000:=by rw[Vw];have:=Zd9 c m o;have:=ZfC c a b;omega
       simp only[show Ue ((a:Int)=(b:Int))=Ud from (by grind),Ze];rw[ZkC (by omega)];simp only[Za];by_cases g:KH (Kf l Uc) a b=KH (Kf l Ud) a b
       ·simp only[g,decide_true,Vc,Ze];refine⟨_,rfl,⟨b+1,?_,d⟩,by omega⟩;rw[De,Zg e,<-Vla];congr 1;unfold JF;grind
       ·simp only[Zt g,Vp,Zd];rw[ZkC (by grind)];simp only[Za];refine⟨_,rfl,⟨b+1,?_,d⟩,by omega⟩;rw[De,Zg e,Vla,<-Vla (WX _ _ _)];congr 1;unfold JF;grind
     ·have:b=n:=by omega
      subst this;simp only[show Ue ((b:Int)<(b:Int))=Ud from (by simp),Ze];exact⟨_,rfl,(ZcA _ _ _).symm⟩
    grind
   ·have:a=n:=by omega
    simp_all
  ·rintro r rfl;have B:Srt (WX (λa b=>JF a b (KH (Kf l Ud) a b) (KH (Kf l Uc) a b)) n n):=ZpG (λa b x C=>ZtL C) (λa b=>by
    unfold JF;have:=q a b;split
    ·grind
    ·split
     ·simp
     ·split<;>simp)
   rw[ZwH B (by have:=Zd9 c m (Vu n);omega)];simp
 grind
end Q
namespace Q
open Tr Go Gr
theorem Zt6{Ed:Nat->Nat->Int->Prop}(f:∀u v w,Ed u v w->0<=w){s v:Nat}:∀(k:Nat) (d:Int),d.toNat=k->Wk Ed s v d->∃m,X3 Ed s v m:=by
 intro k
 induction k using Vna with
 |ind k j=>
  intro d i h;by_cases c:∃b,Wk Ed s v b/\b<d
  ·obtain⟨b,e,g⟩:=c;have a:=e.nonneg f;grind
  ·exact⟨d,h,by grind⟩
theorem Zxr{Ed:Nat->Nat->Int->Prop}(a:∀u v w,Ed u v w->1<=w){k i j:Nat}{d:Int}(h:Wb Ed k i j d):1<=d:=by
 induction h with
 |one e=>grind
 |cons e _ _ b=>grind
theorem ZeP{n:Nat}{l:List Kl}(hF:DW n l)(free:Bool):∀u v w,Kf l free u v w->u<n/\v<n/\1<=w:=λu v w ⟨p,a,_,b,c,d⟩=>by have:=hF p a;omega
theorem ZeH{n:Nat}{l:List Kl}(hF:DW n l)(a b:Nat):KH (Kf l Uc) a b= -1\/(KH (Kf l Ud) a b≠ -1/\KH (Kf l Ud) a b<=KH (Kf l Uc) a b):=by
 by_cases h:∃d,X3 (Kf l Uc) a b d
 ·right;obtain⟨d,g⟩:=h;have i:∀u v w,Kf l Ud u v w->0<=w:=λu v w h=>by have:=ZeP hF Ud u v w h;omega
  have c:Wk (Kf l Ud) a b d:=by
   have key:∀{v:Nat}{d:Int},Wk (Kf l Uc) a v d->Wk (Kf l Ud) a v d:=by
    intro v d h
    induction h with
    |nil=>exact .nil
    |snoc _ e o=>
     obtain⟨p,k,_,j⟩:=e;exact .snoc o ⟨p,k,(λ(h:Ud=Uc)=>by cases h),j⟩
   exact key g.1
  obtain⟨m,f⟩:=Zt6 i _ d rfl c;rw[Zat f,Zat g];have:=f.1.nonneg i;exact⟨by omega,f.2 d c⟩
 ·left;unfold KH;grind
theorem Znu{n:Nat}{l:List Kl}(hF:DW n l){free:Bool}{m:List (List Int)}(i:X2 (Kf l free) n n m){a b:Nat}(j:a<n)(k:b<n)(o:a≠b):Rel (KH (Kf l free) a b) (gm m a b):=by
 have p:∀u v w,Kf l free u v w->u<n/\v<n:=λu v w h=>⟨(ZeP hF free u v w h).1,(ZeP hF free u v w h).2.1⟩;have c:∀d,Wk (Kf l free) a b d->gm m a b<=d:=λd f=>by
  rcases f.wb p with ⟨h,_⟩|h
  ·omega
  ·exact i.all a b d j k h
 rcases i.snd a b j k with h|⟨_,h⟩
 ·right;refine⟨h,?_⟩;by_cases g:∃d,X3 (Kf l free) a b d
  ·obtain⟨d,f⟩:=g;rw[Zat f];have:=c d f.1;omega
  ·left;unfold KH;grind
 ·left;have e:=Wb.wk (Wk.nil (Ed:=Kf l free) (s:=a)) h;rw[Int.zero_add]at e;rw[Zat ⟨e,c⟩];exact⟨rfl,Zxr (λu v w h=>(ZeP hF free u v w h).2.2) h⟩
theorem ZtM(a b:Nat)(d f:Int):(XW a b d f).length<=2:=by unfold XW;grind
theorem ZrH{n:Nat}(q:n<=64){l:List Kl}(hF:DW n l)(w:l.length<=4096):
 ∃c d,X2 (Kf l Ud) n n c/\X2 (Kf l Uc) n n d/\F119 l (n:Int)=Ua (WX (λa b=>XW a b (gm c a b) (gm d a b)) n n):=by
 obtain⟨c,C,j⟩:=Zn6 q hF w Ud;obtain⟨d,D,k⟩:=Zn6 q hF w Uc;refine⟨c,d,j,k,?_⟩;have key:∃z,F119 l (n:Int)=Ua z/\z=WX (λa b=>XW a b (gm c a b) (gm d a b)) n n:=by
  unfold F119;rw[C];simp only[Za];rw[D];simp only[Za];have i:∀a b:Nat,((λa b=>XW a b (gm c a b) (gm d a b)) a b).length<=2:=λa b=>ZtM _ _ _ _;refine XJ (λst=>∃a:Nat,st=(WX (λa b=>XW a b (gm c a b) (gm d a b)) n a,(a:Int))/\a<=n) (λst=>n - st.2.toNat)
   (λr=>r=WX (λa b=>XW a b (gm c a b) (gm d a b)) n n) ⟨0,rfl,Vm _⟩ ?_ (by simp)
  rintro st ⟨a,rfl,E⟩;by_cases g:a<n
  ·have A:Va .i64 ((a:Int)+1)=((a+1:Nat):Int):=by rw[ZN (by omega) (by omega)];omega
   obtain⟨u,s,J⟩:=j.shp.row g;obtain⟨v,t,K⟩:=k.shp.row g;have F:a<c.length:=by grind
   have G:a<d.length:=by grind
   have L:idx c (a:Int)=Ua u:=by assumption
   have M:idx d (a:Int)=Ua v:=by assumption
   simp only[show Ue ((a:Int)<(n:Int))=Uc from (by grind),Zd,A];refine XJ (λst=>∃b:Nat,st=(WX (λa b=>XW a b (gm c a b) (gm d a b)) n a++XZ (λa b=>XW a b (gm c a b) (gm d a b)) a b,(b:Int))/\b<=n) (λst=>n - st.2.toNat)
    (λr=>r=WX (λa b=>XW a b (gm c a b) (gm d a b)) n (a+1)) ⟨0,by simp [XZ],Vm _⟩ ?_ ?_
   ·rintro st ⟨b,rfl,N⟩;by_cases e:b<n
    ·have B:Va .i64 ((b:Int)+1)=((b+1:Nat):Int):=by rw[ZN (by omega) (by omega)];omega
     have H:b<u.length:=by omega
     have I:b<v.length:=by omega
     have x:idx u (b:Int)=Ua (gm c a b):=by have:=Zb7 j.shp g e s;assumption
     have y:idx v (b:Int)=Ua (gm d a b):=by have:=Zb7 k.shp g e t;assumption
     simp only[show Ue ((b:Int)<(n:Int))=Uc from (by grind),Zd,L,M,x,y,Za,B];by_cases f:a=b
     ·subst f;simp only[decide_true,Zd,Za];exact⟨_,rfl,⟨a+1,by rw[De,Zn rfl,Vqa],e⟩,by omega⟩
     ·have p:(WX (λa b=>XW a b (gm c a b) (gm d a b)) n a++XZ (λa b=>XW a b (gm c a b) (gm d a b)) a b).length<=10000:=by rw[Vw];have:=Zd9 i q E;have:=ZfC i a b;omega
      simp only[show Ue ((a:Int)=(b:Int))=Ud from (by grind),Ze,Za];by_cases h:14400<gm c a b
      ·simp only[Zi h,Zd];refine⟨_,rfl,⟨b+1,?_,e⟩,by omega⟩;rw[De,Zg f];unfold XW;grind
      ·simp only[Zt h,Ze];rw[DE (by grind)];simp only[Za];by_cases o:gm c a b<gm d a b
       ·simp only[Zi o,Zd,Za];by_cases m:gm d a b<=14400
        ·simp only[Zi m,Zd];rw[DE (by grind)];simp only[Za];refine⟨_,rfl,⟨b+1,?_,e⟩,by omega⟩;rw[De,Zg f];unfold XW;grind
        ·simp only[Zt m,Ze];refine⟨_,rfl,⟨b+1,?_,e⟩,by omega⟩;rw[De,Zg f];unfold XW;grind
       ·simp only[Zt o,Ze,Za];refine⟨_,rfl,⟨b+1,?_,e⟩,by omega⟩;rw[De,Zg f];unfold XW;grind
    ·have:b=n:=by omega
     subst this;simp only[show Ue ((b:Int)<(b:Int))=Ud from (by simp),Ze];exact⟨_,rfl,(ZcA _ _ _).symm⟩
   grind
  ·have:a=n:=by omega
   simp_all
 grind
theorem Zg3{n:Nat}(g:n<=64){l:List Kl}(hF:DW n l)(k:l.length<=4096):∃c:List Kl,F38 l (n:Int)=Ua c/\F119 l (n:Int)=Ua c/\c.length<=8192:=by obtain⟨m,o,e,f,h⟩:=ZrH g hF k;refine⟨_,Zg4 g hF k (λa b=>(ZeH hF a b).imp id λh=>h.2),?_,Zd9 (λa b=>ZlT _ _ _ _) g (Vu n)⟩;rw[h];congr 1;refine(ZpE (Vu n) λa b i j d=>?_).symm;exact ZtO (Znu hF e i j d) (Znu hF f i j d) (ZeH hF a b)
end Q
namespace Q
open Tr Go
def Wt(n:Nat)(chk:Nat->Int):Option Nat:=(Vy n).find? λi=>Ue (chk i≠0)
theorem ZsW{n i:Nat}{chk:Nat->Int}(b:i<n)(h:∀j,j<i->chk j=0)(a:chk i≠0):Wt n chk=Ua i:=by unfold Wt;simp_all
theorem ZeV{n:Nat}{chk:Nat->Int}(h:∀j,j<n->chk j=0):Wt n chk=none:=by unfold Wt;grind
theorem W2{n:Nat}{chk:Nat->Int}:Wt n chk=Ub↔∀j,j<n->chk j=0:=by refine⟨λh j a=>?_,ZeV⟩;unfold Wt at h;grind
theorem Zav{n i:Nat}{chk:Nat->Int}(h:Wt n chk=Ua i):i<n/\chk i≠0:=by unfold Wt at h;grind
def pick{τ:Type}(n:Nat)(chk:Nat->Int)(R:Nat->τ)(E:τ):τ:=match Wt n chk with
 |some i=>R i
 |none=>E
theorem JV{σ τ:Type}{step:σ->Option (σ ⊕ τ)}{n:Nat}(a:Nat->σ->Prop)(chk:Nat->Int)(R:Nat->τ)(E:τ)
 (g:∀i s,i<n->a i s->chk i=0->∃s',step s=Ua (.inl s')/\a (i+1) s')
 (b:∀i s,i<n->a i s->chk i≠0->step s=Ua (.inr (R i)))
 (c:∀s,a n s->step s=Ua (.inr E)):∀s,a 0 s->run step s=Ua (pick n chk R E):=by
 have key:∀(k i:Nat) (s:σ),n - i=k->i<=n->a i s->(∀j,j<i->chk j=0)->run step s=Ua (pick n chk R E):=by
  intro k
  induction k with
  |zero=>
   intro i s m l d f;have:i=n:=by omega
   subst this;rw[Y0 (c s d)];unfold pick
   rw[ZeV f]
  |succ k p=>
   intro i s m l d f;by_cases e:chk i=0
   ·obtain⟨s',h,o⟩:=g i s (by omega) d e;rw[H4 h];grind
   ·rw[Y0 (b i s (by omega) d e)];unfold pick;rw[ZsW (by omega) f e]
 grind
theorem Zwq{τ:Type}{step:Int->Option (Int ⊕ τ)}{n:Nat}(chk:Nat->Int)(R:Nat->τ)(E:τ)
 (b:∀i:Nat,i<n->step (i:Int)=if chk i=0 then Ua (.inl ((i+1:Nat):Int)) else Ua (.inr (R i))) (a:step (n:Int)=Ua (.inr E)):run step (0:Int)=Ua (pick n chk R E):=by
 refine JV (λi st=>st=(i:Int)) _ _ _ ?_ ?_ ?_ _ rfl
 all_goals grind
def W7{t:Ty}(key:Nat->El t)(i:Nat)(m:List (El t×Bool)):Prop:= ∀k,Vf (ZW (Zr t) k m) Ud=Uc↔∃j,j<i/\key j=k
theorem W7.nil{t:Ty}(key:Nat->El t):W7 key 0 []:=λk=>by simp [ZW]
theorem W7.add{t:Ty}(b:t.key=Uc){key:Nat->El t}{i:Nat}{m:List (El t×Bool)}(h:W7 key i m):W7 key (i+1) (Kv (Zr t) (key i) Uc m):=by
 classical
 intro k;rw[Zak b];by_cases a:k=key i
 ·grind
 ·rw[Zg a,h k];grind
theorem Z8{i n:Nat}(h:i<n)(a:n<=9223372036854775807):Va .i64 ((i:Int)+1)=((i+1:Nat):Int):=by rw[ZN (by omega) (by omega)];omega
theorem ZV{i n:Nat}(h:i<n):Ue ((i:Int)<(n:Int))=true:=by grind
theorem YU(n:Nat):Ue ((n:Int)<(n:Int))=false:=by simp
def okx(x:Int):Bool:=
 ((Ue (97<=x)&&Ue (x<=122)) || (Ue (65<=x)&&Ue (x<=90)) || (Ue (48<=x)&&Ue (x<=57))) || (Ue (x=45) ||decide (x=95) ||decide (x=46))
def YX(c:UInt8):Bool:=okx (c.toNat:Int)
def Wx(s:List UInt8):Bool:=Ue (1<=s.length/\s.length<=32)&&s.all YX
theorem Zkl(b:Bool)(x y:Bool):(bif b then Ua x else Ua y)=Ua (bif b then x else y):=by grind
def GS(s:List UInt8)(i:Nat):Int:=if YX ((s[i]?).getD 0) then 0 else 1
theorem Zeq(s:List UInt8):Wt s.length (GS s)=Ub↔s.all YX=true:=by
 rw[W2,List.all_eq_true];constructor
 ·intro h c b;obtain⟨i,a,rfl⟩:=Vi b;have:=h i a;unfold GS at this;grind
 ·intro h i a;unfold GS;grind
theorem R9(s:List UInt8)(f:s.length<=9223372036854775807):F51 s=Ua (Wx s):=by
 unfold F51;rw[JV (n:=s.length) (λi st=>st=(i:Int)) (GS s) (λ_=>.inr Ud) (.inl ()) ?_ ?_ ?_ (0:Int) rfl]
 ·unfold pick;simp only[Za]
  cases e:Wt s.length (GS s) with
  |none=>
   have d:=(Zeq s).1 e;simp only[Vj];unfold Wx;rw[d,Bool.and_true];by_cases g:0<s.length
   ·rw[Zi (by omega)];simp only[Zd,Za];congr 1;grind
   grind
  |some i=>
   simp only[Sum.elim_inr];have d:s.all YX=false:=by
    cases b:s.all YX with
    |false=>rfl
    |true=>rw[(Zeq s).2 b]at e;grind
   unfold Wx;grind
 ·rintro i _ a rfl b;refine⟨_,?_,rfl⟩;have c:YX s[i]=true:=by unfold GS at b;grind
  simp only[ZV a,Zd,ZJ a,Za,Zkl,Z8 a f];unfold YX okx at c;grind
 ·rintro i _ a rfl b;have c:YX s[i]=false:=by unfold GS at b;grind
  simp only[ZV a,Zd,ZJ a,Za,Zkl,Z8 a f];unfold YX okx at c;grind
 simp
theorem Za3(s:List UInt8):F124 s=Ua (Wx s):=by
 unfold F124;by_cases f:s.length<1
 ·rw[Zi (by omega)];simp only[Zd,Za];unfold Wx;grind
 ·rw[Zt (by omega)];simp only[Ze,Za];by_cases g:32<s.length
  ·rw[Zi (by omega)];simp only[Zd];unfold Wx;grind
  ·rw[Zt (by omega)];simp only[Ze];have e:s.length<=9223372036854775807:=by omega
   rw[JV (n:=s.length) (λi st=>st=(i:Int)) (GS s) (λ_=>.inr Ud) (.inl ()) ?_ ?_ ?_ (0:Int) rfl]
   ·unfold pick;simp only[Za];unfold Wx;rw[Zi (by omega),Vda]
    cases d:Wt s.length (GS s) with
    |none=>rw[(Zeq s).1 d];rfl
    |some i=>
     have h:s.all YX=false:=by
      cases b:s.all YX with
      |false=>rfl
      |true=>rw[(Zeq s).2 b]at d;grind
     grind
   ·rintro i _ a rfl b;refine⟨_,?_,rfl⟩;have c:YX s[i]=true:=by unfold GS at b;grind
    simp only[ZV a,Zd,ZJ a,Za,Z8 a e];unfold YX okx at c;grind
   ·rintro i _ a rfl b;have c:YX s[i]=false:=by unfold GS at b;grind
    simp only[ZV a,Zd,ZJ a,Za,Z8 a e];unfold YX okx at c;grind
   simp
end Q
namespace Q
open Tr Go
open Classical in
noncomputable def YS(name dup num:Prop):Int:=if name then 12 else if dup then 6 else if num then 2 else 0
theorem DB{a b c:Prop}:YS a b c=0↔¬a/\ ¬b/\ ¬c:=by unfold YS;grind
theorem ZbE{a b c:Prop}(h:a):YS a b c=12:=by unfold YS;grind
theorem ZbD{a b c:Prop}(h:¬a)(d:b):YS a b c=6:=by unfold YS;grind
theorem ZbG{a b c:Prop}(h:¬a)(d:¬b)(e:c):YS a b c=2:=by unfold YS;grind
theorem ZbF{a b c:Prop}(h:¬a)(d:¬b)(e:¬c):YS a b c=0:=by unfold YS;grind
theorem ZcT{τ:Type}{step:Int->Option (Int ⊕ τ)}{i:Nat}{p:Nat->Prop}{R E:τ}(f:∀j:Nat,j<i->¬p j->step (j:Int)=Ua (.inl ((j+1:Nat):Int)))(c:∀j:Nat,j<i->p j->step (j:Int)=Ua (.inr R))
 (a:step (i:Int)=Ua (.inr E)):((∃j,j<i/\p j)->run step (0:Int)=Ua R)/\((¬∃j,j<i/\p j)->run step (0:Int)=Ua E):=by
 classical
 have key:=JV (n:=i) (step:=step) (λj st=>st=(j:Int)) (λj=>if p j then 1 else 0) (λ_=>R) E (by grind) (by grind) (by grind) (0:Int) rfl;constructor
 ·rintro ⟨j,e,g⟩;rw[key];unfold pick
  cases d:Wt i (λj=>if p j then 1 else 0) with
  |some k=>rfl
  |none=>
   have:=W2.1 d j e;grind
 ·intro b;rw[key];unfold pick;rw[ZeV (by grind)]
theorem Hn(x a b:Int):F125 x a b=Ua (Ue (a<=x/\x<=b)):=by unfold F125;grind
theorem Zjl(x a b:Int):F85 x a b=Ua (Ue (a<=x/\x<=b)):=Hn x a b
abbrev DZ:=List UInt8×Int×Bool×Int×Unit
abbrev Hc:=List UInt8×Int×Bool×Unit
noncomputable def GH(l:List DZ)(i:Nat):Int:=
 let x:DZ:=(l[i]?).getD ([],0,Ud,0,())
 YS (Wx x.1=Ud) (∃j,j<i/\((l[j]?).getD ([],0,Ud,0,())).1=x.1) (x.2.1<0\/16<=x.2.1\/x.2.2.2.1<0\/3600<x.2.2.2.1)
noncomputable def GI(l:List DZ):Int×Int:=if 64<l.length then(0,5) else pick l.length (GH l) (λi=>((i:Int),GH l i)) (0,0)
theorem ZwN(l:List DZ)(q:∀x∈l,x.1.length<=9223372036854775807):F184 l=Ua (GI l):=by
 unfold F184 GI;by_cases k:64<l.length
 ·grind
 ·rw[Zg k,Zt (by omega)];simp only[Ze];rw[JV (n:=l.length) (λi st=>∃m,st=(m,(i:Int))/\W7 (t:=Y9) (λj=>((l[j]?).getD ([],0,Ud,0,())).1) i m) (GH l) (λi=>.inr ((i:Int),GH l i)) (.inl ()) ?_ ?_ ?_ ([],(0:Int)) ⟨[],rfl,W7.nil _⟩]
  ·unfold pick;grind
  ·rintro i _ a ⟨m,rfl,f⟩ d;have p:(l[i]?).getD ([],0,Ud,0,())=l[i]:=by grind
   unfold GH at d;simp only[p]at d;obtain⟨e,b,g⟩:=DB.1 d;have e:Wx (l[i]).1=true:=by grind
   have c:Vf (ZW (Zr Y9) (l[i]).1 m) Ud=false:=by
    cases o:Vf (ZW (Zr Y9) (l[i]).1 m) Ud with
    |false=>rfl
    |true=>exact absurd ((f _).1 o) b
   refine⟨(Kv (Zr Y9) (l[i]).1 Uc m,((i+1:Nat):Int)),?_,_,rfl,?_⟩
   ·simp only[ZV a,Zd,ZJ a,Za,R9 _ (q _ (Ve a)),e,Vc,Ze,c,Z8 a (by omega),
     show Ue ((l[i]).2.1<0)=Ud from (by grind),show Ue ((16:Int)<=(l[i]).2.1)=Ud from (by grind),show Ue ((l[i]).2.2.2.1<0)=Ud from (by grind),show Ue ((3600:Int)<(l[i]).2.2.2.1)=Ud from (by grind)]
   ·have:=W7.add (t:=Y9) rfl f;grind
  ·rintro i _ a ⟨m,rfl,f⟩ d;have p:(l[i]?).getD ([],0,Ud,0,())=l[i]:=by grind
   simp only[ZV a,Zd,ZJ a,Za,R9 _ (q _ (Ve a))];unfold GH at d⊢;simp only[p]at d⊢;by_cases e:Wx (l[i]).1=Ud
   ·rw[ZbE e,e];rfl
   ·have h:Wx (l[i]).1=true:=by grind
    simp only[h,Vc,Ze];by_cases b:∃j,j<i/\((l[j]?).getD ([],0,Ud,0,())).1=(l[i]).1
    ·rw[ZbD (by simp) b,(f _).2 b];rfl
    ·have c:Vf (ZW (Zr Y9) (l[i]).1 m) Ud=false:=by
      cases o:Vf (ZW (Zr Y9) (l[i]).1 m) Ud with
      |false=>rfl
      |true=>exact absurd ((f _).1 o) b
     simp only[c,Ze];have g:(l[i]).2.1<0\/16<=(l[i]).2.1\/(l[i]).2.2.2.1<0\/3600<(l[i]).2.2.2.1:=by
      by_cases g:(l[i]).2.1<0\/16<=(l[i]).2.1\/(l[i]).2.2.2.1<0\/3600<(l[i]).2.2.2.1
      ·omega
      ·exact absurd (ZbF e b g) d
     rw[ZbG (by simp) b g];grind
  simp
theorem ZwO(l:List DZ):F131 l=Ua (GI l):=by
 unfold F131 GI;by_cases s:64<l.length
 ·grind
 ·rw[Zg s,Zt (by omega)];simp only[Ze];have a:∀i (b:i<l.length) (τ:Type) (R E:τ) (f:Int->τ),f (i:Int)=R->((∃j,j<i/\((l[j]?).getD ([],0,Ud,0,())).1=(l[i]).1)->run (λh:Int=>
        bif decide (h<(i:Int)) then
         Vb (idx l h) λt=>
          bif decide (t.fst=(l[i]).fst) then Ua (Sum.inr (f (i:Int))) else Ua (Sum.inl (Va .i64 (h+(1:Int))))
        else Ua (Sum.inr E)) (0:Int)=Ua R)/\((¬∃j,j<i/\((l[j]?).getD ([],0,Ud,0,())).1=(l[i]).1)->run (λh:Int=>
        bif decide (h<(i:Int)) then
         Vb (idx l h) λt=>
          bif decide (t.fst=(l[i]).fst) then Ua (Sum.inr (f (i:Int))) else Ua (Sum.inl (Va .i64 (h+(1:Int))))
        else Ua (Sum.inr E)) (0:Int)=Ua E):=by
   intro i b τ R E f u;refine ZcT (p:=λj=>((l[j]?).getD ([],0,Ud,0,())).1=(l[i]).1) (λj q m=>?_) (λj q m=>?_) ?_
   ·have e:j<l.length:=by omega
    have g:(l[j]?).getD ([],0,Ud,0,())=l[j]:=by grind
    rw[g]at m;simp only[ZV q,Zd,ZJ e,Za,Zt m,Ze,Z8 q (by omega)]
   ·have e:j<l.length:=by omega
    have g:(l[j]?).getD ([],0,Ud,0,())=l[j]:=by grind
    rw[g]at m;simp only[ZV q,Zd,ZJ e,Za,Zi m,u]
   simp
  rw[JV (n:=l.length) (λi st=>st=(i:Int)) (GH l) (λi=>.inr ((i:Int),GH l i)) (.inl ()) ?_ ?_ ?_ (0:Int) rfl]
  ·unfold pick;grind
  ·rintro i _ b rfl d;have g:(l[i]?).getD ([],0,Ud,0,())=l[i]:=by grind
   unfold GH at d;simp only[g]at d;obtain⟨k,c,o⟩:=DB.1 d;have k:Wx (l[i]).1=true:=by grind
   refine⟨((i+1:Nat):Int),?_,rfl⟩;simp only[ZV b,Zd,ZJ b,Za,Za3,k,Vc,Ze];rw[(a i b _ _ (Sum.inl ()) (λx=>Sum.inr (x,(6:Int))) rfl).2 c];simp only[Za,Vj,Hn,Zi (show (0:Int)<=(l[i]).2.1/\(l[i]).2.1<=15 by omega),Vc,Ze,Zi (show (0:Int)<=(l[i]).2.2.2.1/\(l[i]).2.2.2.1<=3600 by omega),Z8 b (by omega)]
  ·rintro i _ b rfl d;have g:(l[i]?).getD ([],0,Ud,0,())=l[i]:=by grind
   simp only[ZV b,Zd,ZJ b,Za,Za3];unfold GH at d⊢;simp only[g]at d⊢;by_cases k:Wx (l[i]).1=Ud
   ·rw[ZbE k,k];rfl
   ·have r:Wx (l[i]).1=true:=by grind
    simp only[r,Vc,Ze];by_cases c:∃j,j<i/\((l[j]?).getD ([],0,Ud,0,())).1=(l[i]).1
    ·rw[ZbD (by simp) c,(a i b _ _ (Sum.inl ()) (λx=>Sum.inr (x,(6:Int))) rfl).1 c];rfl
    ·rw[(a i b _ _ (Sum.inl ()) (λx=>Sum.inr (x,(6:Int))) rfl).2 c];have o:(l[i]).2.1<0\/16<=(l[i]).2.1\/(l[i]).2.2.2.1<0\/3600<(l[i]).2.2.2.1:=by
      by_cases o:(l[i]).2.1<0\/16<=(l[i]).2.1\/(l[i]).2.2.2.1<0\/3600<(l[i]).2.2.2.1
      ·omega
      ·exact absurd (ZbF k c o) d
     rw[ZbG (by simp) c o];simp only[Za,Vj,Hn];grind
  simp
end Q
namespace Q
open Tr Go
theorem Zl0(x:Int):F159 x=Ua (Ue (0<=x/\x<=7)):=by unfold F159;grind
theorem ZbB{α:Type}{l:List α}{nm:α->List UInt8}{d:α}{i:Nat}(h:i<l.length)(k:l.length<=9223372036854775807){y:List UInt8}{τ:Type}(R E:τ):
 ((∃j,j<i/\nm ((l[j]?).getD d)=y)->run (λb:Int=>
        bif decide (b<(i:Int)) then
         Vb (idx l b) λg=>
          bif decide (nm g=y) then Ua (Sum.inr R) else Ua (Sum.inl (Va .i64 (b+(1:Int))))
        else Ua (Sum.inr E)) (0:Int)=Ua R)/\((¬∃j,j<i/\nm ((l[j]?).getD d)=y)->run (λb:Int=>
        bif decide (b<(i:Int)) then
         Vb (idx l b) λg=>
          bif decide (nm g=y) then Ua (Sum.inr R) else Ua (Sum.inl (Va .i64 (b+(1:Int))))
        else Ua (Sum.inr E)) (0:Int)=Ua E):=by
 refine ZcT (p:=λj=>nm ((l[j]?).getD d)=y) (λj e c=>?_) (λj e c=>?_) ?_
 ·have a:j<l.length:=by omega
  have f:(l[j]?).getD d=l[j]:=by grind
  rw[f]at c;simp only[ZV e,Zd,ZJ a,Za,Zt c,Ze,Z8 e (by omega)]
 ·have a:j<l.length:=by omega
  have f:(l[j]?).getD d=l[j]:=by grind
  rw[f]at c;simp only[ZV e,Zd,ZJ a,Za,Zi c]
 simp
def r0:Hc:=([],0,Ud,())
noncomputable def Dc(l:List Hc)(i:Nat):Int:=
 YS (Wx ((l[i]?).getD r0).1=Ud) (∃j,j<i/\((l[j]?).getD r0).1=((l[i]?).getD r0).1) (¬(0<=((l[i]?).getD r0).2.1/\((l[i]?).getD r0).2.1<=7))
noncomputable def Dd(l:List Hc):Int×Int:=if 64<l.length then(0,5) else pick l.length (Dc l) (λi=>((i:Int),Dc l i)) (0,0)
theorem Ks{α:Type}{l:List α}{i:Nat}(h:i<l.length)(d:α):(l[i]?).getD d=l[i]:=by grind
theorem Rq{t:Ty}{key:Nat->El t}{i:Nat}{m:List (El t×Bool)}(h:W7 key i m){k:El t}(b:¬∃j,j<i/\key j=k):Vf (ZW (Zr t) k m) Ud=false:=by
 cases a:Vf (ZW (Zr t) k m) Ud with
 |false=>rfl
 |true=>exact absurd ((h k).1 a) b
theorem Zv4(l:List Hc)(p:∀x∈l,x.1.length<=9223372036854775807):F158 l=Ua (Dd l):=by
 unfold F158 Dd;by_cases o:64<l.length
 ·grind
 ·rw[Zg o,Zt (by omega)];simp only[Ze];rw[JV (n:=l.length) (λi st=>∃m,st=(m,(i:Int))/\W7 (t:=Y9) (λj=>((l[j]?).getD r0).1) i m) (Dc l) (λi=>.inr ((i:Int),Dc l i)) (.inl ()) ?_ ?_ ?_ ([],(0:Int)) ⟨[],rfl,W7.nil _⟩]
  ·unfold pick;grind
  ·rintro i _ a ⟨m,rfl,f⟩ c;have g:=Ks a r0;unfold Dc at c;rw[g]at c;obtain⟨d,b,e⟩:=DB.1 c;have d:Wx (l[i]).1=true:=by grind
   have k:=Rq f b;have e:0<=(l[i]).2.1/\(l[i]).2.1<=7:=by omega
   refine⟨(Kv (Zr Y9) (l[i]).1 Uc m,((i+1:Nat):Int)),?_,_,rfl,?_⟩
   ·simp only[ZV a,Zd,ZJ a,Za,R9 _ (p _ (Ve a)),d,Vc,Ze,k,Z8 a (by omega),Zl0,Zi e]
   ·have:=W7.add (t:=Y9) rfl f;grind
  ·rintro i _ a ⟨m,rfl,f⟩ c;have g:=Ks a r0;simp only[ZV a,Zd,ZJ a,Za,R9 _ (p _ (Ve a))];unfold Dc at c⊢;rw[g]at c;simp only[g];by_cases d:Wx (l[i]).1=Ud
   ·rw[ZbE d,d];rfl
   ·have h:Wx (l[i]).1=true:=by grind
    simp only[h,Vc,Ze];by_cases b:∃j,j<i/\((l[j]?).getD r0).1=(l[i]).1
    ·rw[ZbD (by simp) b,(f _).2 b];rfl
    ·simp only[Rq f b,Ze];have e:¬(0<=(l[i]).2.1/\(l[i]).2.1<=7):=λe=>c (ZbF d b (by omega));rw[ZbG (by simp) b e,Zl0,Zt e];rfl
  simp
theorem Zv5(l:List Hc):F129 l=Ua (Dd l):=by
 unfold F129 Dd;by_cases m:64<l.length
 ·grind
 ·rw[Zg m,Zt (by omega)];simp only[Ze];have g:l.length<=9223372036854775807:=by omega
  rw[JV (n:=l.length) (λi st=>st=(i:Int)) (Dc l) (λi=>.inr ((i:Int),Dc l i)) (.inl ()) ?_ ?_ ?_ (0:Int) rfl]
  ·unfold pick;grind
  ·rintro i _ a rfl c;have h:=Ks a r0;unfold Dc at c;rw[h]at c;obtain⟨e,b,f⟩:=DB.1 c;have e:Wx (l[i]).1=true:=by grind
   have f:0<=(l[i]).2.1/\(l[i]).2.1<=7:=by omega
   refine⟨((i+1:Nat):Int),?_,rfl⟩;simp only[ZV a,Zd,ZJ a,Za,Za3,e,Vc,Ze];rw[(ZbB (nm:=λx:Hc=>x.1) (d:=r0) a g (y:=(l[i]).1) _ _).2 b];simp only[Za,Vj,Hn,Zi f,Vc,Ze,Z8 a g]
  ·rintro i _ a rfl c;have h:=Ks a r0;simp only[ZV a,Zd,ZJ a,Za,Za3];unfold Dc at c⊢;rw[h]at c;simp only[h];by_cases e:Wx (l[i]).1=Ud
   ·rw[ZbE e,e];rfl
   ·have k:Wx (l[i]).1=true:=by grind
    simp only[k,Vc,Ze];by_cases b:∃j,j<i/\((l[j]?).getD r0).1=(l[i]).1
    ·rw[ZbD (by simp) b,(ZbB (nm:=λx:Hc=>x.1) (d:=r0) a g (y:=(l[i]).1) _ _).1 b];rfl
    ·rw[(ZbB (nm:=λx:Hc=>x.1) (d:=r0) a g (y:=(l[i]).1) _ _).2 b];have f:¬(0<=(l[i]).2.1/\(l[i]).2.1<=7):=λf=>c (ZbF e b (by omega));rw[ZbG (by simp) b f];simp only[Za,Vj,Hn,Zt f];rfl
  simp
abbrev Xf:=List UInt8×Int×Int×Int×Int×Int×Unit
abbrev ZR:=List Xf×Int×Int×Int×Unit
def p0:Xf:=([],0,0,0,0,0,())
def YV(x:Xf):Bool:=Ue (0<=x.2.1/\x.2.1<=1000000)&&(Ue (1<=x.2.2.1/\x.2.2.1<=8)&&(Ue (1<=x.2.2.2.1/\x.2.2.2.1<=16)&&(Ue (0<=x.2.2.2.2.1/\x.2.2.2.2.1<=86400)&&Ue (1<=x.2.2.2.2.2.1/\x.2.2.2.2.2.1<=255))))
noncomputable def H2(l:List Xf)(i:Nat):Int:=
 YS (Wx ((l[i]?).getD p0).1=Ud) (∃j,j<i/\((l[j]?).getD p0).1=((l[i]?).getD p0).1) (YV ((l[i]?).getD p0)=Ud)
def Gw(f:ZR):Bool:=Ue (0<=f.2.1/\f.2.1<=1000000)&&(Ue (0<=f.2.2.1/\f.2.2.1<=86400)&&Ue (0<=f.2.2.2.1/\f.2.2.2.1<=1000000))
noncomputable def JN(f:ZR):Int×Int:=
 if Gw f=Ud then(-1,2) else if 16<f.1.length then(0,5) else pick f.1.length (H2 f.1) (λi=>((i:Int),H2 f.1 i)) (0,0)
theorem Zor{w:Int->Int->Int->Option Bool}(c:∀x a b,w x a b=Ua (Ue (a<=x/\x<=b)))(f:ZR):
 (Vb (w f.2.1 0 1000000) λx0=>bif !x0 then Ua Uc else Vb (w f.2.2.1 0 86400) λd=>bif !d then Ua Uc else Vb (w f.2.2.2.1 0 1000000) λe=>Ua !e)=Ua (!Gw f):=by
 unfold Gw;simp only[c,Za];grind
theorem ZeX{w:Int->Int->Int->Option Bool}(c:∀x a b,w x a b=Ua (Ue (a<=x/\x<=b)))(x:Xf):
 (Vb (w x.2.1 0 1000000) λx0=>bif !x0 then Ua Uc else Vb (w x.2.2.1 1 8) λd=>bif !d then Ua Uc else Vb (w x.2.2.2.1 1 16) λe=>bif !e then Ua Uc else
   Vb (w x.2.2.2.2.1 0 86400) λf=>bif !f then Ua Uc else Vb (w x.2.2.2.2.2.1 1 255) λg=>Ua !g)=Ua (!YV x):=by
 unfold YV;simp only[c,Za];grind
theorem ZhK(f:ZR)(p:∀x∈f.1,x.1.length<=9223372036854775807):F81 f=Ua (JN f):=by
 unfold F81 JN;rw[Zor (w:=F85) Zjl f];simp only[Za]
 cases r:Gw f with
 |true=>
  rw[Zg (by simp)];simp only[Vc,Ze];by_cases l:16<f.1.length
  ·grind
  ·rw[Zg l,Zt (by omega)];simp only[Ze];rw[JV (n:=f.1.length) (λi st=>∃m,st=(m,(i:Int))/\W7 (t:=Y9) (λj=>((f.1[j]?).getD p0).1) i m) (H2 f.1) (λi=>.inr ((i:Int),H2 f.1 i)) (.inl ()) ?_ ?_ ?_ ([],(0:Int)) ⟨[],rfl,W7.nil _⟩]
   ·unfold pick;grind
   ·rintro i _ a ⟨m,rfl,g⟩ c;have h:=Ks a p0;unfold H2 at c;rw[h]at c;obtain⟨d,b,e⟩:=DB.1 c;have d:Wx (f.1[i]).1=true:=by grind
    have o:=Rq g b;have e:YV f.1[i]=true:=by grind
    refine⟨(Kv (Zr Y9) (f.1[i]).1 Uc m,((i+1:Nat):Int)),?_,_,rfl,?_⟩
    ·simp only[ZV a,Zd,ZJ a,Za,R9 _ (p _ (Ve a)),d,Vc,Ze,o,Z8 a (by omega)];rw[ZeX (w:=F85) Zjl,e];rfl
    ·have:=W7.add (t:=Y9) rfl g;grind
   ·rintro i _ a ⟨m,rfl,g⟩ c;have h:=Ks a p0;simp only[ZV a,Zd,ZJ a,Za,R9 _ (p _ (Ve a))];unfold H2 at c⊢;rw[h]at c;simp only[h];by_cases d:Wx (f.1[i]).1=Ud
    ·rw[ZbE d,d];rfl
    ·have k:Wx (f.1[i]).1=true:=by grind
     simp only[k,Vc,Ze];by_cases b:∃j,j<i/\((f.1[j]?).getD p0).1=(f.1[i]).1
     ·rw[ZbD (by simp) b,(g _).2 b];rfl
     ·simp only[Rq g b,Ze];have e:YV f.1[i]=false:=by
       cases q:YV f.1[i] with
       |false=>rfl
       |true=>exact absurd (ZbF d b (by grind)) c
      rw[ZbG (by simp) b e,ZeX (w:=F85) Zjl,e];rfl
   simp
 |false=>rfl
theorem ZsP(f:ZR):F120 f=Ua (JN f):=by
 unfold F120 JN;rw[Zor (w:=F125) Hn f];simp only[Za]
 cases p:Gw f with
 |true=>
  rw[Zg (by simp)];simp only[Vc,Ze];by_cases m:16<f.1.length
  ·grind
  ·rw[Zg m,Zt (by omega)];simp only[Ze];have h:f.1.length<=9223372036854775807:=by omega
   rw[JV (n:=f.1.length) (λi st=>st=(i:Int)) (H2 f.1) (λi=>.inr ((i:Int),H2 f.1 i)) (.inl ()) ?_ ?_ ?_ (0:Int) rfl]
   ·unfold pick;grind
   ·rintro i _ a rfl c;have k:=Ks a p0;unfold H2 at c;rw[k]at c;obtain⟨e,b,g⟩:=DB.1 c;have e:Wx (f.1[i]).1=true:=by grind
    have g:YV f.1[i]=true:=by grind
    refine⟨((i+1:Nat):Int),?_,rfl⟩;simp only[ZV a,Zd,ZJ a,Za,Za3,e,Vc,Ze];rw[(ZbB (nm:=λx:Xf=>x.1) (d:=p0) a h (y:=(f.1[i]).1) _ _).2 b];simp only[Za,Vj];rw[ZeX (w:=F125) Hn,g];simp only[Vc,Za,Ze,Z8 a h]
   ·rintro i _ a rfl c;have k:=Ks a p0;simp only[ZV a,Zd,ZJ a,Za,Za3];unfold H2 at c⊢;rw[k]at c;simp only[k];by_cases e:Wx (f.1[i]).1=Ud
    ·rw[ZbE e,e];rfl
    ·have l:Wx (f.1[i]).1=true:=by grind
     simp only[l,Vc,Ze];by_cases b:∃j,j<i/\((f.1[j]?).getD p0).1=(f.1[i]).1
     ·rw[ZbD (by simp) b,(ZbB (nm:=λx:Xf=>x.1) (d:=p0) a h (y:=(f.1[i]).1) _ _).1 b];rfl
     ·rw[(ZbB (nm:=λx:Xf=>x.1) (d:=p0) a h (y:=(f.1[i]).1) _ _).2 b];have g:YV f.1[i]=false:=by
       cases o:YV f.1[i] with
       |false=>rfl
       |true=>exact absurd (ZbF e b (by grind)) c
      rw[ZbG (by simp) b g];simp only[Za,Vj];rw[ZeX (w:=F125) Hn,g];rfl
   simp
 |false=>rfl
end Q
namespace Q
open Tr Go
abbrev Wy:=Int×Int×Int×Bool×Bool×Unit
def c0:Wy:=(0,0,0,Ud,Ud,())
def ZcI(l:List Wy)(i:Nat)(n:Int):Bool:=Ue (((l[i]?).getD c0).1<0) ||decide (n<=((l[i]?).getD c0).1)
def ZcJ(l:List Wy)(i:Nat):Bool:=Ue (0<i)&&Ue (((l[i - 1]?).getD c0).1=((l[i]?).getD c0).1)
def ZcK(l:List Wy)(i:Nat)(b a:Int):Bool:=Ue (((l[i]?).getD c0).2.1<b) || (Ue (((l[i]?).getD c0).2.2.1<((l[i]?).getD c0).2.1) || (Ue (a<((l[i]?).getD c0).2.2.1) || (Ue (0<i)&&Ue (((l[i]?).getD c0).2.1<((l[i - 1]?).getD c0).2.2.1))))
def XH(l:List Wy)(n b a:Int)(i:Nat):Int:=if ZcI l i n then 9 else if ZcJ l i then 13 else if ZcK l i b a then 10 else 0
theorem ZlO(i:Nat):Ue ((0:Int)<(i:Int))=Ue (0<i):=by simp
theorem Zna{l:List Wy}{i:Nat}(b:i<l.length)(c:l.length<=9223372036854775807)(a:0<i):idx l (Va .i64 ((i:Int) - 1))=Ua ((l[i - 1]?).getD c0):=by
 have e:Va .i64 ((i:Int) - 1)=((i - 1:Nat):Int):=by rw[ZN (by omega) (by omega)];omega
 rw[e,ZJ (by omega),Ks (by omega)]
theorem ZmM{l:List Wy}{i:Nat}(b:i<l.length)(e:l.length<=9223372036854775807)(n d a:Int):F7 l (i:Int) n d a=Ua (XH l n d a i):=by
 unfold F7 XH ZcI ZcJ ZcK;rw[Ks b,ZJ b];simp only[Za,ZlO];by_cases c:0<i
 ·simp only[Zna b e c,Za,Zi c,Zd,Vda];grind
 grind
noncomputable def XB(l:List Wy)(n b a:Int):Int:=if l.length<2\/32<l.length then 5 else pick l.length (XH l n b a) (XH l n b a) 0
theorem Zkq(l:List Wy)(n c b:Int):∃i,F6 l n c b=Ua (i,XB l n c b):=by
 unfold F6 XB;by_cases f:l.length<2
 ·rw[Zi (by omega),Zn (.inl f)];simp
 ·rw[Zt (by omega)];by_cases g:32<l.length
  ·rw[Zn (.inr g)];simp only[Ze,Za,Zi (show (32:Int)<(l.length:Int) by omega),Zd];simp
  ·rw[Zg (by omega)];simp only[Ze,Za,Zt (show¬(32:Int)<(l.length:Int) by omega)];have e:l.length<=9223372036854775807:=by omega
   rw[JV (n:=l.length) (λi st=>st=(i:Int)) (XH l n c b) (λi=>.inr ((i:Int),XH l n c b i)) (.inl ()) ?_ ?_ ?_ (0:Int) rfl]
   ·unfold pick;cases Wt l.length (XH l n c b)<;>exact⟨_,rfl⟩
   ·rintro i _ a rfl d;refine⟨((i+1:Nat):Int),?_,rfl⟩;simp only[ZV a,Zd,ZmM a e,Za,d,decide_true,Vc,Ze,Z8 a e]
   ·rintro i _ a rfl d;simp only[ZV a,Zd,ZmM a e,Za,Zt d,Vp]
   simp
theorem ZqW(l:List Wy)(n c b:Int):F117 l n c b=Ua (XB l n c b):=by
 unfold F117 XB;by_cases f:l.length<2
 ·grind
 ·rw[Zt (by omega)];by_cases g:32<l.length
  ·grind
  ·rw[Zg (by omega)];simp only[Ze,Za];have e:l.length<=9223372036854775807:=by omega
   rw[Zwq (n:=l.length) (XH l n c b) (λi=>.inr (XH l n c b i)) (.inl ()) ?_ (by simp)]
   ·unfold pick;grind
   ·intro i a;simp only[ZV a,Zd,ZJ a,Za,ZlO,Z8 a e];unfold XH ZcI ZcJ ZcK;rw[Ks a];by_cases d:0<i
    ·simp only[Zna a e d,Za,Zi d,Zd,Vda];grind
    grind
abbrev He:=Int×Int×Int×List UInt8×Int×Bool×Bool×List Wy×Unit
abbrev Gg:=Int×Int×Int×Int×Bool×Unit
abbrev Zc:=List DZ×List Hc×List He×List Gg×List Kl×ZR×Unit
def u0:He:=(0,0,0,[],0,Ud,Ud,[],())
abbrev Zo6:=List UInt8×Int×Int×Unit
def runK(x:He):Zo6:=(x.2.2.2.1,x.2.1,x.2.2.1,())
open Classical in
noncomputable def X0(n:Zc)(i:Nat):Int:=
 let x:=(n.2.2.1[i]?).getD u0
 if Wx x.2.2.2.1=Ud then 12 else if (Ue (x.1< -1) ||decide (x.2.2.1<0))=Uc then 2 else if (Ue (x.2.1<0) ||decide (36524<x.2.1))=Uc then 11
 else if (Ue (x.2.2.2.2.1<0) ||decide ((n.2.1.length:Int)<=x.2.2.2.2.1))=Uc then 9
 else if XB x.2.2.2.2.2.2.2.1 (n.1.length:Int) 0 3155932800≠0 then XB x.2.2.2.2.2.2.2.1 (n.1.length:Int) 0 3155932800
 else if∃j,j<i/\runK ((n.2.2.1[j]?).getD u0)=runK x then 6 else 0
noncomputable def ZfI(n:Zc):Int×Int×Int×Unit:=if 1024<n.2.2.1.length then(2,0,5,()) else pick n.2.2.1.length (X0 n) (λi=>(2,(i:Int),X0 n i,())) (0,0,0,())
theorem Zwl(n:Zc)(q:∀x∈n.2.2.1,x.2.2.2.1.length<=9223372036854775807):F68 n=Ua (ZfI n):=by
 unfold F68 ZfI F78;by_cases r:1024<n.2.2.1.length
 ·grind
 ·rw[Zg r,Zt (by omega)];simp only[Ze];have s:n.2.2.1.length<=9223372036854775807:=by omega
  rw[JV (n:=n.2.2.1.length) (λi st=>∃m,st=((0,0,0,()),m,(i:Int))/\W7 (t:=Ds) (λj=>runK ((n.2.2.1[j]?).getD u0)) i m) (X0 n) (λi=>.inr (2,(i:Int),X0 n i,())) (.inl (0,0,0,())) ?_ ?_ ?_ _ ⟨[],rfl,W7.nil _⟩]
  ·unfold pick;grind
  ·rintro i _ b ⟨m,rfl,k⟩ a;have p:=Ks b u0;unfold X0 at a;simp only[p]at a;obtain⟨ci,g⟩:=Zkq (n.2.2.1[i]).2.2.2.2.2.2.2.1 (n.1.length:Int) 0 3155932800;by_cases l:Wx (n.2.2.1[i]).2.2.2.1=Ud
   ·grind
   rw[Zg l]at a;by_cases c:(Ue ((n.2.2.1[i]).1< -1) ||decide ((n.2.2.1[i]).2.2.1<0))=Uc
   ·grind
   rw[Zg c]at a;by_cases d:(Ue ((n.2.2.1[i]).2.1<0) ||decide (36524<(n.2.2.1[i]).2.1))=Uc
   ·grind
   rw[Zg d]at a;by_cases e:(Ue ((n.2.2.1[i]).2.2.2.2.1<0) ||decide ((n.2.1.length:Int)<=(n.2.2.1[i]).2.2.2.2.1))=Uc
   ·grind
   rw[Zg e]at a;by_cases o:XB (n.2.2.1[i]).2.2.2.2.2.2.2.1 (n.1.length:Int) 0 3155932800=0
   ·rw[Zg (by omega)]at a;by_cases h:∃j,j<i/\runK ((n.2.2.1[j]?).getD u0)=runK n.2.2.1[i]
    ·simp_all
    ·have f:Wx (n.2.2.1[i]).2.2.2.1=true:=by grind
     have u:=Rq k h;refine⟨((0,0,0,()),Kv (Zr Ds) (runK n.2.2.1[i]) Uc m,((i+1:Nat):Int)),?_,_,rfl,?_⟩
     ·simp only[ZV b,Zd,ZJ b,Za,R9 _ (q _ (Ve b)),f,Vc,Ze,g,o,decide_true,Z8 b s];simp only[Vs,Vk]at c d e;simp only[c.1,c.2,d.1,d.2,e.1,e.2,Ze,Za];rw[show Vf (ZW (Zr Ds) ((n.2.2.1[i]).2.2.2.1,(n.2.2.1[i]).2.1,(n.2.2.1[i]).2.2.1,()) m) Ud=Ud from u];rfl
     ·have:=W7.add (t:=Ds) rfl k;grind
   omega
  ·rintro i _ b ⟨m,rfl,k⟩ a;have p:=Ks b u0;obtain⟨ci,g⟩:=Zkq (n.2.2.1[i]).2.2.2.2.2.2.2.1 (n.1.length:Int) 0 3155932800;simp only[ZV b,Zd,ZJ b,Za,R9 _ (q _ (Ve b))];unfold X0 at a⊢;simp only[p]at a⊢;by_cases l:Wx (n.2.2.1[i]).2.2.2.1=Ud
   ·grind
   have f:Wx (n.2.2.1[i]).2.2.2.1=true:=by grind
   rw[Zg l]at a⊢;simp only[f,Vc,Ze];by_cases c:(Ue ((n.2.2.1[i]).1< -1) ||decide ((n.2.2.1[i]).2.2.1<0))=Uc
   ·grind
   rw[Zg c]at a⊢;by_cases d:(Ue ((n.2.2.1[i]).2.1<0) ||decide (36524<(n.2.2.1[i]).2.1))=Uc
   ·grind
   rw[Zg d]at a⊢;simp only[Vs,Vk]at c d;simp only[c.1,c.2,d.1,d.2,Ze,Za];by_cases e:(Ue ((n.2.2.1[i]).2.2.2.2.1<0) ||decide ((n.2.1.length:Int)<=(n.2.2.1[i]).2.2.2.2.1))=Uc
   ·grind
   rw[Zg e]at a⊢;simp only[Vs,Vk]at e;simp only[e.1,e.2,Ze,Za,g];by_cases o:XB (n.2.2.1[i]).2.2.2.2.2.2.2.1 (n.1.length:Int) 0 3155932800=0
   ·rw[Zg (by omega)]at a⊢;simp only[o,decide_true,Vc,Ze];by_cases h:∃j,j<i/\runK ((n.2.2.1[j]?).getD u0)=runK n.2.2.1[i]
    ·rw[Zn h];rw[show Vf (ZW (Zr Ds) ((n.2.2.1[i]).2.2.2.1,(n.2.2.1[i]).2.1,(n.2.2.1[i]).2.2.1,()) m) Ud=Uc from (k _).2 h];rfl
    grind
   grind
  grind
theorem ZnS(n:Zc){i:Nat}(l:i<n.2.2.1.length)(y:n.2.2.1.length<=9223372036854775807):F130 n (i:Int)=Ua (X0 n i):=by
 unfold F130 X0;have v:=Ks l u0;simp only[v,ZJ l,Za,Za3,ZqW,Hn];by_cases m:Wx (n.2.2.1[i]).2.2.2.1=Ud
 ·grind
 have f:Wx (n.2.2.1[i]).2.2.2.1=true:=by grind
 rw[Zg m];simp only[f,Vc,Ze];by_cases c:(Ue ((n.2.2.1[i]).1< -1) ||decide ((n.2.2.1[i]).2.2.1<0))=Uc
 ·grind
 rw[Zg c];simp only[Vs,Vk]at c;simp only[c.1,c.2,Ze,Za];by_cases o:(Ue ((n.2.2.1[i]).2.1<0) ||decide (36524<(n.2.2.1[i]).2.1))=Uc
 ·grind
 rw[Zg o];have u:0<=(n.2.2.1[i]).2.1/\(n.2.2.1[i]).2.1<=36524:=by grind
 simp only[Zi u,Vc,Ze];by_cases d:(Ue ((n.2.2.1[i]).2.2.2.2.1<0) ||decide ((n.2.1.length:Int)<=(n.2.2.1[i]).2.2.2.2.1))=Uc
 ·grind
 rw[Zg d];simp only[Vs,Vk]at d;simp only[d.1,d.2,Ze,Za];by_cases q:XB (n.2.2.1[i]).2.2.2.2.2.2.2.1 (n.1.length:Int) 0 3155932800=0
 ·rw[Zg (by omega)];simp only[q,decide_true,Vc,Ze];have k:=ZcT (i:=i) (p:=λj=>runK ((n.2.2.1[j]?).getD u0)=runK n.2.2.1[i]) (τ:=Unit ⊕ Int) (R:=.inr 6) (E:=.inl ()) (step:=λg:Int=>
   bif decide (g<(i:Int)) then
    Vb (idx n.2.2.1 g) λh=>
     Vb
      (bif decide (h.snd.snd.snd.fst=(n.2.2.1[i]).snd.snd.snd.fst) then
        bif decide (h.snd.fst=(n.2.2.1[i]).snd.fst) then Ua (decide (h.snd.snd.fst=(n.2.2.1[i]).snd.snd.fst)) else Ua Ud
      else Ua Ud)
      λw=>bif w then Ua (Sum.inr (Sum.inr (6:Int))) else Ua (Sum.inl (Va .i64 (g+(1:Int))))
   else Ua (Sum.inr (Sum.inl ()))) (λj e a=>?_) (λj e a=>?_) (by simp)
  ·by_cases x:∃j,j<i/\runK ((n.2.2.1[j]?).getD u0)=runK n.2.2.1[i]
   all_goals simp_all
  ·have b:j<n.2.2.1.length:=by omega
   have a:¬runK n.2.2.1[j]=runK n.2.2.1[i]:=by grind
   simp only[ZV e,Zd,ZJ b,Za,Z8 e (by omega)];by_cases r:(n.2.2.1[j]).2.2.2.1=(n.2.2.1[i]).2.2.2.1
   ·rw[Zi r];by_cases s:(n.2.2.1[j]).2.1=(n.2.2.1[i]).2.1
    ·rw[Zi s];have t:¬(n.2.2.1[j]).2.2.1=(n.2.2.1[i]).2.2.1:=λt=>a (by unfold runK;grind);grind
    grind
   grind
  ·have b:j<n.2.2.1.length:=by omega
   have a:runK n.2.2.1[j]=runK n.2.2.1[i]:=by grind
   unfold runK at a;simp only[Vab,and_true]at a;simp only[ZV e,Zd,ZJ b,Za,Zi a.1,Zi a.2.1,Zi a.2.2]
 grind
end Q
namespace Q
open Tr Go Gr
def f0:Kl:=(0,0,0,Ud,())
def JT(p:Kl):Kl:=(p.1,p.2.1,0,p.2.2.2.1,())
def YY(n:Nat)(p:Kl):Bool:= !Ue (0<=p.1/\p.1<(n:Int)) || (!Ue (0<=p.2.1/\p.2.1<(n:Int)) ||decide (p.1=p.2.1))
def YZ(p:Kl):Bool:=Ue (p.2.2.1<1) ||decide (14400<p.2.2.1)
open Classical in
noncomputable def Wm(n:Nat)(l:List Kl)(i:Nat):Int:=
 if YY n ((l[i]?).getD f0)=Uc then 9 else if YZ ((l[i]?).getD f0)=Uc then 2 else if∃j,j<i/\JT ((l[j]?).getD f0)=JT ((l[i]?).getD f0) then 6 else 0
theorem ZaS{n:Nat}{l:List Kl}{i:Nat}(h:Wm n l i=0):YY n ((l[i]?).getD f0)=Ud/\YZ ((l[i]?).getD f0)=Ud/\ ¬∃j,j<i/\JT ((l[j]?).getD f0)=JT ((l[i]?).getD f0):=by
 unfold Wm at h;by_cases a:YY n ((l[i]?).getD f0)=Uc
 ·grind
 ·rw[Zg a]at h;by_cases b:YZ ((l[i]?).getD f0)=Uc
  all_goals simp_all
theorem Zm2{n:Nat}{p:Kl}(h:YY n p=Ud):(0<=p.1/\p.1<n)/\(0<=p.2.1/\p.2.1<n)/\p.1≠p.2.1:=by unfold YY at h;grind
theorem Zm3{p:Kl}(h:YZ p=Ud):1<=p.2.2.1/\p.2.2.1<=14400:=by unfold YZ at h;grind
theorem ZhP{n:Nat}{l:List Kl}(h:∀i,i<l.length->Wm n l i=0):DW n l:=by intro p d;obtain⟨i,c,rfl⟩:=Vi d;obtain⟨a,b,_⟩:=ZaS (h i c);rw[Ks c]at a b;have:=Zm2 a;have:=Zm3 b;omega
theorem Zxw(x:Int)(n:Nat):F79 x (n:Int)=Ua (Ue (0<=x/\x<(n:Int))):=by unfold F79;grind
theorem Zkb(n:Nat)(p:Kl):(Vb (F79 p.1 (n:Int)) λa=>bif !a then Ua Uc else Vb (F79 p.2.1 (n:Int)) λb=>bif !b then Ua Uc else Ua (decide (p.1=p.2.1)))=Ua (YY n p):=by unfold YY;simp only[Zxw,Za];grind
theorem ZqD{n:Nat}(c:n<=9223372036854775807)(p:Kl):(Vb (F125 p.1 0 (Va .i64 ((n:Int) - 1))) λa=>bif !a then Ua Uc else Vb (F125 p.2.1 0 (Va .i64 ((n:Int) - 1))) λb=>bif !b then Ua Uc else Ua (decide (p.1=p.2.1)))=Ua (YY n p):=by
 have e:Va .i64 ((n:Int) - 1)=(n:Int) - 1:=ZN (by omega) (by omega);have h:∀x:Int,Ue (0<=x/\x<=(n:Int) - 1)=Ue (0<=x/\x<(n:Int)):=by grind
 unfold YY;simp only[e,Hn,Za,h];grind
theorem Zkc(p:Kl):(bif decide (p.2.2.1<(1:Int)) then Ua Uc else Ua (decide ((14400:Int)<p.2.2.1)))=Ua (YZ p):=by unfold YZ;grind
theorem ZqE(p:Kl):Ue ((1:Int)<=p.2.2.1/\p.2.2.1<=14400)= !YZ p:=by unfold YZ;grind
def sameF(a b:Kl):Bool:=Ue (a.1=b.1)&&(Ue (a.2.1=b.2.1)&&(Ue (a.2.2.1=b.2.2.1)&&a.2.2.2.1==b.2.2.2.1))
def eqF(c l:List Kl)(i:Nat):Int:=if sameF ((c[i]?).getD f0) ((l[i]?).getD f0) then 0 else 1
def XT(c l:List Kl):Bool:=Ue (c.length=l.length)&&(Wt c.length (eqF c l)).isNone
theorem ZkO{τ:Type}{c l:List Kl}(j:c.length=l.length)(k:c.length<=9223372036854775807)(R E:τ):run (λf:Int=>
              bif decide (f<(↑(Vr c):Int)) then
               Vb (idx c f) λg=>
                Vb (idx l f) λh=>
                 bif !(decide (g.fst=h.fst)&&(decide (g.snd.fst=h.snd.fst)&&(decide (g.snd.snd.fst=h.snd.snd.fst)&&g.snd.snd.snd.fst==h.snd.snd.snd.fst))) then
                  Ua (Sum.inr R)
                 else Ua (Sum.inl (Va .i64 (f+(1:Int))))
              else Ua (Sum.inr E)) (0:Int)=Ua (if (Wt c.length (eqF c l)).isNone then E else R):=by
 rw[JV (n:=c.length) (λi st=>st=(i:Int)) (eqF c l) (λ_=>R) E ?_ ?_ ?_ (0:Int) rfl]
 ·unfold pick;grind
 ·rintro i _ b rfl d;have a:i<l.length:=by omega
  refine⟨((i+1:Nat):Int),?_,rfl⟩;unfold eqF at d;rw[Ks b,Ks a]at d;have e:sameF c[i] l[i]=true:=by grind
  unfold sameF at e;simp only[ZV b,Zd,ZJ b,ZJ a,Za,e,Vc,Ze,Z8 b k]
 ·rintro i _ b rfl d;have a:i<l.length:=by omega
  unfold eqF at d;rw[Ks b,Ks a]at d;have e:sameF c[i] l[i]=false:=by grind
  unfold sameF at e;simp only[ZV b,Zd,ZJ b,ZJ a,Za,e,Vp]
 simp
theorem ZwJ{n:Nat}{l:List Kl}(u:l.length<=4096)(h:∀i,i<l.length->Wm n l i=0):F42 l (n:Int)=Ua (0,0):=by
 unfold F42;have b:∀i (_:i<l.length),¬∃j,j<i/\(λj=>(((l[j]?).getD f0).1,((l[j]?).getD f0).2.1,((l[j]?).getD f0).2.2.2.1,())) j=(((l[i]?).getD f0).1,((l[i]?).getD f0).2.1,((l[i]?).getD f0).2.2.2.1,()):=by rintro i a ⟨j,o,k⟩;refine(ZaS (h i a)).2.2 ⟨j,o,?_⟩;simp only[Vab,and_true]at k;unfold JT;grind
 rw[JV (n:=l.length) (λi st=>∃m,st=(m,(i:Int))/\W7 (t:=Yl) (λj=>(((l[j]?).getD f0).1,((l[j]?).getD f0).2.1,((l[j]?).getD f0).2.2.2.1,())) i m) (Wm n l) (λi=>.inr ((i:Int),Wm n l i)) (.inl ()) ?_ ?_ ?_ ([],(0:Int)) ⟨[],rfl,W7.nil _⟩]
 ·unfold pick;rw[ZeV h];rfl
 ·rintro i _ a ⟨m,rfl,e⟩ g;have p:=Ks a f0;have v:=Rq e (b i a);obtain⟨c,d,_⟩:=ZaS g;rw[p]at c d;obtain⟨q,r,f⟩:=Zm2 c;have s:=Zm3 d;refine⟨(Kv (Zr Yl) ((l[i]).1,(l[i]).2.1,(l[i]).2.2.2.1,()) Uc m,((i+1:Nat):Int)),?_,_,rfl,?_⟩
  ·simp only[ZV a,Zd,ZJ a,Za,show Ue ((l[i]).1<0)=Ud from (by grind),show Ue ((n:Int)<=(l[i]).1)=Ud from (by grind),show Ue ((l[i]).2.1<0)=Ud from (by grind),
    show Ue ((n:Int)<=(l[i]).2.1)=Ud from (by grind),Zt f,Ze,show Ue ((l[i]).2.2.1<1)=Ud from (by grind),show Ue ((14400:Int)<(l[i]).2.2.1)=Ud from (by grind),Z8 a (by omega)]
   grind
  ·have:=W7.add (t:=Yl) rfl e;grind
 all_goals grind
theorem ZtI{n:Nat}(g:n<=64){l:List Kl}(b:l.length<=4096)(h:∀i,i<l.length->Wm n l i=0):∃c,F119 l (n:Int)=Ua c/\c.length<=8192/\F37 l (n:Int)=Ua (XT c l):=by
 obtain⟨c,d,e,f⟩:=Zg3 g (ZhP h) b;refine⟨c,e,f,?_⟩;unfold F37 XT;rw[ZwJ b h];have em:Tr.imax (n:Int) 0=(n:Int):=by rfl
 simp only[show Ue ((64:Int)<(n:Int))=Ud from (by grind),Ze,Za,decide_true,Vc,em];rw[d];simp only[Za];by_cases a:c.length=l.length
 ·rw[Zi (by omega),Zi a];simp only[Vc,Ze,Vda];rw[ZkO a (by omega) _ _];grind
 grind
theorem Zvb(n:Zc)(I:n.1.length<=64)(H:n.2.2.2.2.1.length<=4096):∃c,((∀i,i<n.2.2.2.2.1.length->Wm n.1.length n.2.2.2.2.1 i=0)->F119 n.2.2.2.2.1 (n.1.length:Int)=Ua c)/\F67 n=Ua (match Wt n.2.2.2.2.1.length (Wm n.1.length n.2.2.2.2.1) with
 |some i=>(4,(i:Int),Wm n.1.length n.2.2.2.2.1 i,())
 |none=>if XT c n.2.2.2.2.1 then(0,0,0,()) else(4,0,18,()))/\
 F128 n=Ua (match Wt n.2.2.2.2.1.length (Wm n.1.length n.2.2.2.2.1) with
  |some i=>((i:Int),Wm n.1.length n.2.2.2.2.1 i)
  |none=>if XT c n.2.2.2.2.1 then(0,0) else(0,18)):=by
 have w:n.2.2.2.2.1.length<=9223372036854775807:=by omega
 have B:∀i (a:i<n.2.2.2.2.1.length) (τ:Type) (R E:τ),((∃j,j<i/\JT ((n.2.2.2.2.1[j]?).getD f0)=JT n.2.2.2.2.1[i])->run (λq:Int=>
               bif decide (q<(i:Int)) then
                Vb (idx n.snd.snd.snd.snd.fst q) λr=>
                 Vb
                  (bif decide (r.fst=(n.2.2.2.2.1[i]).fst) then
                    bif decide (r.snd.fst=(n.2.2.2.2.1[i]).snd.fst) then Ua (r.snd.snd.snd.fst== (n.2.2.2.2.1[i]).snd.snd.snd.fst) else Ua Ud
                  else Ua Ud)
                  λA=>bif A then Ua (Sum.inr R) else Ua (Sum.inl (Va .i64 (q+(1:Int))))
               else Ua (Sum.inr E)) (0:Int)=Ua R)/\((¬∃j,j<i/\JT ((n.2.2.2.2.1[j]?).getD f0)=JT n.2.2.2.2.1[i])->run (λq:Int=>
               bif decide (q<(i:Int)) then
                Vb (idx n.snd.snd.snd.snd.fst q) λr=>
                 Vb
                  (bif decide (r.fst=(n.2.2.2.2.1[i]).fst) then
                    bif decide (r.snd.fst=(n.2.2.2.2.1[i]).snd.fst) then Ua (r.snd.snd.snd.fst== (n.2.2.2.2.1[i]).snd.snd.snd.fst) else Ua Ud
                  else Ua Ud)
                  λA=>bif A then Ua (Sum.inr R) else Ua (Sum.inl (Va .i64 (q+(1:Int))))
               else Ua (Sum.inr E)) (0:Int)=Ua E):=by
  intro i a τ R E;refine ZcT (p:=λj=>JT ((n.2.2.2.2.1[j]?).getD f0)=JT n.2.2.2.2.1[i]) (λj z h=>?_) (λj z h=>?_) (by simp)
  ·have f:j<n.2.2.2.2.1.length:=by omega
   rw[Ks f f0]at h;simp only[ZV z,Zd,ZJ f,Za,Z8 z (by omega)];by_cases D:(n.2.2.2.2.1[j]).1=(n.2.2.2.2.1[i]).1
   ·rw[Zi D];by_cases F:(n.2.2.2.2.1[j]).2.1=(n.2.2.2.2.1[i]).2.1
    ·rw[Zi F];have G:((n.2.2.2.2.1[j]).2.2.2.1== (n.2.2.2.2.1[i]).2.2.2.1)=false:=by
      cases y:((n.2.2.2.2.1[j]).2.2.2.1== (n.2.2.2.2.1[i]).2.2.2.1) with
      |false=>rfl
      |true=>exact absurd (by unfold JT;grind) h
     grind
    grind
   grind
  ·have f:j<n.2.2.2.2.1.length:=by omega
   rw[Ks f f0]at h;unfold JT at h;simp only[Vab,and_true,true_and]at h;have G:((n.2.2.2.2.1[j]).2.2.2.1== (n.2.2.2.2.1[i]).2.2.2.1)=true:=beq_iff_eq.2 h.2.2;simp only[ZV z,Zd,ZJ f,Za,Zi h.1,Zi h.2.1];grind
 have b:∀(step:Int->Option (Int ⊕ (Unit ⊕ (Int×Int)))),(∀i,i<n.2.2.2.2.1.length->step (i:Int)=if Wm n.1.length n.2.2.2.2.1 i=0 then Ua (.inl ((i+1:Nat):Int)) else Ua (.inr (.inr ((i:Int),Wm n.1.length n.2.2.2.2.1 i))))->step (n.2.2.2.2.1.length:Int)=Ua (.inr (.inl ()))->
  run step (0:Int)=Ua (pick n.2.2.2.2.1.length (Wm n.1.length n.2.2.2.2.1) (λi=>.inr ((i:Int),Wm n.1.length n.2.2.2.2.1 i)) (.inl ())):=by
  intro step d e;refine JV (λi st=>st=(i:Int)) _ _ _ ?_ ?_ ?_ _ rfl
  all_goals grind
 have key:∀c,(∀(_:∀i,i<n.2.2.2.2.1.length->Wm n.1.length n.2.2.2.2.1 i=0),F119 n.2.2.2.2.1 (n.1.length:Int)=Ua c/\c.length<=8192/\F37 n.2.2.2.2.1 (n.1.length:Int)=Ua (XT c n.2.2.2.2.1))->
  F67 n=Ua (match Wt n.2.2.2.2.1.length (Wm n.1.length n.2.2.2.2.1) with
  |some i=>(4,(i:Int),Wm n.1.length n.2.2.2.2.1 i,())
  |none=>if XT c n.2.2.2.2.1 then(0,0,0,()) else(4,0,18,()))/\
  F128 n=Ua (match Wt n.2.2.2.2.1.length (Wm n.1.length n.2.2.2.2.1) with
   |some i=>((i:Int),Wm n.1.length n.2.2.2.2.1 i)
   |none=>if XT c n.2.2.2.2.1 then(0,0) else(0,18)):=by
  intro c g;constructor
  ·unfold F67;rw[JV (n:=n.2.2.2.2.1.length) (λi st=>∃m,st=((0,0,0,()),m,(i:Int))/\W7 (t:=Wd) (λj=>JT ((n.2.2.2.2.1[j]?).getD f0)) i m) (Wm n.1.length n.2.2.2.2.1) (λi=>.inr (4,(i:Int),Wm n.1.length n.2.2.2.2.1 i,())) (.inl (0,0,0,())) ?c1 ?c2 ?c3 _ ⟨[],rfl,W7.nil _⟩]
   case c1=>
    rintro i _ a ⟨m,rfl,x⟩ g;have s:=Ks a f0;obtain⟨d,e,k⟩:=ZaS g;have C:=Rq x k;rw[s]at d e C;refine⟨((0,0,0,()),Kv (Zr Wd) (JT n.2.2.2.2.1[i]) Uc m,((i+1:Nat):Int)),?_,_,rfl,?_⟩
    ·simp only[ZV a,Zd,ZJ a,Za,Z8 a w];rw[Zkb,Zkc];simp only[Za,d,e,Ze];rw[show Vf (ZW (Zr Wd) ((n.2.2.2.2.1[i]).1,(n.2.2.2.2.1[i]).2.1,(0:Int),(n.2.2.2.2.1[i]).2.2.2.1,()) m) Ud=Ud from C];rfl
    ·have:=W7.add (t:=Wd) rfl x;grind
   case c2=>
    rintro i _ a ⟨m,rfl,x⟩ g;have s:=Ks a f0;simp only[ZV a,Zd,ZJ a,Za];rw[Zkb,Zkc];simp only[Za];unfold Wm at g⊢;rw[s]at g;simp only[s];by_cases d:YY n.1.length n.2.2.2.2.1[i]=Uc
    ·rw[Zn d,d];rfl
    rw[Zg d]at g⊢;have l:YY n.1.length n.2.2.2.2.1[i]=false:=by grind
    simp only[l,Ze];by_cases e:YZ n.2.2.2.2.1[i]=Uc
    ·rw[Zn e,e];rfl
    rw[Zg e]at g⊢;have o:YZ n.2.2.2.2.1[i]=false:=by grind
    simp only[o,Ze];by_cases k:∃j,j<i/\JT ((n.2.2.2.2.1[j]?).getD f0)=JT n.2.2.2.2.1[i]
    ·rw[Zn k];rw[show Vf (ZW (Zr Wd) ((n.2.2.2.2.1[i]).1,(n.2.2.2.2.1[i]).2.1,(0:Int),(n.2.2.2.2.1[i]).2.2.2.1,()) m) Ud=Uc from (x _).2 k];rfl
    grind
   case c3=>grind
   unfold pick;simp only[Za]
   cases y:Wt n.2.2.2.2.1.length (Wm n.1.length n.2.2.2.2.1) with
   |some i=>rfl
   |none=>
    obtain⟨_,_,k⟩:=g (W2.1 y);simp only[Vj];rw[k];cases XT c n.2.2.2.2.1<;>rfl
  ·unfold F128;rw[b _ (λi a=>?_) (by simp)]
   ·unfold pick;simp only[Za]
    cases y:Wt n.2.2.2.2.1.length (Wm n.1.length n.2.2.2.2.1) with
    |some i=>rfl
    |none=>
     obtain⟨d,e,_⟩:=g (W2.1 y);simp only[Vj];rw[d];simp only[Za];unfold XT;by_cases v:c.length=n.2.2.2.2.1.length
     ·rw[Zi (by omega),Zi v];simp only[Vc,Ze,Vda];rw[ZkO v (by omega) _ _];grind
     grind
   ·have s:=Ks a f0;simp only[ZV a,Zd,ZJ a,Za,Z8 a w];rw[ZqD (by omega),Hn,ZqE];simp only[Za];unfold Wm;rw[s];by_cases d:YY n.1.length n.2.2.2.2.1[i]=Uc
    ·grind
    have l:YY n.1.length n.2.2.2.2.1[i]=false:=by grind
    rw[Zg d,l];simp only[Ze];by_cases e:YZ n.2.2.2.2.1[i]=Uc
    ·grind
    have o:YZ n.2.2.2.2.1[i]=false:=by grind
    rw[Zg e,o];simp only[Vp,Vc,Ze];by_cases k:∃j,j<i/\JT ((n.2.2.2.2.1[j]?).getD f0)=JT n.2.2.2.2.1[i]
    all_goals simp [*]
 by_cases u:∀i,i<n.2.2.2.2.1.length->Wm n.1.length n.2.2.2.2.1 i=0
 ·obtain⟨c,d,e,k⟩:=ZtI I H u;grind
 grind
end Q
namespace Q
open Tr Go
def KD(f:Int->Option Int)(a:Int):Nat->Option Int
 |0=>Ua a
 |k+1=>(f a).bind λb=>KD f b k
inductive Xe (f:Int->Option Int):Int->Prop
 |stop {a:Int}:f a=Ub->Xe f a
 |step {a b:Int}:f a=Ua b->Xe f b->Xe f a
theorem Xe.next{f:Int->Option Int}{a b:Int}(h:Xe f a)(e:f a=Ua b):Xe f b:=by
 cases h with
 |stop c=>grind
 |step c d=>grind
theorem ZmQ(f:Int->Option Int):∀(k:Nat) (a:Int),KD f a (k+1)=(KD f a k).bind f
 |0,a=>by
  show (f a).bind (λb=>Ua b)=f a
  simp
 |k+1,a=>by
  show (f a).bind (λb=>KD f b (k+1))=((f a).bind λb=>KD f b k).bind f
  cases h:f a with
  |none=>rfl
  |some b=>exact ZmQ f k b
theorem ZmC{f:Int->Option Int}{a:Int}(h:Xe f a):∀k,KD f a (k+1)≠Ua a:=by
 induction h with
 |stop c=>intro k d;simp [KD,c]at d
 | @step a b c i g=>
   intro k d;have e:KD f b k=Ua a:=by simpa [KD,c] using d
   refine g k ?_;rw[ZmQ,e];grind
theorem few:∀(i:Nat) (l:List Nat),l.Nodup->(∀j∈l,j<i)->l.length<=i
 |0,l,_,h=>by
  cases l with
  |nil=>simp
  |cons a t=>exact absurd (h a (by simp)) (by omega)
 |i+1,l,b,h=>by have c:=few i (l.erase i) (b.erase i) (by grind);grind
def nx(from_ to_:Nat->Int)(st:Nat->Bool):Nat->Int->Option Int
 |0,_=>Ub
 |i+1,a=>if st i=Uc/\from_ i=a then Ua (to_ i) else nx from_ to_ st i a
variable {from_ to_:Nat->Int}{st:Nat->Bool}
theorem Zdj:∀{i:Nat}{a b:Int},nx from_ to_ st i a=Ua b->∃j,j<i/\st j=Uc/\from_ j=a/\to_ j=b
 |0,a,b,h=>by cases h
 |i+1,a,b,h=>by
  unfold nx at h;split at h
  ·grind
  ·obtain⟨j,c,d⟩:=Zdj h;grind
theorem Ziq:∀{i:Nat}{a:Int},nx from_ to_ st i a=Ub->∀j,j<i->st j=Uc->from_ j≠a
 |0,a,_,j,b,_=>by omega
 |i+1,a,h,j,b,d=>by
  unfold nx at h;split at h
  ·cases h
  ·next e=>
   by_cases c:j=i
   ·grind
   ·exact Ziq h j (by omega) d
theorem Zm4{i:Nat}:∀(k:Nat) (a c:Int),Xe (nx from_ to_ st i) a->KD (nx from_ to_ st i) a k=Ua c->
 ∃l:List Nat,l.length=k/\l.Nodup/\∀j∈l,j<i/\∃t,KD (nx from_ to_ st i) a t=Ua (from_ j)
 |0,_,_,_,_=>⟨[],rfl,List.nodup_nil,by simp⟩
 |k+1,a,c,p,h=>by
  cases d:nx from_ to_ st i a with
  |none=>simp [KD,d]at h
  |some b=>
   have q:KD (nx from_ to_ st i) b k=Ua c:=by simpa [KD,d] using h
   obtain⟨l,y,r,o⟩:=Zm4 k b c (p.next d) q
   obtain⟨j,g,u,e,v⟩:=Zdj d;refine⟨j::l,by grind,List.nodup_cons.2 ⟨λw=>?_,r⟩,λx m=>?_⟩
   ·obtain⟨_,t,f⟩:=o j w;rw[e]at f;refine ZmC p t ?_;simpa [KD,d] using f
   ·rcases Vya.1 m with rfl|m
    ·exact⟨g,0,by rw[e];rfl⟩
    ·obtain⟨s,t,f⟩:=o x m;exact⟨s,t+1,by simpa [KD,d] using f⟩
theorem Zva{i k:Nat}{a c:Int}(d:Xe (nx from_ to_ st i) a)(h:KD (nx from_ to_ st i) a k=Ua c):k<=i:=by obtain⟨l,e,b,f⟩:=Zm4 k a c d h;have:=few i l b (by grind);omega
theorem ZsD{f g:Int->Option Int}{fr:Int}(m:∀a,a≠fr->g a=f a){a:Int}(h:Xe f a)(c:∀k,KD f a k≠Ua fr):Xe g a:=by
 induction h with
 | @stop a d=>
   have:a≠fr:=λe=>c 0 (by rw[e];rfl)
   exact .stop (by grind)
 | @step a b d l j=>
   have:a≠fr:=λe=>c 0 (by rw[e];rfl);refine .step (by grind) (j λk i=>c (k+1) ?_);simpa [KD,d] using i
theorem ZsC{f g:Int->Option Int}{fr to:Int}(l:∀a,a≠fr->g a=f a)(c:g fr=Ua to)(d:Xe g to){a:Int}(h:Xe f a):Xe g a:=by
 induction h with
 | @stop a i=>
   by_cases e:a=fr
   ·subst e;exact .step c d
   ·exact .stop (by grind)
 | @step a b i k j=>
   by_cases e:a=fr
   ·subst e;exact .step c d
   ·exact .step (by grind) j
theorem ZsE{i:Nat}(h:∀a,Xe (nx from_ to_ st i) a)(f:st i=Uc->to_ i≠from_ i/\∀k,KD (nx from_ to_ st i) (to_ i) (k+1)≠Ua (from_ i))(a:Int):Xe (nx from_ to_ st (i+1)) a:=by
 by_cases c:st i=Uc
 ·obtain⟨d,g⟩:=f c;have b:∀a,a≠from_ i->nx from_ to_ st (i+1) a=nx from_ to_ st i a:=λa j=>Zg (by omega);refine ZsC b (Zn ⟨c,rfl⟩) (ZsD b (h _) λk=>?_) (h a)
  cases k with
  |zero=>exact λe=>d (KO e)
  |succ k=>grind
 ·have:nx from_ to_ st (i+1)=nx from_ to_ st i:=funext λa=>Zg (by grind);grind
theorem ZsF(a:Int):Xe (nx from_ to_ st 0) a:=.stop rfl
theorem Zt5{f:Int->Option Int}{m:List (Int×Int)}(j:∀a,ZW (Zr Y3) a m=f a){a fr:Int}(e:Xe f a):F77 m a fr=Ua (m, @decide (∃k,KD f a (k+1)=Ua fr) (Classical.propDecidable _)):=by
 classical
 unfold F77;have key:∀a,Xe f a->run (λs0:Int×Bool=>
       bif s0.snd then
        bif decide (s0.fst=fr) then Ua (Sum.inr (Sum.inr Uc))
        else Ua (Sum.inl (Vf (ZW (Zr Y3) s0.fst m) ((0:Int)),Vka (ZW (Zr Y3) s0.fst m)))
       else Ua (Sum.inr (Sum.inl ())))
  (Vf (ZW (Zr Y3) a m) ((0:Int)),Vka (ZW (Zr Y3) a m))=Ua (if∃k,KD f a (k+1)=Ua fr then Sum.inr Uc else Sum.inl ()):=by
  intro a e
  induction e with
  | @stop a c=>
    rw[j a,c,Zg (by rintro ⟨k,d⟩;simp [KD,c]at d)]
    rfl
  | @step a b c o l=>
    rw[j a,c];by_cases g:b=fr
    ·rw[Zn ⟨0,by simp [KD,c,g]⟩];exact Y0 (by grind)
    ·rw[H4 (s' :=(Vf (ZW (Zr Y3) b m) ((0:Int)),Vka (ZW (Zr Y3) b m))) (by grind),l];have i:(∃k,KD f b (k+1)=Ua fr)↔∃k,KD f a (k+1)=Ua fr:=by
      refine⟨λ⟨k,d⟩=>⟨k+1,by simpa [KD,c] using d⟩,λ⟨k,d⟩=>?_⟩
      cases k with
      |zero=>exact absurd (by simpa [KD,c] using d) g
      |succ k=>exact⟨k,by simpa [KD,c] using d⟩
     simp_all
 refine(congrArg (Vb · _) (key a e)).trans ?_;by_cases h:∃k,KD f a (k+1)=Ua fr
 all_goals grind
end Q
namespace Q
open Tr Go
theorem Zn2{σ τ:Type}{step:σ->Option (σ ⊕ τ)}{n:Nat}(a:Nat->σ->Prop)(chk:Nat->Int)(R:Nat->τ)(E:τ)
 (b:∀i s,i<n->(∀j,j<i->chk j=0)->a i s->(chk i=0/\∃s',step s=Ua (.inl s')/\a (i+1) s')\/(chk i≠0/\step s=Ua (.inr (R i))))
 (c:∀s,a n s->step s=Ua (.inr E)) (s:σ) (d:a 0 s):run step s=Ua (pick n chk R E):=by
 refine JV (λi s=>a i s/\∀j,j<i->chk j=0) chk R E ?_ ?_ (by grind) s (by grind)
 all_goals grind
def l0:Gg:=(0,0,0,0,Ud,())
def lk(n:Zc)(j:Nat):Gg:=(n.2.2.2.1[j]?).getD l0
def rn(n:Zc)(a:Int):He:=(n.2.2.1[a.toNat]?).getD u0
def cl(l:List Wy)(a:Int):Wy:=(l[a.toNat]?).getD c0
def Kc(x:Int)(m:Nat):Bool:=Ue (0<=x)&&Ue (x<(m:Int))
def Wf(n:Zc)(i:Nat):Int->Option Int:=nx (λj=>(lk n j).1) (λj=>(lk n j).2.2.1) (λj=>(lk n j).2.2.2.2.1) i
abbrev Zjv:=List Int
def Xd(x:Gg):Zjv:=[x.1,x.2.1,x.2.2.1,x.2.2.2.1]
theorem Zxv(x:Int)(m:Nat):F79 x (m:Int)=Ua (Kc x m):=by unfold F79 Kc;grind
theorem Jl{α:Type}{l:List α}{x:Int}(h:Kc x l.length=Uc)(d:α):idx l x=Ua ((l[x.toNat]?).getD d):=by
 unfold Kc at h;simp only[Vl,Kx]at h;have e:x=(x.toNat:Int):=by omega
 have a:x.toNat<l.length:=by omega
 rw[e,ZJ a,Vo,Ks a]
def Hh(n:Zc)(x:Gg):Bool:= !Kc x.1 n.2.2.1.length|| (!Kc x.2.2.1 n.2.2.1.length||decide (x.1=x.2.2.1))
def Gq(n:Zc)(x:Gg):Bool:= !Kc x.2.1 (rn n x.1).2.2.2.2.2.2.2.1.length|| !Kc x.2.2.2.1 (rn n x.2.2.1).2.2.2.2.2.2.2.1.length
open Classical in
noncomputable def W3(n:Zc)(i:Nat):Int:=
 let x:=lk n i
 if Hh n x=Uc then 9 else if Gq n x=Uc then 9
 else if¬(cl (rn n x.1).2.2.2.2.2.2.2.1 x.2.1).1=(cl (rn n x.2.2.1).2.2.2.2.2.2.2.1 x.2.2.2.1).1 then 13
 else if x.2.2.2.2.1=Uc/\ ¬x.2.1+1=((rn n x.1).2.2.2.2.2.2.2.1.length:Int) then 19
 else if x.2.2.2.2.1=Uc/\ ¬x.2.2.2.1=0 then 19
 else if x.2.2.2.2.1=Uc/\∃j,j<i/\(lk n j).2.2.2.2.1=Uc/\((lk n j).1=x.1\/(lk n j).2.2.1=x.2.2.1) then 19
 else if x.2.2.2.2.1=Uc/\∃k,KD (Wf n i) x.2.2.1 (k+1)=Ua x.1 then 19
 else if∃j,j<i/\Xd (lk n j)=Xd x then 6 else 0
theorem ZaK{n:Zc}{i:Nat}(h:W3 n i=0):Hh n (lk n i)=Ud/\Gq n (lk n i)=Ud/\((lk n i).2.2.2.2.1=Uc->
 (¬∃j,j<i/\(lk n j).2.2.2.2.1=Uc/\((lk n j).1=(lk n i).1\/(lk n j).2.2.1=(lk n i).2.2.1))/\ ¬∃k,KD (Wf n i) (lk n i).2.2.1 (k+1)=Ua (lk n i).1):=by
 unfold W3 at h;simp only at h;by_cases a:Hh n (lk n i)=Uc
 ·grind
 rw[Zg a]at h;by_cases b:Gq n (lk n i)=Uc
 ·grind
 rw[Zg b]at h;refine⟨by grind,by grind,λc=>?_⟩
 repeat (split at h; · omega)
 grind
theorem ZeQ{n:Zc}:∀{i:Nat},(∀j,j<i->W3 n j=0)->∀a,Xe (Wf n i) a
 |0,_,a=>ZsF a
 |i+1,h,a=>by obtain⟨b,_,c⟩:=ZaK (h i (by omega));refine ZsE (ZeQ (by grind)) (λf=>⟨λe=>?_,λk d=>(c f).2 ⟨k,d⟩⟩) a;unfold Hh at b;grind
theorem Ztu{n:Zc}{j:Nat}(h:W3 n j=0):0<=(lk n j).1:=by obtain⟨a,_⟩:=ZaK h;unfold Hh Kc at a;grind
end Q
namespace Q
open Tr Go
noncomputable def Zff(n:Zc):Int×Int×Int×Unit:=if 1024<n.2.2.2.1.length then(3,0,5,()) else pick n.2.2.2.1.length (W3 n) (λi=>(3,(i:Int),W3 n i,())) (0,0,0,())
theorem R4{n:Zc}{a:Int}(h:Kc a n.2.2.1.length=Uc):rn n a∈n.2.2.1:=by
 unfold Kc at h;simp only[Vl,Kx]at h;have b:a.toNat<n.2.2.1.length:=by omega
 unfold rn;grind
def LSt(n:Zc)(i:Nat)(s:(Int×Int×Int×Unit)×List (Int×Int)×List (Int×Bool)×List (Zjv×Bool)×Int):Prop:=
 ∃d c e,s=((0,0,0,()),d,c,e,(i:Int))/\(∀a,ZW (Zr Y3) a d=Wf n i a)/\(∀b,Vf (ZW (Zr Y3) b c) Ud=Uc↔∃j,j<i/\(lk n j).2.2.2.2.1=Uc/\(lk n j).2.2.1=b)
  /\W7 (t:=XP) (λj=>Xd (lk n j)) i e
theorem ZmH{n:Zc}{i:Nat}{a:Int}:(Wf n i a).isSome=Uc↔∃j,j<i/\(lk n j).2.2.2.2.1=Uc/\(lk n j).1=a:=by
 cases h:Wf n i a with
 |none=>
  refine⟨by simp,λ⟨j,c,d,e⟩=>absurd e (Ziq h j c d)⟩
 |some b=>
  obtain⟨j,c,d,e,_⟩:=Zdj h;grind
theorem Zuo(n:Zc)(P:∀x∈n.2.2.1,x.2.2.2.2.2.2.2.1.length<=9223372036854775807):F66 n=Ua (Zff n):=by
 unfold F66 Zff F78;by_cases u:1024<n.2.2.2.1.length
 ·grind
 rw[Zg u,Zt (by omega)];simp only[Ze];have C:n.2.2.2.1.length<=9223372036854775807:=by omega
 rw[Zn2 (n:=n.2.2.2.1.length) (LSt n) (W3 n) (λi=>.inr (3,(i:Int),W3 n i,())) (.inl (0,0,0,())) ?_ ?_ ((0,0,0,()),[],[],[],(0:Int))
  ⟨[],[],[],rfl,λ_=>rfl,λb=>⟨λh=>(nomatch h),by omega⟩,W7.nil _⟩]
 ·unfold pick;grind
 ·rintro i _ q R ⟨A,s,f,rfl,v,W,m⟩;have U:n.2.2.2.1[i]=lk n i:=(Ks q l0).symm;simp only[ZV q,Zd,ZJ q,Za,U,Zxv];have c:W3 n i=W3 n i:=rfl
  conv at c=>rhs;unfold W3
  simp only at c;generalize E:lk n i=x at c⊢;by_cases g:Hh n x=Uc
  ·rw[Zn g]at c;refine .inr ⟨by omega,?_⟩;rw[c];unfold Hh at g;grind
  rw[Zg g]at c;unfold Hh at g;simp only[Vs,Vk,Vba]at g;obtain⟨B,F,V⟩:=g;have L:idx n.2.2.1 x.1=Ua (rn n x.1):=Jl B u0;have M:idx n.2.2.1 x.2.2.1=Ua (rn n x.2.2.1):=Jl F u0;simp only[B,F,V,Vc,Ze,Za,L,M];by_cases l:Gq n x=Uc
  ·rw[Zn l]at c;refine .inr ⟨by omega,?_⟩;rw[c];unfold Gq at l;grind
  rw[Zg l]at c;unfold Gq at l;simp only[Vs,Vk,Vba]at l;obtain⟨w,G⟩:=l;have N:idx (rn n x.1).2.2.2.2.2.2.2.1 x.2.1=Ua (cl (rn n x.1).2.2.2.2.2.2.2.1 x.2.1):=Jl w c0;have O:idx (rn n x.2.2.1).2.2.2.2.2.2.2.1 x.2.2.2.1=Ua (cl (rn n x.2.2.1).2.2.2.2.2.2.2.1 x.2.2.2.1):=Jl G c0;simp only[w,G,Vc,Ze,Za,N,O];by_cases H:(cl (rn n x.1).2.2.2.2.2.2.2.1 x.2.1).1=(cl (rn n x.2.2.1).2.2.2.2.2.2.2.1 x.2.2.2.1).1
  case neg=>
   grind
  rw[Zg (by omega)]at c;simp only[Zi H,Vc,Ze];by_cases D:x.2.2.2.2.1=Uc
  ·simp only[D,true_and,Zd]at c⊢;have T:Va .i64 (x.2.1+1)=x.2.1+1:=by have z:=P _ (R4 B);unfold Kc at w;simp only[Vl,Kx]at w;exact ZN (by omega) (by omega)
   rw[T];by_cases I:x.2.1+1=((rn n x.1).2.2.2.2.2.2.2.1.length:Int)
   case neg=>
    grind
   rw[Zg (by omega)]at c;simp only[Zi I,Vc,Ze];by_cases J:x.2.2.2.1=0
   case neg=>
    grind
   rw[Zg (by omega)]at c;simp only[Zi J,Vc,Ze,v,Zt5 v (ZeQ R x.2.2.1),Za];by_cases y:∃j,j<i/\(lk n j).2.2.2.2.1=Uc/\((lk n j).1=x.1\/(lk n j).2.2.1=x.2.2.1)
   ·rw[Zn y]at c;refine .inr ⟨by omega,?_⟩;rw[c];by_cases e:(Wf n i x.1).isSome=Uc
    ·grind
    ·have o:Vf (ZW (Zr Y3) x.2.2.1 s) Ud=true:=by
      obtain⟨j,u,z,p⟩:=y;rcases p with p|p
      ·exact absurd (ZmH.2 ⟨j,u,z,p⟩) e
      grind
     grind
   rw[Zg y]at c;have e:(Wf n i x.1).isSome=false:=by
    cases S:(Wf n i x.1).isSome with
    |false=>rfl
    |true=>obtain⟨j,u,z,p⟩:=ZmH.1 S;grind
   have o:Vf (ZW (Zr Y3) x.2.2.1 s) Ud=false:=by grind
   simp only[e,o,Ze];by_cases K:∃k,KD (Wf n i) x.2.2.1 (k+1)=Ua x.1
   ·grind
   rw[Zg (by grind)]at c;simp only[@decide_eq_false _ (Classical.propDecidable _) K,Ze];by_cases d:∃j,j<i/\Xd (lk n j)=Xd x
   ·rw[Zn d]at c;refine .inr ⟨by omega,?_⟩;rw[c];rw[show Vf (ZW (Zr XP) [x.1,x.2.1,x.2.2.1,x.2.2.2.1] f) Ud=Uc from (m _).2 d];rfl
   rw[Zg d]at c;refine .inl ⟨c,_,?_,Kv (Zr Y3) x.1 x.2.2.1 A,Kv (Zr Y3) x.2.2.1 Uc s,Kv (Zr XP) (Xd x) Uc f,rfl,?_,?_,?_⟩
   ·rw[show Vf (ZW (Zr XP) [x.1,x.2.1,x.2.2.1,x.2.2.2.1] f) Ud=Ud from Rq m d];simp only[Ze,Z8 q C];rfl
   ·intro a;rw[Zak rfl,v];show _=nx _ _ _ (i+1) a;unfold nx;simp only[E,D,true_and];by_cases Q:a=x.1
    ·grind
    ·rw[Zg Q,Zg (by grind)];rfl
   ·intro b;rw[Zak rfl];grind
   ·have:=W7.add (t:=XP) rfl m;grind
  ·have r:x.2.2.2.2.1=false:=by grind
   simp only[r,Vha,false_and,if_false,Ze]at c⊢;by_cases d:∃j,j<i/\Xd (lk n j)=Xd x
   ·rw[Zn d]at c;refine .inr ⟨by omega,?_⟩;rw[c];rw[show Vf (ZW (Zr XP) [x.1,x.2.1,x.2.2.1,x.2.2.2.1] f) Ud=Uc from (m _).2 d];rfl
   rw[Zg d]at c;refine .inl ⟨c,_,?_,A,s,Kv (Zr XP) (Xd x) Uc f,rfl,?_,?_,?_⟩
   ·rw[show Vf (ZW (Zr XP) [x.1,x.2.1,x.2.2.1,x.2.2.2.1] f) Ud=Ud from Rq m d];simp only[Ze,Z8 q C];rfl
   ·intro a;rw[v];show _=nx _ _ _ (i+1) a;unfold nx;simp only[E,r,Vha,false_and,if_false];rfl
   ·grind
   ·have:=W7.add (t:=XP) rfl m;grind
 ·rintro _ ⟨A,s,f,rfl,_⟩;simp
end Q
namespace Q
open Tr Go
theorem Ze7(x:Int){m:Nat}(b:m<=9223372036854775807):F125 x 0 (Va .i64 ((m:Int) - 1))=Ua (Kc x m):=by
 rw[Hn,ZN (by omega) (by omega)];unfold Kc;by_cases a:0<=x
 all_goals grind
theorem Zt0(n:Zc){i:Nat}(o:i<=n.2.2.2.1.length)(l:n.2.2.2.1.length<=9223372036854775807)(a:Int):
 run (λb:Int×Int=>
       bif decide (b.snd<(i:Int)) then
        Vb
         (Vb (idx n.snd.snd.snd.fst b.snd) λd=>
           bif d.snd.snd.snd.snd.fst then Vb (idx n.snd.snd.snd.fst b.snd) λe=>Ua (decide (e.fst=a)) else Ua Ud)
         λf=>
         bif f then Vb (idx n.snd.snd.snd.fst b.snd) λg=>Ua (Sum.inl (g.snd.snd.fst,Va .i64 (b.snd+(1:Int))))
         else Ua (Sum.inl (b.fst,Va .i64 (b.snd+(1:Int))))
       else Ua (Sum.inr b.fst))
       ((-1:Int),(0:Int))=Ua ((Wf n i a).getD (-1)):=by
 have h:=JV (n:=i) (λj (st:Int×Int)=>st=((Wf n j a).getD (-1),(j:Int))) (λ_=>0) (λ_=>(Wf n i a).getD (-1)) ((Wf n i a).getD (-1)) (step:=λb:Int×Int=>
          bif decide (b.snd<(i:Int)) then
           Vb
            (Vb (idx n.snd.snd.snd.fst b.snd) λd=>
              bif d.snd.snd.snd.snd.fst then Vb (idx n.snd.snd.snd.fst b.snd) λe=>Ua (decide (e.fst=a)) else Ua Ud)
            λf=>
            bif f then Vb (idx n.snd.snd.snd.fst b.snd) λg=>Ua (Sum.inl (g.snd.snd.fst,Va .i64 (b.snd+(1:Int))))
            else Ua (Sum.inl (b.fst,Va .i64 (b.snd+(1:Int))))
          else Ua (Sum.inr b.fst)) ?_ ?_ ?_ ((-1:Int),(0:Int)) rfl
 ·rw[h];unfold pick;grind
 ·rintro j _ k rfl _;have c:j<n.2.2.2.1.length:=by omega
  have m:n.2.2.2.1[j]=lk n j:=(Ks c l0).symm;refine⟨((Wf n (j+1) a).getD (-1),((j+1:Nat):Int)),?_,rfl⟩;simp only[ZV k,Zd,ZJ c,Za,m,Z8 c l];have p:Wf n (j+1) a=if (lk n j).2.2.2.2.1=Uc/\(lk n j).1=a then Ua (lk n j).2.2.1 else Wf n j a:=rfl;grind
 all_goals simp
theorem Zt4(n:Zc){i:Nat}(u:i<=n.2.2.2.1.length)(E:n.2.2.2.1.length<=9223372036854775806)(p:∀j,j<i->W3 n j=0)(to fr:Int)(s:0<=fr):
 F126 n (i:Int) to fr=Ua (@decide (∃k,KD (Wf n i) to (k+1)=Ua fr) (Classical.propDecidable _)):=by
 classical
 unfold F126;have f:Wf n i (-1)=none:=by
  cases h:Wf n i (-1) with
  |none=>rfl
  |some b=>
   obtain⟨j,l,C,D,_⟩:=Zdj h;have:=Ztu (p j l);omega
 have m:=Zt0 n u (by omega);have key:∀(r k:Nat) (a:Int),i+1 - k=r->k<=i+1->run (λs0:Int×Int=>
       bif decide (s0.snd<=(i:Int)) then
        Vb
         (run
           (λc=>
             bif decide (c.snd<(i:Int)) then
              Vb
               (Vb (idx n.snd.snd.snd.fst c.snd) λy=>
                 bif y.snd.snd.snd.snd.fst then Vb (idx n.snd.snd.snd.fst c.snd) λz=>Ua (decide (z.fst=s0.fst)) else Ua Ud)
               λA=>
               bif A then Vb (idx n.snd.snd.snd.fst c.snd) λB=>Ua (Sum.inl (B.snd.snd.fst,Va .i64 (c.snd+(1:Int))))
               else Ua (Sum.inl (c.fst,Va .i64 (c.snd+(1:Int))))
             else Ua (Sum.inr c.fst))
           ((-1:Int),(0:Int)))
         λq=>bif decide (q=fr) then Ua (Sum.inr (Sum.inr Uc)) else Ua (Sum.inl (q,Va .i64 (s0.snd+(1:Int))))
       else Ua (Sum.inr (Sum.inl ())))
  (a,(k:Int))=Ua (if∃t,k+t<=i/\KD (Wf n i) a (t+1)=Ua fr then Sum.inr Uc else Sum.inl ()):=by
  intro r
  induction r with
  |zero=>
   intro k a w v;rw[Zg (by omega)]
   exact Y0 (by grind)
  |succ r x=>
   intro k a w v;have F:Va .i64 ((k:Int)+1)=((k+1:Nat):Int):=by rw[ZN (by omega) (by omega)];omega
   by_cases o:(Wf n i a).getD (-1)=fr
   ·have:Wf n i a=Ua fr:=by
     cases h:Wf n i a with
     |none=>grind
     |some b=>grind
    rw[Zn ⟨0,by omega,by simp [KD,this]⟩];refine Y0 ?_;grind
   ·rw[H4 (s' :=((Wf n i a).getD (-1),((k+1:Nat):Int))) (by grind),x (k+1) _ (by omega) (by omega)]
    have e:(∃t,k+1+t<=i/\KD (Wf n i) ((Wf n i a).getD (-1)) (t+1)=Ua fr)↔∃t,k+t<=i/\KD (Wf n i) a (t+1)=Ua fr:=by
     cases h:Wf n i a with
     |none=>
      refine⟨λ⟨t,_,d⟩=>?_,λ⟨t,_,d⟩=>?_⟩
      ·simp [KD,f]at d
      ·simp [KD,h]at d
     |some b=>
      refine⟨λ⟨t,l,d⟩=>⟨t+1,by omega,?_⟩,λ⟨t,l,d⟩=>?_⟩
      ·show (Wf n i a).bind (λb=>KD (Wf n i) b (t+1))=_;grind
      ·have g:(Wf n i a).bind (λb=>KD (Wf n i) b t)=Ua fr:=d;rw[h]at g
       cases t with
       |zero=>rw[h]at o;exact absurd (KO g) o
       |succ t=>grind
    simp_all
 refine(congrArg (Vb · _) (key _ 0 to rfl (by omega))).trans ?_;have e:(∃t,0+t<=i/\KD (Wf n i) to (t+1)=Ua fr)↔∃k,KD (Wf n i) to (k+1)=Ua fr:=by refine⟨by grind,λ⟨t,h⟩=>⟨t,?_,h⟩⟩;have:=Zva (ZeQ p to) h;omega
 by_cases h:∃k,KD (Wf n i) to (k+1)=Ua fr
 all_goals grind
end Q
namespace Q
open Tr Go
theorem Zhx{τ:Type}{step:Int->Option (Int ⊕ τ)}{i:Nat}{p:Nat->Prop}{R E:τ}(c:∀j:Nat,j<i->¬p j->step (j:Int)=Ua (.inl ((j+1:Nat):Int)))(b:∀j:Nat,j<i->p j->step (j:Int)=Ua (.inr R))
 (a:step (i:Int)=Ua (.inr E)):run step (0:Int)=Ua (@ite _ (∃j,j<i/\p j) (Classical.propDecidable _) R E):=by
 classical
 obtain⟨d,e⟩:=ZcT c b a;by_cases h:∃j,j<i/\p j
 all_goals grind
theorem Zum(n:Zc){i:Nat}(w:i<n.2.2.2.1.length)(W:n.2.2.2.1.length<=9223372036854775806)(Y:n.2.2.1.length<=9223372036854775807)
 (D:∀x∈n.2.2.1,x.2.2.2.2.2.2.2.1.length<=9223372036854775807) (V:∀j,j<i->W3 n j=0):F127 n (i:Int)=Ua (W3 n i):=by
 classical
 unfold F127;have hx:n.2.2.2.1[i]=lk n i:=(Ks w l0).symm;have X:n.2.2.2.1.length<=9223372036854775807:=by omega
 simp only[ZJ w,Za,hx,Ze7 _ Y];have c:W3 n i=W3 n i:=rfl
 conv at c=>rhs;unfold W3
 simp only at c;generalize hy:lk n i=x at c⊢;by_cases s:Hh n x=Uc
 ·rw[Zn s]at c;rw[c];unfold Hh at s;grind
 rw[Zg s]at c;unfold Hh at s;simp only[Vs,Vk,Vba]at s;obtain⟨u,z,p3⟩:=s;have Q:idx n.2.2.1 x.1=Ua (rn n x.1):=Jl u u0;have S:idx n.2.2.1 x.2.2.1=Ua (rn n x.2.2.1):=Jl z u0;have K:=D _ (R4 u);have L:=D _ (R4 z);simp only[u,z,p3,Vc,Ze,Za,Q,S,Ze7 _ K,Ze7 _ L];by_cases t:Gq n x=Uc
 ·rw[Zn t]at c;rw[c];unfold Gq at t;grind
 rw[Zg t]at c;unfold Gq at t;simp only[Vs,Vk,Vba]at t;obtain⟨F,G⟩:=t;have T:idx (rn n x.1).2.2.2.2.2.2.2.1 x.2.1=Ua (cl (rn n x.1).2.2.2.2.2.2.2.1 x.2.1):=Jl F c0;have U:idx (rn n x.2.2.1).2.2.2.2.2.2.2.1 x.2.2.2.1=Ua (cl (rn n x.2.2.1).2.2.2.2.2.2.2.1 x.2.2.2.1):=Jl G c0;simp only[F,G,Vc,Ze,Za,T,U];by_cases H:(cl (rn n x.1).2.2.2.2.2.2.2.1 x.2.1).1=(cl (rn n x.2.2.1).2.2.2.2.2.2.2.1 x.2.2.2.1).1
 case neg=>
  grind
 rw[Zg (by omega)]at c;simp only[Zi H,Vc,Ze];have hw:Va .i64 (((rn n x.1).2.2.2.2.2.2.2.1.length:Int) - 1)=((rn n x.1).2.2.2.2.2.2.2.1.length:Int) - 1:=ZN (by omega) (by omega);have f:=Zhx (i:=i) (p:=λj=>Xd (lk n j)=Xd x) (τ:=Unit ⊕ Int) (R:=.inr 6) (E:=.inl ()) (step:=λo:Int=>
                         bif decide (o<(i:Int)) then
                             Vb (idx n.snd.snd.snd.fst o) λm=>
                              Vb
                               (bif decide (m.fst=x.fst) then
                                 bif decide (m.snd.fst=x.snd.fst) then
                                  bif decide (m.snd.snd.fst=x.snd.snd.fst) then Ua (decide (m.snd.snd.snd.fst=x.snd.snd.snd.fst))
                                  else Ua Ud
                                 else Ua Ud
                               else Ua Ud)
                               λA=>bif A then Ua (Sum.inr (Sum.inr (6:Int))) else Ua (Sum.inl (Va .i64 (o+(1:Int))))
                          else Ua (Sum.inr (Sum.inl ()))) (λj b g=>by
  have a:j<n.2.2.2.1.length:=by omega
  have d:n.2.2.2.1[j]=lk n j:=(Ks a l0).symm;simp only[ZV b,Zd,ZJ a,Za,d,Z8 b (by omega)];by_cases M:(lk n j).1=x.1
  ·rw[Zi M];by_cases N:(lk n j).2.1=x.2.1
   ·rw[Zi N];by_cases O:(lk n j).2.2.1=x.2.2.1
    ·rw[Zi O];have P:¬(lk n j).2.2.2.1=x.2.2.2.1:=λP=>g (by unfold Xd;grind);grind
    grind
   grind
  grind) (λj b g=>by
  have a:j<n.2.2.2.1.length:=by omega
  have d:n.2.2.2.1[j]=lk n j:=(Ks a l0).symm;unfold Xd at g;simp only[Xx,and_true]at g;simp only[ZV b,Zd,ZJ a,Za,d,Zi g.1,Zi g.2.1,Zi g.2.2.1,Zi g.2.2.2]) (by simp)
 by_cases Z:x.2.2.2.2.1=Uc
 ·simp only[Z,true_and,Zd,hw]at c f⊢;by_cases b4:x.2.1+1=((rn n x.1).2.2.2.2.2.2.2.1.length:Int)
  case neg=>
   grind
  rw[Zg (by omega)]at c;simp only[Zi (show x.2.1=((rn n x.1).2.2.2.2.2.2.2.1.length:Int) - 1 by omega),Vc,Ze,Za];by_cases I:x.2.2.2.1=0
  case neg=>
   grind
  rw[Zg (by omega)]at c;have v:0<=x.1:=by unfold Kc at u;grind
  have l:=Zhx (i:=i) (p:=λj=>(lk n j).2.2.2.2.1=Uc/\((lk n j).1=x.1\/(lk n j).2.2.1=x.2.2.1)) (τ:=Unit ⊕ Int) (R:=.inr 19) (E:=.inl ()) (step:=λe:Int=>
                  bif decide (e<(i:Int)) then
                   Vb (idx n.snd.snd.snd.fst e) λq=>
                    Vb
                     (
                      bif q.snd.snd.snd.snd.fst then
                       bif decide (q.fst=x.fst) then Ua Uc else Ua (decide (q.snd.snd.fst=x.snd.snd.fst))
                      else Ua Ud)
                     λr=>bif r then Ua (Sum.inr (Sum.inr (19:Int))) else Ua (Sum.inl (Va .i64 (e+(1:Int))))
                  else Ua (Sum.inr (Sum.inl ()))) (λj b g=>by
   have a:j<n.2.2.2.1.length:=by omega
   have d:n.2.2.2.1[j]=lk n j:=(Ks a l0).symm;simp only[ZV b,Zd,ZJ a,Za,d,Z8 b (by omega)];grind) (λj b g=>by
   have a:j<n.2.2.2.1.length:=by omega
   have d:n.2.2.2.1[j]=lk n j:=(Ks a l0).symm;simp only[ZV b,Zd,ZJ a,Za,d,g.1];grind) (by simp)
  simp only[Zi I,Vc,Ze];refine(congrArg (Vb · _) l).trans ?_;simp only[Za];by_cases B:∃j,j<i/\(lk n j).2.2.2.2.1=Uc/\((lk n j).1=x.1\/(lk n j).2.2.1=x.2.2.1)
  ·grind
  rw[Zg B]at c;rw[Zg B];simp only[Vj,Zt4 n (Nat.le_of_lt w) W V x.2.2.1 x.1 v,Za];by_cases C:∃k,KD (Wf n i) x.2.2.1 (k+1)=Ua x.1
  ·grind
  rw[Zg C]at c;rw[Zt C];simp only[Ze];refine(congrArg (Vb · _) f).trans ?_;rw[c];by_cases J:∃j,j<i/\Xd (lk n j)=Xd x
  all_goals grind
 ·have y:x.2.2.2.2.1=false:=by grind
  have h:=Zhx (i:=i) (p:=λ_=>False) (τ:=Unit ⊕ Int) (R:=.inr 19) (E:=.inl ()) (step:=λe:Int=>
                    bif decide (e<(i:Int)) then
                     Vb (idx n.snd.snd.snd.fst e) λ_=>
                      Vb
                       (Ua Ud)
                       λr=>bif r then Ua (Sum.inr (Sum.inr (19:Int))) else Ua (Sum.inl (Va .i64 (e+(1:Int))))
                    else Ua (Sum.inr (Sum.inl ()))) (λj b _=>by
   have a:j<n.2.2.2.1.length:=by omega
   simp only[ZV b,Zd,ZJ a,Za,Ze,Z8 b (by omega)]) (by simp) (by simp)
  rw[Zg (by simp)]at h;simp only[y,Vha,false_and,if_false,Ze,Za]at c h f⊢;refine(congrArg (Vb · _) h).trans ?_;simp only[Za,Vj];refine(congrArg (Vb · _) f).trans ?_;rw[c];by_cases J:∃j,j<i/\Xd (lk n j)=Xd x
  all_goals grind
end Q
namespace Q
open Tr Go
abbrev Zgm:=Int×Int×Int×Unit
def ZaQ(a b:Zgm):Zgm:=if a.2.2.1=0 then b else a
theorem Zlp(a b:El KU):F69 [a,b]=Ua (ZaQ a (ZaQ b (0,0,0,()))):=by
 revert a b
 show∀a b:Zgm,F69 [a,b]=Ua (ZaQ a (ZaQ b (0,0,0,())));intro a b;unfold F69 ZaQ;by_cases c:a.2.2.1=0
 ·rw[Zn c];by_cases d:b.2.2.1=0
  ·rw[Zn d,H4 (s' :=((0,0,0,()),(1:Int))) (by simp [idx,c,Va,Vq,Vt]),H4 (s' :=((0,0,0,()),(2:Int))) (by simp [idx,d,Va,Vq,Vt]),Y0 (r:=.inl (0,0,0,())) (by simp)];rfl
  ·rw[Zg d,H4 (s' :=((0,0,0,()),(1:Int))) (by simp [idx,c,Va,Vq,Vt]),Y0 (r:=.inr b) (by simp [idx,d])];rfl
 ·rw[Zg c,Y0 (r:=.inr a) (by simp [idx,c])];rfl
structure HB (n:Zc):Prop where
 stops:∀x∈n.1,x.1.length<=9223372036854775807
 routes:∀x∈n.2.1,x.1.length<=9223372036854775807
 runs:∀x∈n.2.2.1,x.2.2.2.1.length<=9223372036854775807
 calls:∀x∈n.2.2.1,x.2.2.2.2.2.2.2.1.length<=9223372036854775807
 paths:n.2.2.2.2.1.length<=4096
 prods:∀x∈n.2.2.2.2.2.1.1,x.1.length<=9223372036854775807
def ZjB(l:List Wy):Prop:= ∀i (a:i<l.length),0<=l[i].2.1/\l[i].2.1<=l[i].2.2.1/\l[i].2.2.1<=3155932800/\(0<i->(l[i - 1]'(by omega)).1≠l[i].1/\(l[i - 1]'(by omega)).2.2.1<=l[i].2.1)
structure WV (n:Zc):Prop where
 stops:n.1.length<=64
 runs:n.2.2.1.length<=1024
 links:n.2.2.2.1.length<=1024
 zone:∀x∈n.1,0<=x.2.1/\x.2.1<16
 mode:∀x∈n.2.1,0<=x.2.1/\x.2.1<=7
 route:∀x∈n.2.2.1,0<=x.2.2.2.2.1/\x.2.2.2.2.1<(n.2.1.length:Int)
 many:∀x∈n.2.2.1,2<=x.2.2.2.2.2.2.2.1.length/\x.2.2.2.2.2.2.2.1.length<=32
 call:∀x∈n.2.2.1,∀c∈x.2.2.2.2.2.2.2.1,0<=c.1/\c.1<(n.1.length:Int)
 time:∀x∈n.2.2.1,ZjB x.2.2.2.2.2.2.2.1
 base:∀x∈n.2.2.1, -1<=x.1/\0<=x.2.2.1/\0<=x.2.1/\x.2.1<=36524
 fare:(JN n.2.2.2.2.2.1).2=0
theorem ZbZ{n:Nat}{chk:Nat->Int}{E:Int×Int}(h:(pick n chk (λi=>((i:Int),chk i)) E).2=0):∀j,j<n->chk j=0:=by
 unfold pick at h
 cases a:Wt n chk with
 |none=>exact W2.1 a
 |some i=>rw[a]at h;exact absurd h (Zav a).2
theorem ZqU{l:List Wy}{n:Int}(h:XB l n 0 3155932800=0):ZjB l:=by
 unfold XB at h;split at h
 ·omega
 ·intro i e;have a:XH l n 0 3155932800 i=0:=by
   unfold pick at h
   cases b:Wt l.length (XH l n 0 3155932800) with
   |none=>exact W2.1 b i e
   |some i=>rw[b]at h;exact absurd h (Zav b).2
  unfold XH at a;split at a
  ·omega
  split at a
  ·omega
  next c=>
   split at a
   ·omega
   next d=>
    unfold ZcJ at c;unfold ZcK at d;grind
theorem Zkr{l:List Wy}{n d b:Int}(h:XB l n d b=0):(2<=l.length/\l.length<=32)/\∀c∈l,0<=c.1/\c.1<n:=by
 unfold XB at h;split at h
 ·omega
 ·refine⟨by omega,λc g=>?_⟩;obtain⟨j,k,rfl⟩:=Vi g;have e:XH l n d b j=0:=by
   unfold pick at h
   cases a:Wt l.length (XH l n d b) with
   |none=>exact W2.1 a j k
   |some i=>rw[a]at h;exact absurd h (Zav a).2
  unfold XH at e;split at e
  ·omega
  ·next f=>
   unfold ZcI at f;grind
theorem ZwI{n:Zc}(s:(GI n.1).2=0)(t:(Dd n.2.1).2=0)(u:n.2.2.1.length<=1024)(c:Wt n.2.2.1.length (X0 n)=Ub)(v:n.2.2.2.1.length<=1024)(z:(JN n.2.2.2.2.2.1).2=0):WV n:=by
 unfold GI at s;unfold Dd at t;split at s
 ·omega
 split at t
 ·omega
 have e:=ZbZ s;have f:=ZbZ t;have d:=W2.1 c;have key:∀x∈n.2.2.1,((0<=x.2.2.2.2.1/\x.2.2.2.2.1<(n.2.1.length:Int))/\ -1<=x.1/\0<=x.2.2.1/\0<=x.2.1/\x.2.1<=36524)/\XB x.2.2.2.2.2.2.2.1 (n.1.length:Int) 0 3155932800=0:=by intro x a;obtain⟨j,b,rfl⟩:=Vi a;have h:=d j b;unfold X0 at h;grind
 refine⟨by omega,u,v,λx a=>?_,λx a=>?_,by grind,λx a=>(Zkr (key x a).2).1,λx a=>(Zkr (key x a).2).2,λx a=>ZqU (key x a).2,by grind,z⟩
 ·obtain⟨j,b,rfl⟩:=Vi a;have h:=e j b;unfold GH YS at h;simp only[Ks b]at h;split at h
  ·omega
  split at h
  all_goals omega
 ·obtain⟨j,b,rfl⟩:=Vi a;have h:=f j b;unfold Dc YS at h;simp only[Ks b]at h;split at h
  ·omega
  split at h
  all_goals omega
structure Whole (n:Zc):Prop where
 s:(GI n.1).2=0
 t:(Dd n.2.1).2=0
 u:n.2.2.1.length<=1024
 f:Wt n.2.2.1.length (X0 n)=Ub
 v:n.2.2.2.1.length<=1024
 g:Wt n.2.2.2.1.length (W3 n)=Ub
 q:Wt n.2.2.2.2.1.length (Wm n.1.length n.2.2.2.2.1)=Ub
 w:∀c,F119 n.2.2.2.2.1 (n.1.length:Int)=Ua c->XT c n.2.2.2.2.1=Uc
 z:(JN n.2.2.2.2.2.1).2=0
theorem Whole.sound{n:Zc}(h:Whole n):WV n:=ZwI h.s h.t h.u h.f h.v h.z
theorem Zg0(n:Zc)(h:HB n):∃r:Int×Int×Int,F64 n=Ua r/\F118 n=Ua r/\(r.2.2=0↔Whole n):=by
 unfold F64 F118;rw[ZwN n.1 h.stops,Zv4 n.2.1 h.routes,ZwO n.1,Zv5 n.2.1,Zwl n h.runs,Zuo n h.calls,ZhK _ h.prods,ZsP];simp only[Za,F78];erw[Zlp];simp only[Za];by_cases s:(GI n.1).2=0
 case neg=>
  refine⟨(0,(GI n.1).1,(GI n.1).2),?_,?_,⟨by grind,λW=>absurd W.s s⟩⟩
  ·simp only[ZaQ,Zg s,Zt s,Ze,Za]
  grind
 have y:n.1.length<=64:=by unfold GI at s;grind
 obtain⟨c,d,e,j⟩:=Zvb n y h.paths;rw[e,j];clear e j;simp only[Za];erw[Zlp];simp only[ZaQ,Zn s,Zi s,Vc,Ze,Za];by_cases t:(Dd n.2.1).2=0
 case neg=>
  refine⟨(1,(Dd n.2.1).1,(Dd n.2.1).2),?_,?_,⟨by grind,λW=>absurd W.t t⟩⟩
  all_goals grind
 simp only[Zn t,Zi t,Vc,Ze];by_cases u:1024<n.2.2.1.length
 ·refine⟨(2,0,5),?_,?_,⟨by simp,λW=>absurd W.u (by omega)⟩⟩
  ·simp [ZfI,u]
  grind
 rw[Zt (show¬(1024:Int)<(n.2.2.1.length:Int) by omega)];simp only[Ze];rw[JV (n:=n.2.2.1.length) (λi (st:Int)=>st=(i:Int)) (X0 n) (λi=>.inr ((2:Int),(i:Int),X0 n i)) (.inl ()) ?_ ?_ ?_ (0:Int) rfl]
 rotate_left
 ·rintro i _ a rfl b;refine⟨((i+1:Nat):Int),?_,rfl⟩;simp only[ZV a,Zd,ZnS n a (by omega),Za,b,decide_true,Vc,Ze,Z8 a (by omega)]
 ·rintro i _ a rfl b;simp only[ZV a,Zd,ZnS n a (by omega),Za,Zt b,Vp]
 ·simp
 unfold ZfI;rw[Zg u];unfold pick
 cases l:Wt n.2.2.1.length (X0 n) with
 |some i=>
  have o:=(Zav l).2;refine⟨(2,(i:Int),X0 n i),?_,?_,⟨by grind,λW=>by rw[W.f]at l;grind⟩⟩
  all_goals grind
 |none=>
 simp only[Za,Vj,decide_true,Zd];by_cases v:1024<n.2.2.2.1.length
 ·refine⟨(3,0,5),?_,?_,⟨by simp,λW=>absurd W.v (by omega)⟩⟩
  ·simp [Zff,v]
  grind
 rw[Zt (show¬(1024:Int)<(n.2.2.2.1.length:Int) by omega)];simp only[Ze];rw[Zn2 (n:=n.2.2.2.1.length) (λi (st:Int)=>st=(i:Int)) (W3 n) (λi=>.inr ((3:Int),(i:Int),W3 n i)) (.inl ()) ?_ ?_ (0:Int) rfl]
 rotate_left
 ·rintro i _ a x rfl;have A:=Zum n a (by omega) (by omega) h.calls x;by_cases b:W3 n i=0
  ·refine .inl ⟨b,((i+1:Nat):Int),?_,rfl⟩;simp only[ZV a,Zd,A,Za,b,decide_true,Vc,Ze,Z8 a (by omega)]
  grind
 ·simp
 unfold Zff;rw[Zg v];unfold pick
 cases m:Wt n.2.2.2.1.length (W3 n) with
 |some i=>
  have o:=(Zav m).2;refine⟨(3,(i:Int),W3 n i),?_,?_,⟨by grind,λW=>by rw[W.g]at m;grind⟩⟩
  all_goals grind
 |none=>
 simp only[Za,Vj,decide_true,Zd]
 cases k:Wt n.2.2.2.2.1.length (Wm n.1.length n.2.2.2.2.1) with
 |some i=>
  have o:=(Zav k).2;refine⟨(4,(i:Int),Wm n.1.length n.2.2.2.2.1 i),?_,?_,⟨by grind,λW=>by rw[W.q]at k;grind⟩⟩
  all_goals grind
 |none=>
 by_cases w:XT c n.2.2.2.2.1=Uc
 case neg=>
  refine⟨(4,0,18),?_,?_,⟨by simp,λW=>absurd (W.w c (d (W2.1 k))) w⟩⟩
  all_goals grind
 simp only[Zn w,if_true,decide_true,Vc,Ze];by_cases z:(JN n.2.2.2.2.2.1).2=0
 ·refine⟨(0,0,0),?_,?_,⟨λ_=>⟨s,t,by omega,l,by omega,m,k,λB p=>by rw[d (W2.1 k)]at p;grind,z⟩,λ_=>rfl⟩⟩
  all_goals grind
 ·refine⟨(5,(JN n.2.2.2.2.2.1).1,(JN n.2.2.2.2.2.1).2),?_,?_,⟨by grind,λW=>absurd W.z z⟩⟩
  all_goals grind
theorem Zq7(n:Zc)(h:HB n):∃r:Int×Int×Int,F64 n=Ua r/\F118 n=Ua r/\(r.2.2=0->WV n):=by obtain⟨r,a,b,c⟩:=Zg0 n h;exact⟨r,a,b,λh=>(c.1 h).sound⟩
end Q
namespace Q
open Tr Go
theorem G7{a b:Nat}(e:a<65536)(f:b<65536):Wa .i64 (a:Int) (b:Int)=((a ||| b:Nat):Int):=by
 have d:a ||| b<2 ^ 16:=Vz (n:=16) (by omega) (by omega);unfold Wa;have c:(Vn Vea.bits (a:Int) ||| Vn Vea.bits (b:Int)).toNat=a ||| b:=by rw[Vob,Vv,Vv,Vx,Vx];show a % 2 ^ 64 ||| b % 2 ^ 64=a ||| b;grind
 rw[c,ZN (by omega) (by omega)]
theorem ZbW{a b:Nat}(e:a<65536)(f:b<65536):Wa .u64 (a:Int) (b:Int)=((a ||| b:Nat):Int):=by
 have d:a ||| b<2 ^ 16:=Vz (n:=16) (by omega) (by omega);unfold Wa;have c:(Vn Vjb.bits (a:Int) ||| Vn Vjb.bits (b:Int)).toNat=a ||| b:=by rw[Vob,Vv,Vv,Vx,Vx];show a % 2 ^ 64 ||| b % 2 ^ 64=a ||| b;grind
 rw[c];simp [Va,Vq,Vt];omega
theorem Zcb{z:Int}(a:0<=z)(b:z<16):GE .i64 1 z=Ua ((2 ^ z.toNat:Nat):Int):=by
 have:z=0\/z=1\/z=2\/z=3\/z=4\/z=5\/z=6\/z=7\/z=8\/z=9\/z=10\/z=11\/z=12\/z=13\/z=14\/z=15:=by omega
 rcases this with rfl|rfl|rfl|rfl|rfl|rfl|rfl|rfl|rfl|rfl|rfl|rfl|rfl|rfl|rfl|rfl<;>decide
theorem Zww{z:Int}(a:0<=z)(b:z<16):GE .u64 1 z=Ua ((2 ^ z.toNat:Nat):Int):=by
 have:z=0\/z=1\/z=2\/z=3\/z=4\/z=5\/z=6\/z=7\/z=8\/z=9\/z=10\/z=11\/z=12\/z=13\/z=14\/z=15:=by omega
 rcases this with rfl|rfl|rfl|rfl|rfl|rfl|rfl|rfl|rfl|rfl|rfl|rfl|rfl|rfl|rfl|rfl<;>decide
theorem HZ{z:Int}(a:z<16):2 ^ z.toNat<65536:=Nat.pow_lt_pow_right (by omega) (show z.toNat<16 by omega)
theorem ZmK{z:Int}(a:0<=z)(b:z<16):F5 z=Ua ((2 ^ z.toNat:Nat):Int):=by unfold F5;rw[Zt (show¬z<0 by omega),Zt (by omega)];simp only[Ze,Za,Zww a b]
theorem Zxu{m:Nat}(c:m<65536){z:Int}(b:0<=z)(a:z<16):F3 (m:Int) z=Ua ((m ||| 2 ^ z.toNat:Nat):Int):=by unfold F3;rw[ZmK b a];simp only[Za];rw[ZbW c (HZ a)]
theorem ZmI{z:Int}(c:0<=z)(b:z<16):F0 [z]=Ua ((2 ^ z.toNat:Nat):Int):=by
 unfold F0;rw[H4 (s' :=(((2 ^ z.toNat:Nat):Int),(1:Int))) ?_,Y0 (r:=((2 ^ z.toNat:Nat):Int)) ?_]
 ·rfl
 ·simp
 ·have:=ZbW (a:=0) (by omega) (HZ b);simp only[Nat.zero_or]at this;show (bif Ue ((0:Int)<((1:Nat):Int)) then _ else _)=_;rw[Zi (by omega)];simp only[Zd];rw[show idx [z] (0:Int)=Ua z from rfl];simp only[Za,ZmK c b];rw[show Wa .u64 (0:Int) ((2 ^ z.toNat:Nat):Int)=((2 ^ z.toNat:Nat):Int) from this];rfl
end Q
namespace Q
open Tr Go
abbrev Zw:=Bool×Int×Int×Int×Int×Int×Int×Int×Bool×Unit
abbrev ZF:=Int×Int×Int×Int×Unit
abbrev Zcs:=List Zw×Unit
def K9(n:Zc)(x:Zw):List Wy:=(rn n x.2.1).2.2.2.2.2.2.2.1
def KL(n:Zc)(x:Zw):Bool:=Kc x.2.1 n.2.2.1.length&&(Ue (0<=x.2.2.1)&&(Ue (x.2.2.1<x.2.2.2.1)&&Ue (x.2.2.2.1<((K9 n x).length:Int))))
theorem ZsM(n:Zc)(x:Zw):F56 n x=Ua (KL n x):=by
 unfold F56 KL;by_cases h:Kc x.2.1 n.2.2.1.length=Uc
 ·have e:idx n.2.2.1 x.2.1=Ua (rn n x.2.1):=Jl h u0;simp only[e,Za,h];unfold Kc at h;simp only[Vl]at h;simp only[h.1,h.2,Zd];unfold K9;grind
 ·have a:Kc x.2.1 n.2.2.1.length=false:=by grind
  rw[a];unfold Kc at a;grind
theorem Zk9(n:Zc)(x:Zw):F135 n x=Ua (KL n x):=by
 unfold F135 KL;by_cases h:Kc x.2.1 n.2.2.1.length=Uc
 ·have e:idx n.2.2.1 x.2.1=Ua (rn n x.2.1):=Jl h u0;simp only[e,Za,h];unfold Kc at h;simp only[Vl,Kx]at h;rw[Zt (show¬x.2.1<0 by omega),Zt (by omega)];simp only[Ze,Za];unfold K9;grind
 ·have a:Kc x.2.1 n.2.2.1.length=false:=by grind
  rw[a];unfold Kc at h;grind
def s0:DZ:=([],0,Ud,0,())
def Dg(n:Zc)(a:Int):DZ:=(n.1[a.toNat]?).getD s0
def zn(n:Zc)(l:List Wy)(j:Nat):Nat:=2 ^ (Dg n ((l[j]?).getD c0).1).2.1.toNat
def zN(n:Zc)(l:List Wy)(a:Nat):Nat->Nat
 |0=>0
 |k+1=>zN n l a k ||| zn n l (a+k)
theorem ZfR{n:Zc}(h:WV n){a:Int}(d:0<=a)(e:a<(n.1.length:Int)):idx n.1 a=Ua (Dg n a)/\0<=(Dg n a).2.1/\(Dg n a).2.1<16:=by
 have c:Kc a n.1.length=true:=by unfold Kc;grind
 refine⟨Jl c s0,?_⟩;have b:a.toNat<n.1.length:=by omega
 unfold Dg;rw[Ks b];exact h.zone _ (Ve b)
theorem ZdK{n:Zc}(h:WV n){l:List Wy}(d:∀c∈l,0<=c.1/\c.1<(n.1.length:Int)){a:Nat}:∀k,a+k<=l.length->zN n l a k<65536
 |0,_=>by unfold zN;omega
 |k+1,i=>by
  have g:=ZdK h d (a:=a) k (by omega);have e:a+k<l.length:=by omega
  have b:=d _ (Ve e);have f:=(ZfR h b.1 b.2).2;have:zn n l (a+k)<65536:=by unfold zn;rw[Ks e];exact HZ f.2
  exact Vz (n:=16) g this
theorem Zo2{n:Zc}(h:WV n){x:Zw}(q:KL n x=Uc):F57 n x=Ua ((zN n (K9 n x) x.2.2.1.toNat (x.2.2.2.1.toNat+1 - x.2.2.1.toNat):Nat):Int):=by
 unfold KL at q;simp only[Vl,Kx]at q;obtain⟨y,z,r,A⟩:=q;have w:=R4 y;have f:=(h.many _ w).2;have u:∀c∈K9 n x,0<=c.1/\c.1<(n.1.length:Int):=h.call _ w;have e:idx n.2.2.1 x.2.1=Ua (rn n x.2.1):=Jl y u0;unfold F57;rw[e];simp only[Za];have d:(rn n x.2.1).2.2.2.2.2.2.2.1=K9 n x:=rfl;simp only[d]at f⊢;generalize K9 n x=l at*;obtain⟨a,s⟩:∃a:Nat,x.2.2.1=(a:Int):=⟨x.2.2.1.toNat,by omega⟩;obtain⟨b,t⟩:∃b:Nat,x.2.2.2.1=(b:Int):=⟨x.2.2.2.1.toNat,by omega⟩;rw[s]at z r;rw[t]at r A;rw[s,t];have C:Va .i64 ((b:Int)+1)=((b+1:Nat):Int):=by rw[ZN (by omega) (by omega)];omega
 have p:sliceB l.length l.length (Ua (a:Int)) (Ua ((b+1:Nat):Int))=Ua (a,b+1):=by unfold sliceB;grind
 rw[C,p];simp only[Za,Vo];have j:(Vsa (b+1 - a) (List.drop a l)).length=b+1 - a:=by grind
 rw[JV (n:=b+1 - a) (λi (st:Int×Int)=>st=(((zN n l a i:Nat):Int),(i:Int))) (λ_=>0) (λ_=>((zN n l a (b+1 - a):Nat):Int)) ((zN n l a (b+1 - a):Nat):Int) ?_ ?_ ?_ ((0:Int),(0:Int)) rfl]
 ·unfold pick;grind
 ·rintro i _ v rfl _;have B:a+i<l.length:=by omega
  have g:=u _ (Ve B);obtain⟨k,m,o⟩:=ZfR h g.1 g.2;refine⟨(((zN n l a (i+1):Nat):Int),((i+1:Nat):Int)),?_,rfl⟩;simp only[j,ZV v,Zd];rw[ZJ (by omega)];simp only[List.getElem_take,List.getElem_drop,Za,k,Zxu (ZdK h u (a:=a) i (by omega)) m o,Z8 v (by omega)];have:zN n l a (i+1)=zN n l a i ||| 2 ^ (Dg n l[a+i].1).2.1.toNat:=by show zN n l a i ||| zn n l (a+i)=_;unfold zn;grind
  grind
 all_goals grind
end Q
namespace Q
open Tr Go
theorem ZlG{k:Nat}(h:0<k)(a:k<=9223372036854775807):Zv (Va .i64 ((k:Int) - 1)) k=Ua (k - 1):=by
 have e:Va .i64 ((k:Int) - 1)=((k - 1:Nat):Int):=by rw[ZN (by omega) (by omega)];omega
 rw[e,KS (by omega)]
theorem ZfN{α:Type}{l:List α}{k:Nat}(h:k<l.length)(w:α):(l.set k w)[k]? =Ua w:=by grind
theorem Zgd{m:Nat}(h:m<65536):Va .i64 (m:Int)=(m:Int):=ZN (by omega) (by omega)
def H9(n:Zc)(x:Zw):Nat:=zN n (K9 n x) x.2.2.1.toNat (x.2.2.2.1.toNat+1 - x.2.2.1.toNat)
theorem ZdO{n:Zc}(h:WV n){x:Zw}(a:KL n x=Uc):H9 n x<65536:=by unfold KL at a;simp only[Vl,Kx]at a;obtain⟨c,d,e,b⟩:=a;exact ZdK h (h.call _ (R4 c)) _ (by unfold K9 at b;omega)
def R1:Hc:=([],0,Ud,())
def H3(n:Zc)(x:Zw):Hc:=(n.2.1[(rn n x.2.1).2.2.2.2.1.toNat]?).getD R1
theorem Zb6{n:Zc}(h:WV n){x:Zw}(a:KL n x=Uc):idx n.2.2.1 x.2.1=Ua (rn n x.2.1)/\idx n.2.1 (rn n x.2.1).2.2.2.2.1=Ua (H3 n x)/\0<=(H3 n x).2.1/\(H3 n x).2.1<16:=by
 unfold KL at a;simp only[Vl]at a;have d:=R4 a.1;have e:=h.route _ d;have c:Kc (rn n x.2.1).2.2.2.2.1 n.2.1.length=true:=by unfold Kc;grind
 refine⟨Jl a.1 u0,Jl c R1,?_⟩;have b:(rn n x.2.1).2.2.2.2.1.toNat<n.2.1.length:=by omega
 unfold H3;rw[Ks b];have:=h.mode _ (Ve b);omega
def HV(n:Zc)(x:Zw):ZF:=(x.2.2.2.2.2.2.1,x.2.2.2.2.2.2.2.1,((H9 n x:Nat):Int),((2 ^ (H3 n x).2.1.toNat:Nat):Int),())
def GP(n:Zc)(x:Zw)(l:List ZF)(v:ZF):List ZF:=
 l.set (l.length - 1) (v.1,x.2.2.2.2.2.2.2.1,Wa .i64 v.2.2.1 ((H9 n x:Nat):Int),Wa .i64 v.2.2.2.1 ((2 ^ (H3 n x).2.1.toNat:Nat):Int),())
theorem ZvV{n:Zc}(h:WV n){x:Zw}(a:KL n x=Uc)(g:x.2.2.2.2.2.2.2.2.1=Ud){l:List ZF}(i:l.length<=100):F54 x n l=Ua (l++[HV n x]):=by obtain⟨c,d,e,b⟩:=Zb6 h a;unfold F54;rw[Zo2 h a];simp only[Za,c,d,ZmI e b,g,Vp,Zd];rw[show Va .i64 ((zN n (K9 n x) x.2.2.1.toNat (x.2.2.2.1.toNat+1 - x.2.2.1.toNat):Nat):Int)=((H9 n x:Nat):Int) from Zgd (ZdO h a),Zgd (HZ b)];have f:(Ue (l.length+ [HV n x].length<=ZI))=true:=Zi (by simp [ZI];omega);show (ZD (Ue (l.length+ [HV n x].length<=ZI))).bind (λ_=>Ua (l++[HV n x]))=_;rw[f];rfl
theorem ZvW{n:Zc}(h:WV n){x:Zw}(a:KL n x=Uc)(i:x.2.2.2.2.2.2.2.2.1=Uc){l:List ZF}(k:l.length<=100){v:ZF}(g:0<l.length)(j:l[l.length - 1]? =Ua v):F54 x n l=Ua (GP n x l v):=by
 obtain⟨d,e,f,b⟩:=Zb6 h a;unfold F54;rw[Zo2 h a];simp only[Za,d,e,ZmI f b,i,Vc,Ze];rw[show Va .i64 ((zN n (K9 n x) x.2.2.1.toNat (x.2.2.2.1.toNat+1 - x.2.2.1.toNat):Nat):Int)=((H9 n x:Nat):Int) from Zgd (ZdO h a),Zgd (HZ b)];have c:l.length - 1<l.length:=by omega
 simp only[ZlG g (by omega),Za];erw[j];simp only[Za,List.set_set];erw[ZfN c];simp only[Za];erw[ZfN c];rfl
end Q
namespace Q
open Tr Go
abbrev KM(x:Zw):Bool:=x.2.2.2.2.2.2.2.2.1
def Ya(n:Zc)(x:Zw)(out:List ZF):List ZF:=match out[out.length - 1]? with
 |some v=>GP n x out v
 |none=>out
def Wg(n:Zc):List Zw->Bool->List ZF->List ZF×Int
 |[],_,out=>(out,0)
 |x::l,rode,out=>
  if x.1=Uc/\KL n x=Ud then([],9)
  else if KM x=Uc/\(x.1=Ud\/rode=Ud) then([],19)
  else if x.1=Uc then Wg n l Uc (if KM x=Uc then Ya n x out else out++[HV n x])
  else Wg n l Ud out
theorem GG(n:Zc)(x:Zw)(l:List Zw)(rode:Bool)(out:List ZF):Wg n (x::l) rode out=if x.1=Uc/\KL n x=Ud then([],9)
 else if KM x=Uc/\(x.1=Ud\/rode=Ud) then([],19)
 else if x.1=Uc then Wg n l Uc (if KM x=Uc then Ya n x out else out++[HV n x])
 else Wg n l Ud out:=rfl
theorem Zd7(n:Zc)(x:Zw)(out:List ZF):(Ya n x out).length=out.length:=by
 unfold Ya;split
 ·unfold GP;simp
 ·rfl
theorem ZvZ(n:Zc)(j:Zcs)(A:HB n)(D:j.1.length<=90):(F53 n j=Ua ([],21)/\F123 n=Ua Ud)\/(WV n/\F123 n=Ua Uc/\F53 n j=Ua (Wg n j.1 Ud [])):=by
 obtain⟨c,k,m,o⟩:=Zq7 n A;unfold F53 F123;rw[k,m];simp only[Za];by_cases u:c.2.2=0
 case neg=>
  grind
 have h:=o u;rw[Zi u];simp only[Vc,Ze];refine .inr ⟨h,by simp,?_⟩;refine Wj (λr=>Wg n j.1 Ud []=Vlb (λl:List ZF=>(l,(0:Int))) (λy=>y) r) ?_ ?_
 ·refine KP j.1.length _ (λi (s:List ZF×Bool×Int)=>∃l w,s=(l,w,(i:Int))/\l.length<=i/\(w=Uc->0<l.length)/\Wg n j.1 Ud []=Wg n (j.1.drop i) w l) ?_ ?_ _ ⟨[],Ud,rfl,by simp,by simp,rfl⟩
  ·rintro i _ g ⟨l,w,rfl,B,z,a⟩;have p:j.1.length<=9223372036854775807:=by omega
   rw[Vja g]at a;simp only[ZV g,Zd,ZJ g,Za,Z8 g p];generalize j.1[i]=x at*;rw[GG]at a
   cases f:x.1 with
   |false=>
    rw[f]at a;simp only[Ze,Za,Vp,Zd]
    cases e:KM x with
    |true=>
     simp_all
    |false=>
     grind
   |true=>
    rw[f]at a;simp only[Zd,Za,Vc,Ze,ZsM]
    cases q:KL n x with
    |false=>
     simp_all
    |true=>
     rw[q]at a;simp only[Vc,Ze]
     cases e:KM x with
     |false=>
      left;rw[e]at a;have b:=e;unfold KM at b;rw[b];simp only[Ze,Za,ZvV h q b (show l.length<=100 by omega)]
      grind
     |true=>
      rw[e]at a;have b:=e;unfold KM at b;rw[b];simp only[Zd]
      cases w with
      |false=>
       simp_all
      |true=>
       left;have d:=z rfl;obtain⟨v,C⟩:∃v,l[l.length - 1]? =Ua v:=⟨_,Vd (by omega)⟩;simp only[Vc,Za,Ze,ZvW h q b (by omega) d C];have t:Ya n x l=GP n x l v:=by unfold Ya;grind
       refine⟨_,rfl,GP n x l v,Uc,rfl,by rw[<-t,Zd7];omega,λ_=>by rw[<-t,Zd7];omega,?_⟩;grind
  ·rintro _ ⟨l,w,rfl,B,z,a⟩;simp only[YU,Ze];refine⟨_,rfl,?_⟩;rw[a,List.drop_length];rfl
 grind
end Q
namespace Dv
abbrev Tk:=Int×Int×Int×Int×Unit
structure Law where
 n:Nat
 np:Nat
 cov:Nat->Nat->Nat->Bool
 pr:Nat->Nat->Int
abbrev KQ:=Option (Int×List Tk)
def Zbm(cur:KQ)(s:Int)(c:Nat):Bool:=match cur with
 |none=>Uc
 |some (cs,a)=>Ue (s<cs) || (Ue (s=cs)&&Ue (c<a.length))
def D5(L:Law)(nx:KQ)(i k p:Nat)(cur:KQ):KQ:=match nx with
 |none=>cur
 |some (s,t)=>if L.cov p i k=Uc then(if Zbm cur (L.pr p i+s) (1+t.length)=Uc then Ua (L.pr p i+s,((p:Int),(i:Int),(k:Int),L.pr p i,())::t) else cur) else cur
def ZaY(L:Law)(nx:KQ)(i k:Nat)(cur:KQ):Nat->KQ
 |0=>cur
 |m+1=>D5 L nx i k m (ZaY L nx i k cur m)
def rowK(L:Law)(B:Nat->KQ)(i:Nat):Nat->KQ
 |0=>Ub
 |m+1=>ZaY L (B (i+m+1)) i (i+m) (rowK L B i m) L.np
def KR(L:Law):Nat->Nat->KQ
 |0,j=>if j=L.n then Ua (0,[]) else Ub
 |d+1,j=>if j=L.n - (d+1) then rowK L (KR L d) j (L.n - j) else KR L d j
inductive Div (L:Law):Nat->Int->Prop
 |nil:Div L L.n 0
 |cons {i k p:Nat}{s:Int} (hik:i<=k) (hk:k<L.n) (hp:p<L.np) (hc:L.cov p i k=Uc) (h:Div L (k+1) s):Div L i (L.pr p i+s)
def Xs(c:KQ)(S:Int->Prop):Prop:=match c with
 |none=>∀s,¬S s
 |some (s,_)=>S s/\∀a,S a->s<=a
theorem ZqY{L:Law}{nx cur:KQ}{i k p:Nat}{S N:Int->Prop}(d:Xs cur S)(f:Xs nx N):Xs (D5 L nx i k p cur) λs=>S s\/(L.cov p i k=Uc/\∃s',N s' /\s=L.pr p i+s'):=by
 unfold D5
 cases nx with
 |none=>
  have:(λs=>S s\/(L.cov p i k=Uc/\∃s',N s' /\s=L.pr p i+s'))=S:=by
   funext s;refine propext ⟨λh=>?_,.inl⟩;rcases h with h|⟨_,s',h,_⟩
   ·exact h
   ·exact absurd h (f s')
  grind
 |some x=>
  obtain⟨s,t⟩:=x;obtain⟨m,l⟩:=f;simp only;by_cases c:L.cov p i k=Uc
  ·rw[if_pos c];by_cases b:Zbm cur (L.pr p i+s) (1+t.length)=Uc
   ·rw[if_pos b];refine⟨by grind,λs' a=>?_⟩;rcases a with a|⟨_,g,e,rfl⟩
    ·cases cur with
     |none=>exact absurd a (d s')
     |some y=>
      obtain⟨cs,j⟩:=y;have:=d.2 s' a;simp only[Zbm,Vpb,Vl,decide_eq_true_eq]at b;omega
    grind
   ·rw[if_neg b]
    cases cur with
    |none=>exact absurd rfl b
    |some y=>
     obtain⟨cs,j⟩:=y;refine⟨.inl d.1,λs' a=>?_⟩;rcases a with a|⟨_,g,e,rfl⟩
     ·exact d.2 s' a
     ·have:=l g e;simp only[Zbm,Vpb,Vl,decide_eq_true_eq]at b;omega
  simp_all
theorem ZnL{L:Law}{nx cur:KQ}{i k:Nat}{S N:Int->Prop}(b:Xs cur S)(a:Xs nx N):∀m,Xs (ZaY L nx i k cur m) λs=>S s\/∃p,p<m/\L.cov p i k=Uc/\∃s',N s' /\s=L.pr p i+s'
 |0=>by
  have:(λs=>S s\/∃p,p<0/\L.cov p i k=Uc/\∃s',N s' /\s=L.pr p i+s')=S:=by simp
  rw[this];assumption
 |m+1=>by
  have h:=ZqY (p:=m) (i:=i) (k:=k) (L:=L) (ZnL (i:=i) (k:=k) (L:=L) b a m) a;have e:(λs=>(S s\/∃p,p<m/\L.cov p i k=Uc/\∃s',N s' /\s=L.pr p i+s')\/(L.cov m i k=Uc/\∃s',N s' /\s=L.pr m i+s'))=λs=>S s\/∃p,p<m+1/\L.cov p i k=Uc/\∃s',N s' /\s=L.pr p i+s' :=by grind
  rw[e]at h;exact h
theorem ZnI{L:Law}{B:Nat->KQ}{i:Nat}{N:Nat->Int->Prop}:∀m,(∀j,i<j->j<=i+m->Xs (B j) (N j))->Xs (rowK L B i m) λs=>∃k,i<=k/\k<i+m/\∃p,p<L.np/\L.cov p i k=Uc/\∃s',N (k+1) s' /\s=L.pr p i+s'
 |0,_=>by
  intro s h
  omega
 |m+1,a=>by
  have h:=ZnL (L:=L) (i:=i) (k:=i+m) (ZnI (L:=L) (B:=B) (i:=i) (N:=N) m (by grind)) (a (i+m+1) (by omega) (by omega)) L.np;have e:(λs=>(∃k,i<=k/\k<i+m/\∃p,p<L.np/\L.cov p i k=Uc/\∃s',N (k+1) s' /\s=L.pr p i+s')\/∃p,p<L.np/\L.cov p i (i+m)=Uc/\∃s',N (i+m+1) s' /\s=L.pr p i+s')=λs=>∃k,i<=k/\k<i+(m+1)/\∃p,p<L.np/\L.cov p i k=Uc/\∃s',N (k+1) s' /\s=L.pr p i+s' :=by grind
  rw[e]at h;exact h
theorem Zsk{L:Law}{s:Int}(h:Div L L.n s):s=0:=by
 generalize c:L.n=i at h
 cases h with
 |nil=>rfl
 |cons a b _ _ _=>omega
theorem Zsl{L:Law}{i:Nat}(f:i<L.n){s:Int}:Div L i s↔∃k,i<=k/\k<i+(L.n - i)/\∃p,p<L.np/\L.cov p i k=Uc/\∃s',Div L (k+1) s' /\s=L.pr p i+s' :=by
 constructor
 ·intro h
  cases h with
  |nil=>omega
  |cons a e b c d=>grind
 ·rintro ⟨k,a,e,p,b,c,s',d,rfl⟩;exact .cons a (by omega) b c d
theorem tab_best(L:Law):∀d,d<=L.n->∀j,L.n - d<=j->j<=L.n->Xs (KR L d j) (Div L j)
 |0,_,j,f,b=>by
  have:j=L.n:=by omega
  subst this;rw[KR,if_pos rfl]
  exact⟨.nil,λa h=>by have:=Zsk h;omega⟩
 |d+1,o,j,f,b=>by
  rw[KR];by_cases c:j=L.n - (d+1)
  ·rw[if_pos c];have h:=ZnI (L:=L) (B:=KR L d) (i:=j) (N:=Div L) (L.n - j) λg l m=>tab_best L d (by omega) g (by omega) (by omega);have e:(λs=>∃k,j<=k/\k<j+(L.n - j)/\∃p,p<L.np/\L.cov p j k=Uc/\∃a,Div L (k+1) a/\s=L.pr p j+a)=Div L j:=by funext s;exact propext (Zsl (by omega)).symm
   grind
  ·rw[if_neg c];exact tab_best L d (by omega) j (by omega) b
def Za7(B:Nat->KQ)(n i:Nat)(c:KQ):Prop:= ∀s t,c=Ua (s,t)->∃p k q b a,t=((p:Int),(i:Int),((k:Nat):Int),(q:Int),())::a/\i<=k/\k<n/\B (k+1)=Ua (b,a)
theorem ZqZ{L:Law}{B:Nat->KQ}{n i k p:Nat}{cur:KQ}(a:i<=k)(c:k<n)(h:Za7 B n i cur):Za7 B n i (D5 L (B (k+1)) i k p cur):=by
 unfold D5
 cases d:B (k+1) with
 |none=>exact h
 |some x=>
  obtain⟨s,t⟩:=x;simp only;split
  ·split
   ·intro e f b;grind
   omega
  omega
theorem ZnM{L:Law}{B:Nat->KQ}{n i k:Nat}{cur:KQ}(a:i<=k)(b:k<n)(h:Za7 B n i cur):∀m,Za7 B n i (ZaY L (B (k+1)) i k cur m)
 |0=>h
 |m+1=>ZqZ a b (ZnM a b h m)
theorem ZnJ{L:Law}{B:Nat->KQ}{n i:Nat}:∀m,i+m<=n->Za7 B n i (rowK L B i m)
 |0,_=>λs t h=>by simp [rowK]at h
 |m+1,h=>ZnM (by omega) (by omega) (ZnJ m (by omega)) L.np
theorem Zi7(L:Law):∀d e j,L.n - d<=j->d<=e->e<=L.n->KR L e j=KR L d j
 |d,e,j,a,b,c=>by
  induction e with
  |zero=>grind
  |succ e g=>
   by_cases f:d=e+1
   ·grind
   ·rw[KR,if_neg (by omega)];grind
theorem ZwX(L:Law){j:Nat}(r:j<L.n):Za7 (KR L L.n) L.n j (KR L L.n j):=by
 have b:KR L L.n j=rowK L (KR L (L.n - j - 1)) j (L.n - j):=by rw[Zi7 L (L.n - j) L.n j (by omega) (by omega) (Vu _)];obtain⟨d,a⟩:∃d,L.n - j=d+1:=⟨L.n - j - 1,by omega⟩;rw[show L.n - j - 1=d by omega,a,KR,if_pos (by omega),a]
 have h:=ZnJ (L:=L) (B:=KR L (L.n - j - 1)) (n:=L.n) (i:=j) (L.n - j) (by omega);rw[b];intro s t g;obtain⟨p,k,q,l,m,c,e,f,o⟩:=h s t g;exact⟨p,k,q,l,m,c,e,f,by rw[Zi7 L (L.n - j - 1) L.n (k+1) (by omega) (by omega) (Vu _)];omega⟩
end Dv
namespace Q
open Tr Go Dv
abbrev Yk:=Bool×Int×Int×Tk×Unit
theorem Znm(a b:Int):0<=Wa .u64 a b/\Wa .u64 a b<18446744073709551616:=by
 have c:∀x:Int,0<=Va .u64 x/\Va .u64 x<18446744073709551616:=λx=>by simp [Va,Vt,Vq];omega
 unfold Wa;grind
theorem Zt1(a b d:Int):∃z:Bool,F84 a b d=Ua z:=by
 unfold F84;by_cases h:a<=b
 ·rw[Zi h];by_cases c:d<0
  all_goals simp [*]
 ·rw[Zt h];by_cases c:d<0
  all_goals simp [*]
theorem Zr7(p:Xf)(s:List ZF)(v:s.length<=100):∃z:Bool,F82 p s=Ua z/\(s=[]->z=Ud):=by
 unfold F82;by_cases d:s=[]
 ·simp_all
 ·have h:0<s.length:=Vxa.2 d;rw[Zt (by omega)];have el:Va .i64 ((s.length:Int) - 1)=((s.length - 1:Nat):Int):=by rw[ZN (by omega) (by omega)];omega
  have m:idx s (0:Int)=Ua s[0]:=ZJ (i:=0) h;obtain⟨lt,b⟩:=Zt1 (s[0]).1 (s[s.length - 1]).1 p.2.2.2.2.1;simp only[Ze,el,ZJ (show s.length - 1<s.length by omega),m,Za,b];have e:∃c:Bool,(bif Ue (p.2.2.1<(s.length:Int)) then Ua Uc else Ua lt)=Ua c:=by grind
  obtain⟨c,f⟩:=e;rw[f];simp only[Za]
  cases c with
  |true=>simp
  |false=>
   simp only[Ze];have key:∀(o:Option (Int×Int)) (k:Int×Int->Option Bool),(∃r,o=Ua r/\(0<=r.1/\r.1<18446744073709551616))->(∀r:Int×Int,0<=r.1->r.1<18446744073709551616->∃z,k r=Ua z)->∃z:Bool,Vb o k=Ua z/\(s=[]->z=Ud):=by simp_all
   refine key _ _ ?_ ?_
   ·refine KP s.length _ (λi (t:Int×Int×Int)=>∃x y,t=(x,y,(i:Int))/\0<=x/\x<18446744073709551616) ?_ ?_ _ ⟨0,0,rfl,by omega,by omega⟩
    ·rintro i _ a ⟨x,y,rfl,j,l⟩;left;simp only[ZV a,Zd,ZJ a,Za,Z8 a (by omega),F83,F2];exact⟨_,rfl,_,_,rfl,(Znm _ _).1,(Znm _ _).2⟩
    simp_all
   ·intro r q u;have g:F1 r.1=Ua ((Jv 64 r.1.toNat:Nat):Int):=by show lenF r.1=_;unfold lenF;grind
    simp only[g,Za,F4];grind
noncomputable def covB(p:Xf)(s:List ZF):Bool:=(F82 p s).getD Ud
theorem Zr8(p:Xf)(s:List ZF)(a:s.length<=100):F82 p s=Ua (covB p s):=by obtain⟨z,h,_⟩:=Zr7 p s a;unfold covB;grind
def Dk(a b d:Int):Bool:=bif Ue (b<=a) then Uc else Ue (Va .u64 (Va .u64 b - Va .u64 a)<=Va .u64 d)
theorem ZxA(a b d:Int):F18 a b d=Ua (Dk a b d):=by unfold F18 Dk;grind
def DM:ZF:=(0,0,0,0,())
def prI(F:ZR)(p:Xf)(l:List ZF)(i:Nat):Int:=
 if 0<i/\Dk ((l[i - 1]?).getD DM).2.1 ((l[i]?).getD DM).1 F.2.2.1=Uc then(if 0<p.2.1 - F.2.1 then p.2.1 - F.2.1 else 0) else p.2.1
theorem Zvp(F:ZR)(p:Xf)(l:List ZF)(i:Nat)(b:i<l.length)(g:l.length<=100)(e:0<=p.2.1/\p.2.1<=1000000)(f:0<=F.2.1/\F.2.1<=1000000):F16 F p l (i:Int)=Ua (prI F p l i):=by
 unfold F16 prI;have c:Va .i64 (p.2.1 - F.2.1)=p.2.1 - F.2.1:=ZN (by omega) (by omega);have em:Tr.imax 0 (p.2.1 - F.2.1)=if 0<p.2.1 - F.2.1 then p.2.1 - F.2.1 else 0:=rfl;by_cases d:0<i
 ·have a:Va .i64 ((i:Int) - 1)=((i - 1:Nat):Int):=by rw[ZN (by omega) (by omega)];omega
  rw[Zi (by omega)];simp only[Zd,a,ZJ (show i - 1<l.length by omega),ZJ b,Za,ZxA];grind
 grind
structure Za9 (F:ZR):Prop where
 disc:0<=F.2.1/\F.2.1<=1000000
 cap:0<=F.2.2.2.1
 price:∀p∈F.1,0<=p.2.1/\p.2.1<=1000000
 many:F.1.length<=16
theorem Zll{F:ZR}(h:(JN F).2=0):Za9 F:=by
 unfold JN at h;by_cases a:Gw F=Ud
 ·grind
 rw[Zg a]at h;by_cases c:16<F.1.length
 ·grind
 rw[Zg c]at h;have g:=ZbZ h;have a:Gw F=true:=by grind
 unfold Gw at a;simp only[Vl,Kx]at a;refine⟨a.1,a.2.2.1,λp f=>?_,by omega⟩;obtain⟨i,e,rfl⟩:=Vi f;have b:=g i e;unfold H2 at b;rw[Ks e]at b;obtain⟨_,_,d⟩:=DB.1 b;have d:YV F.1[i]=true:=by grind
 unfold YV at d;grind
noncomputable def Km(F:ZR)(l:List ZF):Law where
 n:=l.length
 np:=F.1.length
 cov:=λp i k=>covB ((F.1[p]?).getD p0) ((l.drop i).take (k+1 - i))
 pr:=λp i=>prI F ((F.1[p]?).getD p0) l i
theorem ZiC{F:ZR}(hF:Za9 F){l:List ZF}{p i:Nat}(a:p<(Km F l).np):0<=(Km F l).pr p i/\(Km F l).pr p i<=1000000:=by have h:=hF.price _ (Ve (show p<F.1.length from a));have b:=hF.disc;show 0<=prI F ((F.1[p]?).getD p0) l i/\prI F ((F.1[p]?).getD p0) l i<=1000000;rw[Ks (by grind)];unfold prI;omega
def Bd(n:Nat)(f:Nat->KQ):Prop:= ∀j s t,j<=n->f j=Ua (s,t)->0<=s/\s<=1000000* ((n:Int) - (j:Int))/\t.length<=n - j
def Dq(c:KQ)(r:Yk):Prop:=match c with
 |none=>r.1=Ud
 |some (s,t)=>r.1=Uc/\r.2.1=s/\r.2.2.1=(t.length:Int)/\∀x a,t=x::a->r.2.2.2.1=x
def X5(f:Nat->KQ)(T:List Yk):Prop:=T.length=9/\∀j,j<=8->∃r,T[j]? =Ua r/\Dq (f j) r
theorem X5.congr{f g:Nat->KQ}{T:List Yk}(h:X5 f T)(e:∀j,j<=8->g j=f j):X5 g T:=
 ⟨h.1,λj a=>by rw[e j a];exact h.2 j a⟩
def Y1(f:Nat->KQ)(i:Nat)(c:KQ):Nat->KQ:=λj=>if j=i then c else f j
theorem X5.set{f:Nat->KQ}{T:List Yk}(h:X5 f T){i:Nat}(d:i<=8){c:KQ}{r:Yk}(e:Dq c r):X5 (Y1 f i c) (T.set i r):=by
 refine⟨by rw[Vga];exact h.1,λj b=>?_⟩;unfold Y1;by_cases a:j=i
 ·subst a;rw[Zn rfl,Vra (by rw[h.1];omega)];grind
 ·rw[Zg a,Vfa (Ne.symm a)];exact h.2 j b
theorem Dq.ok{s:Int}{t:List Tk}{r:Yk}(h:Dq (Ua (s,t)) r):r.1=Uc/\r.2.1=s/\r.2.2.1=(t.length:Int)/\∀x a,t=x::a->r.2.2.2.1=x:=h
theorem ZqK{cur:KQ}{r:Yk}(h:Dq cur r)(s:Int)(c:Nat):F15 r s (c:Int)=Ua (Zbm cur s c):=by
 cases cur with
 |none=>
  unfold F15
  rw[show r.1=Ud from h];rfl
 |some x=>
  obtain⟨cs,a⟩:=x;obtain⟨b,d,f,_⟩:=Dq.ok h;unfold F15;rw[b,d,f];have e:Ue ((c:Int)<(a.length:Int))=Ue (c<a.length):=by simp
  rw[e];show _=Ua (Ue (s<cs) || (Ue (s=cs)&&Ue (c<a.length)));grind
theorem Zw3{F:ZR}(hF:Za9 F){l:List ZF}(P:l.length<=8){f:Nat->KQ}{T:List Yk}(b:X5 f T)(A:Bd l.length f){i k p:Nat}(C:i<=k)(O:k<l.length)(x:p<F.1.length){s:Int}{t:List Tk}(m:f (k+1)=Ua (s,t)):
 ∃v,F14 (i:Int) (k:Int) (p:Int) F l T=Ua v/\X5 (Y1 f i (D5 (Km F l) (f (k+1)) i k p (f i))) v:=by
 unfold F14;have a:=hF.price _ (Ve x);obtain⟨J,K,L⟩:=A (k+1) s t (by omega) m;have z:Va .i64 ((k:Int)+1)=((k+1:Nat):Int):=by rw[ZN (by omega) (by omega)];omega
 have G:sliceB l.length l.length (Ua (i:Int)) (Ua ((k+1:Nat):Int))=Ua (i,k+1):=by unfold sliceB;grind
 have u:((l.drop i).take (k+1 - i)).length<=100:=by grind
 obtain⟨R,r,c⟩:=b.2 (k+1) (by omega);obtain⟨Q,q,e⟩:=b.2 i (by omega);rw[m]at c;obtain⟨M,y,c3,N⟩:=Dq.ok c;have d:Zv ((k+1:Nat):Int) 9=Ua (k+1):=KS (by omega);have h:Zv (i:Int) 9=Ua i:=KS (by omega);have o:F16 F F.1[p] l (i:Int)=Ua ((Km F l).pr p i):=by rw[Zvp F F.1[p] l i (by omega) (by omega) a hF.disc];show _=Ua (prI F ((F.1[p]?).getD p0) l i);grind
 have E:=ZiC hF (l:=l) (i:=i) (by assumption);have g:covB F.1[p] ((l.drop i).take (k+1 - i))=(Km F l).cov p i k:=by show _=covB ((F.1[p]?).getD p0) ((l.drop i).take (k+1 - i));grind
 have H:Va .i64 ((Km F l).pr p i+s)=(Km F l).pr p i+s:=ZN (by omega) (by omega);have I:Va .i64 ((t.length:Int)+1)=((1+t.length:Nat):Int):=by rw[ZN (by omega) (by omega)];omega
 simp only[ZJ x,Za,z,G,Zr8 F.1[p] _ u,g,o,d,h,r,q,y,c3,H,I];rw[m];unfold D5;simp only
 cases w:(Km F l).cov p i k with
 |false=>
  refine⟨T,rfl,b.congr λj D=>?_⟩;unfold Y1
  grind
 |true=>
  simp only[Vc,Ze,ZqK e,Za,if_true]
  cases B:Zbm (f i) ((Km F l).pr p i+s) (1+t.length) with
  |false=>
   refine⟨T,rfl,b.congr λj D=>?_⟩;unfold Y1
   grind
  |true=>
   refine⟨_,rfl,b.set (by omega) ⟨rfl,rfl,?_,by simp⟩⟩
   all_goals grind
end Q
namespace Q
open Tr Go Dv
def DU(n i:Nat)(c:KQ):Prop:= ∀s t,c=Ua (s,t)->0<=s/\s<=1000000* ((n:Int) - (i:Int))/\t.length<=n - i
theorem ZqX{L:Law}{n i k p:Nat}{nx cur:KQ}(c:0<=L.pr p i/\L.pr p i<=1000000)(a:i<=k)(j:k<n)(b:DU n (k+1) nx)(h:DU n i cur):DU n i (D5 L nx i k p cur):=by
 unfold D5
 cases nx with
 |none=>omega
 |some x=>
  obtain⟨s,t⟩:=x;obtain⟨d,f,g⟩:=b s t rfl;simp only;split
  ·split
   ·intro l m e;grind
   omega
  omega
theorem ZiR{L:Law}{n i k:Nat}{nx cur:KQ}(b:∀p,p<L.np->0<=L.pr p i/\L.pr p i<=1000000)(a:i<=k)(d:k<n)(e:DU n (k+1) nx)(c:DU n i cur):∀m,m<=L.np->DU n i (ZaY L nx i k cur m)
 |0,_=>c
 |m+1,h=>ZqX (by grind) a d e (ZiR b a d e c m (by omega))
theorem ZiQ{L:Law}{n i:Nat}{B:Nat->KQ}(a:∀p,p<L.np->0<=L.pr p i/\L.pr p i<=1000000)(b:∀j,DU n j (B j)):∀m,i+m<=n->DU n i (rowK L B i m)
 |0,_=>λs t h=>by simp [Dv.rowK]at h
 |m+1,h=>ZiR a (by omega) (by omega) (by grind) (ZiQ a b m (by omega)) L.np (Vu _)
theorem ZfW{L:Law}(a:∀p i,p<L.np->0<=L.pr p i/\L.pr p i<=1000000):∀d,d<=L.n->∀j,DU L.n j (KR L d j)
 |0,_,j=>by
  intro s t h;rw[KR]at h
  grind
 |d+1,b,j=>by
  rw[KR];split
  ·next c=>exact ZiQ (by grind) (ZfW a d (by omega)) _ (by omega)
  ·exact ZfW a d (by omega) j
theorem Zop(L:Law):∀d,d<=L.n->∀j,j<L.n - d->KR L d j=Ub
 |0,_,j,h=>by rw[KR,Zg (by omega)]
 |d+1,a,j,h=>by rw[KR,Zg (by omega)];exact Zop L d (by omega) j (by omega)
theorem Zw9(f:Nat->KQ)(i:Nat)(c a:KQ):Y1 (Y1 f i c) i a=Y1 f i a:=by funext j;unfold Y1;grind
theorem Zf7(f:Nat->KQ)(i:Nat)(c:KQ):Y1 f i c i=c:=Zn rfl
theorem Zch(f:Nat->KQ){i j:Nat}(c:KQ)(h:j≠i):Y1 f i c j=f j:=Zg h
def rz:Yk:=(Ud,0,0,(0,0,0,0,()),())
theorem Zsn{F:ZR}(hF:Za9 F){l:List ZF}(P:l.length<=8):∃T,F13 F l=Ua T/\X5 (KR (Km F l) l.length) T:=by
 have D:∀p i,p<(Km F l).np->0<=(Km F l).pr p i/\(Km F l).pr p i<=1000000:=λp i u=>ZiC hF u;have y:(Km F l).n=l.length:=rfl;unfold F13;have V:(Tr.zeroEl JE:List Yk)=Vh 9 rz:=rfl;have B:Zv (l.length:Int) 9=Ua l.length:=KS (by omega);have E:(Tr.zeroEl JE:List Yk)[l.length]? =Ua rz:=by grind
 rw[B];simp only[Za];erw[E];simp only[Za];have key:∀o:Option (List Yk),(∃T,o=Ua T/\X5 (KR (Km F l) l.length) T)->∃T,(Vb o λG=>Ua G)=Ua T/\X5 (KR (Km F l) l.length) T:=by simp
 refine key _ (KP l.length _ (λc (s:List Yk×Int)=>∃T,s=(T,(l.length:Int) - 1 - (c:Int))/\X5 (KR (Km F l) c) T) ?_ ?_ _ ?_)
 ·rintro c _ S ⟨T,rfl,b⟩;left;obtain⟨i,M⟩:∃i:Nat,(l.length:Int) - 1 - (c:Int)=(i:Int):=by grind
  have O:i<l.length:=by omega
  have N:i=l.length - (c+1):=by omega
  rw[M];rw[Zi (by omega)];simp only[Zd];refine ZcG (λg=>X5 (KR (Km F l) (c+1)) g) ?_ ?_
  ·refine KP (l.length - i) _ (λm (s:List Yk×Int)=>∃T,s=(T,((i+m:Nat):Int))/\X5 (Y1 (KR (Km F l) c) i (rowK (Km F l) (KR (Km F l) c) i m)) T) ?_ ?_ _ ⟨T,rfl,b.congr λj C=>?_⟩
   ·rintro m _ U ⟨T,rfl,b⟩;left;have I:i+m<l.length:=by omega
    simp only[ZV I,Zd];refine ZcG (λg=>X5 (Y1 (KR (Km F l) c) i (rowK (Km F l) (KR (Km F l) c) i (m+1))) g) ?_ ?_
    ·refine KP F.1.length _ (λp (s:List Yk×Int)=>∃T,s=(T,(p:Int))/\X5 (Y1 (KR (Km F l) c) i (ZaY (Km F l) (KR (Km F l) c (i+m+1)) i (i+m) (rowK (Km F l) (KR (Km F l) c) i m) p)) T) ?_ ?_ _ ⟨T,rfl,b⟩
     ·rintro p _ u ⟨T,rfl,b⟩;left;have v:Va .i64 (((i+m:Nat):Int)+1)=((i+m+1:Nat):Int):=by rw[ZN (by omega) (by omega)];omega
      have A:Zv ((i+m+1:Nat):Int) 9=Ua (i+m+1):=KS (by omega);obtain⟨r,Q,d⟩:=b.2 (i+m+1) (by omega);rw[Zch _ _ (by omega)]at d;simp only[ZV u,Zd,v,A,Q,Za,Z8 u (show F.1.length<=9223372036854775807 by have:=hF.many;omega)]
      cases f:KR (Km F l) c (i+m+1) with
      |none=>
       rw[f]at d;rw[show r.1=Ud from d];refine⟨_,rfl,T,rfl,?_⟩;rw[f]at b
       assumption
      |some x=>
       obtain⟨s,t⟩:=x;rw[f]at d;obtain⟨R,_⟩:=Dq.ok d;rw[R];simp only[Zd];have w:Bd l.length (Y1 (KR (Km F l) c) i (ZaY (Km F l) (KR (Km F l) c (i+m+1)) i (i+m) (rowK (Km F l) (KR (Km F l) c) i m) p)):=by
        intro j J K C e;have h:=ZfW D c (by omega);by_cases a:j=i
        ·subst a;rw[Zf7]at e;exact ZiR (n:=l.length) (by grind) (by omega) (by omega) (h _) (ZiQ (by grind) h m (by omega)) p (show p<=F.1.length by omega) J K e
        ·rw[Zch _ _ a]at e;exact h j J K e
       obtain⟨g,L,H⟩:=Zw3 hF P b w (i:=i) (k:=i+m) (p:=p) (by omega) I u (s:=s) (t:=t) (by rw[Zch _ _ (by omega)];omega);rw[L];refine⟨_,rfl,g,rfl,?_⟩;rw[Zw9,Zf7,Zch _ _ (by omega)]at H;rw[f]at H;assumption
     ·rintro _ ⟨T,rfl,b⟩;simp only[YU,Ze];exact⟨_,rfl,b⟩
    ·intro g z;have v:Va .i64 (((i+m:Nat):Int)+1)=((i+(m+1):Nat):Int):=by rw[ZN (by omega) (by omega)];omega
     grind
   ·rintro _ ⟨T,rfl,b⟩;rw[show i+(l.length - i)=l.length by omega];simp only[YU,Ze];refine⟨_,rfl,b.congr λj C=>?_⟩;rw[KR];by_cases a:j=i
    ·subst a;rw[Zn (by omega),Zf7];rfl
    ·rw[Zg (by omega),Zch _ _ a]
   ·by_cases a:j=i
    ·subst a;rw[Zf7,Zop (Km F l) c (by omega) j (by omega)];rfl
    ·rw[Zch _ _ a]
  ·intro g z;have v:Va .i64 ((i:Int) - 1)=(l.length:Int) - 1 - ((c+1:Nat):Int):=by rw[ZN (by omega) (by omega)];omega
   grind
 ·grind
 ·refine⟨(Vh 9 rz).set l.length (Uc,rz.2),?_,by simp,λj C=>?_⟩
  ·rw[ZN (by omega) (by omega)];grind
  ·rw[KR];by_cases q:j=l.length
   ·subst q;rw[Zn y.symm,Vra (by grind)];exact⟨_,rfl,rfl,rfl,rfl,by simp⟩
   ·rw[Zg (by omega),Vfa (Ne.symm q),List.getElem?_replicate,Zn (by omega)];exact⟨_,rfl,rfl⟩
def Zeo(F:ZR)(s:Int):Int:=if 0<F.2.2.2.1/\F.2.2.2.1<s then F.2.2.2.1 else s
theorem Zq2(F:ZR)(s:Int):F12 F s=Ua (Zeo F s):=by unfold F12 Zeo;grind
end Q
namespace Q
open Tr Go Dv
def DR(x:Zw):Int:=if x.1=Uc\/x.2.2.2.2.2.2.1<0\/x.2.2.2.2.2.2.2.1<x.2.2.2.2.2.2.1\/14400<x.2.2.2.2.2.2.2.1 - x.2.2.2.2.2.2.1 then 0 else x.2.2.2.2.2.2.2.1 - x.2.2.2.2.2.2.1
def WI(l:List Zw):Int:=(l.map DR).sum
theorem Zxj(x:Zw):0<=DR x/\DR x<=14400:=by unfold DR;omega
theorem ZdH(a b:List Zw):WI (a++b)=WI a+WI b:=by unfold WI;simp
theorem Zjf:∀l:List Zw,0<=WI l/\WI l<=14400* (l.length:Int)
 |[]=>by simp [WI]
 |x::l=>by have a:=Zxj x;have b:=Zjf l;unfold WI at*;grind
def Zad(x:Zw):Prop:=x.2.2.2.2.2.2.2.1<=9223372036854775807
theorem ZoR(j:Zcs)(l:j.1.length<=1000)(f:∀x∈j.1,Zad x):F55 j=Ua (WI j.1):=by
 unfold F55;refine Wj (λr=>r=WI j.1) ?_ (by simp);refine KP j.1.length _ (λi (s:Int×Int)=>s=(WI (j.1.take i),(i:Int))) ?_ ?_ _ rfl
 ·rintro i _ a rfl;left;have h:=f _ (Ve a);have g:=Zjf (j.1.take i);rw[List.length_take]at g;refine⟨_,?_,rfl⟩;rw[Vg a,ZdH];generalize WI (j.1.take i)=W at*;simp only[ZV a,Zd,ZJ a,Za,Z8 a (by omega)];generalize j.1[i]=x at*;unfold Zad at h;have e0:WI [x]=DR x:=by simp [WI]
  rw[e0];unfold DR
  cases k:x.1 with
  |true=>
   simp
  |false=>
   simp only[Ze];by_cases c:x.2.2.2.2.2.2.1<0
   ·grind
   ·rw[Zt c];by_cases d:x.2.2.2.2.2.2.2.1<x.2.2.2.2.2.2.1
    ·grind
    ·rw[Zt d];have b:Va .i64 (x.2.2.2.2.2.2.2.1 - x.2.2.2.2.2.2.1)=x.2.2.2.2.2.2.2.1 - x.2.2.2.2.2.2.1:=ZN (by omega) (by omega);simp only[Ze,b,Za];by_cases e:14400<x.2.2.2.2.2.2.2.1 - x.2.2.2.2.2.2.1
     ·grind
     ·rw[Zt e,Zg (by grind),ZN (by omega) (by omega)];rfl
 simp
end Q
namespace Q
open Tr Go Dv
def Small(v:ZF):Prop:=(0<=v.2.2.1/\v.2.2.1<65536)/\(0<=v.2.2.2.1/\v.2.2.2.1<65536)
theorem ZfB{a b:Int}(c:0<=a/\a<65536)(d:0<=b/\b<65536):0<=Wa .i64 a b/\Wa .i64 a b<65536:=by obtain⟨x,rfl⟩:∃x:Nat,a=(x:Int):=⟨_,(Vbb c.1).symm⟩;obtain⟨y,rfl⟩:∃y:Nat,b=(y:Int):=⟨_,(Vbb d.1).symm⟩;rw[G7 (by omega) (by omega)];have:x ||| y<2 ^ 16:=Vz (n:=16) (by omega) (by omega);omega
theorem Zmk{n:Zc}(h:WV n){x:Zw}(a:KL n x=Uc):(0<=((H9 n x:Nat):Int)/\((H9 n x:Nat):Int)<65536)/\(0<=((2 ^ (H3 n x).2.1.toNat:Nat):Int)/\((2 ^ (H3 n x).2.1.toNat:Nat):Int)<65536):=by have d:=ZdO h a;obtain⟨_,_,c,b⟩:=Zb6 h a;have e:=HZ b;grind
theorem Zpv{n:Zc}(h:WV n){x:Zw}(e:KL n x=Uc){out:List ZF}(c:∀v∈out,Small v):∀v∈Ya n x out,Small v:=by
 intro v a;unfold Ya at a;split at a
 ·rename_i u d;unfold GP at a;rcases List.mem_or_eq_of_mem_set a with a|rfl
  ·grind
  ·obtain⟨f,g⟩:=Zmk h e;have b:=c u (List.mem_of_getElem? d);exact⟨ZfB b.1 f,ZfB b.2 g⟩
 grind
theorem ZhR{n:Zc}(h:WV n):∀(L:List Zw) (rode:Bool) (out l:List ZF) (e:Int),Wg n L rode out=(l,e)->(∀v∈out,Small v)->∀v∈l,Small v
 |[],_,out,l,e,a,c=>by
  unfold Wg at a
  grind
 |x::L,rode,out,l,e,a,c=>by
  rw[GG]at a;by_cases f:x.1=Uc/\KL n x=Ud
  ·grind
  rw[Zg f]at a;by_cases g:KM x=Uc/\(x.1=Ud\/rode=Ud)
  ·grind
  rw[Zg g]at a;by_cases c3:x.1=Uc
  ·rw[Zn c3]at a;have d:KL n x=true:=by grind
   refine ZhR h L Uc _ l e a ?_;split
   ·exact Zpv h d c
   ·intro v b;rcases Voa.1 b with b|b
    ·grind
    ·simp only[List.mem_singleton]at b;subst b;exact Zmk h d
  ·rw[Zg c3]at a;exact ZhR h L Ud out l e a c
theorem Zt2(a b d:Int)(f:0<=d):F84 a b d=Ua (!Dk a b d):=by
 unfold F84 Dk;have g:∀x:Int,0<=Va .u64 x:=λx=>by simp [Va,Vt,Vq];omega
 rw[Zt (show¬d<0 by omega)];by_cases h:a<=b
 ·rw[Zi h];by_cases c:b<=a
  ·have e:a=b:=by omega
   subst e;rw[Zi c];have e0:Va .u64 (Va .u64 a - Va .u64 a)=0:=by rw[Int.sub_self];rfl
   grind
  ·rw[Zt c];simp only[Zd,Ze,Za];congr 1;grind
 grind
def zF(s:List ZF):Nat:=s.foldl (λa v=>a ||| v.2.2.1.toNat) 0
def mF(s:List ZF):Nat:=s.foldl (λa v=>a ||| v.2.2.2.1.toNat) 0
theorem ZhQ{f:ZF->Int}:∀(s:List ZF) (a:Nat),(∀v∈s,0<=f v/\f v<65536)->a<65536->s.foldl (λa v=>a ||| (f v).toNat) a<65536
 |[],a,_,h=>h
 |v::s,a,b,h=>by rw[List.foldl_cons];refine ZhQ s _ (by grind) ?_;have c:=b v List.mem_cons_self;have:a ||| (f v).toNat<2 ^ 16:=Vz (n:=16) (by omega) (by omega);omega
theorem Zaa{s:List ZF}(a:∀v∈s,Small v):zF s<65536:=ZhQ (f:=λv=>v.2.2.1) s 0 (λv b=>(a v b).1) (by omega)
theorem Zil{s:List ZF}(a:∀v∈s,Small v):mF s<65536:=ZhQ (f:=λv=>v.2.2.2.1) s 0 (λv b=>(a v b).2) (by omega)
def GU(p:Xf)(s:List ZF):Bool:=
 Ue ((s.length:Int)<=p.2.2.1)&&(Ue (((Ws 62 (zF s):Nat):Int)<=p.2.2.2.1)&&(Dk ((s[0]?).getD DM).1 ((s[s.length - 1]?).getD DM).1 p.2.2.2.2.1&&Ue (Tr.qandNot .i64 ((mF s:Nat):Int) p.2.2.2.2.2.1=0)))
theorem ZjX(a b:Int):Ue (Tr.qandNot .u64 a (Va .u64 b)=0)=Ue (Tr.qandNot .i64 a b=0):=by
 have d:Vn 64 (Va .u64 b)=Vn 64 b:=by apply BitVec.eq_of_toNat_eq;rw[Vcb,Vcb];simp only[Va,Vt,Vq];omega
 unfold Tr.qandNot;show Ue (Vjb.wrap ((Vn 64 a &&& ~~~ Vn 64 (Va .u64 b)).toNat:Int)=0)=Ue (Vea.wrap ((Vn 64 a &&& ~~~ Vn 64 b).toNat:Int)=0);rw[d];have c:=by omega
 generalize (Vn 64 a &&& ~~~ Vn 64 b).toNat=N at*;refine decide_eq_decide.2 ?_;simp only[Va,Vt,Vq];grind
theorem ZkS{p:Xf}{s:List ZF}(e:∀v∈s,Small v)(c:0<s.length)(d:s.length<=100)(h:0<=p.2.2.2.2.1):F82 p s=Ua (GU p s):=by
 unfold F82 GU;rw[Zt (by omega)];have el:Va .i64 ((s.length:Int) - 1)=((s.length - 1:Nat):Int):=by rw[ZN (by omega) (by omega)];omega
 have m:idx s (0:Int)=Ua s[0]:=ZJ (i:=0) c;have b:s.length - 1<s.length:=by omega
 simp only[Ze,el,ZJ b,m,Za,Zt2 _ _ _ h];rw[Ks c,Ks b];by_cases g:p.2.2.1<(s.length:Int)
 ·grind
 rw[Zt g,Zi (by omega)]
 cases B:Dk (s[0]).1 (s[s.length - 1]).1 p.2.2.2.2.1 with
 |false=>
  simp
 |true=>
  simp only[Vc,Ze,Za];refine Wj (λr:Int×Int=>r=(((zF s:Nat):Int),((mF s:Nat):Int))) ?_ ?_
  ·refine KP s.length _ (λi (t:Int×Int×Int)=>t=(((zF (s.take i):Nat):Int),((mF (s.take i):Nat):Int),(i:Int))) ?_ ?_ _ rfl
   ·rintro i _ a rfl;left;have j:=e _ (Ve a);have D:=Zaa (s:=s.take i) (by grind);have E:=Zil (s:=s.take i) (by grind);have f:zF (s.take (i+1))=zF (s.take i) ||| (s[i]).2.2.1.toNat:=by unfold zF;rw[Vg a,Vca];rfl
    have em:mF (s.take (i+1))=mF (s.take i) ||| (s[i]).2.2.2.1.toNat:=by unfold mF;rw[Vg a,Vca];rfl
    refine⟨_,?_,rfl⟩;rw[f,em];generalize zF (s.take i)=Z at*;generalize mF (s.take i)=M at*;simp only[ZV a,Zd,ZJ a,Za,Z8 a (by omega),F83,F2];generalize s[i]=v at*;obtain⟨⟨u,w⟩,z,A⟩:=j;obtain⟨x,k⟩:∃x:Nat,v.2.2.1=(x:Int):=by grind
    obtain⟨y,l⟩:∃y:Nat,v.2.2.2.1=(y:Int):=by grind
    have o:Va .u64 (x:Int)=(x:Int):=by simp [Va,Vt,Vq];omega
    have q:Va .u64 (y:Int)=(y:Int):=by simp [Va,Vt,Vq];omega
    rw[k,l,o,q,ZbW (by omega) (by omega),ZbW (by omega) (by omega)];simp
   simp
  ·rintro r rfl;have C:=Zaa e;have d:F1 ((zF s:Nat):Int)=Ua ((Ws 62 (zF s):Nat):Int):=by show lenF ((zF s:Nat):Int)=_;unfold lenF;rw[Zi ⟨by omega,by omega⟩,Vo,Zvg (by omega)];rfl
   simp only[d,Za,F4,ZjX];grind
theorem ZqN{z:Nat}(_:z<65536):F140 (z:Int)=Ua ((Ws 62 z:Nat):Int):=by
 unfold F140;refine Wj (λr=>r=((Ws 62 z:Nat):Int)) ?_ (by simp);have a:∀k,Ws k z<=k:=by
  intro k
  induction k with
  |zero=>exact Vu _
  |succ k l=>rw[Ws];omega
 refine KP 62 _ (λi (s:Int×Int)=>s=(((Ws i z:Nat):Int),(i:Int))) ?_ ?_ _ rfl
 ·rintro i _ j rfl;left;refine⟨_,?_,rfl⟩;have h:=a i;have e:G9 .i64 (z:Int) (i:Int)=Ua ((z >>> i:Nat):Int):=by unfold G9;rw[Zg (by omega),Vo,show min i (Vea.bits)=i from Nat.min_eq_left (show i<=64 by omega),Vma,Int.fdiv_eq_ediv_of_nonneg _ (by grind)];simp
  have d:z >>> i<=z:=by rw[Vma];exact Nat.div_le_self _ _
  have c:ZC .i64 ((z >>> i:Nat):Int) 1=((z >>> i % 2:Nat):Int):=by
   unfold ZC;have b:(Vn Vea.bits ((z >>> i:Nat):Int)&&& Vn Vea.bits 1).toNat=z >>> i % 2:=by rw[BitVec.toNat_and,Vv,Vx];show (z >>> i) % 2 ^ 64 &&& 1=z >>> i % 2;simp
   rw[b,ZN (by omega) (by omega)]
  have f:Va .i64 (((Ws i z:Nat):Int)+1)=((Ws i z+1:Nat):Int):=by rw[ZN (by omega) (by omega)];omega
  have g:Va .i64 ((i:Int)+1)=((i+1:Nat):Int):=by rw[ZN (by omega) (by omega)];omega
  rw[Zi (by omega)];simp only[Zd,e,Za,c,f,g];rw[Ws];grind
 simp
theorem Zxz(a b d:Int):F141 a b d=Ua (Dk a b d):=by unfold F141 Dk;grind
theorem Zr6{p:Xf}{l:List ZF}(I:∀v∈l,Small v){i k:Nat}(q:i<=k)(u:k<l.length)(H:l.length<=100):F134 p l (i:Int) (k:Int)=Ua (GU p ((l.drop i).take (k+1 - i))):=by
 have g:((l.drop i).take (k+1 - i)).length=k+1 - i:=by grind
 have b:∀c,c<k+1 - i->((l.drop i).take (k+1 - i))[c]? =l[i+c]? :=by grind
 have d:∀v∈(l.drop i).take (k+1 - i),Small v:=by grind
 unfold F134 GU;generalize G:(l.drop i).take (k+1 - i)=s at*;refine Wj (λr:Int×Int=>r=(((zF s:Nat):Int),((mF s:Nat):Int))) ?_ ?_
 ·refine KP (k+1 - i) _ (λc (t:Int×Int×Int)=>t=(((zF (s.take c):Nat):Int),((mF (s.take c):Nat):Int),((i+c:Nat):Int))) ?_ ?_ _ rfl
  ·rintro c _ o rfl;left;have a:c<s.length:=by omega
   have e:=b c o;rw[Vd a,Vd (by omega)]at e;have e:=(KO e).symm;have w:=d _ (Ve a);have J:=Zaa (s:=s.take c) (by grind);have K:=Zil (s:=s.take c) (by grind);have j:zF (s.take (c+1))=zF (s.take c) ||| (s[c]).2.2.1.toNat:=by unfold zF;rw[Vg a,Vca];rfl
   have em:mF (s.take (c+1))=mF (s.take c) ||| (s[c]).2.2.2.1.toNat:=by unfold mF;rw[Vg a,Vca];rfl
   have f:Va .i64 (((i+c:Nat):Int)+1)=((i+(c+1):Nat):Int):=by rw[ZN (by omega) (by omega)];omega
   refine⟨_,?_,rfl⟩;rw[j,em,Zi (show ((i+c:Nat):Int)<=(k:Int) by omega)];generalize zF (s.take c)=Z at*;generalize mF (s.take c)=M at*;simp only[Zd,ZJ (show i+c<l.length by omega),Za,e,f];generalize s[c]=v at*;obtain⟨⟨C,D⟩,E,F⟩:=w;obtain⟨x,z⟩:∃x:Nat,v.2.2.1=(x:Int):=by grind
   obtain⟨y,A⟩:∃y:Nat,v.2.2.2.1=(y:Int):=by grind
   rw[z,A,G7 (by omega) (by omega),G7 (by omega) (by omega)];simp
  grind
 ·rintro r rfl;have B:=Zaa d;have f:Va .i64 ((k:Int) - (i:Int))=((k - i:Nat):Int):=by rw[ZN (by omega) (by omega)];omega
  have h:Va .i64 (((k - i:Nat):Int)+1)=(s.length:Int):=by rw[ZN (by omega) (by omega)];omega
  have g0:((s[0]?).getD DM)=l[i]:=by grind
  have m:((s[s.length - 1]?).getD DM)=l[k]:=by grind
  rw[f,h,g0,m];simp only[ZqN B,Za,ZJ (show i<l.length by omega),ZJ u,Zxz];grind
end Q
namespace Q
open Tr Go Dv
theorem ZxE(x:Int):Va .i64 x=(x+9223372036854775808) % 18446744073709551616 - 9223372036854775808:=by simp [Va,Vq,Vt];omega
theorem Zxn(j:Zcs):F55 j=F139 j:=by
 unfold F55 F139;congr 2;funext s;congr 1;congr 1;funext x
 cases g:x.1 with
 |true=>simp
 |false=>
  simp only[Ze,Vp,Zd];by_cases d:x.2.2.2.2.2.2.1<0
  ·grind
  ·rw[show Ue (x.2.2.2.2.2.2.1<0)=Ud from Zt d,show Ue ((0:Int)<=x.2.2.2.2.2.2.1)=Uc from (by grind)];simp only[Ze,Zd];by_cases e:x.2.2.2.2.2.2.2.1<x.2.2.2.2.2.2.1
   ·grind
   ·rw[show Ue (x.2.2.2.2.2.2.2.1<x.2.2.2.2.2.2.1)=Ud from Zt e,show Ue (x.2.2.2.2.2.2.1<=x.2.2.2.2.2.2.2.1)=Uc from (by grind)];simp only[Ze,Zd,Za];by_cases f:(14400:Int)<Va .i64 (x.2.2.2.2.2.2.2.1 - x.2.2.2.2.2.2.1)
    ·grind
    ·rw[show Ue ((14400:Int)<Va .i64 (x.2.2.2.2.2.2.2.1 - x.2.2.2.2.2.2.1))=Ud from Zt f,show Ue (Va .i64 (x.2.2.2.2.2.2.2.1 - x.2.2.2.2.2.2.1)<=(14400:Int))=Uc from (by grind)];simp only[Ze,Zd];have:∀a b c:Int,Va .i64 (a+Va .i64 (b - c))=Va .i64 (Va .i64 (a+b) - c):=by intro a b c;simp only[ZxE];omega
     simp_all
theorem ZsO{F:ZR}(h:(JN F).2=0):∀p∈F.1,0<=p.2.2.2.2.1:=by
 unfold JN at h;by_cases e:Gw F=Ud
 ·grind
 rw[Zg e]at h;by_cases b:16<F.1.length
 ·grind
 rw[Zg b]at h;have g:=ZbZ h;intro p f;obtain⟨i,d,rfl⟩:=Vi f;have a:=g i d;unfold H2 at a;rw[Ks d]at a;obtain⟨_,_,c⟩:=DB.1 a;have c:YV F.1[i]=true:=by grind
 unfold YV at c;grind
theorem Zhl{F:ZR}(c:(JN F).2=0){l:List ZF}(g:∀v∈l,Small v)(f:l.length<=100){p i k:Nat}(b:p<F.1.length)(d:i<=k)(e:k<l.length):(Km F l).cov p i k=GU F.1[p] ((l.drop i).take (k+1 - i)):=by
 show covB ((F.1[p]?).getD p0) ((l.drop i).take (k+1 - i))=_;rw[Ks b];have a:((l.drop i).take (k+1 - i)).length=k+1 - i:=by grind
 have:=ZkS (p:=F.1[p]) (s:=(l.drop i).take (k+1 - i)) (by grind) (by omega) (by omega) (ZsO c _ (Ve b));unfold covB;grind
end Q
namespace Q
open Tr Go Dv
theorem Zw1{F:ZR}{l:List ZF}(N:l.length<=8){T:List Yk}(D:X5 (KR (Km F l) l.length) T):∀(m i:Nat) (acc:List Tk),l.length - i=m->i<=l.length->acc.length<=i->∀(t:List Tk),(∃s,KR (Km F l) l.length i=Ua (s,t))->run
 (λd:List Tk×Int=>
 bif Ue (d.2<(↑(Vr l):Int)) then
 Vb (Zv d.2 (9:Nat)) λh=>
 Vb T[h]? λe=>
 Vb (ZD (Ue (Vr d.1+Vr [e.2.2.2.1]<=ZI))) λ_=>
 Vb (Zv d.2 (9:Nat)) λj=>
 Vb T[j]? λo=>Ua (.inl (d.1++[e.2.2.2.1],Va .i64 (o.2.2.2.1.2.2.1+(1:Int))))
 else Ua (.inr d.1))
 (acc,(i:Int))=Ua (acc++t):=by
  intro m
  induction m using Vna with
  |_ m H=>
   intro i acc O L v t x;by_cases g:i<l.length
   ·obtain⟨s,b⟩:=x;obtain⟨p,k,q,I,J,u,K,B,C⟩:=ZwX (Km F l) (by assumption) s t b;obtain⟨r,E,w⟩:=D.2 i (by omega);rw[b]at w;obtain⟨_,_,_,y⟩:=Dq.ok w;have a:=y _ _ u;have f:Zv (i:Int) 9=Ua i:=KS (by omega);have M:k<l.length:=B;have A:Va .i64 ((k:Int)+1)=((k+1:Nat):Int):=by rw[ZN (by omega) (by omega)];omega
    have c:∀z:List Tk×Int,z=(acc++[((p:Int),(i:Int),((k:Nat):Int),(q:Int),())],((k+1:Nat):Int))->(bif Ue ((i:Int)<(↑(Vr l):Int)) then
     Vb (Zv (i:Int) (9:Nat)) λh=>
     Vb T[h]? λe=>
     Vb (ZD (Ue (Vr acc+Vr [e.2.2.2.1]<=ZI))) λ_=>
     Vb (Zv (i:Int) (9:Nat)) λj=>
     Vb T[j]? λo=>(Ua (.inl (acc++[e.2.2.2.1],Va .i64 (o.2.2.2.1.2.2.1+(1:Int)))):Option ((List Tk×Int) ⊕ List Tk))
     else Ua (.inr acc))=Ua (.inl z):=by
     rintro z rfl;simp only[ZV g,Zd,f,E,Za,a,A];rw[DE (by grind)];rfl
    rw[H4 (c _ rfl)];rw[H (l.length - (k+1)) (by omega) (k+1) _ rfl (by omega) (by grind) J ⟨I,C⟩,u];simp
   ·have:i=l.length:=by omega
    subst this;obtain⟨s,b⟩:=x;rw[Zi7 (Km F l) 0 l.length l.length (by assumption) (Vm _) (Vu _),KR,Zn (by rfl)]at b;have G:t=[]:=by grind
    subst G;rw[Vqa];exact Y0 (by simp)
theorem Ztr{F:ZR}(d:(JN F).2=0)(j:∀x∈F.1,x.1.length<=9223372036854775807)(l:List ZF)(o:l.length<=1000):
 (8<l.length/\F11 F l=Ua (0,[],33))\/(l.length<=8/\KR (Km F l) l.length 0=Ub/\F11 F l=Ua (0,[],34))\/(l.length<=8/\∃s t,KR (Km F l) l.length 0=Ua (s,t)/\F11 F l=Ua (Zeo F s,t,0)):=by
 have i:=Zll d;unfold F11 F17;rw[ZhK F j];simp only[Za,Zi d,Vc,Ze];by_cases m:8<l.length
 ·grind
 ·right;rw[Zt (by omega)];simp only[Ze,Za,decide_true,Vc];obtain⟨T,h,e⟩:=Zsn i (show l.length<=8 by omega);rw[h];simp only[Za];obtain⟨r,k,b⟩:=e.2 0 (by omega);rw[show Int.toNat (0:Int)=0 from rfl,k];simp only[Za]
  cases a:KR (Km F l) l.length 0 with
  |none=>
   left;rw[a]at b;rw[show r.1=Ud from b]
   grind
  |some x=>
   right;obtain⟨s,t⟩:=x;rw[a]at b;obtain⟨f,g,_,_⟩:=Dq.ok b;have c:=Zw1 (by omega) e l.length 0 [] rfl (Vm _) (Vu _) t ⟨s,a⟩;refine⟨by omega,s,t,rfl,?_⟩;rw[f];simp only[Vc,Ze];refine Wj (λy=>y=t) ⟨_,c,rfl⟩ ?_;rintro y rfl;simp only[g,Zq2,Za]
abbrev Xt:=Int×Int×Int×Int×Int×Unit
end Q
