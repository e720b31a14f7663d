/- Plain laws: shortest walks and closures. -/
import Derived.Test.YtdpenljjnfmgiaaGreatFin45hc
import Derived.Test.YtdpenljjnfmgiaaGreatETsF
import Derived.Test.YtdpenljjnfmgiaaGreatLxPop
open BitVec renaming ofInt ->Vo,ofInt_natCast ->Vaa,toNat_ofNat ->Vda,toNat_ofInt ->Vya,toNat_or ->Vnb
open Bool renaming not_true ->Vc,or_eq_false_iff ->Vk,not_eq_true ->Vn,not_false ->Vp,and_eq_true ->Vs,not_eq_false' ->Vca,true_and ->Vfa,false_eq_true ->Vga
open Int renaming toNat_natCast ->Vr,le_refl ->Vha,toNat_of_nonneg ->Vxa,min_eq_right ->Veb
open Go.IntKind renaming wrap ->Va,signed ->Vq,bits ->Vt,i64 ->Vgb,u64 ->Vhb
open List renaming getElem?_eq_getElem ->Vd,getElem_mem ->Vf,replicate ->Vg,take_succ_eq_append_getElem ->Vh,getElem_of_mem ->Vi,length ->Vm,length_append ->Vv,range ->Vw,set ->Vy,getElem?_set_ne ->Vz,length_set ->Vba,getElem?_set_self ->Vea,drop_eq_getElem_cons ->Via,append_assoc ->Vka,pairwise_lt_range ->Vma,append_nil ->Vna,take ->Voa,length_replicate ->Vpa,getElem?_eq_none ->Vqa,pairwise_flatMap ->Vra,replicate_succ' ->Vsa,length_pos_iff ->Vta,mem_cons ->Vua,flatMap_append ->Vva,mem_map ->Vza,ext_getElem? ->Vab,foldl_append ->Vbb,length_cons ->Vcb,take_length ->Vdb,mem_flatMap ->Vfb,countP_set ->Vib,mem_append ->Vjb,length_map ->Vlb,range_succ ->Vmb,isEmpty ->Vob
open Nat renaming zero_le ->Vl,le_refl ->Vu,or_lt_two_pow ->Vx,strongRecOn ->Vla
open Option renaming bind ->Vb,getD ->Ve,isSome ->Vja
open Prod.mk renaming injEq ->Vwa
open Sum renaming elim_inl ->Vj,elim ->Vkb
namespace Gr
inductive Wk (Ed:Nat->Nat->Int->Prop) (s:Nat):Nat->Int->Prop
 |nil:Wk Ed s s 0
 |snoc {u v:Nat}{d w:Int} (h:Wk Ed s u d) (e:Ed u v w):Wk Ed s v (d+w)
def XD(Ed:Nat->Nat->Int->Prop)(s v:Nat)(d:Int):Prop:=Wk Ed s v d/\ ∀a,Wk Ed s v a->d<=a
theorem Wk.nonneg{Ed:Nat->Nat->Int->Prop}(a:∀u v w,Ed u v w->0<=w){s v:Nat}{d:Int}(h:Wk Ed s v d):0<=d:=by
 induction h with
 |nil=>omega
 |snoc h e b=>grind
theorem ZqS{Ed:Nat->Nat->Int->Prop}(g:∀u v w,Ed u v w->0<=w){s:Nat}{S:Nat->Prop}{L:Nat->Int}{O:Nat->Int->Prop}{m:Int}
 (a:∀u,S u->∀d,Wk Ed s u d->L u<=d) (b:S s\/ ∃l,O s l/\l<=0) (c:∀u v w,S u->Ed u v w->S v\/ ∃l,O v l/\l<=L u+w) (f:∀v l,O v l->m<=l):
 ∀{v:Nat}{d:Int},Wk Ed s v d->S v\/m<=d:=by
 intro v d h
 induction h with
 |nil=>
  grind
 | @snoc u v d w h e i=>
   grind
theorem Zpn{Ed:Nat->Nat->Int->Prop}{s:Nat}{S:Nat->Prop}{L:Nat->Int}{O:Nat->Int->Prop}
 (a:S s\/ ∃l,O s l/\l<=0) (b:∀u v w,S u->Ed u v w->S v\/ ∃l,O v l/\l<=L u+w) (c:∀v l,¬O v l):∀{v:Nat}{d:Int},Wk Ed s v d->S v:=by
 intro v d h
 induction h with
 |nil=>grind
 | @snoc u v d w h e f=>grind
theorem Wk.dom{Ed a:Nat->Nat->Int->Prop}(h:∀u v w,Ed u v w->∃w',a u v w' /\w' <=w){s v:Nat}{d:Int}(k:Wk Ed s v d):∃b,Wk a s v b/\b<=d:=by
 induction k with
 |nil=>exact⟨0,.nil,Vha _⟩
 |snoc k e g=>
  obtain⟨b,c,i⟩:=g;obtain⟨w',f,j⟩:=h _ _ _ e;exact⟨_,.snoc c f,by omega⟩
inductive Wb (Ed:Nat->Nat->Int->Prop) (k:Nat):Nat->Nat->Int->Prop
 |one {i j:Nat}{w:Int} (e:Ed i j w):Wb Ed k i j w
 |cons {i m j:Nat}{w d:Int} (e:Ed i m w) (hm:m<k) (h:Wb Ed k m j d):Wb Ed k i j (w+d)
theorem Wb.nonneg{Ed:Nat->Nat->Int->Prop}(a:∀u v w,Ed u v w->0<=w){k i j:Nat}{d:Int}(h:Wb Ed k i j d):0<=d:=by
 induction h with
 |one e=>grind
 |cons e _ _ b=>grind
theorem Wb.round{Ed:Nat->Nat->Int->Prop}(r:∀u v w,Ed u v w->0<=w){k i j:Nat}{d:Int}(h:Wb Ed (k+1) i j d):
 (∃b,b<=d/\Wb Ed k i j b)\/ ∃f c,f+c<=d/\Wb Ed k i k f/\Wb Ed k k j c:=by
 induction h with
 |one e=>exact .inl ⟨_,Vha _,.one e⟩
 | @cons i m j w d e s h q=>
   by_cases p:m=k
   ·subst p;rcases q with ⟨b,l,a⟩|⟨f,c,l,a,o⟩
    ·exact .inr ⟨w,b,by omega,.one e,a⟩
    ·have:=a.nonneg r;exact .inr ⟨w,c,by omega,.one e,o⟩
   ·have g:m<k:=by omega
    rcases q with ⟨b,l,a⟩|⟨f,c,l,a,o⟩
    ·exact .inl ⟨w+b,by omega,.cons e g a⟩
    ·exact .inr ⟨w+f,c,by omega,.cons e g a,o⟩
theorem Wb.mono{Ed:Nat->Nat->Int->Prop}{k a i j:Nat}{d:Int}(c:k<=a)(h:Wb Ed k i j d):Wb Ed a i j d:=by
 induction h with
 |one e=>exact .one e
 |cons e f _ b=>exact .cons e (by omega) b
theorem Wb.app{Ed:Nat->Nat->Int->Prop}{k i m j:Nat}{b c:Int}(g:m<k)(h:Wb Ed k i m b)(f:Wb Ed k m j c):Wb Ed k i j (b+c):=by
 induction h with
 |one e=>exact .cons e g f
 | @cons i p o w d e a _ l=>
   have:=Wb.cons e a (l g f)
   grind
theorem Wb.wk{Ed:Nat->Nat->Int->Prop}{k s i j:Nat}{d a:Int}(b:Wk Ed s i a)(h:Wb Ed k i j d):Wk Ed s j (a+d):=by
 induction h generalizing a with
 |one e=>exact .snoc b e
 |cons e _ _ c=>
  have:=c (.snoc b e)
  grind
theorem Wb.snoc{Ed:Nat->Nat->Int->Prop}{k i j v:Nat}{d w:Int}(a:j<k)(h:Wb Ed k i j d)(e:Ed j v w):Wb Ed k i v (d+w):=h.app a (.one e)
theorem Wk.wb{Ed:Nat->Nat->Int->Prop}{n s v:Nat}{d:Int}(c:∀u v w,Ed u v w->u<n/\v<n)(h:Wk Ed s v d):(v=s/\d=0)\/Wb Ed n s v d:=by
 induction h with
 |nil=>omega
 | @snoc u v d w h e b=>
   rcases b with ⟨rfl,rfl⟩|a
   ·right;rw[Int.zero_add];exact .one e
   ·exact .inr (a.snoc (by grind) e)
end Gr
namespace Q
open Tr Go
abbrev Xk:=Int×Int×Int×Unit
abbrev Nd:=Xk×Int×Unit
abbrev Hp:=Unit×List Nd×Int×Unit
def ZgQ(a b:Xk):Bool:=decide (a.2.1<b.2.1\/(a.2.1=b.2.1/\a.2.2.1<b.2.2.1))
def KG(a b:Nd):Bool:=decide (a.1.2.1<b.1.2.1\/(a.1.2.1=b.1.2.1/\(a.1.2.2.1<b.1.2.2.1\/(a.1.2.2.1=b.1.2.2.1/\a.2.1<b.2.1))))
def le(a b:Nd):Prop:= ¬(b.1.2.1<a.1.2.1\/(b.1.2.1=a.1.2.1/\(b.1.2.2.1<a.1.2.2.1\/(b.1.2.2.1=a.1.2.2.1/\b.2.1<a.2.1))))
theorem le_refl(a:Nd):le a a:=by unfold le;omega
theorem le_trans{a b c:Nd}(h:le a b)(k:le b c):le a c:=by unfold le at*;omega
theorem ZgM{a b:Nd}(h:KG a b=true):le a b:=by
 unfold KG at h;unfold le
 grind
theorem ZgN{a b:Nd}(h:KG a b=false):le b a:=by unfold KG at h;exact of_decide_eq_false h
theorem Zrr{a b:Nd}(h:le a b):a.1.2.1<=b.1.2.1:=by unfold le at h;omega
def nd0:Nd:=((0,0,0,()),0,())
def Z0(l:List Nd)(k:Nat):Nd:=(l[k]?).getD nd0
theorem ZbD{l:List Nd}{k:Nat}(h:k<l.length):l[k]? =some (Z0 l k):=by simp [Z0,h]
theorem Ziz{l:List Nd}{i:Nat}(h:i<l.length)(b:Nd)(k:Nat):Z0 (l.set i b) k=if k=i then b else Z0 l k:=by
 unfold Z0
 grind
def JE(l:List Nd)(i k:Nat):List Nd:=(l.set i (Z0 l k)).set k (Z0 l i)
theorem Dr(l:List Nd)(i k:Nat):(JE l i k).length=l.length:=by simp [JE]
theorem Gw{l:List Nd}{i k:Nat}(a:i<l.length)(b:k<l.length)(j:Nat):Z0 (JE l i k) j=if j=k then Z0 l i else if j=i then Z0 l k else Z0 l j:=by unfold JE;rw[Ziz (by grind),Ziz a]
theorem ZhA{l:List Nd}{i k:Nat}(a:i<l.length)(b:k<l.length):(JE l i k).Perm l:=by
 have c:Z0 l k=l[k]:=by simp [Z0,b]
 have d:Z0 l i=l[i]:=by simp [Z0,a]
 unfold JE
 grind
theorem ZrC(a b:Xk):F144 a b=some (ZgQ a b):=by
 unfold F144 ZgQ
 grind
theorem Zfx{l:List Nd}{c:Int}{i k:Nat}(a:i<l.length)(b:k<l.length):F47 ((),l,c,()) (i:Int) (k:Int)=some (((),l,c,()),KG (Z0 l i) (Z0 l k)):=by
 unfold F47;simp only[KT a,KT b,ZbD a,ZbD b,Za,ZrC];unfold ZgQ KG;by_cases d:(Z0 l i).1.2.1<(Z0 l k).1.2.1\/((Z0 l i).1.2.1=(Z0 l k).1.2.1/\(Z0 l i).1.2.2.1<(Z0 l k).1.2.2.1)
 ·grind
 ·rw[Zv d];simp only[Ze];by_cases e:(Z0 l k).1.2.1<(Z0 l i).1.2.1\/((Z0 l k).1.2.1=(Z0 l i).1.2.1/\(Z0 l k).1.2.2.1<(Z0 l i).1.2.2.1)
  ·rw[Zi e];simp only[Zc];rw[Zv (by omega)]
  grind
theorem ZhB{l:List Nd}{c:Int}{i k:Nat}(b:i<l.length)(d:k<l.length):F49 ((),l,c,()) (i:Int) (k:Int)=some ((),JE l i k,c,()):=by
 unfold F49;have a:k<(Vy l i (Z0 l k)).length:=by grind
 simp only[KT b,KT d,ZbD b,ZbD d,Za,KT a];rw[Vd a];rfl
def Yk(l:List Nd):Prop:= ∀k,0<k->k<l.length->le (Z0 l ((k - 1) / 2)) (Z0 l k)
theorem Zq2{l:List Nd}(h:Yk l):∀k,k<l.length->le (Z0 l 0) (Z0 l k):=by
 intro k
 induction k using Vla with
 |ind k c=>
  intro b;by_cases a:k=0
  ·subst a;exact le_refl _
  ·exact le_trans (by grind) (h k (by omega) b)
def Up(l:List Nd)(i:Nat):Prop:=
 i<l.length/\(∀k,0<k->k<l.length->k≠i->le (Z0 l ((k - 1) / 2)) (Z0 l k))/\ ∀k,0<k->k<l.length->(k - 1) / 2=i->0<i->le (Z0 l ((i - 1) / 2)) (Z0 l k)
theorem Zuc{l:List Nd}{i:Nat}(h:Up l i)(t:0<i)(q:KG (Z0 l i) (Z0 l ((i - 1) / 2))=true):Up (JE l i ((i - 1) / 2)) ((i - 1) / 2):=by
 obtain⟨g,j,s⟩:=h;have d:(i - 1) / 2<l.length:=by omega
 have m:=ZgM q;refine⟨by rw[Dr];omega,fun k o f p=>?_,fun k o f p r=>?_⟩
 ·rw[Dr]at f;rw[Gw g d,Gw g d];by_cases c:k=i
  ·grind
  ·rw[Zf p,Zf c];by_cases u:(k - 1) / 2=i
   ·grind
   ·by_cases e:(k - 1) / 2=(i - 1) / 2
    ·rw[Zr e];have:=j k o f c;rw[e]at this;exact le_trans m this
    grind
 ·rw[Dr]at f;rw[Gw g d,Gw g d,Zf (by omega),Zf (by omega)];by_cases c:k=i
  ·grind
  ·rw[Zf (by omega),Zf c];have a:=j _ r d (by omega);have b:=j k o f c;rw[p]at b;exact le_trans a b
theorem Zlh{l:List Nd}{c:Int}(x:Xk)(h:Yk l)(E:l.length<2147483648):
 ∃z:Hp,F46 ((),l,c,()) x=some z/\z.2.2.1=Va .i64 (c+1)/\Yk z.2.1/\z.2.1.Perm (l++[(x,c,())]):=by
 have b:(l++[(x,c,())]).length=l.length+1:=by simp
 have A:Up (l++[(x,c,())]) l.length:=by
  refine⟨by omega,fun k d g F=>?_,by omega⟩;have e:∀j,j<l.length->Z0 (l++[(x,c,())]) j=Z0 l j:=fun j C=>by simp [Z0,List.getElem?_append_left C]
  rw[e _ (by omega),e _ (by omega)];exact h k d (by omega)
 unfold F46
 have w:Zy (decide (l.length+ [((x,c,()):Nd)].length<=ZC))=some ():=by rw[Zi (by simp [ZC];omega)];rfl
 have y:Va .i64 (((l++[(x,c,())]).length:Int) - 1)=(l.length:Int):=by rw[b,Z1 (by omega) (by omega)];omega
 simp only[w,Za,y]
 refine run_bind (fun s=>∃(m:List Nd) (i:Nat),s=(((),m,Va .i64 (c+1),()),(i:Int))/\Up m i/\m.Perm (l++[(x,c,())])) (fun s=>s.2.toNat)
  (fun r=>∃m:List Nd,r=((),m,Va .i64 (c+1),())/\Yk m/\m.Perm (l++[(x,c,())])) ⟨_,l.length,rfl,A,.refl _⟩ ?_ ?_
 ·rintro s ⟨m,i,rfl,a,f⟩;have D:m.length=l.length+1:=by rw[f.length_eq,b]
  by_cases B:0<i
  ·have t:Va .i64 ((i:Int) - 1)=((i - 1:Nat):Int):=by have:=a.1;rw[Z1 (by omega) (by omega)];omega
   have u:Int.tdiv ((i - 1:Nat):Int) 2=(((i - 1) / 2:Nat):Int):=by rfl
   have v:Va .i64 ((((i - 1) / 2:Nat)):Int)=(((i - 1) / 2:Nat):Int):=by have:=a.1;exact Z1 (by omega) (by omega)
   have o:(i - 1) / 2<m.length:=by have:=a.1;omega
   simp only[show decide ((0:Int)<(i:Int))=true from (by grind),Zc,t,u,v,Zfx a.1 o,Za]
   cases p:KG (Z0 m i) (Z0 m ((i - 1) / 2)) with
   |true=>
    left;refine⟨_,by simp only[Zc,ZhB a.1 o,Za],⟨JE m i ((i - 1) / 2),(i - 1) / 2,rfl,Zuc a B p,(ZhA a.1 o).trans f⟩,?_⟩
    omega
   |false=>
    right;refine⟨_,rfl,m,rfl,fun k d g=>?_,f⟩;by_cases q:k=i
    ·subst q;exact ZgN p
    ·exact a.2.1 k d g q
  ·right;have:i=0:=by omega
   subst this;refine⟨_,by rfl,m,rfl,fun k d g=>a.2.1 k d g (by omega),f⟩
 grind
def Dn(l:List Nd)(i:Nat):Prop:=
 (∀k,0<k->k<l.length->(k - 1) / 2≠i->le (Z0 l ((k - 1) / 2)) (Z0 l k))/\ ∀k,0<k->k<l.length->(k - 1) / 2=i->0<i->le (Z0 l ((i - 1) / 2)) (Z0 l k)
theorem ZpY{l:List Nd}{i c:Nat}(h:Dn l i)(b:i<l.length)(a:c<l.length)(e:(c - 1) / 2=i)(m:0<c)(j:KG (Z0 l c) (Z0 l i)=true)(t:∀k,0<k->k<l.length->(k - 1) / 2=i->le (Z0 l c) (Z0 l k)):Dn (JE l i c) c:=by
 obtain⟨r,s⟩:=h;have o:=ZgM j;refine⟨fun k q f g=>?_,fun k q f g u=>?_⟩
 ·rw[Dr]at f;rw[Gw b a,Gw b a,Zf g];by_cases d:k=i
  ·grind
  ·by_cases p:(k - 1) / 2=i
   ·grind
   ·rw[Zf p,Zf (by omega),Zf d]
    grind
 ·rw[Dr]at f;rw[e,Gw b a,Gw b a,Zf (by omega),Zr rfl,Zf (by omega),Zf (by omega)]
  grind
theorem Zjo{l:List Nd}{i:Nat}(h:Dn l i)(d:∀k,0<k->k<l.length->(k - 1) / 2=i->le (Z0 l i) (Z0 l k)):Yk l:=by
 intro k b c;by_cases a:(k - 1) / 2=i
 ·grind
 ·exact h.1 k b c a
theorem ZtA{l:List Nd}{c:Int}(h:Dn l 0)(H:l.length<2147483648):∃z:Hp,F48 ((),l,c,())=some z/\z.2.2.1=c/\Yk z.2.1/\z.2.1.Perm l:=by
 unfold F48;simp only
 refine run_bind (fun s=>∃(m:List Nd) (i:Nat),s=(((),m,c,()),(i:Int))/\(i<m.length\/i=0)/\Dn m i/\m.Perm l) (fun s=>l.length - s.2.toNat)
  (fun r=>∃m:List Nd,r=((),m,c,())/\Yk m/\m.Perm l) ⟨l,0,rfl,.inr rfl,h,.refl _⟩ ?_ ?_
 ·rintro s ⟨m,i,rfl,F,t,p⟩;have D:m.length=l.length:=p.length_eq;have y:Va .i64 ((2:Int) * (i:Int))=((2*i:Nat):Int):=by rw[Z1 (by omega) (by omega)];omega
  have A:Va .i64 (((2*i:Nat):Int)+1)=((2*i+1:Nat):Int):=by rw[Z1 (by omega) (by omega)];omega
  have B:Va .i64 (((2*i+1:Nat):Int)+1)=((2*i+2:Nat):Int):=by rw[Z1 (by omega) (by omega)];omega
  simp only[y,A,B];by_cases G:m.length<=2*i+1
  ·right;refine⟨_,by grind,m,rfl,Zjo t (by omega),p⟩
  ·simp only[show decide ((m.length:Int)<=((2*i+1:Nat):Int))=false from (by grind),Ze];have e:i<m.length:=by omega
   have fin:∀a:Nat,(a=2*i+1\/a=2*i+2)->a<m.length->(∀k,0<k->k<m.length->(k - 1) / 2=i->le (Z0 m a) (Z0 m k))->
    (∃x:Hp×Int,(Vb (F47 ((),m,c,()) (a:Int) (i:Int)) fun b=>
       bif !b.snd then some (Sum.inr ((),b.fst.snd.fst,b.fst.snd.snd.fst,()))
       else Vb (F49 ((),b.fst.snd.fst,b.fst.snd.snd.fst,()) (i:Int) (a:Int)) fun o=>some (Sum.inl (((),o.snd.fst,o.snd.snd.fst,()),(a:Int))))=some (Sum.inl x:(Hp×Int) ⊕ Hp)/\
       (∃(f:List Nd) (q:Nat),x=(((),f,c,()),(q:Int))/\(q<f.length\/q=0)/\Dn f q/\f.Perm l)/\l.length - x.2.toNat<l.length - (i:Int).toNat)\/
    ∃r:Hp,(Vb (F47 ((),m,c,()) (a:Int) (i:Int)) fun b=>
       bif !b.snd then some (Sum.inr ((),b.fst.snd.fst,b.fst.snd.snd.fst,()))
       else Vb (F49 ((),b.fst.snd.fst,b.fst.snd.snd.fst,()) (i:Int) (a:Int)) fun o=>some (Sum.inl (((),o.snd.fst,o.snd.snd.fst,()),(a:Int))))=some (Sum.inr r:(Hp×Int) ⊕ Hp)/\
      ∃f:List Nd,r=((),f,c,())/\Yk f/\f.Perm l:=by
    intro a C d E;rw[Zfx d e];simp only[Za]
    cases g:KG (Z0 m a) (Z0 m i) with
    |true=>
     left;refine⟨_,by simp only[Vc,Ze,ZhB e d,Za],⟨JE m i a,a,rfl,.inl (by rw[Dr];omega),ZpY t e d (by omega) (by omega) g E,(ZhA e d).trans p⟩,?_⟩
     omega
    |false=>
     right;exact⟨_,by rfl,m,rfl,Zjo t fun k u v w=>le_trans (ZgN g) (by grind),p⟩
   by_cases j:2*i+2<m.length
   ·simp only[show decide (((2*i+2:Nat):Int)<(m.length:Int))=true from (by grind),Zc,Zfx j (show 2*i+1<m.length by omega),Za]
    cases g:KG (Z0 m (2*i+2)) (Z0 m (2*i+1)) with
    |true=>
     simp only[Zc,Za]
     exact fin (2*i+2) (.inr rfl) j fun k u v w=>by
      have:k=2*i+1\/k=2*i+2:=by omega
      rcases this with rfl|rfl
      ·exact ZgM g
      ·exact le_refl _
    |false=>
     simp only[Ze,Za]
     exact fin (2*i+1) (.inl rfl) (by omega) fun k u v w=>by
      have:k=2*i+1\/k=2*i+2:=by omega
      rcases this with rfl|rfl
      ·exact le_refl _
      ·exact ZgN g
   ·simp only[show decide (((2*i+2:Nat):Int)<(m.length:Int))=false from (by grind),Ze]
    exact fin (2*i+1) (.inl rfl) (by omega) fun k u v w=>by
     have:k=2*i+1:=by omega
     subst this;exact le_refl _
 grind
theorem Zsr(c:Int):F45 ((),[],c,())=some (((),[],c,()),(0,0,0,()),false):=by rfl
theorem Zst{l:List Nd}{c:Int}(h:Yk l)(o:l≠ [])(G:l.length<2147483648):
 ∃f x,F45 ((),l,c,())=some (((),f,c,()),x.1,true)/\Yk f/\l.Perm (x::f)/\ ∀y∈l,x.1.2.1<=y.1.2.1:=by
 have b:0<l.length:=Vta.2 o;have a:l.length - 1<l.length:=by omega
 have d:F44 ((),l,c,())=some (((),l,c,()),(Z0 l 0).1,true):=by unfold F44 F43;simp only[Za,show decide ((l.length:Int)=0)=false from (by grind),Ze];rw[show (0:Int)=((0:Nat):Int) from rfl,KT b];simp only[Za,ZbD b]
 have r:Va .i64 ((l.length:Int) - 1)=((l.length - 1:Nat):Int):=by rw[Z1 (by omega) (by omega)];omega
 have v:sliceB (JE l 0 (l.length - 1)).length (JE l 0 (l.length - 1)).length none (some ((l.length - 1:Nat):Int))=some (0,l.length - 1):=by unfold sliceB;rw[Dr];simp
 have u:Dn (Voa (l.length - 1) (JE l 0 (l.length - 1))) 0:=by
  refine⟨fun k A B H=>?_,by omega⟩;simp [Dr]at B
  have e:∀j,j<l.length - 1->j≠0->Z0 (Voa (l.length - 1) (JE l 0 (l.length - 1))) j=Z0 l j:=fun j F g=>by
   have:Z0 (Voa (l.length - 1) (JE l 0 (l.length - 1))) j=Z0 (JE l 0 (l.length - 1)) j:=by unfold Z0;grind
   rw[this,Gw b a,Zf (by omega),Zf g]
  rw[e _ (by omega) (by omega),e _ (by omega) (by omega)];exact h k A (by omega)
 obtain⟨⟨_,f,C,_⟩,D,rfl,s,E⟩:=ZtA (c:=c) u (by grind);refine⟨f,Z0 l 0,?_,s,?_,fun y z=>?_⟩
 ·unfold F45;rw[d];simp only[Za,Vc,Ze,r];rw[show (0:Int)=((0:Nat):Int) from rfl,ZhB b a]
  grind
 ·have w:=ZhA b a
  have e:JE l 0 (l.length - 1)=Voa (l.length - 1) (JE l 0 (l.length - 1))++[Z0 l 0]:=by
   conv=>lhs;rw[<-List.take_append_drop (l.length - 1) (JE l 0 (l.length - 1))]
   congr 1;have m:(JE l 0 (l.length - 1)).length=l.length:=Dr ..;rw[Via (by omega)];have t:List.drop (l.length - 1+1) (JE l 0 (l.length - 1))=[]:=by grind
   rw[t];have p:=Gw b a (l.length - 1);rw[Zr rfl]at p;rw[<-p];simp [Z0,m,a]
  grind
 ·obtain⟨i,q,rfl⟩:=Vi z;have:=Zrr (Zq2 h i q);simpa [Z0,q] using this
end Q
namespace Q
open Tr Go Gr
abbrev Yi:=Int×Int×Int×Unit
abbrev R8:=List (Int×List Yi)
def WZ(m:R8)(u:Nat):List Yi:=Ve (ZK (Zj (.int .i64)) (u:Int) m) []
structure Ze3 (n:Nat) (m:R8) (Ed:Nat->Nat->Int->Prop):Prop where
 mem:∀u,u<n->∀y∈WZ m u,∃v:Nat,v<n/\y.2.1=(v:Int)/\0<=y.2.2.1/\y.2.2.1<=1073741824/\Ed u v y.2.2.1
 all:∀u v w,Ed u v w->u<n/\ ∃y∈WZ m u,y.2.1=(v:Int)/\y.2.2.1=w
 len:∀u,u<n->(WZ m u).length<=4096
def JM(x:Xk):Bool:=decide (0<=x.2.2.1)
def Ha(o:List Xk)(i:Nat):Prop:= ∃x,o[i]? =some x/\0<=x.2.2.1
def lenOf(o:List Xk)(i:Nat):Int:=((o[i]?).getD (0,0,0,())).2.1
structure DI (n:Nat) (Ed:Nat->Nat->Int->Prop) (s:Nat) (o:List Xk) (h:List Nd):Prop where
 len:o.length=n
 heap:Yk h
 lab:∀i x,o[i]? =some x->(x.2.2.1<0->x.2.1= -1)/\(0<=x.2.2.1->XD Ed s i x.2.1)
 opn:∀d∈h,∃v:Nat,v<n/\d.1.1=(v:Int)/\Wk Ed s v d.1.2.1/\0<=d.1.2.2.1/\d.1.2.2.1<=(o.countP JM:Nat)/\d.1.2.1<=d.1.2.2.1*1073741824
 src:Ha o s\/ ∃d∈h,d.1.1=(s:Int)/\d.1.2.1<=0
 out:∀u v w,Ha o u->Ed u v w->Ha o v\/ ∃d∈h,d.1.1=(v:Int)/\d.1.2.1<=lenOf o u+w
 size:h.length+(n - o.countP JM) *4096<=1+n*4096
theorem ZfV(o:List Xk):o.countP JM<=o.length:=List.countP_le_length
theorem ZpU{n:Nat}{Ed:Nat->Nat->Int->Prop}{s:Nat}{o:List Xk}{h b:List Nd}{x:Nd}{v:Nat}(a:DI n Ed s o h)(i:Yk b)(j:h.Perm (x::b))(q:x.1.1=(v:Int))(p:Ha o v):DI n Ed s o b where
 len:=a.len
 heap:=i
 lab:=a.lab
 opn:=fun d m=>a.opn d (by grind)
 src:=by
  rcases a.src with c|⟨d,c,e,f⟩
  all_goals grind
 out:=fun u l w k g=>by
  rcases a.out u l w k g with c|⟨d,c,e,f⟩
  all_goals grind
 size:=by
  have:=j.length_eq;have:=a.size
  grind
theorem ZlU{o:List Xk}{v:Nat}{x:Xk}(c:0<=x.2.2.1){i:Nat}(h:Ha o i):Ha (o.set v x) i:=by
 obtain⟨y,d,a⟩:=h;by_cases b:v=i
 ·subst b;have e:v<o.length:=by grind
  exact⟨x,by grind,c⟩
 ·exact⟨y,by grind,a⟩
theorem ZpV{n:Nat}{Ed:Nat->Nat->Int->Prop}{m:R8}(F:Ze3 n m Ed){s:Nat}{o:List Xk}{h K D:List Nd}{x:Nd}{v:Nat}{y:Xk}(k:DI n Ed s o h)(hv:v<n)(V:h.Perm (x::K))(b5:x.1.1=(v:Int))
 (a7:∀d∈h,x.1.2.1<=d.1.2.1) (ho:o[v]? =some y) (hy:y.2.2.1<0) (Q:Yk D) (b1:D.length<=K.length+(WZ m v).length) (h1:∀d∈K,d∈D)
 (h3:∀d∈D,d∈K\/ ∃e∈WZ m v,d.1.1=e.2.1/\d.1.2.1=x.1.2.1+e.2.2.1/\d.1.2.2.1=x.1.2.2.1+1)
 (h4:∀e∈WZ m v,(∃t:Nat,e.2.1=(t:Int)/\Ha (o.set v x.1) t)\/ ∃d∈D,d.1.1=e.2.1/\d.1.2.1=x.1.2.1+e.2.2.1):DI n Ed s (o.set v x.1) D:=by
 have hw:∀u v w,Ed u v w->0<=w:=fun u v w e=>by obtain⟨B,z,j,g,rfl⟩:=F.all u v w e;obtain⟨f,_,_,r,_⟩:=F.mem u B z j;omega
 have X:x∈h:=by grind
 obtain⟨f,b3,b4,J,A,a9,b0⟩:=k.opn x X;have:f=v:=by omega
 subst this;have T:f<o.length:=by grind
 have p:(o.set f x.1)[f]? =some x.1:=by grind
 have H:∀{i},i≠f->(o.set f x.1)[i]? =o[i]? :=by grind
 have U:o[f]=y:=by
  grind
 have a0:(o.set f x.1).countP JM=o.countP JM+1:=by
  rw[Vib T,U];have a:JM y=false:=by simp [JM];omega
  have b:JM x.1=true:=by simp [JM];omega
  grind
 have b2:(o.set f x.1).countP JM<=n:=by have:=ZfV (o.set f x.1);rw[Vba,k.len]at this;omega
 have M:XD Ed s f x.1.2.1:=by
  refine⟨J,fun d G=>?_⟩
  have:=ZqS (S:=Ha o) (L:=lenOf o) (O:=fun v l=>∃d∈h,d.1.1=(v:Int)/\d.1.2.1=l) (m:=x.1.2.1) hw (fun u B d G=>by
   obtain⟨z,j,q⟩:=B;have:=((k.lab u z j).2 q).2 d G
   simpa [lenOf,j] using this) (by
   rcases k.src with g|⟨d,g,r,C⟩
   all_goals grind) (fun u v w B E=>by
   rcases k.out u v w B E with g|⟨d,g,r,C⟩
   all_goals grind) (by grind) G
  rcases this with ⟨z,j,q⟩|g
  all_goals grind
 have R:∀u,Ha o u->lenOf (o.set f x.1) u=lenOf o u:=fun u B=>by
  obtain⟨z,j,q⟩:=B;have a8:u≠f:=by grind
  unfold lenOf
  grind
 refine⟨by rw[Vba];exact k.len,Q,fun i z j=>?_,fun d G=>?_,?_,fun u Y w B E=>?_,?_⟩
 ·by_cases hi:i=f
  ·grind
  ·rw[H hi]at j;exact k.lab i z j
 ·rcases h3 d G with g|⟨e,E,g,r,C⟩
  ·obtain⟨t,Z,a2,a3,a4,a5,a6⟩:=k.opn d (by grind)
   grind
  ·obtain⟨t,Z,a2,a3,a4,a5⟩:=F.mem f hv e E;refine⟨t,Z,g.trans a2,by rw[r];exact .snoc J a5,by omega,by omega,?_⟩;omega
 ·rcases k.src with g|⟨d,g,r,C⟩
  ·exact .inl (ZlU A g)
  ·rcases Vua.1 (V.mem_iff.1 g) with rfl|N
   ·have:s=f:=by omega
    subst this;exact .inl ⟨_,p,A⟩
   grind
 ·by_cases I:u=f
  ·subst I;obtain⟨_,e,P,g,rfl⟩:=F.all u Y w E;rcases h4 e P with ⟨t,r,C⟩|⟨d,r,C,N⟩
   ·grind
   ·refine .inr ⟨d,r,C.trans g,?_⟩;rw[N];simp [lenOf,p]
  ·have W:Ha o u:=by obtain⟨z,j,q⟩:=B;rw[H I]at j;exact⟨z,j,q⟩
   rcases k.out u Y w W E with g|⟨d,g,r,C⟩
   ·exact .inl (ZlU A g)
   ·rcases Vua.1 (V.mem_iff.1 g) with rfl|N
    ·have:Y=f:=by omega
     subst this;exact .inl ⟨_,p,A⟩
    grind
 ·have a:=V.length_eq;have b:=k.size;have c:=F.len f hv
  grind
end Q
namespace Q
open Tr Go Gr
def Zfb(n:Nat)(Ed:Nat->Nat->Int->Prop)(s:Nat)(o:List Xk):Prop:=
 o.length=n/\ ∀i x,o[i]? =some x->(XD Ed s i x.2.1/\0<=x.2.1)\/((∀d,¬Wk Ed s i d)/\x.2.1= -1)
theorem Zrn{n:Nat}(hn:n<=64){m:R8}{Ed:Nat->Nat->Int->Prop}(R:Ze3 n m Ed){s:Nat}(hs:s<n):
 ∃z,F142 (n:Int) m (s:Int)=some z/\z.1=m/\Zfb n Ed s z.2:=by
 have hw:∀u v w,Ed u v w->0<=w:=fun u v w e=>by obtain⟨hu,z,hz,P,rfl⟩:=R.all u v w e;obtain⟨v',_,_,h6,_⟩:=R.mem u hu z hz;omega
 unfold F142
 have eg:Zy (decide ((0:Int)<=(n:Int)/\(n:Int)<=(n:Int)/\(n:Int)<=(ZC:Int)))=some ():=by rw[Zi (by simp [ZC];omega)];rfl
 rw[show Zy _=some () from eg];simp only[Za,Vpa,Vr]
 refine Xh (fun st=>∃(o:List Xk) (i:Nat),st=(o,(i:Int))/\o.length=n/\i<=n/\ ∀j,j<i->o[j]? =some ((j:Int), -1, -1,())) (fun st=>n - st.2.toNat)
  (fun o=>o.length=n/\ ∀j,j<n->o[j]? =some ((j:Int), -1, -1,())) ⟨_,0,rfl,by simp,Vl _,by omega⟩ ?_ ?_
 ·rintro st ⟨o,i,rfl,h1,h2,h3⟩;by_cases hi:i<n
  ·have X:i<o.length:=by omega
   have e1:Va .i64 ((i:Int)+1)=((i+1:Nat):Int):=by rw[Z1 (by omega) (by omega)];omega
   simp only[show decide ((i:Int)<(n:Int))=true from (by grind),Zc,KT X,Za,Vd X,e1]
   grind
  ·have:i=n:=by omega
   simp_all
 ·rintro o0 ⟨a7,a8⟩;obtain⟨⟨_,h0,c0,_⟩,K,_,a0,A⟩:=Zlh (l:=[]) (c:=0) ((s:Int),0,0,()) (fun k k1 k2=>by grind) (by simp);simp only at a0 A;unfold F50;simp only[Za];rw[show F46 _ _=some _ from K];simp only[Za];have J:∀d,d∈h0↔d=((((s:Int),0,0,()),0,()):Nd):=by grind
  have a6:o0.countP JM=0:=by rw[List.countP_eq_zero];intro a ha;obtain⟨i,hi,rfl⟩:=Vi ha;have:=a8 i (by omega);rw[Vd hi]at this;simp only[Option.some.injEq]at this;rw[this];simp [JM]
  have a5:DI n Ed s o0 h0:= {
   len:=a7
   heap:=a0
   lab:=by grind
   opn:=fun d U=>by rw[J]at U;subst U;exact⟨s,hs,rfl,.nil,Vha _,by simp,by simp⟩
   src:=by simp_all
   out:=fun u v w hu=>by
    obtain⟨x,hx,a4⟩:=hu
    grind
   size:=by
    have:=A.length_eq
    grind}
  refine Xh (fun st=>∃(o:List Xk) (h:List Nd) (c:Int),st=(o,(),h,c,())/\DI n Ed s o h) (fun st=>(n - st.1.countP JM) *8192+st.2.2.1.length)
   (fun o=>Zfb n Ed s o) ⟨o0,h0,c0,rfl,a5⟩ ?_ (by simp)
  rintro st ⟨o,h,c,rfl,y⟩;simp only;have b4:h.length<=300000:=by have:=y.size;omega
  have b0:h.length<2147483648:=by omega
  by_cases Z:h=[]
  ·subst Z;rw[Zsr];simp only[Za,Vp,Zc];refine⟨_,rfl,y.len,fun i x hx=>?_⟩;by_cases a4:0<=x.2.2.1
   ·have:=(y.lab i x hx).2 a4;exact .inl ⟨this,this.1.nonneg hw⟩
   ·refine .inr ⟨fun d U=>?_,(y.lab i x hx).1 (by omega)⟩
    have:=Zpn (S:=Ha o) (L:=lenOf o) (O:=fun _ _=>False) (by
     rcases y.src with P|⟨d,P,_⟩
     all_goals grind) (fun u v w hu he=>by
     rcases y.out u v w hu he with P|⟨d,P,_⟩
     all_goals grind) (by simp) U
    obtain⟨z,hz,d0⟩:=this
    grind
  ·obtain⟨E,x,a2,F,hp,Y⟩:=Zst (c:=c) y.heap Z b0;rw[a2];simp only[Za,Vc,Ze];obtain⟨v,hv,N,b1,b7,c4,c5⟩:=y.opn x (by grind);have D:v<o.length:=by rw[y.len];omega
   have a9:=hp.length_eq;simp only[Vcb]at a9;have b5:o.countP JM<=n:=by have:=ZfV o;rw[y.len]at this;omega
   simp only[N,KT D,Za,Vd D];have a1:o[v]? =some o[v]:=Vd D;by_cases a3:0<=(o[v]).2.2.1
   ·simp only[show decide ((0:Int)<=(o[v]).2.2.1)=true from (by grind),Zc];exact⟨_,rfl,⟨o,E,c,rfl,ZpU y F hp N ⟨_,a1,a3⟩⟩,by grind⟩
   ·simp only[show decide ((0:Int)<=(o[v]).2.2.1)=false from (by grind),Ze];have T:Ve (ZK (Zj Y3) (v:Int) m) []=WZ m v:=rfl;have b6:=R.len v hv;have c8:0<=x.1.2.1:=b1.nonneg hw;have c9:x.1.2.1<=68719476736:=by omega
    refine Xh (fun st=>∃(g:List Nd) (B:Int) (j:Nat),st=(((),g,B,()),(j:Int))/\j<=(WZ m v).length/\Yk g/\g.length<=E.length+j/\(∀d∈E,d∈g)/\
     (∀d∈g,d∈E\/ ∃e∈WZ m v,d.1.1=e.2.1/\d.1.2.1=x.1.2.1+e.2.2.1/\d.1.2.2.1=x.1.2.2.1+1)/\
     ∀k e,k<j->(WZ m v)[k]? =some e->(∃t:Nat,e.2.1=(t:Int)/\Ha (o.set v x.1) t)\/ ∃d∈g,d.1.1=e.2.1/\d.1.2.1=x.1.2.1+e.2.2.1) (fun st=>(WZ m v).length - st.2.toNat)
     (fun r=>∃(g:List Nd) (B:Int),r=((),g,B,())/\Yk g/\g.length<=E.length+(WZ m v).length/\(∀d∈E,d∈g)/\
       (∀d∈g,d∈E\/ ∃e∈WZ m v,d.1.1=e.2.1/\d.1.2.1=x.1.2.1+e.2.2.1/\d.1.2.2.1=x.1.2.2.1+1)/\
       ∀e∈WZ m v,(∃t:Nat,e.2.1=(t:Int)/\Ha (o.set v x.1) t)\/ ∃d∈g,d.1.1=e.2.1/\d.1.2.1=x.1.2.1+e.2.2.1)
     ⟨E,c,0,rfl,Vl _,F,Vu _,fun _ h=>h,by grind,by omega⟩ ?_ ?_
    ·rintro st ⟨g,B,j,rfl,hj,W,H,g1,g2,Q⟩;simp only[T];by_cases f:j<(WZ m v).length
     ·obtain⟨t,ht,V,b8,b9,c1⟩:=R.mem v hv _ (Vf f);have M:t<(Vy o v x.1).length:=by rw[Vba,y.len];omega
      have e1:Va .i64 ((j:Int)+1)=((j+1:Nat):Int):=by rw[Z1 (by omega) (by omega)];omega
      simp only[show decide ((j:Int)<((WZ m v).length:Int))=true from (by grind),Zc,KT f,Za,Vd f,V,KT M,Vd M,e1];by_cases c7:(Vy o v x.1)[t].2.2.1<0
      ·have e2:Va .i64 (x.1.2.1+((WZ m v)[j]).2.2.1)=x.1.2.1+((WZ m v)[j]).2.2.1:=Z1 (by omega) (by omega);have e3:Va .i64 (x.1.2.2.1+1)=x.1.2.2.1+1:=Z1 (by omega) (by omega);simp only[show decide ((Vy o v x.1)[t].2.2.1<0)=true from (by grind),Zc,e2,e3];obtain⟨⟨_,g',c2,_⟩,C,_,G,q⟩:=Zlh (c:=B) ((t:Int),x.1.2.1+((WZ m v)[j]).2.2.1,x.1.2.2.1+1,()) W (by omega);simp only at G q;rw[show F46 _ _=some _ from C];simp only[Za];have c6:∀d,d∈g' ↔d∈g\/d=(((t:Int),x.1.2.1+((WZ m v)[j]).2.2.1,x.1.2.2.1+1,()),B,()):=by grind
       refine⟨_,rfl,⟨g',c2,j+1,rfl,f,G,?_,by grind,fun d U=>?_,fun k e hk p=>?_⟩,by omega⟩
       ·have:=q.length_eq;grind
       ·grind
       ·by_cases I:k=j
        ·subst I;rw[Vd f]at p;cases p;simp [*]
        ·rcases Q k e (by omega) p with P|⟨d,P,h6⟩
         all_goals grind
      ·simp only[show decide ((Vy o v x.1)[t].2.2.1<0)=false from (by grind),Ze];refine⟨_,rfl,⟨g,B,j+1,rfl,f,W,by omega,g1,g2,fun k e hk p=>?_⟩,by omega⟩;by_cases I:k=j
       ·subst I;rw[Vd f]at p;cases p;exact .inl ⟨t,V,_,Vd M,by omega⟩
       ·exact Q k e (by omega) p
     ·have:j=(WZ m v).length:=by omega
      subst this;simp only[show decide (((WZ m v).length:Int)<((WZ m v).length:Int))=false by simp,Ze];refine⟨_,rfl,g,B,rfl,W,H,g1,g2,fun e he=>?_⟩;obtain⟨k,hk,rfl⟩:=Vi he;exact Q k _ hk (by simp)
    ·rintro r ⟨g,B,rfl,W,H,g1,g2,Q⟩;have hD:=ZpV R y hv hp N Y a1 (by omega) W H g1 g2 Q;refine⟨_,rfl,⟨_,g,B,rfl,hD⟩,?_⟩
     have b3:(o.set v x.1).countP JM=o.countP JM+1:=by
      rw[Vib D];have a:JM o[v]=false:=by simp [JM];omega
      have b:JM x.1=true:=by simp [JM];omega
      grind
     have b2:(o.set v x.1).countP JM<=n:=by have:=ZfV (o.set v x.1);rw[hD.len]at this;omega
     grind
end Q
namespace Q
open Tr Go Gr
open Classical in
theorem Rl{t:Ty}{β:Type}(b:t.key=true)(k a:El t)(v:β):∀(l:List (El t×β)),ZK (Zj t) k (Kh (Zj t) a v l)=if k=a then some v else ZK (Zj t) k l
 |[]=>by
  simp only[Kh,ZK];by_cases h:k=a
  ·rw[(JA b).2 h,Zr h];rfl
  ·rw[Zf h]
   cases c:Zj t k a with
   |true=>exact absurd ((JA b).1 c) h
   |false=>rfl
 |e::l=>by
  simp only[Kh]
  cases c:Zj t a e.1 with
  |true=>
   have f:=(JA b).1 c;simp only[Zc,ZK];by_cases h:k=a
   ·rw[(JA b).2 h,Zr h];rfl
   ·rw[Zf h, <-f]
    cases d:Zj t k a with
    |true=>exact absurd ((JA b).1 d) h
    |false=>rfl
  |false=>
   simp only[Ze,ZK,Rl b k a v l]
   cases d:Zj t k e.1 with
   |false=>rfl
   |true=>
    have f:=(JA b).1 d
    have:k≠a:=by rintro rfl;rw[d]at c;cases c
    simp only[Zc];rw[Zf this]
def EdL(E:List Yi)(u v:Nat)(w:Int):Prop:= ∃e∈E,e.1=(u:Int)/\e.2.1=(v:Int)/\e.2.2.1=w
theorem ZrX(E:List Yi)(j:E.length<=4096):∃z,F145 E false=some z/\ ∀u:Nat,WZ z u=E.filter fun e=>decide (e.1=(u:Int)):=by
 unfold F145
 refine Xh (fun st=>∃(m:R8) (i:Nat),st=(m,(i:Int))/\i<=E.length/\ ∀k:Int,Ve (ZK (Zj (.int .i64)) k m) []=(E.take i).filter fun e=>decide (e.1=k)) (fun st=>E.length - st.2.toNat)
  (fun m=>∀u:Nat,WZ m u=E.filter fun e=>decide (e.1=(u:Int))) ⟨[],0,rfl,Vl _,fun k=>by rfl⟩ ?_ (by simp)
 rintro st ⟨m,i,rfl,l,c⟩;by_cases a:i<E.length
 ·have d:Va .i64 ((i:Int)+1)=((i+1:Nat):Int):=by rw[Z1 (by omega) (by omega)];omega
  have h:=c (E[i]).1
  have b:(Ve (ZK (Zj (.int .i64)) (E[i]).1 m) []).length<=4096:=by
   grind
  have f:Zy (decide ((Ve (ZK (Zj (.int .i64)) (E[i]).1 m) []).length+ [E[i]].length<=ZC))=some ():=by rw[Zi (by simp [ZC];omega)];rfl
  have g:Zy (Tr.holeK (.int .i64) (some (E[i]).1) (E[i]).1)=some ():=by have:Tr.holeK (.int .i64) (some (E[i]).1) (E[i]).1=true:=(JA rfl).2 rfl;rw[this];rfl
  simp only[show decide ((i:Int)<(E.length:Int))=true from (by grind),Zc,Ze,ZI a,Za,d];rw[show Zy _=some () from f];simp only[Za];rw[show Zy _=some () from g];simp only[Za];refine⟨_,rfl,⟨_,i+1,rfl,a,fun k=>?_⟩,by omega⟩
  rw[show Ve (ZK (Zj (.int .i64)) k (Kh (Zj (.int .i64)) (E[i]).1 (Ve (ZK (Zj (.int .i64)) (E[i]).1 m) []++[E[i]]) m)) []=if k=(E[i]).1 then Ve (ZK (Zj (.int .i64)) (E[i]).1 m) []++[E[i]] else Ve (ZK (Zj (.int .i64)) k m) [] by
   rw[Rl rfl]
   grind]
  rw[Vh a,List.filter_append]
  grind
 ·have:i=E.length:=by omega
  subst this;simp only[show decide ((E.length:Int)<(E.length:Int))=false by simp,Ze];exact⟨_,rfl,fun u=>by have:=c (u:Int);rw[Vdb]at this;assumption⟩
def EOk(n:Nat)(E:List Yi):Prop:= ∀e∈E,0<=e.1/\e.1<n/\0<=e.2.1/\e.2.1<n/\0<=e.2.2.1/\e.2.2.1<=1073741824
theorem Znm{n:Nat}{E:List Yi}(i:EOk n E)(p:E.length<=4096){m:R8}(l:∀u:Nat,WZ m u=E.filter fun e=>decide (e.1=(u:Int))):Ze3 n m (EdL E) where
 mem:=fun u q y j=>by rw[l]at j;obtain⟨h,g⟩:=List.mem_filter.1 j;have g:=J9 g;obtain⟨a,b,c,d,e,f⟩:=i y h;exact⟨y.2.1.toNat,by omega,by omega,e,f,y,h,g,by omega,rfl⟩
 all:=fun u v w ⟨e,k,h,g,o⟩=>by
  obtain⟨a,b,_⟩:=i e k
  grind
 len:=by grind
open Classical in
noncomputable def Ku(Ed:Nat->Nat->Int->Prop)(i j:Nat):Int:=if h:∃d,XD Ed i j d then h.choose else -1
theorem XD.uniq{Ed:Nat->Nat->Int->Prop}{i j:Nat}{d a:Int}(h:XD Ed i j d)(k:XD Ed i j a):d=a:=by have:=h.2 a k.1;have:=k.2 d h.1;omega
theorem Rv{Ed:Nat->Nat->Int->Prop}{i j:Nat}{d:Int}(h:XD Ed i j d):Ku Ed i j=d:=by unfold Ku;have a:∃d,XD Ed i j d:=⟨d,h⟩;rw[dif_pos a];exact XD.uniq a.choose_spec h
theorem ZpW{Ed:Nat->Nat->Int->Prop}{i j:Nat}(h:∀d,¬Wk Ed i j d):Ku Ed i j= -1:=by unfold Ku;rw[dif_neg];rintro ⟨d,a⟩;exact h d a.1
noncomputable def Yb(Ed:Nat->Nat->Int->Prop)(n:Nat):List (List Int):=(Vw n).map fun i=>(Vw n).map fun j=>Ku Ed i j
theorem Zku{Ed:Nat->Nat->Int->Prop}{n i:Nat}(h:i<n):(Yb Ed n)[i]? =some ((Vw n).map fun j=>Ku Ed i j):=by
 unfold Yb
 grind
theorem ZrB{n:Nat}(w:n<=64){Ed:Nat->Nat->Int->Prop}{s:Nat}{o:List Xk}(h:Zfb n Ed s o):∃z,F143 o=some z/\z=(Vw n).map fun j=>Ku Ed s j:=by
 obtain⟨u,k⟩:=h;unfold F143
 have g:Zy (decide ((0:Int)<=(o.length:Int)/\(o.length:Int)<=(o.length:Int)/\(o.length:Int)<=(ZC:Int)))=some ():=by rw[Zi (by simp [ZC];omega)];rfl
 rw[show Zy _=some () from g];simp only[Za,Vr]
 refine Xh (fun st=>∃(r:List Int) (i:Nat),st=(r,(i:Int))/\r.length=n/\i<=n/\ ∀j,j<i->r[j]? =some (Ku Ed s j)) (fun st=>n - st.2.toNat)
  (fun r=>r.length=n/\ ∀j,j<n->r[j]? =some (Ku Ed s j)) ⟨_,0,rfl,by grind,Vl _,by omega⟩ ?_ ?_
 ·rintro st ⟨r,i,rfl,t,v,p⟩;by_cases d:i<n
  ·have a:i<o.length:=by omega
   have b:i<r.length:=by omega
   have f:Va .i64 ((i:Int)+1)=((i+1:Nat):Int):=by rw[Z1 (by omega) (by omega)];omega
   simp only[show decide ((i:Int)<(o.length:Int))=true from (by grind),Zc,ZI a,KT b,Za,Vd b,f];refine⟨_,rfl,⟨_,i+1,rfl,by grind,d,fun j q=>?_⟩,by omega⟩;by_cases e:j=i
   ·subst e
    have:(o[j]).2.1=Ku Ed s j:=by
     rcases k j _ (Vd a) with ⟨c,_⟩|⟨c,l⟩
     ·exact(Rv c).symm
     ·rw[l,ZpW c]
    grind
   grind
  ·have m:i=n:=by omega
   simp_all
 ·rintro r ⟨t,p⟩;refine⟨_,rfl,?_⟩;apply Vab
  grind
theorem ZoQ{n:Nat}(q:n<=64){E:List Yi}(k:EOk n E)(p:E.length<=4096):F140 (n:Int) E []=some 0:=by
 have key:∃z,F140 (n:Int) E []=some z/\z=0:=by
  unfold F140;simp only[show decide ((n:Int)<0)=false from (by rfl),Ze,Za,show decide ((64:Int)<(n:Int))=false from (by grind),show decide ((4096:Int)<(E.length:Int))=false from (by grind)];refine Xh (fun st=>∃i:Nat,st=(i:Int)/\i<=E.length) (fun st=>E.length - st.toNat) (fun r=>r=.inl ()) (by grind) ?_ ?_
  ·rintro st ⟨i,rfl,o⟩;by_cases g:i<E.length
   ·have j:Va .i64 ((i:Int)+1)=((i+1:Nat):Int):=by rw[Z1 (by omega) (by omega)];omega
    obtain⟨a,b,c,d,e,f⟩:=k _ (Vf g)
    have h:∀x:Int,0<=x->x<(n:Int)->F141 x (n:Int)=some false:=fun x l m=>by
     unfold F141
     grind
    simp only[show decide ((i:Int)<(E.length:Int))=true from (by grind),Zc,ZI g,Za,h _ a b,h _ c d,Ze,show decide ((E[i]).2.2.1<0)=false from (by grind),
     show decide ((1073741824:Int)<(E[i]).2.2.1)=false from (by grind),j]
    grind
   simp [*]
  ·rintro r rfl;simp only[Vj];refine Xh (fun st=>st=(0:Int)) (fun _=>0) (fun r=>r=.inl ()) rfl ?_ ?_
   all_goals simp
 grind
theorem Znu{n:Nat}(g:n<=64){E:List Yi}(h:EOk n E)(d:E.length<=4096):∃z,F139 (n:Int) E=some z/\z=(Yb (EdL E) n,0):=by
 unfold F139;obtain⟨m,e,f⟩:=ZrX E d;have t:=Znm h d f;rw[ZoQ g h d];simp only[Za,decide_true,Vc,Ze,e]
 have l:Zy (decide ((0:Int)<=(n:Int)/\(n:Int)<=(n:Int)/\(n:Int)<=(ZC:Int)))=some ():=by rw[Zi (by simp [ZC];omega)];rfl
 rw[show Zy _=some () from l];simp only[Za,Vpa,Vr]
 refine Xh (fun st=>∃(r:List (List Int)) (i:Nat),st=(m,r,(i:Int))/\r.length=n/\i<=n/\ ∀j,j<i->r[j]? =(Yb (EdL E) n)[j]?) (fun st=>n - st.2.2.toNat)
  (fun r=>r.length=n/\ ∀j,j<n->r[j]? =(Yb (EdL E) n)[j]?) ⟨_,0,rfl,by simp,Vl _,by omega⟩ ?_ ?_
 ·rintro st ⟨r,i,rfl,y,A,v⟩;by_cases a:i<n
  ·have b:i<r.length:=by omega
   have k:Va .i64 ((i:Int)+1)=((i+1:Nat):Int):=by rw[Z1 (by omega) (by omega)];omega
   obtain⟨⟨B,o⟩,p,rfl,q⟩:=Zrn g t a;obtain⟨_,s,rfl⟩:=ZrB g q;simp only[show decide ((i:Int)<(n:Int))=true from (by grind),Zc,p,Za,s,KT b,Vd b,k];refine⟨_,rfl,⟨_,i+1,rfl,by grind,a,fun j w=>?_⟩,by grind⟩;by_cases c:j=i
   ·subst c;rw[Zku a];grind
   grind
  ·have u:i=n:=by omega
   simp_all
 ·rintro r ⟨y,v⟩;refine⟨_,rfl,?_⟩;congr 1;apply Vab;intro j;by_cases x:j<n
  ·grind
  ·rw[Vqa (by omega),Vqa (by simp [Yb];omega)]
end Q
namespace Q
open Tr Go Gr
theorem Y2.uniq{σ τ ρ:Type}{cnt:σ->Nat}{step:σ->Nat->Option (σ ⊕ τ)}{k:τ->Option ρ}(a:∀s,0<cnt s){z i:ρ} :∀{n g:Nat}{s:σ},Y2 cnt step k z n s->Y2 cnt step k i g s->z=i
 |0,_,_,h,_=>h.elim
 |_+1,0,_,_,h=>h.elim
 |n+1,g+1,s,h,c=>by
  rcases h 0 (a s) with ⟨l,d,e⟩|⟨t,d,e⟩
  ·rcases c 0 (a s) with ⟨j,b,f⟩|⟨t,b,_⟩
   ·rw[d]at b;simp only[Option.some.injEq,Sum.inl.injEq]at b;subst b;exact Y2.uniq a e f
   grind
  ·rcases c 0 (a s) with ⟨j,b,_⟩|⟨m,b,f⟩
   all_goals grind
theorem Zp9{σ τ ρ:Type}{cnt:σ->Nat}{step:σ->Nat->Option (σ ⊕ τ)}{k:τ->Option ρ}{s:σ}{z:ρ}{P:ρ->Prop}(n:Nat)(a:∀s,0<cnt s)(h:Y2 cnt step k z n s)(d:P z):∃z,Tr.drun cnt step k s=some z/\P z:=by
 refine⟨z,?_,d⟩
 have b:∃r,Tr.drun cnt step k s=some r:=by
  unfold Tr.drun;split
  ·simp
  ·rw[dif_pos ⟨z,n,h⟩];simp
 obtain⟨r,c⟩:=b;obtain⟨m,e⟩:=Zjr c;rw[c,Y2.uniq a e h]
theorem Zkk{Ed c:Nat->Nat->Int->Prop}(j:∀u v w,Ed u v w->∃w',c u v w' /\w' <=w)(g:∀u v w,c u v w->∃w',Ed u v w' /\w' <=w){s v:Nat}{d:Int} :XD Ed s v d->XD c s v d:=by
 rintro ⟨a,b⟩;obtain⟨h,f,l⟩:=Wk.dom j a;obtain⟨i,c3,m⟩:=Wk.dom g f;have:=b i c3;have:h=d:=by omega
 subst this;refine⟨f,fun e k=>?_⟩;obtain⟨q,o,p⟩:=Wk.dom g k
 grind
theorem ZrS{Ed a:Nat->Nat->Int->Prop}(c:∀u v w,Ed u v w->∃w',a u v w' /\w' <=w)(e:∀u v w,a u v w->∃w',Ed u v w' /\w' <=w)(n:Nat):Yb Ed n=Yb a n:=by
 have:∀i j,Ku Ed i j=Ku a i j:=by
  intro i j;by_cases h:∃d,XD Ed i j d
  ·obtain⟨d,b⟩:=h;rw[Rv b,Rv (Zkk c e b)]
  ·have f:¬∃d,XD a i j d:=fun⟨d,b⟩=>h ⟨d,Zkk e c b⟩;unfold Ku
   grind
 unfold Yb
 simp_all
abbrev Kg:=Int×Int×Int×Bool×Unit
abbrev Pr:=Int×Int×Bool×Unit
abbrev Yo:Ty:=.prod (.int .i64) (.prod (.int .i64) (.prod .bool .unit))
def GQ(n:Nat)(l:List Kg):Prop:= ∀p∈l,0<=p.1/\p.1<n/\0<=p.2.1/\p.2.1<n/\1<=p.2.2.1/\p.2.2.1<=14400
def Hm(free:Bool)(p:Kg):Prop:=free=true->p.2.2.2.1=true
def Kb(l:List Kg)(free:Bool)(u v:Nat)(w:Int):Prop:= ∃p∈l,Hm free p/\p.1=(u:Int)/\p.2.1=(v:Int)/\p.2.2.1=w
def ZdF(e:Pr×Int):Yi:=(e.1.1,e.1.2.1,e.2,())
theorem Zio{α β:Type}(eq:α->α->Bool)(k:α)(v:β):∀l:List (α×β),(Kh eq k v l).length<=l.length+1
 |[]=>by simp [Kh]
 |e::l=>by
  simp only[Kh]
  cases eq k e.1 with
  |true=>simp
  |false=>simp only[Ze,Vcb];have:=Zio eq k v l;omega
structure GP (free:Bool) (l:List Kg) (b:List (Pr×Int)):Prop where
 nodup:(b.map Prod.fst).Nodup
 len:b.length<=l.length
 snd:∀e∈b,∃p∈l,Hm free p/\e.1=(p.1,p.2.1,false,())/\e.2=p.2.2.1
 all:∀p∈l,Hm free p->∃w,ZK (Zj Yo) (p.1,p.2.1,false,()) b=some w/\w<=p.2.2.1
theorem GP.more{free:Bool}{l:List Kg}{b a:List (Pr×Int)}{p:Kg}(h:GP free l b)(f:(a.map Prod.fst).Nodup)(o:a.length<=b.length+1)(g:∀e∈a,e∈b\/(Hm free p/\e.1=(p.1,p.2.1,false,())/\e.2=p.2.2.1))
 (r:∀k w,ZK (Zj Yo) k b=some w->∃w',ZK (Zj Yo) k a=some w' /\w' <=w) (s:Hm free p->∃w,ZK (Zj Yo) (p.1,p.2.1,false,()) a=some w/\w<=p.2.2.1):GP free (l++[p]) a where
 nodup:=f
 len:=by have:=h.len;grind
 snd:=fun e j=>by
  rcases g e j with c|c
  ·obtain⟨q,d,i⟩:=h.snd e c
   grind
  grind
 all:=fun q d m=>by
  rcases Vjb.1 d with c|c
  ·obtain⟨w,i,t⟩:=h.all q c m
   grind
  grind
theorem Zjw{α:Type} :∀{l:List α}{i:Nat} (h:i<l.length),(l[i]::l.eraseIdx i).Perm l
 |[],i,h=>by grind
 |x::l,0,_=>.refl _
 |x::l,i+1,h=>by
  have a:i<l.length:=by grind
  simp only[List.getElem_cons_succ,List.eraseIdx_cons_succ];exact(List.Perm.swap _ _ _).trans (List.Perm.cons _ (Zjw a))
theorem Zjn{n:Nat}(hn:n<=64){l:List Kg}(hF:GQ n l)(hl:l.length<=4096)(free:Bool):∃z,F41 l (n:Int) free=some z/\z=Yb (Kb l free) n:=by
 unfold F41
 refine Xh (fun st=>∃(b:List (Pr×Int)) (i:Nat),st=(b,(i:Int))/\i<=l.length/\GP free (l.take i) b) (fun st=>l.length - st.2.toNat)
  (fun b=>GP free l b) ⟨[],0,rfl,Vl _,⟨by simp,by simp,by simp,by simp⟩⟩ ?_ ?_
 ·rintro st ⟨b,i,rfl,F,j⟩;by_cases A:i<l.length
  ·have X:Va .i64 ((i:Int)+1)=((i+1:Nat):Int):=by rw[Z1 (by omega) (by omega)];omega
   simp only[show decide ((i:Int)<(l.length:Int))=true from (by grind),Zc,ZI A,Za,X];have o:l.take (i+1)=l.take i++[l[i]]:=Vh A
   have stay:(Hm free l[i]->∃w,ZK (Zj Yo) ((l[i]).1,(l[i]).2.1,false,()) b=some w/\w<=(l[i]).2.2.1)->GP free (l.take (i+1)) b:=fun K=>by rw[o];exact j.more j.nodup (by omega) (by grind) (by grind) K
   have put:Hm free l[i]->(∀w,ZK (Zj Yo) ((l[i]).1,(l[i]).2.1,false,()) b=some w->(l[i]).2.2.1<=w)->GP free (l.take (i+1)) (Kh (Zj Yo) ((l[i]).1,(l[i]).2.1,false,()) (l[i]).2.2.1 b):=fun B hw=>by
    rw[o];refine j.more (Zft (t:=Yo) (β:=Int) rfl j.nodup) (Zio _ _ _ _) (fun e E=>?_) (fun k w h=>?_) fun _=>⟨(l[i]).2.2.1,by rw[Rl rfl,Zr rfl],Vha _⟩
    ·obtain⟨k',x⟩:=e;rcases Zd7 (t:=Yo) rfl j.nodup E with ⟨rfl,rfl⟩|⟨_,h6⟩
     all_goals grind
    ·rw[Rl rfl]
     grind
   have U:Zj XX=Zj Yo:=rfl
   have rest:Hm free l[i]->∃z,(Vb
         (bif !Vja (ZK (Zj Yo) ((l[i]).1,(l[i]).2.1,false,()) b) then some true
         else some (decide ((l[i]).2.2.1<Ve (ZK (Zj Yo) ((l[i]).1,(l[i]).2.1,false,()) b) (0:Int))))
         fun x3=>
         bif x3 then some (Sum.inl (Kh (Zj Yo) ((l[i]).1,(l[i]).2.1,false,()) (l[i]).2.2.1 b,((i+1:Nat):Int)))
         else some (Sum.inl (b,((i+1:Nat):Int))))=some (z:(List (Pr×Int) ×Int) ⊕ List (Pr×Int))/\
         Vkb (fun W=>(∃(b:List (Pr×Int)) (i:Nat),W=(b,(i:Int))/\i<=l.length/\GP free (l.take i) b)/\l.length - W.2.toNat<l.length - ((i:Nat):Int).toNat) (fun b=>GP free l b) z:=by
    intro B
    cases hg:ZK (Zj Yo) ((l[i]).1,(l[i]).2.1,false,()) b with
    |none=>
     simp only[Option.isSome_none,Vp,Zc,Za]
     grind
    |some w=>
     simp only[Option.isSome_some,Vc,Ze,Option.getD_some,Za];by_cases a1:(l[i]).2.2.1<w
     ·simp only[show decide ((l[i]).2.2.1<w)=true from (by grind),Zc]
      grind
     ·simp only[show decide ((l[i]).2.2.1<w)=false from (by grind),Ze]
      grind
   cases m:free with
   |false=>
    simp only[Ze,Za];have:=rest (fun h=>by grind)
    grind
   |true=>
    simp only[Zc,Za]
    cases O:(l[i]).2.2.2.1 with
    |true=>
     simp only[Vc,Ze];have:=rest (fun _=>O)
     grind
    |false=>
     simp only[Vp,Zc];refine⟨_,rfl,⟨b,i+1,rfl,A,?_⟩,by omega⟩;rw[<-m];exact stay fun B=>by have:=B m;grind
  ·have a0:i=l.length:=by omega
   simp_all
 ·intro b j
  have Y:Zy (decide ((0:Int)<=(0:Int)/\(0:Int)<=(b.length:Int)/\(b.length:Int)<=(ZC:Int)))=some ():=by have:=j.len;rw[Zi (by simp [ZC];omega)];rfl
  rw[show Zy _=some () from Y];simp only[Za]
  have T:∀es:List Yi,es.Perm (b.map ZdF)->F139 (n:Int) es=some (Yb (Kb l free) n,0):=by
   intro es y;have G:es.length<=4096:=by have:=y.length_eq;have:=j.len;grind
   have N:EOk n es:=fun e E=>by
    obtain⟨x,P,rfl⟩:=Vza.1 (y.mem_iff.1 E);obtain⟨p,g,_,J,M⟩:=j.snd x P;obtain⟨a,b',c,d,e,f⟩:=hF p g;have Z:x.1.1=p.1/\x.1.2.1=p.2.1:=by grind
    show 0<=x.1.1/\x.1.1<n/\0<=x.1.2.1/\x.1.2.1<n/\0<=x.2/\x.2<=1073741824;omega
   obtain⟨z,hz,rfl⟩:=Znu hn N G;rw[hz];congr 2;refine ZrS (fun u v w ⟨e,E,J,M,h3⟩=>?_) (fun u v w ⟨p,g,B,J,M,h3⟩=>?_) n
   ·obtain⟨x,P,rfl⟩:=Vza.1 (y.mem_iff.1 E);obtain⟨p,g,B,S,K⟩:=j.snd x P;have D:x.1.1=p.1/\x.1.2.1=p.2.1:=by grind
    refine⟨w,⟨p,g,B,?_,?_,?_⟩,Vha _⟩
    ·rw[<-D.1];assumption
    ·rw[<-D.2];assumption
    ·rw[<-K];assumption
   ·obtain⟨w',S,K⟩:=j.all p g B;have H:=Zc8 (t:=Yo) rfl S;refine⟨w',⟨_,y.mem_iff.2 (Vza.2 ⟨_,H,rfl⟩),J,M,rfl⟩,by omega⟩
  refine Zp9 (z:=Yb (Kb l free) n) (b.length+1) (fun s=>?_) ?_ rfl
  ·grind
  ·have key:∀(r:Nat) (es:List Yi) (rest:List (Pr×Int)),rest.length=r->(es++rest.map ZdF).Perm (b.map ZdF)->
    Y2 (fun q:List Yi×List (Pr×Int)=>bif Vob q.snd then(1:Nat) else Vm q.snd)
     (fun q V=>bif Vob q.snd then some (Sum.inr q.fst)
       else Vb q.snd[V]? fun C=>
        Vb (Zy (decide (Vm q.fst+Vm [((C.fst.fst,C.fst.snd.fst,C.snd,()):Yi)]<=ZC))) fun _=>
         some (Sum.inl (q.fst++[(C.fst.fst,C.fst.snd.fst,C.snd,())],List.eraseIdx q.snd V)))
     (fun Q=>Vb (F139 (n:Int) Q) fun R=>some R.fst) (Yb (Kb l free) n) (r+1) (es,rest):=by
    intro r
    induction r with
    |zero=>
     intro es rest hr y i F
     grind
    |succ r ih=>
     intro es rest hr y i F;have I:rest.isEmpty=false:=by grind
     simp only[I,Ze]at F;left;have g:=y.length_eq;have:=j.len;simp only[Vv,Vlb]at g
     have L:Zy (decide (es.length+ [(((rest[i]).1.1,(rest[i]).1.2.1,(rest[i]).2,()):Yi)].length<=ZC))=some ():=by rw[Zi (by simp [ZC];omega)];rfl
     refine⟨(es++[ZdF rest[i]],rest.eraseIdx i),?_,ih _ _ (by grind) ?_⟩
     ·simp only[I,Ze,Vd F,Za];rw[show Zy _=some () from L];rfl
     ·refine List.Perm.trans ?_ y;have J:(rest[i]::rest.eraseIdx i).Perm rest:=Zjw F
      grind
   grind
end Q
namespace Q
open Tr Go Gr
def Jk:Int:=1099511627776
def gm(m:List (List Int))(i j:Nat):Int:=(((m[i]?).getD [])[j]?).getD 0
def Hx(n:Nat)(m:List (List Int)):Prop:=m.length=n/\ ∀(i:Nat) (r:List Int),m[i]? =some r->r.length=n
def upd(m:List (List Int))(i j:Nat)(v:Int):List (List Int):=m.set i (((m[i]?).getD []).set j v)
theorem Hx.row{n:Nat}{m:List (List Int)}(h:Hx n m){i:Nat}(a:i<n):∃r,m[i]? =some r/\r.length=n:=by
 have:i<m.length:=by rw[h.1];omega
 exact⟨m[i],by simp,h.2 i _ (by simp)⟩
theorem Hx.upd{n:Nat}{m:List (List Int)}(h:Hx n m){i:Nat}(c:i<n)(j:Nat)(v:Int):Hx n (upd m i j v):=by
 obtain⟨r,e,f⟩:=h.row c;refine⟨by simp [Q.upd];exact h.1,fun k d a=>?_⟩;unfold Q.upd at a;by_cases b:i=k
 ·grind
 ·rw[Vz b]at a;exact h.2 k d a
theorem Zb1{n:Nat}{m:List (List Int)}(h:Hx n m){i j:Nat}(c:i<n)(f:j<n)(v:Int)(a b:Nat):gm (upd m i j v) a b=if a=i/\b=j then v else gm m a b:=by
 obtain⟨r,d,e⟩:=h.row c;unfold gm upd
 grind
theorem Za4{n:Nat}{m:List (List Int)}(h:Hx n m){i j:Nat}(_hi:i<n)(c:j<n){r:List Int}(a:m[i]? =some r):r[j]? =some (gm m i j):=by
 have b:=h.2 i r a;unfold gm
 grind
structure XB (Ed:Nat->Nat->Int->Prop) (n k:Nat) (m:List (List Int)):Prop where
 shp:Hx n m
 snd:∀i j,i<n->j<n->gm m i j=Jk\/(gm m i j<=Jk/\Wb Ed n i j (gm m i j))
 all:∀i j d,i<n->j<n->Wb Ed k i j d->gm m i j<=d
theorem XB.bnd{Ed:Nat->Nat->Int->Prop}(e:∀u v w,Ed u v w->0<=w){n k:Nat}{m:List (List Int)}(h:XB Ed n k m){i j:Nat}(c:i<n)(d:j<n):0<=gm m i j/\gm m i j<=Jk:=by
 rcases h.snd i j c d with a|⟨a,b⟩
 ·rw[a];unfold Jk;omega
 ·exact⟨b.nonneg e,a⟩
theorem XB.step{Ed:Nat->Nat->Int->Prop}(p:∀u v w,Ed u v w->0<=w){n k:Nat}{m:List (List Int)}(h:XB Ed n k m){i j:Nat}(c:i<n)(e:j<n)(f:k<n):
 XB Ed n k (upd m i j (min (gm m i j) (gm m i k+gm m k j)))/\(∀d,Wb Ed (k+1) i j d->min (gm m i j) (gm m i k+gm m k j)<=d)/\min (gm m i j) (gm m i k+gm m k j)<=gm m i j:=by
 have B:=h.bnd p c e;have C:=h.bnd p c f;have D:=h.bnd p f e;refine⟨⟨h.shp.upd c j _,fun a b q r=>?_,fun a b d q r s=>?_⟩,fun d s=>?_,Int.min_le_left _ _⟩
 ·rw[Zb1 h.shp c e];by_cases l:a=i/\b=j
  ·obtain⟨rfl,rfl⟩:=l;rw[Zr ⟨rfl,rfl⟩];by_cases t:gm m a b<=gm m a k+gm m k b
   ·rw[Int.min_eq_left t];exact h.snd a b c e
   ·rw[Veb (by omega)];right;refine⟨by omega,?_⟩;rcases h.snd a k c f with o|⟨_,o⟩
    ·omega
    ·rcases h.snd k b f e with g|⟨_,g⟩
     ·omega
     ·exact o.app f g
  ·rw[Zf l];exact h.snd a b q r
 ·rw[Zb1 h.shp c e];have:=h.all a b d q r s
  grind
 ·rcases s.round p with ⟨x,o,g⟩|⟨y,z,o,g,A⟩
  ·have:=h.all i j x c e g;omega
  ·have:=h.all i k y c f g;have:=h.all k j z f e A;omega
structure Yq (Ed:Nat->Nat->Int->Prop) (n k a b:Nat) (m:List (List Int)):Prop where
 ent:XB Ed n k m
 done:∀i j d,i<n->j<n->(i<a\/i=a/\j<b)->Wb Ed (k+1) i j d->gm m i j<=d
theorem Yq.step{Ed:Nat->Nat->Int->Prop}(r:∀u v w,Ed u v w->0<=w){n k a b:Nat}{m:List (List Int)}(h:Yq Ed n k a b m)(e:a<n)(f:b<n)(q:k<n):Yq Ed n k a (b+1) (upd m a b (min (gm m a b) (gm m a k+gm m k b))):=by
 obtain⟨g,s,t⟩:=h.ent.step r e f q;refine⟨g,fun i j d o p x l=>?_⟩;rw[Zb1 h.ent.shp e f];by_cases c:i=a/\j=b
 ·grind
 ·rw[Zf c];exact h.done i j d o p (by omega) l
theorem Yq.next{Ed:Nat->Nat->Int->Prop}{n k a:Nat}{m:List (List Int)}(h:Yq Ed n k a n m):Yq Ed n k (a+1) 0 m:=
 ⟨h.ent,fun i j d c e f b=>h.done i j d c e (by omega) b⟩
theorem Yq.fin{Ed:Nat->Nat->Int->Prop}{n k:Nat}{m:List (List Int)}(h:Yq Ed n k n 0 m):XB Ed n (k+1) m:=
 ⟨h.ent.shp,h.ent.snd,fun i j d a c b=>h.done i j d a c (.inl a) b⟩
theorem Yq.start{Ed:Nat->Nat->Int->Prop}{n k:Nat}{m:List (List Int)}(h:XB Ed n k m):Yq Ed n k 0 0 m:=
 ⟨h,by omega⟩
theorem ZjX(a b:Int):Tr.imin a b=min a b:=by unfold Tr.imin;omega
theorem ZlV{n:Nat}(hn:n<=64){l:List Kg}(hF:GQ n l)(hl:l.length<=4096)(free:Bool):∃z,F123 l (n:Int) free=some z/\XB (Kb l free) n n z:=by
 have R:∀u v w,Kb l free u v w->0<=w:=fun u v w ⟨p,F,_,_,_,h⟩=>by have:=hF p F;omega
 unfold F123
 refine Xh (fun st=>∃i:Nat,st=(Vg i (Vg n Jk),(i:Int))/\i<=n) (fun st=>n - st.2.toNat)
  (fun r=>r=Vg n (Vg n Jk)) (by grind) ?_ ?_
 ·rintro st ⟨i,rfl,hi⟩;by_cases c:i<n
  ·have K:Va .i64 ((i:Int)+1)=((i+1:Nat):Int):=by rw[Z1 (by omega) (by omega)];omega
   simp only[show decide ((i:Int)<(n:Int))=true from (by grind),Zc,K]
   refine Xh (fun st=>∃j:Nat,st=(Vg i (Vg n Jk),Vg j Jk,(j:Int))/\j<=n) (fun st=>n - st.2.2.toNat)
    (fun r=>r=(Vg i (Vg n Jk),Vg n Jk)) (by grind) ?_ ?_
   ·rintro st ⟨j,rfl,hj⟩;by_cases a4:j<n
    ·have U:Va .i64 ((j:Int)+1)=((j+1:Nat):Int):=by rw[Z1 (by omega) (by omega)];omega
     simp only[show decide ((j:Int)<(n:Int))=true from (by grind),Zc,U];rw[De (by grind)];simp only[Za];refine⟨_,rfl,⟨j+1,?_,a4⟩,by grind⟩;rw[Vsa];rfl
    ·have:j=n:=by omega
     simp_all
   ·rintro r rfl;simp only;rw[De (by grind)];simp only[Za];refine⟨_,rfl,⟨i+1,?_,c⟩,by omega⟩;rw[Vsa]
  ·have:i=n:=by omega
   simp_all
 ·rintro r rfl;have W:Hx n (Vg n (Vg n Jk)):=⟨by simp,by grind⟩
  have c1:∀i j,i<n->j<n->gm (Vg n (Vg n Jk)) i j=Jk:=fun i j hi hj=>by unfold gm;grind
  refine Xh (fun st=>∃(m:List (List Int)) (i:Nat),st=(m,(i:Int))/\i<=l.length/\Hx n m/\(∀a b,a<n->b<n->gm m a b=Jk\/(gm m a b<=Jk/\Wb (Kb l free) n a b (gm m a b)))/\
   ∀p∈l.take i,Hm free p->gm m p.1.toNat p.2.1.toNat<=p.2.2.1) (fun st=>l.length - st.2.toNat)
   (fun m=>XB (Kb l free) n 0 m) ⟨_,0,rfl,Vl _,W,by grind,by simp⟩ ?_ ?_
  ·rintro st ⟨m,i,rfl,hi,o,B,s⟩;by_cases c:i<l.length
   ·have K:Va .i64 ((i:Int)+1)=((i+1:Nat):Int):=by rw[Z1 (by omega) (by omega)];omega
    obtain⟨p1,p2,p3,p4,p5,p6⟩:=hF _ (Vf c);have H:l.take (i+1)=l.take i++[l[i]]:=Vh c;obtain⟨u,hu⟩:∃u:Nat,(l[i]).1=(u:Int):=by grind
    obtain⟨v,hv⟩:∃v:Nat,(l[i]).2.1=(v:Int):=by grind
    have y:u<n:=by omega
    have I:v<n:=by omega
    obtain⟨row,x,c4⟩:=o.row y;have D:=Za4 o y I x;have a8:u<m.length:=by grind
    simp only[show decide ((i:Int)<(l.length:Int))=true from (by grind),Zc,K,ZI c,Za]
    have stay:¬Hm free l[i]->∃z,some (Sum.inl (m,((i+1:Nat):Int)):(List (List Int) ×Int) ⊕ List (List Int))=some z/\Vkb (fun O:List (List Int) ×Int=>(∃(m:List (List Int)) (i:Nat),O=(m,(i:Int))/\i<=l.length/\Hx n m/\(∀a b,a<n->b<n->gm m a b=Jk\/(gm m a b<=Jk/\Wb (Kb l free) n a b (gm m a b)))/\
     ∀p∈l.take i,Hm free p->gm m p.1.toNat p.2.1.toNat<=p.2.2.1)/\l.length - O.2.toNat<l.length - ((i:Nat):Int).toNat) (fun m=>XB (Kb l free) n 0 m) z:=fun A=>by
     refine⟨_,rfl,⟨m,i+1,rfl,c,o,B,fun p F M=>?_⟩,by omega⟩
     grind
    have put:Hm free l[i]->∀b:Bool,b=true->∃z,(bif b then
             Vb (ZA (u:Int) (Vm m)) fun T=>
              Vb m[T]? fun _=>
               Vb (ZA (u:Int) (Vm m)) fun J=>
                Vb m[J]? fun _=>
                 Vb (idx m (J:Int)) fun b0=>
                  Vb (ZA (v:Int) (Vm b0)) fun b4=>
                   Vb (idx m (J:Int)) fun b5=>
                    Vb b5[b4]? fun b6=>
                     Vb (idx m (T:Int)) fun b7=>
                      Vb (ZA (v:Int) (Vm b7)) fun P=>
                       Vb (idx m (T:Int)) fun Q=>
                        Vb Q[P]? fun _=>
                         some
                          (Sum.inl (Vy m (Int.toNat (T:Int)) (Vy Q P (Tr.imin b6 (l[i]).2.2.1)),((i+1:Nat):Int)))
          else some (Sum.inl (m,((i+1:Nat):Int))))=some (z:(List (List Int) ×Int) ⊕ List (List Int))/\Vkb (fun O:List (List Int) ×Int=>(∃(m:List (List Int)) (i:Nat),O=(m,(i:Int))/\i<=l.length/\Hx n m/\(∀a b,a<n->b<n->gm m a b=Jk\/(gm m a b<=Jk/\Wb (Kb l free) n a b (gm m a b)))/\
     ∀p∈l.take i,Hm free p->gm m p.1.toNat p.2.1.toNat<=p.2.2.1)/\l.length - O.2.toNat<l.length - ((i:Nat):Int).toNat) (fun m=>XB (Kb l free) n 0 m) z:=by
     rintro A b rfl;have a9:v<row.length:=by omega
     have L:idx m (u:Int)=some row:=by assumption
     simp only[Zc,KT a8,Za,x,L,KT a9,D,Vr]
     have t:Vy m u (Vy row v (Tr.imin (gm m u v) (l[i]).2.2.1))=upd m u v (min (gm m u v) (l[i]).2.2.1):=by unfold upd;rw[x,ZjX];rfl
     rw[t];have a1:Kb l free u v (l[i]).2.2.1:=⟨_,Vf c,A,hu,hv,rfl⟩;refine⟨_,rfl,⟨_,i+1,rfl,c,o.upd y v _,fun a b ha hb=>?_,fun p F M=>?_⟩,by omega⟩
     ·rw[Zb1 o y I];by_cases X:a=u/\b=v
      ·obtain⟨rfl,rfl⟩:=X;rw[Zr ⟨rfl,rfl⟩];by_cases c2:gm m a b<=(l[i]).2.2.1
       ·grind
       ·rw[Veb (by omega)];exact .inr ⟨by grind,.one a1⟩
      grind
     ·rw[Zb1 o y I];rw[H]at F;rcases Vjb.1 F with h|h
      ·have:=s p h M
       grind
      ·simp at h;grind
    simp only[hu,hv]
    cases a7:(l[i]).2.2.2.1 with
    |true=>
     simp only[Zc,Za]
     exact put (fun _=>a7) true rfl
    |false=>
     simp only[Ze,Za]
     cases E:free with
     |false=>
      have:=put (fun h=>by grind) true rfl;rw[E]at this
      grind
     |true=>
      have:=stay (fun h=>by have:=h E;grind);rw[E]at this
      grind
   ·have:i=l.length:=by omega
    subst this;simp only[show decide ((l.length:Int)<(l.length:Int))=false from (by simp),Ze];rw[Vdb]at s;refine⟨_,rfl,o,B,fun a b d ha hb hd=>?_⟩
    cases hd with
    |one e=>
     obtain⟨p,F,A,h1,h2,rfl⟩:=e;have:=s p F A
     simp_all
    |cons e A _=>omega
  ·intro m V;refine Xh (fun st=>∃(m:List (List Int)) (k:Nat),st=(m,(k:Int))/\k<=n/\XB (Kb l free) n k m) (fun st=>n - st.2.toNat) (fun m=>XB (Kb l free) n n m) ⟨m,0,rfl,Vl _,V⟩ ?_ (by simp);rintro st ⟨m,k,rfl,hk,V⟩;by_cases g:k<n
   ·have K:Va .i64 ((k:Int)+1)=((k+1:Nat):Int):=by rw[Z1 (by omega) (by omega)];omega
    simp only[show decide ((k:Int)<(n:Int))=true from (by grind),Zc,K];refine Xh (fun st=>∃(m:List (List Int)) (a:Nat),st=(m,(a:Int))/\a<=n/\Yq (Kb l free) n k a 0 m) (fun st=>n - st.2.toNat) (fun m=>Yq (Kb l free) n k n 0 m) ⟨m,0,rfl,Vl _,Yq.start V⟩ ?_ (fun m A=>⟨_,rfl,⟨m,k+1,rfl,g,A.fin⟩,by omega⟩);rintro st ⟨m,a,rfl,ha,C⟩;by_cases f:a<n
    ·have U:Va .i64 ((a:Int)+1)=((a+1:Nat):Int):=by rw[Z1 (by omega) (by omega)];omega
     simp only[show decide ((a:Int)<(n:Int))=true from (by grind),Zc,U]
     refine Xh (fun st=>∃(m:List (List Int)) (b:Nat),st=(m,(b:Int))/\b<=n/\Yq (Kb l free) n k a b m) (fun st=>n - st.2.toNat) (fun m=>Yq (Kb l free) n k a n m) ⟨m,0,rfl,Vl _,C⟩ ?_ (fun m A=>⟨_,rfl,⟨m,a+1,rfl,f,A.next⟩,by omega⟩)
     rintro st ⟨m,b,rfl,hb,C⟩;by_cases q:b<n
     ·have e3:Va .i64 ((b:Int)+1)=((b+1:Nat):Int):=by rw[Z1 (by omega) (by omega)];omega
      have o:=C.ent.shp;obtain⟨S,G,b8⟩:=o.row f;obtain⟨rk,N,b9⟩:=o.row g;have Y:a<m.length:=by grind
      have a6:k<m.length:=by grind
      have a2:idx m (a:Int)=some S:=by assumption
      have a3:idx m (k:Int)=some rk:=by assumption
      have Z:b<S.length:=by omega
      have a0:b<rk.length:=by omega
      have a5:k<S.length:=by omega
      have b1:=C.ent.bnd R f q;have b2:=C.ent.bnd R f g;have b3:=C.ent.bnd R g q;have e4:Va .i64 (gm m a k+gm m k b)=gm m a k+gm m k b:=Z1 (by omega) (by unfold Jk at*;omega);simp only[show decide ((b:Int)<(n:Int))=true from (by grind),Zc,e3,KT Y,KT a6,Za,G,N,a2,a3,KT Z,KT a0,KT a5,Za4 o f q G,Za4 o f g G,Za4 o g q N,e4,Vr,ZjX]
      have t:Vy m a (Vy S b (min (gm m a b) (gm m a k+gm m k b)))=upd m a b (min (gm m a b) (gm m a k+gm m k b)):=by unfold upd;grind
      rw[t];exact⟨_,rfl,⟨_,b+1,rfl,q,C.step R f q g⟩,by omega⟩
     ·have:b=n:=by omega
      simp_all
    ·have:a=n:=by omega
     simp_all
   ·have:k=n:=by omega
    simp_all
end Q
namespace Q
open Tr Go
abbrev Ju:=Int×Int×Int×Bool×Unit
def HJ(a b:Ju):Prop:=a.1<b.1\/(a.1=b.1/\(a.2.1<b.2.1\/(a.2.1=b.2.1/\a.2.2.1<b.2.2.1)))
def Xt(a b:Int):Int:=if a<b then -1 else if b<a then 1 else 0
theorem Zjd(a b:Int):F8 a b=some (Xt a b):=by
 unfold F8 F10 Xt
 grind
theorem Zsd(x y z:Int):F9 [x,y,z]=some (if x≠0 then x else if y≠0 then y else z):=by
 unfold F9;have h:Va .i64 (0+1:Int)=1:=by decide
 have i:Va .i64 (1+1:Int)=2:=by decide
 have j:Va .i64 (2+1:Int)=3:=by decide
 have e:idx [x,y,z] 0=some x:=rfl;have f:idx [x,y,z] 1=some y:=rfl;have g:idx [x,y,z] 2=some z:=rfl;have a:(([x,y,z]:List Int).length:Int)=3:=rfl;rw[Zcy];simp only[a,show decide ((0:Int)<3)=true from rfl,Zc,e,Za,h];by_cases b:x=0
 ·subst b;simp only[decide_true,Vc,Ze,Za,Vj];rw[Zcy];simp only[show decide ((1:Int)<3)=true from rfl,Zc,f,Za,i];by_cases c:y=0
  ·subst c;simp only[decide_true,Vc,Ze,Za,Vj];rw[Zcy];simp only[show decide ((2:Int)<3)=true from rfl,Zc,g,Za,j];by_cases d:z=0
   ·subst d;rfl
   grind
  grind
 grind
def c3(a b:Ju):Int:=if Xt a.1 b.1≠0 then Xt a.1 b.1 else if Xt a.2.1 b.2.1≠0 then Xt a.2.1 b.2.1 else Xt a.2.2.1 b.2.2.1
theorem ZoB(a b:Ju):F40 a b=some (c3 a b):=by unfold F40;simp only[Zjd,Za];rw[show F9 [Xt a.1 b.1,Xt a.2.1 b.2.1,Xt a.2.2.1 b.2.2.1]=_ from Zsd _ _ _];rfl
theorem Zoz(a b:Ju):c3 a b<0↔HJ a b:=by unfold c3 HJ Xt;omega
theorem ZoA(a b:Ju):0<c3 a b↔HJ b a:=by unfold c3 HJ Xt;omega
def Srt(l:List Ju):Prop:=l.Pairwise HJ
theorem ZtJ{l:List Ju}(h:Srt l)(d:l.length<16384):F160 l ()=some l:=by
 unfold F160;refine Tr.sortF_sorted HJ l (by omega) (fun x _ y _=>⟨_,ZoB x y,Zoz x y,ZoA x y⟩) (fun x _=>?_) (fun a _ b _ c _=>?_) h
 ·unfold HJ;omega
 ·unfold HJ;omega
end Q
namespace Q
open Tr Go Gr
def Jq(a b:Nat)(d f:Int):List Ju:=
 (if 0<d/\d<=14400 then [((a:Int),(b:Int),d,decide (f=d),())] else [])++(if f=d then [] else if 0<f/\f<=14400 then [((a:Int),(b:Int),f,true,())] else [])
def Xv(a b:Nat)(e g:Int):List Ju:=
 if 14400<e then [] else((a:Int),(b:Int),e,decide (g=e),())::(if e<g/\g<=14400 then [((a:Int),(b:Int),g,true,())] else [])
def Rel(d e:Int):Prop:=(e=d/\1<=d)\/(e=Jk/\(d= -1\/Jk<=d))
theorem Zrd{a b:Nat}{d e f g:Int}(j:Rel d e)(k:Rel f g)(l:f= -1\/(d≠ -1/\d<=f)):Jq a b d f=Xv a b e g:=by
 unfold Rel Jk at*;unfold Jq Xv;by_cases c:0<d/\d<=14400
 ·have h:e=d:=by omega
  subst h;rw[Zr c,Zf (show¬(14400:Int)<e by omega)];by_cases i:f=e
  ·grind
  ·rw[Zf i];have m:¬g=e:=by omega
   grind
 ·rw[Zf c,Zr (show (14400:Int)<e by omega)]
  grind
theorem Zkc(a b:Nat)(d f:Int):(Jq a b d f).length<=2:=by
 unfold Jq
 grind
theorem Zi3{a b:Nat}{d:Int}{s:Bool}{out:List Ju}(h:out.length<4294967295):F39 (a:Int) (b:Int) d s out=some (out++if 0<d/\d<=14400 then [((a:Int),(b:Int),d,s,())] else []):=by
 unfold F39;by_cases c:0<d
 ·by_cases e:d<=14400
  ·simp only[show decide ((0:Int)<d)=true from Zi c,Zc,Za,show decide (d<=(14400:Int))=true from Zi e];rw[De (by grind),Zr ⟨c,e⟩];rfl
  grind
 grind
section
variable (it:Nat->Nat->List Ju) (n:Nat)
def Xx(a m:Nat):List Ju:=(Vw m).flatMap fun b=>if a=b then [] else it a b
def Wx(m:Nat):List Ju:=(Vw m).flatMap fun a=>Xx it a n
end
theorem Gf(it:Nat->Nat->List Ju)(a m:Nat):Xx it a (m+1)=Xx it a m++if a=m then [] else it a m:=by unfold Xx;rw[Vmb,Vva];simp
theorem Zbz(it:Nat->Nat->List Ju)(n m:Nat):Wx it n (m+1)=Wx it n m++Xx it m n:=by unfold Wx;rw[Vmb,Vva];simp
theorem Zer{it:Nat->Nat->List Ju}(h:∀a b,(it a b).length<=2)(a:Nat):∀m,(Xx it a m).length<=2*m
 |0=>by simp [Xx]
 |m+1=>by
  rw[Gf,Vv];have:=Zer h a m
  grind
theorem Zim{it:Nat->Nat->List Ju}(h:∀a b,(it a b).length<=2)(n:Nat):∀m,(Wx it n m).length<=2*n*m
 |0=>by simp [Wx]
 |m+1=>by
  rw[Zbz,Vv];have:=Zim h n m;have:=Zer h m n
  grind
theorem Zc7{it:Nat->Nat->List Ju}(h:∀a b,(it a b).length<=2){n m:Nat}(f:n<=64)(e:m<=n):(Wx it n m).length<=8192:=by have c:=Zim h n m;have d:2*n*m<=2*64*64:=Nat.mul_le_mul (by omega) (by omega);omega
theorem Znr{it c:Nat->Nat->List Ju}{n m:Nat}(g:m<=n)(h:∀a b,a<n->b<n->a≠b->it a b=c a b):Wx it n m=Wx c n m:=by
 induction m with
 |zero=>rfl
 |succ m e=>
  rw[Zbz,Zbz,e (by omega)];congr 1
  have:∀k,k<=n->Xx it m k=Xx c m k:=by
   intro k
   induction k with
   |zero=>intro _;rfl
   |succ k d=>
    intro f;rw[Gf,Gf,d (by omega)]
    grind
  grind
theorem Znt{it:Nat->Nat->List Ju}{n m:Nat}(e:∀a b x,x∈it a b->x.1=(a:Int)/\x.2.1=(b:Int))(l:∀a b,(it a b).Pairwise fun x y=>x.2.2.1<y.2.2.1):Srt (Wx it n m):=by
 show (Wx it n m).Pairwise HJ
 ·unfold Wx;rw[Vra];refine⟨fun a _=>?_,?_⟩
  ·unfold Xx;rw[Vra];refine⟨fun b _=>?_,?_⟩
   ·split
    ·simp
    ·refine List.Pairwise.imp_of_mem ?_ (l a b);intro x y c d q;obtain⟨g,h⟩:=e a b x c;obtain⟨i,j⟩:=e a b y d;unfold HJ;omega
   ·refine List.Pairwise.imp ?_ Vma;intro b f p x c y d;split at c
    ·grind
    ·split at d
     ·grind
     ·obtain⟨g,h⟩:=e a b x c;obtain⟨i,j⟩:=e a f y d;unfold HJ;omega
  ·refine List.Pairwise.imp ?_ Vma;intro a k o x c y d;unfold Xx at c d;obtain⟨b,_,c⟩:=Vfb.1 c;obtain⟨f,_,d⟩:=Vfb.1 d;split at c
   ·grind
   ·split at d
    ·grind
    ·obtain⟨g,h⟩:=e a b x c;obtain⟨i,j⟩:=e k f y d;unfold HJ;omega
theorem Zra{a b:Nat}{d f:Int}{x:Ju}(h:x∈Jq a b d f):x.1=(a:Int)/\x.2.1=(b:Int):=by
 unfold Jq at h
 grind
theorem ZfL{n:Nat}(m:n<=64){l:List Kg}(hF:GQ n l)(s:l.length<=4096)
 (q:∀a b,Ku (Kb l true) a b= -1\/Ku (Kb l false) a b<=Ku (Kb l true) a b):
 F38 l (n:Int)=some (Wx (fun a b=>Jq a b (Ku (Kb l false) a b) (Ku (Kb l true) a b)) n n):=by
 have key:∃z,F38 l (n:Int)=some z/\z=Wx (fun a b=>Jq a b (Ku (Kb l false) a b) (Ku (Kb l true) a b)) n n:=by
  unfold F38;obtain⟨_,v,rfl⟩:=Zjn m hF s false;obtain⟨_,w,rfl⟩:=Zjn m hF s true;rw[v];simp only[Za];rw[w];simp only[Za];have i:∀Ed,(Yb Ed n).length=n:=fun Ed=>by simp [Yb]
  have c:∀a b:Nat,((fun a b=>Jq a b (Ku (Kb l false) a b) (Ku (Kb l true) a b)) a b).length<=2:=fun a b=>Zkc _ _ _ _
  have k:∀Ed (a:Nat),a<n->idx (Yb Ed n) (a:Int)=some ((Vw n).map fun j=>Ku Ed a j):=fun Ed a o=>by
   have h:=Zku (Ed:=Ed) o
   assumption
  have f:∀Ed (a b:Nat),b<n->idx ((Vw n).map fun j=>Ku Ed a j) (b:Int)=some (Ku Ed a b):=fun Ed a b y=>by rw[ZI (by grind)];simp
  refine Xh (fun st=>∃a:Nat,st=(Wx (fun a b=>Jq a b (Ku (Kb l false) a b) (Ku (Kb l true) a b)) n a,(a:Int))/\a<=n) (fun st=>n - st.2.toNat)
   (fun r=>r=Wx (fun a b=>Jq a b (Ku (Kb l false) a b) (Ku (Kb l true) a b)) n n) ⟨0,rfl,Vl _⟩ ?_ ?_
  ·rintro st ⟨a,rfl,o⟩;by_cases p:a<n
   ·have t:Va .i64 ((a:Int)+1)=((a+1:Nat):Int):=by rw[Z1 (by omega) (by omega)];omega
    simp only[i,show decide ((a:Int)<(n:Int))=true from (by grind),Zc,k _ a p,Za,t,Vlb,List.length_range]
    refine Xh (fun st=>∃b:Nat,st=(Wx (fun a b=>Jq a b (Ku (Kb l false) a b) (Ku (Kb l true) a b)) n a++Xx (fun a b=>Jq a b (Ku (Kb l false) a b) (Ku (Kb l true) a b)) a b,(b:Int))/\b<=n) (fun st=>n - st.2.toNat)
     (fun r=>r=Wx (fun a b=>Jq a b (Ku (Kb l false) a b) (Ku (Kb l true) a b)) n (a+1)) ⟨0,by simp [Xx],Vl _⟩ ?_ ?_
    ·rintro st ⟨b,rfl,y⟩;by_cases d:b<n
     ·have u:Va .i64 ((b:Int)+1)=((b+1:Nat):Int):=by rw[Z1 (by omega) (by omega)];omega
      simp only[show decide ((b:Int)<(n:Int))=true from (by grind),Zc,f _ a b d,Za,u];by_cases e:a=b
      ·subst e;simp only[decide_true,Zc];exact⟨_,rfl,⟨a+1,by rw[Gf,Zr rfl,Vna],d⟩,by omega⟩
      ·have A:(Wx (fun a b=>Jq a b (Ku (Kb l false) a b) (Ku (Kb l true) a b)) n a++Xx (fun a b=>Jq a b (Ku (Kb l false) a b) (Ku (Kb l true) a b)) a b).length<=10000:=by rw[Vv];have:=Zc7 c m o;have:=Zer c a b;omega
       simp only[show decide ((a:Int)=(b:Int))=false from (by grind),Ze];rw[Zi3 (by omega)];simp only[Za];by_cases g:Ku (Kb l true) a b=Ku (Kb l false) a b
       ·simp only[g,decide_true,Vc,Ze];refine⟨_,rfl,⟨b+1,?_,d⟩,by omega⟩;rw[Gf,Zf e, <-Vka];congr 1;unfold Jq
        grind
       ·simp only[Zv g,Vp,Zc];rw[Zi3 (by grind)];simp only[Za];refine⟨_,rfl,⟨b+1,?_,d⟩,by omega⟩;rw[Gf,Zf e,Vka, <-Vka (Wx _ _ _)];congr 1;unfold Jq
        grind
     ·have:b=n:=by omega
      subst this;simp only[show decide ((b:Int)<(b:Int))=false from (by simp),Ze];exact⟨_,rfl,(Zbz _ _ _).symm⟩
    grind
   ·have:a=n:=by omega
    simp_all
  ·rintro r rfl
   have B:Srt (Wx (fun a b=>Jq a b (Ku (Kb l false) a b) (Ku (Kb l true) a b)) n n):=Znt (fun a b x C=>Zra C) (fun a b=>by
    unfold Jq;have:=q a b;split
    ·grind
    ·split
     ·simp
     ·split<;>simp)
   rw[ZtJ B (by have:=Zc7 c m (Vu n);omega)];simp
 grind
end Q
namespace Q
open Tr Go Gr
theorem Zru{Ed:Nat->Nat->Int->Prop}(f:∀u v w,Ed u v w->0<=w){s v:Nat} :∀(k:Nat) (d:Int),d.toNat=k->Wk Ed s v d->∃m,XD Ed s v m:=by
 intro k
 induction k using Vla with
 |ind k j=>
  intro d i h;by_cases c:∃b,Wk Ed s v b/\b<d
  ·obtain⟨b,e,g⟩:=c;have a:=e.nonneg f
   grind
  ·exact⟨d,h,by grind⟩
theorem Zur{Ed:Nat->Nat->Int->Prop}(a:∀u v w,Ed u v w->1<=w){k i j:Nat}{d:Int}(h:Wb Ed k i j d):1<=d:=by
 induction h with
 |one e=>grind
 |cons e _ _ b=>grind
theorem ZdG{n:Nat}{l:List Kg}(hF:GQ n l)(free:Bool):∀u v w,Kb l free u v w->u<n/\v<n/\1<=w:=fun u v w ⟨p,a,_,b,c,d⟩=>by have:=hF p a;omega
theorem Zdy{n:Nat}{l:List Kg}(hF:GQ n l)(a b:Nat):Ku (Kb l true) a b= -1\/(Ku (Kb l false) a b≠ -1/\Ku (Kb l false) a b<=Ku (Kb l true) a b):=by
 by_cases h:∃d,XD (Kb l true) a b d
 ·right;obtain⟨d,g⟩:=h;have i:∀u v w,Kb l false u v w->0<=w:=fun u v w h=>by have:=ZdG hF false u v w h;omega
  have c:Wk (Kb l false) a b d:=by
   have key:∀{v:Nat}{d:Int},Wk (Kb l true) a v d->Wk (Kb l false) a v d:=by
    intro v d h
    induction h with
    |nil=>exact .nil
    |snoc _ e o=>
     obtain⟨p,k,_,j⟩:=e;exact .snoc o ⟨p,k,(fun(h:false=true)=>by cases h),j⟩
   exact key g.1
  obtain⟨m,f⟩:=Zru i _ d rfl c;rw[Rv f,Rv g];have:=f.1.nonneg i;exact⟨by omega,f.2 d c⟩
 ·left;unfold Ku
  grind
theorem Zlt{n:Nat}{l:List Kg}(hF:GQ n l){free:Bool}{m:List (List Int)}(i:XB (Kb l free) n n m){a b:Nat}(j:a<n)(k:b<n)(o:a≠b):Rel (Ku (Kb l free) a b) (gm m a b):=by
 have p:∀u v w,Kb l free u v w->u<n/\v<n:=fun u v w h=>⟨(ZdG hF free u v w h).1,(ZdG hF free u v w h).2.1⟩
 have c:∀d,Wk (Kb l free) a b d->gm m a b<=d:=fun d f=>by
  rcases f.wb p with ⟨h,_⟩|h
  ·omega
  ·exact i.all a b d j k h
 rcases i.snd a b j k with h|⟨_,h⟩
 ·right;refine⟨h,?_⟩;by_cases g:∃d,XD (Kb l free) a b d
  ·obtain⟨d,f⟩:=g;rw[Rv f];have:=c d f.1;omega
  ·left;unfold Ku;grind
 ·left;have e:=Wb.wk (Wk.nil (Ed:=Kb l free) (s:=a)) h;rw[Int.zero_add]at e;rw[Rv ⟨e,c⟩];exact⟨rfl,Zur (fun u v w h=>(ZdG hF free u v w h).2.2) h⟩
theorem Zrb(a b:Nat)(d f:Int):(Xv a b d f).length<=2:=by
 unfold Xv
 grind
theorem Zpm{n:Nat}(q:n<=64){l:List Kg}(hF:GQ n l)(w:l.length<=4096):
 ∃c d,XB (Kb l false) n n c/\XB (Kb l true) n n d/\F121 l (n:Int)=some (Wx (fun a b=>Xv a b (gm c a b) (gm d a b)) n n):=by
 obtain⟨c,C,j⟩:=ZlV q hF w false;obtain⟨d,D,k⟩:=ZlV q hF w true;refine⟨c,d,j,k,?_⟩
 have key:∃z,F121 l (n:Int)=some z/\z=Wx (fun a b=>Xv a b (gm c a b) (gm d a b)) n n:=by
  unfold F121;rw[C];simp only[Za];rw[D];simp only[Za];have i:∀a b:Nat,((fun a b=>Xv a b (gm c a b) (gm d a b)) a b).length<=2:=fun a b=>Zrb _ _ _ _
  refine Xh (fun st=>∃a:Nat,st=(Wx (fun a b=>Xv a b (gm c a b) (gm d a b)) n a,(a:Int))/\a<=n) (fun st=>n - st.2.toNat)
   (fun r=>r=Wx (fun a b=>Xv a b (gm c a b) (gm d a b)) n n) ⟨0,rfl,Vl _⟩ ?_ (by simp)
  rintro st ⟨a,rfl,E⟩;by_cases g:a<n
  ·have A:Va .i64 ((a:Int)+1)=((a+1:Nat):Int):=by rw[Z1 (by omega) (by omega)];omega
   obtain⟨u,s,J⟩:=j.shp.row g;obtain⟨v,t,K⟩:=k.shp.row g;have F:a<c.length:=by grind
   have G:a<d.length:=by grind
   have L:idx c (a:Int)=some u:=by assumption
   have M:idx d (a:Int)=some v:=by assumption
   simp only[show decide ((a:Int)<(n:Int))=true from (by grind),Zc,A]
   refine Xh (fun st=>∃b:Nat,st=(Wx (fun a b=>Xv a b (gm c a b) (gm d a b)) n a++Xx (fun a b=>Xv a b (gm c a b) (gm d a b)) a b,(b:Int))/\b<=n) (fun st=>n - st.2.toNat)
    (fun r=>r=Wx (fun a b=>Xv a b (gm c a b) (gm d a b)) n (a+1)) ⟨0,by simp [Xx],Vl _⟩ ?_ ?_
   ·rintro st ⟨b,rfl,N⟩;by_cases e:b<n
    ·have B:Va .i64 ((b:Int)+1)=((b+1:Nat):Int):=by rw[Z1 (by omega) (by omega)];omega
     have H:b<u.length:=by omega
     have I:b<v.length:=by omega
     have x:idx u (b:Int)=some (gm c a b):=by
      have:=Za4 j.shp g e s
      assumption
     have y:idx v (b:Int)=some (gm d a b):=by
      have:=Za4 k.shp g e t
      assumption
     simp only[show decide ((b:Int)<(n:Int))=true from (by grind),Zc,L,M,x,y,Za,B];by_cases f:a=b
     ·subst f;simp only[decide_true,Zc,Za];exact⟨_,rfl,⟨a+1,by rw[Gf,Zr rfl,Vna],e⟩,by omega⟩
     ·have p:(Wx (fun a b=>Xv a b (gm c a b) (gm d a b)) n a++Xx (fun a b=>Xv a b (gm c a b) (gm d a b)) a b).length<=10000:=by rw[Vv];have:=Zc7 i q E;have:=Zer i a b;omega
      simp only[show decide ((a:Int)=(b:Int))=false from (by grind),Ze,Za];by_cases h:14400<gm c a b
      ·simp only[Zi h,Zc];refine⟨_,rfl,⟨b+1,?_,e⟩,by omega⟩;rw[Gf,Zf f];unfold Xv
       grind
      ·simp only[Zv h,Ze];rw[De (by grind)];simp only[Za];by_cases o:gm c a b<gm d a b
       ·simp only[Zi o,Zc,Za];by_cases m:gm d a b<=14400
        ·simp only[Zi m,Zc];rw[De (by grind)];simp only[Za];refine⟨_,rfl,⟨b+1,?_,e⟩,by omega⟩;rw[Gf,Zf f];unfold Xv
         grind
        ·simp only[Zv m,Ze];refine⟨_,rfl,⟨b+1,?_,e⟩,by omega⟩;rw[Gf,Zf f];unfold Xv
         grind
       ·simp only[Zv o,Ze,Za];refine⟨_,rfl,⟨b+1,?_,e⟩,by omega⟩;rw[Gf,Zf f];unfold Xv
        grind
    ·have:b=n:=by omega
     subst this;simp only[show decide ((b:Int)<(b:Int))=false from (by simp),Ze];exact⟨_,rfl,(Zbz _ _ _).symm⟩
   grind
  ·have:a=n:=by omega
   simp_all
 grind
theorem ZfK{n:Nat}(g:n<=64){l:List Kg}(hF:GQ n l)(k:l.length<=4096):∃c:List Kg,F38 l (n:Int)=some c/\F121 l (n:Int)=some c/\c.length<=8192:=by obtain⟨m,o,e,f,h⟩:=Zpm g hF k;refine⟨_,ZfL g hF k (fun a b=>(Zdy hF a b).imp id fun h=>h.2),?_,Zc7 (fun a b=>Zkc _ _ _ _) g (Vu n)⟩;rw[h];congr 1;refine(Znr (Vu n) fun a b i j d=>?_).symm;exact Zrd (Zlt hF e i j d) (Zlt hF f i j d) (Zdy hF a b)
end Q
namespace Q
open Tr Go
def Wq(n:Nat)(chk:Nat->Int):Option Nat:=(Vw n).find? fun i=>decide (chk i≠0)
theorem Zqq{n i:Nat}{chk:Nat->Int}(b:i<n)(h:∀j,j<i->chk j=0)(a:chk i≠0):Wq n chk=some i:=by
 unfold Wq
 simp_all
theorem ZdN{n:Nat}{chk:Nat->Int}(h:∀j,j<n->chk j=0):Wq n chk=none:=by
 unfold Wq
 grind
theorem WK{n:Nat}{chk:Nat->Int} :Wq n chk=none↔∀j,j<n->chk j=0:=by
 refine⟨fun h j a=>?_,ZdN⟩;unfold Wq at h
 grind
theorem ZaH{n i:Nat}{chk:Nat->Int}(h:Wq n chk=some i):i<n/\chk i≠0:=by
 unfold Wq at h
 grind
def pick{τ:Type}(n:Nat)(chk:Nat->Int)(R:Nat->τ)(E:τ):τ:=match Wq n chk with
 |some i=>R i
 |none=>E
theorem J3{σ τ:Type}{step:σ->Option (σ ⊕ τ)}{n:Nat}(a:Nat->σ->Prop)(chk:Nat->Int)(R:Nat->τ)(E:τ)
 (g:∀i s,i<n->a i s->chk i=0->∃s',step s=some (.inl s')/\a (i+1) s')
 (b:∀i s,i<n->a i s->chk i≠0->step s=some (.inr (R i)))
 (c:∀s,a n s->step s=some (.inr E)):∀s,a 0 s->run step s=some (pick n chk R E):=by
 have key:∀(k i:Nat) (s:σ),n - i=k->i<=n->a i s->(∀j,j<i->chk j=0)->run step s=some (pick n chk R E):=by
  intro k
  induction k with
  |zero=>
   intro i s m l d f;have:i=n:=by omega
   subst this;rw[YC (c s d)];unfold pick
   rw[ZdN f]
  |succ k p=>
   intro i s m l d f;by_cases e:chk i=0
   ·obtain⟨s',h,o⟩:=g i s (by omega) d e;rw[Ho h]
    grind
   ·rw[YC (b i s (by omega) d e)];unfold pick;rw[Zqq (by omega) f e]
 grind
theorem Ztt{τ:Type}{step:Int->Option (Int ⊕ τ)}{n:Nat}(chk:Nat->Int)(R:Nat->τ)(E:τ)
 (b:∀i:Nat,i<n->step (i:Int)=if chk i=0 then some (.inl ((i+1:Nat):Int)) else some (.inr (R i))) (a:step (n:Int)=some (.inr E)):run step (0:Int)=some (pick n chk R E):=by
 refine J3 (fun i st=>st=(i:Int)) _ _ _ ?_ ?_ ?_ _ rfl
 all_goals grind
def WI{t:Ty}(key:Nat->El t)(i:Nat)(m:List (El t×Bool)):Prop:= ∀k,Ve (ZK (Zj t) k m) false=true↔∃j,j<i/\key j=k
theorem WI.nil{t:Ty}(key:Nat->El t):WI key 0 []:=fun k=>by simp [ZK]
theorem WI.add{t:Ty}(b:t.key=true){key:Nat->El t}{i:Nat}{m:List (El t×Bool)}(h:WI key i m):WI key (i+1) (Kh (Zj t) (key i) true m):=by
 classical
 intro k;rw[Rl b];by_cases a:k=key i
 ·grind
 ·rw[Zf a,h k]
  grind
theorem Ka{i n:Nat}(h:i<n)(a:n<=9223372036854775807):Va .i64 ((i:Int)+1)=((i+1:Nat):Int):=by rw[Z1 (by omega) (by omega)];omega
theorem ZV{i n:Nat}(h:i<n):decide ((i:Int)<(n:Int))=true:=by grind
theorem J1(n:Nat):decide ((n:Int)<(n:Int))=false:=by simp
def okx(x:Int):Bool:=
 ((decide (97<=x) &&decide (x<=122)) || (decide (65<=x) &&decide (x<=90)) || (decide (48<=x) &&decide (x<=57))) || (decide (x=45) ||decide (x=95) ||decide (x=46))
def Yz(c:UInt8):Bool:=okx (c.toNat:Int)
def Wc(s:List UInt8):Bool:=decide (1<=s.length/\s.length<=32) &&s.all Yz
theorem ZiM(b:Bool)(x y:Bool):(bif b then some x else some y)=some (bif b then x else y):=by grind
def HX(s:List UInt8)(i:Nat):Int:=if Yz ((s[i]?).getD 0) then 0 else 1
theorem Zdj(s:List UInt8):Wq s.length (HX s)=none↔s.all Yz=true:=by
 rw[WK,List.all_eq_true];constructor
 ·intro h c b;obtain⟨i,a,rfl⟩:=Vi b;have:=h i a;unfold HX at this
  grind
 ·intro h i a;unfold HX
  grind
theorem D6(s:List UInt8)(f:s.length<=9223372036854775807):F51 s=some (Wc s):=by
 unfold F51;rw[J3 (n:=s.length) (fun i st=>st=(i:Int)) (HX s) (fun _=>.inr false) (.inl ()) ?_ ?_ ?_ (0:Int) rfl]
 ·unfold pick;simp only[Za]
  cases e:Wq s.length (HX s) with
  |none=>
   have d:=(Zdj s).1 e;simp only[Vj];unfold Wc;rw[d,Bool.and_true];by_cases g:0<s.length
   ·rw[Zi (by omega)];simp only[Zc,Za];congr 1
    grind
   grind
  |some i=>
   simp only[Sum.elim_inr]
   have d:s.all Yz=false:=by
    cases b:s.all Yz with
    |false=>rfl
    |true=>rw[(Zdj s).2 b]at e;grind
   unfold Wc
   grind
 ·rintro i _ a rfl b;refine⟨_,?_,rfl⟩
  have c:Yz s[i]=true:=by
   unfold HX at b
   grind
  simp only[ZV a,Zc,ZI a,Za,ZiM,Ka a f];unfold Yz okx at c
  grind
 ·rintro i _ a rfl b
  have c:Yz s[i]=false:=by
   unfold HX at b
   grind
  simp only[ZV a,Zc,ZI a,Za,ZiM,Ka a f];unfold Yz okx at c
  grind
 simp
theorem R6(s:List UInt8):F126 s=some (Wc s):=by
 unfold F126;by_cases f:s.length<1
 ·rw[Zi (by omega)];simp only[Zc,Za];unfold Wc
  grind
 ·rw[Zv (by omega)];simp only[Ze,Za];by_cases g:32<s.length
  ·rw[Zi (by omega)];simp only[Zc];unfold Wc
   grind
  ·rw[Zv (by omega)];simp only[Ze];have e:s.length<=9223372036854775807:=by omega
   rw[J3 (n:=s.length) (fun i st=>st=(i:Int)) (HX s) (fun _=>.inr false) (.inl ()) ?_ ?_ ?_ (0:Int) rfl]
   ·unfold pick;simp only[Za];unfold Wc;rw[Zi (by omega),Vfa]
    cases d:Wq s.length (HX s) with
    |none=>rw[(Zdj s).1 d];rfl
    |some i=>
     have h:s.all Yz=false:=by
      cases b:s.all Yz with
      |false=>rfl
      |true=>rw[(Zdj s).2 b]at d;grind
     grind
   ·rintro i _ a rfl b;refine⟨_,?_,rfl⟩
    have c:Yz s[i]=true:=by
     unfold HX at b
     grind
    simp only[ZV a,Zc,ZI a,Za,Ka a e];unfold Yz okx at c
    grind
   ·rintro i _ a rfl b
    have c:Yz s[i]=false:=by
     unfold HX at b
     grind
    simp only[ZV a,Zc,ZI a,Za,Ka a e];unfold Yz okx at c
    grind
   simp
end Q
namespace Q
open Tr Go
open Classical in
noncomputable def Yx(name dup num:Prop):Int:=if name then 12 else if dup then 6 else if num then 2 else 0
theorem Dc{a b c:Prop} :Yx a b c=0↔¬a/\ ¬b/\ ¬c:=by
 unfold Yx
 grind
theorem ZaD{a b c:Prop}(h:a):Yx a b c=12:=by unfold Yx;grind
theorem ZaC{a b c:Prop}(h:¬a)(d:b):Yx a b c=6:=by unfold Yx;grind
theorem ZaF{a b c:Prop}(h:¬a)(d:¬b)(e:c):Yx a b c=2:=by unfold Yx;grind
theorem ZaE{a b c:Prop}(h:¬a)(d:¬b)(e:¬c):Yx a b c=0:=by unfold Yx;grind
theorem ZbQ{τ:Type}{step:Int->Option (Int ⊕ τ)}{i:Nat}{p:Nat->Prop}{R E:τ}(f:∀j:Nat,j<i->¬p j->step (j:Int)=some (.inl ((j+1:Nat):Int)))(c:∀j:Nat,j<i->p j->step (j:Int)=some (.inr R))
 (a:step (i:Int)=some (.inr E)):((∃j,j<i/\p j)->run step (0:Int)=some R)/\((¬∃j,j<i/\p j)->run step (0:Int)=some E):=by
 classical
 have key:=J3 (n:=i) (step:=step) (fun j st=>st=(j:Int)) (fun j=>if p j then 1 else 0) (fun _=>R) E (by grind) (by grind) (by grind) (0:Int) rfl
 constructor
 ·rintro ⟨j,e,g⟩;rw[key];unfold pick
  cases d:Wq i (fun j=>if p j then 1 else 0) with
  |some k=>rfl
  |none=>
   have:=WK.1 d j e
   grind
 ·intro b;rw[key];unfold pick;rw[ZdN (by grind)]
theorem YT(x a b:Int):F127 x a b=some (decide (a<=x/\x<=b)):=by
 unfold F127
 grind
theorem ZhQ(x a b:Int):F87 x a b=some (decide (a<=x/\x<=b)):=YT x a b
abbrev GX:=List UInt8×Int×Bool×Int×Unit
abbrev Hw:=List UInt8×Int×Bool×Unit
noncomputable def HO(l:List GX)(i:Nat):Int:=
 let x:GX:=(l[i]?).getD ([],0,false,0,())
 Yx (Wc x.1=false) (∃j,j<i/\((l[j]?).getD ([],0,false,0,())).1=x.1) (x.2.1<0\/16<=x.2.1\/x.2.2.2.1<0\/3600<x.2.2.2.1)
noncomputable def HP(l:List GX):Int×Int:=if 64<l.length then(0,5) else pick l.length (HO l) (fun i=>((i:Int),HO l i)) (0,0)
theorem ZtQ(l:List GX)(q:∀x∈l,x.1.length<=9223372036854775807):F163 l=some (HP l):=by
 unfold F163 HP;by_cases k:64<l.length
 ·grind
 ·rw[Zf k,Zv (by omega)];simp only[Ze];rw[J3 (n:=l.length) (fun i st=>∃m,st=(m,(i:Int))/\WI (t:=Y9) (fun j=>((l[j]?).getD ([],0,false,0,())).1) i m) (HO l) (fun i=>.inr ((i:Int),HO l i)) (.inl ()) ?_ ?_ ?_ ([],(0:Int)) ⟨[],rfl,WI.nil _⟩]
  ·unfold pick
   grind
  ·rintro i _ a ⟨m,rfl,f⟩ d;have p:(l[i]?).getD ([],0,false,0,())=l[i]:=by grind
   unfold HO at d;simp only[p]at d;obtain⟨e,b,g⟩:=Dc.1 d;have e:Wc (l[i]).1=true:=by grind
   have c:Ve (ZK (Zj Y9) (l[i]).1 m) false=false:=by
    cases o:Ve (ZK (Zj Y9) (l[i]).1 m) false with
    |false=>rfl
    |true=>exact absurd ((f _).1 o) b
   refine⟨(Kh (Zj Y9) (l[i]).1 true m,((i+1:Nat):Int)),?_,_,rfl,?_⟩
   ·simp only[ZV a,Zc,ZI a,Za,D6 _ (q _ (Vf a)),e,Vc,Ze,c,Ka a (by omega),
     show decide ((l[i]).2.1<0)=false from (by grind),show decide ((16:Int)<=(l[i]).2.1)=false from (by grind),show decide ((l[i]).2.2.2.1<0)=false from (by grind),show decide ((3600:Int)<(l[i]).2.2.2.1)=false from (by grind)]
   ·have:=WI.add (t:=Y9) rfl f
    grind
  ·rintro i _ a ⟨m,rfl,f⟩ d;have p:(l[i]?).getD ([],0,false,0,())=l[i]:=by grind
   simp only[ZV a,Zc,ZI a,Za,D6 _ (q _ (Vf a))];unfold HO at d⊢;simp only[p]at d⊢;by_cases e:Wc (l[i]).1=false
   ·rw[ZaD e,e];rfl
   ·have h:Wc (l[i]).1=true:=by grind
    simp only[h,Vc,Ze];by_cases b:∃j,j<i/\((l[j]?).getD ([],0,false,0,())).1=(l[i]).1
    ·rw[ZaC (by simp) b,(f _).2 b];rfl
    ·have c:Ve (ZK (Zj Y9) (l[i]).1 m) false=false:=by
      cases o:Ve (ZK (Zj Y9) (l[i]).1 m) false with
      |false=>rfl
      |true=>exact absurd ((f _).1 o) b
     simp only[c,Ze]
     have g:(l[i]).2.1<0\/16<=(l[i]).2.1\/(l[i]).2.2.2.1<0\/3600<(l[i]).2.2.2.1:=by
      by_cases g:(l[i]).2.1<0\/16<=(l[i]).2.1\/(l[i]).2.2.2.1<0\/3600<(l[i]).2.2.2.1
      ·omega
      ·exact absurd (ZaE e b g) d
     rw[ZaF (by simp) b g]
     grind
  simp
theorem ZtR(l:List GX):F133 l=some (HP l):=by
 unfold F133 HP;by_cases s:64<l.length
 ·grind
 ·rw[Zf s,Zv (by omega)];simp only[Ze]
  have a:∀i (b:i<l.length) (τ:Type) (R E:τ) (f:Int->τ),f (i:Int)=R->((∃j,j<i/\((l[j]?).getD ([],0,false,0,())).1=(l[i]).1)->run (fun h:Int=>
        bif decide (h<(i:Int)) then
         Vb (idx l h) fun t=>
          bif decide (t.fst=(l[i]).fst) then some (Sum.inr (f (i:Int))) else some (Sum.inl (Va .i64 (h+(1:Int))))
        else some (Sum.inr E)) (0:Int)=some R)/\((¬∃j,j<i/\((l[j]?).getD ([],0,false,0,())).1=(l[i]).1)->run (fun h:Int=>
        bif decide (h<(i:Int)) then
         Vb (idx l h) fun t=>
          bif decide (t.fst=(l[i]).fst) then some (Sum.inr (f (i:Int))) else some (Sum.inl (Va .i64 (h+(1:Int))))
        else some (Sum.inr E)) (0:Int)=some E):=by
   intro i b τ R E f u;refine ZbQ (p:=fun j=>((l[j]?).getD ([],0,false,0,())).1=(l[i]).1) (fun j q m=>?_) (fun j q m=>?_) ?_
   ·have e:j<l.length:=by omega
    have g:(l[j]?).getD ([],0,false,0,())=l[j]:=by grind
    rw[g]at m;simp only[ZV q,Zc,ZI e,Za,Zv m,Ze,Ka q (by omega)]
   ·have e:j<l.length:=by omega
    have g:(l[j]?).getD ([],0,false,0,())=l[j]:=by grind
    rw[g]at m;simp only[ZV q,Zc,ZI e,Za,Zi m,u]
   simp
  rw[J3 (n:=l.length) (fun i st=>st=(i:Int)) (HO l) (fun i=>.inr ((i:Int),HO l i)) (.inl ()) ?_ ?_ ?_ (0:Int) rfl]
  ·unfold pick
   grind
  ·rintro i _ b rfl d;have g:(l[i]?).getD ([],0,false,0,())=l[i]:=by grind
   unfold HO at d;simp only[g]at d;obtain⟨k,c,o⟩:=Dc.1 d;have k:Wc (l[i]).1=true:=by grind
   refine⟨((i+1:Nat):Int),?_,rfl⟩;simp only[ZV b,Zc,ZI b,Za,R6,k,Vc,Ze];rw[(a i b _ _ (Sum.inl ()) (fun x=>Sum.inr (x,(6:Int))) rfl).2 c];simp only[Za,Vj,YT,Zi (show (0:Int)<=(l[i]).2.1/\(l[i]).2.1<=15 by omega),Vc,Ze,Zi (show (0:Int)<=(l[i]).2.2.2.1/\(l[i]).2.2.2.1<=3600 by omega),Ka b (by omega)]
  ·rintro i _ b rfl d;have g:(l[i]?).getD ([],0,false,0,())=l[i]:=by grind
   simp only[ZV b,Zc,ZI b,Za,R6];unfold HO at d⊢;simp only[g]at d⊢;by_cases k:Wc (l[i]).1=false
   ·rw[ZaD k,k];rfl
   ·have r:Wc (l[i]).1=true:=by grind
    simp only[r,Vc,Ze];by_cases c:∃j,j<i/\((l[j]?).getD ([],0,false,0,())).1=(l[i]).1
    ·rw[ZaC (by simp) c,(a i b _ _ (Sum.inl ()) (fun x=>Sum.inr (x,(6:Int))) rfl).1 c];rfl
    ·rw[(a i b _ _ (Sum.inl ()) (fun x=>Sum.inr (x,(6:Int))) rfl).2 c]
     have o:(l[i]).2.1<0\/16<=(l[i]).2.1\/(l[i]).2.2.2.1<0\/3600<(l[i]).2.2.2.1:=by
      by_cases o:(l[i]).2.1<0\/16<=(l[i]).2.1\/(l[i]).2.2.2.1<0\/3600<(l[i]).2.2.2.1
      ·omega
      ·exact absurd (ZaE k c o) d
     rw[ZaF (by simp) c o];simp only[Za,Vj,YT]
     grind
  simp
end Q
namespace Q
open Tr Go
theorem Zki(x:Int):F138 x=some (decide (0<=x/\x<=7)):=by
 unfold F138
 grind
theorem Zaz{α:Type}{l:List α}{nm:α->List UInt8}{d:α}{i:Nat}(h:i<l.length)(k:l.length<=9223372036854775807){y:List UInt8}{τ:Type}(R E:τ):
 ((∃j,j<i/\nm ((l[j]?).getD d)=y)->run (fun b:Int=>
        bif decide (b<(i:Int)) then
         Vb (idx l b) fun g=>
          bif decide (nm g=y) then some (Sum.inr R) else some (Sum.inl (Va .i64 (b+(1:Int))))
        else some (Sum.inr E)) (0:Int)=some R)/\((¬∃j,j<i/\nm ((l[j]?).getD d)=y)->run (fun b:Int=>
        bif decide (b<(i:Int)) then
         Vb (idx l b) fun g=>
          bif decide (nm g=y) then some (Sum.inr R) else some (Sum.inl (Va .i64 (b+(1:Int))))
        else some (Sum.inr E)) (0:Int)=some E):=by
 refine ZbQ (p:=fun j=>nm ((l[j]?).getD d)=y) (fun j e c=>?_) (fun j e c=>?_) ?_
 ·have a:j<l.length:=by omega
  have f:(l[j]?).getD d=l[j]:=by grind
  rw[f]at c;simp only[ZV e,Zc,ZI a,Za,Zv c,Ze,Ka e (by omega)]
 ·have a:j<l.length:=by omega
  have f:(l[j]?).getD d=l[j]:=by grind
  rw[f]at c;simp only[ZV e,Zc,ZI a,Za,Zi c]
 simp
def r0:Hw:=([],0,false,())
noncomputable def Gd(l:List Hw)(i:Nat):Int:=
 Yx (Wc ((l[i]?).getD r0).1=false) (∃j,j<i/\((l[j]?).getD r0).1=((l[i]?).getD r0).1) (¬(0<=((l[i]?).getD r0).2.1/\((l[i]?).getD r0).2.1<=7))
noncomputable def Ge(l:List Hw):Int×Int:=if 64<l.length then(0,5) else pick l.length (Gd l) (fun i=>((i:Int),Gd l i)) (0,0)
theorem Kr{α:Type}{l:List α}{i:Nat}(h:i<l.length)(d:α):(l[i]?).getD d=l[i]:=by grind
theorem Dt{t:Ty}{key:Nat->El t}{i:Nat}{m:List (El t×Bool)}(h:WI key i m){k:El t}(b:¬∃j,j<i/\key j=k):Ve (ZK (Zj t) k m) false=false:=by
 cases a:Ve (ZK (Zj t) k m) false with
 |false=>rfl
 |true=>exact absurd ((h k).1 a) b
theorem Zs4(l:List Hw)(p:∀x∈l,x.1.length<=9223372036854775807):F137 l=some (Ge l):=by
 unfold F137 Ge;by_cases o:64<l.length
 ·grind
 ·rw[Zf o,Zv (by omega)];simp only[Ze];rw[J3 (n:=l.length) (fun i st=>∃m,st=(m,(i:Int))/\WI (t:=Y9) (fun j=>((l[j]?).getD r0).1) i m) (Gd l) (fun i=>.inr ((i:Int),Gd l i)) (.inl ()) ?_ ?_ ?_ ([],(0:Int)) ⟨[],rfl,WI.nil _⟩]
  ·unfold pick
   grind
  ·rintro i _ a ⟨m,rfl,f⟩ c;have g:=Kr a r0;unfold Gd at c;rw[g]at c;obtain⟨d,b,e⟩:=Dc.1 c;have d:Wc (l[i]).1=true:=by grind
   have k:=Dt f b;have e:0<=(l[i]).2.1/\(l[i]).2.1<=7:=by omega
   refine⟨(Kh (Zj Y9) (l[i]).1 true m,((i+1:Nat):Int)),?_,_,rfl,?_⟩
   ·simp only[ZV a,Zc,ZI a,Za,D6 _ (p _ (Vf a)),d,Vc,Ze,k,Ka a (by omega),Zki,Zi e]
   ·have:=WI.add (t:=Y9) rfl f
    grind
  ·rintro i _ a ⟨m,rfl,f⟩ c;have g:=Kr a r0;simp only[ZV a,Zc,ZI a,Za,D6 _ (p _ (Vf a))];unfold Gd at c⊢;rw[g]at c;simp only[g];by_cases d:Wc (l[i]).1=false
   ·rw[ZaD d,d];rfl
   ·have h:Wc (l[i]).1=true:=by grind
    simp only[h,Vc,Ze];by_cases b:∃j,j<i/\((l[j]?).getD r0).1=(l[i]).1
    ·rw[ZaC (by simp) b,(f _).2 b];rfl
    ·simp only[Dt f b,Ze];have e:¬(0<=(l[i]).2.1/\(l[i]).2.1<=7):=fun e=>c (ZaE d b (by omega));rw[ZaF (by simp) b e,Zki,Zv e];rfl
  simp
theorem Zs5(l:List Hw):F131 l=some (Ge l):=by
 unfold F131 Ge;by_cases m:64<l.length
 ·grind
 ·rw[Zf m,Zv (by omega)];simp only[Ze];have g:l.length<=9223372036854775807:=by omega
  rw[J3 (n:=l.length) (fun i st=>st=(i:Int)) (Gd l) (fun i=>.inr ((i:Int),Gd l i)) (.inl ()) ?_ ?_ ?_ (0:Int) rfl]
  ·unfold pick
   grind
  ·rintro i _ a rfl c;have h:=Kr a r0;unfold Gd at c;rw[h]at c;obtain⟨e,b,f⟩:=Dc.1 c;have e:Wc (l[i]).1=true:=by grind
   have f:0<=(l[i]).2.1/\(l[i]).2.1<=7:=by omega
   refine⟨((i+1:Nat):Int),?_,rfl⟩;simp only[ZV a,Zc,ZI a,Za,R6,e,Vc,Ze];rw[(Zaz (nm:=fun x:Hw=>x.1) (d:=r0) a g (y:=(l[i]).1) _ _).2 b];simp only[Za,Vj,YT,Zi f,Vc,Ze,Ka a g]
  ·rintro i _ a rfl c;have h:=Kr a r0;simp only[ZV a,Zc,ZI a,Za,R6];unfold Gd at c⊢;rw[h]at c;simp only[h];by_cases e:Wc (l[i]).1=false
   ·rw[ZaD e,e];rfl
   ·have k:Wc (l[i]).1=true:=by grind
    simp only[k,Vc,Ze];by_cases b:∃j,j<i/\((l[j]?).getD r0).1=(l[i]).1
    ·rw[ZaC (by simp) b,(Zaz (nm:=fun x:Hw=>x.1) (d:=r0) a g (y:=(l[i]).1) _ _).1 b];rfl
    ·rw[(Zaz (nm:=fun x:Hw=>x.1) (d:=r0) a g (y:=(l[i]).1) _ _).2 b];have f:¬(0<=(l[i]).2.1/\(l[i]).2.1<=7):=fun f=>c (ZaE e b (by omega));rw[ZaF (by simp) b f];simp only[Za,Vj,YT,Zv f];rfl
  simp
abbrev XE:=List UInt8×Int×Int×Int×Int×Int×Unit
abbrev Z9:=List XE×Int×Int×Int×Unit
def p0:XE:=([],0,0,0,0,0,())
def Hn(x:XE):Bool:=decide (0<=x.2.1/\x.2.1<=1000000) && (decide (1<=x.2.2.1/\x.2.2.1<=8) && (decide (1<=x.2.2.2.1/\x.2.2.2.1<=16) && (decide (0<=x.2.2.2.2.1/\x.2.2.2.2.1<=86400) &&decide (1<=x.2.2.2.2.2.1/\x.2.2.2.2.2.1<=255))))
noncomputable def HM(l:List XE)(i:Nat):Int:=
 Yx (Wc ((l[i]?).getD p0).1=false) (∃j,j<i/\((l[j]?).getD p0).1=((l[i]?).getD p0).1) (Hn ((l[i]?).getD p0)=false)
def HZ(f:Z9):Bool:=decide (0<=f.2.1/\f.2.1<=1000000) && (decide (0<=f.2.2.1/\f.2.2.1<=86400) &&decide (0<=f.2.2.2.1/\f.2.2.2.1<=1000000))
noncomputable def X5(f:Z9):Int×Int:=
 if HZ f=false then(-1,2) else if 16<f.1.length then(0,5) else pick f.1.length (HM f.1) (fun i=>((i:Int),HM f.1 i)) (0,0)
theorem Zmg{w:Int->Int->Int->Option Bool}(c:∀x a b,w x a b=some (decide (a<=x/\x<=b)))(f:Z9):
 (Vb (w f.2.1 0 1000000) fun x0=>bif !x0 then some true else Vb (w f.2.2.1 0 86400) fun d=>bif !d then some true else Vb (w f.2.2.2.1 0 1000000) fun e=>some !e)=some (!HZ f):=by
 unfold HZ;simp only[c,Za]
 grind
theorem ZdP{w:Int->Int->Int->Option Bool}(c:∀x a b,w x a b=some (decide (a<=x/\x<=b)))(x:XE):
 (Vb (w x.2.1 0 1000000) fun x0=>bif !x0 then some true else Vb (w x.2.2.1 1 8) fun d=>bif !d then some true else Vb (w x.2.2.2.1 1 16) fun e=>bif !e then some true else
   Vb (w x.2.2.2.2.1 0 86400) fun f=>bif !f then some true else Vb (w x.2.2.2.2.2.1 1 255) fun g=>some !g)=some (!Hn x):=by
 unfold Hn;simp only[c,Za]
 grind
theorem Zgn(f:Z9)(p:∀x∈f.1,x.1.length<=9223372036854775807):F83 f=some (X5 f):=by
 unfold F83 X5;rw[Zmg (w:=F87) ZhQ f];simp only[Za]
 cases r:HZ f with
 |true=>
  rw[Zf (by simp)];simp only[Vc,Ze];by_cases l:16<f.1.length
  ·grind
  ·rw[Zf l,Zv (by omega)];simp only[Ze];rw[J3 (n:=f.1.length) (fun i st=>∃m,st=(m,(i:Int))/\WI (t:=Y9) (fun j=>((f.1[j]?).getD p0).1) i m) (HM f.1) (fun i=>.inr ((i:Int),HM f.1 i)) (.inl ()) ?_ ?_ ?_ ([],(0:Int)) ⟨[],rfl,WI.nil _⟩]
   ·unfold pick
    grind
   ·rintro i _ a ⟨m,rfl,g⟩ c;have h:=Kr a p0;unfold HM at c;rw[h]at c;obtain⟨d,b,e⟩:=Dc.1 c;have d:Wc (f.1[i]).1=true:=by grind
    have o:=Dt g b;have e:Hn f.1[i]=true:=by grind
    refine⟨(Kh (Zj Y9) (f.1[i]).1 true m,((i+1:Nat):Int)),?_,_,rfl,?_⟩
    ·simp only[ZV a,Zc,ZI a,Za,D6 _ (p _ (Vf a)),d,Vc,Ze,o,Ka a (by omega)];rw[ZdP (w:=F87) ZhQ,e];rfl
    ·have:=WI.add (t:=Y9) rfl g
     grind
   ·rintro i _ a ⟨m,rfl,g⟩ c;have h:=Kr a p0;simp only[ZV a,Zc,ZI a,Za,D6 _ (p _ (Vf a))];unfold HM at c⊢;rw[h]at c;simp only[h];by_cases d:Wc (f.1[i]).1=false
    ·rw[ZaD d,d];rfl
    ·have k:Wc (f.1[i]).1=true:=by grind
     simp only[k,Vc,Ze];by_cases b:∃j,j<i/\((f.1[j]?).getD p0).1=(f.1[i]).1
     ·rw[ZaC (by simp) b,(g _).2 b];rfl
     ·simp only[Dt g b,Ze]
      have e:Hn f.1[i]=false:=by
       cases q:Hn f.1[i] with
       |false=>rfl
       |true=>exact absurd (ZaE d b (by grind)) c
      rw[ZaF (by simp) b e,ZdP (w:=F87) ZhQ,e];rfl
   simp
 |false=>rfl
theorem Zqn(f:Z9):F122 f=some (X5 f):=by
 unfold F122 X5;rw[Zmg (w:=F127) YT f];simp only[Za]
 cases p:HZ f with
 |true=>
  rw[Zf (by simp)];simp only[Vc,Ze];by_cases m:16<f.1.length
  ·grind
  ·rw[Zf m,Zv (by omega)];simp only[Ze];have h:f.1.length<=9223372036854775807:=by omega
   rw[J3 (n:=f.1.length) (fun i st=>st=(i:Int)) (HM f.1) (fun i=>.inr ((i:Int),HM f.1 i)) (.inl ()) ?_ ?_ ?_ (0:Int) rfl]
   ·unfold pick
    grind
   ·rintro i _ a rfl c;have k:=Kr a p0;unfold HM at c;rw[k]at c;obtain⟨e,b,g⟩:=Dc.1 c;have e:Wc (f.1[i]).1=true:=by grind
    have g:Hn f.1[i]=true:=by grind
    refine⟨((i+1:Nat):Int),?_,rfl⟩;simp only[ZV a,Zc,ZI a,Za,R6,e,Vc,Ze];rw[(Zaz (nm:=fun x:XE=>x.1) (d:=p0) a h (y:=(f.1[i]).1) _ _).2 b];simp only[Za,Vj];rw[ZdP (w:=F127) YT,g];simp only[Vc,Za,Ze,Ka a h]
   ·rintro i _ a rfl c;have k:=Kr a p0;simp only[ZV a,Zc,ZI a,Za,R6];unfold HM at c⊢;rw[k]at c;simp only[k];by_cases e:Wc (f.1[i]).1=false
    ·rw[ZaD e,e];rfl
    ·have l:Wc (f.1[i]).1=true:=by grind
     simp only[l,Vc,Ze];by_cases b:∃j,j<i/\((f.1[j]?).getD p0).1=(f.1[i]).1
     ·rw[ZaC (by simp) b,(Zaz (nm:=fun x:XE=>x.1) (d:=p0) a h (y:=(f.1[i]).1) _ _).1 b];rfl
     ·rw[(Zaz (nm:=fun x:XE=>x.1) (d:=p0) a h (y:=(f.1[i]).1) _ _).2 b]
      have g:Hn f.1[i]=false:=by
       cases o:Hn f.1[i] with
       |false=>rfl
       |true=>exact absurd (ZaE e b (by grind)) c
      rw[ZaF (by simp) b g];simp only[Za,Vj];rw[ZdP (w:=F127) YT,g];rfl
   simp
 |false=>rfl
end Q
namespace Q
open Tr Go
abbrev Wv:=Int×Int×Int×Bool×Bool×Unit
def c0:Wv:=(0,0,0,false,false,())
def ZbH(l:List Wv)(i:Nat)(n:Int):Bool:=decide (((l[i]?).getD c0).1<0) ||decide (n<=((l[i]?).getD c0).1)
def ZbI(l:List Wv)(i:Nat):Bool:=decide (0<i) &&decide (((l[i - 1]?).getD c0).1=((l[i]?).getD c0).1)
def ZbJ(l:List Wv)(i:Nat)(lo a:Int):Bool:=decide (((l[i]?).getD c0).2.1<lo) || (decide (((l[i]?).getD c0).2.2.1<((l[i]?).getD c0).2.1) || (decide (a<((l[i]?).getD c0).2.2.1) || (decide (0<i) &&decide (((l[i]?).getD c0).2.1<((l[i - 1]?).getD c0).2.2.1))))
def Xf(l:List Wv)(n lo a:Int)(i:Nat):Int:=if ZbH l i n then 9 else if ZbI l i then 13 else if ZbJ l i lo a then 10 else 0
theorem Zj7(i:Nat):decide ((0:Int)<(i:Int))=decide (0<i):=by simp
theorem Zlc{l:List Wv}{i:Nat}(b:i<l.length)(c:l.length<=9223372036854775807)(a:0<i):idx l (Va .i64 ((i:Int) - 1))=some ((l[i - 1]?).getD c0):=by
 have e:Va .i64 ((i:Int) - 1)=((i - 1:Nat):Int):=by rw[Z1 (by omega) (by omega)];omega
 rw[e,ZI (by omega),Kr (by omega)]
theorem ZkS{l:List Wv}{i:Nat}(b:i<l.length)(d:l.length<=9223372036854775807)(n lo a:Int):F7 l (i:Int) n lo a=some (Xf l n lo a i):=by
 unfold F7 Xf ZbH ZbI ZbJ;rw[Kr b,ZI b];simp only[Za,Zj7];by_cases c:0<i
 ·simp only[Zlc b d c,Za,Zi c,Zc,Vfa]
  grind
 grind
noncomputable def Xb(l:List Wv)(n lo a:Int):Int:=if l.length<2\/32<l.length then 5 else pick l.length (Xf l n lo a) (Xf l n lo a) 0
theorem ZiR(l:List Wv)(n lo b:Int):∃i,F6 l n lo b=some (i,Xb l n lo b):=by
 unfold F6 Xb;by_cases e:l.length<2
 ·rw[Zi (by omega),Zr (.inl e)];simp
 ·rw[Zv (by omega)];by_cases f:32<l.length
  ·rw[Zr (.inr f)];simp only[Ze,Za,Zi (show (32:Int)<(l.length:Int) by omega),Zc];simp
  ·rw[Zf (by omega)];simp only[Ze,Za,Zv (show¬(32:Int)<(l.length:Int) by omega)];have d:l.length<=9223372036854775807:=by omega
   rw[J3 (n:=l.length) (fun i st=>st=(i:Int)) (Xf l n lo b) (fun i=>.inr ((i:Int),Xf l n lo b i)) (.inl ()) ?_ ?_ ?_ (0:Int) rfl]
   ·unfold pick
    cases Wq l.length (Xf l n lo b)<;>exact⟨_,rfl⟩
   ·rintro i _ a rfl c;refine⟨((i+1:Nat):Int),?_,rfl⟩;simp only[ZV a,Zc,ZkS a d,Za,c,decide_true,Vc,Ze,Ka a d]
   ·rintro i _ a rfl c;simp only[ZV a,Zc,ZkS a d,Za,Zv c,Vp]
   simp
theorem ZoG(l:List Wv)(n lo b:Int):F119 l n lo b=some (Xb l n lo b):=by
 unfold F119 Xb;by_cases e:l.length<2
 ·grind
 ·rw[Zv (by omega)];by_cases f:32<l.length
  ·grind
  ·rw[Zf (by omega)];simp only[Ze,Za,Zv (by omega)];have d:l.length<=9223372036854775807:=by omega
   rw[Ztt (n:=l.length) (Xf l n lo b) (fun i=>.inr (Xf l n lo b i)) (.inl ()) ?_ (by simp)]
   ·unfold pick
    grind
   ·intro i a;simp only[ZV a,Zc,ZI a,Za,Zj7,Ka a d];unfold Xf ZbH ZbI ZbJ;rw[Kr a];by_cases c:0<i
    ·simp only[Zlc a d c,Za,Zi c,Zc,Vfa]
     grind
    grind
abbrev Y7:=Int×Int×Int×List UInt8×Int×Bool×Bool×List Wv×Unit
abbrev HS:=Int×Int×Int×Int×Bool×Unit
abbrev Zg:=List GX×List Hw×List Y7×List HS×List Kg×Z9×Unit
def u0:Y7:=(0,0,0,[],0,false,false,[],())
abbrev ZmV:=List UInt8×Int×Int×Unit
def runK(x:Y7):ZmV:=(x.2.2.2.1,x.2.1,x.2.2.1,())
open Classical in
noncomputable def Xy(n:Zg)(i:Nat):Int:=
 let x:=(n.2.2.1[i]?).getD u0
 if Wc x.2.2.2.1=false then 12 else if (decide (x.1< -1) ||decide (x.2.2.1<0))=true then 2 else if (decide (x.2.1<0) ||decide (36524<x.2.1))=true then 11
 else if (decide (x.2.2.2.2.1<0) ||decide ((n.2.1.length:Int)<=x.2.2.2.2.1))=true then 9
 else if Xb x.2.2.2.2.2.2.2.1 (n.1.length:Int) 0 3155932800≠0 then Xb x.2.2.2.2.2.2.2.1 (n.1.length:Int) 0 3155932800
 else if∃j,j<i/\runK ((n.2.2.1[j]?).getD u0)=runK x then 6 else 0
noncomputable def Zev(n:Zg):Int×Int×Int×Unit:=if 1024<n.2.2.1.length then(2,0,5,()) else pick n.2.2.1.length (Xy n) (fun i=>(2,(i:Int),Xy n i,())) (0,0,0,())
theorem Zto(n:Zg)(q:∀x∈n.2.2.1,x.2.2.2.1.length<=9223372036854775807):F70 n=some (Zev n):=by
 unfold F70 Zev F80;by_cases r:1024<n.2.2.1.length
 ·grind
 ·rw[Zf r,Zv (by omega)];simp only[Ze];have s:n.2.2.1.length<=9223372036854775807:=by omega
  rw[J3 (n:=n.2.2.1.length) (fun i st=>∃m,st=((0,0,0,()),m,(i:Int))/\WI (t:=Gt) (fun j=>runK ((n.2.2.1[j]?).getD u0)) i m) (Xy n) (fun i=>.inr (2,(i:Int),Xy n i,())) (.inl (0,0,0,())) ?_ ?_ ?_ _ ⟨[],rfl,WI.nil _⟩]
  ·unfold pick
   grind
  ·rintro i _ b ⟨m,rfl,k⟩ a;have p:=Kr b u0;unfold Xy at a;simp only[p]at a;obtain⟨ci,g⟩:=ZiR (n.2.2.1[i]).2.2.2.2.2.2.2.1 (n.1.length:Int) 0 3155932800;by_cases l:Wc (n.2.2.1[i]).2.2.2.1=false
   ·grind
   rw[Zf l]at a;by_cases c:(decide ((n.2.2.1[i]).1< -1) ||decide ((n.2.2.1[i]).2.2.1<0))=true
   ·grind
   rw[Zf c]at a;by_cases d:(decide ((n.2.2.1[i]).2.1<0) ||decide (36524<(n.2.2.1[i]).2.1))=true
   ·grind
   rw[Zf d]at a;by_cases e:(decide ((n.2.2.1[i]).2.2.2.2.1<0) ||decide ((n.2.1.length:Int)<=(n.2.2.1[i]).2.2.2.2.1))=true
   ·grind
   rw[Zf e]at a;by_cases o:Xb (n.2.2.1[i]).2.2.2.2.2.2.2.1 (n.1.length:Int) 0 3155932800=0
   ·rw[Zf (by omega)]at a;by_cases h:∃j,j<i/\runK ((n.2.2.1[j]?).getD u0)=runK n.2.2.1[i]
    ·simp_all
    ·have f:Wc (n.2.2.1[i]).2.2.2.1=true:=by grind
     have u:=Dt k h;refine⟨((0,0,0,()),Kh (Zj Gt) (runK n.2.2.1[i]) true m,((i+1:Nat):Int)),?_,_,rfl,?_⟩
     ·simp only[ZV b,Zc,ZI b,Za,D6 _ (q _ (Vf b)),f,Vc,Ze,g,o,decide_true,Ka b s];simp only[Vn,Vk]at c d e;simp only[c.1,c.2,d.1,d.2,e.1,e.2,Ze,Za];rw[show Ve (ZK (Zj Gt) ((n.2.2.1[i]).2.2.2.1,(n.2.2.1[i]).2.1,(n.2.2.1[i]).2.2.1,()) m) false=false from u];rfl
     ·have:=WI.add (t:=Gt) rfl k
      grind
   omega
  ·rintro i _ b ⟨m,rfl,k⟩ a;have p:=Kr b u0;obtain⟨ci,g⟩:=ZiR (n.2.2.1[i]).2.2.2.2.2.2.2.1 (n.1.length:Int) 0 3155932800;simp only[ZV b,Zc,ZI b,Za,D6 _ (q _ (Vf b))];unfold Xy at a⊢;simp only[p]at a⊢;by_cases l:Wc (n.2.2.1[i]).2.2.2.1=false
   ·grind
   have f:Wc (n.2.2.1[i]).2.2.2.1=true:=by grind
   rw[Zf l]at a⊢;simp only[f,Vc,Ze];by_cases c:(decide ((n.2.2.1[i]).1< -1) ||decide ((n.2.2.1[i]).2.2.1<0))=true
   ·grind
   rw[Zf c]at a⊢;by_cases d:(decide ((n.2.2.1[i]).2.1<0) ||decide (36524<(n.2.2.1[i]).2.1))=true
   ·grind
   rw[Zf d]at a⊢;simp only[Vn,Vk]at c d;simp only[c.1,c.2,d.1,d.2,Ze,Za];by_cases e:(decide ((n.2.2.1[i]).2.2.2.2.1<0) ||decide ((n.2.1.length:Int)<=(n.2.2.1[i]).2.2.2.2.1))=true
   ·grind
   rw[Zf e]at a⊢;simp only[Vn,Vk]at e;simp only[e.1,e.2,Ze,Za,g];by_cases o:Xb (n.2.2.1[i]).2.2.2.2.2.2.2.1 (n.1.length:Int) 0 3155932800=0
   ·rw[Zf (by omega)]at a⊢;simp only[o,decide_true,Vc,Ze];by_cases h:∃j,j<i/\runK ((n.2.2.1[j]?).getD u0)=runK n.2.2.1[i]
    ·rw[Zr h];rw[show Ve (ZK (Zj Gt) ((n.2.2.1[i]).2.2.2.1,(n.2.2.1[i]).2.1,(n.2.2.1[i]).2.2.1,()) m) false=true from (k _).2 h];rfl
    grind
   grind
  grind
theorem ZlI(n:Zg){i:Nat}(l:i<n.2.2.1.length)(y:n.2.2.1.length<=9223372036854775807):F132 n (i:Int)=some (Xy n i):=by
 unfold F132 Xy;have v:=Kr l u0;simp only[v,ZI l,Za,R6,ZoG,YT];by_cases m:Wc (n.2.2.1[i]).2.2.2.1=false
 ·grind
 have f:Wc (n.2.2.1[i]).2.2.2.1=true:=by grind
 rw[Zf m];simp only[f,Vc,Ze];by_cases c:(decide ((n.2.2.1[i]).1< -1) ||decide ((n.2.2.1[i]).2.2.1<0))=true
 ·grind
 rw[Zf c];simp only[Vn,Vk]at c;simp only[c.1,c.2,Ze,Za];by_cases o:(decide ((n.2.2.1[i]).2.1<0) ||decide (36524<(n.2.2.1[i]).2.1))=true
 ·grind
 rw[Zf o]
 have u:0<=(n.2.2.1[i]).2.1/\(n.2.2.1[i]).2.1<=36524:=by
  grind
 simp only[Zi u,Vc,Ze];by_cases d:(decide ((n.2.2.1[i]).2.2.2.2.1<0) ||decide ((n.2.1.length:Int)<=(n.2.2.1[i]).2.2.2.2.1))=true
 ·grind
 rw[Zf d];simp only[Vn,Vk]at d;simp only[d.1,d.2,Ze,Za];by_cases q:Xb (n.2.2.1[i]).2.2.2.2.2.2.2.1 (n.1.length:Int) 0 3155932800=0
 ·rw[Zf (by omega)];simp only[q,decide_true,Vc,Ze]
  have k:=ZbQ (i:=i) (p:=fun j=>runK ((n.2.2.1[j]?).getD u0)=runK n.2.2.1[i]) (τ:=Unit ⊕ Int) (R:=.inr 6) (E:=.inl ()) (step:=fun g:Int=>
   bif decide (g<(i:Int)) then
    Vb (idx n.2.2.1 g) fun h=>
     Vb
      (bif decide (h.snd.snd.snd.fst=(n.2.2.1[i]).snd.snd.snd.fst) then
        bif decide (h.snd.fst=(n.2.2.1[i]).snd.fst) then some (decide (h.snd.snd.fst=(n.2.2.1[i]).snd.snd.fst)) else some false
      else some false)
      fun w=>bif w then some (Sum.inr (Sum.inr (6:Int))) else some (Sum.inl (Va .i64 (g+(1:Int))))
   else some (Sum.inr (Sum.inl ()))) (fun j e a=>?_) (fun j e a=>?_) (by simp)
  ·by_cases x:∃j,j<i/\runK ((n.2.2.1[j]?).getD u0)=runK n.2.2.1[i]
   all_goals simp_all
  ·have b:j<n.2.2.1.length:=by omega
   have a:¬runK n.2.2.1[j]=runK n.2.2.1[i]:=by grind
   simp only[ZV e,Zc,ZI b,Za,Ka e (by omega)];by_cases r:(n.2.2.1[j]).2.2.2.1=(n.2.2.1[i]).2.2.2.1
   ·rw[Zi r];by_cases s:(n.2.2.1[j]).2.1=(n.2.2.1[i]).2.1
    ·rw[Zi s];have t:¬(n.2.2.1[j]).2.2.1=(n.2.2.1[i]).2.2.1:=fun t=>a (by unfold runK;grind)
     grind
    grind
   grind
  ·have b:j<n.2.2.1.length:=by omega
   have a:runK n.2.2.1[j]=runK n.2.2.1[i]:=by grind
   unfold runK at a;simp only[Vwa,and_true]at a;simp only[ZV e,Zc,ZI b,Za,Zi a.1,Zi a.2.1,Zi a.2.2]
 grind
end Q
namespace Q
open Tr Go Gr
def f0:Kg:=(0,0,0,false,())
def JB(p:Kg):Kg:=(p.1,p.2.1,0,p.2.2.2.1,())
def YA(n:Nat)(p:Kg):Bool:= !decide (0<=p.1/\p.1<(n:Int)) || (!decide (0<=p.2.1/\p.2.1<(n:Int)) ||decide (p.1=p.2.1))
def YB(p:Kg):Bool:=decide (p.2.2.1<1) ||decide (14400<p.2.2.1)
open Classical in
noncomputable def K1(n:Nat)(l:List Kg)(i:Nat):Int:=
 if YA n ((l[i]?).getD f0)=true then 9 else if YB ((l[i]?).getD f0)=true then 2 else if∃j,j<i/\JB ((l[j]?).getD f0)=JB ((l[i]?).getD f0) then 6 else 0
theorem RY{n:Nat}{l:List Kg}{i:Nat}(h:K1 n l i=0):YA n ((l[i]?).getD f0)=false/\YB ((l[i]?).getD f0)=false/\ ¬∃j,j<i/\JB ((l[j]?).getD f0)=JB ((l[i]?).getD f0):=by
 unfold K1 at h;by_cases a:YA n ((l[i]?).getD f0)=true
 ·grind
 ·rw[Zf a]at h;by_cases b:YB ((l[i]?).getD f0)=true
  all_goals simp_all
theorem Zk5{n:Nat}{p:Kg}(h:YA n p=false):(0<=p.1/\p.1<n)/\(0<=p.2.1/\p.2.1<n)/\p.1≠p.2.1:=by
 unfold YA at h
 grind
theorem Zk6{p:Kg}(h:YB p=false):1<=p.2.2.1/\p.2.2.1<=14400:=by
 unfold YB at h
 grind
theorem Zgs{n:Nat}{l:List Kg}(h:∀i,i<l.length->K1 n l i=0):GQ n l:=by intro p d;obtain⟨i,c,rfl⟩:=Vi d;obtain⟨a,b,_⟩:=RY (h i c);rw[Kr c]at a b;have:=Zk5 a;have:=Zk6 b;omega
theorem Zuv(x:Int)(n:Nat):F81 x (n:Int)=some (decide (0<=x/\x<(n:Int))):=by
 unfold F81
 grind
theorem ZiC(n:Nat)(p:Kg):(Vb (F81 p.1 (n:Int)) fun a=>bif !a then some true else Vb (F81 p.2.1 (n:Int)) fun b=>bif !b then some true else some (decide (p.1=p.2.1)))=some (YA n p):=by
 unfold YA;simp only[Zuv,Za]
 grind
theorem Zop{n:Nat}(c:n<=9223372036854775807)(p:Kg):(Vb (F127 p.1 0 (Va .i64 ((n:Int) - 1))) fun a=>bif !a then some true else Vb (F127 p.2.1 0 (Va .i64 ((n:Int) - 1))) fun b=>bif !b then some true else some (decide (p.1=p.2.1)))=some (YA n p):=by
 have e:Va .i64 ((n:Int) - 1)=(n:Int) - 1:=Z1 (by omega) (by omega);have h:∀x:Int,decide (0<=x/\x<=(n:Int) - 1)=decide (0<=x/\x<(n:Int)):=by grind
 unfold YA;simp only[e,YT,Za,h]
 grind
theorem ZiD(p:Kg):(bif decide (p.2.2.1<(1:Int)) then some true else some (decide ((14400:Int)<p.2.2.1)))=some (YB p):=by
 unfold YB
 grind
theorem Zoq(p:Kg):decide ((1:Int)<=p.2.2.1/\p.2.2.1<=14400)= !YB p:=by
 unfold YB
 grind
def sameF(a b:Kg):Bool:=decide (a.1=b.1) && (decide (a.2.1=b.2.1) && (decide (a.2.2.1=b.2.2.1) &&a.2.2.2.1==b.2.2.2.1))
def Rw(c l:List Kg)(i:Nat):Int:=if sameF ((c[i]?).getD f0) ((l[i]?).getD f0) then 0 else 1
def Xs(c l:List Kg):Bool:=decide (c.length=l.length) && (Wq c.length (Rw c l)).isNone
theorem Zjf{τ:Type}{c l:List Kg}(h:c.length=l.length)(j:c.length<=9223372036854775807)(R E:τ):run (fun s2:Int=>
              bif decide (s2<(↑(Vm c):Int)) then
               Vb (idx c s2) fun f=>
                Vb (idx l s2) fun g=>
                 bif !(decide (f.fst=g.fst) && (decide (f.snd.fst=g.snd.fst) && (decide (f.snd.snd.fst=g.snd.snd.fst) &&f.snd.snd.snd.fst==g.snd.snd.snd.fst))) then
                  some (Sum.inr R)
                 else some (Sum.inl (Va .i64 (s2+(1:Int))))
              else some (Sum.inr E)) (0:Int)=some (if (Wq c.length (Rw c l)).isNone then E else R):=by
 rw[J3 (n:=c.length) (fun i st=>st=(i:Int)) (Rw c l) (fun _=>R) E ?_ ?_ ?_ (0:Int) rfl]
 ·unfold pick
  grind
 ·rintro i _ b rfl d;have a:i<l.length:=by omega
  refine⟨((i+1:Nat):Int),?_,rfl⟩;unfold Rw at d;rw[Kr b,Kr a]at d
  have e:sameF c[i] l[i]=true:=by
   grind
  unfold sameF at e;simp only[ZV b,Zc,ZI b,ZI a,Za,e,Vc,Ze,Ka b j]
 ·rintro i _ b rfl d;have a:i<l.length:=by omega
  unfold Rw at d;rw[Kr b,Kr a]at d
  have e:sameF c[i] l[i]=false:=by
   grind
  unfold sameF at e;simp only[ZV b,Zc,ZI b,ZI a,Za,e,Vp]
 simp
theorem ZtL{n:Nat}{l:List Kg}(u:l.length<=4096)(h:∀i,i<l.length->K1 n l i=0):F42 l (n:Int)=some (0,0):=by
 unfold F42
 have b:∀i (_:i<l.length),¬∃j,j<i/\(fun j=>(((l[j]?).getD f0).1,((l[j]?).getD f0).2.1,((l[j]?).getD f0).2.2.2.1,())) j=(((l[i]?).getD f0).1,((l[i]?).getD f0).2.1,((l[i]?).getD f0).2.2.2.1,()):=by
  rintro i a ⟨j,o,k⟩;refine(RY (h i a)).2.2 ⟨j,o,?_⟩;simp only[Vwa,and_true]at k;unfold JB
  grind
 rw[J3 (n:=l.length) (fun i st=>∃m,st=(m,(i:Int))/\WI (t:=XX) (fun j=>(((l[j]?).getD f0).1,((l[j]?).getD f0).2.1,((l[j]?).getD f0).2.2.2.1,())) i m) (K1 n l) (fun i=>.inr ((i:Int),K1 n l i)) (.inl ()) ?_ ?_ ?_ ([],(0:Int)) ⟨[],rfl,WI.nil _⟩]
 ·unfold pick;rw[ZdN h];rfl
 ·rintro i _ a ⟨m,rfl,e⟩ g;have p:=Kr a f0;have v:=Dt e (b i a);obtain⟨c,d,_⟩:=RY g;rw[p]at c d;obtain⟨q,r,f⟩:=Zk5 c;have s:=Zk6 d;refine⟨(Kh (Zj XX) ((l[i]).1,(l[i]).2.1,(l[i]).2.2.2.1,()) true m,((i+1:Nat):Int)),?_,_,rfl,?_⟩
  ·simp only[ZV a,Zc,ZI a,Za,show decide ((l[i]).1<0)=false from (by grind),show decide ((n:Int)<=(l[i]).1)=false from (by grind),show decide ((l[i]).2.1<0)=false from (by grind),
    show decide ((n:Int)<=(l[i]).2.1)=false from (by grind),Zv f,Ze,show decide ((l[i]).2.2.1<1)=false from (by grind),show decide ((14400:Int)<(l[i]).2.2.1)=false from (by grind),Ka a (by omega)]
   grind
  ·have:=WI.add (t:=XX) rfl e
   grind
 all_goals grind
theorem Zq7{n:Nat}(g:n<=64){l:List Kg}(b:l.length<=4096)(h:∀i,i<l.length->K1 n l i=0):∃c,F121 l (n:Int)=some c/\c.length<=8192/\F37 l (n:Int)=some (Xs c l):=by
 obtain⟨c,d,e,f⟩:=ZfK g (Zgs h) b;refine⟨c,e,f,?_⟩;unfold F37 Xs;rw[ZtL b h]
 have em:Tr.imax (n:Int) 0=(n:Int):=by rfl
 simp only[show decide ((64:Int)<(n:Int))=false from (by grind),Ze,Za,decide_true,Vc,em];rw[d];simp only[Za];by_cases a:c.length=l.length
 ·rw[Zi (by omega),Zi a];simp only[Vc,Ze,Vfa];rw[Zjf a (by omega) _ _]
  grind
 grind
theorem Zsm(n:Zg)(I:n.1.length<=64)(H:n.2.2.2.2.1.length<=4096):∃c,((∀i,i<n.2.2.2.2.1.length->K1 n.1.length n.2.2.2.2.1 i=0)->F121 n.2.2.2.2.1 (n.1.length:Int)=some c)/\F69 n=some (match Wq n.2.2.2.2.1.length (K1 n.1.length n.2.2.2.2.1) with
 |some i=>(4,(i:Int),K1 n.1.length n.2.2.2.2.1 i,())
 |none=>if Xs c n.2.2.2.2.1 then(0,0,0,()) else(4,0,18,()))/\
 F130 n=some (match Wq n.2.2.2.2.1.length (K1 n.1.length n.2.2.2.2.1) with
  |some i=>((i:Int),K1 n.1.length n.2.2.2.2.1 i)
  |none=>if Xs c n.2.2.2.2.1 then(0,0) else(0,18)):=by
 have w:n.2.2.2.2.1.length<=9223372036854775807:=by omega
 have B:∀i (a:i<n.2.2.2.2.1.length) (τ:Type) (R E:τ),((∃j,j<i/\JB ((n.2.2.2.2.1[j]?).getD f0)=JB n.2.2.2.2.1[i])->run (fun q:Int=>
               bif decide (q<(i:Int)) then
                Vb (idx n.snd.snd.snd.snd.fst q) fun r=>
                 Vb
                  (bif decide (r.fst=(n.2.2.2.2.1[i]).fst) then
                    bif decide (r.snd.fst=(n.2.2.2.2.1[i]).snd.fst) then some (r.snd.snd.snd.fst== (n.2.2.2.2.1[i]).snd.snd.snd.fst) else some false
                  else some false)
                  fun A=>bif A then some (Sum.inr R) else some (Sum.inl (Va .i64 (q+(1:Int))))
               else some (Sum.inr E)) (0:Int)=some R)/\((¬∃j,j<i/\JB ((n.2.2.2.2.1[j]?).getD f0)=JB n.2.2.2.2.1[i])->run (fun q:Int=>
               bif decide (q<(i:Int)) then
                Vb (idx n.snd.snd.snd.snd.fst q) fun r=>
                 Vb
                  (bif decide (r.fst=(n.2.2.2.2.1[i]).fst) then
                    bif decide (r.snd.fst=(n.2.2.2.2.1[i]).snd.fst) then some (r.snd.snd.snd.fst== (n.2.2.2.2.1[i]).snd.snd.snd.fst) else some false
                  else some false)
                  fun A=>bif A then some (Sum.inr R) else some (Sum.inl (Va .i64 (q+(1:Int))))
               else some (Sum.inr E)) (0:Int)=some E):=by
  intro i a τ R E;refine ZbQ (p:=fun j=>JB ((n.2.2.2.2.1[j]?).getD f0)=JB n.2.2.2.2.1[i]) (fun j z h=>?_) (fun j z h=>?_) (by simp)
  ·have f:j<n.2.2.2.2.1.length:=by omega
   rw[Kr f f0]at h;simp only[ZV z,Zc,ZI f,Za,Ka z (by omega)];by_cases D:(n.2.2.2.2.1[j]).1=(n.2.2.2.2.1[i]).1
   ·rw[Zi D];by_cases F:(n.2.2.2.2.1[j]).2.1=(n.2.2.2.2.1[i]).2.1
    ·rw[Zi F]
     have G:((n.2.2.2.2.1[j]).2.2.2.1== (n.2.2.2.2.1[i]).2.2.2.1)=false:=by
      cases y:((n.2.2.2.2.1[j]).2.2.2.1== (n.2.2.2.2.1[i]).2.2.2.1) with
      |false=>rfl
      |true=>exact absurd (by unfold JB;grind) h
     grind
    grind
   grind
  ·have f:j<n.2.2.2.2.1.length:=by omega
   rw[Kr f f0]at h;unfold JB at h;simp only[Vwa,and_true,true_and]at h;have G:((n.2.2.2.2.1[j]).2.2.2.1== (n.2.2.2.2.1[i]).2.2.2.1)=true:=beq_iff_eq.2 h.2.2;simp only[ZV z,Zc,ZI f,Za,Zi h.1,Zi h.2.1]
   grind
 have b:∀(step:Int->Option (Int ⊕ (Unit ⊕ (Int×Int)))),(∀i,i<n.2.2.2.2.1.length->step (i:Int)=if K1 n.1.length n.2.2.2.2.1 i=0 then some (.inl ((i+1:Nat):Int)) else some (.inr (.inr ((i:Int),K1 n.1.length n.2.2.2.2.1 i))))->step (n.2.2.2.2.1.length:Int)=some (.inr (.inl ()))->
  run step (0:Int)=some (pick n.2.2.2.2.1.length (K1 n.1.length n.2.2.2.2.1) (fun i=>.inr ((i:Int),K1 n.1.length n.2.2.2.2.1 i)) (.inl ())):=by
  intro step d e;refine J3 (fun i st=>st=(i:Int)) _ _ _ ?_ ?_ ?_ _ rfl
  all_goals grind
 have key:∀c,(∀(_:∀i,i<n.2.2.2.2.1.length->K1 n.1.length n.2.2.2.2.1 i=0),F121 n.2.2.2.2.1 (n.1.length:Int)=some c/\c.length<=8192/\F37 n.2.2.2.2.1 (n.1.length:Int)=some (Xs c n.2.2.2.2.1))->
  F69 n=some (match Wq n.2.2.2.2.1.length (K1 n.1.length n.2.2.2.2.1) with
  |some i=>(4,(i:Int),K1 n.1.length n.2.2.2.2.1 i,())
  |none=>if Xs c n.2.2.2.2.1 then(0,0,0,()) else(4,0,18,()))/\
  F130 n=some (match Wq n.2.2.2.2.1.length (K1 n.1.length n.2.2.2.2.1) with
   |some i=>((i:Int),K1 n.1.length n.2.2.2.2.1 i)
   |none=>if Xs c n.2.2.2.2.1 then(0,0) else(0,18)):=by
  intro c g;constructor
  ·unfold F69;rw[J3 (n:=n.2.2.2.2.1.length) (fun i st=>∃m,st=((0,0,0,()),m,(i:Int))/\WI (t:=KV) (fun j=>JB ((n.2.2.2.2.1[j]?).getD f0)) i m) (K1 n.1.length n.2.2.2.2.1) (fun i=>.inr (4,(i:Int),K1 n.1.length n.2.2.2.2.1 i,())) (.inl (0,0,0,())) ?c1 ?c2 ?c3 _ ⟨[],rfl,WI.nil _⟩]
   case c1=>
    rintro i _ a ⟨m,rfl,x⟩ g;have s:=Kr a f0;obtain⟨d,e,k⟩:=RY g;have C:=Dt x k;rw[s]at d e C;refine⟨((0,0,0,()),Kh (Zj KV) (JB n.2.2.2.2.1[i]) true m,((i+1:Nat):Int)),?_,_,rfl,?_⟩
    ·simp only[ZV a,Zc,ZI a,Za,Ka a w];rw[ZiC,ZiD];simp only[Za,d,e,Ze];rw[show Ve (ZK (Zj KV) ((n.2.2.2.2.1[i]).1,(n.2.2.2.2.1[i]).2.1,(0:Int),(n.2.2.2.2.1[i]).2.2.2.1,()) m) false=false from C];rfl
    ·have:=WI.add (t:=KV) rfl x
     grind
   case c2=>
    rintro i _ a ⟨m,rfl,x⟩ g;have s:=Kr a f0;simp only[ZV a,Zc,ZI a,Za];rw[ZiC,ZiD];simp only[Za];unfold K1 at g⊢;rw[s]at g;simp only[s];by_cases d:YA n.1.length n.2.2.2.2.1[i]=true
    ·rw[Zr d,d];rfl
    rw[Zf d]at g⊢;have l:YA n.1.length n.2.2.2.2.1[i]=false:=by grind
    simp only[l,Ze];by_cases e:YB n.2.2.2.2.1[i]=true
    ·rw[Zr e,e];rfl
    rw[Zf e]at g⊢;have o:YB n.2.2.2.2.1[i]=false:=by grind
    simp only[o,Ze];by_cases k:∃j,j<i/\JB ((n.2.2.2.2.1[j]?).getD f0)=JB n.2.2.2.2.1[i]
    ·rw[Zr k];rw[show Ve (ZK (Zj KV) ((n.2.2.2.2.1[i]).1,(n.2.2.2.2.1[i]).2.1,(0:Int),(n.2.2.2.2.1[i]).2.2.2.1,()) m) false=true from (x _).2 k];rfl
    grind
   case c3=>grind
   unfold pick;simp only[Za]
   cases y:Wq n.2.2.2.2.1.length (K1 n.1.length n.2.2.2.2.1) with
   |some i=>rfl
   |none=>
    obtain⟨_,_,k⟩:=g (WK.1 y);simp only[Vj];rw[k]
    cases Xs c n.2.2.2.2.1<;>rfl
  ·unfold F130;rw[b _ (fun i a=>?_) (by simp)]
   ·unfold pick;simp only[Za]
    cases y:Wq n.2.2.2.2.1.length (K1 n.1.length n.2.2.2.2.1) with
    |some i=>rfl
    |none=>
     obtain⟨d,e,_⟩:=g (WK.1 y);simp only[Vj];rw[d];simp only[Za];unfold Xs;by_cases v:c.length=n.2.2.2.2.1.length
     ·rw[Zi (by omega),Zi v];simp only[Vc,Ze,Vfa];rw[Zjf v (by omega) _ _]
      grind
     grind
   ·have s:=Kr a f0;simp only[ZV a,Zc,ZI a,Za,Ka a w];rw[Zop (by omega),YT,Zoq];simp only[Za];unfold K1;rw[s];by_cases d:YA n.1.length n.2.2.2.2.1[i]=true
    ·grind
    have l:YA n.1.length n.2.2.2.2.1[i]=false:=by grind
    rw[Zf d,l];simp only[Ze];by_cases e:YB n.2.2.2.2.1[i]=true
    ·grind
    have o:YB n.2.2.2.2.1[i]=false:=by grind
    rw[Zf e,o];simp only[Vp,Vc,Ze];by_cases k:∃j,j<i/\JB ((n.2.2.2.2.1[j]?).getD f0)=JB n.2.2.2.2.1[i]
    all_goals simp [*]
 by_cases u:∀i,i<n.2.2.2.2.1.length->K1 n.1.length n.2.2.2.2.1 i=0
 ·obtain⟨c,d,e,k⟩:=Zq7 I H u
  grind
 grind
end Q
namespace Q
open Tr Go
def Ks(f:Int->Option Int)(a:Int):Nat->Option Int
 |0=>some a
 |k+1=>(f a).bind fun b=>Ks f b k
inductive JP (f:Int->Option Int):Int->Prop
 |stop {a:Int} :f a=none->JP f a
 |step {a b:Int} :f a=some b->JP f b->JP f a
theorem JP.next{f:Int->Option Int}{a b:Int}(h:JP f a)(e:f a=some b):JP f b:=by
 cases h with
 |stop c=>grind
 |step c d=>grind
theorem ZkU(f:Int->Option Int):∀(k:Nat) (a:Int),Ks f a (k+1)=(Ks f a k).bind f
 |0,a=>by
  show (f a).bind (fun b=>some b)=f a
  simp
 |k+1,a=>by
  show (f a).bind (fun b=>Ks f b (k+1))=((f a).bind fun b=>Ks f b k).bind f
  cases h:f a with
  |none=>rfl
  |some b=>exact ZkU f k b
theorem ZkL{f:Int->Option Int}{a:Int}(h:JP f a):∀k,Ks f a (k+1)≠some a:=by
 induction h with
 |stop c=>intro k d;simp [Ks,c]at d
 | @step a b c i g=>
   intro k d;have e:Ks f b k=some a:=by simpa [Ks,c] using d
   refine g k ?_;rw[ZkU,e]
   grind
theorem few:∀(i:Nat) (l:List Nat),l.Nodup->(∀j∈l,j<i)->l.length<=i
 |0,l,_,h=>by
  cases l with
  |nil=>simp
  |cons a t=>exact absurd (h a (by simp)) (by omega)
 |i+1,l,b,h=>by
  have c:=few i (l.erase i) (b.erase i) (by grind)
  grind
def nx(from_ to_:Nat->Int)(st:Nat->Bool):Nat->Int->Option Int
 |0,_=>none
 |i+1,a=>if st i=true/\from_ i=a then some (to_ i) else nx from_ to_ st i a
variable {from_ to_:Nat->Int}{st:Nat->Bool}
theorem Zci:∀{i:Nat}{a b:Int},nx from_ to_ st i a=some b->∃j,j<i/\st j=true/\from_ j=a/\to_ j=b
 |0,a,b,h=>by cases h
 |i+1,a,b,h=>by
  unfold nx at h;split at h
  ·grind
  ·obtain⟨j,c,d⟩:=Zci h
   grind
theorem ZgX:∀{i:Nat}{a:Int},nx from_ to_ st i a=none->∀j,j<i->st j=true->from_ j≠a
 |0,a,_,j,b,_=>by omega
 |i+1,a,h,j,b,d=>by
  unfold nx at h;split at h
  ·cases h
  ·next e=>
   by_cases c:j=i
   ·grind
   ·exact ZgX h j (by omega) d
theorem Zk7{i:Nat} :∀(k:Nat) (a c:Int),JP (nx from_ to_ st i) a->Ks (nx from_ to_ st i) a k=some c->
 ∃l:List Nat,l.length=k/\l.Nodup/\ ∀j∈l,j<i/\ ∃t,Ks (nx from_ to_ st i) a t=some (from_ j)
 |0,_,_,_,_=>⟨[],rfl,List.nodup_nil,by simp⟩
 |k+1,a,c,p,h=>by
  cases d:nx from_ to_ st i a with
  |none=>simp [Ks,d]at h
  |some b=>
   have q:Ks (nx from_ to_ st i) b k=some c:=by simpa [Ks,d] using h
   obtain⟨l,y,r,o⟩:=Zk7 k b c (p.next d) q
   obtain⟨j,g,u,e,v⟩:=Zci d;refine⟨j::l,by grind,List.nodup_cons.2 ⟨fun w=>?_,r⟩,fun x m=>?_⟩
   ·obtain⟨_,t,f⟩:=o j w;rw[e]at f;refine ZkL p t ?_;simpa [Ks,d] using f
   ·rcases Vua.1 m with rfl|m
    ·exact⟨g,0,by rw[e];rfl⟩
    ·obtain⟨s,t,f⟩:=o x m;exact⟨s,t+1,by simpa [Ks,d] using f⟩
theorem Zsl{i k:Nat}{a c:Int}(d:JP (nx from_ to_ st i) a)(h:Ks (nx from_ to_ st i) a k=some c):k<=i:=by obtain⟨l,e,b,f⟩:=Zk7 k a c d h;have:=few i l b (by grind);omega
theorem Zqb{f g:Int->Option Int}{fr:Int}(m:∀a,a≠fr->g a=f a){a:Int}(h:JP f a)(c:∀k,Ks f a k≠some fr):JP g a:=by
 induction h with
 | @stop a d=>
   have:a≠fr:=fun e=>c 0 (by rw[e];rfl)
   exact .stop (by grind)
 | @step a b d l j=>
   have:a≠fr:=fun e=>c 0 (by rw[e];rfl);refine .step (by grind) (j fun k i=>c (k+1) ?_);simpa [Ks,d] using i
theorem Zqa{f g:Int->Option Int}{fr to:Int}(l:∀a,a≠fr->g a=f a)(c:g fr=some to)(d:JP g to){a:Int}(h:JP f a):JP g a:=by
 induction h with
 | @stop a i=>
   by_cases e:a=fr
   ·subst e;exact .step c d
   ·exact .stop (by grind)
 | @step a b i k j=>
   by_cases e:a=fr
   ·subst e;exact .step c d
   ·exact .step (by grind) j
theorem Zqc{i:Nat}(h:∀a,JP (nx from_ to_ st i) a)(f:st i=true->to_ i≠from_ i/\ ∀k,Ks (nx from_ to_ st i) (to_ i) (k+1)≠some (from_ i))(a:Int):JP (nx from_ to_ st (i+1)) a:=by
 by_cases c:st i=true
 ·obtain⟨d,g⟩:=f c;have b:∀a,a≠from_ i->nx from_ to_ st (i+1) a=nx from_ to_ st i a:=fun a j=>Zf (by omega);refine Zqa b (Zr ⟨c,rfl⟩) (Zqb b (h _) fun k=>?_) (h a)
  cases k with
  |zero=>exact fun e=>d (Option.some.inj e)
  |succ k=>grind
 ·have:nx from_ to_ st (i+1)=nx from_ to_ st i:=funext fun a=>Zf (by grind)
  grind
theorem Zqd(a:Int):JP (nx from_ to_ st 0) a:=.stop rfl
theorem Zrt{f:Int->Option Int}{m:List (Int×Int)}(j:∀a,ZK (Zj Y3) a m=f a){a fr:Int}(e:JP f a):F79 m a fr=some (m, @decide (∃k,Ks f a (k+1)=some fr) (Classical.propDecidable _)):=by
 classical
 unfold F79
 have key:∀a,JP f a->run (fun s0:Int×Bool=>
       bif s0.snd then
        bif decide (s0.fst=fr) then some (Sum.inr (Sum.inr true))
        else some (Sum.inl (Ve (ZK (Zj Y3) s0.fst m) ((0:Int)),Vja (ZK (Zj Y3) s0.fst m)))
       else some (Sum.inr (Sum.inl ())))
  (Ve (ZK (Zj Y3) a m) ((0:Int)),Vja (ZK (Zj Y3) a m))=some (if∃k,Ks f a (k+1)=some fr then Sum.inr true else Sum.inl ()):=by
  intro a e
  induction e with
  | @stop a c=>
    rw[j a,c,Zf (by rintro ⟨k,d⟩;simp [Ks,c]at d)]
    rfl
  | @step a b c o l=>
    rw[j a,c];by_cases g:b=fr
    ·rw[Zr ⟨0,by simp [Ks,c,g]⟩];exact YC (by grind)
    ·rw[Ho (s' :=(Ve (ZK (Zj Y3) b m) ((0:Int)),Vja (ZK (Zj Y3) b m))) (by grind),l]
     have i:(∃k,Ks f b (k+1)=some fr)↔∃k,Ks f a (k+1)=some fr:=by
      refine⟨fun⟨k,d⟩=>⟨k+1,by simpa [Ks,c] using d⟩,fun⟨k,d⟩=>?_⟩
      cases k with
      |zero=>exact absurd (by simpa [Ks,c] using d) g
      |succ k=>exact⟨k,by simpa [Ks,c] using d⟩
     simp_all
 refine(congrArg (Vb · _) (key a e)).trans ?_;by_cases h:∃k,Ks f a (k+1)=some fr
 all_goals grind
end Q
namespace Q
open Tr Go
theorem ZlQ{σ τ:Type}{step:σ->Option (σ ⊕ τ)}{n:Nat}(a:Nat->σ->Prop)(chk:Nat->Int)(R:Nat->τ)(E:τ)
 (b:∀i s,i<n->(∀j,j<i->chk j=0)->a i s->(chk i=0/\ ∃s',step s=some (.inl s')/\a (i+1) s')\/(chk i≠0/\step s=some (.inr (R i))))
 (c:∀s,a n s->step s=some (.inr E)) (s:σ) (d:a 0 s):run step s=some (pick n chk R E):=by
 refine J3 (fun i s=>a i s/\ ∀j,j<i->chk j=0) chk R E ?_ ?_ (by grind) s (by grind)
 all_goals grind
def l0:HS:=(0,0,0,0,false,())
def lk(n:Zg)(j:Nat):HS:=(n.2.2.2.1[j]?).getD l0
def rn(n:Zg)(a:Int):Y7:=(n.2.2.1[a.toNat]?).getD u0
def cl(l:List Wv)(a:Int):Wv:=(l[a.toNat]?).getD c0
def Kz(x:Int)(m:Nat):Bool:=decide (0<=x) &&decide (x<(m:Int))
def KW(n:Zg)(i:Nat):Int->Option Int:=nx (fun j=>(lk n j).1) (fun j=>(lk n j).2.2.1) (fun j=>(lk n j).2.2.2.2.1) i
abbrev ZhW:=List Int
def JN(x:HS):ZhW:=[x.1,x.2.1,x.2.2.1,x.2.2.2.1]
theorem Zuu(x:Int)(m:Nat):F81 x (m:Int)=some (Kz x m):=by
 unfold F81 Kz
 grind
theorem Xu{α:Type}{l:List α}{x:Int}(h:Kz x l.length=true)(d:α):idx l x=some ((l[x.toNat]?).getD d):=by
 unfold Kz at h;simp only[Vs,WC]at h;have e:x=(x.toNat:Int):=by omega
 have a:x.toNat<l.length:=by omega
 rw[e,ZI a,Vr,Kr a]
def YO(n:Zg)(x:HS):Bool:= !Kz x.1 n.2.2.1.length|| (!Kz x.2.2.1 n.2.2.1.length||decide (x.1=x.2.2.1))
def HB(n:Zg)(x:HS):Bool:= !Kz x.2.1 (rn n x.1).2.2.2.2.2.2.2.1.length|| !Kz x.2.2.2.1 (rn n x.2.2.1).2.2.2.2.2.2.2.1.length
open Classical in
noncomputable def WF(n:Zg)(i:Nat):Int:=
 let x:=lk n i
 if YO n x=true then 9 else if HB n x=true then 9
 else if¬(cl (rn n x.1).2.2.2.2.2.2.2.1 x.2.1).1=(cl (rn n x.2.2.1).2.2.2.2.2.2.2.1 x.2.2.2.1).1 then 13
 else if x.2.2.2.2.1=true/\ ¬x.2.1+1=((rn n x.1).2.2.2.2.2.2.2.1.length:Int) then 19
 else if x.2.2.2.2.1=true/\ ¬x.2.2.2.1=0 then 19
 else if x.2.2.2.2.1=true/\ ∃j,j<i/\(lk n j).2.2.2.2.1=true/\((lk n j).1=x.1\/(lk n j).2.2.1=x.2.2.1) then 19
 else if x.2.2.2.2.1=true/\ ∃k,Ks (KW n i) x.2.2.1 (k+1)=some x.1 then 19
 else if∃j,j<i/\JN (lk n j)=JN x then 6 else 0
theorem RO{n:Zg}{i:Nat}(h:WF n i=0):YO n (lk n i)=false/\HB n (lk n i)=false/\((lk n i).2.2.2.2.1=true->
 (¬∃j,j<i/\(lk n j).2.2.2.2.1=true/\((lk n j).1=(lk n i).1\/(lk n j).2.2.1=(lk n i).2.2.1))/\ ¬∃k,Ks (KW n i) (lk n i).2.2.1 (k+1)=some (lk n i).1):=by
 unfold WF at h;simp only at h;by_cases a:YO n (lk n i)=true
 ·grind
 rw[Zf a]at h;by_cases b:HB n (lk n i)=true
 ·grind
 rw[Zf b]at h;refine⟨by grind,by grind,fun c=>?_⟩
 repeat (split at h; · omega)
 grind
theorem ZdH{n:Zg} :∀{i:Nat},(∀j,j<i->WF n j=0)->∀a,JP (KW n i) a
 |0,_,a=>Zqd a
 |i+1,h,a=>by
  obtain⟨b,_,c⟩:=RO (h i (by omega));refine Zqc (ZdH (by grind)) (fun f=>⟨fun e=>?_,fun k d=>(c f).2 ⟨k,d⟩⟩) a;unfold YO at b
  grind
theorem ZqR{n:Zg}{j:Nat}(h:WF n j=0):0<=(lk n j).1:=by
 obtain⟨a,_⟩:=RO h;unfold YO Kz at a
 grind
end Q
namespace Q
open Tr Go
noncomputable def Zd5(n:Zg):Int×Int×Int×Unit:=if 1024<n.2.2.2.1.length then(3,0,5,()) else pick n.2.2.2.1.length (WF n) (fun i=>(3,(i:Int),WF n i,())) (0,0,0,())
theorem Za2{n:Zg}{a:Int}(h:Kz a n.2.2.1.length=true):rn n a∈n.2.2.1:=by
 unfold Kz at h;simp only[Vs,WC]at h;have b:a.toNat<n.2.2.1.length:=by omega
 unfold rn
 grind
def LSt(n:Zg)(i:Nat)(s:(Int×Int×Int×Unit) ×List (Int×Int) ×List (Int×Bool) ×List (ZhW×Bool) ×Int):Prop:=
 ∃d c e,s=((0,0,0,()),d,c,e,(i:Int))/\(∀a,ZK (Zj Y3) a d=KW n i a)/\(∀b,Ve (ZK (Zj Y3) b c) false=true↔∃j,j<i/\(lk n j).2.2.2.2.1=true/\(lk n j).2.2.1=b)
  /\WI (t:=Xo) (fun j=>JN (lk n j)) i e
theorem ZkN{n:Zg}{i:Nat}{a:Int} :(KW n i a).isSome=true↔∃j,j<i/\(lk n j).2.2.2.2.1=true/\(lk n j).1=a:=by
 cases h:KW n i a with
 |none=>
  refine⟨by simp,fun⟨j,c,d,e⟩=>absurd e (ZgX h j c d)⟩
 |some b=>
  obtain⟨j,c,d,e,_⟩:=Zci h
  grind
theorem ZrK(n:Zg)(P:∀x∈n.2.2.1,x.2.2.2.2.2.2.2.1.length<=9223372036854775807):F68 n=some (Zd5 n):=by
 unfold F68 Zd5 F80;by_cases u:1024<n.2.2.2.1.length
 ·grind
 rw[Zf u,Zv (by omega)];simp only[Ze];have C:n.2.2.2.1.length<=9223372036854775807:=by omega
 rw[ZlQ (n:=n.2.2.2.1.length) (LSt n) (WF n) (fun i=>.inr (3,(i:Int),WF n i,())) (.inl (0,0,0,())) ?_ ?_ ((0,0,0,()),[],[],[],(0:Int))
  ⟨[],[],[],rfl,fun _=>rfl,fun b=>⟨fun h=>(nomatch h),by omega⟩,WI.nil _⟩]
 ·unfold pick
  grind
 ·rintro i _ q R ⟨A,s,f,rfl,v,W,m⟩;have U:n.2.2.2.1[i]=lk n i:=(Kr q l0).symm;simp only[ZV q,Zc,ZI q,Za,U,Zuu];have c:WF n i=WF n i:=rfl
  conv at c=>rhs;unfold WF
  simp only at c;generalize E:lk n i=x at c⊢;by_cases g:YO n x=true
  ·rw[Zr g]at c;refine .inr ⟨by omega,?_⟩;rw[c];unfold YO at g
   grind
  rw[Zf g]at c;unfold YO at g;simp only[Vn,Vk,Vca]at g;obtain⟨B,F,V⟩:=g;have L:idx n.2.2.1 x.1=some (rn n x.1):=Xu B u0;have M:idx n.2.2.1 x.2.2.1=some (rn n x.2.2.1):=Xu F u0;simp only[B,F,V,Vc,Ze,Za,L,M];by_cases l:HB n x=true
  ·rw[Zr l]at c;refine .inr ⟨by omega,?_⟩;rw[c];unfold HB at l
   grind
  rw[Zf l]at c;unfold HB at l;simp only[Vn,Vk,Vca]at l;obtain⟨w,G⟩:=l;have N:idx (rn n x.1).2.2.2.2.2.2.2.1 x.2.1=some (cl (rn n x.1).2.2.2.2.2.2.2.1 x.2.1):=Xu w c0;have O:idx (rn n x.2.2.1).2.2.2.2.2.2.2.1 x.2.2.2.1=some (cl (rn n x.2.2.1).2.2.2.2.2.2.2.1 x.2.2.2.1):=Xu G c0;simp only[w,G,Vc,Ze,Za,N,O];by_cases H:(cl (rn n x.1).2.2.2.2.2.2.2.1 x.2.1).1=(cl (rn n x.2.2.1).2.2.2.2.2.2.2.1 x.2.2.2.1).1
  case neg=>
   grind
  rw[Zf (by omega)]at c;simp only[Zi H,Vc,Ze];by_cases D:x.2.2.2.2.1=true
  ·simp only[D,true_and,Zc]at c⊢
   have T:Va .i64 (x.2.1+1)=x.2.1+1:=by have z:=P _ (Za2 B);unfold Kz at w;simp only[Vs,WC]at w;exact Z1 (by omega) (by omega)
   rw[T];by_cases I:x.2.1+1=((rn n x.1).2.2.2.2.2.2.2.1.length:Int)
   case neg=>
    grind
   rw[Zf (by omega)]at c;simp only[Zi I,Vc,Ze];by_cases J:x.2.2.2.1=0
   case neg=>
    grind
   rw[Zf (by omega)]at c;simp only[Zi J,Vc,Ze,v,Zrt v (ZdH R x.2.2.1),Za];by_cases y:∃j,j<i/\(lk n j).2.2.2.2.1=true/\((lk n j).1=x.1\/(lk n j).2.2.1=x.2.2.1)
   ·rw[Zr y]at c;refine .inr ⟨by omega,?_⟩;rw[c];by_cases e:(KW n i x.1).isSome=true
    ·grind
    ·have o:Ve (ZK (Zj Y3) x.2.2.1 s) false=true:=by
      obtain⟨j,u,z,p⟩:=y;rcases p with p|p
      ·exact absurd (ZkN.2 ⟨j,u,z,p⟩) e
      grind
     grind
   rw[Zf y]at c
   have e:(KW n i x.1).isSome=false:=by
    cases S:(KW n i x.1).isSome with
    |false=>rfl
    |true=>obtain⟨j,u,z,p⟩:=ZkN.1 S;grind
   have o:Ve (ZK (Zj Y3) x.2.2.1 s) false=false:=by
    grind
   simp only[e,o,Ze];by_cases K:∃k,Ks (KW n i) x.2.2.1 (k+1)=some x.1
   ·grind
   rw[Zf (by grind)]at c;simp only[@decide_eq_false _ (Classical.propDecidable _) K,Ze];by_cases d:∃j,j<i/\JN (lk n j)=JN x
   ·rw[Zr d]at c;refine .inr ⟨by omega,?_⟩;rw[c];rw[show Ve (ZK (Zj Xo) [x.1,x.2.1,x.2.2.1,x.2.2.2.1] f) false=true from (m _).2 d];rfl
   rw[Zf d]at c;refine .inl ⟨c,_,?_,Kh (Zj Y3) x.1 x.2.2.1 A,Kh (Zj Y3) x.2.2.1 true s,Kh (Zj Xo) (JN x) true f,rfl,?_,?_,?_⟩
   ·rw[show Ve (ZK (Zj Xo) [x.1,x.2.1,x.2.2.1,x.2.2.2.1] f) false=false from Dt m d];simp only[Ze,Ka q C];rfl
   ·intro a;rw[Rl rfl,v];show _=nx _ _ _ (i+1) a;unfold nx;simp only[E,D,true_and];by_cases Q:a=x.1
    ·grind
    ·rw[Zf Q,Zf (by grind)];rfl
   ·intro b;rw[Rl rfl]
    grind
   ·have:=WI.add (t:=Xo) rfl m
    grind
  ·have r:x.2.2.2.2.1=false:=by grind
   simp only[r,Vga,false_and,if_false,Ze]at c⊢;by_cases d:∃j,j<i/\JN (lk n j)=JN x
   ·rw[Zr d]at c;refine .inr ⟨by omega,?_⟩;rw[c];rw[show Ve (ZK (Zj Xo) [x.1,x.2.1,x.2.2.1,x.2.2.2.1] f) false=true from (m _).2 d];rfl
   rw[Zf d]at c;refine .inl ⟨c,_,?_,A,s,Kh (Zj Xo) (JN x) true f,rfl,?_,?_,?_⟩
   ·rw[show Ve (ZK (Zj Xo) [x.1,x.2.1,x.2.2.1,x.2.2.2.1] f) false=false from Dt m d];simp only[Ze,Ka q C];rfl
   ·intro a;rw[v];show _=nx _ _ _ (i+1) a;unfold nx;simp only[E,r,Vga,false_and,if_false];rfl
   ·grind
   ·have:=WI.add (t:=Xo) rfl m
    grind
 ·rintro _ ⟨A,s,f,rfl,_⟩;simp
end Q
namespace Q
open Tr Go
theorem ZdX(x:Int){m:Nat}(b:m<=9223372036854775807):F127 x 0 (Va .i64 ((m:Int) - 1))=some (Kz x m):=by
 rw[YT,Z1 (by omega) (by omega)];unfold Kz;by_cases a:0<=x
 all_goals grind
theorem Zro(n:Zg){i:Nat}(o:i<=n.2.2.2.1.length)(l:n.2.2.2.1.length<=9223372036854775807)(a:Int):
 run (fun b:Int×Int=>
          bif decide (b.snd<(i:Int)) then
           Vb
            (Vb (idx n.snd.snd.snd.fst b.snd) fun d=>
              bif d.snd.snd.snd.snd.fst then Vb (idx n.snd.snd.snd.fst b.snd) fun e=>some (decide (e.fst=a)) else some false)
            fun f=>
            bif f then Vb (idx n.snd.snd.snd.fst b.snd) fun g=>some (Sum.inl (g.snd.snd.fst,Va .i64 (b.snd+(1:Int))))
            else some (Sum.inl (b.fst,Va .i64 (b.snd+(1:Int))))
          else some (Sum.inr b.fst))
       ((-1:Int),(0:Int))=some ((KW n i a).getD (-1)):=by
 have h:=J3 (n:=i) (fun j (st:Int×Int)=>st=((KW n j a).getD (-1),(j:Int))) (fun _=>0) (fun _=>(KW n i a).getD (-1)) ((KW n i a).getD (-1)) (step:=fun b:Int×Int=>
          bif decide (b.snd<(i:Int)) then
           Vb
            (Vb (idx n.snd.snd.snd.fst b.snd) fun d=>
              bif d.snd.snd.snd.snd.fst then Vb (idx n.snd.snd.snd.fst b.snd) fun e=>some (decide (e.fst=a)) else some false)
            fun f=>
            bif f then Vb (idx n.snd.snd.snd.fst b.snd) fun g=>some (Sum.inl (g.snd.snd.fst,Va .i64 (b.snd+(1:Int))))
            else some (Sum.inl (b.fst,Va .i64 (b.snd+(1:Int))))
          else some (Sum.inr b.fst)) ?_ ?_ ?_ ((-1:Int),(0:Int)) rfl
 ·rw[h];unfold pick
  grind
 ·rintro j _ k rfl _;have c:j<n.2.2.2.1.length:=by omega
  have m:n.2.2.2.1[j]=lk n j:=(Kr c l0).symm;refine⟨((KW n (j+1) a).getD (-1),((j+1:Nat):Int)),?_,rfl⟩;simp only[ZV k,Zc,ZI c,Za,m,Ka c l]
  have p:KW n (j+1) a=if (lk n j).2.2.2.2.1=true/\(lk n j).1=a then some (lk n j).2.2.1 else KW n j a:=rfl
  grind
 all_goals simp
theorem Zrs(n:Zg){i:Nat}(u:i<=n.2.2.2.1.length)(E:n.2.2.2.1.length<=9223372036854775806)(p:∀j,j<i->WF n j=0)(to fr:Int)(s:0<=fr):
 F128 n (i:Int) to fr=some (@decide (∃k,Ks (KW n i) to (k+1)=some fr) (Classical.propDecidable _)):=by
 classical
 unfold F128
 have f:KW n i (-1)=none:=by
  cases h:KW n i (-1) with
  |none=>rfl
  |some b=>
   obtain⟨j,l,C,D,_⟩:=Zci h;have:=ZqR (p j l);omega
 have m:=Zro n u (by omega)
 have key:∀(r k:Nat) (a:Int),i+1 - k=r->k<=i+1->run (fun s0:Int×Int=>
       bif decide (s0.snd<=(i:Int)) then
        Vb
         (run
           (fun c=>
             bif decide (c.snd<(i:Int)) then
              Vb
               (Vb (idx n.snd.snd.snd.fst c.snd) fun y=>
                 bif y.snd.snd.snd.snd.fst then Vb (idx n.snd.snd.snd.fst c.snd) fun z=>some (decide (z.fst=s0.fst)) else some false)
               fun A=>
               bif A then Vb (idx n.snd.snd.snd.fst c.snd) fun B=>some (Sum.inl (B.snd.snd.fst,Va .i64 (c.snd+(1:Int))))
               else some (Sum.inl (c.fst,Va .i64 (c.snd+(1:Int))))
             else some (Sum.inr c.fst))
           ((-1:Int),(0:Int)))
         fun q=>bif decide (q=fr) then some (Sum.inr (Sum.inr true)) else some (Sum.inl (q,Va .i64 (s0.snd+(1:Int))))
       else some (Sum.inr (Sum.inl ())))
  (a,(k:Int))=some (if∃t,k+t<=i/\Ks (KW n i) a (t+1)=some fr then Sum.inr true else Sum.inl ()):=by
  intro r
  induction r with
  |zero=>
   intro k a w v;rw[Zf (by omega)]
   exact YC (by grind)
  |succ r x=>
   intro k a w v;have F:Va .i64 ((k:Int)+1)=((k+1:Nat):Int):=by rw[Z1 (by omega) (by omega)];omega
   by_cases o:(KW n i a).getD (-1)=fr
   ·have:KW n i a=some fr:=by
     cases h:KW n i a with
     |none=>grind
     |some b=>grind
    rw[Zr ⟨0,by omega,by simp [Ks,this]⟩];refine YC ?_
    grind
   ·rw[Ho (s' :=((KW n i a).getD (-1),((k+1:Nat):Int))) (by
     grind),x (k+1) _ (by omega) (by omega)]
    have e:(∃t,k+1+t<=i/\Ks (KW n i) ((KW n i a).getD (-1)) (t+1)=some fr)↔∃t,k+t<=i/\Ks (KW n i) a (t+1)=some fr:=by
     cases h:KW n i a with
     |none=>
      refine⟨fun⟨t,_,d⟩=>?_,fun⟨t,_,d⟩=>?_⟩
      ·simp [Ks,f]at d
      ·simp [Ks,h]at d
     |some b=>
      refine⟨fun⟨t,l,d⟩=>⟨t+1,by omega,?_⟩,fun⟨t,l,d⟩=>?_⟩
      ·show (KW n i a).bind (fun b=>Ks (KW n i) b (t+1))=_
       grind
      ·have g:(KW n i a).bind (fun b=>Ks (KW n i) b t)=some fr:=d;rw[h]at g
       cases t with
       |zero=>rw[h]at o;exact absurd (Option.some.inj g) o
       |succ t=>grind
    simp_all
 refine(congrArg (Vb · _) (key _ 0 to rfl (by omega))).trans ?_
 have e:(∃t,0+t<=i/\Ks (KW n i) to (t+1)=some fr)↔∃k,Ks (KW n i) to (k+1)=some fr:=by refine⟨by grind,fun⟨t,h⟩=>⟨t,?_,h⟩⟩;have:=Zsl (ZdH p to) h;omega
 by_cases h:∃k,Ks (KW n i) to (k+1)=some fr
 all_goals grind
end Q
namespace Q
open Tr Go
theorem Zgb{τ:Type}{step:Int->Option (Int ⊕ τ)}{i:Nat}{p:Nat->Prop}{R E:τ}(c:∀j:Nat,j<i->¬p j->step (j:Int)=some (.inl ((j+1:Nat):Int)))(b:∀j:Nat,j<i->p j->step (j:Int)=some (.inr R))
 (a:step (i:Int)=some (.inr E)):run step (0:Int)=some (@ite _ (∃j,j<i/\p j) (Classical.propDecidable _) R E):=by
 classical
 obtain⟨d,e⟩:=ZbQ c b a;by_cases h:∃j,j<i/\p j
 all_goals grind
theorem ZrI(n:Zg){i:Nat}(w:i<n.2.2.2.1.length)(W:n.2.2.2.1.length<=9223372036854775806)(Y:n.2.2.1.length<=9223372036854775807)
 (D:∀x∈n.2.2.1,x.2.2.2.2.2.2.2.1.length<=9223372036854775807) (V:∀j,j<i->WF n j=0):F129 n (i:Int)=some (WF n i):=by
 classical
 unfold F129;have hx:n.2.2.2.1[i]=lk n i:=(Kr w l0).symm;have X:n.2.2.2.1.length<=9223372036854775807:=by omega
 simp only[ZI w,Za,hx,ZdX _ Y];have c:WF n i=WF n i:=rfl
 conv at c=>rhs;unfold WF
 simp only at c;generalize hy:lk n i=x at c⊢;by_cases s:YO n x=true
 ·rw[Zr s]at c;rw[c];unfold YO at s
  grind
 rw[Zf s]at c;unfold YO at s;simp only[Vn,Vk,Vca]at s;obtain⟨u,z,p3⟩:=s;have Q:idx n.2.2.1 x.1=some (rn n x.1):=Xu u u0;have S:idx n.2.2.1 x.2.2.1=some (rn n x.2.2.1):=Xu z u0;have K:=D _ (Za2 u);have L:=D _ (Za2 z);simp only[u,z,p3,Vc,Ze,Za,Q,S,ZdX _ K,ZdX _ L];by_cases t:HB n x=true
 ·rw[Zr t]at c;rw[c];unfold HB at t
  grind
 rw[Zf t]at c;unfold HB at t;simp only[Vn,Vk,Vca]at t;obtain⟨F,G⟩:=t;have T:idx (rn n x.1).2.2.2.2.2.2.2.1 x.2.1=some (cl (rn n x.1).2.2.2.2.2.2.2.1 x.2.1):=Xu F c0;have U:idx (rn n x.2.2.1).2.2.2.2.2.2.2.1 x.2.2.2.1=some (cl (rn n x.2.2.1).2.2.2.2.2.2.2.1 x.2.2.2.1):=Xu G c0;simp only[F,G,Vc,Ze,Za,T,U];by_cases H:(cl (rn n x.1).2.2.2.2.2.2.2.1 x.2.1).1=(cl (rn n x.2.2.1).2.2.2.2.2.2.2.1 x.2.2.2.1).1
 case neg=>
  grind
 rw[Zf (by omega)]at c;simp only[Zi H,Vc,Ze];have hw:Va .i64 (((rn n x.1).2.2.2.2.2.2.2.1.length:Int) - 1)=((rn n x.1).2.2.2.2.2.2.2.1.length:Int) - 1:=Z1 (by omega) (by omega)
 have f:=Zgb (i:=i) (p:=fun j=>JN (lk n j)=JN x) (τ:=Unit ⊕ Int) (R:=.inr 6) (E:=.inl ()) (step:=fun o:Int=>
                         bif decide (o<(i:Int)) then
                             Vb (idx n.snd.snd.snd.fst o) fun m=>
                              Vb
                               (bif decide (m.fst=x.fst) then
                                 bif decide (m.snd.fst=x.snd.fst) then
                                  bif decide (m.snd.snd.fst=x.snd.snd.fst) then some (decide (m.snd.snd.snd.fst=x.snd.snd.snd.fst))
                                  else some false
                                 else some false
                               else some false)
                               fun A=>bif A then some (Sum.inr (Sum.inr (6:Int))) else some (Sum.inl (Va .i64 (o+(1:Int))))
                          else some (Sum.inr (Sum.inl ()))) (fun j b g=>by
  have a:j<n.2.2.2.1.length:=by omega
  have d:n.2.2.2.1[j]=lk n j:=(Kr a l0).symm;simp only[ZV b,Zc,ZI a,Za,d,Ka b (by omega)];by_cases M:(lk n j).1=x.1
  ·rw[Zi M];by_cases N:(lk n j).2.1=x.2.1
   ·rw[Zi N];by_cases O:(lk n j).2.2.1=x.2.2.1
    ·rw[Zi O];have P:¬(lk n j).2.2.2.1=x.2.2.2.1:=fun P=>g (by unfold JN;grind)
     grind
    grind
   grind
  grind) (fun j b g=>by
  have a:j<n.2.2.2.1.length:=by omega
  have d:n.2.2.2.1[j]=lk n j:=(Kr a l0).symm;unfold JN at g;simp only[List.cons.injEq,and_true]at g;simp only[ZV b,Zc,ZI a,Za,d,Zi g.1,Zi g.2.1,Zi g.2.2.1,Zi g.2.2.2]) (by simp)
 by_cases Z:x.2.2.2.2.1=true
 ·simp only[Z,true_and,Zc,hw]at c f⊢;by_cases b4:x.2.1+1=((rn n x.1).2.2.2.2.2.2.2.1.length:Int)
  case neg=>
   grind
  rw[Zf (by omega)]at c;simp only[Zi (show x.2.1=((rn n x.1).2.2.2.2.2.2.2.1.length:Int) - 1 by omega),Vc,Ze,Za];by_cases I:x.2.2.2.1=0
  case neg=>
   grind
  rw[Zf (by omega)]at c
  have v:0<=x.1:=by
   unfold Kz at u
   grind
  have l:=Zgb (i:=i) (p:=fun j=>(lk n j).2.2.2.2.1=true/\((lk n j).1=x.1\/(lk n j).2.2.1=x.2.2.1)) (τ:=Unit ⊕ Int) (R:=.inr 19) (E:=.inl ()) (step:=fun e:Int=>
                  bif decide (e<(i:Int)) then
                   Vb (idx n.snd.snd.snd.fst e) fun q=>
                    Vb
                     (
                      bif q.snd.snd.snd.snd.fst then
                       bif decide (q.fst=x.fst) then some true else some (decide (q.snd.snd.fst=x.snd.snd.fst))
                      else some false)
                     fun r=>bif r then some (Sum.inr (Sum.inr (19:Int))) else some (Sum.inl (Va .i64 (e+(1:Int))))
                  else some (Sum.inr (Sum.inl ()))) (fun j b g=>by
   have a:j<n.2.2.2.1.length:=by omega
   have d:n.2.2.2.1[j]=lk n j:=(Kr a l0).symm;simp only[ZV b,Zc,ZI a,Za,d,Ka b (by omega)]
   grind) (fun j b g=>by
   have a:j<n.2.2.2.1.length:=by omega
   have d:n.2.2.2.1[j]=lk n j:=(Kr a l0).symm;simp only[ZV b,Zc,ZI a,Za,d,g.1]
   grind) (by simp)
  simp only[Zi I,Vc,Ze];refine(congrArg (Vb · _) l).trans ?_;simp only[Za];by_cases B:∃j,j<i/\(lk n j).2.2.2.2.1=true/\((lk n j).1=x.1\/(lk n j).2.2.1=x.2.2.1)
  ·grind
  rw[Zf B]at c;rw[Zf B];simp only[Vj,Zrs n (Nat.le_of_lt w) W V x.2.2.1 x.1 v,Za];by_cases C:∃k,Ks (KW n i) x.2.2.1 (k+1)=some x.1
  ·grind
  rw[Zf C]at c;rw[Zv C];simp only[Ze];refine(congrArg (Vb · _) f).trans ?_;rw[c];by_cases J:∃j,j<i/\JN (lk n j)=JN x
  all_goals grind
 ·have y:x.2.2.2.2.1=false:=by grind
  have h:=Zgb (i:=i) (p:=fun _=>False) (τ:=Unit ⊕ Int) (R:=.inr 19) (E:=.inl ()) (step:=fun e:Int=>
                    bif decide (e<(i:Int)) then
                     Vb (idx n.snd.snd.snd.fst e) fun _=>
                      Vb
                       (some false)
                       fun r=>bif r then some (Sum.inr (Sum.inr (19:Int))) else some (Sum.inl (Va .i64 (e+(1:Int))))
                    else some (Sum.inr (Sum.inl ()))) (fun j b _=>by
   have a:j<n.2.2.2.1.length:=by omega
   simp only[ZV b,Zc,ZI a,Za,Ze,Ka b (by omega)]) (by simp) (by simp)
  rw[Zf (by simp)]at h;simp only[y,Vga,false_and,if_false,Ze,Za]at c h f⊢;refine(congrArg (Vb · _) h).trans ?_;simp only[Za,Vj];refine(congrArg (Vb · _) f).trans ?_;rw[c];by_cases J:∃j,j<i/\JN (lk n j)=JN x
  all_goals grind
end Q
namespace Q
open Tr Go
abbrev Ze6:=Int×Int×Int×Unit
def RW(a b:Ze6):Ze6:=if a.2.2.1=0 then b else a
theorem ZjK(a b:El KD):F71 [a,b]=some (RW a (RW b (0,0,0,()))):=by
 revert a b
 show∀a b:Ze6,F71 [a,b]=some (RW a (RW b (0,0,0,())));intro a b;unfold F71 RW;by_cases c:a.2.2.1=0
 ·rw[Zr c];by_cases d:b.2.2.1=0
  ·rw[Zr d,Ho (s' :=((0,0,0,()),(1:Int))) (by simp [idx,c,Va,Vq,Vt]),Ho (s' :=((0,0,0,()),(2:Int))) (by simp [idx,d,Va,Vq,Vt]),YC (r:=.inl (0,0,0,())) (by simp)];rfl
  ·rw[Zf d,Ho (s' :=((0,0,0,()),(1:Int))) (by simp [idx,c,Va,Vq,Vt]),YC (r:=.inr b) (by simp [idx,d])];rfl
 ·rw[Zf c,YC (r:=.inr a) (by simp [idx,c])];rfl
structure Hu (n:Zg):Prop where
 stops:∀x∈n.1,x.1.length<=9223372036854775807
 routes:∀x∈n.2.1,x.1.length<=9223372036854775807
 runs:∀x∈n.2.2.1,x.2.2.2.1.length<=9223372036854775807
 calls:∀x∈n.2.2.1,x.2.2.2.2.2.2.2.1.length<=9223372036854775807
 paths:n.2.2.2.2.1.length<=4096
 prods:∀x∈n.2.2.2.2.2.1.1,x.1.length<=9223372036854775807
def Zh2(l:List Wv):Prop:= ∀i (a:i<l.length),0<=l[i].2.1/\l[i].2.1<=l[i].2.2.1/\l[i].2.2.1<=3155932800/\(0<i->(l[i - 1]'(by omega)).1≠l[i].1/\(l[i - 1]'(by omega)).2.2.1<=l[i].2.1)
structure JR (n:Zg):Prop where
 stops:n.1.length<=64
 runs:n.2.2.1.length<=1024
 links:n.2.2.2.1.length<=1024
 zone:∀x∈n.1,0<=x.2.1/\x.2.1<16
 mode:∀x∈n.2.1,0<=x.2.1/\x.2.1<=7
 route:∀x∈n.2.2.1,0<=x.2.2.2.2.1/\x.2.2.2.2.1<(n.2.1.length:Int)
 many:∀x∈n.2.2.1,2<=x.2.2.2.2.2.2.2.1.length/\x.2.2.2.2.2.2.2.1.length<=32
 call:∀x∈n.2.2.1,∀c∈x.2.2.2.2.2.2.2.1,0<=c.1/\c.1<(n.1.length:Int)
 time:∀x∈n.2.2.1,Zh2 x.2.2.2.2.2.2.2.1
 base:∀x∈n.2.2.1, -1<=x.1/\0<=x.2.2.1/\0<=x.2.1/\x.2.1<=36524
 fare:(X5 n.2.2.2.2.2.1).2=0
theorem Zcp{n:Nat}{chk:Nat->Int}{E:Int×Int}(h:(pick n chk (fun i=>((i:Int),chk i)) E).2=0):∀j,j<n->chk j=0:=by
 unfold pick at h
 cases a:Wq n chk with
 |none=>exact WK.1 a
 |some i=>rw[a]at h;exact absurd h (ZaH a).2
theorem ZoE{l:List Wv}{n:Int}(h:Xb l n 0 3155932800=0):Zh2 l:=by
 unfold Xb at h;split at h
 ·omega
 ·intro i e
  have a:Xf l n 0 3155932800 i=0:=by
   unfold pick at h
   cases b:Wq l.length (Xf l n 0 3155932800) with
   |none=>exact WK.1 b i e
   |some i=>rw[b]at h;exact absurd h (ZaH b).2
  unfold Xf at a;split at a
  ·omega
  split at a
  ·omega
  next c=>
   split at a
   ·omega
   next d=>
    unfold ZbI at c;unfold ZbJ at d
    grind
theorem ZiS{l:List Wv}{n lo b:Int}(h:Xb l n lo b=0):(2<=l.length/\l.length<=32)/\ ∀c∈l,0<=c.1/\c.1<n:=by
 unfold Xb at h;split at h
 ·omega
 ·refine⟨by omega,fun c f=>?_⟩;obtain⟨j,g,rfl⟩:=Vi f
  have d:Xf l n lo b j=0:=by
   unfold pick at h
   cases a:Wq l.length (Xf l n lo b) with
   |none=>exact WK.1 a j g
   |some i=>rw[a]at h;exact absurd h (ZaH a).2
  unfold Xf at d;split at d
  ·omega
  ·next e=>
   unfold ZbH at e
   grind
theorem ZtK{n:Zg}(s:(HP n.1).2=0)(t:(Ge n.2.1).2=0)(u:n.2.2.1.length<=1024)(c:Wq n.2.2.1.length (Xy n)=none)(v:n.2.2.2.1.length<=1024)(z:(X5 n.2.2.2.2.2.1).2=0):JR n:=by
 unfold HP at s;unfold Ge at t;split at s
 ·omega
 split at t
 ·omega
 have e:=Zcp s;have f:=Zcp t;have d:=WK.1 c
 have key:∀x∈n.2.2.1,((0<=x.2.2.2.2.1/\x.2.2.2.2.1<(n.2.1.length:Int))/\ -1<=x.1/\0<=x.2.2.1/\0<=x.2.1/\x.2.1<=36524)/\Xb x.2.2.2.2.2.2.2.1 (n.1.length:Int) 0 3155932800=0:=by
  intro x a;obtain⟨j,b,rfl⟩:=Vi a;have h:=d j b;unfold Xy at h
  grind
 refine⟨by omega,u,v,fun x a=>?_,fun x a=>?_,by grind,fun x a=>(ZiS (key x a).2).1,fun x a=>(ZiS (key x a).2).2,fun x a=>ZoE (key x a).2,by grind,z⟩
 ·obtain⟨j,b,rfl⟩:=Vi a;have h:=e j b;unfold HO Yx at h;simp only[Kr b]at h;split at h
  ·omega
  split at h
  all_goals omega
 ·obtain⟨j,b,rfl⟩:=Vi a;have h:=f j b;unfold Gd Yx at h;simp only[Kr b]at h;split at h
  ·omega
  split at h
  all_goals omega
structure Whole (n:Zg):Prop where
 s:(HP n.1).2=0
 t:(Ge n.2.1).2=0
 u:n.2.2.1.length<=1024
 f:Wq n.2.2.1.length (Xy n)=none
 v:n.2.2.2.1.length<=1024
 g:Wq n.2.2.2.1.length (WF n)=none
 q:Wq n.2.2.2.2.1.length (K1 n.1.length n.2.2.2.2.1)=none
 w:∀c,F121 n.2.2.2.2.1 (n.1.length:Int)=some c->Xs c n.2.2.2.2.1=true
 z:(X5 n.2.2.2.2.2.1).2=0
theorem Whole.sound{n:Zg}(h:Whole n):JR n:=ZtK h.s h.t h.u h.f h.v h.z
theorem ZfH(n:Zg)(h:Hu n):∃r:Int×Int×Int,F66 n=some r/\F120 n=some r/\(r.2.2=0↔Whole n):=by
 unfold F66 F120;rw[ZtQ n.1 h.stops,Zs4 n.2.1 h.routes,ZtR n.1,Zs5 n.2.1,Zto n h.runs,ZrK n h.calls,Zgn _ h.prods,Zqn];simp only[Za,F80];erw[ZjK];simp only[Za];by_cases s:(HP n.1).2=0
 case neg=>
  refine⟨(0,(HP n.1).1,(HP n.1).2),?_,?_,⟨by grind,fun W=>absurd W.s s⟩⟩
  ·simp only[RW,Zf s,Zv s,Ze,Za]
  grind
 have y:n.1.length<=64:=by
  unfold HP at s
  grind
 obtain⟨c,d,e,j⟩:=Zsm n y h.paths;rw[e,j];clear e j;simp only[Za];erw[ZjK];simp only[RW,Zr s,Zi s,Vc,Ze,Za];by_cases t:(Ge n.2.1).2=0
 case neg=>
  refine⟨(1,(Ge n.2.1).1,(Ge n.2.1).2),?_,?_,⟨by grind,fun W=>absurd W.t t⟩⟩
  all_goals grind
 simp only[Zr t,Zi t,Vc,Ze];by_cases u:1024<n.2.2.1.length
 ·refine⟨(2,0,5),?_,?_,⟨by simp,fun W=>absurd W.u (by omega)⟩⟩
  ·simp [Zev,u]
  grind
 rw[Zv (show¬(1024:Int)<(n.2.2.1.length:Int) by omega)];simp only[Ze];rw[J3 (n:=n.2.2.1.length) (fun i (st:Int)=>st=(i:Int)) (Xy n) (fun i=>.inr ((2:Int),(i:Int),Xy n i)) (.inl ()) ?_ ?_ ?_ (0:Int) rfl]
 rotate_left
 ·rintro i _ a rfl b;refine⟨((i+1:Nat):Int),?_,rfl⟩;simp only[ZV a,Zc,ZlI n a (by omega),Za,b,decide_true,Vc,Ze,Ka a (by omega)]
 ·rintro i _ a rfl b;simp only[ZV a,Zc,ZlI n a (by omega),Za,Zv b,Vp]
 ·simp
 unfold Zev;rw[Zf u];unfold pick
 cases l:Wq n.2.2.1.length (Xy n) with
 |some i=>
  have o:=(ZaH l).2;refine⟨(2,(i:Int),Xy n i),?_,?_,⟨by grind,fun W=>by rw[W.f]at l;grind⟩⟩
  all_goals grind
 |none=>
 simp only[Za,Vj,decide_true,Zc];by_cases v:1024<n.2.2.2.1.length
 ·refine⟨(3,0,5),?_,?_,⟨by simp,fun W=>absurd W.v (by omega)⟩⟩
  ·simp [Zd5,v]
  grind
 rw[Zv (show¬(1024:Int)<(n.2.2.2.1.length:Int) by omega)];simp only[Ze];rw[ZlQ (n:=n.2.2.2.1.length) (fun i (st:Int)=>st=(i:Int)) (WF n) (fun i=>.inr ((3:Int),(i:Int),WF n i)) (.inl ()) ?_ ?_ (0:Int) rfl]
 rotate_left
 ·rintro i _ a x rfl;have A:=ZrI n a (by omega) (by omega) h.calls x;by_cases b:WF n i=0
  ·refine .inl ⟨b,((i+1:Nat):Int),?_,rfl⟩;simp only[ZV a,Zc,A,Za,b,decide_true,Vc,Ze,Ka a (by omega)]
  grind
 ·simp
 unfold Zd5;rw[Zf v];unfold pick
 cases m:Wq n.2.2.2.1.length (WF n) with
 |some i=>
  have o:=(ZaH m).2;refine⟨(3,(i:Int),WF n i),?_,?_,⟨by grind,fun W=>by rw[W.g]at m;grind⟩⟩
  all_goals grind
 |none=>
 simp only[Za,Vj,decide_true,Zc]
 cases k:Wq n.2.2.2.2.1.length (K1 n.1.length n.2.2.2.2.1) with
 |some i=>
  have o:=(ZaH k).2;refine⟨(4,(i:Int),K1 n.1.length n.2.2.2.2.1 i),?_,?_,⟨by grind,fun W=>by rw[W.q]at k;grind⟩⟩
  all_goals grind
 |none=>
 by_cases w:Xs c n.2.2.2.2.1=true
 case neg=>
  refine⟨(4,0,18),?_,?_,⟨by simp,fun W=>absurd (W.w c (d (WK.1 k))) w⟩⟩
  all_goals grind
 simp only[Zr w,if_true,decide_true,Vc,Ze];by_cases z:(X5 n.2.2.2.2.2.1).2=0
 ·refine⟨(0,0,0),?_,?_,⟨fun _=>⟨s,t,by omega,l,by omega,m,k,fun B p=>by rw[d (WK.1 k)]at p;grind,z⟩,fun _=>rfl⟩⟩
  all_goals grind
 ·refine⟨(5,(X5 n.2.2.2.2.2.1).1,(X5 n.2.2.2.2.2.1).2),?_,?_,⟨by grind,fun W=>absurd W.z z⟩⟩
  all_goals grind
theorem ZoP(n:Zg)(h:Hu n):∃r:Int×Int×Int,F66 n=some r/\F120 n=some r/\(r.2.2=0->JR n):=by obtain⟨r,a,b,c⟩:=ZfH n h;exact⟨r,a,b,fun h=>(c.1 h).sound⟩
end Q
namespace Q
open Tr Go
theorem DY{a b:Nat}(e:a<65536)(f:b<65536):Wy .i64 (a:Int) (b:Int)=((a ||| b:Nat):Int):=by
 have d:a ||| b<2 ^ 16:=Vx (n:=16) (by omega) (by omega);unfold Wy
 have c:(Vo Vgb.bits (a:Int) ||| Vo Vgb.bits (b:Int)).toNat=a ||| b:=by
  rw[Vnb,Vaa,Vaa,Vda,Vda];show a % 2 ^ 64 ||| b % 2 ^ 64=a ||| b
  grind
 rw[c,Z1 (by omega) (by omega)]
theorem Zei{a b:Nat}(e:a<65536)(f:b<65536):Wy .u64 (a:Int) (b:Int)=((a ||| b:Nat):Int):=by
 have d:a ||| b<2 ^ 16:=Vx (n:=16) (by omega) (by omega);unfold Wy
 have c:(Vo Vhb.bits (a:Int) ||| Vo Vhb.bits (b:Int)).toNat=a ||| b:=by
  rw[Vnb,Vaa,Vaa,Vda,Vda];show a % 2 ^ 64 ||| b % 2 ^ 64=a ||| b
  grind
 rw[c];simp [Va,Vq,Vt];omega
theorem Zhq{z:Int}(a:0<=z)(b:z<16):GH .i64 1 z=some ((2 ^ z.toNat:Nat):Int):=by
 have:z=0\/z=1\/z=2\/z=3\/z=4\/z=5\/z=6\/z=7\/z=8\/z=9\/z=10\/z=11\/z=12\/z=13\/z=14\/z=15:=by omega
 rcases this with rfl|rfl|rfl|rfl|rfl|rfl|rfl|rfl|rfl|rfl|rfl|rfl|rfl|rfl|rfl|rfl<;>decide
theorem Ztz{z:Int}(a:0<=z)(b:z<16):GH .u64 1 z=some ((2 ^ z.toNat:Nat):Int):=by
 have:z=0\/z=1\/z=2\/z=3\/z=4\/z=5\/z=6\/z=7\/z=8\/z=9\/z=10\/z=11\/z=12\/z=13\/z=14\/z=15:=by omega
 rcases this with rfl|rfl|rfl|rfl|rfl|rfl|rfl|rfl|rfl|rfl|rfl|rfl|rfl|rfl|rfl|rfl<;>decide
theorem Gc{z:Int}(a:z<16):2 ^ z.toNat<65536:=Nat.pow_lt_pow_right (by omega) (show z.toNat<16 by omega)
theorem ZkQ{z:Int}(a:0<=z)(b:z<16):F5 z=some ((2 ^ z.toNat:Nat):Int):=by unfold F5;rw[Zv (show¬z<0 by omega),Zv (by omega)];simp only[Ze,Za,Ztz a b]
theorem Zut{m:Nat}(c:m<65536){z:Int}(b:0<=z)(a:z<16):F3 (m:Int) z=some ((m ||| 2 ^ z.toNat:Nat):Int):=by unfold F3;rw[ZkQ b a];simp only[Za];rw[Zei c (Gc a)]
theorem ZkO{z:Int}(c:0<=z)(b:z<16):F0 [z]=some ((2 ^ z.toNat:Nat):Int):=by
 unfold F0;rw[Ho (s' :=(((2 ^ z.toNat:Nat):Int),(1:Int))) ?_,YC (r:=((2 ^ z.toNat:Nat):Int)) ?_]
 ·rfl
 ·simp
 ·have:=Zei (a:=0) (by omega) (Gc b);simp only[Nat.zero_or]at this
  show (bif decide ((0:Int)<((1:Nat):Int)) then _ else _)=_
  rw[Zi (by omega)];simp only[Zc];rw[show idx [z] (0:Int)=some z from rfl];simp only[Za,ZkQ c b];rw[show Wy .u64 (0:Int) ((2 ^ z.toNat:Nat):Int)=((2 ^ z.toNat:Nat):Int) from this];rfl
end Q
namespace Q
open Tr Go
abbrev Z7:=Bool×Int×Int×Int×Int×Int×Int×Int×Bool×Unit
abbrev ZT:=Int×Int×Int×Int×Unit
abbrev Ze9:=List Z7×Unit
def Gy(n:Zg)(x:Z7):List Wv:=(rn n x.2.1).2.2.2.2.2.2.2.1
def X2(n:Zg)(x:Z7):Bool:=Kz x.2.1 n.2.2.1.length&& (decide (0<=x.2.2.1) && (decide (x.2.2.1<x.2.2.2.1) &&decide (x.2.2.2.1<((Gy n x).length:Int))))
theorem Zqk(n:Zg)(x:Z7):F56 n x=some (X2 n x):=by
 unfold F56 X2;by_cases h:Kz x.2.1 n.2.2.1.length=true
 ·have e:idx n.2.2.1 x.2.1=some (rn n x.2.1):=Xu h u0;simp only[e,Za,h];unfold Kz at h;simp only[Vs]at h;simp only[h.1,h.2,Zc];unfold Gy
  grind
 ·have a:Kz x.2.1 n.2.2.1.length=false:=by grind
  rw[a];unfold Kz at a
  grind
def s0:GX:=([],0,false,0,())
def Gi(n:Zg)(a:Int):GX:=(n.1[a.toNat]?).getD s0
def zn(n:Zg)(l:List Wv)(j:Nat):Nat:=2 ^ (Gi n ((l[j]?).getD c0).1).2.1.toNat
def zN(n:Zg)(l:List Wv)(a:Nat):Nat->Nat
 |0=>0
 |k+1=>zN n l a k ||| zn n l (a+k)
theorem ZeC{n:Zg}(h:JR n){a:Int}(d:0<=a)(e:a<(n.1.length:Int)):idx n.1 a=some (Gi n a)/\0<=(Gi n a).2.1/\(Gi n a).2.1<16:=by
 have c:Kz a n.1.length=true:=by unfold Kz;grind
 refine⟨Xu c s0,?_⟩;have b:a.toNat<n.1.length:=by omega
 unfold Gi;rw[Kr b];exact h.zone _ (Vf b)
theorem ZeV{n:Zg}(h:JR n){l:List Wv}(d:∀c∈l,0<=c.1/\c.1<(n.1.length:Int)){a:Nat} :∀k,a+k<=l.length->zN n l a k<65536
 |0,_=>by unfold zN;omega
 |k+1,i=>by
  have g:=ZeV h d (a:=a) k (by omega);have e:a+k<l.length:=by omega
  have b:=d _ (Vf e);have f:=(ZeC h b.1 b.2).2
  have:zn n l (a+k)<65536:=by unfold zn;rw[Kr e];exact Gc f.2
  exact Vx (n:=16) g this
theorem ZmQ{n:Zg}(h:JR n){x:Z7}(q:X2 n x=true):F57 n x=some ((zN n (Gy n x) x.2.2.1.toNat (x.2.2.2.1.toNat+1 - x.2.2.1.toNat):Nat):Int):=by
 unfold X2 at q;simp only[Vs,WC]at q;obtain⟨y,z,r,A⟩:=q;have w:=Za2 y;have f:=(h.many _ w).2;have u:∀c∈Gy n x,0<=c.1/\c.1<(n.1.length:Int):=h.call _ w;have e:idx n.2.2.1 x.2.1=some (rn n x.2.1):=Xu y u0;unfold F57;rw[e];simp only[Za];have d:(rn n x.2.1).2.2.2.2.2.2.2.1=Gy n x:=rfl;simp only[d]at f⊢;generalize Gy n x=l at*;obtain⟨a,s⟩:∃a:Nat,x.2.2.1=(a:Int):=⟨x.2.2.1.toNat,by omega⟩;obtain⟨b,t⟩:∃b:Nat,x.2.2.2.1=(b:Int):=⟨x.2.2.2.1.toNat,by omega⟩;rw[s]at z r;rw[t]at r A;rw[s,t];have C:Va .i64 ((b:Int)+1)=((b+1:Nat):Int):=by rw[Z1 (by omega) (by omega)];omega
 have p:sliceB l.length l.length (some (a:Int)) (some ((b+1:Nat):Int))=some (a,b+1):=by
  unfold sliceB
  grind
 rw[C,p];simp only[Za,Vr]
 have j:(Voa (b+1 - a) (List.drop a l)).length=b+1 - a:=by
  grind
 rw[J3 (n:=b+1 - a) (fun i (st:Int×Int)=>st=(((zN n l a i:Nat):Int),(i:Int))) (fun _=>0) (fun _=>((zN n l a (b+1 - a):Nat):Int)) ((zN n l a (b+1 - a):Nat):Int) ?_ ?_ ?_ ((0:Int),(0:Int)) rfl]
 ·unfold pick
  grind
 ·rintro i _ v rfl _;have B:a+i<l.length:=by omega
  have g:=u _ (Vf B);obtain⟨k,m,o⟩:=ZeC h g.1 g.2;refine⟨(((zN n l a (i+1):Nat):Int),((i+1:Nat):Int)),?_,rfl⟩;simp only[j,ZV v,Zc];rw[ZI (by omega)];simp only[List.getElem_take,List.getElem_drop,Za,k,Zut (ZeV h u (a:=a) i (by omega)) m o,Ka v (by omega)]
  have:zN n l a (i+1)=zN n l a i ||| 2 ^ (Gi n l[a+i].1).2.1.toNat:=by
   show zN n l a i ||| zn n l (a+i)=_;unfold zn
   grind
  grind
 all_goals grind
end Q
namespace Q
open Tr Go
theorem Zq4{k:Nat}(h:0<k)(a:k<=9223372036854775807):ZA (Va .i64 ((k:Int) - 1)) k=some (k - 1):=by
 have e:Va .i64 ((k:Int) - 1)=((k - 1:Nat):Int):=by rw[Z1 (by omega) (by omega)];omega
 rw[e,KT (by omega)]
theorem ZlT{α:Type}{l:List α}{k:Nat}(h:k<l.length)(w:α):(l.set k w)[k]? =some w:=by grind
theorem ZeT{m:Nat}(h:m<65536):Va .i64 (m:Int)=(m:Int):=Z1 (by omega) (by omega)
def D8(n:Zg)(x:Z7):Nat:=zN n (Gy n x) x.2.2.1.toNat (x.2.2.2.1.toNat+1 - x.2.2.1.toNat)
theorem Ze2{n:Zg}(h:JR n){x:Z7}(a:X2 n x=true):D8 n x<65536:=by unfold X2 at a;simp only[Vs,WC]at a;obtain⟨c,d,e,b⟩:=a;exact ZeV h (h.call _ (Za2 c)) _ (by unfold Gy at b;omega)
def DZ:Hw:=([],0,false,())
def D2(n:Zg)(x:Z7):Hw:=(n.2.1[(rn n x.2.1).2.2.2.2.1.toNat]?).getD DZ
theorem Zeq{n:Zg}(h:JR n){x:Z7}(a:X2 n x=true):idx n.2.2.1 x.2.1=some (rn n x.2.1)/\idx n.2.1 (rn n x.2.1).2.2.2.2.1=some (D2 n x)/\0<=(D2 n x).2.1/\(D2 n x).2.1<16:=by
 unfold X2 at a;simp only[Vs]at a;have d:=Za2 a.1;have e:=h.route _ d;have c:Kz (rn n x.2.1).2.2.2.2.1 n.2.1.length=true:=by unfold Kz;grind
 refine⟨Xu a.1 u0,Xu c DZ,?_⟩;have b:(rn n x.2.1).2.2.2.2.1.toNat<n.2.1.length:=by omega
 unfold D2;rw[Kr b];have:=h.mode _ (Vf b);omega
def Dg(n:Zg)(x:Z7):ZT:=(x.2.2.2.2.2.2.1,x.2.2.2.2.2.2.2.1,((D8 n x:Nat):Int),((2 ^ (D2 n x).2.1.toNat:Nat):Int),())
def Rj(n:Zg)(x:Z7)(l:List ZT)(v:ZT):List ZT:=
 l.set (l.length - 1) (v.1,x.2.2.2.2.2.2.2.1,Wy .i64 v.2.2.1 ((D8 n x:Nat):Int),Wy .i64 v.2.2.2.1 ((2 ^ (D2 n x).2.1.toNat:Nat):Int),())
theorem ZsV{n:Zg}(h:JR n){x:Z7}(a:X2 n x=true)(g:x.2.2.2.2.2.2.2.2.1=false){l:List ZT}(i:l.length<=100):F54 x n l=some (l++[Dg n x]):=by obtain⟨c,d,e,b⟩:=Zeq h a;unfold F54;rw[ZmQ h a];simp only[Za,c,d,ZkO e b,g,Vp,Zc];rw[show Va .i64 ((zN n (Gy n x) x.2.2.1.toNat (x.2.2.2.1.toNat+1 - x.2.2.1.toNat):Nat):Int)=((D8 n x:Nat):Int) from ZeT (Ze2 h a),ZeT (Gc b)];have f:(decide (l.length+ [Dg n x].length<=ZC))=true:=Zi (by simp [ZC];omega);show (Zy (decide (l.length+ [Dg n x].length<=ZC))).bind (fun _=>some (l++[Dg n x]))=_;rw[f];rfl
theorem ZsW{n:Zg}(h:JR n){x:Z7}(a:X2 n x=true)(i:x.2.2.2.2.2.2.2.2.1=true){l:List ZT}(k:l.length<=100){v:ZT}(g:0<l.length)(j:l[l.length - 1]? =some v):F54 x n l=some (Rj n x l v):=by
 obtain⟨d,e,f,b⟩:=Zeq h a;unfold F54;rw[ZmQ h a];simp only[Za,d,e,ZkO f b,i,Vc,Ze];rw[show Va .i64 ((zN n (Gy n x) x.2.2.1.toNat (x.2.2.2.1.toNat+1 - x.2.2.1.toNat):Nat):Int)=((D8 n x:Nat):Int) from ZeT (Ze2 h a),ZeT (Gc b)];have c:l.length - 1<l.length:=by omega
 simp only[Zq4 g (by omega),Za];erw[j];simp only[Za,List.set_set];erw[ZlT c];simp only[Za];erw[ZlT c];rfl
end Q
namespace Q
open Tr Go
abbrev YY(x:Z7):Bool:=x.2.2.2.2.2.2.2.2.1
def Gu(n:Zg)(x:Z7)(out:List ZT):List ZT:=match out[out.length - 1]? with
 |some v=>Rj n x out v
 |none=>out
def Ji(n:Zg):List Z7->Bool->List ZT->List ZT×Int
 |[],_,out=>(out,0)
 |x::l,rode,out=>
  if x.1=true/\X2 n x=false then([],9)
  else if YY x=true/\(x.1=false\/rode=false) then([],19)
  else if x.1=true then Ji n l true (if YY x=true then Gu n x out else out++[Dg n x])
  else Ji n l false out
theorem D1(n:Zg)(x:Z7)(l:List Z7)(rode:Bool)(out:List ZT):Ji n (x::l) rode out=if x.1=true/\X2 n x=false then([],9)
 else if YY x=true/\(x.1=false\/rode=false) then([],19)
 else if x.1=true then Ji n l true (if YY x=true then Gu n x out else out++[Dg n x])
 else Ji n l false out:=rfl
theorem Zij(n:Zg)(x:Z7)(out:List ZT):(Gu n x out).length=out.length:=by
 unfold Gu;split
 ·unfold Rj;simp
 ·rfl
theorem ZsX(n:Zg)(j:Ze9)(A:Hu n)(D:j.1.length<=90):(F53 n j=some ([],21)/\F125 n=some false)\/(JR n/\F125 n=some true/\F53 n j=some (Ji n j.1 false [])):=by
 obtain⟨c,k,m,o⟩:=ZoP n A;unfold F53 F125;rw[k,m];simp only[Za];by_cases u:c.2.2=0
 case neg=>
  grind
 have h:=o u;rw[Zi u];simp only[Vc,Ze];refine .inr ⟨h,by simp,?_⟩;refine WE (fun r=>Ji n j.1 false []=Vkb (fun l:List ZT=>(l,(0:Int))) (fun y=>y) r) ?_ ?_
 ·refine Wa j.1.length _ (fun i (s:List ZT×Bool×Int)=>∃l w,s=(l,w,(i:Int))/\l.length<=i/\(w=true->0<l.length)/\Ji n j.1 false []=Ji n (j.1.drop i) w l) ?_ ?_ _ ⟨[],false,rfl,by simp,by simp,rfl⟩
  ·rintro i _ g ⟨l,w,rfl,B,z,a⟩;have p:j.1.length<=9223372036854775807:=by omega
   rw[Via g]at a;simp only[ZV g,Zc,ZI g,Za,Ka g p];generalize j.1[i]=x at*;rw[D1]at a
   cases f:x.1 with
   |false=>
    rw[f]at a;simp only[Ze,Za,Vp,Zc]
    cases e:YY x with
    |true=>
     simp_all
    |false=>
     grind
   |true=>
    rw[f]at a;simp only[Zc,Za,Vc,Ze,Zqk]
    cases q:X2 n x with
    |false=>
     simp_all
    |true=>
     rw[q]at a;simp only[Vc,Ze]
     cases e:YY x with
     |false=>
      left;rw[e]at a;have b:=e;unfold YY at b;rw[b];simp only[Ze,Za,ZsV h q b (show l.length<=100 by omega)]
      grind
     |true=>
      rw[e]at a;have b:=e;unfold YY at b;rw[b];simp only[Zc]
      cases w with
      |false=>
       simp_all
      |true=>
       left;have d:=z rfl;obtain⟨v,C⟩:∃v,l[l.length - 1]? =some v:=⟨_,Vd (by omega)⟩;simp only[Vc,Za,Ze,ZsW h q b (by omega) d C];have t:Gu n x l=Rj n x l v:=by unfold Gu;grind
       refine⟨_,rfl,Rj n x l v,true,rfl,by rw[<-t,Zij];omega,fun _=>by rw[<-t,Zij];omega,?_⟩
       grind
  ·rintro _ ⟨l,w,rfl,B,z,a⟩;simp only[J1,Ze];refine⟨_,rfl,?_⟩;rw[a,List.drop_length];rfl
 grind
end Q
namespace Dv
abbrev Tk:=Int×Int×Int×Int×Unit
structure Yl where
 n:Nat
 np:Nat
 cov:Nat->Nat->Nat->Bool
 pr:Nat->Nat->Int
abbrev Ky:=Option (Int×List Tk)
def Zfz(cur:Ky)(s:Int)(c:Nat):Bool:=match cur with
 |none=>true
 |some (cs,a)=>decide (s<cs) || (decide (s=cs) &&decide (c<a.length))
def Rq(L:Yl)(nx:Ky)(i k p:Nat)(cur:Ky):Ky:=match nx with
 |none=>cur
 |some (s,t)=>if L.cov p i k=true then(if Zfz cur (L.pr p i+s) (1+t.length)=true then some (L.pr p i+s,((p:Int),(i:Int),(k:Int),L.pr p i,())::t) else cur) else cur
def Za3(L:Yl)(nx:Ky)(i k:Nat)(cur:Ky):Nat->Ky
 |0=>cur
 |m+1=>Rq L nx i k m (Za3 L nx i k cur m)
def rowK(L:Yl)(B:Nat->Ky)(i:Nat):Nat->Ky
 |0=>none
 |m+1=>Za3 L (B (i+m+1)) i (i+m) (rowK L B i m) L.np
def KN(L:Yl):Nat->Nat->Ky
 |0,j=>if j=L.n then some (0,[]) else none
 |d+1,j=>if j=L.n - (d+1) then rowK L (KN L d) j (L.n - j) else KN L d j
def Zaa(B:Nat->Ky)(n i:Nat)(c:Ky):Prop:= ∀s t,c=some (s,t)->∃p k q b a,t=((p:Int),(i:Int),((k:Nat):Int),(q:Int),())::a/\i<=k/\k<n/\B (k+1)=some (b,a)
theorem ZoJ{L:Yl}{B:Nat->Ky}{n i k p:Nat}{cur:Ky}(a:i<=k)(c:k<n)(h:Zaa B n i cur):Zaa B n i (Rq L (B (k+1)) i k p cur):=by
 unfold Rq
 cases d:B (k+1) with
 |none=>exact h
 |some x=>
  obtain⟨s,t⟩:=x;simp only;split
  ·split
   ·intro e f b
    grind
   omega
  omega
theorem ZlE{L:Yl}{B:Nat->Ky}{n i k:Nat}{cur:Ky}(a:i<=k)(b:k<n)(h:Zaa B n i cur):∀m,Zaa B n i (Za3 L (B (k+1)) i k cur m)
 |0=>h
 |m+1=>ZoJ a b (ZlE a b h m)
theorem ZlD{L:Yl}{B:Nat->Ky}{n i:Nat} :∀m,i+m<=n->Zaa B n i (rowK L B i m)
 |0,_=>fun s t h=>by simp [rowK]at h
 |m+1,h=>ZlE (by omega) (by omega) (ZlD m (by omega)) L.np
theorem ZhD(L:Yl):∀d e j,L.n - d<=j->d<=e->e<=L.n->KN L e j=KN L d j
 |d,e,j,a,b,c=>by
  induction e with
  |zero=>grind
  |succ e g=>
   by_cases f:d=e+1
   ·grind
   ·rw[KN,if_neg (by omega)]
    grind
theorem Zt0(L:Yl){j:Nat}(r:j<L.n):Zaa (KN L L.n) L.n j (KN L L.n j):=by
 have b:KN L L.n j=rowK L (KN L (L.n - j - 1)) j (L.n - j):=by rw[ZhD L (L.n - j) L.n j (by omega) (by omega) (Vu _)];obtain⟨d,a⟩:∃d,L.n - j=d+1:=⟨L.n - j - 1,by omega⟩;rw[show L.n - j - 1=d by omega,a,KN,if_pos (by omega),a]
 have h:=ZlD (L:=L) (B:=KN L (L.n - j - 1)) (n:=L.n) (i:=j) (L.n - j) (by omega);rw[b];intro s t g;obtain⟨p,k,q,l,m,c,e,f,o⟩:=h s t g;exact⟨p,k,q,l,m,c,e,f,by rw[ZhD L (L.n - j - 1) L.n (k+1) (by omega) (by omega) (Vu _)];omega⟩
end Dv
namespace Q
open Tr Go Dv
abbrev XW:=Bool×Int×Int×Tk×Unit
theorem Zlo(a b:Int):0<=Wy .u64 a b/\Wy .u64 a b<18446744073709551616:=by
 have c:∀x:Int,0<=Va .u64 x/\Va .u64 x<18446744073709551616:=fun x=>by simp [Va,Vt,Vq];omega
 unfold Wy
 grind
theorem Zrp(a b d:Int):∃z:Bool,F86 a b d=some z:=by
 unfold F86;by_cases h:a<=b
 ·rw[Zi h];by_cases c:d<0
  all_goals simp [*]
 ·rw[Zv h];by_cases c:d<0
  all_goals simp [*]
theorem ZpL(p:XE)(s:List ZT)(v:s.length<=100):∃z:Bool,F84 p s=some z/\(s=[]->z=false):=by
 unfold F84;by_cases d:s=[]
 ·simp_all
 ·have h:0<s.length:=Vta.2 d;rw[Zv (by omega)];have el:Va .i64 ((s.length:Int) - 1)=((s.length - 1:Nat):Int):=by rw[Z1 (by omega) (by omega)];omega
  have m:idx s (0:Int)=some s[0]:=ZI (i:=0) h;obtain⟨lt,b⟩:=Zrp (s[0]).1 (s[s.length - 1]).1 p.2.2.2.2.1;simp only[Ze,el,ZI (show s.length - 1<s.length by omega),m,Za,b]
  have e:∃c:Bool,(bif decide (p.2.2.1<(s.length:Int)) then some true else some lt)=some c:=by
   grind
  obtain⟨c,f⟩:=e;rw[f];simp only[Za]
  cases c with
  |true=>simp
  |false=>
   simp only[Ze]
   have key:∀(o:Option (Int×Int)) (k:Int×Int->Option Bool),(∃r,o=some r/\(0<=r.1/\r.1<18446744073709551616))->(∀r:Int×Int,0<=r.1->r.1<18446744073709551616->∃z,k r=some z)->∃z:Bool,Vb o k=some z/\(s=[]->z=false):=by
    simp_all
   refine key _ _ ?_ ?_
   ·refine Wa s.length _ (fun i (t:Int×Int×Int)=>∃x y,t=(x,y,(i:Int))/\0<=x/\x<18446744073709551616) ?_ ?_ _ ⟨0,0,rfl,by omega,by omega⟩
    ·rintro i _ a ⟨x,y,rfl,j,l⟩;left;simp only[ZV a,Zc,ZI a,Za,Ka a (by omega),F85,F2];exact⟨_,rfl,_,_,rfl,(Zlo _ _).1,(Zlo _ _).2⟩
    simp_all
   ·intro r q u
    have g:F1 r.1=some ((Jh 64 r.1.toNat:Nat):Int):=by
     show lenF r.1=_;unfold lenF
     grind
    simp only[g,Za,F4]
    grind
noncomputable def covB(p:XE)(s:List ZT):Bool:=(F84 p s).getD false
theorem ZpM(p:XE)(s:List ZT)(a:s.length<=100):F84 p s=some (covB p s):=by
 obtain⟨z,h,_⟩:=ZpL p s a;unfold covB
 grind
def R7(a b d:Int):Bool:=bif decide (b<=a) then true else decide (Va .u64 (Va .u64 b - Va .u64 a)<=Va .u64 d)
theorem Zux(a b d:Int):F18 a b d=some (R7 a b d):=by
 unfold F18 R7
 grind
def rd0:ZT:=(0,0,0,0,())
def RZ(F:Z9)(p:XE)(l:List ZT)(i:Nat):Int:=
 if 0<i/\R7 ((l[i - 1]?).getD rd0).2.1 ((l[i]?).getD rd0).1 F.2.2.1=true then(if 0<p.2.1 - F.2.1 then p.2.1 - F.2.1 else 0) else p.2.1
theorem Zsw(F:Z9)(p:XE)(l:List ZT)(i:Nat)(b:i<l.length)(g:l.length<=100)(e:0<=p.2.1/\p.2.1<=1000000)(f:0<=F.2.1/\F.2.1<=1000000):F16 F p l (i:Int)=some (RZ F p l i):=by
 unfold F16 RZ;have c:Va .i64 (p.2.1 - F.2.1)=p.2.1 - F.2.1:=Z1 (by omega) (by omega)
 have em:Tr.imax 0 (p.2.1 - F.2.1)=if 0<p.2.1 - F.2.1 then p.2.1 - F.2.1 else 0:=rfl
 by_cases d:0<i
 ·have a:Va .i64 ((i:Int) - 1)=((i - 1:Nat):Int):=by rw[Z1 (by omega) (by omega)];omega
  rw[Zi (by omega)];simp only[Zc,a,ZI (show i - 1<l.length by omega),ZI b,Za,Zux]
  grind
 grind
structure ZcL (F:Z9):Prop where
 disc:0<=F.2.1/\F.2.1<=1000000
 cap:0<=F.2.2.2.1
 price:∀p∈F.1,0<=p.2.1/\p.2.1<=1000000
 many:F.1.length<=16
theorem Zqm{F:Z9}(h:(X5 F).2=0):ZcL F:=by
 unfold X5 at h;by_cases a:HZ F=false
 ·grind
 rw[Zf a]at h;by_cases c:16<F.1.length
 ·grind
 rw[Zf c]at h;have g:=Zcp h;have a:HZ F=true:=by grind
 unfold HZ at a;simp only[Vs,WC]at a;refine⟨a.1,a.2.2.1,fun p f=>?_,by omega⟩;obtain⟨i,e,rfl⟩:=Vi f;have b:=g i e;unfold HM at b;rw[Kr e]at b;obtain⟨_,_,d⟩:=Dc.1 b;have d:Hn F.1[i]=true:=by grind
 unfold Hn at d
 grind
noncomputable def KB(F:Z9)(l:List ZT):Yl where
 n:=l.length
 np:=F.1.length
 cov:=fun p i k=>covB ((F.1[p]?).getD p0) ((l.drop i).take (k+1 - i))
 pr:=fun p i=>RZ F ((F.1[p]?).getD p0) l i
theorem Zlb{F:Z9}(hF:ZcL F){l:List ZT}{p i:Nat}(a:p<(KB F l).np):0<=(KB F l).pr p i/\(KB F l).pr p i<=1000000:=by have h:=hF.price _ (Vf (show p<F.1.length from a));have b:=hF.disc;show 0<=RZ F ((F.1[p]?).getD p0) l i/\RZ F ((F.1[p]?).getD p0) l i<=1000000;rw[Kr (by grind)];unfold RZ;omega
def Bd(n:Nat)(f:Nat->Ky):Prop:= ∀j s t,j<=n->f j=some (s,t)->0<=s/\s<=1000000* ((n:Int) - (j:Int))/\t.length<=n - j
def Gn(c:Ky)(r:XW):Prop:=match c with
 |none=>r.1=false
 |some (s,t)=>r.1=true/\r.2.1=s/\r.2.2.1=(t.length:Int)/\ ∀x a,t=x::a->r.2.2.2.1=x
def XG(f:Nat->Ky)(T:List XW):Prop:=T.length=9/\ ∀j,j<=8->∃r,T[j]? =some r/\Gn (f j) r
theorem XG.congr{f g:Nat->Ky}{T:List XW}(h:XG f T)(e:∀j,j<=8->g j=f j):XG g T:=
 ⟨h.1,fun j a=>by rw[e j a];exact h.2 j a⟩
def XU(f:Nat->Ky)(i:Nat)(c:Ky):Nat->Ky:=fun j=>if j=i then c else f j
theorem XG.set{f:Nat->Ky}{T:List XW}(h:XG f T){i:Nat}(d:i<=8){c:Ky}{r:XW}(e:Gn c r):XG (XU f i c) (T.set i r):=by
 refine⟨by rw[Vba];exact h.1,fun j b=>?_⟩;unfold XU;by_cases a:j=i
 ·subst a;rw[Zr rfl,Vea (by rw[h.1];omega)]
  grind
 ·rw[Zf a,Vz (Ne.symm a)];exact h.2 j b
theorem Gn.ok{s:Int}{t:List Tk}{r:XW}(h:Gn (some (s,t)) r):r.1=true/\r.2.1=s/\r.2.2.1=(t.length:Int)/\ ∀x a,t=x::a->r.2.2.2.1=x:=h
theorem Zow{cur:Ky}{r:XW}(h:Gn cur r)(s:Int)(c:Nat):F15 r s (c:Int)=some (Zfz cur s c):=by
 cases cur with
 |none=>
  unfold F15
  rw[show r.1=false from h];rfl
 |some x=>
  obtain⟨cs,a⟩:=x;obtain⟨b,d,f,_⟩:=Gn.ok h;unfold F15;rw[b,d,f];have e:decide ((c:Int)<(a.length:Int))=decide (c<a.length):=by simp
  rw[e];show _=some (decide (s<cs) || (decide (s=cs) &&decide (c<a.length)))
  grind
theorem Zt6{F:Z9}(hF:ZcL F){l:List ZT}(P:l.length<=8){f:Nat->Ky}{T:List XW}(b:XG f T)(A:Bd l.length f){i k p:Nat}(C:i<=k)(O:k<l.length)(x:p<F.1.length){s:Int}{t:List Tk}(m:f (k+1)=some (s,t)):
 ∃v,F14 (i:Int) (k:Int) (p:Int) F l T=some v/\XG (XU f i (Rq (KB F l) (f (k+1)) i k p (f i))) v:=by
 unfold F14;have a:=hF.price _ (Vf x);obtain⟨J,K,L⟩:=A (k+1) s t (by omega) m;have z:Va .i64 ((k:Int)+1)=((k+1:Nat):Int):=by rw[Z1 (by omega) (by omega)];omega
 have G:sliceB l.length l.length (some (i:Int)) (some ((k+1:Nat):Int))=some (i,k+1):=by
  unfold sliceB
  grind
 have u:((l.drop i).take (k+1 - i)).length<=100:=by grind
 obtain⟨R,r,c⟩:=b.2 (k+1) (by omega);obtain⟨Q,q,e⟩:=b.2 i (by omega);rw[m]at c;obtain⟨M,y,c3,N⟩:=Gn.ok c;have d:ZA ((k+1:Nat):Int) 9=some (k+1):=KT (by omega);have h:ZA (i:Int) 9=some i:=KT (by omega)
 have o:F16 F F.1[p] l (i:Int)=some ((KB F l).pr p i):=by
  rw[Zsw F F.1[p] l i (by omega) (by omega) a hF.disc];show _=some (RZ F ((F.1[p]?).getD p0) l i)
  grind
 have E:=Zlb hF (l:=l) (i:=i) (by assumption)
 have g:covB F.1[p] ((l.drop i).take (k+1 - i))=(KB F l).cov p i k:=by
  show _=covB ((F.1[p]?).getD p0) ((l.drop i).take (k+1 - i))
  grind
 have H:Va .i64 ((KB F l).pr p i+s)=(KB F l).pr p i+s:=Z1 (by omega) (by omega);have I:Va .i64 ((t.length:Int)+1)=((1+t.length:Nat):Int):=by rw[Z1 (by omega) (by omega)];omega
 simp only[ZI x,Za,z,G,ZpM F.1[p] _ u,g,o,d,h,r,q,y,c3,H,I];rw[m];unfold Rq;simp only
 cases w:(KB F l).cov p i k with
 |false=>
  refine⟨T,rfl,b.congr fun j D=>?_⟩;unfold XU
  grind
 |true=>
  simp only[Vc,Ze,Zow e,Za,if_true]
  cases B:Zfz (f i) ((KB F l).pr p i+s) (1+t.length) with
  |false=>
   refine⟨T,rfl,b.congr fun j D=>?_⟩;unfold XU
   grind
  |true=>
   refine⟨_,rfl,b.set (by omega) ⟨rfl,rfl,?_,by simp⟩⟩
   all_goals grind
end Q
namespace Q
open Tr Go Dv
def GO(n i:Nat)(c:Ky):Prop:= ∀s t,c=some (s,t)->0<=s/\s<=1000000* ((n:Int) - (i:Int))/\t.length<=n - i
theorem ZoI{L:Yl}{n i k p:Nat}{nx cur:Ky}(c:0<=L.pr p i/\L.pr p i<=1000000)(a:i<=k)(j:k<n)(b:GO n (k+1) nx)(h:GO n i cur):GO n i (Rq L nx i k p cur):=by
 unfold Rq
 cases nx with
 |none=>omega
 |some x=>
  obtain⟨s,t⟩:=x;obtain⟨d,f,g⟩:=b s t rfl;simp only;split
  ·split
   ·intro l m e
    grind
   omega
  omega
theorem Zhh{L:Yl}{n i k:Nat}{nx cur:Ky}(b:∀p,p<L.np->0<=L.pr p i/\L.pr p i<=1000000)(a:i<=k)(d:k<n)(e:GO n (k+1) nx)(c:GO n i cur):∀m,m<=L.np->GO n i (Za3 L nx i k cur m)
 |0,_=>c
 |m+1,h=>ZoI (by grind) a d e (Zhh b a d e c m (by omega))
theorem Zhg{L:Yl}{n i:Nat}{B:Nat->Ky}(a:∀p,p<L.np->0<=L.pr p i/\L.pr p i<=1000000)(b:∀j,GO n j (B j)):∀m,i+m<=n->GO n i (rowK L B i m)
 |0,_=>fun s t h=>by simp [Dv.rowK]at h
 |m+1,h=>Zhh a (by omega) (by omega) (by grind) (Zhg a b m (by omega)) L.np (Vu _)
theorem ZhC{L:Yl}(a:∀p i,p<L.np->0<=L.pr p i/\L.pr p i<=1000000):∀d,d<=L.n->∀j,GO L.n j (KN L d j)
 |0,_,j=>by
  intro s t h;rw[KN]at h
  grind
 |d+1,b,j=>by
  rw[KN];split
  ·next c=>exact Zhg (by grind) (ZhC a d (by omega)) _ (by omega)
  ·exact ZhC a d (by omega) j
theorem Zme(L:Yl):∀d,d<=L.n->∀j,j<L.n - d->KN L d j=none
 |0,_,j,h=>by rw[KN,Zf (by omega)]
 |d+1,a,j,h=>by rw[KN,Zf (by omega)];exact Zme L d (by omega) j (by omega)
theorem Zud(f:Nat->Ky)(i:Nat)(c c' :Ky):XU (XU f i c) i c' =XU f i c' :=by
 funext j;unfold XU
 grind
theorem ZeP(f:Nat->Ky)(i:Nat)(c:Ky):XU f i c i=c:=Zr rfl
theorem Zbf(f:Nat->Ky){i j:Nat}(c:Ky)(h:j≠i):XU f i c j=f j:=Zf h
def rz:XW:=(false,0,0,(0,0,0,0,()),())
theorem ZpX{F:Z9}(hF:ZcL F){l:List ZT}(P:l.length<=8):∃T,F13 F l=some T/\XG (KN (KB F l) l.length) T:=by
 have D:∀p i,p<(KB F l).np->0<=(KB F l).pr p i/\(KB F l).pr p i<=1000000:=fun p i u=>Zlb hF u;have y:(KB F l).n=l.length:=rfl;unfold F13;have V:(Tr.zeroEl Jo:List XW)=Vg 9 rz:=rfl;have B:ZA (l.length:Int) 9=some l.length:=KT (by omega);have E:(Tr.zeroEl Jo:List XW)[l.length]? =some rz:=by grind
 rw[B];simp only[Za];erw[E];simp only[Za]
 have key:∀o:Option (List XW),(∃T,o=some T/\XG (KN (KB F l) l.length) T)->∃T,(Vb o fun G=>some G)=some T/\XG (KN (KB F l) l.length) T:=by simp
 refine key _ (Wa l.length _ (fun c (s:List XW×Int)=>∃T,s=(T,(l.length:Int) - 1 - (c:Int))/\XG (KN (KB F l) c) T) ?_ ?_ _ ?_)
 ·rintro c _ S ⟨T,rfl,b⟩;left;obtain⟨i,M⟩:∃i:Nat,(l.length:Int) - 1 - (c:Int)=(i:Int):=by grind
  have O:i<l.length:=by omega
  have N:i=l.length - (c+1):=by omega
  rw[M];rw[Zi (by omega)];simp only[Zc];refine ZbE (fun g=>XG (KN (KB F l) (c+1)) g) ?_ ?_
  ·refine Wa (l.length - i) _ (fun m (s:List XW×Int)=>∃T,s=(T,((i+m:Nat):Int))/\XG (XU (KN (KB F l) c) i (rowK (KB F l) (KN (KB F l) c) i m)) T) ?_ ?_ _ ⟨T,rfl,b.congr fun j C=>?_⟩
   ·rintro m _ U ⟨T,rfl,b⟩;left;have I:i+m<l.length:=by omega
    simp only[ZV I,Zc];refine ZbE (fun g=>XG (XU (KN (KB F l) c) i (rowK (KB F l) (KN (KB F l) c) i (m+1))) g) ?_ ?_
    ·refine Wa F.1.length _ (fun p (s:List XW×Int)=>∃T,s=(T,(p:Int))/\XG (XU (KN (KB F l) c) i (Za3 (KB F l) (KN (KB F l) c (i+m+1)) i (i+m) (rowK (KB F l) (KN (KB F l) c) i m) p)) T) ?_ ?_ _ ⟨T,rfl,b⟩
     ·rintro p _ u ⟨T,rfl,b⟩;left;have v:Va .i64 (((i+m:Nat):Int)+1)=((i+m+1:Nat):Int):=by rw[Z1 (by omega) (by omega)];omega
      have A:ZA ((i+m+1:Nat):Int) 9=some (i+m+1):=KT (by omega);obtain⟨r,Q,d⟩:=b.2 (i+m+1) (by omega);rw[Zbf _ _ (by omega)]at d;simp only[ZV u,Zc,v,A,Q,Za,Ka u (show F.1.length<=9223372036854775807 by have:=hF.many;omega)]
      cases f:KN (KB F l) c (i+m+1) with
      |none=>
       rw[f]at d;rw[show r.1=false from d];refine⟨_,rfl,T,rfl,?_⟩;rw[f]at b
       assumption
      |some x=>
       obtain⟨s,t⟩:=x;rw[f]at d;obtain⟨R,_⟩:=Gn.ok d;rw[R];simp only[Zc]
       have w:Bd l.length (XU (KN (KB F l) c) i (Za3 (KB F l) (KN (KB F l) c (i+m+1)) i (i+m) (rowK (KB F l) (KN (KB F l) c) i m) p)):=by
        intro j J K C e;have h:=ZhC D c (by omega);by_cases a:j=i
        ·subst a;rw[ZeP]at e;exact Zhh (n:=l.length) (by grind) (by omega) (by omega) (h _) (Zhg (by grind) h m (by omega)) p (show p<=F.1.length by omega) J K e
        ·rw[Zbf _ _ a]at e;exact h j J K e
       obtain⟨g,L,H⟩:=Zt6 hF P b w (i:=i) (k:=i+m) (p:=p) (by omega) I u (s:=s) (t:=t) (by rw[Zbf _ _ (by omega)];omega);rw[L];refine⟨_,rfl,g,rfl,?_⟩;rw[Zud,ZeP,Zbf _ _ (by omega)]at H;rw[f]at H
       assumption
     ·rintro _ ⟨T,rfl,b⟩;simp only[J1,Ze];exact⟨_,rfl,b⟩
    ·intro g z;have v:Va .i64 (((i+m:Nat):Int)+1)=((i+(m+1):Nat):Int):=by rw[Z1 (by omega) (by omega)];omega
     grind
   ·rintro _ ⟨T,rfl,b⟩;rw[show i+(l.length - i)=l.length by omega];simp only[J1,Ze];refine⟨_,rfl,b.congr fun j C=>?_⟩;rw[KN];by_cases a:j=i
    ·subst a;rw[Zr (by omega),ZeP];rfl
    ·rw[Zf (by omega),Zbf _ _ a]
   ·by_cases a:j=i
    ·subst a;rw[ZeP,Zme (KB F l) c (by omega) j (by omega)];rfl
    ·rw[Zbf _ _ a]
  ·intro g z;have v:Va .i64 ((i:Int) - 1)=(l.length:Int) - 1 - ((c+1:Nat):Int):=by rw[Z1 (by omega) (by omega)];omega
   grind
 ·grind
 ·refine⟨(Vg 9 rz).set l.length (true,rz.2),?_,by simp,fun j C=>?_⟩
  ·rw[Z1 (by omega) (by omega)]
   grind
  ·rw[KN];by_cases q:j=l.length
   ·subst q;rw[Zr y.symm,Vea (by grind)];exact⟨_,rfl,rfl,rfl,rfl,by simp⟩
   ·rw[Zf (by omega),Vz (Ne.symm q),List.getElem?_replicate,Zr (by omega)];exact⟨_,rfl,rfl⟩
def ZfE(F:Z9)(s:Int):Int:=if 0<F.2.2.2.1/\F.2.2.2.1<s then F.2.2.2.1 else s
theorem ZoL(F:Z9)(s:Int):F12 F s=some (ZfE F s):=by
 unfold F12 ZfE
 grind
end Q
namespace Q
open Tr Go Dv
def D7(x:Z7):Int:=if x.1=true\/x.2.2.2.2.2.2.1<0\/x.2.2.2.2.2.2.2.1<x.2.2.2.2.2.2.1\/14400<x.2.2.2.2.2.2.2.1 - x.2.2.2.2.2.2.1 then 0 else x.2.2.2.2.2.2.2.1 - x.2.2.2.2.2.2.1
def Js(l:List Z7):Int:=(l.map D7).sum
theorem Zum(x:Z7):0<=D7 x/\D7 x<=14400:=by unfold D7;omega
theorem ZhL(a b:List Z7):Js (a++b)=Js a+Js b:=by unfold Js;simp
theorem ZmD:∀l:List Z7,0<=Js l/\Js l<=14400* (l.length:Int)
 |[]=>by simp [Js]
 |x::l=>by
  have a:=Zum x;have b:=ZmD l;unfold Js at*
  grind
def Zbs(x:Z7):Prop:=x.2.2.2.2.2.2.2.1<=9223372036854775807
theorem Zun(j:Ze9)(l:j.1.length<=1000)(f:∀x∈j.1,Zbs x):F55 j=some (Js j.1):=by
 unfold F55;refine WE (fun r=>r=Js j.1) ?_ (by simp);refine Wa j.1.length _ (fun i (s:Int×Int)=>s=(Js (j.1.take i),(i:Int))) ?_ ?_ _ rfl
 ·rintro i _ a rfl;left;have h:=f _ (Vf a);have g:=ZmD (j.1.take i);rw[List.length_take]at g;refine⟨_,?_,rfl⟩;rw[Vh a,ZhL];generalize Js (j.1.take i)=W at*;simp only[ZV a,Zc,ZI a,Za,Ka a (by omega)];generalize j.1[i]=x at*;unfold Zbs at h;have e0:Js [x]=D7 x:=by simp [Js]
  rw[e0];unfold D7
  cases k:x.1 with
  |true=>
   simp
  |false=>
   simp only[Ze];by_cases c:x.2.2.2.2.2.2.1<0
   ·grind
   ·rw[Zv c];by_cases d:x.2.2.2.2.2.2.2.1<x.2.2.2.2.2.2.1
    ·grind
    ·rw[Zv d];have b:Va .i64 (x.2.2.2.2.2.2.2.1 - x.2.2.2.2.2.2.1)=x.2.2.2.2.2.2.2.1 - x.2.2.2.2.2.2.1:=Z1 (by omega) (by omega);simp only[Ze,b,Za];by_cases e:14400<x.2.2.2.2.2.2.2.1 - x.2.2.2.2.2.2.1
     ·grind
     ·rw[Zv e,Zf (by grind),Z1 (by omega) (by omega)];rfl
 simp
end Q
namespace Q
open Tr Go Dv
def Small(v:ZT):Prop:=(0<=v.2.2.1/\v.2.2.1<65536)/\(0<=v.2.2.2.1/\v.2.2.2.1<65536)
theorem Zln{a b:Int}(c:0<=a/\a<65536)(d:0<=b/\b<65536):0<=Wy .i64 a b/\Wy .i64 a b<65536:=by obtain⟨x,rfl⟩:∃x:Nat,a=(x:Int):=⟨_,(Vxa c.1).symm⟩;obtain⟨y,rfl⟩:∃y:Nat,b=(y:Int):=⟨_,(Vxa d.1).symm⟩;rw[DY (by omega) (by omega)];have:x ||| y<2 ^ 16:=Vx (n:=16) (by omega) (by omega);omega
theorem Zrq(a b d:Int)(f:0<=d):F86 a b d=some (!R7 a b d):=by
 unfold F86 R7
 have g:∀x:Int,0<=Va .u64 x:=fun x=>by simp [Va,Vt,Vq];omega
 rw[Zv (show¬d<0 by omega)];by_cases h:a<=b
 ·rw[Zi h];by_cases c:b<=a
  ·have e:a=b:=by omega
   subst e;rw[Zi c];have e0:Va .u64 (Va .u64 a - Va .u64 a)=0:=by rw[Int.sub_self];rfl
   grind
  ·rw[Zv c];simp only[Zc,Ze,Za];congr 1
   grind
 grind
def zF(s:List ZT):Nat:=s.foldl (fun a v=>a ||| v.2.2.1.toNat) 0
def mF(s:List ZT):Nat:=s.foldl (fun a v=>a ||| v.2.2.2.1.toNat) 0
theorem Zgt{f:ZT->Int} :∀(s:List ZT) (a:Nat),(∀v∈s,0<=f v/\f v<65536)->a<65536->s.foldl (fun a v=>a ||| (f v).toNat) a<65536
 |[],a,_,h=>h
 |v::s,a,b,h=>by rw[List.foldl_cons];refine Zgt s _ (by grind) ?_;have c:=b v List.mem_cons_self;have:a ||| (f v).toNat<2 ^ 16:=Vx (n:=16) (by omega) (by omega);omega
theorem ZmK{s:List ZT}(a:∀v∈s,Small v):zF s<65536:=Zgt (f:=fun v=>v.2.2.1) s 0 (fun v b=>(a v b).1) (by omega)
theorem ZrQ{s:List ZT}(a:∀v∈s,Small v):mF s<65536:=Zgt (f:=fun v=>v.2.2.2.1) s 0 (fun v b=>(a v b).2) (by omega)
def cvB(p:XE)(s:List ZT):Bool:=
 decide ((s.length:Int)<=p.2.2.1) && (decide (((G3 62 (zF s):Nat):Int)<=p.2.2.2.1) && (R7 ((s[0]?).getD rd0).1 ((s[s.length - 1]?).getD rd0).1 p.2.2.2.2.1&&decide (Tr.qandNot .i64 ((mF s:Nat):Int) p.2.2.2.2.2.1=0)))
theorem Znx(a b:Int):decide (Tr.qandNot .u64 a (Va .u64 b)=0)=decide (Tr.qandNot .i64 a b=0):=by
 have d:Vo 64 (Va .u64 b)=Vo 64 b:=by apply BitVec.eq_of_toNat_eq;rw[Vya,Vya];simp only[Va,Vt,Vq];omega
 unfold Tr.qandNot;show decide (Vhb.wrap ((Vo 64 a &&& ~~~ Vo 64 (Va .u64 b)).toNat:Int)=0)=decide (Vgb.wrap ((Vo 64 a &&& ~~~ Vo 64 b).toNat:Int)=0);rw[d];have c:=by omega
 generalize (Vo 64 a &&& ~~~ Vo 64 b).toNat=N at*;refine decide_eq_decide.2 ?_;simp only[Va,Vt,Vq]
 grind
theorem ZpK{p:XE}{s:List ZT}(e:∀v∈s,Small v)(c:0<s.length)(d:s.length<=100)(h:0<=p.2.2.2.2.1):F84 p s=some (cvB p s):=by
 unfold F84 cvB;rw[Zv (by omega)];have el:Va .i64 ((s.length:Int) - 1)=((s.length - 1:Nat):Int):=by rw[Z1 (by omega) (by omega)];omega
 have m:idx s (0:Int)=some s[0]:=ZI (i:=0) c;have b:s.length - 1<s.length:=by omega
 simp only[Ze,el,ZI b,m,Za,Zrq _ _ _ h];rw[Kr c,Kr b];by_cases g:p.2.2.1<(s.length:Int)
 ·grind
 rw[Zv g,Zi (by omega)]
 cases B:R7 (s[0]).1 (s[s.length - 1]).1 p.2.2.2.2.1 with
 |false=>
  simp
 |true=>
  simp only[Vc,Ze,Za];refine WE (fun r:Int×Int=>r=(((zF s:Nat):Int),((mF s:Nat):Int))) ?_ ?_
  ·refine Wa s.length _ (fun i (t:Int×Int×Int)=>t=(((zF (s.take i):Nat):Int),((mF (s.take i):Nat):Int),(i:Int))) ?_ ?_ _ rfl
   ·rintro i _ a rfl;left;have j:=e _ (Vf a);have D:=ZmK (s:=s.take i) (by grind);have E:=ZrQ (s:=s.take i) (by grind);have f:zF (s.take (i+1))=zF (s.take i) ||| (s[i]).2.2.1.toNat:=by unfold zF;rw[Vh a,Vbb];rfl
    have em:mF (s.take (i+1))=mF (s.take i) ||| (s[i]).2.2.2.1.toNat:=by unfold mF;rw[Vh a,Vbb];rfl
    refine⟨_,?_,rfl⟩;rw[f,em];generalize zF (s.take i)=Z at*;generalize mF (s.take i)=M at*;simp only[ZV a,Zc,ZI a,Za,Ka a (by omega),F85,F2];generalize s[i]=v at*;obtain⟨⟨u,w⟩,z,A⟩:=j;obtain⟨x,k⟩:∃x:Nat,v.2.2.1=(x:Int):=by grind
    obtain⟨y,l⟩:∃y:Nat,v.2.2.2.1=(y:Int):=by grind
    have o:Va .u64 (x:Int)=(x:Int):=by simp [Va,Vt,Vq];omega
    have q:Va .u64 (y:Int)=(y:Int):=by simp [Va,Vt,Vq];omega
    rw[k,l,o,q,Zei (by omega) (by omega),Zei (by omega) (by omega)];simp
   simp
  ·rintro r rfl;have C:=ZmK e
   have d:F1 ((zF s:Nat):Int)=some ((G3 62 (zF s):Nat):Int):=by show lenF ((zF s:Nat):Int)=_;unfold lenF;rw[Zi ⟨by omega,by omega⟩,Vr,Zsq (by omega)];rfl
   simp only[d,Za,F4,Znx]
   grind
end Q
namespace Q
open Tr Go Dv
abbrev R9:=Bool×Int×List Tk×Unit
def ZcW(c:Ky)(r:R9):Prop:=match c with
 |none=>r.1=false
 |some (s,t)=>r.1=true/\r.2.1=s/\r.2.2.1=t
def Zad(n:Nat)(f:Nat->Ky)(T:List R9):Prop:=T.length=n+1/\ ∀j,j<=n->∃r,T[j]? =some r/\ZcW (f j) r
theorem ZcW.ok{s:Int}{t:List Tk}{r:R9}(h:ZcW (some (s,t)) r):r.1=true/\r.2.1=s/\r.2.2.1=t:=h
theorem Zad.congr{n:Nat}{f g:Nat->Ky}{T:List R9}(h:Zad n f T)(e:∀j,j<=n->g j=f j):Zad n g T:=
 ⟨h.1,fun j a=>by rw[e j a];exact h.2 j a⟩
theorem Zad.set{n:Nat}{f:Nat->Ky}{T:List R9}(h:Zad n f T){i:Nat}(d:i<=n){c:Ky}{r:R9}(e:ZcW c r):Zad n (XU f i c) (T.set i r):=by
 refine⟨by rw[Vba];exact h.1,fun j b=>?_⟩;unfold XU;by_cases a:j=i
 ·subst a;rw[Zr rfl,Vea (by rw[h.1];omega)]
  grind
 ·rw[Zf a,Vz (Ne.symm a)];exact h.2 j b
end Q
namespace Q
open Tr Go Dv
theorem Zt3{F:Z9}{l:List ZT}(N:l.length<=8){T:List XW}(D:XG (KN (KB F l) l.length) T):∀(m i:Nat) (acc:List Tk),l.length - i=m->i<=l.length->acc.length<=i->∀(t:List Tk),(∃s,KN (KB F l) l.length i=some (s,t))->run
 (fun d:List Tk×Int=>
 bif decide (d.2<(↑(Vm l):Int)) then
 Vb (ZA d.2 (9:Nat)) fun h=>
 Vb T[h]? fun e=>
 Vb (Zy (decide (Vm d.1+Vm [e.2.2.2.1]<=ZC))) fun _=>
 Vb (ZA d.2 (9:Nat)) fun j=>
 Vb T[j]? fun o=>some (.inl (d.1++[e.2.2.2.1],Va .i64 (o.2.2.2.1.2.2.1+(1:Int))))
 else some (.inr d.1))
 (acc,(i:Int))=some (acc++t):=by
  intro m
  induction m using Vla with
  |_ m H=>
   intro i acc O L v t x;by_cases g:i<l.length
   ·obtain⟨s,b⟩:=x;obtain⟨p,k,q,I,J,u,K,B,C⟩:=Zt0 (KB F l) (by assumption) s t b;obtain⟨r,E,w⟩:=D.2 i (by omega);rw[b]at w;obtain⟨_,_,_,y⟩:=Gn.ok w;have a:=y _ _ u;have f:ZA (i:Int) 9=some i:=KT (by omega);have M:k<l.length:=B;have A:Va .i64 ((k:Int)+1)=((k+1:Nat):Int):=by rw[Z1 (by omega) (by omega)];omega
    have c:∀z:List Tk×Int,z=(acc++[((p:Int),(i:Int),((k:Nat):Int),(q:Int),())],((k+1:Nat):Int))->(bif decide ((i:Int)<(↑(Vm l):Int)) then
     Vb (ZA (i:Int) (9:Nat)) fun h=>
     Vb T[h]? fun e=>
     Vb (Zy (decide (Vm acc+Vm [e.2.2.2.1]<=ZC))) fun _=>
     Vb (ZA (i:Int) (9:Nat)) fun j=>
     Vb T[j]? fun o=>(some (.inl (acc++[e.2.2.2.1],Va .i64 (o.2.2.2.1.2.2.1+(1:Int)))):Option ((List Tk×Int) ⊕ List Tk))
     else some (.inr acc))=some (.inl z):=by
     rintro z rfl;simp only[ZV g,Zc,f,E,Za,a,A];rw[De (by grind)];rfl
    rw[Ho (c _ rfl)];rw[H (l.length - (k+1)) (by omega) (k+1) _ rfl (by omega) (by grind) J ⟨I,C⟩,u];simp
   ·have:i=l.length:=by omega
    subst this;obtain⟨s,b⟩:=x;rw[ZhD (KB F l) 0 l.length l.length (by assumption) (Vl _) (Vu _),KN,Zr (by rfl)]at b;have G:t=[]:=by grind
    subst G;rw[Vna];exact YC (by simp)
theorem ZqO{F:Z9}(d:(X5 F).2=0)(j:∀x∈F.1,x.1.length<=9223372036854775807)(l:List ZT)(o:l.length<=1000):
 (8<l.length/\F11 F l=some (0,[],33))\/(l.length<=8/\KN (KB F l) l.length 0=none/\F11 F l=some (0,[],34))\/(l.length<=8/\ ∃s t,KN (KB F l) l.length 0=some (s,t)/\F11 F l=some (ZfE F s,t,0)):=by
 have i:=Zqm d;unfold F11 F17;rw[Zgn F j];simp only[Za,Zi d,Vc,Ze];by_cases m:8<l.length
 ·grind
 ·right;rw[Zv (by omega)];simp only[Ze,Za,decide_true,Vc];obtain⟨T,h,e⟩:=ZpX i (show l.length<=8 by omega);rw[h];simp only[Za];obtain⟨r,k,b⟩:=e.2 0 (by omega);rw[show Int.toNat (0:Int)=0 from rfl,k];simp only[Za]
  cases a:KN (KB F l) l.length 0 with
  |none=>
   left;rw[a]at b;rw[show r.1=false from b]
   grind
  |some x=>
   right;obtain⟨s,t⟩:=x;rw[a]at b;obtain⟨f,g,_,_⟩:=Gn.ok b;have c:=Zt3 (by omega) e l.length 0 [] rfl (Vl _) (Vu _) t ⟨s,a⟩;refine⟨by omega,s,t,rfl,?_⟩;rw[f];simp only[Vc,Ze];refine WE (fun y=>y=t) ⟨_,c,rfl⟩ ?_;rintro y rfl;simp only[g,ZoL,Za]
abbrev Jc:=Int×Int×Int×Int×Int×Unit
end Q
