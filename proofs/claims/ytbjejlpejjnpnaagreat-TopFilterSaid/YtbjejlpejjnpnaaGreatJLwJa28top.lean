/- Plain laws: shortest walks and closures. -/
import Derived.Test.YtbjejlpejjnpnaaGreatFintopc
import Derived.Test.YtbjejlpejjnpnaaGreatETsF
import Derived.Test.YtbjejlpejjnpnaaGreatLxPop
open BitVec renaming ofInt_natCast ->Vu,toNat_ofNat ->Vy,ofInt ->Vja,toNat_or ->Vib
open Bool renaming not_true ->Vc,and_eq_true ->Vk,or_eq_false_iff ->Vm,not_false ->Vn,not_eq_true ->Vp,not_eq_false' ->Vx,true_and ->Vaa,false_eq_true ->Vda,or_eq_true ->Vjb
open Int renaming toNat_natCast ->Vq,le_refl ->Vea,min_eq_right ->Vab
open Go.IntKind renaming wrap ->Va,signed ->Vz,bits ->Vca,i64 ->Vmb,u64 ->Vnb
open List renaming getElem?_eq_getElem ->Vd,getElem_mem ->Vf,length ->Vg,replicate ->Vh,set ->Vi,getElem_of_mem ->Vj,take_succ_eq_append_getElem ->Vr,length_append ->Vs,range ->Vt,length_set ->Vv,getElem?_set_ne ->Vba,drop_eq_getElem_cons ->Vfa,append_assoc ->Vha,pairwise_lt_range ->Vla,getElem?_set_self ->Vma,take ->Vna,length_replicate ->Voa,getElem?_eq_none ->Vpa,pairwise_flatMap ->Vqa,replicate_succ' ->Vra,length_pos_iff ->Vsa,mem_cons ->Vta,flatMap_append ->Vua,mem_map ->Vwa,ext_getElem? ->Vxa,length_cons ->Vya,take_length ->Vza,mem_flatMap ->Vbb,countP_set ->Vdb,mem_append ->Veb,length_map ->Vfb,range_succ ->Vgb,append_nil ->Vhb,isEmpty ->Vkb,set_set ->Vlb
open Nat renaming zero_le ->Vo,le_refl ->Vw,or_lt_two_pow ->Via,strongRecOn ->Vcb
open Option renaming bind ->Vb,getD ->Ve,isSome ->Vga
open Prod.mk renaming injEq ->Vva
open Sum renaming elim_inl ->Vl,elim ->Vka
namespace Gr
inductive Wk (Ed:Nat->Nat->Int->Prop) (s:Nat):Nat->Int->Prop
 |nil:Wk Ed s s 0
 |snoc {u v:Nat}{d w:Int} (h:Wk Ed s u d) (e:Ed u v w):Wk Ed s v (d+w)
def Least(Ed:Nat->Nat->Int->Prop)(s v:Nat)(d:Int):Prop:=Wk Ed s v d/\ ∀a,Wk Ed s v a->d<=a
theorem Wk.nonneg{Ed:Nat->Nat->Int->Prop}(a:∀u v w,Ed u v w->0<=w){s v:Nat}{d:Int}(h:Wk Ed s v d):0<=d:=by
 induction h with
 |nil=>omega
 |snoc h e b=>grind
theorem ZqM{Ed:Nat->Nat->Int->Prop}(g:∀u v w,Ed u v w->0<=w){s:Nat}{S:Nat->Prop}{L:Nat->Int}{O:Nat->Int->Prop}{m:Int}
 (a:∀u,S u->∀d,Wk Ed s u d->L u<=d) (b:S s\/ ∃l,O s l/\l<=0) (c:∀u v w,S u->Ed u v w->S v\/ ∃l,O v l/\l<=L u+w) (f:∀v l,O v l->m<=l):
 ∀{v:Nat}{d:Int},Wk Ed s v d->S v\/m<=d:=by
 intro v d h
 induction h with
 |nil=>
  grind
 | @snoc u v d w h e i=>
   grind
theorem ZpF{Ed:Nat->Nat->Int->Prop}{s:Nat}{S:Nat->Prop}{L:Nat->Int}{O:Nat->Int->Prop}
 (a:S s\/ ∃l,O s l/\l<=0) (b:∀u v w,S u->Ed u v w->S v\/ ∃l,O v l/\l<=L u+w) (c:∀v l,¬O v l):∀{v:Nat}{d:Int},Wk Ed s v d->S v:=by
 intro v d h
 induction h with
 |nil=>grind
 | @snoc u v d w h e f=>grind
theorem Wk.dom{Ed a:Nat->Nat->Int->Prop}(h:∀u v w,Ed u v w->∃w',a u v w' /\w' <=w){s v:Nat}{d:Int}(k:Wk Ed s v d):∃b,Wk a s v b/\b<=d:=by
 induction k with
 |nil=>exact⟨0,.nil,Vea _⟩
 |snoc k e g=>
  obtain⟨b,c,i⟩:=g;obtain⟨w',f,j⟩:=h _ _ _ e;exact⟨_,.snoc c f,by omega⟩
inductive Wb (Ed:Nat->Nat->Int->Prop) (k:Nat):Nat->Nat->Int->Prop
 |one {i j:Nat}{w:Int} (e:Ed i j w):Wb Ed k i j w
 |cons {i m j:Nat}{w d:Int} (e:Ed i m w) (hm:m<k) (h:Wb Ed k m j d):Wb Ed k i j (w+d)
theorem Wb.nonneg{Ed:Nat->Nat->Int->Prop}(a:∀u v w,Ed u v w->0<=w){k i j:Nat}{d:Int}(h:Wb Ed k i j d):0<=d:=by
 induction h with
 |one e=>grind
 |cons e _ _ b=>grind
theorem Wb.round{Ed:Nat->Nat->Int->Prop}(r:∀u v w,Ed u v w->0<=w){k i j:Nat}{d:Int}(h:Wb Ed (k+1) i j d):
 (∃b,b<=d/\Wb Ed k i j b)\/ ∃f c,f+c<=d/\Wb Ed k i k f/\Wb Ed k k j c:=by
 induction h with
 |one e=>exact .inl ⟨_,Vea _,.one e⟩
 | @cons i m j w d e s h q=>
   by_cases p:m=k
   ·subst p;rcases q with ⟨b,l,a⟩|⟨f,c,l,a,o⟩
    ·exact .inr ⟨w,b,by omega,.one e,a⟩
    ·have:=a.nonneg r;exact .inr ⟨w,c,by omega,.one e,o⟩
   ·have g:m<k:=by omega
    rcases q with ⟨b,l,a⟩|⟨f,c,l,a,o⟩
    ·exact .inl ⟨w+b,by omega,.cons e g a⟩
    ·exact .inr ⟨w+f,c,by omega,.cons e g a,o⟩
theorem Wb.mono{Ed:Nat->Nat->Int->Prop}{k a i j:Nat}{d:Int}(c:k<=a)(h:Wb Ed k i j d):Wb Ed a i j d:=by
 induction h with
 |one e=>exact .one e
 |cons e f _ b=>exact .cons e (by omega) b
theorem Wb.app{Ed:Nat->Nat->Int->Prop}{k i m j:Nat}{b c:Int}(g:m<k)(h:Wb Ed k i m b)(f:Wb Ed k m j c):Wb Ed k i j (b+c):=by
 induction h with
 |one e=>exact .cons e g f
 | @cons i p o w d e a _ l=>
   have:=Wb.cons e a (l g f)
   grind
theorem Wb.wk{Ed:Nat->Nat->Int->Prop}{k s i j:Nat}{d a:Int}(b:Wk Ed s i a)(h:Wb Ed k i j d):Wk Ed s j (a+d):=by
 induction h generalizing a with
 |one e=>exact .snoc b e
 |cons e _ _ c=>
  have:=c (.snoc b e)
  grind
theorem Wb.snoc{Ed:Nat->Nat->Int->Prop}{k i j v:Nat}{d w:Int}(a:j<k)(h:Wb Ed k i j d)(e:Ed j v w):Wb Ed k i v (d+w):=h.app a (.one e)
theorem Wk.wb{Ed:Nat->Nat->Int->Prop}{n s v:Nat}{d:Int}(c:∀u v w,Ed u v w->u<n/\v<n)(h:Wk Ed s v d):(v=s/\d=0)\/Wb Ed n s v d:=by
 induction h with
 |nil=>omega
 | @snoc u v d w h e b=>
   rcases b with ⟨rfl,rfl⟩|a
   ·right;rw[Int.zero_add];exact .one e
   ·exact .inr (a.snoc (by grind) e)
end Gr
namespace Q
open Tr Go
abbrev Xj:=Int×Int×Int×Unit
abbrev Nd:=Xj×Int×Unit
abbrev Hp:=Unit×List Nd×Int×Unit
def ZgM(a b:Xj):Bool:=decide (a.2.1<b.2.1\/(a.2.1=b.2.1/\a.2.2.1<b.2.2.1))
def H3(a b:Nd):Bool:=decide (a.1.2.1<b.1.2.1\/(a.1.2.1=b.1.2.1/\(a.1.2.2.1<b.1.2.2.1\/(a.1.2.2.1=b.1.2.2.1/\a.2.1<b.2.1))))
def le(a b:Nd):Prop:= ¬(b.1.2.1<a.1.2.1\/(b.1.2.1=a.1.2.1/\(b.1.2.2.1<a.1.2.2.1\/(b.1.2.2.1=a.1.2.2.1/\b.2.1<a.2.1))))
theorem le_refl(a:Nd):le a a:=by unfold le;omega
theorem le_trans{a b c:Nd}(h:le a b)(k:le b c):le a c:=by unfold le at*;omega
theorem ZgH{a b:Nd}(h:H3 a b=true):le a b:=by
 unfold H3 at h;unfold le
 grind
theorem ZgI{a b:Nd}(h:H3 a b=false):le b a:=by unfold H3 at h;exact of_decide_eq_false h
theorem Zrf{a b:Nd}(h:le a b):a.1.2.1<=b.1.2.1:=by unfold le at h;omega
def nd0:Nd:=((0,0,0,()),0,())
def ZN(l:List Nd)(k:Nat):Nd:=(l[k]?).getD nd0
theorem ZbI{l:List Nd}{k:Nat}(h:k<l.length):l[k]? =some (ZN l k):=by simp [ZN,h]
theorem ZiI{l:List Nd}{i:Nat}(h:i<l.length)(b:Nd)(k:Nat):ZN (l.set i b) k=if k=i then b else ZN l k:=by
 unfold ZN
 grind
def JJ(l:List Nd)(i k:Nat):List Nd:=(l.set i (ZN l k)).set k (ZN l i)
theorem Dw(l:List Nd)(i k:Nat):(JJ l i k).length=l.length:=by simp [JJ]
theorem GD{l:List Nd}{i k:Nat}(a:i<l.length)(b:k<l.length)(j:Nat):ZN (JJ l i k) j=if j=k then ZN l i else if j=i then ZN l k else ZN l j:=by unfold JJ;rw[ZiI (by grind),ZiI a]
theorem ZhD{l:List Nd}{i k:Nat}(a:i<l.length)(b:k<l.length):(JJ l i k).Perm l:=by
 have c:ZN l k=l[k]:=by simp [ZN,b]
 have d:ZN l i=l[i]:=by simp [ZN,a]
 unfold JJ
 grind
theorem Zrr(a b:Xj):F176 a b=some (ZgM a b):=by
 unfold F176 ZgM
 grind
theorem ZfB{l:List Nd}{c:Int}{i k:Nat}(a:i<l.length)(b:k<l.length):F72 ((),l,c,()) (i:Int) (k:Int)=some (((),l,c,()),H3 (ZN l i) (ZN l k)):=by
 unfold F72;simp only[Kg a,Kg b,ZbI a,ZbI b,Za,Zrr];unfold ZgM H3;by_cases d:(ZN l i).1.2.1<(ZN l k).1.2.1\/((ZN l i).1.2.1=(ZN l k).1.2.1/\(ZN l i).1.2.2.1<(ZN l k).1.2.2.1)
 ·grind
 ·rw[Zk d];simp only[Zd];by_cases e:(ZN l k).1.2.1<(ZN l i).1.2.1\/((ZN l k).1.2.1=(ZN l i).1.2.1/\(ZN l k).1.2.2.1<(ZN l i).1.2.2.1)
  ·rw[Ze e];simp only[Zc];rw[Zk (by omega)]
  grind
theorem ZhE{l:List Nd}{c:Int}{i k:Nat}(b:i<l.length)(d:k<l.length):F74 ((),l,c,()) (i:Int) (k:Int)=some ((),JJ l i k,c,()):=by
 unfold F74;have a:k<(Vi l i (ZN l k)).length:=by grind
 simp only[Kg b,Kg d,ZbI b,ZbI d,Za,Kg a];rw[Vd a];rfl
def Yc(l:List Nd):Prop:= ∀k,0<k->k<l.length->le (ZN l ((k - 1) / 2)) (ZN l k)
theorem ZqS{l:List Nd}(h:Yc l):∀k,k<l.length->le (ZN l 0) (ZN l k):=by
 intro k
 induction k using Vcb with
 |ind k c=>
  intro b;by_cases a:k=0
  ·subst a;exact le_refl _
  ·exact le_trans (by grind) (h k (by omega) b)
def Up(l:List Nd)(i:Nat):Prop:=
 i<l.length/\(∀k,0<k->k<l.length->k≠i->le (ZN l ((k - 1) / 2)) (ZN l k))/\ ∀k,0<k->k<l.length->(k - 1) / 2=i->0<i->le (ZN l ((i - 1) / 2)) (ZN l k)
theorem Zt2{l:List Nd}{i:Nat}(h:Up l i)(t:0<i)(q:H3 (ZN l i) (ZN l ((i - 1) / 2))=true):Up (JJ l i ((i - 1) / 2)) ((i - 1) / 2):=by
 obtain⟨g,j,s⟩:=h;have d:(i - 1) / 2<l.length:=by omega
 have m:=ZgH q;refine⟨by rw[Dw];omega,fun k o f p=>?_,fun k o f p r=>?_⟩
 ·rw[Dw]at f;rw[GD g d,GD g d];by_cases c:k=i
  ·grind
  ·rw[Zg p,Zg c];by_cases u:(k - 1) / 2=i
   ·grind
   ·by_cases e:(k - 1) / 2=(i - 1) / 2
    ·rw[Zn e];have:=j k o f c;rw[e]at this;exact le_trans m this
    grind
 ·rw[Dw]at f;rw[GD g d,GD g d,Zg (by omega),Zg (by omega)];by_cases c:k=i
  ·grind
  ·rw[Zg (by omega),Zg c];have a:=j _ r d (by omega);have b:=j k o f c;rw[p]at b;exact le_trans a b
theorem Zll{l:List Nd}{c:Int}(x:Xj)(h:Yc l)(E:l.length<2147483648):
 ∃z:Hp,F71 ((),l,c,()) x=some z/\z.2.2.1=Va .i64 (c+1)/\Yc z.2.1/\z.2.1.Perm (l++[(x,c,())]):=by
 have b:(l++[(x,c,())]).length=l.length+1:=by simp
 have A:Up (l++[(x,c,())]) l.length:=by
  refine⟨by omega,fun k d g F=>?_,by omega⟩;have e:∀j,j<l.length->ZN (l++[(x,c,())]) j=ZN l j:=fun j C=>by simp [ZN,List.getElem?_append_left C]
  rw[e _ (by omega),e _ (by omega)];exact h k d (by omega)
 unfold F71
 have w:ZE (decide (l.length+ [((x,c,()):Nd)].length<=Zz))=some ():=by rw[Ze (by simp [Zz];omega)];rfl
 have y:Va .i64 (((l++[(x,c,())]).length:Int) - 1)=(l.length:Int):=by rw[b,Zy (by omega) (by omega)];omega
 simp only[w,Za,y]
 refine run_bind (fun s=>∃(m:List Nd) (i:Nat),s=(((),m,Va .i64 (c+1),()),(i:Int))/\Up m i/\m.Perm (l++[(x,c,())])) (fun s=>s.2.toNat)
  (fun r=>∃m:List Nd,r=((),m,Va .i64 (c+1),())/\Yc m/\m.Perm (l++[(x,c,())])) ⟨_,l.length,rfl,A,.refl _⟩ ?_ ?_
 ·rintro s ⟨m,i,rfl,a,f⟩;have D:m.length=l.length+1:=by rw[f.length_eq,b]
  by_cases B:0<i
  ·have t:Va .i64 ((i:Int) - 1)=((i - 1:Nat):Int):=by have:=a.1;rw[Zy (by omega) (by omega)];omega
   have u:Int.tdiv ((i - 1:Nat):Int) 2=(((i - 1) / 2:Nat):Int):=by rfl
   have v:Va .i64 ((((i - 1) / 2:Nat)):Int)=(((i - 1) / 2:Nat):Int):=by have:=a.1;exact Zy (by omega) (by omega)
   have o:(i - 1) / 2<m.length:=by have:=a.1;omega
   simp only[show decide ((0:Int)<(i:Int))=true from (by grind),Zc,t,u,v,ZfB a.1 o,Za]
   cases p:H3 (ZN m i) (ZN m ((i - 1) / 2)) with
   |true=>
    left;refine⟨_,by simp only[Zc,ZhE a.1 o,Za],⟨JJ m i ((i - 1) / 2),(i - 1) / 2,rfl,Zt2 a B p,(ZhD a.1 o).trans f⟩,?_⟩
    omega
   |false=>
    right;refine⟨_,rfl,m,rfl,fun k d g=>?_,f⟩;by_cases q:k=i
    ·subst q;exact ZgI p
    ·exact a.2.1 k d g q
  ·right;have:i=0:=by omega
   subst this;refine⟨_,by rfl,m,rfl,fun k d g=>a.2.1 k d g (by omega),f⟩
 grind
def Dn(l:List Nd)(i:Nat):Prop:=
 (∀k,0<k->k<l.length->(k - 1) / 2≠i->le (ZN l ((k - 1) / 2)) (ZN l k))/\ ∀k,0<k->k<l.length->(k - 1) / 2=i->0<i->le (ZN l ((i - 1) / 2)) (ZN l k)
theorem Zp5{l:List Nd}{i c:Nat}(h:Dn l i)(b:i<l.length)(a:c<l.length)(e:(c - 1) / 2=i)(m:0<c)(j:H3 (ZN l c) (ZN l i)=true)(t:∀k,0<k->k<l.length->(k - 1) / 2=i->le (ZN l c) (ZN l k)):Dn (JJ l i c) c:=by
 obtain⟨r,s⟩:=h;have o:=ZgH j;refine⟨fun k q f g=>?_,fun k q f g u=>?_⟩
 ·rw[Dw]at f;rw[GD b a,GD b a,Zg g];by_cases d:k=i
  ·grind
  ·by_cases p:(k - 1) / 2=i
   ·grind
   ·rw[Zg p,Zg (by omega),Zg d]
    grind
 ·rw[Dw]at f;rw[e,GD b a,GD b a,Zg (by omega),Zn rfl,Zg (by omega),Zg (by omega)]
  grind
theorem Zjn{l:List Nd}{i:Nat}(h:Dn l i)(d:∀k,0<k->k<l.length->(k - 1) / 2=i->le (ZN l i) (ZN l k)):Yc l:=by
 intro k b c;by_cases a:(k - 1) / 2=i
 ·grind
 ·exact h.1 k b c a
theorem Ztl{l:List Nd}{c:Int}(h:Dn l 0)(H:l.length<2147483648):∃z:Hp,F73 ((),l,c,())=some z/\z.2.2.1=c/\Yc z.2.1/\z.2.1.Perm l:=by
 unfold F73;simp only
 refine run_bind (fun s=>∃(m:List Nd) (i:Nat),s=(((),m,c,()),(i:Int))/\(i<m.length\/i=0)/\Dn m i/\m.Perm l) (fun s=>l.length - s.2.toNat)
  (fun r=>∃m:List Nd,r=((),m,c,())/\Yc m/\m.Perm l) ⟨l,0,rfl,.inr rfl,h,.refl _⟩ ?_ ?_
 ·rintro s ⟨m,i,rfl,F,t,p⟩;have D:m.length=l.length:=p.length_eq;have y:Va .i64 ((2:Int) * (i:Int))=((2*i:Nat):Int):=by rw[Zy (by omega) (by omega)];omega
  have A:Va .i64 (((2*i:Nat):Int)+1)=((2*i+1:Nat):Int):=by rw[Zy (by omega) (by omega)];omega
  have B:Va .i64 (((2*i+1:Nat):Int)+1)=((2*i+2:Nat):Int):=by rw[Zy (by omega) (by omega)];omega
  simp only[y,A,B];by_cases G:m.length<=2*i+1
  ·right;refine⟨_,by grind,m,rfl,Zjn t (by omega),p⟩
  ·simp only[show decide ((m.length:Int)<=((2*i+1:Nat):Int))=false from (by grind),Zd];have e:i<m.length:=by omega
   have fin:∀a:Nat,(a=2*i+1\/a=2*i+2)->a<m.length->(∀k,0<k->k<m.length->(k - 1) / 2=i->le (ZN m a) (ZN m k))->
    (∃x:Hp×Int,(Vb (F72 ((),m,c,()) (a:Int) (i:Int)) fun b=>
       bif !b.snd then some (Sum.inr ((),b.fst.snd.fst,b.fst.snd.snd.fst,()))
       else Vb (F74 ((),b.fst.snd.fst,b.fst.snd.snd.fst,()) (i:Int) (a:Int)) fun o=>some (Sum.inl (((),o.snd.fst,o.snd.snd.fst,()),(a:Int))))=some (Sum.inl x:(Hp×Int) ⊕ Hp)/\
       (∃(f:List Nd) (q:Nat),x=(((),f,c,()),(q:Int))/\(q<f.length\/q=0)/\Dn f q/\f.Perm l)/\l.length - x.2.toNat<l.length - (i:Int).toNat)\/
    ∃r:Hp,(Vb (F72 ((),m,c,()) (a:Int) (i:Int)) fun b=>
       bif !b.snd then some (Sum.inr ((),b.fst.snd.fst,b.fst.snd.snd.fst,()))
       else Vb (F74 ((),b.fst.snd.fst,b.fst.snd.snd.fst,()) (i:Int) (a:Int)) fun o=>some (Sum.inl (((),o.snd.fst,o.snd.snd.fst,()),(a:Int))))=some (Sum.inr r:(Hp×Int) ⊕ Hp)/\
      ∃f:List Nd,r=((),f,c,())/\Yc f/\f.Perm l:=by
    intro a C d E;rw[ZfB d e];simp only[Za]
    cases g:H3 (ZN m a) (ZN m i) with
    |true=>
     left;refine⟨_,by simp only[Vc,Zd,ZhE e d,Za],⟨JJ m i a,a,rfl,.inl (by rw[Dw];omega),Zp5 t e d (by omega) (by omega) g E,(ZhD e d).trans p⟩,?_⟩
     omega
    |false=>
     right;exact⟨_,by rfl,m,rfl,Zjn t fun k u v w=>le_trans (ZgI g) (by grind),p⟩
   by_cases j:2*i+2<m.length
   ·simp only[show decide (((2*i+2:Nat):Int)<(m.length:Int))=true from (by grind),Zc,ZfB j (show 2*i+1<m.length by omega),Za]
    cases g:H3 (ZN m (2*i+2)) (ZN m (2*i+1)) with
    |true=>
     simp only[Zc,Za]
     exact fin (2*i+2) (.inr rfl) j fun k u v w=>by
      have:k=2*i+1\/k=2*i+2:=by omega
      rcases this with rfl|rfl
      ·exact ZgH g
      ·exact le_refl _
    |false=>
     simp only[Zd,Za]
     exact fin (2*i+1) (.inl rfl) (by omega) fun k u v w=>by
      have:k=2*i+1\/k=2*i+2:=by omega
      rcases this with rfl|rfl
      ·exact le_refl _
      ·exact ZgI g
   ·simp only[show decide (((2*i+2:Nat):Int)<(m.length:Int))=false from (by grind),Zd]
    exact fin (2*i+1) (.inl rfl) (by omega) fun k u v w=>by
     have:k=2*i+1:=by omega
     subst this;exact le_refl _
 grind
theorem Zr8(c:Int):F70 ((),[],c,())=some (((),[],c,()),(0,0,0,()),false):=by rfl
theorem Zsa{l:List Nd}{c:Int}(h:Yc l)(o:l≠ [])(G:l.length<2147483648):
 ∃f x,F70 ((),l,c,())=some (((),f,c,()),x.1,true)/\Yc f/\l.Perm (x::f)/\ ∀y∈l,x.1.2.1<=y.1.2.1:=by
 have b:0<l.length:=Vsa.2 o;have a:l.length - 1<l.length:=by omega
 have d:F69 ((),l,c,())=some (((),l,c,()),(ZN l 0).1,true):=by unfold F69 F68;simp only[Za,show decide ((l.length:Int)=0)=false from (by grind),Zd];rw[show (0:Int)=((0:Nat):Int) from rfl,Kg b];simp only[Za,ZbI b]
 have r:Va .i64 ((l.length:Int) - 1)=((l.length - 1:Nat):Int):=by rw[Zy (by omega) (by omega)];omega
 have v:sliceB (JJ l 0 (l.length - 1)).length (JJ l 0 (l.length - 1)).length none (some ((l.length - 1:Nat):Int))=some (0,l.length - 1):=by unfold sliceB;rw[Dw];simp
 have u:Dn (Vna (l.length - 1) (JJ l 0 (l.length - 1))) 0:=by
  refine⟨fun k A B H=>?_,by omega⟩;simp [Dw]at B
  have e:∀j,j<l.length - 1->j≠0->ZN (Vna (l.length - 1) (JJ l 0 (l.length - 1))) j=ZN l j:=fun j F g=>by
   have:ZN (Vna (l.length - 1) (JJ l 0 (l.length - 1))) j=ZN (JJ l 0 (l.length - 1)) j:=by unfold ZN;grind
   rw[this,GD b a,Zg (by omega),Zg g]
  rw[e _ (by omega) (by omega),e _ (by omega) (by omega)];exact h k A (by omega)
 obtain⟨⟨_,f,C,_⟩,D,rfl,s,E⟩:=Ztl (c:=c) u (by grind);refine⟨f,ZN l 0,?_,s,?_,fun y z=>?_⟩
 ·unfold F70;rw[d];simp only[Za,Vc,Zd,r];rw[show (0:Int)=((0:Nat):Int) from rfl,ZhE b a]
  grind
 ·have w:=ZhD b a
  have e:JJ l 0 (l.length - 1)=Vna (l.length - 1) (JJ l 0 (l.length - 1))++[ZN l 0]:=by
   conv=>lhs;rw[<-List.take_append_drop (l.length - 1) (JJ l 0 (l.length - 1))]
   congr 1;have m:(JJ l 0 (l.length - 1)).length=l.length:=Dw ..;rw[Vfa (by omega)];have t:List.drop (l.length - 1+1) (JJ l 0 (l.length - 1))=[]:=by grind
   rw[t];have p:=GD b a (l.length - 1);rw[Zn rfl]at p;rw[<-p];simp [ZN,m,a]
  grind
 ·obtain⟨i,q,rfl⟩:=Vj z;have:=Zrf (ZqS h i q);simpa [ZN,q] using this
end Q
namespace Q
open Tr Go Gr
abbrev Ya:=Int×Int×Int×Unit
abbrev Adj:=List (Int×List Ya)
def W2(m:Adj)(u:Nat):List Ya:=Ve (ZI (Zj (.int .i64)) (u:Int) m) []
structure ZeW (n:Nat) (m:Adj) (Ed:Nat->Nat->Int->Prop):Prop where
 mem:∀u,u<n->∀y∈W2 m u,∃v:Nat,v<n/\y.2.1=(v:Int)/\0<=y.2.2.1/\y.2.2.1<=1073741824/\Ed u v y.2.2.1
 all:∀u v w,Ed u v w->u<n/\ ∃y∈W2 m u,y.2.1=(v:Int)/\y.2.2.1=w
 len:∀u,u<n->(W2 m u).length<=4096
def JU(x:Xj):Bool:=decide (0<=x.2.2.1)
def Y2(o:List Xj)(i:Nat):Prop:= ∃x,o[i]? =some x/\0<=x.2.2.1
def lenOf(o:List Xj)(i:Nat):Int:=((o[i]?).getD (0,0,0,())).2.1
structure DI (n:Nat) (Ed:Nat->Nat->Int->Prop) (s:Nat) (o:List Xj) (h:List Nd):Prop where
 len:o.length=n
 heap:Yc h
 lab:∀i x,o[i]? =some x->(x.2.2.1<0->x.2.1= -1)/\(0<=x.2.2.1->Least Ed s i x.2.1)
 opn:∀d∈h,∃v:Nat,v<n/\d.1.1=(v:Int)/\Wk Ed s v d.1.2.1/\0<=d.1.2.2.1/\d.1.2.2.1<=(o.countP JU:Nat)/\d.1.2.1<=d.1.2.2.1*1073741824
 src:Y2 o s\/ ∃d∈h,d.1.1=(s:Int)/\d.1.2.1<=0
 out:∀u v w,Y2 o u->Ed u v w->Y2 o v\/ ∃d∈h,d.1.1=(v:Int)/\d.1.2.1<=lenOf o u+w
 size:h.length+(n - o.countP JU) *4096<=1+n*4096
theorem ZfT(o:List Xj):o.countP JU<=o.length:=List.countP_le_length
theorem ZpY{n:Nat}{Ed:Nat->Nat->Int->Prop}{s:Nat}{o:List Xj}{h b:List Nd}{x:Nd}{v:Nat}(a:DI n Ed s o h)(i:Yc b)(j:h.Perm (x::b))(q:x.1.1=(v:Int))(p:Y2 o v):DI n Ed s o b where
 len:=a.len
 heap:=i
 lab:=a.lab
 opn:=fun d m=>a.opn d (by grind)
 src:=by
  rcases a.src with c|⟨d,c,e,f⟩
  all_goals grind
 out:=fun u l w k g=>by
  rcases a.out u l w k g with c|⟨d,c,e,f⟩
  all_goals grind
 size:=by
  have:=j.length_eq;have:=a.size
  grind
theorem Zma{o:List Xj}{v:Nat}{x:Xj}(c:0<=x.2.2.1){i:Nat}(h:Y2 o i):Y2 (o.set v x) i:=by
 obtain⟨y,d,a⟩:=h;by_cases b:v=i
 ·subst b;have e:v<o.length:=by grind
  exact⟨x,by grind,c⟩
 ·exact⟨y,by grind,a⟩
theorem ZpZ{n:Nat}{Ed:Nat->Nat->Int->Prop}{m:Adj}(F:ZeW n m Ed){s:Nat}{o:List Xj}{h K D:List Nd}{x:Nd}{v:Nat}{y:Xj}(k:DI n Ed s o h)(hv:v<n)(V:h.Perm (x::K))(b5:x.1.1=(v:Int))
 (a7:∀d∈h,x.1.2.1<=d.1.2.1) (ho:o[v]? =some y) (hy:y.2.2.1<0) (Q:Yc D) (b1:D.length<=K.length+(W2 m v).length) (h1:∀d∈K,d∈D)
 (h3:∀d∈D,d∈K\/ ∃e∈W2 m v,d.1.1=e.2.1/\d.1.2.1=x.1.2.1+e.2.2.1/\d.1.2.2.1=x.1.2.2.1+1)
 (h4:∀e∈W2 m v,(∃t:Nat,e.2.1=(t:Int)/\Y2 (o.set v x.1) t)\/ ∃d∈D,d.1.1=e.2.1/\d.1.2.1=x.1.2.1+e.2.2.1):DI n Ed s (o.set v x.1) D:=by
 have hw:∀u v w,Ed u v w->0<=w:=fun u v w e=>by obtain⟨B,z,j,g,rfl⟩:=F.all u v w e;obtain⟨f,_,_,r,_⟩:=F.mem u B z j;omega
 have X:x∈h:=by grind
 obtain⟨f,b3,b4,J,A,a9,b0⟩:=k.opn x X;have:f=v:=by omega
 subst this;have T:f<o.length:=by grind
 have p:(o.set f x.1)[f]? =some x.1:=by grind
 have H:∀{i},i≠f->(o.set f x.1)[i]? =o[i]? :=by grind
 have U:o[f]=y:=by
  grind
 have a0:(o.set f x.1).countP JU=o.countP JU+1:=by
  rw[Vdb T,U];have a:JU y=false:=by simp [JU];omega
  have b:JU x.1=true:=by simp [JU];omega
  grind
 have b2:(o.set f x.1).countP JU<=n:=by have:=ZfT (o.set f x.1);rw[Vv,k.len]at this;omega
 have M:Least Ed s f x.1.2.1:=by
  refine⟨J,fun d G=>?_⟩
  have:=ZqM (S:=Y2 o) (L:=lenOf o) (O:=fun v l=>∃d∈h,d.1.1=(v:Int)/\d.1.2.1=l) (m:=x.1.2.1) hw (fun u B d G=>by
   obtain⟨z,j,q⟩:=B;have:=((k.lab u z j).2 q).2 d G
   simpa [lenOf,j] using this) (by
   rcases k.src with g|⟨d,g,r,C⟩
   all_goals grind) (fun u v w B E=>by
   rcases k.out u v w B E with g|⟨d,g,r,C⟩
   all_goals grind) (by grind) G
  rcases this with ⟨z,j,q⟩|g
  all_goals grind
 have R:∀u,Y2 o u->lenOf (o.set f x.1) u=lenOf o u:=fun u B=>by
  obtain⟨z,j,q⟩:=B;have a8:u≠f:=by grind
  unfold lenOf
  grind
 refine⟨by rw[Vv];exact k.len,Q,fun i z j=>?_,fun d G=>?_,?_,fun u Y w B E=>?_,?_⟩
 ·by_cases hi:i=f
  ·grind
  ·rw[H hi]at j;exact k.lab i z j
 ·rcases h3 d G with g|⟨e,E,g,r,C⟩
  ·obtain⟨t,Z,a2,a3,a4,a5,a6⟩:=k.opn d (by grind)
   grind
  ·obtain⟨t,Z,a2,a3,a4,a5⟩:=F.mem f hv e E;refine⟨t,Z,g.trans a2,by rw[r];exact .snoc J a5,by omega,by omega,?_⟩;omega
 ·rcases k.src with g|⟨d,g,r,C⟩
  ·exact .inl (Zma A g)
  ·rcases Vta.1 (V.mem_iff.1 g) with rfl|N
   ·have:s=f:=by omega
    subst this;exact .inl ⟨_,p,A⟩
   grind
 ·by_cases I:u=f
  ·subst I;obtain⟨_,e,P,g,rfl⟩:=F.all u Y w E;rcases h4 e P with ⟨t,r,C⟩|⟨d,r,C,N⟩
   ·grind
   ·refine .inr ⟨d,r,C.trans g,?_⟩;rw[N];simp [lenOf,p]
  ·have W:Y2 o u:=by obtain⟨z,j,q⟩:=B;rw[H I]at j;exact⟨z,j,q⟩
   rcases k.out u Y w W E with g|⟨d,g,r,C⟩
   ·exact .inl (Zma A g)
   ·rcases Vta.1 (V.mem_iff.1 g) with rfl|N
    ·have:Y=f:=by omega
     subst this;exact .inl ⟨_,p,A⟩
    grind
 ·have a:=V.length_eq;have b:=k.size;have c:=F.len f hv
  grind
end Q
namespace Q
open Tr Go Gr
def Ze4(n:Nat)(Ed:Nat->Nat->Int->Prop)(s:Nat)(o:List Xj):Prop:=
 o.length=n/\ ∀i x,o[i]? =some x->(Least Ed s i x.2.1/\0<=x.2.1)\/((∀d,¬Wk Ed s i d)/\x.2.1= -1)
theorem Zra{n:Nat}(hn:n<=64){m:Adj}{Ed:Nat->Nat->Int->Prop}(R:ZeW n m Ed){s:Nat}(hs:s<n):
 ∃z,F174 (n:Int) m (s:Int)=some z/\z.1=m/\Ze4 n Ed s z.2:=by
 have hw:∀u v w,Ed u v w->0<=w:=fun u v w e=>by obtain⟨hu,z,hz,P,rfl⟩:=R.all u v w e;obtain⟨v',_,_,h6,_⟩:=R.mem u hu z hz;omega
 unfold F174
 have eg:ZE (decide ((0:Int)<=(n:Int)/\(n:Int)<=(n:Int)/\(n:Int)<=(Zz:Int)))=some ():=by rw[Ze (by simp [Zz];omega)];rfl
 rw[show ZE _=some () from eg];simp only[Za,Voa,Vq]
 refine Xh (fun st=>∃(o:List Xj) (i:Nat),st=(o,(i:Int))/\o.length=n/\i<=n/\ ∀j,j<i->o[j]? =some ((j:Int), -1, -1,())) (fun st=>n - st.2.toNat)
  (fun o=>o.length=n/\ ∀j,j<n->o[j]? =some ((j:Int), -1, -1,())) ⟨_,0,rfl,by simp,Vo _,by omega⟩ ?_ ?_
 ·rintro st ⟨o,i,rfl,h1,h2,h3⟩;by_cases hi:i<n
  ·have X:i<o.length:=by omega
   have e1:Va .i64 ((i:Int)+1)=((i+1:Nat):Int):=by rw[Zy (by omega) (by omega)];omega
   simp only[show decide ((i:Int)<(n:Int))=true from (by grind),Zc,Kg X,Za,Vd X,e1]
   grind
  ·have:i=n:=by omega
   simp_all
 ·rintro o0 ⟨a7,a8⟩;obtain⟨⟨_,h0,c0,_⟩,K,_,a0,A⟩:=Zll (l:=[]) (c:=0) ((s:Int),0,0,()) (fun k k1 k2=>by grind) (by simp);simp only at a0 A;unfold F76;simp only[Za];rw[show F71 _ _=some _ from K];simp only[Za];have J:∀d,d∈h0↔d=((((s:Int),0,0,()),0,()):Nd):=by grind
  have a6:o0.countP JU=0:=by rw[List.countP_eq_zero];intro a ha;obtain⟨i,hi,rfl⟩:=Vj ha;have:=a8 i (by omega);rw[Vd hi]at this;simp only[Option.some.injEq]at this;rw[this];simp [JU]
  have a5:DI n Ed s o0 h0:= {
   len:=a7
   heap:=a0
   lab:=by grind
   opn:=fun d U=>by rw[J]at U;subst U;exact⟨s,hs,rfl,.nil,Vea _,by simp,by simp⟩
   src:=by simp_all
   out:=fun u v w hu=>by
    obtain⟨x,hx,a4⟩:=hu
    grind
   size:=by
    have:=A.length_eq
    grind}
  refine Xh (fun st=>∃(o:List Xj) (h:List Nd) (c:Int),st=(o,(),h,c,())/\DI n Ed s o h) (fun st=>(n - st.1.countP JU) *8192+st.2.2.1.length)
   (fun o=>Ze4 n Ed s o) ⟨o0,h0,c0,rfl,a5⟩ ?_ (by simp)
  rintro st ⟨o,h,c,rfl,y⟩;simp only;have b4:h.length<=300000:=by have:=y.size;omega
  have b0:h.length<2147483648:=by omega
  by_cases Z:h=[]
  ·subst Z;rw[Zr8];simp only[Za,Vn,Zc];refine⟨_,rfl,y.len,fun i x hx=>?_⟩;by_cases a4:0<=x.2.2.1
   ·have:=(y.lab i x hx).2 a4;exact .inl ⟨this,this.1.nonneg hw⟩
   ·refine .inr ⟨fun d U=>?_,(y.lab i x hx).1 (by omega)⟩
    have:=ZpF (S:=Y2 o) (L:=lenOf o) (O:=fun _ _=>False) (by
     rcases y.src with P|⟨d,P,_⟩
     all_goals grind) (fun u v w hu he=>by
     rcases y.out u v w hu he with P|⟨d,P,_⟩
     all_goals grind) (by simp) U
    obtain⟨z,hz,d0⟩:=this
    grind
  ·obtain⟨E,x,a2,F,hp,Y⟩:=Zsa (c:=c) y.heap Z b0;rw[a2];simp only[Za,Vc,Zd];obtain⟨v,hv,N,b1,b7,c4,c5⟩:=y.opn x (by grind);have D:v<o.length:=by rw[y.len];omega
   have a9:=hp.length_eq;simp only[Vya]at a9;have b5:o.countP JU<=n:=by have:=ZfT o;rw[y.len]at this;omega
   simp only[N,Kg D,Za,Vd D];have a1:o[v]? =some o[v]:=Vd D;by_cases a3:0<=(o[v]).2.2.1
   ·simp only[show decide ((0:Int)<=(o[v]).2.2.1)=true from (by grind),Zc];exact⟨_,rfl,⟨o,E,c,rfl,ZpY y F hp N ⟨_,a1,a3⟩⟩,by grind⟩
   ·simp only[show decide ((0:Int)<=(o[v]).2.2.1)=false from (by grind),Zd];have T:Ve (ZI (Zj Y3) (v:Int) m) []=W2 m v:=rfl;have b6:=R.len v hv;have c8:0<=x.1.2.1:=b1.nonneg hw;have c9:x.1.2.1<=68719476736:=by omega
    refine Xh (fun st=>∃(g:List Nd) (B:Int) (j:Nat),st=(((),g,B,()),(j:Int))/\j<=(W2 m v).length/\Yc g/\g.length<=E.length+j/\(∀d∈E,d∈g)/\
     (∀d∈g,d∈E\/ ∃e∈W2 m v,d.1.1=e.2.1/\d.1.2.1=x.1.2.1+e.2.2.1/\d.1.2.2.1=x.1.2.2.1+1)/\
     ∀k e,k<j->(W2 m v)[k]? =some e->(∃t:Nat,e.2.1=(t:Int)/\Y2 (o.set v x.1) t)\/ ∃d∈g,d.1.1=e.2.1/\d.1.2.1=x.1.2.1+e.2.2.1) (fun st=>(W2 m v).length - st.2.toNat)
     (fun r=>∃(g:List Nd) (B:Int),r=((),g,B,())/\Yc g/\g.length<=E.length+(W2 m v).length/\(∀d∈E,d∈g)/\
       (∀d∈g,d∈E\/ ∃e∈W2 m v,d.1.1=e.2.1/\d.1.2.1=x.1.2.1+e.2.2.1/\d.1.2.2.1=x.1.2.2.1+1)/\
       ∀e∈W2 m v,(∃t:Nat,e.2.1=(t:Int)/\Y2 (o.set v x.1) t)\/ ∃d∈g,d.1.1=e.2.1/\d.1.2.1=x.1.2.1+e.2.2.1)
     ⟨E,c,0,rfl,Vo _,F,Vw _,fun _ h=>h,by grind,by omega⟩ ?_ ?_
    ·rintro st ⟨g,B,j,rfl,hj,W,H,g1,g2,Q⟩;simp only[T];by_cases f:j<(W2 m v).length
     ·obtain⟨t,ht,V,b8,b9,c1⟩:=R.mem v hv _ (Vf f);have M:t<(Vi o v x.1).length:=by rw[Vv,y.len];omega
      have e1:Va .i64 ((j:Int)+1)=((j+1:Nat):Int):=by rw[Zy (by omega) (by omega)];omega
      simp only[show decide ((j:Int)<((W2 m v).length:Int))=true from (by grind),Zc,Kg f,Za,Vd f,V,Kg M,Vd M,e1];by_cases c7:(Vi o v x.1)[t].2.2.1<0
      ·have e2:Va .i64 (x.1.2.1+((W2 m v)[j]).2.2.1)=x.1.2.1+((W2 m v)[j]).2.2.1:=Zy (by omega) (by omega);have e3:Va .i64 (x.1.2.2.1+1)=x.1.2.2.1+1:=Zy (by omega) (by omega);simp only[show decide ((Vi o v x.1)[t].2.2.1<0)=true from (by grind),Zc,e2,e3];obtain⟨⟨_,g',c2,_⟩,C,_,G,q⟩:=Zll (c:=B) ((t:Int),x.1.2.1+((W2 m v)[j]).2.2.1,x.1.2.2.1+1,()) W (by omega);simp only at G q;rw[show F71 _ _=some _ from C];simp only[Za];have c6:∀d,d∈g' ↔d∈g\/d=(((t:Int),x.1.2.1+((W2 m v)[j]).2.2.1,x.1.2.2.1+1,()),B,()):=by grind
       refine⟨_,rfl,⟨g',c2,j+1,rfl,f,G,?_,by grind,fun d U=>?_,fun k e hk p=>?_⟩,by omega⟩
       ·have:=q.length_eq;grind
       ·grind
       ·by_cases I:k=j
        ·subst I;rw[Vd f]at p;cases p;simp [*]
        ·rcases Q k e (by omega) p with P|⟨d,P,h6⟩
         all_goals grind
      ·simp only[show decide ((Vi o v x.1)[t].2.2.1<0)=false from (by grind),Zd];refine⟨_,rfl,⟨g,B,j+1,rfl,f,W,by omega,g1,g2,fun k e hk p=>?_⟩,by omega⟩;by_cases I:k=j
       ·subst I;rw[Vd f]at p;cases p;exact .inl ⟨t,V,_,Vd M,by omega⟩
       ·exact Q k e (by omega) p
     ·have:j=(W2 m v).length:=by omega
      subst this;simp only[show decide (((W2 m v).length:Int)<((W2 m v).length:Int))=false by simp,Zd];refine⟨_,rfl,g,B,rfl,W,H,g1,g2,fun e he=>?_⟩;obtain⟨k,hk,rfl⟩:=Vj he;exact Q k _ hk (by simp)
    ·rintro r ⟨g,B,rfl,W,H,g1,g2,Q⟩;have hD:=ZpZ R y hv hp N Y a1 (by omega) W H g1 g2 Q;refine⟨_,rfl,⟨_,g,B,rfl,hD⟩,?_⟩
     have b3:(o.set v x.1).countP JU=o.countP JU+1:=by
      rw[Vdb D];have a:JU o[v]=false:=by simp [JU];omega
      have b:JU x.1=true:=by simp [JU];omega
      grind
     have b2:(o.set v x.1).countP JU<=n:=by have:=ZfT (o.set v x.1);rw[hD.len]at this;omega
     grind
end Q
namespace Q
open Tr Go Gr
open Classical in
theorem GC{t:Ty}{β:Type}(b:t.key=true)(k a:El t)(v:β):∀(l:List (El t×β)),ZI (Zj t) k (ZY (Zj t) a v l)=if k=a then some v else ZI (Zj t) k l
 |[]=>by
  simp only[ZY,ZI];by_cases h:k=a
  ·rw[(Js b).2 h,Zn h];rfl
  ·rw[Zg h]
   cases c:Zj t k a with
   |true=>exact absurd ((Js b).1 c) h
   |false=>rfl
 |e::l=>by
  simp only[ZY]
  cases c:Zj t a e.1 with
  |true=>
   have f:=(Js b).1 c;simp only[Zc,ZI];by_cases h:k=a
   ·rw[(Js b).2 h,Zn h];rfl
   ·rw[Zg h, <-f]
    cases d:Zj t k a with
    |true=>exact absurd ((Js b).1 d) h
    |false=>rfl
  |false=>
   simp only[Zd,ZI,GC b k a v l]
   cases d:Zj t k e.1 with
   |false=>rfl
   |true=>
    have f:=(Js b).1 d
    have:k≠a:=by rintro rfl;rw[d]at c;cases c
    simp only[Zc];rw[Zg this]
def EdL(E:List Ya)(u v:Nat)(w:Int):Prop:= ∃e∈E,e.1=(u:Int)/\e.2.1=(v:Int)/\e.2.2.1=w
theorem ZrK(E:List Ya)(j:E.length<=4096):∃z,F177 E false=some z/\ ∀u:Nat,W2 z u=E.filter fun e=>decide (e.1=(u:Int)):=by
 unfold F177
 refine Xh (fun st=>∃(m:Adj) (i:Nat),st=(m,(i:Int))/\i<=E.length/\ ∀k:Int,Ve (ZI (Zj (.int .i64)) k m) []=(E.take i).filter fun e=>decide (e.1=k)) (fun st=>E.length - st.2.toNat)
  (fun m=>∀u:Nat,W2 m u=E.filter fun e=>decide (e.1=(u:Int))) ⟨[],0,rfl,Vo _,fun k=>by rfl⟩ ?_ (by simp)
 rintro st ⟨m,i,rfl,l,c⟩;by_cases a:i<E.length
 ·have d:Va .i64 ((i:Int)+1)=((i+1:Nat):Int):=by rw[Zy (by omega) (by omega)];omega
  have h:=c (E[i]).1
  have b:(Ve (ZI (Zj (.int .i64)) (E[i]).1 m) []).length<=4096:=by
   grind
  have f:ZE (decide ((Ve (ZI (Zj (.int .i64)) (E[i]).1 m) []).length+ [E[i]].length<=Zz))=some ():=by rw[Ze (by simp [Zz];omega)];rfl
  have g:ZE (Tr.holeK (.int .i64) (some (E[i]).1) (E[i]).1)=some ():=by have:Tr.holeK (.int .i64) (some (E[i]).1) (E[i]).1=true:=(Js rfl).2 rfl;rw[this];rfl
  simp only[show decide ((i:Int)<(E.length:Int))=true from (by grind),Zc,Zd,ZC a,Za,d];rw[show ZE _=some () from f];simp only[Za];rw[show ZE _=some () from g];simp only[Za];refine⟨_,rfl,⟨_,i+1,rfl,a,fun k=>?_⟩,by omega⟩
  rw[show Ve (ZI (Zj (.int .i64)) k (ZY (Zj (.int .i64)) (E[i]).1 (Ve (ZI (Zj (.int .i64)) (E[i]).1 m) []++[E[i]]) m)) []=if k=(E[i]).1 then Ve (ZI (Zj (.int .i64)) (E[i]).1 m) []++[E[i]] else Ve (ZI (Zj (.int .i64)) k m) [] by
   rw[GC rfl]
   grind]
  rw[Vr a,List.filter_append]
  grind
 ·have:i=E.length:=by omega
  subst this;simp only[show decide ((E.length:Int)<(E.length:Int))=false by simp,Zd];exact⟨_,rfl,fun u=>by have:=c (u:Int);rw[Vza]at this;assumption⟩
def EOk(n:Nat)(E:List Ya):Prop:= ∀e∈E,0<=e.1/\e.1<n/\0<=e.2.1/\e.2.1<n/\0<=e.2.2.1/\e.2.2.1<=1073741824
theorem ZnH{n:Nat}{E:List Ya}(i:EOk n E)(p:E.length<=4096){m:Adj}(l:∀u:Nat,W2 m u=E.filter fun e=>decide (e.1=(u:Int))):ZeW n m (EdL E) where
 mem:=fun u q y j=>by rw[l]at j;obtain⟨h,g⟩:=List.mem_filter.1 j;have g:=XY g;obtain⟨a,b,c,d,e,f⟩:=i y h;exact⟨y.2.1.toNat,by omega,by omega,e,f,y,h,g,by omega,rfl⟩
 all:=fun u v w ⟨e,k,h,g,o⟩=>by
  obtain⟨a,b,_⟩:=i e k
  grind
 len:=by grind
open Classical in
noncomputable def KF(Ed:Nat->Nat->Int->Prop)(i j:Nat):Int:=if h:∃d,Least Ed i j d then h.choose else -1
theorem Least.uniq{Ed:Nat->Nat->Int->Prop}{i j:Nat}{d a:Int}(h:Least Ed i j d)(k:Least Ed i j a):d=a:=by have:=h.2 a k.1;have:=k.2 d h.1;omega
theorem RQ{Ed:Nat->Nat->Int->Prop}{i j:Nat}{d:Int}(h:Least Ed i j d):KF Ed i j=d:=by unfold KF;have a:∃d,Least Ed i j d:=⟨d,h⟩;rw[dif_pos a];exact Least.uniq a.choose_spec h
theorem Zp0{Ed:Nat->Nat->Int->Prop}{i j:Nat}(h:∀d,¬Wk Ed i j d):KF Ed i j= -1:=by unfold KF;rw[dif_neg];rintro ⟨d,a⟩;exact h d a.1
noncomputable def X7(Ed:Nat->Nat->Int->Prop)(n:Nat):List (List Int):=(Vt n).map fun i=>(Vt n).map fun j=>KF Ed i j
theorem ZkF{Ed:Nat->Nat->Int->Prop}{n i:Nat}(h:i<n):(X7 Ed n)[i]? =some ((Vt n).map fun j=>KF Ed i j):=by
 unfold X7
 grind
theorem Zrq{n:Nat}(w:n<=64){Ed:Nat->Nat->Int->Prop}{s:Nat}{o:List Xj}(h:Ze4 n Ed s o):∃z,F175 o=some z/\z=(Vt n).map fun j=>KF Ed s j:=by
 obtain⟨u,k⟩:=h;unfold F175
 have g:ZE (decide ((0:Int)<=(o.length:Int)/\(o.length:Int)<=(o.length:Int)/\(o.length:Int)<=(Zz:Int)))=some ():=by rw[Ze (by simp [Zz];omega)];rfl
 rw[show ZE _=some () from g];simp only[Za,Vq]
 refine Xh (fun st=>∃(r:List Int) (i:Nat),st=(r,(i:Int))/\r.length=n/\i<=n/\ ∀j,j<i->r[j]? =some (KF Ed s j)) (fun st=>n - st.2.toNat)
  (fun r=>r.length=n/\ ∀j,j<n->r[j]? =some (KF Ed s j)) ⟨_,0,rfl,by grind,Vo _,by omega⟩ ?_ ?_
 ·rintro st ⟨r,i,rfl,t,v,p⟩;by_cases d:i<n
  ·have a:i<o.length:=by omega
   have b:i<r.length:=by omega
   have f:Va .i64 ((i:Int)+1)=((i+1:Nat):Int):=by rw[Zy (by omega) (by omega)];omega
   simp only[show decide ((i:Int)<(o.length:Int))=true from (by grind),Zc,ZC a,Kg b,Za,Vd b,f];refine⟨_,rfl,⟨_,i+1,rfl,by grind,d,fun j q=>?_⟩,by omega⟩;by_cases e:j=i
   ·subst e
    have:(o[j]).2.1=KF Ed s j:=by
     rcases k j _ (Vd a) with ⟨c,_⟩|⟨c,l⟩
     ·exact(RQ c).symm
     ·rw[l,Zp0 c]
    grind
   grind
  ·have m:i=n:=by omega
   simp_all
 ·rintro r ⟨t,p⟩;refine⟨_,rfl,?_⟩;apply Vxa
  grind
theorem Zpi{n:Nat}(q:n<=64){E:List Ya}(k:EOk n E)(p:E.length<=4096):F172 (n:Int) E []=some 0:=by
 have key:∃z,F172 (n:Int) E []=some z/\z=0:=by
  unfold F172;simp only[show decide ((n:Int)<0)=false from (by rfl),Zd,Za,show decide ((64:Int)<(n:Int))=false from (by grind),show decide ((4096:Int)<(E.length:Int))=false from (by grind)];refine Xh (fun st=>∃i:Nat,st=(i:Int)/\i<=E.length) (fun st=>E.length - st.toNat) (fun r=>r=.inl ()) (by grind) ?_ ?_
  ·rintro st ⟨i,rfl,o⟩;by_cases g:i<E.length
   ·have j:Va .i64 ((i:Int)+1)=((i+1:Nat):Int):=by rw[Zy (by omega) (by omega)];omega
    obtain⟨a,b,c,d,e,f⟩:=k _ (Vf g)
    have h:∀x:Int,0<=x->x<(n:Int)->F173 x (n:Int)=some false:=fun x l m=>by
     unfold F173
     grind
    simp only[show decide ((i:Int)<(E.length:Int))=true from (by grind),Zc,ZC g,Za,h _ a b,h _ c d,Zd,show decide ((E[i]).2.2.1<0)=false from (by grind),
     show decide ((1073741824:Int)<(E[i]).2.2.1)=false from (by grind),j]
    grind
   simp [*]
  ·rintro r rfl;simp only[Vl];refine Xh (fun st=>st=(0:Int)) (fun _=>0) (fun r=>r=.inl ()) rfl ?_ ?_
   all_goals simp
 grind
theorem ZnO{n:Nat}(g:n<=64){E:List Ya}(h:EOk n E)(d:E.length<=4096):∃z,F171 (n:Int) E=some z/\z=(X7 (EdL E) n,0):=by
 unfold F171;obtain⟨m,e,f⟩:=ZrK E d;have t:=ZnH h d f;rw[Zpi g h d];simp only[Za,decide_true,Vc,Zd,e]
 have l:ZE (decide ((0:Int)<=(n:Int)/\(n:Int)<=(n:Int)/\(n:Int)<=(Zz:Int)))=some ():=by rw[Ze (by simp [Zz];omega)];rfl
 rw[show ZE _=some () from l];simp only[Za,Voa,Vq]
 refine Xh (fun st=>∃(r:List (List Int)) (i:Nat),st=(m,r,(i:Int))/\r.length=n/\i<=n/\ ∀j,j<i->r[j]? =(X7 (EdL E) n)[j]?) (fun st=>n - st.2.2.toNat)
  (fun r=>r.length=n/\ ∀j,j<n->r[j]? =(X7 (EdL E) n)[j]?) ⟨_,0,rfl,by simp,Vo _,by omega⟩ ?_ ?_
 ·rintro st ⟨r,i,rfl,y,A,v⟩;by_cases a:i<n
  ·have b:i<r.length:=by omega
   have k:Va .i64 ((i:Int)+1)=((i+1:Nat):Int):=by rw[Zy (by omega) (by omega)];omega
   obtain⟨⟨B,o⟩,p,rfl,q⟩:=Zra g t a;obtain⟨_,s,rfl⟩:=Zrq g q;simp only[show decide ((i:Int)<(n:Int))=true from (by grind),Zc,p,Za,s,Kg b,Vd b,k];refine⟨_,rfl,⟨_,i+1,rfl,by grind,a,fun j w=>?_⟩,by grind⟩;by_cases c:j=i
   ·subst c;rw[ZkF a];grind
   grind
  ·have u:i=n:=by omega
   simp_all
 ·rintro r ⟨y,v⟩;refine⟨_,rfl,?_⟩;congr 1;apply Vxa;intro j;by_cases x:j<n
  ·grind
  ·rw[Vpa (by omega),Vpa (by simp [X7];omega)]
end Q
namespace Q
open Tr Go Gr
theorem YZ.uniq{σ τ ρ:Type}{cnt:σ->Nat}{step:σ->Nat->Option (σ ⊕ τ)}{k:τ->Option ρ}(a:∀s,0<cnt s){z g:ρ} :∀{n n' :Nat}{s:σ},YZ cnt step k z n s->YZ cnt step k g n' s->z=g
 |0,_,_,h,_=>h.elim
 |_+1,0,_,_,h=>h.elim
 |n+1,n' +1,s,h,c=>by
  rcases h 0 (a s) with ⟨j,d,e⟩|⟨t,d,e⟩
  ·rcases c 0 (a s) with ⟨i,b,f⟩|⟨t,b,_⟩
   ·rw[d]at b;simp only[Option.some.injEq,Sum.inl.injEq]at b;subst b;exact YZ.uniq a e f
   grind
  ·rcases c 0 (a s) with ⟨i,b,_⟩|⟨l,b,f⟩
   all_goals grind
theorem Zp7{σ τ ρ:Type}{cnt:σ->Nat}{step:σ->Nat->Option (σ ⊕ τ)}{k:τ->Option ρ}{s:σ}{z:ρ}{P:ρ->Prop}(n:Nat)(a:∀s,0<cnt s)(h:YZ cnt step k z n s)(d:P z):∃z,Tr.drun cnt step k s=some z/\P z:=by
 refine⟨z,?_,d⟩
 have b:∃r,Tr.drun cnt step k s=some r:=by
  unfold Tr.drun;split
  ·simp
  ·rw[dif_pos ⟨z,n,h⟩];simp
 obtain⟨r,c⟩:=b;obtain⟨m,e⟩:=Zjo c;rw[c,YZ.uniq a e h]
theorem Zkp{Ed c:Nat->Nat->Int->Prop}(j:∀u v w,Ed u v w->∃w',c u v w' /\w' <=w)(g:∀u v w,c u v w->∃w',Ed u v w' /\w' <=w){s v:Nat}{d:Int} :Least Ed s v d->Least c s v d:=by
 rintro ⟨a,b⟩;obtain⟨h,f,l⟩:=Wk.dom j a;obtain⟨i,c3,m⟩:=Wk.dom g f;have:=b i c3;have:h=d:=by omega
 subst this;refine⟨f,fun e k=>?_⟩;obtain⟨q,o,p⟩:=Wk.dom g k
 grind
theorem ZrE{Ed a:Nat->Nat->Int->Prop}(c:∀u v w,Ed u v w->∃w',a u v w' /\w' <=w)(e:∀u v w,a u v w->∃w',Ed u v w' /\w' <=w)(n:Nat):X7 Ed n=X7 a n:=by
 have:∀i j,KF Ed i j=KF a i j:=by
  intro i j;by_cases h:∃d,Least Ed i j d
  ·obtain⟨d,b⟩:=h;rw[RQ b,RQ (Zkp c e b)]
  ·have f:¬∃d,Least a i j d:=fun⟨d,b⟩=>h ⟨d,Zkp e c b⟩;unfold KF
   grind
 unfold X7
 simp_all
abbrev Kh:=Int×Int×Int×Bool×Unit
abbrev Pr:=Int×Int×Bool×Unit
abbrev Ye:Ty:=.prod (.int .i64) (.prod (.int .i64) (.prod .bool .unit))
def GS(n:Nat)(l:List Kh):Prop:= ∀p∈l,0<=p.1/\p.1<n/\0<=p.2.1/\p.2.1<n/\1<=p.2.2.1/\p.2.2.1<=14400
def Hg(free:Bool)(p:Kh):Prop:=free=true->p.2.2.2.1=true
def Ke(l:List Kh)(free:Bool)(u v:Nat)(w:Int):Prop:= ∃p∈l,Hg free p/\p.1=(u:Int)/\p.2.1=(v:Int)/\p.2.2.1=w
def ZdA(e:Pr×Int):Ya:=(e.1.1,e.1.2.1,e.2,())
theorem Ziy{α β:Type}(eq:α->α->Bool)(k:α)(v:β):∀l:List (α×β),(ZY eq k v l).length<=l.length+1
 |[]=>by simp [ZY]
 |e::l=>by
  simp only[ZY]
  cases eq k e.1 with
  |true=>simp
  |false=>simp only[Zd,Vya];have:=Ziy eq k v l;omega
structure J4 (free:Bool) (l:List Kh) (b:List (Pr×Int)):Prop where
 nodup:(b.map Prod.fst).Nodup
 len:b.length<=l.length
 snd:∀e∈b,∃p∈l,Hg free p/\e.1=(p.1,p.2.1,false,())/\e.2=p.2.2.1
 all:∀p∈l,Hg free p->∃w,ZI (Zj Ye) (p.1,p.2.1,false,()) b=some w/\w<=p.2.2.1
theorem J4.more{free:Bool}{l:List Kh}{b a:List (Pr×Int)}{p:Kh}(h:J4 free l b)(f:(a.map Prod.fst).Nodup)(o:a.length<=b.length+1)(g:∀e∈a,e∈b\/(Hg free p/\e.1=(p.1,p.2.1,false,())/\e.2=p.2.2.1))
 (r:∀k w,ZI (Zj Ye) k b=some w->∃w',ZI (Zj Ye) k a=some w' /\w' <=w) (s:Hg free p->∃w,ZI (Zj Ye) (p.1,p.2.1,false,()) a=some w/\w<=p.2.2.1):J4 free (l++[p]) a where
 nodup:=f
 len:=by have:=h.len;grind
 snd:=fun e j=>by
  rcases g e j with c|c
  ·obtain⟨q,d,i⟩:=h.snd e c
   grind
  grind
 all:=fun q d m=>by
  rcases Veb.1 d with c|c
  ·obtain⟨w,i,t⟩:=h.all q c m
   grind
  grind
theorem Zjs{α:Type} :∀{l:List α}{i:Nat} (h:i<l.length),(l[i]::l.eraseIdx i).Perm l
 |[],i,h=>by grind
 |x::l,0,_=>.refl _
 |x::l,i+1,h=>by
  have a:i<l.length:=by grind
  simp only[List.getElem_cons_succ,List.eraseIdx_cons_succ];exact(List.Perm.swap _ _ _).trans (List.Perm.cons _ (Zjs a))
theorem Zjm{n:Nat}(hn:n<=64){l:List Kh}(hF:GS n l)(hl:l.length<=4096)(free:Bool):∃z,F59 l (n:Int) free=some z/\z=X7 (Ke l free) n:=by
 unfold F59
 refine Xh (fun st=>∃(b:List (Pr×Int)) (i:Nat),st=(b,(i:Int))/\i<=l.length/\J4 free (l.take i) b) (fun st=>l.length - st.2.toNat)
  (fun b=>J4 free l b) ⟨[],0,rfl,Vo _,⟨by simp,by simp,by simp,by simp⟩⟩ ?_ ?_
 ·rintro st ⟨b,i,rfl,F,j⟩;by_cases A:i<l.length
  ·have X:Va .i64 ((i:Int)+1)=((i+1:Nat):Int):=by rw[Zy (by omega) (by omega)];omega
   simp only[show decide ((i:Int)<(l.length:Int))=true from (by grind),Zc,ZC A,Za,X];have o:l.take (i+1)=l.take i++[l[i]]:=Vr A
   have stay:(Hg free l[i]->∃w,ZI (Zj Ye) ((l[i]).1,(l[i]).2.1,false,()) b=some w/\w<=(l[i]).2.2.1)->J4 free (l.take (i+1)) b:=fun K=>by rw[o];exact j.more j.nodup (by omega) (by grind) (by grind) K
   have put:Hg free l[i]->(∀w,ZI (Zj Ye) ((l[i]).1,(l[i]).2.1,false,()) b=some w->(l[i]).2.2.1<=w)->J4 free (l.take (i+1)) (ZY (Zj Ye) ((l[i]).1,(l[i]).2.1,false,()) (l[i]).2.2.1 b):=fun B hw=>by
    rw[o];refine j.more (Zfv (t:=Ye) (β:=Int) rfl j.nodup) (Ziy _ _ _ _) (fun e E=>?_) (fun k w h=>?_) fun _=>⟨(l[i]).2.2.1,by rw[GC rfl,Zn rfl],Vea _⟩
    ·obtain⟨k',x⟩:=e;rcases Zd1 (t:=Ye) rfl j.nodup E with ⟨rfl,rfl⟩|⟨_,h6⟩
     all_goals grind
    ·rw[GC rfl]
     grind
   have U:Zj XV=Zj Ye:=rfl
   have rest:Hg free l[i]->∃z,(Vb
         (bif !Vga (ZI (Zj Ye) ((l[i]).1,(l[i]).2.1,false,()) b) then some true
         else some (decide ((l[i]).2.2.1<Ve (ZI (Zj Ye) ((l[i]).1,(l[i]).2.1,false,()) b) (0:Int))))
         fun x3=>
         bif x3 then some (Sum.inl (ZY (Zj Ye) ((l[i]).1,(l[i]).2.1,false,()) (l[i]).2.2.1 b,((i+1:Nat):Int)))
         else some (Sum.inl (b,((i+1:Nat):Int))))=some (z:(List (Pr×Int) ×Int) ⊕ List (Pr×Int))/\
         Vka (fun W=>(∃(b:List (Pr×Int)) (i:Nat),W=(b,(i:Int))/\i<=l.length/\J4 free (l.take i) b)/\l.length - W.2.toNat<l.length - ((i:Nat):Int).toNat) (fun b=>J4 free l b) z:=by
    intro B
    cases hg:ZI (Zj Ye) ((l[i]).1,(l[i]).2.1,false,()) b with
    |none=>
     simp only[Option.isSome_none,Vn,Zc,Za]
     grind
    |some w=>
     simp only[Option.isSome_some,Vc,Zd,Option.getD_some,Za];by_cases a1:(l[i]).2.2.1<w
     ·simp only[show decide ((l[i]).2.2.1<w)=true from (by grind),Zc]
      grind
     ·simp only[show decide ((l[i]).2.2.1<w)=false from (by grind),Zd]
      grind
   cases m:free with
   |false=>
    simp only[Zd,Za];have:=rest (fun h=>by grind)
    grind
   |true=>
    simp only[Zc,Za]
    cases O:(l[i]).2.2.2.1 with
    |true=>
     simp only[Vc,Zd];have:=rest (fun _=>O)
     grind
    |false=>
     simp only[Vn,Zc];refine⟨_,rfl,⟨b,i+1,rfl,A,?_⟩,by omega⟩;rw[<-m];exact stay fun B=>by have:=B m;grind
  ·have a0:i=l.length:=by omega
   simp_all
 ·intro b j
  have Y:ZE (decide ((0:Int)<=(0:Int)/\(0:Int)<=(b.length:Int)/\(b.length:Int)<=(Zz:Int)))=some ():=by have:=j.len;rw[Ze (by simp [Zz];omega)];rfl
  rw[show ZE _=some () from Y];simp only[Za]
  have T:∀es:List Ya,es.Perm (b.map ZdA)->F171 (n:Int) es=some (X7 (Ke l free) n,0):=by
   intro es y;have G:es.length<=4096:=by have:=y.length_eq;have:=j.len;grind
   have N:EOk n es:=fun e E=>by
    obtain⟨x,P,rfl⟩:=Vwa.1 (y.mem_iff.1 E);obtain⟨p,g,_,J,M⟩:=j.snd x P;obtain⟨a,b',c,d,e,f⟩:=hF p g;have Z:x.1.1=p.1/\x.1.2.1=p.2.1:=by grind
    show 0<=x.1.1/\x.1.1<n/\0<=x.1.2.1/\x.1.2.1<n/\0<=x.2/\x.2<=1073741824;omega
   obtain⟨z,hz,rfl⟩:=ZnO hn N G;rw[hz];congr 2;refine ZrE (fun u v w ⟨e,E,J,M,h3⟩=>?_) (fun u v w ⟨p,g,B,J,M,h3⟩=>?_) n
   ·obtain⟨x,P,rfl⟩:=Vwa.1 (y.mem_iff.1 E);obtain⟨p,g,B,S,K⟩:=j.snd x P;have D:x.1.1=p.1/\x.1.2.1=p.2.1:=by grind
    refine⟨w,⟨p,g,B,?_,?_,?_⟩,Vea _⟩
    ·rw[<-D.1];assumption
    ·rw[<-D.2];assumption
    ·rw[<-K];assumption
   ·obtain⟨w',S,K⟩:=j.all p g B;have H:=Zdc (t:=Ye) rfl S;refine⟨w',⟨_,y.mem_iff.2 (Vwa.2 ⟨_,H,rfl⟩),J,M,rfl⟩,by omega⟩
  refine Zp7 (z:=X7 (Ke l free) n) (b.length+1) (fun s=>?_) ?_ rfl
  ·grind
  ·have key:∀(r:Nat) (es:List Ya) (rest:List (Pr×Int)),rest.length=r->(es++rest.map ZdA).Perm (b.map ZdA)->
    YZ (fun q:List Ya×List (Pr×Int)=>bif Vkb q.snd then(1:Nat) else Vg q.snd)
     (fun q V=>bif Vkb q.snd then some (Sum.inr q.fst)
       else Vb q.snd[V]? fun C=>
        Vb (ZE (decide (Vg q.fst+Vg [((C.fst.fst,C.fst.snd.fst,C.snd,()):Ya)]<=Zz))) fun _=>
         some (Sum.inl (q.fst++[(C.fst.fst,C.fst.snd.fst,C.snd,())],List.eraseIdx q.snd V)))
     (fun Q=>Vb (F171 (n:Int) Q) fun R=>some R.fst) (X7 (Ke l free) n) (r+1) (es,rest):=by
    intro r
    induction r with
    |zero=>
     intro es rest hr y i F
     grind
    |succ r ih=>
     intro es rest hr y i F;have I:rest.isEmpty=false:=by grind
     simp only[I,Zd]at F;left;have g:=y.length_eq;have:=j.len;simp only[Vs,Vfb]at g
     have L:ZE (decide (es.length+ [(((rest[i]).1.1,(rest[i]).1.2.1,(rest[i]).2,()):Ya)].length<=Zz))=some ():=by rw[Ze (by simp [Zz];omega)];rfl
     refine⟨(es++[ZdA rest[i]],rest.eraseIdx i),?_,ih _ _ (by grind) ?_⟩
     ·simp only[I,Zd,Vd F,Za];rw[show ZE _=some () from L];rfl
     ·refine List.Perm.trans ?_ y;have J:(rest[i]::rest.eraseIdx i).Perm rest:=Zjs F
      grind
   grind
end Q
namespace Q
open Tr Go Gr
def Jk:Int:=1099511627776
def gm(m:List (List Int))(i j:Nat):Int:=(((m[i]?).getD [])[j]?).getD 0
def Ht(n:Nat)(m:List (List Int)):Prop:=m.length=n/\ ∀(i:Nat) (r:List Int),m[i]? =some r->r.length=n
def upd(m:List (List Int))(i j:Nat)(v:Int):List (List Int):=m.set i (((m[i]?).getD []).set j v)
theorem Ht.row{n:Nat}{m:List (List Int)}(h:Ht n m){i:Nat}(a:i<n):∃r,m[i]? =some r/\r.length=n:=by
 have:i<m.length:=by rw[h.1];omega
 exact⟨m[i],by simp,h.2 i _ (by simp)⟩
theorem Ht.upd{n:Nat}{m:List (List Int)}(h:Ht n m){i:Nat}(c:i<n)(j:Nat)(v:Int):Ht n (upd m i j v):=by
 obtain⟨r,e,f⟩:=h.row c;refine⟨by simp [Q.upd];exact h.1,fun k d a=>?_⟩;unfold Q.upd at a;by_cases b:i=k
 ·grind
 ·rw[Vba b]at a;exact h.2 k d a
theorem ZbZ{n:Nat}{m:List (List Int)}(h:Ht n m){i j:Nat}(c:i<n)(f:j<n)(v:Int)(a b:Nat):gm (upd m i j v) a b=if a=i/\b=j then v else gm m a b:=by
 obtain⟨r,d,e⟩:=h.row c;unfold gm upd
 grind
theorem Zbb{n:Nat}{m:List (List Int)}(h:Ht n m){i j:Nat}(_hi:i<n)(c:j<n){r:List Int}(a:m[i]? =some r):r[j]? =some (gm m i j):=by
 have b:=h.2 i r a;unfold gm
 grind
structure XC (Ed:Nat->Nat->Int->Prop) (n k:Nat) (m:List (List Int)):Prop where
 shp:Ht n m
 snd:∀i j,i<n->j<n->gm m i j=Jk\/(gm m i j<=Jk/\Wb Ed n i j (gm m i j))
 all:∀i j d,i<n->j<n->Wb Ed k i j d->gm m i j<=d
theorem XC.bnd{Ed:Nat->Nat->Int->Prop}(e:∀u v w,Ed u v w->0<=w){n k:Nat}{m:List (List Int)}(h:XC Ed n k m){i j:Nat}(c:i<n)(d:j<n):0<=gm m i j/\gm m i j<=Jk:=by
 rcases h.snd i j c d with a|⟨a,b⟩
 ·rw[a];unfold Jk;omega
 ·exact⟨b.nonneg e,a⟩
theorem XC.step{Ed:Nat->Nat->Int->Prop}(p:∀u v w,Ed u v w->0<=w){n k:Nat}{m:List (List Int)}(h:XC Ed n k m){i j:Nat}(c:i<n)(e:j<n)(f:k<n):
 XC Ed n k (upd m i j (min (gm m i j) (gm m i k+gm m k j)))/\(∀d,Wb Ed (k+1) i j d->min (gm m i j) (gm m i k+gm m k j)<=d)/\min (gm m i j) (gm m i k+gm m k j)<=gm m i j:=by
 have B:=h.bnd p c e;have C:=h.bnd p c f;have D:=h.bnd p f e;refine⟨⟨h.shp.upd c j _,fun a b q r=>?_,fun a b d q r s=>?_⟩,fun d s=>?_,Int.min_le_left _ _⟩
 ·rw[ZbZ h.shp c e];by_cases l:a=i/\b=j
  ·obtain⟨rfl,rfl⟩:=l;rw[Zn ⟨rfl,rfl⟩];by_cases t:gm m a b<=gm m a k+gm m k b
   ·rw[Int.min_eq_left t];exact h.snd a b c e
   ·rw[Vab (by omega)];right;refine⟨by omega,?_⟩;rcases h.snd a k c f with o|⟨_,o⟩
    ·omega
    ·rcases h.snd k b f e with g|⟨_,g⟩
     ·omega
     ·exact o.app f g
  ·rw[Zg l];exact h.snd a b q r
 ·rw[ZbZ h.shp c e];have:=h.all a b d q r s
  grind
 ·rcases s.round p with ⟨x,o,g⟩|⟨y,z,o,g,A⟩
  ·have:=h.all i j x c e g;omega
  ·have:=h.all i k y c f g;have:=h.all k j z f e A;omega
structure Yh (Ed:Nat->Nat->Int->Prop) (n k a b:Nat) (m:List (List Int)):Prop where
 ent:XC Ed n k m
 done:∀i j d,i<n->j<n->(i<a\/i=a/\j<b)->Wb Ed (k+1) i j d->gm m i j<=d
theorem Yh.step{Ed:Nat->Nat->Int->Prop}(r:∀u v w,Ed u v w->0<=w){n k a b:Nat}{m:List (List Int)}(h:Yh Ed n k a b m)(e:a<n)(f:b<n)(q:k<n):Yh Ed n k a (b+1) (upd m a b (min (gm m a b) (gm m a k+gm m k b))):=by
 obtain⟨g,s,t⟩:=h.ent.step r e f q;refine⟨g,fun i j d o p x l=>?_⟩;rw[ZbZ h.ent.shp e f];by_cases c:i=a/\j=b
 ·grind
 ·rw[Zg c];exact h.done i j d o p (by omega) l
theorem Yh.next{Ed:Nat->Nat->Int->Prop}{n k a:Nat}{m:List (List Int)}(h:Yh Ed n k a n m):Yh Ed n k (a+1) 0 m:=
 ⟨h.ent,fun i j d c e f b=>h.done i j d c e (by omega) b⟩
theorem Yh.fin{Ed:Nat->Nat->Int->Prop}{n k:Nat}{m:List (List Int)}(h:Yh Ed n k n 0 m):XC Ed n (k+1) m:=
 ⟨h.ent.shp,h.ent.snd,fun i j d a c b=>h.done i j d a c (.inl a) b⟩
theorem Yh.start{Ed:Nat->Nat->Int->Prop}{n k:Nat}{m:List (List Int)}(h:XC Ed n k m):Yh Ed n k 0 0 m:=
 ⟨h,by omega⟩
theorem ZjY(a b:Int):Tr.imin a b=min a b:=by unfold Tr.imin;omega
theorem Zmb{n:Nat}(hn:n<=64){l:List Kh}(hF:GS n l)(hl:l.length<=4096)(free:Bool):∃z,F118 l (n:Int) free=some z/\XC (Ke l free) n n z:=by
 have R:∀u v w,Ke l free u v w->0<=w:=fun u v w ⟨p,F,_,_,_,h⟩=>by have:=hF p F;omega
 unfold F118
 refine Xh (fun st=>∃i:Nat,st=(Vh i (Vh n Jk),(i:Int))/\i<=n) (fun st=>n - st.2.toNat)
  (fun r=>r=Vh n (Vh n Jk)) (by grind) ?_ ?_
 ·rintro st ⟨i,rfl,hi⟩;by_cases c:i<n
  ·have K:Va .i64 ((i:Int)+1)=((i+1:Nat):Int):=by rw[Zy (by omega) (by omega)];omega
   simp only[show decide ((i:Int)<(n:Int))=true from (by grind),Zc,K]
   refine Xh (fun st=>∃j:Nat,st=(Vh i (Vh n Jk),Vh j Jk,(j:Int))/\j<=n) (fun st=>n - st.2.2.toNat)
    (fun r=>r=(Vh i (Vh n Jk),Vh n Jk)) (by grind) ?_ ?_
   ·rintro st ⟨j,rfl,hj⟩;by_cases a4:j<n
    ·have U:Va .i64 ((j:Int)+1)=((j+1:Nat):Int):=by rw[Zy (by omega) (by omega)];omega
     simp only[show decide ((j:Int)<(n:Int))=true from (by grind),Zc,U];rw[GJ (by grind)];simp only[Za];refine⟨_,rfl,⟨j+1,?_,a4⟩,by grind⟩;rw[Vra];rfl
    ·have:j=n:=by omega
     simp_all
   ·rintro r rfl;simp only;rw[GJ (by grind)];simp only[Za];refine⟨_,rfl,⟨i+1,?_,c⟩,by omega⟩;rw[Vra]
  ·have:i=n:=by omega
   simp_all
 ·rintro r rfl;have W:Ht n (Vh n (Vh n Jk)):=⟨by simp,by grind⟩
  have c1:∀i j,i<n->j<n->gm (Vh n (Vh n Jk)) i j=Jk:=fun i j hi hj=>by unfold gm;grind
  refine Xh (fun st=>∃(m:List (List Int)) (i:Nat),st=(m,(i:Int))/\i<=l.length/\Ht n m/\(∀a b,a<n->b<n->gm m a b=Jk\/(gm m a b<=Jk/\Wb (Ke l free) n a b (gm m a b)))/\
   ∀p∈l.take i,Hg free p->gm m p.1.toNat p.2.1.toNat<=p.2.2.1) (fun st=>l.length - st.2.toNat)
   (fun m=>XC (Ke l free) n 0 m) ⟨_,0,rfl,Vo _,W,by grind,by simp⟩ ?_ ?_
  ·rintro st ⟨m,i,rfl,hi,o,B,s⟩;by_cases c:i<l.length
   ·have K:Va .i64 ((i:Int)+1)=((i+1:Nat):Int):=by rw[Zy (by omega) (by omega)];omega
    obtain⟨p1,p2,p3,p4,p5,p6⟩:=hF _ (Vf c);have H:l.take (i+1)=l.take i++[l[i]]:=Vr c;obtain⟨u,hu⟩:∃u:Nat,(l[i]).1=(u:Int):=by grind
    obtain⟨v,hv⟩:∃v:Nat,(l[i]).2.1=(v:Int):=by grind
    have y:u<n:=by omega
    have I:v<n:=by omega
    obtain⟨row,x,c4⟩:=o.row y;have D:=Zbb o y I x;have a8:u<m.length:=by grind
    simp only[show decide ((i:Int)<(l.length:Int))=true from (by grind),Zc,K,ZC c,Za]
    have stay:¬Hg free l[i]->∃z,some (Sum.inl (m,((i+1:Nat):Int)):(List (List Int) ×Int) ⊕ List (List Int))=some z/\Vka (fun O:List (List Int) ×Int=>(∃(m:List (List Int)) (i:Nat),O=(m,(i:Int))/\i<=l.length/\Ht n m/\(∀a b,a<n->b<n->gm m a b=Jk\/(gm m a b<=Jk/\Wb (Ke l free) n a b (gm m a b)))/\
     ∀p∈l.take i,Hg free p->gm m p.1.toNat p.2.1.toNat<=p.2.2.1)/\l.length - O.2.toNat<l.length - ((i:Nat):Int).toNat) (fun m=>XC (Ke l free) n 0 m) z:=fun A=>by
     refine⟨_,rfl,⟨m,i+1,rfl,c,o,B,fun p F M=>?_⟩,by omega⟩
     grind
    have put:Hg free l[i]->∀b:Bool,b=true->∃z,(bif b then
             Vb (Zp (u:Int) (Vg m)) fun T=>
              Vb m[T]? fun _=>
               Vb (Zp (u:Int) (Vg m)) fun J=>
                Vb m[J]? fun _=>
                 Vb (idx m (J:Int)) fun b0=>
                  Vb (Zp (v:Int) (Vg b0)) fun b4=>
                   Vb (idx m (J:Int)) fun b5=>
                    Vb b5[b4]? fun b6=>
                     Vb (idx m (T:Int)) fun b7=>
                      Vb (Zp (v:Int) (Vg b7)) fun P=>
                       Vb (idx m (T:Int)) fun Q=>
                        Vb Q[P]? fun _=>
                         some
                          (Sum.inl (Vi m (Int.toNat (T:Int)) (Vi Q P (Tr.imin b6 (l[i]).2.2.1)),((i+1:Nat):Int)))
          else some (Sum.inl (m,((i+1:Nat):Int))))=some (z:(List (List Int) ×Int) ⊕ List (List Int))/\Vka (fun O:List (List Int) ×Int=>(∃(m:List (List Int)) (i:Nat),O=(m,(i:Int))/\i<=l.length/\Ht n m/\(∀a b,a<n->b<n->gm m a b=Jk\/(gm m a b<=Jk/\Wb (Ke l free) n a b (gm m a b)))/\
     ∀p∈l.take i,Hg free p->gm m p.1.toNat p.2.1.toNat<=p.2.2.1)/\l.length - O.2.toNat<l.length - ((i:Nat):Int).toNat) (fun m=>XC (Ke l free) n 0 m) z:=by
     rintro A b rfl;have a9:v<row.length:=by omega
     have L:idx m (u:Int)=some row:=by assumption
     simp only[Zc,Kg a8,Za,x,L,Kg a9,D,Vq]
     have t:Vi m u (Vi row v (Tr.imin (gm m u v) (l[i]).2.2.1))=upd m u v (min (gm m u v) (l[i]).2.2.1):=by unfold upd;rw[x,ZjY];rfl
     rw[t];have a1:Ke l free u v (l[i]).2.2.1:=⟨_,Vf c,A,hu,hv,rfl⟩;refine⟨_,rfl,⟨_,i+1,rfl,c,o.upd y v _,fun a b ha hb=>?_,fun p F M=>?_⟩,by omega⟩
     ·rw[ZbZ o y I];by_cases X:a=u/\b=v
      ·obtain⟨rfl,rfl⟩:=X;rw[Zn ⟨rfl,rfl⟩];by_cases c2:gm m a b<=(l[i]).2.2.1
       ·grind
       ·rw[Vab (by omega)];exact .inr ⟨by grind,.one a1⟩
      grind
     ·rw[ZbZ o y I];rw[H]at F;rcases Veb.1 F with h|h
      ·have:=s p h M
       grind
      ·simp at h;grind
    simp only[hu,hv]
    cases a7:(l[i]).2.2.2.1 with
    |true=>
     simp only[Zc,Za]
     exact put (fun _=>a7) true rfl
    |false=>
     simp only[Zd,Za]
     cases E:free with
     |false=>
      have:=put (fun h=>by grind) true rfl;rw[E]at this
      grind
     |true=>
      have:=stay (fun h=>by have:=h E;grind);rw[E]at this
      grind
   ·have:i=l.length:=by omega
    subst this;simp only[show decide ((l.length:Int)<(l.length:Int))=false from (by simp),Zd];rw[Vza]at s;refine⟨_,rfl,o,B,fun a b d ha hb hd=>?_⟩
    cases hd with
    |one e=>
     obtain⟨p,F,A,h1,h2,rfl⟩:=e;have:=s p F A
     simp_all
    |cons e A _=>omega
  ·intro m V;refine Xh (fun st=>∃(m:List (List Int)) (k:Nat),st=(m,(k:Int))/\k<=n/\XC (Ke l free) n k m) (fun st=>n - st.2.toNat) (fun m=>XC (Ke l free) n n m) ⟨m,0,rfl,Vo _,V⟩ ?_ (by simp);rintro st ⟨m,k,rfl,hk,V⟩;by_cases g:k<n
   ·have K:Va .i64 ((k:Int)+1)=((k+1:Nat):Int):=by rw[Zy (by omega) (by omega)];omega
    simp only[show decide ((k:Int)<(n:Int))=true from (by grind),Zc,K];refine Xh (fun st=>∃(m:List (List Int)) (a:Nat),st=(m,(a:Int))/\a<=n/\Yh (Ke l free) n k a 0 m) (fun st=>n - st.2.toNat) (fun m=>Yh (Ke l free) n k n 0 m) ⟨m,0,rfl,Vo _,Yh.start V⟩ ?_ (fun m A=>⟨_,rfl,⟨m,k+1,rfl,g,A.fin⟩,by omega⟩);rintro st ⟨m,a,rfl,ha,C⟩;by_cases f:a<n
    ·have U:Va .i64 ((a:Int)+1)=((a+1:Nat):Int):=by rw[Zy (by omega) (by omega)];omega
     simp only[show decide ((a:Int)<(n:Int))=true from (by grind),Zc,U]
     refine Xh (fun st=>∃(m:List (List Int)) (b:Nat),st=(m,(b:Int))/\b<=n/\Yh (Ke l free) n k a b m) (fun st=>n - st.2.toNat) (fun m=>Yh (Ke l free) n k a n m) ⟨m,0,rfl,Vo _,C⟩ ?_ (fun m A=>⟨_,rfl,⟨m,a+1,rfl,f,A.next⟩,by omega⟩)
     rintro st ⟨m,b,rfl,hb,C⟩;by_cases q:b<n
     ·have e3:Va .i64 ((b:Int)+1)=((b+1:Nat):Int):=by rw[Zy (by omega) (by omega)];omega
      have o:=C.ent.shp;obtain⟨S,G,b8⟩:=o.row f;obtain⟨rk,N,b9⟩:=o.row g;have Y:a<m.length:=by grind
      have a6:k<m.length:=by grind
      have a2:idx m (a:Int)=some S:=by assumption
      have a3:idx m (k:Int)=some rk:=by assumption
      have Z:b<S.length:=by omega
      have a0:b<rk.length:=by omega
      have a5:k<S.length:=by omega
      have b1:=C.ent.bnd R f q;have b2:=C.ent.bnd R f g;have b3:=C.ent.bnd R g q;have e4:Va .i64 (gm m a k+gm m k b)=gm m a k+gm m k b:=Zy (by omega) (by unfold Jk at*;omega);simp only[show decide ((b:Int)<(n:Int))=true from (by grind),Zc,e3,Kg Y,Kg a6,Za,G,N,a2,a3,Kg Z,Kg a0,Kg a5,Zbb o f q G,Zbb o f g G,Zbb o g q N,e4,Vq,ZjY]
      have t:Vi m a (Vi S b (min (gm m a b) (gm m a k+gm m k b)))=upd m a b (min (gm m a b) (gm m a k+gm m k b)):=by unfold upd;grind
      rw[t];exact⟨_,rfl,⟨_,b+1,rfl,q,C.step R f q g⟩,by omega⟩
     ·have:b=n:=by omega
      simp_all
    ·have:a=n:=by omega
     simp_all
   ·have:k=n:=by omega
    simp_all
end Q
namespace Q
open Tr Go
abbrev Jz:=Int×Int×Int×Bool×Unit
def HE(a b:Jz):Prop:=a.1<b.1\/(a.1=b.1/\(a.2.1<b.2.1\/(a.2.1=b.2.1/\a.2.2.1<b.2.2.1)))
def Hz(a b:Int):Int:=if a<b then -1 else if b<a then 1 else 0
theorem ZpK(a b:Int):F8 a b=some (Hz a b):=by
 unfold F8 F10 Hz
 grind
theorem ZrZ(x y z:Int):F9 [x,y,z]=some (if x≠0 then x else if y≠0 then y else z):=by
 unfold F9;have h:Va .i64 (0+1:Int)=1:=by decide
 have i:Va .i64 (1+1:Int)=2:=by decide
 have j:Va .i64 (2+1:Int)=3:=by decide
 have e:idx [x,y,z] 0=some x:=rfl;have f:idx [x,y,z] 1=some y:=rfl;have g:idx [x,y,z] 2=some z:=rfl;have a:(([x,y,z]:List Int).length:Int)=3:=rfl;rw[ZcC];simp only[a,show decide ((0:Int)<3)=true from rfl,Zc,e,Za,h];by_cases b:x=0
 ·subst b;simp only[decide_true,Vc,Zd,Za,Vl];rw[ZcC];simp only[show decide ((1:Int)<3)=true from rfl,Zc,f,Za,i];by_cases c:y=0
  ·subst c;simp only[decide_true,Vc,Zd,Za,Vl];rw[ZcC];simp only[show decide ((2:Int)<3)=true from rfl,Zc,g,Za,j];by_cases d:z=0
   ·subst d;rfl
   grind
  grind
 grind
def c3(a b:Jz):Int:=if Hz a.1 b.1≠0 then Hz a.1 b.1 else if Hz a.2.1 b.2.1≠0 then Hz a.2.1 b.2.1 else Hz a.2.2.1 b.2.2.1
theorem ZoZ(a b:Jz):F58 a b=some (c3 a b):=by unfold F58;simp only[ZpK,Za];rw[show F9 [Hz a.1 b.1,Hz a.2.1 b.2.1,Hz a.2.2.1 b.2.2.1]=_ from ZrZ _ _ _];rfl
theorem ZoX(a b:Jz):c3 a b<0↔HE a b:=by unfold c3 HE Hz;omega
theorem ZoY(a b:Jz):0<c3 a b↔HE b a:=by unfold c3 HE Hz;omega
def Srt(l:List Jz):Prop:=l.Pairwise HE
theorem Ztu{l:List Jz}(h:Srt l)(d:l.length<16384):F182 l ()=some l:=by
 unfold F182;refine Tr.sortF_sorted HE l (by omega) (fun x _ y _=>⟨_,ZoZ x y,ZoX x y,ZoY x y⟩) (fun x _=>?_) (fun a _ b _ c _=>?_) h
 ·unfold HE;omega
 ·unfold HE;omega
end Q
namespace Q
open Tr Go Gr
def Jr(a b:Nat)(d f:Int):List Jz:=
 (if 0<d/\d<=14400 then [((a:Int),(b:Int),d,decide (f=d),())] else [])++(if f=d then [] else if 0<f/\f<=14400 then [((a:Int),(b:Int),f,true,())] else [])
def Xr(a b:Nat)(e g:Int):List Jz:=
 if 14400<e then [] else((a:Int),(b:Int),e,decide (g=e),())::(if e<g/\g<=14400 then [((a:Int),(b:Int),g,true,())] else [])
def Rel(d e:Int):Prop:=(e=d/\1<=d)\/(e=Jk/\(d= -1\/Jk<=d))
theorem Zq5{a b:Nat}{d e f g:Int}(j:Rel d e)(k:Rel f g)(l:f= -1\/(d≠ -1/\d<=f)):Jr a b d f=Xr a b e g:=by
 unfold Rel Jk at*;unfold Jr Xr;by_cases c:0<d/\d<=14400
 ·have h:e=d:=by omega
  subst h;rw[Zn c,Zg (show¬(14400:Int)<e by omega)];by_cases i:f=e
  ·grind
  ·rw[Zg i];have m:¬g=e:=by omega
   grind
 ·rw[Zg c,Zn (show (14400:Int)<e by omega)]
  grind
theorem Zkd(a b:Nat)(d f:Int):(Jr a b d f).length<=2:=by
 unfold Jr
 grind
theorem Zjg{a b:Nat}{d:Int}{s:Bool}{out:List Jz}(h:out.length<4294967295):F57 (a:Int) (b:Int) d s out=some (out++if 0<d/\d<=14400 then [((a:Int),(b:Int),d,s,())] else []):=by
 unfold F57;by_cases c:0<d
 ·by_cases e:d<=14400
  ·simp only[show decide ((0:Int)<d)=true from Ze c,Zc,Za,show decide (d<=(14400:Int))=true from Ze e];rw[GJ (by grind),Zn ⟨c,e⟩];rfl
  grind
 grind
section
variable (it:Nat->Nat->List Jz) (n:Nat)
def Xw(a m:Nat):List Jz:=(Vt m).flatMap fun b=>if a=b then [] else it a b
def WE(m:Nat):List Jz:=(Vt m).flatMap fun a=>Xw it a n
end
theorem Gk(it:Nat->Nat->List Jz)(a m:Nat):Xw it a (m+1)=Xw it a m++if a=m then [] else it a m:=by unfold Xw;rw[Vgb,Vua];simp
theorem ZbC(it:Nat->Nat->List Jz)(n m:Nat):WE it n (m+1)=WE it n m++Xw it m n:=by unfold WE;rw[Vgb,Vua];simp
theorem Zeo{it:Nat->Nat->List Jz}(h:∀a b,(it a b).length<=2)(a:Nat):∀m,(Xw it a m).length<=2*m
 |0=>by simp [Xw]
 |m+1=>by
  rw[Gk,Vs];have:=Zeo h a m
  grind
theorem Ziv{it:Nat->Nat->List Jz}(h:∀a b,(it a b).length<=2)(n:Nat):∀m,(WE it n m).length<=2*n*m
 |0=>by simp [WE]
 |m+1=>by
  rw[ZbC,Vs];have:=Ziv h n m;have:=Zeo h m n
  grind
theorem Zda{it:Nat->Nat->List Jz}(h:∀a b,(it a b).length<=2){n m:Nat}(f:n<=64)(e:m<=n):(WE it n m).length<=8192:=by have c:=Ziv h n m;have d:2*n*m<=2*64*64:=Nat.mul_le_mul (by omega) (by omega);omega
theorem ZnL{it c:Nat->Nat->List Jz}{n m:Nat}(g:m<=n)(h:∀a b,a<n->b<n->a≠b->it a b=c a b):WE it n m=WE c n m:=by
 induction m with
 |zero=>rfl
 |succ m e=>
  rw[ZbC,ZbC,e (by omega)];congr 1
  have:∀k,k<=n->Xw it m k=Xw c m k:=by
   intro k
   induction k with
   |zero=>intro _;rfl
   |succ k d=>
    intro f;rw[Gk,Gk,d (by omega)]
    grind
  grind
theorem ZnN{it:Nat->Nat->List Jz}{n m:Nat}(e:∀a b x,x∈it a b->x.1=(a:Int)/\x.2.1=(b:Int))(l:∀a b,(it a b).Pairwise fun x y=>x.2.2.1<y.2.2.1):Srt (WE it n m):=by
 show (WE it n m).Pairwise HE
 ·unfold WE;rw[Vqa];refine⟨fun a _=>?_,?_⟩
  ·unfold Xw;rw[Vqa];refine⟨fun b _=>?_,?_⟩
   ·split
    ·simp
    ·refine List.Pairwise.imp_of_mem ?_ (l a b);intro x y c d q;obtain⟨g,h⟩:=e a b x c;obtain⟨i,j⟩:=e a b y d;unfold HE;omega
   ·refine List.Pairwise.imp ?_ Vla;intro b f p x c y d;split at c
    ·grind
    ·split at d
     ·grind
     ·obtain⟨g,h⟩:=e a b x c;obtain⟨i,j⟩:=e a f y d;unfold HE;omega
  ·refine List.Pairwise.imp ?_ Vla;intro a k o x c y d;unfold Xw at c d;obtain⟨b,_,c⟩:=Vbb.1 c;obtain⟨f,_,d⟩:=Vbb.1 d;split at c
   ·grind
   ·split at d
    ·grind
    ·obtain⟨g,h⟩:=e a b x c;obtain⟨i,j⟩:=e k f y d;unfold HE;omega
theorem Zq2{a b:Nat}{d f:Int}{x:Jz}(h:x∈Jr a b d f):x.1=(a:Int)/\x.2.1=(b:Int):=by
 unfold Jr at h
 grind
theorem ZfP{n:Nat}(m:n<=64){l:List Kh}(hF:GS n l)(s:l.length<=4096)
 (q:∀a b,KF (Ke l true) a b= -1\/KF (Ke l false) a b<=KF (Ke l true) a b):
 F56 l (n:Int)=some (WE (fun a b=>Jr a b (KF (Ke l false) a b) (KF (Ke l true) a b)) n n):=by
 have key:∃z,F56 l (n:Int)=some z/\z=WE (fun a b=>Jr a b (KF (Ke l false) a b) (KF (Ke l true) a b)) n n:=by
  unfold F56;obtain⟨_,v,rfl⟩:=Zjm m hF s false;obtain⟨_,w,rfl⟩:=Zjm m hF s true;rw[v];simp only[Za];rw[w];simp only[Za];have i:∀Ed,(X7 Ed n).length=n:=fun Ed=>by simp [X7]
  have c:∀a b:Nat,((fun a b=>Jr a b (KF (Ke l false) a b) (KF (Ke l true) a b)) a b).length<=2:=fun a b=>Zkd _ _ _ _
  have k:∀Ed (a:Nat),a<n->idx (X7 Ed n) (a:Int)=some ((Vt n).map fun j=>KF Ed a j):=fun Ed a o=>by
   have h:=ZkF (Ed:=Ed) o
   assumption
  have f:∀Ed (a b:Nat),b<n->idx ((Vt n).map fun j=>KF Ed a j) (b:Int)=some (KF Ed a b):=fun Ed a b y=>by rw[ZC (by grind)];simp
  refine Xh (fun st=>∃a:Nat,st=(WE (fun a b=>Jr a b (KF (Ke l false) a b) (KF (Ke l true) a b)) n a,(a:Int))/\a<=n) (fun st=>n - st.2.toNat)
   (fun r=>r=WE (fun a b=>Jr a b (KF (Ke l false) a b) (KF (Ke l true) a b)) n n) ⟨0,rfl,Vo _⟩ ?_ ?_
  ·rintro st ⟨a,rfl,o⟩;by_cases p:a<n
   ·have t:Va .i64 ((a:Int)+1)=((a+1:Nat):Int):=by rw[Zy (by omega) (by omega)];omega
    simp only[i,show decide ((a:Int)<(n:Int))=true from (by grind),Zc,k _ a p,Za,t,Vfb,List.length_range]
    refine Xh (fun st=>∃b:Nat,st=(WE (fun a b=>Jr a b (KF (Ke l false) a b) (KF (Ke l true) a b)) n a++Xw (fun a b=>Jr a b (KF (Ke l false) a b) (KF (Ke l true) a b)) a b,(b:Int))/\b<=n) (fun st=>n - st.2.toNat)
     (fun r=>r=WE (fun a b=>Jr a b (KF (Ke l false) a b) (KF (Ke l true) a b)) n (a+1)) ⟨0,by simp [Xw],Vo _⟩ ?_ ?_
    ·rintro st ⟨b,rfl,y⟩;by_cases d:b<n
     ·have u:Va .i64 ((b:Int)+1)=((b+1:Nat):Int):=by rw[Zy (by omega) (by omega)];omega
      simp only[show decide ((b:Int)<(n:Int))=true from (by grind),Zc,f _ a b d,Za,u];by_cases e:a=b
      ·subst e;simp only[decide_true,Zc];exact⟨_,rfl,⟨a+1,by rw[Gk,Zn rfl,Vhb],d⟩,by omega⟩
      ·have A:(WE (fun a b=>Jr a b (KF (Ke l false) a b) (KF (Ke l true) a b)) n a++Xw (fun a b=>Jr a b (KF (Ke l false) a b) (KF (Ke l true) a b)) a b).length<=10000:=by rw[Vs];have:=Zda c m o;have:=Zeo c a b;omega
       simp only[show decide ((a:Int)=(b:Int))=false from (by grind),Zd];rw[Zjg (by omega)];simp only[Za];by_cases g:KF (Ke l true) a b=KF (Ke l false) a b
       ·simp only[g,decide_true,Vc,Zd];refine⟨_,rfl,⟨b+1,?_,d⟩,by omega⟩;rw[Gk,Zg e, <-Vha];congr 1;unfold Jr
        grind
       ·simp only[Zk g,Vn,Zc];rw[Zjg (by grind)];simp only[Za];refine⟨_,rfl,⟨b+1,?_,d⟩,by omega⟩;rw[Gk,Zg e,Vha, <-Vha (WE _ _ _)];congr 1;unfold Jr
        grind
     ·have:b=n:=by omega
      subst this;simp only[show decide ((b:Int)<(b:Int))=false from (by simp),Zd];exact⟨_,rfl,(ZbC _ _ _).symm⟩
    grind
   ·have:a=n:=by omega
    simp_all
  ·rintro r rfl
   have B:Srt (WE (fun a b=>Jr a b (KF (Ke l false) a b) (KF (Ke l true) a b)) n n):=ZnN (fun a b x C=>Zq2 C) (fun a b=>by
    unfold Jr;have:=q a b;split
    ·grind
    ·split
     ·simp
     ·split<;>simp)
   rw[Ztu B (by have:=Zda c m (Vw n);omega)];simp
 grind
end Q
namespace Q
open Tr Go Gr
theorem Zri{Ed:Nat->Nat->Int->Prop}(f:∀u v w,Ed u v w->0<=w){s v:Nat} :∀(k:Nat) (d:Int),d.toNat=k->Wk Ed s v d->∃m,Least Ed s v m:=by
 intro k
 induction k using Vcb with
 |ind k j=>
  intro d i h;by_cases c:∃b,Wk Ed s v b/\b<d
  ·obtain⟨b,e,g⟩:=c;have a:=e.nonneg f
   grind
  ·exact⟨d,h,by grind⟩
theorem Zum{Ed:Nat->Nat->Int->Prop}(a:∀u v w,Ed u v w->1<=w){k i j:Nat}{d:Int}(h:Wb Ed k i j d):1<=d:=by
 induction h with
 |one e=>grind
 |cons e _ _ b=>grind
theorem ZdB{n:Nat}{l:List Kh}(hF:GS n l)(free:Bool):∀u v w,Ke l free u v w->u<n/\v<n/\1<=w:=fun u v w ⟨p,a,_,b,c,d⟩=>by have:=hF p a;omega
theorem Zdx{n:Nat}{l:List Kh}(hF:GS n l)(a b:Nat):KF (Ke l true) a b= -1\/(KF (Ke l false) a b≠ -1/\KF (Ke l false) a b<=KF (Ke l true) a b):=by
 by_cases h:∃d,Least (Ke l true) a b d
 ·right;obtain⟨d,g⟩:=h;have i:∀u v w,Ke l false u v w->0<=w:=fun u v w h=>by have:=ZdB hF false u v w h;omega
  have c:Wk (Ke l false) a b d:=by
   have key:∀{v:Nat}{d:Int},Wk (Ke l true) a v d->Wk (Ke l false) a v d:=by
    intro v d h
    induction h with
    |nil=>exact .nil
    |snoc _ e o=>
     obtain⟨p,k,_,j⟩:=e;exact .snoc o ⟨p,k,(fun(h:false=true)=>by cases h),j⟩
   exact key g.1
  obtain⟨m,f⟩:=Zri i _ d rfl c;rw[RQ f,RQ g];have:=f.1.nonneg i;exact⟨by omega,f.2 d c⟩
 ·left;unfold KF
  grind
theorem Zlv{n:Nat}{l:List Kh}(hF:GS n l){free:Bool}{m:List (List Int)}(i:XC (Ke l free) n n m){a b:Nat}(j:a<n)(k:b<n)(o:a≠b):Rel (KF (Ke l free) a b) (gm m a b):=by
 have p:∀u v w,Ke l free u v w->u<n/\v<n:=fun u v w h=>⟨(ZdB hF free u v w h).1,(ZdB hF free u v w h).2.1⟩
 have c:∀d,Wk (Ke l free) a b d->gm m a b<=d:=fun d f=>by
  rcases f.wb p with ⟨h,_⟩|h
  ·omega
  ·exact i.all a b d j k h
 rcases i.snd a b j k with h|⟨_,h⟩
 ·right;refine⟨h,?_⟩;by_cases g:∃d,Least (Ke l free) a b d
  ·obtain⟨d,f⟩:=g;rw[RQ f];have:=c d f.1;omega
  ·left;unfold KF;grind
 ·left;have e:=Wb.wk (Wk.nil (Ed:=Ke l free) (s:=a)) h;rw[Int.zero_add]at e;rw[RQ ⟨e,c⟩];exact⟨rfl,Zum (fun u v w h=>(ZdB hF free u v w h).2.2) h⟩
theorem Zq3(a b:Nat)(d f:Int):(Xr a b d f).length<=2:=by
 unfold Xr
 grind
theorem ZpE{n:Nat}(q:n<=64){l:List Kh}(hF:GS n l)(w:l.length<=4096):
 ∃c d,XC (Ke l false) n n c/\XC (Ke l true) n n d/\F116 l (n:Int)=some (WE (fun a b=>Xr a b (gm c a b) (gm d a b)) n n):=by
 obtain⟨c,C,j⟩:=Zmb q hF w false;obtain⟨d,D,k⟩:=Zmb q hF w true;refine⟨c,d,j,k,?_⟩
 have key:∃z,F116 l (n:Int)=some z/\z=WE (fun a b=>Xr a b (gm c a b) (gm d a b)) n n:=by
  unfold F116;rw[C];simp only[Za];rw[D];simp only[Za];have i:∀a b:Nat,((fun a b=>Xr a b (gm c a b) (gm d a b)) a b).length<=2:=fun a b=>Zq3 _ _ _ _
  refine Xh (fun st=>∃a:Nat,st=(WE (fun a b=>Xr a b (gm c a b) (gm d a b)) n a,(a:Int))/\a<=n) (fun st=>n - st.2.toNat)
   (fun r=>r=WE (fun a b=>Xr a b (gm c a b) (gm d a b)) n n) ⟨0,rfl,Vo _⟩ ?_ (by simp)
  rintro st ⟨a,rfl,E⟩;by_cases g:a<n
  ·have A:Va .i64 ((a:Int)+1)=((a+1:Nat):Int):=by rw[Zy (by omega) (by omega)];omega
   obtain⟨u,s,J⟩:=j.shp.row g;obtain⟨v,t,K⟩:=k.shp.row g;have F:a<c.length:=by grind
   have G:a<d.length:=by grind
   have L:idx c (a:Int)=some u:=by assumption
   have M:idx d (a:Int)=some v:=by assumption
   simp only[show decide ((a:Int)<(n:Int))=true from (by grind),Zc,A]
   refine Xh (fun st=>∃b:Nat,st=(WE (fun a b=>Xr a b (gm c a b) (gm d a b)) n a++Xw (fun a b=>Xr a b (gm c a b) (gm d a b)) a b,(b:Int))/\b<=n) (fun st=>n - st.2.toNat)
    (fun r=>r=WE (fun a b=>Xr a b (gm c a b) (gm d a b)) n (a+1)) ⟨0,by simp [Xw],Vo _⟩ ?_ ?_
   ·rintro st ⟨b,rfl,N⟩;by_cases e:b<n
    ·have B:Va .i64 ((b:Int)+1)=((b+1:Nat):Int):=by rw[Zy (by omega) (by omega)];omega
     have H:b<u.length:=by omega
     have I:b<v.length:=by omega
     have x:idx u (b:Int)=some (gm c a b):=by
      have:=Zbb j.shp g e s
      assumption
     have y:idx v (b:Int)=some (gm d a b):=by
      have:=Zbb k.shp g e t
      assumption
     simp only[show decide ((b:Int)<(n:Int))=true from (by grind),Zc,L,M,x,y,Za,B];by_cases f:a=b
     ·subst f;simp only[decide_true,Zc,Za];exact⟨_,rfl,⟨a+1,by rw[Gk,Zn rfl,Vhb],e⟩,by omega⟩
     ·have p:(WE (fun a b=>Xr a b (gm c a b) (gm d a b)) n a++Xw (fun a b=>Xr a b (gm c a b) (gm d a b)) a b).length<=10000:=by rw[Vs];have:=Zda i q E;have:=Zeo i a b;omega
      simp only[show decide ((a:Int)=(b:Int))=false from (by grind),Zd,Za];by_cases h:14400<gm c a b
      ·simp only[Ze h,Zc];refine⟨_,rfl,⟨b+1,?_,e⟩,by omega⟩;rw[Gk,Zg f];unfold Xr
       grind
      ·simp only[Zk h,Zd];rw[GJ (by grind)];simp only[Za];by_cases o:gm c a b<gm d a b
       ·simp only[Ze o,Zc,Za];by_cases m:gm d a b<=14400
        ·simp only[Ze m,Zc];rw[GJ (by grind)];simp only[Za];refine⟨_,rfl,⟨b+1,?_,e⟩,by omega⟩;rw[Gk,Zg f];unfold Xr
         grind
        ·simp only[Zk m,Zd];refine⟨_,rfl,⟨b+1,?_,e⟩,by omega⟩;rw[Gk,Zg f];unfold Xr
         grind
       ·simp only[Zk o,Zd,Za];refine⟨_,rfl,⟨b+1,?_,e⟩,by omega⟩;rw[Gk,Zg f];unfold Xr
        grind
    ·have:b=n:=by omega
     subst this;simp only[show decide ((b:Int)<(b:Int))=false from (by simp),Zd];exact⟨_,rfl,(ZbC _ _ _).symm⟩
   grind
  ·have:a=n:=by omega
   simp_all
 grind
theorem ZfO{n:Nat}(g:n<=64){l:List Kh}(hF:GS n l)(k:l.length<=4096):∃c:List Kh,F56 l (n:Int)=some c/\F116 l (n:Int)=some c/\c.length<=8192:=by obtain⟨m,o,e,f,h⟩:=ZpE g hF k;refine⟨_,ZfP g hF k (fun a b=>(Zdx hF a b).imp id fun h=>h.2),?_,Zda (fun a b=>Zkd _ _ _ _) g (Vw n)⟩;rw[h];congr 1;refine(ZnL (Vw n) fun a b i j d=>?_).symm;exact Zq5 (Zlv hF e i j d) (Zlv hF f i j d) (Zdx hF a b)
end Q
namespace Q
open Tr Go
def K8(n:Nat)(chk:Nat->Int):Option Nat:=(Vt n).find? fun i=>decide (chk i≠0)
theorem Zqu{n i:Nat}{chk:Nat->Int}(b:i<n)(h:∀j,j<i->chk j=0)(a:chk i≠0):K8 n chk=some i:=by
 unfold K8
 simp_all
theorem ZdI{n:Nat}{chk:Nat->Int}(h:∀j,j<n->chk j=0):K8 n chk=none:=by
 unfold K8
 grind
theorem WH{n:Nat}{chk:Nat->Int} :K8 n chk=none↔∀j,j<n->chk j=0:=by
 refine⟨fun h j a=>?_,ZdI⟩;unfold K8 at h
 grind
theorem D0{n i:Nat}{chk:Nat->Int}(h:K8 n chk=some i):i<n/\chk i≠0:=by
 unfold K8 at h
 grind
def pick{τ:Type}(n:Nat)(chk:Nat->Int)(R:Nat->τ)(E:τ):τ:=match K8 n chk with
 |some i=>R i
 |none=>E
theorem Jv{σ τ:Type}{step:σ->Option (σ ⊕ τ)}{n:Nat}(a:Nat->σ->Prop)(chk:Nat->Int)(R:Nat->τ)(E:τ)
 (g:∀i s,i<n->a i s->chk i=0->∃s',step s=some (.inl s')/\a (i+1) s')
 (b:∀i s,i<n->a i s->chk i≠0->step s=some (.inr (R i)))
 (c:∀s,a n s->step s=some (.inr E)):∀s,a 0 s->run step s=some (pick n chk R E):=by
 have key:∀(k i:Nat) (s:σ),n - i=k->i<=n->a i s->(∀j,j<i->chk j=0)->run step s=some (pick n chk R E):=by
  intro k
  induction k with
  |zero=>
   intro i s m l d f;have:i=n:=by omega
   subst this;rw[Xy (c s d)];unfold pick
   rw[ZdI f]
  |succ k p=>
   intro i s m l d f;by_cases e:chk i=0
   ·obtain⟨s',h,o⟩:=g i s (by omega) d e;rw[Hl h]
    grind
   ·rw[Xy (b i s (by omega) d e)];unfold pick;rw[Zqu (by omega) f e]
 grind
def WL{t:Ty}(key:Nat->El t)(i:Nat)(m:List (El t×Bool)):Prop:= ∀k,Ve (ZI (Zj t) k m) false=true↔∃j,j<i/\key j=k
theorem WL.nil{t:Ty}(key:Nat->El t):WL key 0 []:=fun k=>by simp [ZI]
theorem WL.add{t:Ty}(b:t.key=true){key:Nat->El t}{i:Nat}{m:List (El t×Bool)}(h:WL key i m):WL key (i+1) (ZY (Zj t) (key i) true m):=by
 classical
 intro k;rw[GC b];by_cases a:k=key i
 ·grind
 ·rw[Zg a,h k]
  grind
theorem ZW{i n:Nat}(h:i<n)(a:n<=9223372036854775807):Va .i64 ((i:Int)+1)=((i+1:Nat):Int):=by rw[Zy (by omega) (by omega)];omega
theorem ZO{i n:Nat}(h:i<n):decide ((i:Int)<(n:Int))=true:=by grind
theorem JF(n:Nat):decide ((n:Int)<(n:Int))=false:=by simp
def okx(x:Int):Bool:=
 ((decide (97<=x) &&decide (x<=122)) || (decide (65<=x) &&decide (x<=90)) || (decide (48<=x) &&decide (x<=57))) || (decide (x=45) ||decide (x=95) ||decide (x=46))
def Yw(c:UInt8):Bool:=okx (c.toNat:Int)
def Wo(s:List UInt8):Bool:=decide (1<=s.length/\s.length<=32) &&s.all Yw
theorem ZiT(b:Bool)(x y:Bool):(bif b then some x else some y)=some (bif b then x else y):=by grind
def H5(s:List UInt8)(i:Nat):Int:=if Yw ((s[i]?).getD 0) then 0 else 1
theorem Zds(s:List UInt8):K8 s.length (H5 s)=none↔s.all Yw=true:=by
 rw[WH,List.all_eq_true];constructor
 ·intro h c b;obtain⟨i,a,rfl⟩:=Vj b;have:=h i a;unfold H5 at this
  grind
 ·intro h i a;unfold H5
  grind
theorem Ro(s:List UInt8)(f:s.length<=9223372036854775807):F77 s=some (Wo s):=by
 unfold F77;rw[Jv (n:=s.length) (fun i st=>st=(i:Int)) (H5 s) (fun _=>.inr false) (.inl ()) ?_ ?_ ?_ (0:Int) rfl]
 ·unfold pick;simp only[Za]
  cases e:K8 s.length (H5 s) with
  |none=>
   have d:=(Zds s).1 e;simp only[Vl];unfold Wo;rw[d,Bool.and_true];by_cases g:0<s.length
   ·rw[Ze (by omega)];simp only[Zc,Za];congr 1
    grind
   grind
  |some i=>
   simp only[Sum.elim_inr]
   have d:s.all Yw=false:=by
    cases b:s.all Yw with
    |false=>rfl
    |true=>rw[(Zds s).2 b]at e;grind
   unfold Wo
   grind
 ·rintro i _ a rfl b;refine⟨_,?_,rfl⟩
  have c:Yw s[i]=true:=by
   unfold H5 at b
   grind
  simp only[ZO a,Zc,ZC a,Za,ZiT,ZW a f];unfold Yw okx at c
  grind
 ·rintro i _ a rfl b
  have c:Yw s[i]=false:=by
   unfold H5 at b
   grind
  simp only[ZO a,Zc,ZC a,Za,ZiT,ZW a f];unfold Yw okx at c
  grind
 simp
theorem Zaj(s:List UInt8):F121 s=some (Wo s):=by
 unfold F121;by_cases f:s.length<1
 ·rw[Ze (by omega)];simp only[Zc,Za];unfold Wo
  grind
 ·rw[Zk (by omega)];simp only[Zd,Za];by_cases g:32<s.length
  ·rw[Ze (by omega)];simp only[Zc];unfold Wo
   grind
  ·rw[Zk (by omega)];simp only[Zd];have e:s.length<=9223372036854775807:=by omega
   rw[Jv (n:=s.length) (fun i st=>st=(i:Int)) (H5 s) (fun _=>.inr false) (.inl ()) ?_ ?_ ?_ (0:Int) rfl]
   ·unfold pick;simp only[Za];unfold Wo;rw[Ze (by omega),Vaa]
    cases d:K8 s.length (H5 s) with
    |none=>rw[(Zds s).1 d];rfl
    |some i=>
     have h:s.all Yw=false:=by
      cases b:s.all Yw with
      |false=>rfl
      |true=>rw[(Zds s).2 b]at d;grind
     grind
   ·rintro i _ a rfl b;refine⟨_,?_,rfl⟩
    have c:Yw s[i]=true:=by
     unfold H5 at b
     grind
    simp only[ZO a,Zc,ZC a,Za,ZW a e];unfold Yw okx at c
    grind
   ·rintro i _ a rfl b
    have c:Yw s[i]=false:=by
     unfold H5 at b
     grind
    simp only[ZO a,Zc,ZC a,Za,ZW a e];unfold Yw okx at c
    grind
   simp
end Q
namespace Q
open Tr Go
open Classical in
noncomputable def Ys(name dup num:Prop):Int:=if name then 12 else if dup then 6 else if num then 2 else 0
theorem GI{a b c:Prop} :Ys a b c=0↔¬a/\ ¬b/\ ¬c:=by
 unfold Ys
 grind
theorem ZaH{a b c:Prop}(h:a):Ys a b c=12:=by unfold Ys;grind
theorem ZaG{a b c:Prop}(h:¬a)(d:b):Ys a b c=6:=by unfold Ys;grind
theorem ZaJ{a b c:Prop}(h:¬a)(d:¬b)(e:c):Ys a b c=2:=by unfold Ys;grind
theorem ZaI{a b c:Prop}(h:¬a)(d:¬b)(e:¬c):Ys a b c=0:=by unfold Ys;grind
theorem ZbR{τ:Type}{step:Int->Option (Int ⊕ τ)}{i:Nat}{p:Nat->Prop}{R E:τ}(f:∀j:Nat,j<i->¬p j->step (j:Int)=some (.inl ((j+1:Nat):Int)))(c:∀j:Nat,j<i->p j->step (j:Int)=some (.inr R))
 (a:step (i:Int)=some (.inr E)):((∃j,j<i/\p j)->run step (0:Int)=some R)/\((¬∃j,j<i/\p j)->run step (0:Int)=some E):=by
 classical
 have key:=Jv (n:=i) (step:=step) (fun j st=>st=(j:Int)) (fun j=>if p j then 1 else 0) (fun _=>R) E (by grind) (by grind) (by grind) (0:Int) rfl
 constructor
 ·rintro ⟨j,e,g⟩;rw[key];unfold pick
  cases d:K8 i (fun j=>if p j then 1 else 0) with
  |some k=>rfl
  |none=>
   have:=WH.1 d j e
   grind
 ·intro b;rw[key];unfold pick;rw[ZdI (by grind)]
theorem YT(x a b:Int):F122 x a b=some (decide (a<=x/\x<=b)):=by
 unfold F122
 grind
theorem ZhQ(x a b:Int):F113 x a b=some (decide (a<=x/\x<=b)):=YT x a b
abbrev GX:=List UInt8×Int×Bool×Int×Unit
abbrev YJ:=List UInt8×Int×Bool×Unit
noncomputable def HM(l:List GX)(i:Nat):Int:=
 let x:GX:=(l[i]?).getD ([],0,false,0,())
 Ys (Wo x.1=false) (∃j,j<i/\((l[j]?).getD ([],0,false,0,())).1=x.1) (x.2.1<0\/16<=x.2.1\/x.2.2.2.1<0\/3600<x.2.2.2.1)
noncomputable def HN(l:List GX):Int×Int:=if 64<l.length then(0,5) else pick l.length (HM l) (fun i=>((i:Int),HM l i)) (0,0)
theorem ZtM(l:List GX)(q:∀x∈l,x.1.length<=9223372036854775807):F185 l=some (HN l):=by
 unfold F185 HN;by_cases k:64<l.length
 ·grind
 ·rw[Zg k,Zk (by omega)];simp only[Zd];rw[Jv (n:=l.length) (fun i st=>∃m,st=(m,(i:Int))/\WL (t:=Y9) (fun j=>((l[j]?).getD ([],0,false,0,())).1) i m) (HM l) (fun i=>.inr ((i:Int),HM l i)) (.inl ()) ?_ ?_ ?_ ([],(0:Int)) ⟨[],rfl,WL.nil _⟩]
  ·unfold pick
   grind
  ·rintro i _ a ⟨m,rfl,f⟩ d;have p:(l[i]?).getD ([],0,false,0,())=l[i]:=by grind
   unfold HM at d;simp only[p]at d;obtain⟨e,b,g⟩:=GI.1 d;have e:Wo (l[i]).1=true:=by grind
   have c:Ve (ZI (Zj Y9) (l[i]).1 m) false=false:=by
    cases o:Ve (ZI (Zj Y9) (l[i]).1 m) false with
    |false=>rfl
    |true=>exact absurd ((f _).1 o) b
   refine⟨(ZY (Zj Y9) (l[i]).1 true m,((i+1:Nat):Int)),?_,_,rfl,?_⟩
   ·simp only[ZO a,Zc,ZC a,Za,Ro _ (q _ (Vf a)),e,Vc,Zd,c,ZW a (by omega),
     show decide ((l[i]).2.1<0)=false from (by grind),show decide ((16:Int)<=(l[i]).2.1)=false from (by grind),show decide ((l[i]).2.2.2.1<0)=false from (by grind),show decide ((3600:Int)<(l[i]).2.2.2.1)=false from (by grind)]
   ·have:=WL.add (t:=Y9) rfl f
    grind
  ·rintro i _ a ⟨m,rfl,f⟩ d;have p:(l[i]?).getD ([],0,false,0,())=l[i]:=by grind
   simp only[ZO a,Zc,ZC a,Za,Ro _ (q _ (Vf a))];unfold HM at d⊢;simp only[p]at d⊢;by_cases e:Wo (l[i]).1=false
   ·rw[ZaH e,e];rfl
   ·have h:Wo (l[i]).1=true:=by grind
    simp only[h,Vc,Zd];by_cases b:∃j,j<i/\((l[j]?).getD ([],0,false,0,())).1=(l[i]).1
    ·rw[ZaG (by simp) b,(f _).2 b];rfl
    ·have c:Ve (ZI (Zj Y9) (l[i]).1 m) false=false:=by
      cases o:Ve (ZI (Zj Y9) (l[i]).1 m) false with
      |false=>rfl
      |true=>exact absurd ((f _).1 o) b
     simp only[c,Zd]
     have g:(l[i]).2.1<0\/16<=(l[i]).2.1\/(l[i]).2.2.2.1<0\/3600<(l[i]).2.2.2.1:=by
      by_cases g:(l[i]).2.1<0\/16<=(l[i]).2.1\/(l[i]).2.2.2.1<0\/3600<(l[i]).2.2.2.1
      ·omega
      ·exact absurd (ZaI e b g) d
     rw[ZaJ (by simp) b g]
     grind
  simp
theorem ZtN(l:List GX):F128 l=some (HN l):=by
 unfold F128 HN;by_cases s:64<l.length
 ·grind
 ·rw[Zg s,Zk (by omega)];simp only[Zd]
  have a:∀i (b:i<l.length) (τ:Type) (R E:τ) (f:Int->τ),f (i:Int)=R->((∃j,j<i/\((l[j]?).getD ([],0,false,0,())).1=(l[i]).1)->run (fun h:Int=>
        bif decide (h<(i:Int)) then
         Vb (idx l h) fun t=>
          bif decide (t.fst=(l[i]).fst) then some (Sum.inr (f (i:Int))) else some (Sum.inl (Va .i64 (h+(1:Int))))
        else some (Sum.inr E)) (0:Int)=some R)/\((¬∃j,j<i/\((l[j]?).getD ([],0,false,0,())).1=(l[i]).1)->run (fun h:Int=>
        bif decide (h<(i:Int)) then
         Vb (idx l h) fun t=>
          bif decide (t.fst=(l[i]).fst) then some (Sum.inr (f (i:Int))) else some (Sum.inl (Va .i64 (h+(1:Int))))
        else some (Sum.inr E)) (0:Int)=some E):=by
   intro i b τ R E f u;refine ZbR (p:=fun j=>((l[j]?).getD ([],0,false,0,())).1=(l[i]).1) (fun j q m=>?_) (fun j q m=>?_) ?_
   ·have e:j<l.length:=by omega
    have g:(l[j]?).getD ([],0,false,0,())=l[j]:=by grind
    rw[g]at m;simp only[ZO q,Zc,ZC e,Za,Zk m,Zd,ZW q (by omega)]
   ·have e:j<l.length:=by omega
    have g:(l[j]?).getD ([],0,false,0,())=l[j]:=by grind
    rw[g]at m;simp only[ZO q,Zc,ZC e,Za,Ze m,u]
   simp
  rw[Jv (n:=l.length) (fun i st=>st=(i:Int)) (HM l) (fun i=>.inr ((i:Int),HM l i)) (.inl ()) ?_ ?_ ?_ (0:Int) rfl]
  ·unfold pick
   grind
  ·rintro i _ b rfl d;have g:(l[i]?).getD ([],0,false,0,())=l[i]:=by grind
   unfold HM at d;simp only[g]at d;obtain⟨k,c,o⟩:=GI.1 d;have k:Wo (l[i]).1=true:=by grind
   refine⟨((i+1:Nat):Int),?_,rfl⟩;simp only[ZO b,Zc,ZC b,Za,Zaj,k,Vc,Zd];rw[(a i b _ _ (Sum.inl ()) (fun x=>Sum.inr (x,(6:Int))) rfl).2 c];simp only[Za,Vl,YT,Ze (show (0:Int)<=(l[i]).2.1/\(l[i]).2.1<=15 by omega),Vc,Zd,Ze (show (0:Int)<=(l[i]).2.2.2.1/\(l[i]).2.2.2.1<=3600 by omega),ZW b (by omega)]
  ·rintro i _ b rfl d;have g:(l[i]?).getD ([],0,false,0,())=l[i]:=by grind
   simp only[ZO b,Zc,ZC b,Za,Zaj];unfold HM at d⊢;simp only[g]at d⊢;by_cases k:Wo (l[i]).1=false
   ·rw[ZaH k,k];rfl
   ·have r:Wo (l[i]).1=true:=by grind
    simp only[r,Vc,Zd];by_cases c:∃j,j<i/\((l[j]?).getD ([],0,false,0,())).1=(l[i]).1
    ·rw[ZaG (by simp) c,(a i b _ _ (Sum.inl ()) (fun x=>Sum.inr (x,(6:Int))) rfl).1 c];rfl
    ·rw[(a i b _ _ (Sum.inl ()) (fun x=>Sum.inr (x,(6:Int))) rfl).2 c]
     have o:(l[i]).2.1<0\/16<=(l[i]).2.1\/(l[i]).2.2.2.1<0\/3600<(l[i]).2.2.2.1:=by
      by_cases o:(l[i]).2.1<0\/16<=(l[i]).2.1\/(l[i]).2.2.2.1<0\/3600<(l[i]).2.2.2.1
      ·omega
      ·exact absurd (ZaI k c o) d
     rw[ZaJ (by simp) c o];simp only[Za,Vl,YT]
     grind
  simp
end Q
namespace Q
open Tr Go
theorem Zkj(x:Int):F153 x=some (decide (0<=x/\x<=7)):=by
 unfold F153
 grind
theorem ZaE{α:Type}{l:List α}{nm:α->List UInt8}{d:α}{i:Nat}(h:i<l.length)(k:l.length<=9223372036854775807){y:List UInt8}{τ:Type}(R E:τ):
 ((∃j,j<i/\nm ((l[j]?).getD d)=y)->run (fun b:Int=>
        bif decide (b<(i:Int)) then
         Vb (idx l b) fun g=>
          bif decide (nm g=y) then some (Sum.inr R) else some (Sum.inl (Va .i64 (b+(1:Int))))
        else some (Sum.inr E)) (0:Int)=some R)/\((¬∃j,j<i/\nm ((l[j]?).getD d)=y)->run (fun b:Int=>
        bif decide (b<(i:Int)) then
         Vb (idx l b) fun g=>
          bif decide (nm g=y) then some (Sum.inr R) else some (Sum.inl (Va .i64 (b+(1:Int))))
        else some (Sum.inr E)) (0:Int)=some E):=by
 refine ZbR (p:=fun j=>nm ((l[j]?).getD d)=y) (fun j e c=>?_) (fun j e c=>?_) ?_
 ·have a:j<l.length:=by omega
  have f:(l[j]?).getD d=l[j]:=by grind
  rw[f]at c;simp only[ZO e,Zc,ZC a,Za,Zk c,Zd,ZW e (by omega)]
 ·have a:j<l.length:=by omega
  have f:(l[j]?).getD d=l[j]:=by grind
  rw[f]at c;simp only[ZO e,Zc,ZC a,Za,Ze c]
 simp
def r0:YJ:=([],0,false,())
noncomputable def Gi(l:List YJ)(i:Nat):Int:=
 Ys (Wo ((l[i]?).getD r0).1=false) (∃j,j<i/\((l[j]?).getD r0).1=((l[i]?).getD r0).1) (¬(0<=((l[i]?).getD r0).2.1/\((l[i]?).getD r0).2.1<=7))
noncomputable def Gj(l:List YJ):Int×Int:=if 64<l.length then(0,5) else pick l.length (Gi l) (fun i=>((i:Int),Gi l i)) (0,0)
theorem Kq{α:Type}{l:List α}{i:Nat}(h:i<l.length)(d:α):(l[i]?).getD d=l[i]:=by grind
theorem Dy{t:Ty}{key:Nat->El t}{i:Nat}{m:List (El t×Bool)}(h:WL key i m){k:El t}(b:¬∃j,j<i/\key j=k):Ve (ZI (Zj t) k m) false=false:=by
 cases a:Ve (ZI (Zj t) k m) false with
 |false=>rfl
 |true=>exact absurd ((h k).1 a) b
theorem ZsS(l:List YJ)(p:∀x∈l,x.1.length<=9223372036854775807):F152 l=some (Gj l):=by
 unfold F152 Gj;by_cases o:64<l.length
 ·grind
 ·rw[Zg o,Zk (by omega)];simp only[Zd];rw[Jv (n:=l.length) (fun i st=>∃m,st=(m,(i:Int))/\WL (t:=Y9) (fun j=>((l[j]?).getD r0).1) i m) (Gi l) (fun i=>.inr ((i:Int),Gi l i)) (.inl ()) ?_ ?_ ?_ ([],(0:Int)) ⟨[],rfl,WL.nil _⟩]
  ·unfold pick
   grind
  ·rintro i _ a ⟨m,rfl,f⟩ c;have g:=Kq a r0;unfold Gi at c;rw[g]at c;obtain⟨d,b,e⟩:=GI.1 c;have d:Wo (l[i]).1=true:=by grind
   have k:=Dy f b;have e:0<=(l[i]).2.1/\(l[i]).2.1<=7:=by omega
   refine⟨(ZY (Zj Y9) (l[i]).1 true m,((i+1:Nat):Int)),?_,_,rfl,?_⟩
   ·simp only[ZO a,Zc,ZC a,Za,Ro _ (p _ (Vf a)),d,Vc,Zd,k,ZW a (by omega),Zkj,Ze e]
   ·have:=WL.add (t:=Y9) rfl f
    grind
  ·rintro i _ a ⟨m,rfl,f⟩ c;have g:=Kq a r0;simp only[ZO a,Zc,ZC a,Za,Ro _ (p _ (Vf a))];unfold Gi at c⊢;rw[g]at c;simp only[g];by_cases d:Wo (l[i]).1=false
   ·rw[ZaH d,d];rfl
   ·have h:Wo (l[i]).1=true:=by grind
    simp only[h,Vc,Zd];by_cases b:∃j,j<i/\((l[j]?).getD r0).1=(l[i]).1
    ·rw[ZaG (by simp) b,(f _).2 b];rfl
    ·simp only[Dy f b,Zd];have e:¬(0<=(l[i]).2.1/\(l[i]).2.1<=7):=fun e=>c (ZaI d b (by omega));rw[ZaJ (by simp) b e,Zkj,Zk e];rfl
  simp
theorem ZsT(l:List YJ):F126 l=some (Gj l):=by
 unfold F126 Gj;by_cases m:64<l.length
 ·grind
 ·rw[Zg m,Zk (by omega)];simp only[Zd];have g:l.length<=9223372036854775807:=by omega
  rw[Jv (n:=l.length) (fun i st=>st=(i:Int)) (Gi l) (fun i=>.inr ((i:Int),Gi l i)) (.inl ()) ?_ ?_ ?_ (0:Int) rfl]
  ·unfold pick
   grind
  ·rintro i _ a rfl c;have h:=Kq a r0;unfold Gi at c;rw[h]at c;obtain⟨e,b,f⟩:=GI.1 c;have e:Wo (l[i]).1=true:=by grind
   have f:0<=(l[i]).2.1/\(l[i]).2.1<=7:=by omega
   refine⟨((i+1:Nat):Int),?_,rfl⟩;simp only[ZO a,Zc,ZC a,Za,Zaj,e,Vc,Zd];rw[(ZaE (nm:=fun x:YJ=>x.1) (d:=r0) a g (y:=(l[i]).1) _ _).2 b];simp only[Za,Vl,YT,Ze f,Vc,Zd,ZW a g]
  ·rintro i _ a rfl c;have h:=Kq a r0;simp only[ZO a,Zc,ZC a,Za,Zaj];unfold Gi at c⊢;rw[h]at c;simp only[h];by_cases e:Wo (l[i]).1=false
   ·rw[ZaH e,e];rfl
   ·have k:Wo (l[i]).1=true:=by grind
    simp only[k,Vc,Zd];by_cases b:∃j,j<i/\((l[j]?).getD r0).1=(l[i]).1
    ·rw[ZaG (by simp) b,(ZaE (nm:=fun x:YJ=>x.1) (d:=r0) a g (y:=(l[i]).1) _ _).1 b];rfl
    ·rw[(ZaE (nm:=fun x:YJ=>x.1) (d:=r0) a g (y:=(l[i]).1) _ _).2 b];have f:¬(0<=(l[i]).2.1/\(l[i]).2.1<=7):=fun f=>c (ZaI e b (by omega));rw[ZaJ (by simp) b f];simp only[Za,Vl,YT,Zk f];rfl
  simp
abbrev JO:=List UInt8×Int×Int×Int×Int×Int×Unit
abbrev Kc:=List JO×Int×Int×Int×Unit
def p0:JO:=([],0,0,0,0,0,())
def Yu(x:JO):Bool:=decide (0<=x.2.1/\x.2.1<=1000000) && (decide (1<=x.2.2.1/\x.2.2.1<=8) && (decide (1<=x.2.2.2.1/\x.2.2.2.1<=16) && (decide (0<=x.2.2.2.2.1/\x.2.2.2.2.1<=86400) &&decide (1<=x.2.2.2.2.2.1/\x.2.2.2.2.2.1<=255))))
noncomputable def Hh(l:List JO)(i:Nat):Int:=
 Ys (Wo ((l[i]?).getD p0).1=false) (∃j,j<i/\((l[j]?).getD p0).1=((l[i]?).getD p0).1) (Yu ((l[i]?).getD p0)=false)
def HB(f:Kc):Bool:=decide (0<=f.2.1/\f.2.1<=1000000) && (decide (0<=f.2.2.1/\f.2.2.1<=86400) &&decide (0<=f.2.2.2.1/\f.2.2.2.1<=1000000))
noncomputable def Jq(f:Kc):Int×Int:=
 if HB f=false then(-1,2) else if 16<f.1.length then(0,5) else pick f.1.length (Hh f.1) (fun i=>((i:Int),Hh f.1 i)) (0,0)
theorem Zmn{w:Int->Int->Int->Option Bool}(c:∀x a b,w x a b=some (decide (a<=x/\x<=b)))(f:Kc):
 (Vb (w f.2.1 0 1000000) fun x0=>bif !x0 then some true else Vb (w f.2.2.1 0 86400) fun d=>bif !d then some true else Vb (w f.2.2.2.1 0 1000000) fun e=>some !e)=some (!HB f):=by
 unfold HB;simp only[c,Za]
 grind
theorem ZdK{w:Int->Int->Int->Option Bool}(c:∀x a b,w x a b=some (decide (a<=x/\x<=b)))(x:JO):
 (Vb (w x.2.1 0 1000000) fun x0=>bif !x0 then some true else Vb (w x.2.2.1 1 8) fun d=>bif !d then some true else Vb (w x.2.2.2.1 1 16) fun e=>bif !e then some true else
   Vb (w x.2.2.2.2.1 0 86400) fun f=>bif !f then some true else Vb (w x.2.2.2.2.2.1 1 255) fun g=>some !g)=some (!Yu x):=by
 unfold Yu;simp only[c,Za]
 grind
theorem Zgg(f:Kc)(p:∀x∈f.1,x.1.length<=9223372036854775807):F109 f=some (Jq f):=by
 unfold F109 Jq;rw[Zmn (w:=F113) ZhQ f];simp only[Za]
 cases r:HB f with
 |true=>
  rw[Zg (by simp)];simp only[Vc,Zd];by_cases l:16<f.1.length
  ·grind
  ·rw[Zg l,Zk (by omega)];simp only[Zd];rw[Jv (n:=f.1.length) (fun i st=>∃m,st=(m,(i:Int))/\WL (t:=Y9) (fun j=>((f.1[j]?).getD p0).1) i m) (Hh f.1) (fun i=>.inr ((i:Int),Hh f.1 i)) (.inl ()) ?_ ?_ ?_ ([],(0:Int)) ⟨[],rfl,WL.nil _⟩]
   ·unfold pick
    grind
   ·rintro i _ a ⟨m,rfl,g⟩ c;have h:=Kq a p0;unfold Hh at c;rw[h]at c;obtain⟨d,b,e⟩:=GI.1 c;have d:Wo (f.1[i]).1=true:=by grind
    have o:=Dy g b;have e:Yu f.1[i]=true:=by grind
    refine⟨(ZY (Zj Y9) (f.1[i]).1 true m,((i+1:Nat):Int)),?_,_,rfl,?_⟩
    ·simp only[ZO a,Zc,ZC a,Za,Ro _ (p _ (Vf a)),d,Vc,Zd,o,ZW a (by omega)];rw[ZdK (w:=F113) ZhQ,e];rfl
    ·have:=WL.add (t:=Y9) rfl g
     grind
   ·rintro i _ a ⟨m,rfl,g⟩ c;have h:=Kq a p0;simp only[ZO a,Zc,ZC a,Za,Ro _ (p _ (Vf a))];unfold Hh at c⊢;rw[h]at c;simp only[h];by_cases d:Wo (f.1[i]).1=false
    ·rw[ZaH d,d];rfl
    ·have k:Wo (f.1[i]).1=true:=by grind
     simp only[k,Vc,Zd];by_cases b:∃j,j<i/\((f.1[j]?).getD p0).1=(f.1[i]).1
     ·rw[ZaG (by simp) b,(g _).2 b];rfl
     ·simp only[Dy g b,Zd]
      have e:Yu f.1[i]=false:=by
       cases q:Yu f.1[i] with
       |false=>rfl
       |true=>exact absurd (ZaI d b (by grind)) c
      rw[ZaJ (by simp) b e,ZdK (w:=F113) ZhQ,e];rfl
   simp
 |false=>rfl
theorem Zql(f:Kc):F117 f=some (Jq f):=by
 unfold F117 Jq;rw[Zmn (w:=F122) YT f];simp only[Za]
 cases p:HB f with
 |true=>
  rw[Zg (by simp)];simp only[Vc,Zd];by_cases m:16<f.1.length
  ·grind
  ·rw[Zg m,Zk (by omega)];simp only[Zd];have h:f.1.length<=9223372036854775807:=by omega
   rw[Jv (n:=f.1.length) (fun i st=>st=(i:Int)) (Hh f.1) (fun i=>.inr ((i:Int),Hh f.1 i)) (.inl ()) ?_ ?_ ?_ (0:Int) rfl]
   ·unfold pick
    grind
   ·rintro i _ a rfl c;have k:=Kq a p0;unfold Hh at c;rw[k]at c;obtain⟨e,b,g⟩:=GI.1 c;have e:Wo (f.1[i]).1=true:=by grind
    have g:Yu f.1[i]=true:=by grind
    refine⟨((i+1:Nat):Int),?_,rfl⟩;simp only[ZO a,Zc,ZC a,Za,Zaj,e,Vc,Zd];rw[(ZaE (nm:=fun x:JO=>x.1) (d:=p0) a h (y:=(f.1[i]).1) _ _).2 b];simp only[Za,Vl];rw[ZdK (w:=F122) YT,g];simp only[Vc,Za,Zd,ZW a h]
   ·rintro i _ a rfl c;have k:=Kq a p0;simp only[ZO a,Zc,ZC a,Za,Zaj];unfold Hh at c⊢;rw[k]at c;simp only[k];by_cases e:Wo (f.1[i]).1=false
    ·rw[ZaH e,e];rfl
    ·have l:Wo (f.1[i]).1=true:=by grind
     simp only[l,Vc,Zd];by_cases b:∃j,j<i/\((f.1[j]?).getD p0).1=(f.1[i]).1
     ·rw[ZaG (by simp) b,(ZaE (nm:=fun x:JO=>x.1) (d:=p0) a h (y:=(f.1[i]).1) _ _).1 b];rfl
     ·rw[(ZaE (nm:=fun x:JO=>x.1) (d:=p0) a h (y:=(f.1[i]).1) _ _).2 b]
      have g:Yu f.1[i]=false:=by
       cases o:Yu f.1[i] with
       |false=>rfl
       |true=>exact absurd (ZaI e b (by grind)) c
      rw[ZaJ (by simp) b g];simp only[Za,Vl];rw[ZdK (w:=F122) YT,g];rfl
   simp
 |false=>rfl
end Q
namespace Q
open Tr Go
abbrev Wr:=Int×Int×Int×Bool×Bool×Unit
def c0:Wr:=(0,0,0,false,false,())
def ZbL(l:List Wr)(i:Nat)(n:Int):Bool:=decide (((l[i]?).getD c0).1<0) ||decide (n<=((l[i]?).getD c0).1)
def ZbM(l:List Wr)(i:Nat):Bool:=decide (0<i) &&decide (((l[i - 1]?).getD c0).1=((l[i]?).getD c0).1)
def ZbN(l:List Wr)(i:Nat)(lo a:Int):Bool:=decide (((l[i]?).getD c0).2.1<lo) || (decide (((l[i]?).getD c0).2.2.1<((l[i]?).getD c0).2.1) || (decide (a<((l[i]?).getD c0).2.2.1) || (decide (0<i) &&decide (((l[i]?).getD c0).2.1<((l[i - 1]?).getD c0).2.2.1))))
def JW(l:List Wr)(n lo a:Int)(i:Nat):Int:=if ZbL l i n then 9 else if ZbM l i then 13 else if ZbN l i lo a then 10 else 0
theorem Zj8(i:Nat):decide ((0:Int)<(i:Int))=decide (0<i):=by simp
theorem Zlh{l:List Wr}{i:Nat}(b:i<l.length)(c:l.length<=9223372036854775807)(a:0<i):idx l (Va .i64 ((i:Int) - 1))=some ((l[i - 1]?).getD c0):=by
 have e:Va .i64 ((i:Int) - 1)=((i - 1:Nat):Int):=by rw[Zy (by omega) (by omega)];omega
 rw[e,ZC (by omega),Kq (by omega)]
theorem ZkZ{l:List Wr}{i:Nat}(b:i<l.length)(d:l.length<=9223372036854775807)(n lo a:Int):F7 l (i:Int) n lo a=some (JW l n lo a i):=by
 unfold F7 JW ZbL ZbM ZbN;rw[Kq b,ZC b];simp only[Za,Zj8];by_cases c:0<i
 ·simp only[Zlh b d c,Za,Ze c,Zc,Vaa]
  grind
 grind
noncomputable def Xb(l:List Wr)(n lo a:Int):Int:=if l.length<2\/32<l.length then 5 else pick l.length (JW l n lo a) (JW l n lo a) 0
theorem ZiZ(l:List Wr)(n lo b:Int):∃i,F6 l n lo b=some (i,Xb l n lo b):=by
 unfold F6 Xb;by_cases e:l.length<2
 ·rw[Ze (by omega),Zn (.inl e)];simp
 ·rw[Zk (by omega)];by_cases f:32<l.length
  ·rw[Zn (.inr f)];simp only[Zd,Za,Ze (show (32:Int)<(l.length:Int) by omega),Zc];simp
  ·rw[Zg (by omega)];simp only[Zd,Za,Zk (show¬(32:Int)<(l.length:Int) by omega)];have d:l.length<=9223372036854775807:=by omega
   rw[Jv (n:=l.length) (fun i st=>st=(i:Int)) (JW l n lo b) (fun i=>.inr ((i:Int),JW l n lo b i)) (.inl ()) ?_ ?_ ?_ (0:Int) rfl]
   ·unfold pick
    cases K8 l.length (JW l n lo b)<;>exact⟨_,rfl⟩
   ·rintro i _ a rfl c;refine⟨((i+1:Nat):Int),?_,rfl⟩;simp only[ZO a,Zc,ZkZ a d,Za,c,decide_true,Vc,Zd,ZW a d]
   ·rintro i _ a rfl c;simp only[ZO a,Zc,ZkZ a d,Za,Zk c,Vn]
   simp
theorem Zo4(l:List Wr)(n lo c:Int):F114 l n lo c=some (Xb l n lo c):=by
 unfold F114 Xb;by_cases m:l.length<2
 ·grind
 ·rw[Zk (by omega)];by_cases o:32<l.length
  ·grind
  ·rw[Zg (by omega)];simp only[Zd,Za,Zk (by omega)];have e:l.length<=9223372036854775807:=by omega
   have step:∀i (a:i<l.length),(bif decide ((i:Int)<(↑(Vg l):Int)) then
         Vb (idx l (i:Int)) fun b=>
          Vb (bif decide (b.fst<(0:Int)) then some true else some (decide (n<=b.fst))) fun f=>
           bif f then some (Sum.inr (Sum.inr (9:Int)))
           else
            Vb
             (bif decide ((0:Int)<(i:Int)) then Vb (idx l (Va .i64 ((i:Int) - (1:Int)))) fun g=>some (decide (g.fst=b.fst))
             else some false)
             fun h=>
             bif h then some (Sum.inr (Sum.inr (13:Int)))
             else
              Vb
               (bif decide (b.snd.fst<lo) then some true
               else
                bif decide (b.snd.snd.fst<b.snd.fst) then some true
                else
                 bif decide (c<b.snd.snd.fst) then some true
                 else
                  bif decide ((0:Int)<(i:Int)) then
                   Vb (idx l (Va .i64 ((i:Int) - (1:Int)))) fun j=>some (decide (b.snd.fst<j.snd.snd.fst))
                  else some false)
               fun k=>bif k then some (Sum.inr (Sum.inr (10:Int))) else some (Sum.inl (Va .i64 ((i:Int)+(1:Int))))
         else some (Sum.inr (Sum.inl ())))=(if JW l n lo c i=0 then some (Sum.inl ((i+1:Nat):Int)) else some (Sum.inr (Sum.inr (JW l n lo c i))):Option (Int ⊕ (Unit ⊕ Int))):=by
    intro i a;simp only[ZO a,Zc,ZC a,Za,Zj8,ZW a e];unfold JW ZbL ZbM ZbN;rw[Kq a];by_cases d:0<i
    ·simp only[Zlh a e d,Za,Ze d,Zc,Vaa]
     grind
    grind
   rw[Jv (n:=l.length) (fun i st=>st=(i:Int)) (JW l n lo c) (fun i=>.inr (JW l n lo c i)) (.inl ()) ?_ ?_ ?_ (0:Int) rfl]
   ·unfold pick
    grind
   all_goals simp_all
abbrev YK:=Int×Int×Int×List UInt8×Int×Bool×Bool×List Wr×Unit
abbrev Yd:=Int×Int×Int×Int×Bool×Unit
abbrev Zf:=List GX×List YJ×List YK×List Yd×List Kh×Kc×Unit
def u0:YK:=(0,0,0,[],0,false,false,[],())
abbrev Znb:=List UInt8×Int×Int×Unit
def runK(x:YK):Znb:=(x.2.2.2.1,x.2.1,x.2.2.1,())
open Classical in
noncomputable def Xx(n:Zf)(i:Nat):Int:=
 let x:=(n.2.2.1[i]?).getD u0
 if Wo x.2.2.2.1=false then 12 else if (decide (x.1< -1) ||decide (x.2.2.1<0))=true then 2 else if (decide (x.2.1<0) ||decide (36524<x.2.1))=true then 11
 else if (decide (x.2.2.2.2.1<0) ||decide ((n.2.1.length:Int)<=x.2.2.2.2.1))=true then 9
 else if Xb x.2.2.2.2.2.2.2.1 (n.1.length:Int) 0 3155932800≠0 then Xb x.2.2.2.2.2.2.2.1 (n.1.length:Int) 0 3155932800
 else if∃j,j<i/\runK ((n.2.2.1[j]?).getD u0)=runK x then 6 else 0
noncomputable def Zet(n:Zf):Int×Int×Int×Unit:=if 1024<n.2.2.1.length then(2,0,5,()) else pick n.2.2.1.length (Xx n) (fun i=>(2,(i:Int),Xx n i,())) (0,0,0,())
theorem Ztb(n:Zf)(q:∀x∈n.2.2.1,x.2.2.2.1.length<=9223372036854775807):F90 n=some (Zet n):=by
 unfold F90 Zet F100;by_cases r:1024<n.2.2.1.length
 ·grind
 ·rw[Zg r,Zk (by omega)];simp only[Zd];have s:n.2.2.1.length<=9223372036854775807:=by omega
  rw[Jv (n:=n.2.2.1.length) (fun i st=>∃m,st=((0,0,0,()),m,(i:Int))/\WL (t:=Gz) (fun j=>runK ((n.2.2.1[j]?).getD u0)) i m) (Xx n) (fun i=>.inr (2,(i:Int),Xx n i,())) (.inl (0,0,0,())) ?_ ?_ ?_ _ ⟨[],rfl,WL.nil _⟩]
  ·unfold pick
   grind
  ·rintro i _ b ⟨m,rfl,k⟩ a;have p:=Kq b u0;unfold Xx at a;simp only[p]at a;obtain⟨ci,g⟩:=ZiZ (n.2.2.1[i]).2.2.2.2.2.2.2.1 (n.1.length:Int) 0 3155932800;by_cases l:Wo (n.2.2.1[i]).2.2.2.1=false
   ·grind
   rw[Zg l]at a;by_cases c:(decide ((n.2.2.1[i]).1< -1) ||decide ((n.2.2.1[i]).2.2.1<0))=true
   ·grind
   rw[Zg c]at a;by_cases d:(decide ((n.2.2.1[i]).2.1<0) ||decide (36524<(n.2.2.1[i]).2.1))=true
   ·grind
   rw[Zg d]at a;by_cases e:(decide ((n.2.2.1[i]).2.2.2.2.1<0) ||decide ((n.2.1.length:Int)<=(n.2.2.1[i]).2.2.2.2.1))=true
   ·grind
   rw[Zg e]at a;by_cases o:Xb (n.2.2.1[i]).2.2.2.2.2.2.2.1 (n.1.length:Int) 0 3155932800=0
   ·rw[Zg (by omega)]at a;by_cases h:∃j,j<i/\runK ((n.2.2.1[j]?).getD u0)=runK n.2.2.1[i]
    ·simp_all
    ·have f:Wo (n.2.2.1[i]).2.2.2.1=true:=by grind
     have u:=Dy k h;refine⟨((0,0,0,()),ZY (Zj Gz) (runK n.2.2.1[i]) true m,((i+1:Nat):Int)),?_,_,rfl,?_⟩
     ·simp only[ZO b,Zc,ZC b,Za,Ro _ (q _ (Vf b)),f,Vc,Zd,g,o,decide_true,ZW b s];simp only[Vp,Vm]at c d e;simp only[c.1,c.2,d.1,d.2,e.1,e.2,Zd,Za];rw[show Ve (ZI (Zj Gz) ((n.2.2.1[i]).2.2.2.1,(n.2.2.1[i]).2.1,(n.2.2.1[i]).2.2.1,()) m) false=false from u];rfl
     ·have:=WL.add (t:=Gz) rfl k
      grind
   omega
  ·rintro i _ b ⟨m,rfl,k⟩ a;have p:=Kq b u0;obtain⟨ci,g⟩:=ZiZ (n.2.2.1[i]).2.2.2.2.2.2.2.1 (n.1.length:Int) 0 3155932800;simp only[ZO b,Zc,ZC b,Za,Ro _ (q _ (Vf b))];unfold Xx at a⊢;simp only[p]at a⊢;by_cases l:Wo (n.2.2.1[i]).2.2.2.1=false
   ·grind
   have f:Wo (n.2.2.1[i]).2.2.2.1=true:=by grind
   rw[Zg l]at a⊢;simp only[f,Vc,Zd];by_cases c:(decide ((n.2.2.1[i]).1< -1) ||decide ((n.2.2.1[i]).2.2.1<0))=true
   ·grind
   rw[Zg c]at a⊢;by_cases d:(decide ((n.2.2.1[i]).2.1<0) ||decide (36524<(n.2.2.1[i]).2.1))=true
   ·grind
   rw[Zg d]at a⊢;simp only[Vp,Vm]at c d;simp only[c.1,c.2,d.1,d.2,Zd,Za];by_cases e:(decide ((n.2.2.1[i]).2.2.2.2.1<0) ||decide ((n.2.1.length:Int)<=(n.2.2.1[i]).2.2.2.2.1))=true
   ·grind
   rw[Zg e]at a⊢;simp only[Vp,Vm]at e;simp only[e.1,e.2,Zd,Za,g];by_cases o:Xb (n.2.2.1[i]).2.2.2.2.2.2.2.1 (n.1.length:Int) 0 3155932800=0
   ·rw[Zg (by omega)]at a⊢;simp only[o,decide_true,Vc,Zd];by_cases h:∃j,j<i/\runK ((n.2.2.1[j]?).getD u0)=runK n.2.2.1[i]
    ·rw[Zn h];rw[show Ve (ZI (Zj Gz) ((n.2.2.1[i]).2.2.2.1,(n.2.2.1[i]).2.1,(n.2.2.1[i]).2.2.1,()) m) false=true from (k _).2 h];rfl
    grind
   grind
  grind
theorem ZlV(n:Zf){i:Nat}(l:i<n.2.2.1.length)(y:n.2.2.1.length<=9223372036854775807):F127 n (i:Int)=some (Xx n i):=by
 unfold F127 Xx;have v:=Kq l u0;simp only[v,ZC l,Za,Zaj,Zo4,YT];by_cases m:Wo (n.2.2.1[i]).2.2.2.1=false
 ·grind
 have f:Wo (n.2.2.1[i]).2.2.2.1=true:=by grind
 rw[Zg m];simp only[f,Vc,Zd];by_cases c:(decide ((n.2.2.1[i]).1< -1) ||decide ((n.2.2.1[i]).2.2.1<0))=true
 ·grind
 rw[Zg c];simp only[Vp,Vm]at c;simp only[c.1,c.2,Zd,Za];by_cases o:(decide ((n.2.2.1[i]).2.1<0) ||decide (36524<(n.2.2.1[i]).2.1))=true
 ·grind
 rw[Zg o]
 have u:0<=(n.2.2.1[i]).2.1/\(n.2.2.1[i]).2.1<=36524:=by
  grind
 simp only[Ze u,Vc,Zd];by_cases d:(decide ((n.2.2.1[i]).2.2.2.2.1<0) ||decide ((n.2.1.length:Int)<=(n.2.2.1[i]).2.2.2.2.1))=true
 ·grind
 rw[Zg d];simp only[Vp,Vm]at d;simp only[d.1,d.2,Zd,Za];by_cases q:Xb (n.2.2.1[i]).2.2.2.2.2.2.2.1 (n.1.length:Int) 0 3155932800=0
 ·rw[Zg (by omega)];simp only[q,decide_true,Vc,Zd]
  have k:=ZbR (i:=i) (p:=fun j=>runK ((n.2.2.1[j]?).getD u0)=runK n.2.2.1[i]) (τ:=Unit ⊕ Int) (R:=.inr 6) (E:=.inl ()) (step:=fun g:Int=>
   bif decide (g<(i:Int)) then
    Vb (idx n.2.2.1 g) fun h=>
     Vb
      (bif decide (h.snd.snd.snd.fst=(n.2.2.1[i]).snd.snd.snd.fst) then
        bif decide (h.snd.fst=(n.2.2.1[i]).snd.fst) then some (decide (h.snd.snd.fst=(n.2.2.1[i]).snd.snd.fst)) else some false
      else some false)
      fun w=>bif w then some (Sum.inr (Sum.inr (6:Int))) else some (Sum.inl (Va .i64 (g+(1:Int))))
   else some (Sum.inr (Sum.inl ()))) (fun j e a=>?_) (fun j e a=>?_) (by simp)
  ·by_cases x:∃j,j<i/\runK ((n.2.2.1[j]?).getD u0)=runK n.2.2.1[i]
   all_goals simp_all
  ·have b:j<n.2.2.1.length:=by omega
   have a:¬runK n.2.2.1[j]=runK n.2.2.1[i]:=by grind
   simp only[ZO e,Zc,ZC b,Za,ZW e (by omega)];by_cases r:(n.2.2.1[j]).2.2.2.1=(n.2.2.1[i]).2.2.2.1
   ·rw[Ze r];by_cases s:(n.2.2.1[j]).2.1=(n.2.2.1[i]).2.1
    ·rw[Ze s];have t:¬(n.2.2.1[j]).2.2.1=(n.2.2.1[i]).2.2.1:=fun t=>a (by unfold runK;grind)
     grind
    grind
   grind
  ·have b:j<n.2.2.1.length:=by omega
   have a:runK n.2.2.1[j]=runK n.2.2.1[i]:=by grind
   unfold runK at a;simp only[Vva,and_true]at a;simp only[ZO e,Zc,ZC b,Za,Ze a.1,Ze a.2.1,Ze a.2.2]
 grind
end Q
namespace Q
open Tr Go Gr
def f0:Kh:=(0,0,0,false,())
def JH(p:Kh):Kh:=(p.1,p.2.1,0,p.2.2.2.1,())
def Yx(n:Nat)(p:Kh):Bool:= !decide (0<=p.1/\p.1<(n:Int)) || (!decide (0<=p.2.1/\p.2.1<(n:Int)) ||decide (p.1=p.2.1))
def Yy(p:Kh):Bool:=decide (p.2.2.1<1) ||decide (14400<p.2.2.1)
open Classical in
noncomputable def K4(n:Nat)(l:List Kh)(i:Nat):Int:=
 if Yx n ((l[i]?).getD f0)=true then 9 else if Yy ((l[i]?).getD f0)=true then 2 else if∃j,j<i/\JH ((l[j]?).getD f0)=JH ((l[i]?).getD f0) then 6 else 0
theorem Zac{n:Nat}{l:List Kh}{i:Nat}(h:K4 n l i=0):Yx n ((l[i]?).getD f0)=false/\Yy ((l[i]?).getD f0)=false/\ ¬∃j,j<i/\JH ((l[j]?).getD f0)=JH ((l[i]?).getD f0):=by
 unfold K4 at h;by_cases a:Yx n ((l[i]?).getD f0)=true
 ·grind
 ·rw[Zg a]at h;by_cases b:Yy ((l[i]?).getD f0)=true
  all_goals simp_all
theorem Zlb{n:Nat}{p:Kh}(h:Yx n p=false):(0<=p.1/\p.1<n)/\(0<=p.2.1/\p.2.1<n)/\p.1≠p.2.1:=by
 unfold Yx at h
 grind
theorem Zlc{p:Kh}(h:Yy p=false):1<=p.2.2.1/\p.2.2.1<=14400:=by
 unfold Yy at h
 grind
theorem Zgj{n:Nat}{l:List Kh}(h:∀i,i<l.length->K4 n l i=0):GS n l:=by intro p d;obtain⟨i,c,rfl⟩:=Vj d;obtain⟨a,b,_⟩:=Zac (h i c);rw[Kq c]at a b;have:=Zlb a;have:=Zlc b;omega
theorem Zup(x:Int)(n:Nat):F101 x (n:Int)=some (decide (0<=x/\x<(n:Int))):=by
 unfold F101
 grind
theorem ZiM(n:Nat)(p:Kh):(Vb (F101 p.1 (n:Int)) fun a=>bif !a then some true else Vb (F101 p.2.1 (n:Int)) fun b=>bif !b then some true else some (decide (p.1=p.2.1)))=some (Yx n p):=by
 unfold Yx;simp only[Zup,Za]
 grind
theorem ZoJ{n:Nat}(c:n<=9223372036854775807)(p:Kh):(Vb (F122 p.1 0 (Va .i64 ((n:Int) - 1))) fun a=>bif !a then some true else Vb (F122 p.2.1 0 (Va .i64 ((n:Int) - 1))) fun b=>bif !b then some true else some (decide (p.1=p.2.1)))=some (Yx n p):=by
 have e:Va .i64 ((n:Int) - 1)=(n:Int) - 1:=Zy (by omega) (by omega);have h:∀x:Int,decide (0<=x/\x<=(n:Int) - 1)=decide (0<=x/\x<(n:Int)):=by grind
 unfold Yx;simp only[e,YT,Za,h]
 grind
theorem ZiN(p:Kh):(bif decide (p.2.2.1<(1:Int)) then some true else some (decide ((14400:Int)<p.2.2.1)))=some (Yy p):=by
 unfold Yy
 grind
theorem ZoK(p:Kh):decide ((1:Int)<=p.2.2.1/\p.2.2.1<=14400)= !Yy p:=by
 unfold Yy
 grind
def sameF(a b:Kh):Bool:=decide (a.1=b.1) && (decide (a.2.1=b.2.1) && (decide (a.2.2.1=b.2.2.1) &&a.2.2.2.1==b.2.2.2.1))
def RR(c l:List Kh)(i:Nat):Int:=if sameF ((c[i]?).getD f0) ((l[i]?).getD f0) then 0 else 1
def Xo(c l:List Kh):Bool:=decide (c.length=l.length) && (K8 c.length (RR c l)).isNone
theorem Zji{τ:Type}{c l:List Kh}(h:c.length=l.length)(j:c.length<=9223372036854775807)(R E:τ):run (fun s2:Int=>
              bif decide (s2<(↑(Vg c):Int)) then
               Vb (idx c s2) fun f=>
                Vb (idx l s2) fun g=>
                 bif !(decide (f.fst=g.fst) && (decide (f.snd.fst=g.snd.fst) && (decide (f.snd.snd.fst=g.snd.snd.fst) &&f.snd.snd.snd.fst==g.snd.snd.snd.fst))) then
                  some (Sum.inr R)
                 else some (Sum.inl (Va .i64 (s2+(1:Int))))
              else some (Sum.inr E)) (0:Int)=some (if (K8 c.length (RR c l)).isNone then E else R):=by
 rw[Jv (n:=c.length) (fun i st=>st=(i:Int)) (RR c l) (fun _=>R) E ?_ ?_ ?_ (0:Int) rfl]
 ·unfold pick
  grind
 ·rintro i _ b rfl d;have a:i<l.length:=by omega
  refine⟨((i+1:Nat):Int),?_,rfl⟩;unfold RR at d;rw[Kq b,Kq a]at d
  have e:sameF c[i] l[i]=true:=by
   grind
  unfold sameF at e;simp only[ZO b,Zc,ZC b,ZC a,Za,e,Vc,Zd,ZW b j]
 ·rintro i _ b rfl d;have a:i<l.length:=by omega
  unfold RR at d;rw[Kq b,Kq a]at d
  have e:sameF c[i] l[i]=false:=by
   grind
  unfold sameF at e;simp only[ZO b,Zc,ZC b,ZC a,Za,e,Vn]
 simp
theorem Ztx{n:Nat}{l:List Kh}(u:l.length<=4096)(h:∀i,i<l.length->K4 n l i=0):F60 l (n:Int)=some (0,0):=by
 unfold F60
 have b:∀i (_:i<l.length),¬∃j,j<i/\(fun j=>(((l[j]?).getD f0).1,((l[j]?).getD f0).2.1,((l[j]?).getD f0).2.2.2.1,())) j=(((l[i]?).getD f0).1,((l[i]?).getD f0).2.1,((l[i]?).getD f0).2.2.2.1,()):=by
  rintro i a ⟨j,o,k⟩;refine(Zac (h i a)).2.2 ⟨j,o,?_⟩;simp only[Vva,and_true]at k;unfold JH
  grind
 rw[Jv (n:=l.length) (fun i st=>∃m,st=(m,(i:Int))/\WL (t:=XV) (fun j=>(((l[j]?).getD f0).1,((l[j]?).getD f0).2.1,((l[j]?).getD f0).2.2.2.1,())) i m) (K4 n l) (fun i=>.inr ((i:Int),K4 n l i)) (.inl ()) ?_ ?_ ?_ ([],(0:Int)) ⟨[],rfl,WL.nil _⟩]
 ·unfold pick;rw[ZdI h];rfl
 ·rintro i _ a ⟨m,rfl,e⟩ g;have p:=Kq a f0;have v:=Dy e (b i a);obtain⟨c,d,_⟩:=Zac g;rw[p]at c d;obtain⟨q,r,f⟩:=Zlb c;have s:=Zlc d;refine⟨(ZY (Zj XV) ((l[i]).1,(l[i]).2.1,(l[i]).2.2.2.1,()) true m,((i+1:Nat):Int)),?_,_,rfl,?_⟩
  ·simp only[ZO a,Zc,ZC a,Za,show decide ((l[i]).1<0)=false from (by grind),show decide ((n:Int)<=(l[i]).1)=false from (by grind),show decide ((l[i]).2.1<0)=false from (by grind),
    show decide ((n:Int)<=(l[i]).2.1)=false from (by grind),Zk f,Zd,show decide ((l[i]).2.2.1<1)=false from (by grind),show decide ((14400:Int)<(l[i]).2.2.1)=false from (by grind),ZW a (by omega)]
   grind
  ·have:=WL.add (t:=XV) rfl e
   grind
 all_goals grind
theorem ZqZ{n:Nat}(g:n<=64){l:List Kh}(b:l.length<=4096)(h:∀i,i<l.length->K4 n l i=0):∃c,F116 l (n:Int)=some c/\c.length<=8192/\F55 l (n:Int)=some (Xo c l):=by
 obtain⟨c,d,e,f⟩:=ZfO g (Zgj h) b;refine⟨c,e,f,?_⟩;unfold F55 Xo;rw[Ztx b h]
 have em:Tr.imax (n:Int) 0=(n:Int):=by rfl
 simp only[show decide ((64:Int)<(n:Int))=false from (by grind),Zd,Za,decide_true,Vc,em];rw[d];simp only[Za];by_cases a:c.length=l.length
 ·rw[Ze (by omega),Ze a];simp only[Vc,Zd,Vaa];rw[Zji a (by omega) _ _]
  grind
 grind
theorem Zr3(n:Zf)(J:n.1.length<=64)(I:n.2.2.2.2.1.length<=4096):∃c,((∀i,i<n.2.2.2.2.1.length->K4 n.1.length n.2.2.2.2.1 i=0)->F116 n.2.2.2.2.1 (n.1.length:Int)=some c)/\F89 n=some (match K8 n.2.2.2.2.1.length (K4 n.1.length n.2.2.2.2.1) with
 |some i=>(4,(i:Int),K4 n.1.length n.2.2.2.2.1 i,())
 |none=>if Xo c n.2.2.2.2.1 then(0,0,0,()) else(4,0,18,()))/\
 F125 n=some (match K8 n.2.2.2.2.1.length (K4 n.1.length n.2.2.2.2.1) with
  |some i=>((i:Int),K4 n.1.length n.2.2.2.2.1 i)
  |none=>if Xo c n.2.2.2.2.1 then(0,0) else(0,18)):=by
 have x:n.2.2.2.2.1.length<=9223372036854775807:=by omega
 have code:run (fun s0:(Int×Int×Int×Unit) ×List (Kh×Bool) ×Int=>
       bif decide (s0.snd.snd<(↑(Vg n.snd.snd.snd.snd.fst):Int)) then
        Vb (idx n.snd.snd.snd.snd.fst s0.snd.snd) fun e=>
         Vb
          (Vb (F101 e.fst (↑(Vg n.fst):Int)) fun K=>
            bif !K then some true
            else Vb (F101 e.snd.fst (↑(Vg n.fst):Int)) fun L=>bif !L then some true else some (decide (e.fst=e.snd.fst)))
          fun M=>
          bif M then Vb (F100 (4:Int) s0.snd.snd (9:Int)) fun N=>some (Sum.inr (Sum.inr N))
          else
           Vb (bif decide (e.snd.snd.fst<(1:Int)) then some true else some (decide ((14400:Int)<e.snd.snd.fst))) fun O=>
            bif O then Vb (F100 (4:Int) s0.snd.snd (2:Int)) fun l=>some (Sum.inr (Sum.inr l))
            else
             bif Ve (ZI (Zj Wd) (e.fst,e.snd.fst,(0:Int),e.snd.snd.snd.fst,()) s0.snd.fst) (false) then
              Vb (F100 (4:Int) s0.snd.snd (6:Int)) fun y=>some (Sum.inr (Sum.inr y))
             else
              some
               (Sum.inl
                 (s0.fst,ZY (Zj Wd) (e.fst,e.snd.fst,(0:Int),e.snd.snd.snd.fst,()) true s0.snd.fst,Va .i64 (s0.snd.snd+(1:Int))))
       else some (Sum.inr (Sum.inl s0.fst)))
  (((0:Int),(0:Int),(0:Int),()),[],(0:Int))=some (pick n.2.2.2.2.1.length (K4 n.1.length n.2.2.2.2.1) (fun i=>.inr (4,(i:Int),K4 n.1.length n.2.2.2.2.1 i,())) (.inl (0,0,0,()))):=by
  refine Jv (n:=n.2.2.2.2.1.length) (fun i st=>∃m,st=((0,0,0,()),m,(i:Int))/\WL (t:=Wd) (fun j=>JH ((n.2.2.2.2.1[j]?).getD f0)) i m) (K4 n.1.length n.2.2.2.2.1) _ _ ?_ ?_ ?_ _ ⟨[],rfl,WL.nil _⟩
  ·rintro i _ a ⟨m,rfl,z⟩ h;have u:=Kq a f0;obtain⟨d,f,o⟩:=Zac h;have D:=Dy z o;rw[u]at d f D;refine⟨((0,0,0,()),ZY (Zj Wd) (JH n.2.2.2.2.1[i]) true m,((i+1:Nat):Int)),?_,_,rfl,?_⟩
   ·simp only[ZO a,Zc,ZC a,Za,ZW a x];rw[ZiM,ZiN];simp only[Za,d,f,Zd];rw[show Ve (ZI (Zj Wd) ((n.2.2.2.2.1[i]).1,(n.2.2.2.2.1[i]).2.1,(0:Int),(n.2.2.2.2.1[i]).2.2.2.1,()) m) false=false from D];rfl
   ·have:=WL.add (t:=Wd) rfl z
    grind
  ·rintro i _ a ⟨m,rfl,z⟩ h;have u:=Kq a f0;simp only[ZO a,Zc,ZC a,Za];rw[ZiM,ZiN];simp only[Za];unfold K4 at h⊢;rw[u]at h;simp only[u];by_cases d:Yx n.1.length n.2.2.2.2.1[i]=true
   ·rw[Zn d,d];rfl
   rw[Zg d]at h⊢;have q:Yx n.1.length n.2.2.2.2.1[i]=false:=by grind
   simp only[q,Zd];by_cases f:Yy n.2.2.2.2.1[i]=true
   ·rw[Zn f,f];rfl
   rw[Zg f]at h⊢;have r:Yy n.2.2.2.2.1[i]=false:=by grind
   simp only[r,Zd];by_cases o:∃j,j<i/\JH ((n.2.2.2.2.1[j]?).getD f0)=JH n.2.2.2.2.1[i]
   ·rw[Zn o];rw[show Ve (ZI (Zj Wd) ((n.2.2.2.2.1[i]).1,(n.2.2.2.2.1[i]).2.1,(0:Int),(n.2.2.2.2.1[i]).2.2.2.1,()) m) false=true from (z _).2 o];rfl
   grind
  grind
 have C:∀i (a:i<n.2.2.2.2.1.length) (τ:Type) (R E:τ),((∃j,j<i/\JH ((n.2.2.2.2.1[j]?).getD f0)=JH n.2.2.2.2.1[i])->run (fun s:Int=>
               bif decide (s<(i:Int)) then
                Vb (idx n.snd.snd.snd.snd.fst s) fun l=>
                 Vb
                  (bif decide (l.fst=(n.2.2.2.2.1[i]).fst) then
                    bif decide (l.snd.fst=(n.2.2.2.2.1[i]).snd.fst) then some (l.snd.snd.snd.fst== (n.2.2.2.2.1[i]).snd.snd.snd.fst) else some false
                  else some false)
                  fun y=>bif y then some (Sum.inr R) else some (Sum.inl (Va .i64 (s+(1:Int))))
               else some (Sum.inr E)) (0:Int)=some R)/\((¬∃j,j<i/\JH ((n.2.2.2.2.1[j]?).getD f0)=JH n.2.2.2.2.1[i])->run (fun s:Int=>
               bif decide (s<(i:Int)) then
                Vb (idx n.snd.snd.snd.snd.fst s) fun l=>
                 Vb
                  (bif decide (l.fst=(n.2.2.2.2.1[i]).fst) then
                    bif decide (l.snd.fst=(n.2.2.2.2.1[i]).snd.fst) then some (l.snd.snd.snd.fst== (n.2.2.2.2.1[i]).snd.snd.snd.fst) else some false
                  else some false)
                  fun y=>bif y then some (Sum.inr R) else some (Sum.inl (Va .i64 (s+(1:Int))))
               else some (Sum.inr E)) (0:Int)=some E):=by
  intro i a τ R E;refine ZbR (p:=fun j=>JH ((n.2.2.2.2.1[j]?).getD f0)=JH n.2.2.2.2.1[i]) (fun j B k=>?_) (fun j B k=>?_) (by simp)
  ·have g:j<n.2.2.2.2.1.length:=by omega
   rw[Kq g f0]at k;simp only[ZO B,Zc,ZC g,Za,ZW B (by omega)];by_cases F:(n.2.2.2.2.1[j]).1=(n.2.2.2.2.1[i]).1
   ·rw[Ze F];by_cases G:(n.2.2.2.2.1[j]).2.1=(n.2.2.2.2.1[i]).2.1
    ·rw[Ze G]
     have H:((n.2.2.2.2.1[j]).2.2.2.1== (n.2.2.2.2.1[i]).2.2.2.1)=false:=by
      cases A:((n.2.2.2.2.1[j]).2.2.2.1== (n.2.2.2.2.1[i]).2.2.2.1) with
      |false=>rfl
      |true=>exact absurd (by unfold JH;grind) k
     grind
    grind
   grind
  ·have g:j<n.2.2.2.2.1.length:=by omega
   rw[Kq g f0]at k;unfold JH at k;simp only[Vva,and_true,true_and]at k;have H:((n.2.2.2.2.1[j]).2.2.2.1== (n.2.2.2.2.1[i]).2.2.2.1)=true:=beq_iff_eq.2 k.2.2;simp only[ZO B,Zc,ZC g,Za,Ze k.1,Ze k.2.1]
   grind
 have b:∀(step:Int->Option (Int ⊕ (Unit ⊕ (Int×Int)))),(∀i,i<n.2.2.2.2.1.length->step (i:Int)=if K4 n.1.length n.2.2.2.2.1 i=0 then some (.inl ((i+1:Nat):Int)) else some (.inr (.inr ((i:Int),K4 n.1.length n.2.2.2.2.1 i))))->step (n.2.2.2.2.1.length:Int)=some (.inr (.inl ()))->
  run step (0:Int)=some (pick n.2.2.2.2.1.length (K4 n.1.length n.2.2.2.2.1) (fun i=>.inr ((i:Int),K4 n.1.length n.2.2.2.2.1 i)) (.inl ())):=by
  intro step d f;refine Jv (fun i st=>st=(i:Int)) _ _ _ ?_ ?_ ?_ _ rfl
  all_goals grind
 have key:∀c,(∀(_:∀i,i<n.2.2.2.2.1.length->K4 n.1.length n.2.2.2.2.1 i=0),F116 n.2.2.2.2.1 (n.1.length:Int)=some c/\c.length<=8192/\F55 n.2.2.2.2.1 (n.1.length:Int)=some (Xo c n.2.2.2.2.1))->
  F89 n=some (match K8 n.2.2.2.2.1.length (K4 n.1.length n.2.2.2.2.1) with
  |some i=>(4,(i:Int),K4 n.1.length n.2.2.2.2.1 i,())
  |none=>if Xo c n.2.2.2.2.1 then(0,0,0,()) else(4,0,18,()))/\
  F125 n=some (match K8 n.2.2.2.2.1.length (K4 n.1.length n.2.2.2.2.1) with
   |some i=>((i:Int),K4 n.1.length n.2.2.2.2.1 i)
   |none=>if Xo c n.2.2.2.2.1 then(0,0) else(0,18)):=by
  intro c h;constructor
  ·unfold F89;rw[show run _ _=some _ from code];unfold pick;simp only[Za]
   cases A:K8 n.2.2.2.2.1.length (K4 n.1.length n.2.2.2.2.1) with
   |some i=>rfl
   |none=>
    obtain⟨_,_,o⟩:=h (WH.1 A);simp only[Vl];rw[o]
    cases Xo c n.2.2.2.2.1<;>rfl
  ·unfold F125;rw[b _ (fun i a=>?_) (by simp)]
   ·unfold pick;simp only[Za]
    cases A:K8 n.2.2.2.2.1.length (K4 n.1.length n.2.2.2.2.1) with
    |some i=>rfl
    |none=>
     obtain⟨d,f,_⟩:=h (WH.1 A);simp only[Vl];rw[d];simp only[Za];unfold Xo;by_cases w:c.length=n.2.2.2.2.1.length
     ·rw[Ze (by omega),Ze w];simp only[Vc,Zd,Vaa];rw[Zji w (by omega) _ _]
      grind
     grind
   ·have u:=Kq a f0;simp only[ZO a,Zc,ZC a,Za,ZW a x];rw[ZoJ (by omega),YT,ZoK];simp only[Za];unfold K4;rw[u];by_cases d:Yx n.1.length n.2.2.2.2.1[i]=true
    ·grind
    have q:Yx n.1.length n.2.2.2.2.1[i]=false:=by grind
    rw[Zg d,q];simp only[Zd];by_cases f:Yy n.2.2.2.2.1[i]=true
    ·grind
    have r:Yy n.2.2.2.2.1[i]=false:=by grind
    rw[Zg f,r];simp only[Vn,Vc,Zd];by_cases o:∃j,j<i/\JH ((n.2.2.2.2.1[j]?).getD f0)=JH n.2.2.2.2.1[i]
    all_goals simp [*]
 by_cases v:∀i,i<n.2.2.2.2.1.length->K4 n.1.length n.2.2.2.2.1 i=0
 ·obtain⟨c,d,f,o⟩:=ZqZ J I v
  grind
 grind
end Q
namespace Q
open Tr Go
def KC(f:Int->Option Int)(a:Int):Nat->Option Int
 |0=>some a
 |k+1=>(f a).bind fun b=>KC f b k
inductive JY (f:Int->Option Int):Int->Prop
 |stop {a:Int} :f a=none->JY f a
 |step {a b:Int} :f a=some b->JY f b->JY f a
theorem JY.next{f:Int->Option Int}{a b:Int}(h:JY f a)(e:f a=some b):JY f b:=by
 cases h with
 |stop c=>grind
 |step c d=>grind
theorem Zk3(f:Int->Option Int):∀(k:Nat) (a:Int),KC f a (k+1)=(KC f a k).bind f
 |0,a=>by
  show (f a).bind (fun b=>some b)=f a
  simp
 |k+1,a=>by
  show (f a).bind (fun b=>KC f b (k+1))=((f a).bind fun b=>KC f b k).bind f
  cases h:f a with
  |none=>rfl
  |some b=>exact Zk3 f k b
theorem ZkQ{f:Int->Option Int}{a:Int}(h:JY f a):∀k,KC f a (k+1)≠some a:=by
 induction h with
 |stop c=>intro k d;simp [KC,c]at d
 | @step a b c i g=>
   intro k d;have e:KC f b k=some a:=by simpa [KC,c] using d
   refine g k ?_;rw[Zk3,e]
   grind
theorem few:∀(i:Nat) (l:List Nat),l.Nodup->(∀j∈l,j<i)->l.length<=i
 |0,l,_,h=>by
  cases l with
  |nil=>simp
  |cons a t=>exact absurd (h a (by simp)) (by omega)
 |i+1,l,b,h=>by
  have c:=few i (l.erase i) (b.erase i) (by grind)
  grind
def nx(from_ to_:Nat->Int)(st:Nat->Bool):Nat->Int->Option Int
 |0,_=>none
 |i+1,a=>if st i=true/\from_ i=a then some (to_ i) else nx from_ to_ st i a
variable {from_ to_:Nat->Int}{st:Nat->Bool}
theorem Zch:∀{i:Nat}{a b:Int},nx from_ to_ st i a=some b->∃j,j<i/\st j=true/\from_ j=a/\to_ j=b
 |0,a,b,h=>by cases h
 |i+1,a,b,h=>by
  unfold nx at h;split at h
  ·grind
  ·obtain⟨j,c,d⟩:=Zch h
   grind
theorem ZgY:∀{i:Nat}{a:Int},nx from_ to_ st i a=none->∀j,j<i->st j=true->from_ j≠a
 |0,a,_,j,b,_=>by omega
 |i+1,a,h,j,b,d=>by
  unfold nx at h;split at h
  ·cases h
  ·next e=>
   by_cases c:j=i
   ·grind
   ·exact ZgY h j (by omega) d
theorem Zld{i:Nat} :∀(k:Nat) (a c:Int),JY (nx from_ to_ st i) a->KC (nx from_ to_ st i) a k=some c->
 ∃l:List Nat,l.length=k/\l.Nodup/\ ∀j∈l,j<i/\ ∃t,KC (nx from_ to_ st i) a t=some (from_ j)
 |0,_,_,_,_=>⟨[],rfl,List.nodup_nil,by simp⟩
 |k+1,a,c,p,h=>by
  cases d:nx from_ to_ st i a with
  |none=>simp [KC,d]at h
  |some b=>
   have q:KC (nx from_ to_ st i) b k=some c:=by simpa [KC,d] using h
   obtain⟨l,y,r,o⟩:=Zld k b c (p.next d) q
   obtain⟨j,g,u,e,v⟩:=Zch d;refine⟨j::l,by grind,List.nodup_cons.2 ⟨fun w=>?_,r⟩,fun x m=>?_⟩
   ·obtain⟨_,t,f⟩:=o j w;rw[e]at f;refine ZkQ p t ?_;simpa [KC,d] using f
   ·rcases Vta.1 m with rfl|m
    ·exact⟨g,0,by rw[e];rfl⟩
    ·obtain⟨s,t,f⟩:=o x m;exact⟨s,t+1,by simpa [KC,d] using f⟩
theorem Zr2{i k:Nat}{a c:Int}(d:JY (nx from_ to_ st i) a)(h:KC (nx from_ to_ st i) a k=some c):k<=i:=by obtain⟨l,e,b,f⟩:=Zld k a c d h;have:=few i l b (by grind);omega
theorem Zqa{f g:Int->Option Int}{fr:Int}(m:∀a,a≠fr->g a=f a){a:Int}(h:JY f a)(c:∀k,KC f a k≠some fr):JY g a:=by
 induction h with
 | @stop a d=>
   have:a≠fr:=fun e=>c 0 (by rw[e];rfl)
   exact .stop (by grind)
 | @step a b d l j=>
   have:a≠fr:=fun e=>c 0 (by rw[e];rfl);refine .step (by grind) (j fun k i=>c (k+1) ?_);simpa [KC,d] using i
theorem Zp9{f g:Int->Option Int}{fr to:Int}(l:∀a,a≠fr->g a=f a)(c:g fr=some to)(d:JY g to){a:Int}(h:JY f a):JY g a:=by
 induction h with
 | @stop a i=>
   by_cases e:a=fr
   ·subst e;exact .step c d
   ·exact .stop (by grind)
 | @step a b i k j=>
   by_cases e:a=fr
   ·subst e;exact .step c d
   ·exact .step (by grind) j
theorem Zqb{i:Nat}(h:∀a,JY (nx from_ to_ st i) a)(f:st i=true->to_ i≠from_ i/\ ∀k,KC (nx from_ to_ st i) (to_ i) (k+1)≠some (from_ i))(a:Int):JY (nx from_ to_ st (i+1)) a:=by
 by_cases c:st i=true
 ·obtain⟨d,g⟩:=f c;have b:∀a,a≠from_ i->nx from_ to_ st (i+1) a=nx from_ to_ st i a:=fun a j=>Zg (by omega);refine Zp9 b (Zn ⟨c,rfl⟩) (Zqa b (h _) fun k=>?_) (h a)
  cases k with
  |zero=>exact fun e=>d (Option.some.inj e)
  |succ k=>grind
 ·have:nx from_ to_ st (i+1)=nx from_ to_ st i:=funext fun a=>Zg (by grind)
  grind
theorem Zqc(a:Int):JY (nx from_ to_ st 0) a:=.stop rfl
theorem Zrh{f:Int->Option Int}{m:List (Int×Int)}(j:∀a,ZI (Zj Y3) a m=f a){a fr:Int}(e:JY f a):F99 m a fr=some (m, @decide (∃k,KC f a (k+1)=some fr) (Classical.propDecidable _)):=by
 classical
 unfold F99
 have key:∀a,JY f a->run (fun s0:Int×Bool=>
       bif s0.snd then
        bif decide (s0.fst=fr) then some (Sum.inr (Sum.inr true))
        else some (Sum.inl (Ve (ZI (Zj Y3) s0.fst m) ((0:Int)),Vga (ZI (Zj Y3) s0.fst m)))
       else some (Sum.inr (Sum.inl ())))
  (Ve (ZI (Zj Y3) a m) ((0:Int)),Vga (ZI (Zj Y3) a m))=some (if∃k,KC f a (k+1)=some fr then Sum.inr true else Sum.inl ()):=by
  intro a e
  induction e with
  | @stop a c=>
    rw[j a,c,Zg (by rintro ⟨k,d⟩;simp [KC,c]at d)]
    rfl
  | @step a b c o l=>
    rw[j a,c];by_cases g:b=fr
    ·rw[Zn ⟨0,by simp [KC,c,g]⟩];exact Xy (by grind)
    ·rw[Hl (s' :=(Ve (ZI (Zj Y3) b m) ((0:Int)),Vga (ZI (Zj Y3) b m))) (by grind),l]
     have i:(∃k,KC f b (k+1)=some fr)↔∃k,KC f a (k+1)=some fr:=by
      refine⟨fun⟨k,d⟩=>⟨k+1,by simpa [KC,c] using d⟩,fun⟨k,d⟩=>?_⟩
      cases k with
      |zero=>exact absurd (by simpa [KC,c] using d) g
      |succ k=>exact⟨k,by simpa [KC,c] using d⟩
     simp_all
 refine(congrArg (Vb · _) (key a e)).trans ?_;by_cases h:∃k,KC f a (k+1)=some fr
 all_goals grind
end Q
namespace Q
open Tr Go
theorem Zl7{σ τ:Type}{step:σ->Option (σ ⊕ τ)}{n:Nat}(a:Nat->σ->Prop)(chk:Nat->Int)(R:Nat->τ)(E:τ)
 (b:∀i s,i<n->(∀j,j<i->chk j=0)->a i s->(chk i=0/\ ∃s',step s=some (.inl s')/\a (i+1) s')\/(chk i≠0/\step s=some (.inr (R i))))
 (c:∀s,a n s->step s=some (.inr E)) (s:σ) (d:a 0 s):run step s=some (pick n chk R E):=by
 refine Jv (fun i s=>a i s/\ ∀j,j<i->chk j=0) chk R E ?_ ?_ (by grind) s (by grind)
 all_goals grind
def l0:Yd:=(0,0,0,0,false,())
def lk(n:Zf)(j:Nat):Yd:=(n.2.2.2.1[j]?).getD l0
def rn(n:Zf)(a:Int):YK:=(n.2.2.1[a.toNat]?).getD u0
def cl(l:List Wr)(a:Int):Wr:=(l[a.toNat]?).getD c0
def ZU(x:Int)(m:Nat):Bool:=decide (0<=x) &&decide (x<(m:Int))
def K3(n:Zf)(i:Nat):Int->Option Int:=nx (fun j=>(lk n j).1) (fun j=>(lk n j).2.2.1) (fun j=>(lk n j).2.2.2.2.1) i
abbrev Zh1:=List Int
def XL(x:Yd):Zh1:=[x.1,x.2.1,x.2.2.1,x.2.2.2.1]
theorem Zuo(x:Int)(m:Nat):F101 x (m:Int)=some (ZU x m):=by
 unfold F101 ZU
 grind
theorem WI{α:Type}{l:List α}{x:Int}(h:ZU x l.length=true)(d:α):idx l x=some ((l[x.toNat]?).getD d):=by
 unfold ZU at h;simp only[Vk,KL]at h;have e:x=(x.toNat:Int):=by omega
 have a:x.toNat<l.length:=by omega
 rw[e,ZC a,Vq,Kq a]
def YO(n:Zf)(x:Yd):Bool:= !ZU x.1 n.2.2.1.length|| (!ZU x.2.2.1 n.2.2.1.length||decide (x.1=x.2.2.1))
def Hx(n:Zf)(x:Yd):Bool:= !ZU x.2.1 (rn n x.1).2.2.2.2.2.2.2.1.length|| !ZU x.2.2.2.1 (rn n x.2.2.1).2.2.2.2.2.2.2.1.length
open Classical in
noncomputable def WP(n:Zf)(i:Nat):Int:=
 let x:=lk n i
 if YO n x=true then 9 else if Hx n x=true then 9
 else if¬(cl (rn n x.1).2.2.2.2.2.2.2.1 x.2.1).1=(cl (rn n x.2.2.1).2.2.2.2.2.2.2.1 x.2.2.2.1).1 then 13
 else if x.2.2.2.2.1=true/\ ¬x.2.1+1=((rn n x.1).2.2.2.2.2.2.2.1.length:Int) then 19
 else if x.2.2.2.2.1=true/\ ¬x.2.2.2.1=0 then 19
 else if x.2.2.2.2.1=true/\ ∃j,j<i/\(lk n j).2.2.2.2.1=true/\((lk n j).1=x.1\/(lk n j).2.2.1=x.2.2.1) then 19
 else if x.2.2.2.2.1=true/\ ∃k,KC (K3 n i) x.2.2.1 (k+1)=some x.1 then 19
 else if∃j,j<i/\XL (lk n j)=XL x then 6 else 0
theorem R4{n:Zf}{i:Nat}(h:WP n i=0):YO n (lk n i)=false/\Hx n (lk n i)=false/\((lk n i).2.2.2.2.1=true->
 (¬∃j,j<i/\(lk n j).2.2.2.2.1=true/\((lk n j).1=(lk n i).1\/(lk n j).2.2.1=(lk n i).2.2.1))/\ ¬∃k,KC (K3 n i) (lk n i).2.2.1 (k+1)=some (lk n i).1):=by
 unfold WP at h;simp only at h;by_cases a:YO n (lk n i)=true
 ·grind
 rw[Zg a]at h;by_cases b:Hx n (lk n i)=true
 ·grind
 rw[Zg b]at h;refine⟨by grind,by grind,fun c=>?_⟩
 repeat (split at h; · omega)
 grind
theorem ZdC{n:Zf} :∀{i:Nat},(∀j,j<i->WP n j=0)->∀a,JY (K3 n i) a
 |0,_,a=>Zqc a
 |i+1,h,a=>by
  obtain⟨b,_,c⟩:=R4 (h i (by omega));refine Zqb (ZdC (by grind)) (fun f=>⟨fun e=>?_,fun k d=>(c f).2 ⟨k,d⟩⟩) a;unfold YO at b
  grind
theorem ZqJ{n:Zf}{j:Nat}(h:WP n j=0):0<=(lk n j).1:=by
 obtain⟨a,_⟩:=R4 h;unfold YO ZU at a
 grind
end Q
namespace Q
open Tr Go
noncomputable def ZdZ(n:Zf):Int×Int×Int×Unit:=if 1024<n.2.2.2.1.length then(3,0,5,()) else pick n.2.2.2.1.length (WP n) (fun i=>(3,(i:Int),WP n i,())) (0,0,0,())
theorem Do{n:Zf}{a:Int}(h:ZU a n.2.2.1.length=true):rn n a∈n.2.2.1:=by
 unfold ZU at h;simp only[Vk,KL]at h;have b:a.toNat<n.2.2.1.length:=by omega
 unfold rn
 grind
def LSt(n:Zf)(i:Nat)(s:(Int×Int×Int×Unit) ×List (Int×Int) ×List (Int×Bool) ×List (Zh1×Bool) ×Int):Prop:=
 ∃d c e,s=((0,0,0,()),d,c,e,(i:Int))/\(∀a,ZI (Zj Y3) a d=K3 n i a)/\(∀b,Ve (ZI (Zj Y3) b c) false=true↔∃j,j<i/\(lk n j).2.2.2.2.1=true/\(lk n j).2.2.1=b)
  /\WL (t:=Jo) (fun j=>XL (lk n j)) i e
theorem ZkS{n:Zf}{i:Nat}{a:Int} :(K3 n i a).isSome=true↔∃j,j<i/\(lk n j).2.2.2.2.1=true/\(lk n j).1=a:=by
 cases h:K3 n i a with
 |none=>
  refine⟨by simp,fun⟨j,c,d,e⟩=>absurd e (ZgY h j c d)⟩
 |some b=>
  obtain⟨j,c,d,e,_⟩:=Zch h
  grind
theorem Zrx(n:Zf)(P:∀x∈n.2.2.1,x.2.2.2.2.2.2.2.1.length<=9223372036854775807):F88 n=some (ZdZ n):=by
 unfold F88 ZdZ F100;by_cases u:1024<n.2.2.2.1.length
 ·grind
 rw[Zg u,Zk (by omega)];simp only[Zd];have C:n.2.2.2.1.length<=9223372036854775807:=by omega
 rw[Zl7 (n:=n.2.2.2.1.length) (LSt n) (WP n) (fun i=>.inr (3,(i:Int),WP n i,())) (.inl (0,0,0,())) ?_ ?_ ((0,0,0,()),[],[],[],(0:Int))
  ⟨[],[],[],rfl,fun _=>rfl,fun b=>⟨fun h=>(nomatch h),by omega⟩,WL.nil _⟩]
 ·unfold pick
  grind
 ·rintro i _ q R ⟨A,s,f,rfl,v,W,m⟩;have U:n.2.2.2.1[i]=lk n i:=(Kq q l0).symm;simp only[ZO q,Zc,ZC q,Za,U,Zuo];have c:WP n i=WP n i:=rfl
  conv at c=>rhs;unfold WP
  simp only at c;generalize E:lk n i=x at c⊢;by_cases g:YO n x=true
  ·rw[Zn g]at c;refine .inr ⟨by omega,?_⟩;rw[c];unfold YO at g
   grind
  rw[Zg g]at c;unfold YO at g;simp only[Vp,Vm,Vx]at g;obtain⟨B,F,V⟩:=g;have L:idx n.2.2.1 x.1=some (rn n x.1):=WI B u0;have M:idx n.2.2.1 x.2.2.1=some (rn n x.2.2.1):=WI F u0;simp only[B,F,V,Vc,Zd,Za,L,M];by_cases l:Hx n x=true
  ·rw[Zn l]at c;refine .inr ⟨by omega,?_⟩;rw[c];unfold Hx at l
   grind
  rw[Zg l]at c;unfold Hx at l;simp only[Vp,Vm,Vx]at l;obtain⟨w,G⟩:=l;have N:idx (rn n x.1).2.2.2.2.2.2.2.1 x.2.1=some (cl (rn n x.1).2.2.2.2.2.2.2.1 x.2.1):=WI w c0;have O:idx (rn n x.2.2.1).2.2.2.2.2.2.2.1 x.2.2.2.1=some (cl (rn n x.2.2.1).2.2.2.2.2.2.2.1 x.2.2.2.1):=WI G c0;simp only[w,G,Vc,Zd,Za,N,O];by_cases H:(cl (rn n x.1).2.2.2.2.2.2.2.1 x.2.1).1=(cl (rn n x.2.2.1).2.2.2.2.2.2.2.1 x.2.2.2.1).1
  case neg=>
   grind
  rw[Zg (by omega)]at c;simp only[Ze H,Vc,Zd];by_cases D:x.2.2.2.2.1=true
  ·simp only[D,true_and,Zc]at c⊢
   have T:Va .i64 (x.2.1+1)=x.2.1+1:=by have z:=P _ (Do B);unfold ZU at w;simp only[Vk,KL]at w;exact Zy (by omega) (by omega)
   rw[T];by_cases I:x.2.1+1=((rn n x.1).2.2.2.2.2.2.2.1.length:Int)
   case neg=>
    grind
   rw[Zg (by omega)]at c;simp only[Ze I,Vc,Zd];by_cases J:x.2.2.2.1=0
   case neg=>
    grind
   rw[Zg (by omega)]at c;simp only[Ze J,Vc,Zd,v,Zrh v (ZdC R x.2.2.1),Za];by_cases y:∃j,j<i/\(lk n j).2.2.2.2.1=true/\((lk n j).1=x.1\/(lk n j).2.2.1=x.2.2.1)
   ·rw[Zn y]at c;refine .inr ⟨by omega,?_⟩;rw[c];by_cases e:(K3 n i x.1).isSome=true
    ·grind
    ·have o:Ve (ZI (Zj Y3) x.2.2.1 s) false=true:=by
      obtain⟨j,u,z,p⟩:=y;rcases p with p|p
      ·exact absurd (ZkS.2 ⟨j,u,z,p⟩) e
      grind
     grind
   rw[Zg y]at c
   have e:(K3 n i x.1).isSome=false:=by
    cases S:(K3 n i x.1).isSome with
    |false=>rfl
    |true=>obtain⟨j,u,z,p⟩:=ZkS.1 S;grind
   have o:Ve (ZI (Zj Y3) x.2.2.1 s) false=false:=by
    grind
   simp only[e,o,Zd];by_cases K:∃k,KC (K3 n i) x.2.2.1 (k+1)=some x.1
   ·grind
   rw[Zg (by grind)]at c;simp only[@decide_eq_false _ (Classical.propDecidable _) K,Zd];by_cases d:∃j,j<i/\XL (lk n j)=XL x
   ·rw[Zn d]at c;refine .inr ⟨by omega,?_⟩;rw[c];rw[show Ve (ZI (Zj Jo) [x.1,x.2.1,x.2.2.1,x.2.2.2.1] f) false=true from (m _).2 d];rfl
   rw[Zg d]at c;refine .inl ⟨c,_,?_,ZY (Zj Y3) x.1 x.2.2.1 A,ZY (Zj Y3) x.2.2.1 true s,ZY (Zj Jo) (XL x) true f,rfl,?_,?_,?_⟩
   ·rw[show Ve (ZI (Zj Jo) [x.1,x.2.1,x.2.2.1,x.2.2.2.1] f) false=false from Dy m d];simp only[Zd,ZW q C];rfl
   ·intro a;rw[GC rfl,v];show _=nx _ _ _ (i+1) a;unfold nx;simp only[E,D,true_and];by_cases Q:a=x.1
    ·grind
    ·rw[Zg Q,Zg (by grind)];rfl
   ·intro b;rw[GC rfl]
    grind
   ·have:=WL.add (t:=Jo) rfl m
    grind
  ·have r:x.2.2.2.2.1=false:=by grind
   simp only[r,Vda,false_and,if_false,Zd]at c⊢;by_cases d:∃j,j<i/\XL (lk n j)=XL x
   ·rw[Zn d]at c;refine .inr ⟨by omega,?_⟩;rw[c];rw[show Ve (ZI (Zj Jo) [x.1,x.2.1,x.2.2.1,x.2.2.2.1] f) false=true from (m _).2 d];rfl
   rw[Zg d]at c;refine .inl ⟨c,_,?_,A,s,ZY (Zj Jo) (XL x) true f,rfl,?_,?_,?_⟩
   ·rw[show Ve (ZI (Zj Jo) [x.1,x.2.1,x.2.2.1,x.2.2.2.1] f) false=false from Dy m d];simp only[Zd,ZW q C];rfl
   ·intro a;rw[v];show _=nx _ _ _ (i+1) a;unfold nx;simp only[E,r,Vda,false_and,if_false];rfl
   ·grind
   ·have:=WL.add (t:=Jo) rfl m
    grind
 ·rintro _ ⟨A,s,f,rfl,_⟩;simp
end Q
namespace Q
open Tr Go
theorem Zb2(x:Int){m:Nat}(b:m<=9223372036854775807):F122 x 0 (Va .i64 ((m:Int) - 1))=some (ZU x m):=by
 rw[YT,Zy (by omega) (by omega)];unfold ZU;by_cases a:0<=x
 all_goals grind
theorem Zrb(n:Zf){i:Nat}(o:i<=n.2.2.2.1.length)(l:n.2.2.2.1.length<=9223372036854775807)(a:Int):
 run (fun b:Int×Int=>
          bif decide (b.snd<(i:Int)) then
           Vb
            (Vb (idx n.snd.snd.snd.fst b.snd) fun d=>
              bif d.snd.snd.snd.snd.fst then Vb (idx n.snd.snd.snd.fst b.snd) fun e=>some (decide (e.fst=a)) else some false)
            fun f=>
            bif f then Vb (idx n.snd.snd.snd.fst b.snd) fun g=>some (Sum.inl (g.snd.snd.fst,Va .i64 (b.snd+(1:Int))))
            else some (Sum.inl (b.fst,Va .i64 (b.snd+(1:Int))))
          else some (Sum.inr b.fst))
       ((-1:Int),(0:Int))=some ((K3 n i a).getD (-1)):=by
 have h:=Jv (n:=i) (fun j (st:Int×Int)=>st=((K3 n j a).getD (-1),(j:Int))) (fun _=>0) (fun _=>(K3 n i a).getD (-1)) ((K3 n i a).getD (-1)) (step:=fun b:Int×Int=>
          bif decide (b.snd<(i:Int)) then
           Vb
            (Vb (idx n.snd.snd.snd.fst b.snd) fun d=>
              bif d.snd.snd.snd.snd.fst then Vb (idx n.snd.snd.snd.fst b.snd) fun e=>some (decide (e.fst=a)) else some false)
            fun f=>
            bif f then Vb (idx n.snd.snd.snd.fst b.snd) fun g=>some (Sum.inl (g.snd.snd.fst,Va .i64 (b.snd+(1:Int))))
            else some (Sum.inl (b.fst,Va .i64 (b.snd+(1:Int))))
          else some (Sum.inr b.fst)) ?_ ?_ ?_ ((-1:Int),(0:Int)) rfl
 ·rw[h];unfold pick
  grind
 ·rintro j _ k rfl _;have c:j<n.2.2.2.1.length:=by omega
  have m:n.2.2.2.1[j]=lk n j:=(Kq c l0).symm;refine⟨((K3 n (j+1) a).getD (-1),((j+1:Nat):Int)),?_,rfl⟩;simp only[ZO k,Zc,ZC c,Za,m,ZW c l]
  have p:K3 n (j+1) a=if (lk n j).2.2.2.2.1=true/\(lk n j).1=a then some (lk n j).2.2.1 else K3 n j a:=rfl
  grind
 all_goals simp
theorem Zrg(n:Zf){i:Nat}(u:i<=n.2.2.2.1.length)(E:n.2.2.2.1.length<=9223372036854775806)(p:∀j,j<i->WP n j=0)(to fr:Int)(s:0<=fr):
 F123 n (i:Int) to fr=some (@decide (∃k,KC (K3 n i) to (k+1)=some fr) (Classical.propDecidable _)):=by
 classical
 unfold F123
 have f:K3 n i (-1)=none:=by
  cases h:K3 n i (-1) with
  |none=>rfl
  |some b=>
   obtain⟨j,l,C,D,_⟩:=Zch h;have:=ZqJ (p j l);omega
 have m:=Zrb n u (by omega)
 have key:∀(r k:Nat) (a:Int),i+1 - k=r->k<=i+1->run (fun s0:Int×Int=>
       bif decide (s0.snd<=(i:Int)) then
        Vb
         (run
           (fun c=>
             bif decide (c.snd<(i:Int)) then
              Vb
               (Vb (idx n.snd.snd.snd.fst c.snd) fun y=>
                 bif y.snd.snd.snd.snd.fst then Vb (idx n.snd.snd.snd.fst c.snd) fun z=>some (decide (z.fst=s0.fst)) else some false)
               fun A=>
               bif A then Vb (idx n.snd.snd.snd.fst c.snd) fun B=>some (Sum.inl (B.snd.snd.fst,Va .i64 (c.snd+(1:Int))))
               else some (Sum.inl (c.fst,Va .i64 (c.snd+(1:Int))))
             else some (Sum.inr c.fst))
           ((-1:Int),(0:Int)))
         fun q=>bif decide (q=fr) then some (Sum.inr (Sum.inr true)) else some (Sum.inl (q,Va .i64 (s0.snd+(1:Int))))
       else some (Sum.inr (Sum.inl ())))
  (a,(k:Int))=some (if∃t,k+t<=i/\KC (K3 n i) a (t+1)=some fr then Sum.inr true else Sum.inl ()):=by
  intro r
  induction r with
  |zero=>
   intro k a w v;rw[Zg (by omega)]
   exact Xy (by grind)
  |succ r x=>
   intro k a w v;have F:Va .i64 ((k:Int)+1)=((k+1:Nat):Int):=by rw[Zy (by omega) (by omega)];omega
   by_cases o:(K3 n i a).getD (-1)=fr
   ·have:K3 n i a=some fr:=by
     cases h:K3 n i a with
     |none=>grind
     |some b=>grind
    rw[Zn ⟨0,by omega,by simp [KC,this]⟩];refine Xy ?_
    grind
   ·rw[Hl (s' :=((K3 n i a).getD (-1),((k+1:Nat):Int))) (by
     grind),x (k+1) _ (by omega) (by omega)]
    have e:(∃t,k+1+t<=i/\KC (K3 n i) ((K3 n i a).getD (-1)) (t+1)=some fr)↔∃t,k+t<=i/\KC (K3 n i) a (t+1)=some fr:=by
     cases h:K3 n i a with
     |none=>
      refine⟨fun⟨t,_,d⟩=>?_,fun⟨t,_,d⟩=>?_⟩
      ·simp [KC,f]at d
      ·simp [KC,h]at d
     |some b=>
      refine⟨fun⟨t,l,d⟩=>⟨t+1,by omega,?_⟩,fun⟨t,l,d⟩=>?_⟩
      ·show (K3 n i a).bind (fun b=>KC (K3 n i) b (t+1))=_
       grind
      ·have g:(K3 n i a).bind (fun b=>KC (K3 n i) b t)=some fr:=d;rw[h]at g
       cases t with
       |zero=>rw[h]at o;exact absurd (Option.some.inj g) o
       |succ t=>grind
    simp_all
 refine(congrArg (Vb · _) (key _ 0 to rfl (by omega))).trans ?_
 have e:(∃t,0+t<=i/\KC (K3 n i) to (t+1)=some fr)↔∃k,KC (K3 n i) to (k+1)=some fr:=by refine⟨by grind,fun⟨t,h⟩=>⟨t,?_,h⟩⟩;have:=Zr2 (ZdC p to) h;omega
 by_cases h:∃k,KC (K3 n i) to (k+1)=some fr
 all_goals grind
end Q
namespace Q
open Tr Go
theorem Zf5{τ:Type}{step:Int->Option (Int ⊕ τ)}{i:Nat}{p:Nat->Prop}{R E:τ}(c:∀j:Nat,j<i->¬p j->step (j:Int)=some (.inl ((j+1:Nat):Int)))(b:∀j:Nat,j<i->p j->step (j:Int)=some (.inr R))
 (a:step (i:Int)=some (.inr E)):run step (0:Int)=some (@ite _ (∃j,j<i/\p j) (Classical.propDecidable _) R E):=by
 classical
 obtain⟨d,e⟩:=ZbR c b a;by_cases h:∃j,j<i/\p j
 all_goals grind
theorem Zrw(n:Zf){i:Nat}(w:i<n.2.2.2.1.length)(W:n.2.2.2.1.length<=9223372036854775806)(Y:n.2.2.1.length<=9223372036854775807)
 (D:∀x∈n.2.2.1,x.2.2.2.2.2.2.2.1.length<=9223372036854775807) (V:∀j,j<i->WP n j=0):F124 n (i:Int)=some (WP n i):=by
 classical
 unfold F124;have hx:n.2.2.2.1[i]=lk n i:=(Kq w l0).symm;have X:n.2.2.2.1.length<=9223372036854775807:=by omega
 simp only[ZC w,Za,hx,Zb2 _ Y];have c:WP n i=WP n i:=rfl
 conv at c=>rhs;unfold WP
 simp only at c;generalize hy:lk n i=x at c⊢;by_cases s:YO n x=true
 ·rw[Zn s]at c;rw[c];unfold YO at s
  grind
 rw[Zg s]at c;unfold YO at s;simp only[Vp,Vm,Vx]at s;obtain⟨u,z,p3⟩:=s;have Q:idx n.2.2.1 x.1=some (rn n x.1):=WI u u0;have S:idx n.2.2.1 x.2.2.1=some (rn n x.2.2.1):=WI z u0;have K:=D _ (Do u);have L:=D _ (Do z);simp only[u,z,p3,Vc,Zd,Za,Q,S,Zb2 _ K,Zb2 _ L];by_cases t:Hx n x=true
 ·rw[Zn t]at c;rw[c];unfold Hx at t
  grind
 rw[Zg t]at c;unfold Hx at t;simp only[Vp,Vm,Vx]at t;obtain⟨F,G⟩:=t;have T:idx (rn n x.1).2.2.2.2.2.2.2.1 x.2.1=some (cl (rn n x.1).2.2.2.2.2.2.2.1 x.2.1):=WI F c0;have U:idx (rn n x.2.2.1).2.2.2.2.2.2.2.1 x.2.2.2.1=some (cl (rn n x.2.2.1).2.2.2.2.2.2.2.1 x.2.2.2.1):=WI G c0;simp only[F,G,Vc,Zd,Za,T,U];by_cases H:(cl (rn n x.1).2.2.2.2.2.2.2.1 x.2.1).1=(cl (rn n x.2.2.1).2.2.2.2.2.2.2.1 x.2.2.2.1).1
 case neg=>
  grind
 rw[Zg (by omega)]at c;simp only[Ze H,Vc,Zd];have hw:Va .i64 (((rn n x.1).2.2.2.2.2.2.2.1.length:Int) - 1)=((rn n x.1).2.2.2.2.2.2.2.1.length:Int) - 1:=Zy (by omega) (by omega)
 have f:=Zf5 (i:=i) (p:=fun j=>XL (lk n j)=XL x) (τ:=Unit ⊕ Int) (R:=.inr 6) (E:=.inl ()) (step:=fun o:Int=>
                         bif decide (o<(i:Int)) then
                             Vb (idx n.snd.snd.snd.fst o) fun m=>
                              Vb
                               (bif decide (m.fst=x.fst) then
                                 bif decide (m.snd.fst=x.snd.fst) then
                                  bif decide (m.snd.snd.fst=x.snd.snd.fst) then some (decide (m.snd.snd.snd.fst=x.snd.snd.snd.fst))
                                  else some false
                                 else some false
                               else some false)
                               fun A=>bif A then some (Sum.inr (Sum.inr (6:Int))) else some (Sum.inl (Va .i64 (o+(1:Int))))
                          else some (Sum.inr (Sum.inl ()))) (fun j b g=>by
  have a:j<n.2.2.2.1.length:=by omega
  have d:n.2.2.2.1[j]=lk n j:=(Kq a l0).symm;simp only[ZO b,Zc,ZC a,Za,d,ZW b (by omega)];by_cases M:(lk n j).1=x.1
  ·rw[Ze M];by_cases N:(lk n j).2.1=x.2.1
   ·rw[Ze N];by_cases O:(lk n j).2.2.1=x.2.2.1
    ·rw[Ze O];have P:¬(lk n j).2.2.2.1=x.2.2.2.1:=fun P=>g (by unfold XL;grind)
     grind
    grind
   grind
  grind) (fun j b g=>by
  have a:j<n.2.2.2.1.length:=by omega
  have d:n.2.2.2.1[j]=lk n j:=(Kq a l0).symm;unfold XL at g;simp only[List.cons.injEq,and_true]at g;simp only[ZO b,Zc,ZC a,Za,d,Ze g.1,Ze g.2.1,Ze g.2.2.1,Ze g.2.2.2]) (by simp)
 by_cases Z:x.2.2.2.2.1=true
 ·simp only[Z,true_and,Zc,hw]at c f⊢;by_cases b4:x.2.1+1=((rn n x.1).2.2.2.2.2.2.2.1.length:Int)
  case neg=>
   grind
  rw[Zg (by omega)]at c;simp only[Ze (show x.2.1=((rn n x.1).2.2.2.2.2.2.2.1.length:Int) - 1 by omega),Vc,Zd,Za];by_cases I:x.2.2.2.1=0
  case neg=>
   grind
  rw[Zg (by omega)]at c
  have v:0<=x.1:=by
   unfold ZU at u
   grind
  have l:=Zf5 (i:=i) (p:=fun j=>(lk n j).2.2.2.2.1=true/\((lk n j).1=x.1\/(lk n j).2.2.1=x.2.2.1)) (τ:=Unit ⊕ Int) (R:=.inr 19) (E:=.inl ()) (step:=fun e:Int=>
                  bif decide (e<(i:Int)) then
                   Vb (idx n.snd.snd.snd.fst e) fun q=>
                    Vb
                     (
                      bif q.snd.snd.snd.snd.fst then
                       bif decide (q.fst=x.fst) then some true else some (decide (q.snd.snd.fst=x.snd.snd.fst))
                      else some false)
                     fun r=>bif r then some (Sum.inr (Sum.inr (19:Int))) else some (Sum.inl (Va .i64 (e+(1:Int))))
                  else some (Sum.inr (Sum.inl ()))) (fun j b g=>by
   have a:j<n.2.2.2.1.length:=by omega
   have d:n.2.2.2.1[j]=lk n j:=(Kq a l0).symm;simp only[ZO b,Zc,ZC a,Za,d,ZW b (by omega)]
   grind) (fun j b g=>by
   have a:j<n.2.2.2.1.length:=by omega
   have d:n.2.2.2.1[j]=lk n j:=(Kq a l0).symm;simp only[ZO b,Zc,ZC a,Za,d,g.1]
   grind) (by simp)
  simp only[Ze I,Vc,Zd];refine(congrArg (Vb · _) l).trans ?_;simp only[Za];by_cases B:∃j,j<i/\(lk n j).2.2.2.2.1=true/\((lk n j).1=x.1\/(lk n j).2.2.1=x.2.2.1)
  ·grind
  rw[Zg B]at c;rw[Zg B];simp only[Vl,Zrg n (Nat.le_of_lt w) W V x.2.2.1 x.1 v,Za];by_cases C:∃k,KC (K3 n i) x.2.2.1 (k+1)=some x.1
  ·grind
  rw[Zg C]at c;rw[Zk C];simp only[Zd];refine(congrArg (Vb · _) f).trans ?_;rw[c];by_cases J:∃j,j<i/\XL (lk n j)=XL x
  all_goals grind
 ·have y:x.2.2.2.2.1=false:=by grind
  have h:=Zf5 (i:=i) (p:=fun _=>False) (τ:=Unit ⊕ Int) (R:=.inr 19) (E:=.inl ()) (step:=fun e:Int=>
                    bif decide (e<(i:Int)) then
                     Vb (idx n.snd.snd.snd.fst e) fun _=>
                      Vb
                       (some false)
                       fun r=>bif r then some (Sum.inr (Sum.inr (19:Int))) else some (Sum.inl (Va .i64 (e+(1:Int))))
                    else some (Sum.inr (Sum.inl ()))) (fun j b _=>by
   have a:j<n.2.2.2.1.length:=by omega
   simp only[ZO b,Zc,ZC a,Za,Zd,ZW b (by omega)]) (by simp) (by simp)
  rw[Zg (by simp)]at h;simp only[y,Vda,false_and,if_false,Zd,Za]at c h f⊢;refine(congrArg (Vb · _) h).trans ?_;simp only[Za,Vl];refine(congrArg (Vb · _) f).trans ?_;rw[c];by_cases J:∃j,j<i/\XL (lk n j)=XL x
  all_goals grind
end Q
namespace Q
open Tr Go
abbrev Ze0:=Int×Int×Int×Unit
def Zaa(a b:Ze0):Ze0:=if a.2.2.1=0 then b else a
theorem ZjJ(a b:El KR):F91 [a,b]=some (Zaa a (Zaa b (0,0,0,()))):=by
 revert a b
 show∀a b:Ze0,F91 [a,b]=some (Zaa a (Zaa b (0,0,0,())));intro a b;unfold F91 Zaa;by_cases c:a.2.2.1=0
 ·rw[Zn c];by_cases d:b.2.2.1=0
  ·rw[Zn d,Hl (s' :=((0,0,0,()),(1:Int))) (by simp [idx,c,Va,Vz,Vca]),Hl (s' :=((0,0,0,()),(2:Int))) (by simp [idx,d,Va,Vz,Vca]),Xy (r:=.inl (0,0,0,())) (by simp)];rfl
  ·rw[Zg d,Hl (s' :=((0,0,0,()),(1:Int))) (by simp [idx,c,Va,Vz,Vca]),Xy (r:=.inr b) (by simp [idx,d])];rfl
 ·rw[Zg c,Xy (r:=.inr a) (by simp [idx,c])];rfl
structure W6 (n:Zf):Prop where
 stops:∀x∈n.1,x.1.length<=9223372036854775807
 routes:∀x∈n.2.1,x.1.length<=9223372036854775807
 runs:∀x∈n.2.2.1,x.2.2.2.1.length<=9223372036854775807
 calls:∀x∈n.2.2.1,x.2.2.2.2.2.2.2.1.length<=9223372036854775807
 paths:n.2.2.2.2.1.length<=4096
 prods:∀x∈n.2.2.2.2.2.1.1,x.1.length<=9223372036854775807
def Zh7(l:List Wr):Prop:= ∀i (a:i<l.length),0<=l[i].2.1/\l[i].2.1<=l[i].2.2.1/\l[i].2.2.1<=3155932800/\(0<i->(l[i - 1]'(by omega)).1≠l[i].1/\(l[i - 1]'(by omega)).2.2.1<=l[i].2.1)
structure Ws (n:Zf):Prop where
 stops:n.1.length<=64
 runs:n.2.2.1.length<=1024
 links:n.2.2.2.1.length<=1024
 zone:∀x∈n.1,0<=x.2.1/\x.2.1<16
 mode:∀x∈n.2.1,0<=x.2.1/\x.2.1<=7
 route:∀x∈n.2.2.1,0<=x.2.2.2.2.1/\x.2.2.2.2.1<(n.2.1.length:Int)
 many:∀x∈n.2.2.1,2<=x.2.2.2.2.2.2.2.1.length/\x.2.2.2.2.2.2.2.1.length<=32
 call:∀x∈n.2.2.1,∀c∈x.2.2.2.2.2.2.2.1,0<=c.1/\c.1<(n.1.length:Int)
 time:∀x∈n.2.2.1,Zh7 x.2.2.2.2.2.2.2.1
 base:∀x∈n.2.2.1, -1<=x.1/\0<=x.2.2.1/\0<=x.2.1/\x.2.1<=36524
 fare:(Jq n.2.2.2.2.2.1).2=0
theorem Za5{n:Nat}{chk:Nat->Int}{E:Int×Int}(h:(pick n chk (fun i=>((i:Int),chk i)) E).2=0):∀j,j<n->chk j=0:=by
 unfold pick at h
 cases a:K8 n chk with
 |none=>exact WH.1 a
 |some i=>rw[a]at h;exact absurd h (D0 a).2
theorem Zo3{l:List Wr}{n:Int}(h:Xb l n 0 3155932800=0):Zh7 l:=by
 unfold Xb at h;split at h
 ·omega
 ·intro i e
  have a:JW l n 0 3155932800 i=0:=by
   unfold pick at h
   cases b:K8 l.length (JW l n 0 3155932800) with
   |none=>exact WH.1 b i e
   |some i=>rw[b]at h;exact absurd h (D0 b).2
  unfold JW at a;split at a
  ·omega
  split at a
  ·omega
  next c=>
   split at a
   ·omega
   next d=>
    unfold ZbM at c;unfold ZbN at d
    grind
theorem Zi0{l:List Wr}{n lo b:Int}(h:Xb l n lo b=0):(2<=l.length/\l.length<=32)/\ ∀c∈l,0<=c.1/\c.1<n:=by
 unfold Xb at h;split at h
 ·omega
 ·refine⟨by omega,fun c f=>?_⟩;obtain⟨j,g,rfl⟩:=Vj f
  have d:JW l n lo b j=0:=by
   unfold pick at h
   cases a:K8 l.length (JW l n lo b) with
   |none=>exact WH.1 a j g
   |some i=>rw[a]at h;exact absurd h (D0 a).2
  unfold JW at d;split at d
  ·omega
  ·next e=>
   unfold ZbL at e
   grind
theorem Ztw{n:Zf}(s:(HN n.1).2=0)(t:(Gj n.2.1).2=0)(u:n.2.2.1.length<=1024)(c:K8 n.2.2.1.length (Xx n)=none)(v:n.2.2.2.1.length<=1024)(z:(Jq n.2.2.2.2.2.1).2=0):Ws n:=by
 unfold HN at s;unfold Gj at t;split at s
 ·omega
 split at t
 ·omega
 have e:=Za5 s;have f:=Za5 t;have d:=WH.1 c
 have key:∀x∈n.2.2.1,((0<=x.2.2.2.2.1/\x.2.2.2.2.1<(n.2.1.length:Int))/\ -1<=x.1/\0<=x.2.2.1/\0<=x.2.1/\x.2.1<=36524)/\Xb x.2.2.2.2.2.2.2.1 (n.1.length:Int) 0 3155932800=0:=by
  intro x a;obtain⟨j,b,rfl⟩:=Vj a;have h:=d j b;unfold Xx at h
  grind
 refine⟨by omega,u,v,fun x a=>?_,fun x a=>?_,by grind,fun x a=>(Zi0 (key x a).2).1,fun x a=>(Zi0 (key x a).2).2,fun x a=>Zo3 (key x a).2,by grind,z⟩
 ·obtain⟨j,b,rfl⟩:=Vj a;have h:=e j b;unfold HM Ys at h;simp only[Kq b]at h;split at h
  ·omega
  split at h
  all_goals omega
 ·obtain⟨j,b,rfl⟩:=Vj a;have h:=f j b;unfold Gi Ys at h;simp only[Kq b]at h;split at h
  ·omega
  split at h
  all_goals omega
structure Whole (n:Zf):Prop where
 s:(HN n.1).2=0
 t:(Gj n.2.1).2=0
 u:n.2.2.1.length<=1024
 f:K8 n.2.2.1.length (Xx n)=none
 v:n.2.2.2.1.length<=1024
 g:K8 n.2.2.2.1.length (WP n)=none
 q:K8 n.2.2.2.2.1.length (K4 n.1.length n.2.2.2.2.1)=none
 w:∀c,F116 n.2.2.2.2.1 (n.1.length:Int)=some c->Xo c n.2.2.2.2.1=true
 z:(Jq n.2.2.2.2.2.1).2=0
theorem Whole.sound{n:Zf}(h:Whole n):Ws n:=Ztw h.s h.t h.u h.f h.v h.z
theorem ZfN(n:Zf)(h:W6 n):∃r:Int×Int×Int,F86 n=some r/\F115 n=some r/\(r.2.2=0↔Whole n):=by
 unfold F86 F115;rw[ZtM n.1 h.stops,ZsS n.2.1 h.routes,ZtN n.1,ZsT n.2.1,Ztb n h.runs,Zrx n h.calls,Zgg _ h.prods,Zql];simp only[Za,F100];erw[ZjJ];simp only[Za];by_cases s:(HN n.1).2=0
 case neg=>
  refine⟨(0,(HN n.1).1,(HN n.1).2),?_,?_,⟨by grind,fun W=>absurd W.s s⟩⟩
  ·simp only[Zaa,Zg s,Zk s,Zd,Za]
  grind
 have y:n.1.length<=64:=by
  unfold HN at s
  grind
 obtain⟨c,d,e,j⟩:=Zr3 n y h.paths;rw[e,j];clear e j;simp only[Za];erw[ZjJ];simp only[Zaa,Zn s,Ze s,Vc,Zd,Za];by_cases t:(Gj n.2.1).2=0
 case neg=>
  refine⟨(1,(Gj n.2.1).1,(Gj n.2.1).2),?_,?_,⟨by grind,fun W=>absurd W.t t⟩⟩
  all_goals grind
 simp only[Zn t,Ze t,Vc,Zd];by_cases u:1024<n.2.2.1.length
 ·refine⟨(2,0,5),?_,?_,⟨by simp,fun W=>absurd W.u (by omega)⟩⟩
  ·simp [Zet,u]
  grind
 rw[Zk (show¬(1024:Int)<(n.2.2.1.length:Int) by omega)];simp only[Zd];rw[Jv (n:=n.2.2.1.length) (fun i (st:Int)=>st=(i:Int)) (Xx n) (fun i=>.inr ((2:Int),(i:Int),Xx n i)) (.inl ()) ?_ ?_ ?_ (0:Int) rfl]
 rotate_left
 ·rintro i _ a rfl b;refine⟨((i+1:Nat):Int),?_,rfl⟩;simp only[ZO a,Zc,ZlV n a (by omega),Za,b,decide_true,Vc,Zd,ZW a (by omega)]
 ·rintro i _ a rfl b;simp only[ZO a,Zc,ZlV n a (by omega),Za,Zk b,Vn]
 ·simp
 unfold Zet;rw[Zg u];unfold pick
 cases l:K8 n.2.2.1.length (Xx n) with
 |some i=>
  have o:=(D0 l).2;refine⟨(2,(i:Int),Xx n i),?_,?_,⟨by grind,fun W=>by rw[W.f]at l;grind⟩⟩
  all_goals grind
 |none=>
 simp only[Za,Vl,decide_true,Zc];by_cases v:1024<n.2.2.2.1.length
 ·refine⟨(3,0,5),?_,?_,⟨by simp,fun W=>absurd W.v (by omega)⟩⟩
  ·simp [ZdZ,v]
  grind
 rw[Zk (show¬(1024:Int)<(n.2.2.2.1.length:Int) by omega)];simp only[Zd];rw[Zl7 (n:=n.2.2.2.1.length) (fun i (st:Int)=>st=(i:Int)) (WP n) (fun i=>.inr ((3:Int),(i:Int),WP n i)) (.inl ()) ?_ ?_ (0:Int) rfl]
 rotate_left
 ·rintro i _ a x rfl;have A:=Zrw n a (by omega) (by omega) h.calls x;by_cases b:WP n i=0
  ·refine .inl ⟨b,((i+1:Nat):Int),?_,rfl⟩;simp only[ZO a,Zc,A,Za,b,decide_true,Vc,Zd,ZW a (by omega)]
  grind
 ·simp
 unfold ZdZ;rw[Zg v];unfold pick
 cases m:K8 n.2.2.2.1.length (WP n) with
 |some i=>
  have o:=(D0 m).2;refine⟨(3,(i:Int),WP n i),?_,?_,⟨by grind,fun W=>by rw[W.g]at m;grind⟩⟩
  all_goals grind
 |none=>
 simp only[Za,Vl,decide_true,Zc]
 cases k:K8 n.2.2.2.2.1.length (K4 n.1.length n.2.2.2.2.1) with
 |some i=>
  have o:=(D0 k).2;refine⟨(4,(i:Int),K4 n.1.length n.2.2.2.2.1 i),?_,?_,⟨by grind,fun W=>by rw[W.q]at k;grind⟩⟩
  all_goals grind
 |none=>
 by_cases w:Xo c n.2.2.2.2.1=true
 case neg=>
  refine⟨(4,0,18),?_,?_,⟨by simp,fun W=>absurd (W.w c (d (WH.1 k))) w⟩⟩
  all_goals grind
 simp only[Zn w,if_true,decide_true,Vc,Zd];by_cases z:(Jq n.2.2.2.2.2.1).2=0
 ·refine⟨(0,0,0),?_,?_,⟨fun _=>⟨s,t,by omega,l,by omega,m,k,fun B p=>by rw[d (WH.1 k)]at p;grind,z⟩,fun _=>rfl⟩⟩
  all_goals grind
 ·refine⟨(5,(Jq n.2.2.2.2.2.1).1,(Jq n.2.2.2.2.2.1).2),?_,?_,⟨by grind,fun W=>absurd W.z z⟩⟩
  all_goals grind
theorem Zi9(n:Zf)(h:W6 n):∃r:Int×Int×Int,F86 n=some r/\F115 n=some r/\(r.2.2=0->Ws n):=by obtain⟨r,a,b,c⟩:=ZfN n h;exact⟨r,a,b,fun h=>(c.1 h).sound⟩
end Q
namespace Q
open Tr Go
theorem HG{a b:Nat}(e:a<65536)(f:b<65536):KJ .i64 (a:Int) (b:Int)=((a ||| b:Nat):Int):=by
 have d:a ||| b<2 ^ 16:=Via (n:=16) (by omega) (by omega);unfold KJ
 have c:(Vja Vmb.bits (a:Int) ||| Vja Vmb.bits (b:Int)).toNat=a ||| b:=by
  rw[Vib,Vu,Vu,Vy,Vy];show a % 2 ^ 64 ||| b % 2 ^ 64=a ||| b
  grind
 rw[c,Zy (by omega) (by omega)]
theorem Za1{a b:Nat}(e:a<65536)(f:b<65536):KJ .u64 (a:Int) (b:Int)=((a ||| b:Nat):Int):=by
 have d:a ||| b<2 ^ 16:=Via (n:=16) (by omega) (by omega);unfold KJ
 have c:(Vja Vnb.bits (a:Int) ||| Vja Vnb.bits (b:Int)).toNat=a ||| b:=by
  rw[Vib,Vu,Vu,Vy,Vy];show a % 2 ^ 64 ||| b % 2 ^ 64=a ||| b
  grind
 rw[c];simp [Va,Vz,Vca];omega
theorem Ds{z:Int}(a:0<=z)(b:z<16):Hi .i64 1 z=some ((2 ^ z.toNat:Nat):Int):=by
 have:z=0\/z=1\/z=2\/z=3\/z=4\/z=5\/z=6\/z=7\/z=8\/z=9\/z=10\/z=11\/z=12\/z=13\/z=14\/z=15:=by omega
 rcases this with rfl|rfl|rfl|rfl|rfl|rfl|rfl|rfl|rfl|rfl|rfl|rfl|rfl|rfl|rfl|rfl<;>decide
theorem Ztk{z:Int}(a:0<=z)(b:z<16):Hi .u64 1 z=some ((2 ^ z.toNat:Nat):Int):=by
 have:z=0\/z=1\/z=2\/z=3\/z=4\/z=5\/z=6\/z=7\/z=8\/z=9\/z=10\/z=11\/z=12\/z=13\/z=14\/z=15:=by omega
 rcases this with rfl|rfl|rfl|rfl|rfl|rfl|rfl|rfl|rfl|rfl|rfl|rfl|rfl|rfl|rfl|rfl<;>decide
theorem YW{z:Int}(a:z<16):2 ^ z.toNat<65536:=Nat.pow_lt_pow_right (by omega) (show z.toNat<16 by omega)
theorem ZkY{z:Int}(a:0<=z)(b:z<16):F5 z=some ((2 ^ z.toNat:Nat):Int):=by unfold F5;rw[Zk (show¬z<0 by omega),Zk (by omega)];simp only[Zd,Za,Ztk a b]
theorem Zun{m:Nat}(c:m<65536){z:Int}(b:0<=z)(a:z<16):F3 (m:Int) z=some ((m ||| 2 ^ z.toNat:Nat):Int):=by unfold F3;rw[ZkY b a];simp only[Za];rw[Za1 c (YW a)]
theorem ZkU{z:Int}(c:0<=z)(b:z<16):F0 [z]=some ((2 ^ z.toNat:Nat):Int):=by
 unfold F0;rw[Hl (s' :=(((2 ^ z.toNat:Nat):Int),(1:Int))) ?_,Xy (r:=((2 ^ z.toNat:Nat):Int)) ?_]
 ·rfl
 ·simp
 ·have:=Za1 (a:=0) (by omega) (YW b);simp only[Nat.zero_or]at this
  show (bif decide ((0:Int)<((1:Nat):Int)) then _ else _)=_
  rw[Ze (by omega)];simp only[Zc];rw[show idx [z] (0:Int)=some z from rfl];simp only[Za,ZkY c b];rw[show KJ .u64 (0:Int) ((2 ^ z.toNat:Nat):Int)=((2 ^ z.toNat:Nat):Int) from this];rfl
end Q
namespace Q
open Tr Go
abbrev Zt:=Bool×Int×Int×Int×Int×Int×Int×Int×Bool×Unit
abbrev ZJ:=Int×Int×Int×Int×Unit
abbrev Hq:=List Zt×Unit
def KE(n:Zf)(x:Zt):List Wr:=(rn n x.2.1).2.2.2.2.2.2.2.1
def Ku(n:Zf)(x:Zt):Bool:=ZU x.2.1 n.2.2.1.length&& (decide (0<=x.2.2.1) && (decide (x.2.2.1<x.2.2.2.1) &&decide (x.2.2.2.1<((KE n x).length:Int))))
theorem Zjv(n:Zf)(x:Zt):F83 n x=some (Ku n x):=by
 unfold F83 Ku;by_cases h:ZU x.2.1 n.2.2.1.length=true
 ·have e:idx n.2.2.1 x.2.1=some (rn n x.2.1):=WI h u0;simp only[e,Za,h];unfold ZU at h;simp only[Vk]at h;simp only[h.1,h.2,Zc];unfold KE
  grind
 ·have a:ZU x.2.1 n.2.2.1.length=false:=by grind
  rw[a];unfold ZU at a
  grind
theorem Zjt(n:Zf)(x:Zt):F132 n x=some (Ku n x):=by
 unfold F132 Ku;by_cases h:ZU x.2.1 n.2.2.1.length=true
 ·have e:idx n.2.2.1 x.2.1=some (rn n x.2.1):=WI h u0;simp only[e,Za,h];unfold ZU at h;simp only[Vk,KL]at h;rw[Zk (show¬x.2.1<0 by omega),Zk (by omega)];simp only[Zd,Za];unfold KE
  grind
 ·have a:ZU x.2.1 n.2.2.1.length=false:=by grind
  rw[a];unfold ZU at h
  grind
def s0:GX:=([],0,false,0,())
def Gn(n:Zf)(a:Int):GX:=(n.1[a.toNat]?).getD s0
def zn(n:Zf)(l:List Wr)(j:Nat):Nat:=2 ^ (Gn n ((l[j]?).getD c0).1).2.1.toNat
def zN(n:Zf)(l:List Wr)(a:Nat):Nat->Nat
 |0=>0
 |k+1=>zN n l a k ||| zn n l (a+k)
theorem ZcF{n:Zf}(h:Ws n){a:Int}(d:0<=a)(e:a<(n.1.length:Int)):idx n.1 a=some (Gn n a)/\0<=(Gn n a).2.1/\(Gn n a).2.1<16:=by
 have c:ZU a n.1.length=true:=by unfold ZU;grind
 refine⟨WI c s0,?_⟩;have b:a.toNat<n.1.length:=by omega
 unfold Gn;rw[Kq b];exact h.zone _ (Vf b)
theorem Zbo{n:Zf}(h:Ws n){l:List Wr}(d:∀c∈l,0<=c.1/\c.1<(n.1.length:Int)){a:Nat} :∀k,a+k<=l.length->zN n l a k<65536
 |0,_=>by unfold zN;omega
 |k+1,i=>by
  have g:=Zbo h d (a:=a) k (by omega);have e:a+k<l.length:=by omega
  have b:=d _ (Vf e);have f:=(ZcF h b.1 b.2).2
  have:zn n l (a+k)<65536:=by unfold zn;rw[Kq e];exact YW f.2
  exact Via (n:=16) g this
theorem Zm9{n:Zf}(h:Ws n){x:Zt}(q:Ku n x=true):F84 n x=some ((zN n (KE n x) x.2.2.1.toNat (x.2.2.2.1.toNat+1 - x.2.2.1.toNat):Nat):Int):=by
 unfold Ku at q;simp only[Vk,KL]at q;obtain⟨y,z,r,A⟩:=q;have w:=Do y;have f:=(h.many _ w).2;have u:∀c∈KE n x,0<=c.1/\c.1<(n.1.length:Int):=h.call _ w;have e:idx n.2.2.1 x.2.1=some (rn n x.2.1):=WI y u0;unfold F84;rw[e];simp only[Za];have d:(rn n x.2.1).2.2.2.2.2.2.2.1=KE n x:=rfl;simp only[d]at f⊢;generalize KE n x=l at*;obtain⟨a,s⟩:∃a:Nat,x.2.2.1=(a:Int):=⟨x.2.2.1.toNat,by omega⟩;obtain⟨b,t⟩:∃b:Nat,x.2.2.2.1=(b:Int):=⟨x.2.2.2.1.toNat,by omega⟩;rw[s]at z r;rw[t]at r A;rw[s,t];have C:Va .i64 ((b:Int)+1)=((b+1:Nat):Int):=by rw[Zy (by omega) (by omega)];omega
 have p:sliceB l.length l.length (some (a:Int)) (some ((b+1:Nat):Int))=some (a,b+1):=by
  unfold sliceB
  grind
 rw[C,p];simp only[Za,Vq]
 have j:(Vna (b+1 - a) (List.drop a l)).length=b+1 - a:=by
  grind
 rw[Jv (n:=b+1 - a) (fun i (st:Int×Int)=>st=(((zN n l a i:Nat):Int),(i:Int))) (fun _=>0) (fun _=>((zN n l a (b+1 - a):Nat):Int)) ((zN n l a (b+1 - a):Nat):Int) ?_ ?_ ?_ ((0:Int),(0:Int)) rfl]
 ·unfold pick
  grind
 ·rintro i _ v rfl _;have B:a+i<l.length:=by omega
  have g:=u _ (Vf B);obtain⟨k,m,o⟩:=ZcF h g.1 g.2;refine⟨(((zN n l a (i+1):Nat):Int),((i+1:Nat):Int)),?_,rfl⟩;simp only[j,ZO v,Zc];rw[ZC (by omega)];simp only[List.getElem_take,List.getElem_drop,Za,k,Zun (Zbo h u (a:=a) i (by omega)) m o,ZW v (by omega)]
  have:zN n l a (i+1)=zN n l a i ||| 2 ^ (Gn n l[a+i].1).2.1.toNat:=by
   show zN n l a i ||| zn n l (a+i)=_;unfold zn
   grind
  grind
 all_goals grind
theorem Zm8{n:Zf}(h:Ws n){x:Zt}(o:Ku n x=true):F140 n x=some ((zN n (KE n x) x.2.2.1.toNat (x.2.2.2.1.toNat+1 - x.2.2.1.toNat):Nat):Int):=by
 unfold Ku at o;simp only[Vk,KL]at o;obtain⟨v,w,p,y⟩:=o;have u:=Do v;have f:=(h.many _ u).2;have s:∀c∈KE n x,0<=c.1/\c.1<(n.1.length:Int):=h.call _ u;have e:idx n.2.2.1 x.2.1=some (rn n x.2.1):=WI v u0;unfold F140;rw[e];simp only[Za];have d:(rn n x.2.1).2.2.2.2.2.2.2.1=KE n x:=rfl;simp only[d]at f⊢;generalize KE n x=l at*;obtain⟨a,q⟩:∃a:Nat,x.2.2.1=(a:Int):=⟨x.2.2.1.toNat,by omega⟩;obtain⟨b,r⟩:∃b:Nat,x.2.2.2.1=(b:Int):=⟨x.2.2.2.1.toNat,by omega⟩;rw[q]at w p;rw[r]at p y;rw[q,r];simp only[Vq];rw[Jv (n:=b+1 - a) (fun i (st:Int×Int)=>st=(((zN n l a i:Nat):Int),((a+i:Nat):Int))) (fun _=>0) (fun _=>((zN n l a (b+1 - a):Nat):Int)) ((zN n l a (b+1 - a):Nat):Int) ?_ ?_ ?_ ((0:Int),(a:Int)) rfl]
 ·unfold pick
  grind
 ·rintro i _ A rfl _;have t:a+i<l.length:=by omega
  have g:=s _ (Vf t);obtain⟨k,m,j⟩:=ZcF h g.1 g.2;refine⟨(((zN n l a (i+1):Nat):Int),((a+(i+1):Nat):Int)),?_,rfl⟩;have z:Va .i64 (((a+i:Nat):Int)+1)=((a+(i+1):Nat):Int):=by rw[Zy (by omega) (by omega)];omega
  simp only[Ze (show ((a+i:Nat):Int)<=(b:Int) by omega),Zc,ZC t,Za,k,Ds m j,z];rw[HG (Zbo h s (a:=a) i (by omega)) (YW j)]
  have:zN n l a (i+1)=zN n l a i ||| 2 ^ (Gn n l[a+i].1).2.1.toNat:=by
   show zN n l a i ||| zn n l (a+i)=_;unfold zn
   grind
  grind
 all_goals grind
end Q
namespace Q
open Tr Go
theorem Zs5{σ ρ τ:Type}{f:σ->Option (σ ⊕ τ)}{g:ρ->Option (ρ ⊕ τ)}{n:Nat}(P:τ->Prop)(R:Nat->σ->ρ->Prop)
 (a:∀i s t,i<n->R i s t->(∃s' j,f s=some (.inl s')/\g t=some (.inl j)/\R (i+1) s' j)\/ ∃r,f s=some (.inr r)/\g t=some (.inr r)/\P r)
 (d:∀s t,R n s t->∃r,f s=some (.inr r)/\g t=some (.inr r)/\P r) (s:σ) (t:ρ) (o:R 0 s t):∃r,run f s=some r/\run g t=some r/\P r:=by
 have key:∀(k i:Nat) (s:σ) (t:ρ),n - i=k->i<=n->R i s t->∃r,run f s=some r/\run g t=some r/\P r:=by
  intro k
  induction k with
  |zero=>
   intro i s t m l h;have:i=n:=by omega
   subst this;obtain⟨r,b,c,e⟩:=d s t h
   exact⟨r,Xy b,Xy c,e⟩
  |succ k p=>
   intro i s t m l h;rcases a i s t (by omega) h with ⟨s',j,b,c,e⟩|⟨r,b,c,e⟩
   ·rw[Hl b,Hl c]
    grind
   ·exact⟨r,Xy b,Xy c,e⟩
 grind
theorem Zgn{k:Nat}(h:0<k)(a:k<=9223372036854775807):Zp (Va .i64 ((k:Int) - 1)) k=some (k - 1):=by
 have e:Va .i64 ((k:Int) - 1)=((k - 1:Nat):Int):=by rw[Zy (by omega) (by omega)];omega
 rw[e,Kg (by omega)]
theorem Zbe{α:Type}{l:List α}{k:Nat}(h:k<l.length)(w:α):(l.set k w)[k]? =some w:=by grind
theorem ZeP{m:Nat}(h:m<65536):Va .i64 (m:Int)=(m:Int):=Zy (by omega) (by omega)
def Hn(n:Zf)(x:Zt):Nat:=zN n (KE n x) x.2.2.1.toNat (x.2.2.2.1.toNat+1 - x.2.2.1.toNat)
theorem ZcQ{n:Zf}(h:Ws n){x:Zt}(a:Ku n x=true):Hn n x<65536:=by unfold Ku at a;simp only[Vk,KL]at a;obtain⟨c,d,e,b⟩:=a;exact Zbo h (h.call _ (Do c)) _ (by unfold KE at b;omega)
def Re:YJ:=([],0,false,())
def Hk(n:Zf)(x:Zt):YJ:=(n.2.1[(rn n x.2.1).2.2.2.2.1.toNat]?).getD Re
theorem Zaf{n:Zf}(h:Ws n){x:Zt}(a:Ku n x=true):idx n.2.2.1 x.2.1=some (rn n x.2.1)/\idx n.2.1 (rn n x.2.1).2.2.2.2.1=some (Hk n x)/\0<=(Hk n x).2.1/\(Hk n x).2.1<16:=by
 unfold Ku at a;simp only[Vk]at a;have d:=Do a.1;have e:=h.route _ d;have c:ZU (rn n x.2.1).2.2.2.2.1 n.2.1.length=true:=by unfold ZU;grind
 refine⟨WI a.1 u0,WI c Re,?_⟩;have b:(rn n x.2.1).2.2.2.2.1.toNat<n.2.1.length:=by omega
 unfold Hk;rw[Kq b];have:=h.mode _ (Vf b);omega
def Xf(n:Zf)(x:Zt):ZJ:=(x.2.2.2.2.2.2.1,x.2.2.2.2.2.2.2.1,((Hn n x:Nat):Int),((2 ^ (Hk n x).2.1.toNat:Nat):Int),())
def XX(n:Zf)(x:Zt)(l:List ZJ)(v:ZJ):List ZJ:=
 l.set (l.length - 1) (v.1,x.2.2.2.2.2.2.2.1,KJ .i64 v.2.2.1 ((Hn n x:Nat):Int),KJ .i64 v.2.2.2.1 ((2 ^ (Hk n x).2.1.toNat:Nat):Int),())
theorem ZlC{n:Zf}(h:Ws n){x:Zt}(a:Ku n x=true)(g:x.2.2.2.2.2.2.2.2.1=false){l:List ZJ}(i:l.length<=100):F80 x n l=some (l++[Xf n x]):=by obtain⟨c,d,e,b⟩:=Zaf h a;unfold F80;rw[Zm9 h a];simp only[Za,c,d,ZkU e b,g,Vn,Zc];rw[show Va .i64 ((zN n (KE n x) x.2.2.1.toNat (x.2.2.2.1.toNat+1 - x.2.2.1.toNat):Nat):Int)=((Hn n x:Nat):Int) from ZeP (ZcQ h a),ZeP (YW b)];have f:(decide (l.length+ [Xf n x].length<=Zz))=true:=Ze (by simp [Zz];omega);show (ZE (decide (l.length+ [Xf n x].length<=Zz))).bind (fun _=>some (l++[Xf n x]))=_;rw[f];rfl
theorem ZlD{n:Zf}(h:Ws n){x:Zt}(a:Ku n x=true)(i:x.2.2.2.2.2.2.2.2.1=true){l:List ZJ}(k:l.length<=100){v:ZJ}(g:0<l.length)(j:l[l.length - 1]? =some v):F80 x n l=some (XX n x l v):=by
 obtain⟨d,e,f,b⟩:=Zaf h a;unfold F80;rw[Zm9 h a];simp only[Za,d,e,ZkU f b,i,Vc,Zd];rw[show Va .i64 ((zN n (KE n x) x.2.2.1.toNat (x.2.2.2.1.toNat+1 - x.2.2.1.toNat):Nat):Int)=((Hn n x:Nat):Int) from ZeP (ZcQ h a),ZeP (YW b)];have c:l.length - 1<l.length:=by omega
 simp only[Zgn g (by omega),Za];erw[j];simp only[Za,Vlb];erw[Zbe c];simp only[Za];erw[Zbe c];rfl
theorem ZsM(n:Zf)(j:Hq)(hf:W6 n)(hj:j.1.length<=20):∃r:List ZJ×Int,F79 n j=some r/\F134 n j=some r/\r.1.length<=20:=by
 obtain⟨c,G,H,I⟩:=Zi9 n hf;unfold F79 F134 F120;rw[G,H];simp only[Za];by_cases he:c.2.2=0
 case neg=>
  simp_all
 have h:=I he;rw[Ze he];simp only[Vc,Zd]
 refine Exists.elim (Zs5 (n:=j.1.length) (τ:=List ZJ ⊕ (List ZJ×Int)) (fun r=>Vka (fun l:List ZJ=>l.length<=20) (fun y=>y.1.length<=20) r)
  (fun i (s:List ZJ×Bool×Int) (t:List ZJ×Int)=>∃l w,s=(l,w,(i:Int))/\t=(l,(i:Int))/\l.length<=i/\(w=true->0<l.length)/\w=(if i=0 then false else((j.1[i - 1]?).getD (false,0,0,0,0,0,0,0,false,())).1))
  (f:=fun d=>
       bif decide (d.snd.snd<(↑(Vg j.fst):Int)) then
        Vb (idx j.fst d.snd.snd) fun m=>
         Vb (bif m.fst then Vb (F83 n m) fun Q=>some !Q else some false) fun R=>
          bif R then some (Sum.inr (Sum.inr ([],(9:Int))))
          else
           Vb (bif m.snd.snd.snd.snd.snd.snd.snd.snd.fst then bif !m.fst then some true else some !d.snd.fst else some false) fun S=>
            bif S then some (Sum.inr (Sum.inr ([],(19:Int))))
            else
             Vb (bif m.fst then Vb (F80 m n d.fst) fun T=>some T else some d.fst) fun U=>
              some (Sum.inl (U,m.fst,Va .i64 (d.snd.snd+(1:Int))))
       else some (Sum.inr (Sum.inl d.fst)))
  (g:=fun d=>
       bif decide (d.snd<(↑(Vg j.fst):Int)) then
        Vb (idx j.fst d.snd) fun m=>
         Vb (bif m.fst then Vb (F132 n m) fun Q=>some !Q else some false) fun R=>
          bif R then some (Sum.inr (Sum.inr ([],(9:Int))))
          else
           Vb
            (bif m.snd.snd.snd.snd.snd.snd.snd.snd.fst then
              bif !m.fst then some true
              else
               bif decide (d.snd=(0:Int)) then some true
               else Vb (idx j.fst (Va .i64 (d.snd - (1:Int)))) fun S=>some !S.fst
            else some false)
            fun T=>
            bif T then some (Sum.inr (Sum.inr ([],(19:Int))))
            else
             bif !m.fst then some (Sum.inl (d.fst,Va .i64 (d.snd+(1:Int))))
             else
              Vb (idx n.snd.snd.fst m.snd.fst) fun U=>
               Vb (idx n.snd.fst U.snd.snd.snd.snd.fst) fun x8=>
                Vb (Hi Go.IntKind.i64 (1:Int) x8.snd.fst) fun V=>
                 bif m.snd.snd.snd.snd.snd.snd.snd.snd.fst then
                  Vb (Zp (Va .i64 ((↑(Vg d.fst):Int) - (1:Int))) (Vg d.fst)) fun o=>
                   Vb d.fst[o]? fun a=>
                    Vb
                     (Zp (Va .i64 ((↑(Vg d.fst):Int) - (1:Int)))
                       (Vg (Vi d.fst o (a.fst,m.snd.snd.snd.snd.snd.snd.snd.fst,a.snd.snd))))
                     fun N=>
                     Vb (Vi d.fst o (a.fst,m.snd.snd.snd.snd.snd.snd.snd.fst,a.snd.snd))[N]? fun q=>
                      Vb (F140 n m) fun u=>
                       Vb
                        (Zp (Va .i64 ((↑(Vg d.fst):Int) - (1:Int)))
                          (Vg (Vi d.fst o (a.fst,m.snd.snd.snd.snd.snd.snd.snd.fst,a.snd.snd))))
                        fun p=>
                        Vb (Vi d.fst o (a.fst,m.snd.snd.snd.snd.snd.snd.snd.fst,a.snd.snd))[p]? fun k=>
                         Vb
                          (Zp (Va .i64 ((↑(Vg d.fst):Int) - (1:Int)))
                            (Vg
                              (Vi (Vi d.fst o (a.fst,m.snd.snd.snd.snd.snd.snd.snd.fst,a.snd.snd)) p
                                (k.fst,k.snd.fst,KJ Go.IntKind.i64 q.snd.snd.fst u,k.snd.snd.snd))))
                          fun O=>
                          Vb
                           (Vi (Vi d.fst o (a.fst,m.snd.snd.snd.snd.snd.snd.snd.fst,a.snd.snd)) p
                             (k.fst,k.snd.fst,KJ Go.IntKind.i64 q.snd.snd.fst u,k.snd.snd.snd))[O]?
                           fun P=>
                           Vb
                            (Zp (Va .i64 ((↑(Vg d.fst):Int) - (1:Int)))
                              (Vg
                                (Vi (Vi d.fst o (a.fst,m.snd.snd.snd.snd.snd.snd.snd.fst,a.snd.snd)) p
                                  (k.fst,k.snd.fst,KJ Go.IntKind.i64 q.snd.snd.fst u,k.snd.snd.snd))))
                            fun E=>
                            Vb
                             (Vi (Vi d.fst o (a.fst,m.snd.snd.snd.snd.snd.snd.snd.fst,a.snd.snd)) p
                               (k.fst,k.snd.fst,KJ Go.IntKind.i64 q.snd.snd.fst u,k.snd.snd.snd))[E]?
                             fun z=>
                             some
                              (Sum.inl
                                (Vi
                                  (Vi (Vi d.fst o (a.fst,m.snd.snd.snd.snd.snd.snd.snd.fst,a.snd.snd)) p
                                    (k.fst,k.snd.fst,KJ Go.IntKind.i64 q.snd.snd.fst u,k.snd.snd.snd))
                                  E (z.fst,z.snd.fst,z.snd.snd.fst,KJ Go.IntKind.i64 P.snd.snd.snd.fst V,z.snd.snd.snd.snd),
                                  Va .i64 (d.snd+(1:Int))))
                 else
                  Vb (F140 n m) fun F=>
                   Vb
                    (ZE (decide (Vg d.fst+Vg [(m.snd.snd.snd.snd.snd.snd.fst,m.snd.snd.snd.snd.snd.snd.snd.fst,F,V,())]<=Zz)))
                    fun _=>
                    some
                     (Sum.inl (d.fst++[(m.snd.snd.snd.snd.snd.snd.fst,m.snd.snd.snd.snd.snd.snd.snd.fst,F,V,())],Va .i64 (d.snd+(1:Int))))
       else some (Sum.inr (Sum.inl d.fst))) ?_ ?_ ([],false,(0:Int)) ([],(0:Int)) ⟨[],false,rfl,rfl,by simp,by simp,rfl⟩) ?_
 rotate_left 2
 ·rintro r ⟨h1,h2,h3⟩;refine⟨Vka (fun l=>(l,(0:Int))) id r,?_,?_,?_⟩
  all_goals grind
 ·rintro i _ _ J ⟨l,w,rfl,rfl,hl,hw,C⟩;have K:j.1.length<=9223372036854775807:=by omega
  simp only[ZO J,Zc,ZC J,Za,ZW J K]
  have L:∀b:Bool,b=(j.1[i]).1->b=(if i+1=0 then false else((j.1[i+1 - 1]?).getD (false,0,0,0,0,0,0,0,false,())).1):=by
   grind
  have B:0<i->idx j.1 (Va .i64 ((i:Int) - 1))=some ((j.1[i - 1]?).getD (false,0,0,0,0,0,0,0,false,())):=by
   intro h0;have e:Va .i64 ((i:Int) - 1)=((i - 1:Nat):Int):=by rw[Zy (by omega) (by omega)];omega
   rw[e,ZC (by omega),Kq (by omega)]
  generalize j.1[i]=x at*
  cases a0:x.1 with
  |false=>
   simp only[Zd,Za,Vn,Zc]
   cases M:x.2.2.2.2.2.2.2.2.1 with
   |true=>simp
   |false=>exact .inl ⟨(l,false,((i+1:Nat):Int)),(l,((i+1:Nat):Int)),rfl,rfl,l,false,rfl,rfl,by omega,by simp,by grind⟩
  |true=>
   simp only[Zc,Za,Vc,Zd,Zjv,Zjt]
   cases D:Ku n x with
   |false=>simp
   |true=>
    obtain⟨W,X,Y,Z⟩:=Zaf h D;simp only[Vc,Zd]
    cases M:x.2.2.2.2.2.2.2.2.1 with
    |false=>
     simp only[Zd,Za,ZlC h D M (show l.length<=100 by omega),W,X,Ds Y Z,Zm8 h D];refine .inl ⟨(l++[Xf n x],true,((i+1:Nat):Int)),(l++[Xf n x],((i+1:Nat):Int)),rfl,?_,l++[Xf n x],true,rfl,rfl,by grind,by simp,by grind⟩;have hg:(decide (l.length+ [Xf n x].length<=Zz))=true:=Ze (by simp [Zz];omega);show (ZE (decide (l.length+ [Xf n x].length<=Zz))).bind (fun _=>some (Sum.inl (l++[Xf n x],((i+1:Nat):Int))))=_;rw[hg]
     rfl
    |true=>
     simp only[Zc]
     cases w with
     |false=>
      refine .inr ⟨.inr ([],19),rfl,?_,by simp⟩
      grind
     |true=>
      have h0:i≠0:=by grind
      rw[Zg h0]at C;have A:=hw rfl;have hk:l.length - 1<l.length:=by omega
      obtain⟨v,hv⟩:∃v,l[l.length - 1]? =some v:=by simp_all
      refine .inl ⟨(XX n x l v,true,((i+1:Nat):Int)),(XX n x l v,((i+1:Nat):Int)),?_,?_,XX n x l v,true,rfl,rfl,by unfold XX;grind,fun _=>by unfold XX;grind,by grind⟩
      ·simp only[Vc,Za,Zd,ZlD h D M (by omega) A hv]
      ·rw[Zk (by omega)];simp only[Zd,B (by omega),Za, <-C,Vc,W,X,Ds Y Z,Zm8 h D,Zgn A (by omega),Vv];erw[hv];simp only[Za,Vlb];erw[Zbe hk];simp only[Za];erw[Zbe hk];rfl
 ·rintro _ _ ⟨l,w,rfl,rfl,hl,_⟩
  grind
end Q
namespace Q
open Tr Go
abbrev KG(x:Zt):Bool:=x.2.2.2.2.2.2.2.2.1
def XH(n:Zf)(x:Zt)(out:List ZJ):List ZJ:=match out[out.length - 1]? with
 |some v=>XX n x out v
 |none=>out
def K2(n:Zf):List Zt->Bool->List ZJ->List ZJ×Int
 |[],_,out=>(out,0)
 |x::l,rode,out=>
  if x.1=true/\Ku n x=false then([],9)
  else if KG x=true/\(x.1=false\/rode=false) then([],19)
  else if x.1=true then K2 n l true (if KG x=true then XH n x out else out++[Xf n x])
  else K2 n l false out
theorem Gg(n:Zf)(x:Zt)(l:List Zt)(rode:Bool)(out:List ZJ):K2 n (x::l) rode out=if x.1=true/\Ku n x=false then([],9)
 else if KG x=true/\(x.1=false\/rode=false) then([],19)
 else if x.1=true then K2 n l true (if KG x=true then XH n x out else out++[Xf n x])
 else K2 n l false out:=rfl
theorem Zc7(n:Zf)(x:Zt)(out:List ZJ):(XH n x out).length=out.length:=by
 unfold XH;split
 ·unfold XX;simp
 ·rfl
theorem Zem(n:Zf)(j:Hq)(A:W6 n)(D:j.1.length<=90):(F79 n j=some ([],21)/\F120 n=some false)\/(Ws n/\F120 n=some true/\F79 n j=some (K2 n j.1 false [])):=by
 obtain⟨c,k,m,o⟩:=Zi9 n A;unfold F79 F120;rw[k,m];simp only[Za];by_cases u:c.2.2=0
 case neg=>
  grind
 have h:=o u;rw[Ze u];simp only[Vc,Zd];refine .inr ⟨h,by simp,?_⟩;refine KM (fun r=>K2 n j.1 false []=Vka (fun l:List ZJ=>(l,(0:Int))) (fun y=>y) r) ?_ ?_
 ·refine Ki j.1.length _ (fun i (s:List ZJ×Bool×Int)=>∃l w,s=(l,w,(i:Int))/\l.length<=i/\(w=true->0<l.length)/\K2 n j.1 false []=K2 n (j.1.drop i) w l) ?_ ?_ _ ⟨[],false,rfl,by simp,by simp,rfl⟩
  ·rintro i _ g ⟨l,w,rfl,B,z,a⟩;have p:j.1.length<=9223372036854775807:=by omega
   rw[Vfa g]at a;simp only[ZO g,Zc,ZC g,Za,ZW g p];generalize j.1[i]=x at*;rw[Gg]at a
   cases f:x.1 with
   |false=>
    rw[f]at a;simp only[Zd,Za,Vn,Zc]
    cases e:KG x with
    |true=>
     simp_all
    |false=>
     grind
   |true=>
    rw[f]at a;simp only[Zc,Za,Vc,Zd,Zjv]
    cases q:Ku n x with
    |false=>
     simp_all
    |true=>
     rw[q]at a;simp only[Vc,Zd]
     cases e:KG x with
     |false=>
      left;rw[e]at a;have b:=e;unfold KG at b;rw[b];simp only[Zd,Za,ZlC h q b (show l.length<=100 by omega)]
      grind
     |true=>
      rw[e]at a;have b:=e;unfold KG at b;rw[b];simp only[Zc]
      cases w with
      |false=>
       simp_all
      |true=>
       left;have d:=z rfl;obtain⟨v,C⟩:∃v,l[l.length - 1]? =some v:=⟨_,Vd (by omega)⟩;simp only[Vc,Za,Zd,ZlD h q b (by omega) d C];have t:XH n x l=XX n x l v:=by unfold XH;grind
       refine⟨_,rfl,XX n x l v,true,rfl,by rw[<-t,Zc7];omega,fun _=>by rw[<-t,Zc7];omega,?_⟩
       grind
  ·rintro _ ⟨l,w,rfl,B,z,a⟩;simp only[JF,Zd];refine⟨_,rfl,?_⟩;rw[a,List.drop_length];rfl
 grind
end Q
namespace Dv
abbrev Tk:=Int×Int×Int×Int×Unit
structure Law where
 n:Nat
 np:Nat
 cov:Nat->Nat->Nat->Bool
 pr:Nat->Nat->Int
abbrev Kw:=Option (Int×List Tk)
def DQ(cur:Kw)(s:Int)(c:Nat):Bool:=match cur with
 |none=>true
 |some (cs,a)=>decide (s<cs) || (decide (s=cs) &&decide (c<a.length))
def H4(L:Law)(nx:Kw)(i k p:Nat)(cur:Kw):Kw:=match nx with
 |none=>cur
 |some (s,t)=>if L.cov p i k=true then(if DQ cur (L.pr p i+s) (1+t.length)=true then some (L.pr p i+s,((p:Int),(i:Int),(k:Int),L.pr p i,())::t) else cur) else cur
def Gl(L:Law)(nx:Kw)(i k:Nat)(cur:Kw):Nat->Kw
 |0=>cur
 |m+1=>H4 L nx i k m (Gl L nx i k cur m)
def rowK(L:Law)(B:Nat->Kw)(i:Nat):Nat->Kw
 |0=>none
 |m+1=>Gl L (B (i+m+1)) i (i+m) (rowK L B i m) L.np
def Kd(L:Law):Nat->Nat->Kw
 |0,j=>if j=L.n then some (0,[]) else none
 |d+1,j=>if j=L.n - (d+1) then rowK L (Kd L d) j (L.n - j) else Kd L d j
inductive Div (L:Law):Nat->Int->Prop
 |nil:Div L L.n 0
 |cons {i k p:Nat}{s:Int} (hik:i<=k) (hk:k<L.n) (hp:p<L.np) (hc:L.cov p i k=true) (h:Div L (k+1) s):Div L i (L.pr p i+s)
def J4(c:Kw)(S:Int->Prop):Prop:=match c with
 |none=>∀s,¬S s
 |some (s,_)=>S s/\ ∀a,S a->s<=a
theorem Zo6{L:Law}{nx cur:Kw}{i k p:Nat}{S N:Int->Prop}(d:J4 cur S)(f:J4 nx N):J4 (H4 L nx i k p cur) fun s=>S s\/(L.cov p i k=true/\ ∃s',N s' /\s=L.pr p i+s'):=by
 unfold H4
 cases nx with
 |none=>
  have:(fun s=>S s\/(L.cov p i k=true/\ ∃s',N s' /\s=L.pr p i+s'))=S:=by
   funext s;refine propext ⟨fun h=>?_,.inl⟩;rcases h with h|⟨_,s',h,_⟩
   ·exact h
   ·exact absurd h (f s')
  grind
 |some x=>
  obtain⟨s,t⟩:=x;obtain⟨m,l⟩:=f;simp only;by_cases c:L.cov p i k=true
  ·rw[if_pos c];by_cases b:DQ cur (L.pr p i+s) (1+t.length)=true
   ·rw[if_pos b];refine⟨by grind,fun s' a=>?_⟩;rcases a with a|⟨_,g,e,rfl⟩
    ·cases cur with
     |none=>exact absurd a (d s')
     |some y=>
      obtain⟨cs,j⟩:=y;have:=d.2 s' a;simp only[DQ,Vjb,Vk,decide_eq_true_eq]at b;omega
    grind
   ·rw[if_neg b]
    cases cur with
    |none=>exact absurd rfl b
    |some y=>
     obtain⟨cs,j⟩:=y;refine⟨.inl d.1,fun s' a=>?_⟩;rcases a with a|⟨_,g,e,rfl⟩
     ·exact d.2 s' a
     ·have:=l g e;simp only[DQ,Vjb,Vk,decide_eq_true_eq]at b;omega
  simp_all
theorem ZlQ{L:Law}{nx cur:Kw}{i k:Nat}{S N:Int->Prop}(b:J4 cur S)(a:J4 nx N):∀m,J4 (Gl L nx i k cur m) fun s=>S s\/ ∃p,p<m/\L.cov p i k=true/\ ∃s',N s' /\s=L.pr p i+s'
 |0=>by
  have:(fun s=>S s\/ ∃p,p<0/\L.cov p i k=true/\ ∃s',N s' /\s=L.pr p i+s')=S:=by simp
  rw[this];assumption
 |m+1=>by
  have h:=Zo6 (p:=m) (i:=i) (k:=k) (L:=L) (ZlQ (i:=i) (k:=k) (L:=L) b a m) a
  have e:(fun s=>(S s\/ ∃p,p<m/\L.cov p i k=true/\ ∃s',N s' /\s=L.pr p i+s')\/(L.cov m i k=true/\ ∃s',N s' /\s=L.pr m i+s'))=fun s=>S s\/ ∃p,p<m+1/\L.cov p i k=true/\ ∃s',N s' /\s=L.pr p i+s' :=by
   grind
  rw[e]at h;exact h
theorem ZlO{L:Law}{B:Nat->Kw}{i:Nat}{N:Nat->Int->Prop} :∀m,(∀j,i<j->j<=i+m->J4 (B j) (N j))->J4 (rowK L B i m) fun s=>∃k,i<=k/\k<i+m/\ ∃p,p<L.np/\L.cov p i k=true/\ ∃s',N (k+1) s' /\s=L.pr p i+s'
 |0,_=>by
  intro s h
  omega
 |m+1,a=>by
  have h:=ZlQ (L:=L) (i:=i) (k:=i+m) (ZlO (L:=L) (B:=B) (i:=i) (N:=N) m (by grind)) (a (i+m+1) (by omega) (by omega)) L.np
  have e:(fun s=>(∃k,i<=k/\k<i+m/\ ∃p,p<L.np/\L.cov p i k=true/\ ∃s',N (k+1) s' /\s=L.pr p i+s')\/ ∃p,p<L.np/\L.cov p i (i+m)=true/\ ∃s',N (i+m+1) s' /\s=L.pr p i+s')=fun s=>∃k,i<=k/\k<i+(m+1)/\ ∃p,p<L.np/\L.cov p i k=true/\ ∃s',N (k+1) s' /\s=L.pr p i+s' :=by
   grind
  rw[e]at h;exact h
theorem Zp1{L:Law}{s:Int}(h:Div L L.n s):s=0:=by
 generalize c:L.n=i at h
 cases h with
 |nil=>rfl
 |cons a b _ _ _=>omega
theorem Zp2{L:Law}{i:Nat}(f:i<L.n){s:Int} :Div L i s↔∃k,i<=k/\k<i+(L.n - i)/\ ∃p,p<L.np/\L.cov p i k=true/\ ∃s',Div L (k+1) s' /\s=L.pr p i+s' :=by
 constructor
 ·intro h
  cases h with
  |nil=>omega
  |cons a e b c d=>grind
 ·rintro ⟨k,a,e,p,b,c,s',d,rfl⟩;exact .cons a (by omega) b c d
theorem tab_best(L:Law):∀d,d<=L.n->∀j,L.n - d<=j->j<=L.n->J4 (Kd L d j) (Div L j)
 |0,_,j,f,b=>by
  have:j=L.n:=by omega
  subst this;rw[Kd,if_pos rfl]
  exact⟨.nil,fun a h=>by have:=Zp1 h;omega⟩
 |d+1,o,j,f,b=>by
  rw[Kd];by_cases c:j=L.n - (d+1)
  ·rw[if_pos c];have h:=ZlO (L:=L) (B:=Kd L d) (i:=j) (N:=Div L) (L.n - j) fun g l m=>tab_best L d (by omega) g (by omega) (by omega)
   have e:(fun s=>∃k,j<=k/\k<j+(L.n - j)/\ ∃p,p<L.np/\L.cov p j k=true/\ ∃a,Div L (k+1) a/\s=L.pr p j+a)=Div L j:=by funext s;exact propext (Zp2 (by omega)).symm
   grind
  ·rw[if_neg c];exact tab_best L d (by omega) j (by omega) b
def Zal(B:Nat->Kw)(n i:Nat)(c:Kw):Prop:= ∀s t,c=some (s,t)->∃p k q b a,t=((p:Int),(i:Int),((k:Nat):Int),(q:Int),())::a/\i<=k/\k<n/\B (k+1)=some (b,a)
theorem Zo7{L:Law}{B:Nat->Kw}{n i k p:Nat}{cur:Kw}(a:i<=k)(c:k<n)(h:Zal B n i cur):Zal B n i (H4 L (B (k+1)) i k p cur):=by
 unfold H4
 cases d:B (k+1) with
 |none=>exact h
 |some x=>
  obtain⟨s,t⟩:=x;simp only;split
  ·split
   ·intro e f b
    grind
   omega
  omega
theorem ZlR{L:Law}{B:Nat->Kw}{n i k:Nat}{cur:Kw}(a:i<=k)(b:k<n)(h:Zal B n i cur):∀m,Zal B n i (Gl L (B (k+1)) i k cur m)
 |0=>h
 |m+1=>Zo7 a b (ZlR a b h m)
theorem ZlP{L:Law}{B:Nat->Kw}{n i:Nat} :∀m,i+m<=n->Zal B n i (rowK L B i m)
 |0,_=>fun s t h=>by simp [rowK]at h
 |m+1,h=>ZlR (by omega) (by omega) (ZlP m (by omega)) L.np
theorem ZhH(L:Law):∀d e j,L.n - d<=j->d<=e->e<=L.n->Kd L e j=Kd L d j
 |d,e,j,a,b,c=>by
  induction e with
  |zero=>grind
  |succ e g=>
   by_cases f:d=e+1
   ·grind
   ·rw[Kd,if_neg (by omega)]
    grind
theorem ZtT(L:Law){j:Nat}(r:j<L.n):Zal (Kd L L.n) L.n j (Kd L L.n j):=by
 have b:Kd L L.n j=rowK L (Kd L (L.n - j - 1)) j (L.n - j):=by rw[ZhH L (L.n - j) L.n j (by omega) (by omega) (Vw _)];obtain⟨d,a⟩:∃d,L.n - j=d+1:=⟨L.n - j - 1,by omega⟩;rw[show L.n - j - 1=d by omega,a,Kd,if_pos (by omega),a]
 have h:=ZlP (L:=L) (B:=Kd L (L.n - j - 1)) (n:=L.n) (i:=j) (L.n - j) (by omega);rw[b];intro s t g;obtain⟨p,k,q,l,m,c,e,f,o⟩:=h s t g;exact⟨p,k,q,l,m,c,e,f,by rw[ZhH L (L.n - j - 1) L.n (k+1) (by omega) (by omega) (Vw _)];omega⟩
end Dv
namespace Q
open Tr Go Dv
abbrev XS:=Bool×Int×Int×Tk×Unit
theorem Zlr(a b:Int):0<=KJ .u64 a b/\KJ .u64 a b<18446744073709551616:=by
 have c:∀x:Int,0<=Va .u64 x/\Va .u64 x<18446744073709551616:=fun x=>by simp [Va,Vca,Vz];omega
 unfold KJ
 grind
theorem Zrc(a b d:Int):∃z:Bool,F112 a b d=some z:=by
 unfold F112;by_cases h:a<=b
 ·rw[Ze h];by_cases c:d<0
  all_goals simp [*]
 ·rw[Zk h];by_cases c:d<0
  all_goals simp [*]
theorem ZpT(p:JO)(s:List ZJ)(v:s.length<=100):∃z:Bool,F110 p s=some z/\(s=[]->z=false):=by
 unfold F110;by_cases d:s=[]
 ·simp_all
 ·have h:0<s.length:=Vsa.2 d;rw[Zk (by omega)];have el:Va .i64 ((s.length:Int) - 1)=((s.length - 1:Nat):Int):=by rw[Zy (by omega) (by omega)];omega
  have m:idx s (0:Int)=some s[0]:=ZC (i:=0) h;obtain⟨lt,b⟩:=Zrc (s[0]).1 (s[s.length - 1]).1 p.2.2.2.2.1;simp only[Zd,el,ZC (show s.length - 1<s.length by omega),m,Za,b]
  have e:∃c:Bool,(bif decide (p.2.2.1<(s.length:Int)) then some true else some lt)=some c:=by
   grind
  obtain⟨c,f⟩:=e;rw[f];simp only[Za]
  cases c with
  |true=>simp
  |false=>
   simp only[Zd]
   have key:∀(o:Option (Int×Int)) (k:Int×Int->Option Bool),(∃r,o=some r/\(0<=r.1/\r.1<18446744073709551616))->(∀r:Int×Int,0<=r.1->r.1<18446744073709551616->∃z,k r=some z)->∃z:Bool,Vb o k=some z/\(s=[]->z=false):=by
    simp_all
   refine key _ _ ?_ ?_
   ·refine Ki s.length _ (fun i (t:Int×Int×Int)=>∃x y,t=(x,y,(i:Int))/\0<=x/\x<18446744073709551616) ?_ ?_ _ ⟨0,0,rfl,by omega,by omega⟩
    ·rintro i _ a ⟨x,y,rfl,j,l⟩;left;simp only[ZO a,Zc,ZC a,Za,ZW a (by omega),F111,F2];exact⟨_,rfl,_,_,rfl,(Zlr _ _).1,(Zlr _ _).2⟩
    simp_all
   ·intro r q u
    have g:F1 r.1=some ((Jh 64 r.1.toNat:Nat):Int):=by
     show lenF r.1=_;unfold lenF
     grind
    simp only[g,Za,F4]
    grind
noncomputable def RP(p:JO)(s:List ZJ):Bool:=(F110 p s).getD false
theorem ZpV(p:JO)(s:List ZJ)(a:s.length<=100):F110 p s=some (RP p s):=by
 obtain⟨z,h,_⟩:=ZpT p s a;unfold RP
 grind
def Gt(a b d:Int):Bool:=bif decide (b<=a) then true else decide (Va .u64 (Va .u64 b - Va .u64 a)<=Va .u64 d)
theorem Zuq(a b d:Int):F18 a b d=some (Gt a b d):=by
 unfold F18 Gt
 grind
def GM:ZJ:=(0,0,0,0,())
def HJ(F:Kc)(p:JO)(l:List ZJ)(i:Nat):Int:=
 if 0<i/\Gt ((l[i - 1]?).getD GM).2.1 ((l[i]?).getD GM).1 F.2.2.1=true then(if 0<p.2.1 - F.2.1 then p.2.1 - F.2.1 else 0) else p.2.1
theorem Zsg(F:Kc)(p:JO)(l:List ZJ)(i:Nat)(b:i<l.length)(g:l.length<=100)(e:0<=p.2.1/\p.2.1<=1000000)(f:0<=F.2.1/\F.2.1<=1000000):F16 F p l (i:Int)=some (HJ F p l i):=by
 unfold F16 HJ;have c:Va .i64 (p.2.1 - F.2.1)=p.2.1 - F.2.1:=Zy (by omega) (by omega)
 have em:Tr.imax 0 (p.2.1 - F.2.1)=if 0<p.2.1 - F.2.1 then p.2.1 - F.2.1 else 0:=rfl
 by_cases d:0<i
 ·have a:Va .i64 ((i:Int) - 1)=((i - 1:Nat):Int):=by rw[Zy (by omega) (by omega)];omega
  rw[Ze (by omega)];simp only[Zc,a,ZC (show i - 1<l.length by omega),ZC b,Za,Zuq]
  grind
 grind
structure Rv (F:Kc):Prop where
 disc:0<=F.2.1/\F.2.1<=1000000
 cap:0<=F.2.2.2.1
 price:∀p∈F.1,0<=p.2.1/\p.2.1<=1000000
 many:F.1.length<=16
theorem ZbV{F:Kc}(h:(Jq F).2=0):Rv F:=by
 unfold Jq at h;by_cases a:HB F=false
 ·grind
 rw[Zg a]at h;by_cases c:16<F.1.length
 ·grind
 rw[Zg c]at h;have g:=Za5 h;have a:HB F=true:=by grind
 unfold HB at a;simp only[Vk,KL]at a;refine⟨a.1,a.2.2.1,fun p f=>?_,by omega⟩;obtain⟨i,e,rfl⟩:=Vj f;have b:=g i e;unfold Hh at b;rw[Kq e]at b;obtain⟨_,_,d⟩:=GI.1 b;have d:Yu F.1[i]=true:=by grind
 unfold Yu at d
 grind
noncomputable def ZM(F:Kc)(l:List ZJ):Law where
 n:=l.length
 np:=F.1.length
 cov:=fun p i k=>RP ((F.1[p]?).getD p0) ((l.drop i).take (k+1 - i))
 pr:=fun p i=>HJ F ((F.1[p]?).getD p0) l i
theorem Zcp{F:Kc}(hF:Rv F){l:List ZJ}{p i:Nat}(a:p<(ZM F l).np):0<=(ZM F l).pr p i/\(ZM F l).pr p i<=1000000:=by have h:=hF.price _ (Vf (show p<F.1.length from a));have b:=hF.disc;show 0<=HJ F ((F.1[p]?).getD p0) l i/\HJ F ((F.1[p]?).getD p0) l i<=1000000;rw[Kq (by grind)];unfold HJ;omega
def Bd(n:Nat)(f:Nat->Kw):Prop:= ∀j s t,j<=n->f j=some (s,t)->0<=s/\s<=1000000* ((n:Int) - (j:Int))/\t.length<=n - j
def Gx(c:Kw)(r:XS):Prop:=match c with
 |none=>r.1=false
 |some (s,t)=>r.1=true/\r.2.1=s/\r.2.2.1=(t.length:Int)/\ ∀x a,t=x::a->r.2.2.2.1=x
def XE(f:Nat->Kw)(T:List XS):Prop:=T.length=9/\ ∀j,j<=8->∃r,T[j]? =some r/\Gx (f j) r
theorem XE.congr{f g:Nat->Kw}{T:List XS}(h:XE f T)(e:∀j,j<=8->g j=f j):XE g T:=
 ⟨h.1,fun j a=>by rw[e j a];exact h.2 j a⟩
def Jj(f:Nat->Kw)(i:Nat)(c:Kw):Nat->Kw:=fun j=>if j=i then c else f j
theorem XE.set{f:Nat->Kw}{T:List XS}(h:XE f T){i:Nat}(d:i<=8){c:Kw}{r:XS}(e:Gx c r):XE (Jj f i c) (T.set i r):=by
 refine⟨by rw[Vv];exact h.1,fun j b=>?_⟩;unfold Jj;by_cases a:j=i
 ·subst a;rw[Zn rfl,Vma (by rw[h.1];omega)]
  grind
 ·rw[Zg a,Vba (Ne.symm a)];exact h.2 j b
theorem Gx.ok{s:Int}{t:List Tk}{r:XS}(h:Gx (some (s,t)) r):r.1=true/\r.2.1=s/\r.2.2.1=(t.length:Int)/\ ∀x a,t=x::a->r.2.2.2.1=x:=h
theorem ZoP{cur:Kw}{r:XS}(h:Gx cur r)(s:Int)(c:Nat):F15 r s (c:Int)=some (DQ cur s c):=by
 cases cur with
 |none=>
  unfold F15
  rw[show r.1=false from h];rfl
 |some x=>
  obtain⟨cs,a⟩:=x;obtain⟨b,d,f,_⟩:=Gx.ok h;unfold F15;rw[b,d,f];have e:decide ((c:Int)<(a.length:Int))=decide (c<a.length):=by simp
  rw[e];show _=some (decide (s<cs) || (decide (s=cs) &&decide (c<a.length)))
  grind
theorem ZtW{F:Kc}(hF:Rv F){l:List ZJ}(P:l.length<=8){f:Nat->Kw}{T:List XS}(b:XE f T)(A:Bd l.length f){i k p:Nat}(C:i<=k)(O:k<l.length)(x:p<F.1.length){s:Int}{t:List Tk}(m:f (k+1)=some (s,t)):
 ∃v,F14 (i:Int) (k:Int) (p:Int) F l T=some v/\XE (Jj f i (H4 (ZM F l) (f (k+1)) i k p (f i))) v:=by
 unfold F14;have a:=hF.price _ (Vf x);obtain⟨J,K,L⟩:=A (k+1) s t (by omega) m;have z:Va .i64 ((k:Int)+1)=((k+1:Nat):Int):=by rw[Zy (by omega) (by omega)];omega
 have G:sliceB l.length l.length (some (i:Int)) (some ((k+1:Nat):Int))=some (i,k+1):=by
  unfold sliceB
  grind
 have u:((l.drop i).take (k+1 - i)).length<=100:=by grind
 obtain⟨R,r,c⟩:=b.2 (k+1) (by omega);obtain⟨Q,q,e⟩:=b.2 i (by omega);rw[m]at c;obtain⟨M,y,c3,N⟩:=Gx.ok c;have d:Zp ((k+1:Nat):Int) 9=some (k+1):=Kg (by omega);have h:Zp (i:Int) 9=some i:=Kg (by omega)
 have o:F16 F F.1[p] l (i:Int)=some ((ZM F l).pr p i):=by
  rw[Zsg F F.1[p] l i (by omega) (by omega) a hF.disc];show _=some (HJ F ((F.1[p]?).getD p0) l i)
  grind
 have E:=Zcp hF (l:=l) (i:=i) (by assumption)
 have g:RP F.1[p] ((l.drop i).take (k+1 - i))=(ZM F l).cov p i k:=by
  show _=RP ((F.1[p]?).getD p0) ((l.drop i).take (k+1 - i))
  grind
 have H:Va .i64 ((ZM F l).pr p i+s)=(ZM F l).pr p i+s:=Zy (by omega) (by omega);have I:Va .i64 ((t.length:Int)+1)=((1+t.length:Nat):Int):=by rw[Zy (by omega) (by omega)];omega
 simp only[ZC x,Za,z,G,ZpV F.1[p] _ u,g,o,d,h,r,q,y,c3,H,I];rw[m];unfold H4;simp only
 cases w:(ZM F l).cov p i k with
 |false=>
  refine⟨T,rfl,b.congr fun j D=>?_⟩;unfold Jj
  grind
 |true=>
  simp only[Vc,Zd,ZoP e,Za,if_true]
  cases B:DQ (f i) ((ZM F l).pr p i+s) (1+t.length) with
  |false=>
   refine⟨T,rfl,b.congr fun j D=>?_⟩;unfold Jj
   grind
  |true=>
   refine⟨_,rfl,b.set (by omega) ⟨rfl,rfl,?_,by simp⟩⟩
   all_goals grind
end Q
namespace Q
open Tr Go Dv
def GR(n i:Nat)(c:Kw):Prop:= ∀s t,c=some (s,t)->0<=s/\s<=1000000* ((n:Int) - (i:Int))/\t.length<=n - i
theorem Zo5{L:Law}{n i k p:Nat}{nx cur:Kw}(c:0<=L.pr p i/\L.pr p i<=1000000)(a:i<=k)(j:k<n)(b:GR n (k+1) nx)(h:GR n i cur):GR n i (H4 L nx i k p cur):=by
 unfold H4
 cases nx with
 |none=>omega
 |some x=>
  obtain⟨s,t⟩:=x;obtain⟨d,f,g⟩:=b s t rfl;simp only;split
  ·split
   ·intro l m e
    grind
   omega
  omega
theorem Zep{L:Law}{n i k:Nat}{nx cur:Kw}(b:∀p,p<L.np->0<=L.pr p i/\L.pr p i<=1000000)(a:i<=k)(d:k<n)(e:GR n (k+1) nx)(c:GR n i cur):∀m,m<=L.np->GR n i (Gl L nx i k cur m)
 |0,_=>c
 |m+1,h=>Zo5 (by grind) a d e (Zep b a d e c m (by omega))
theorem Zen{L:Law}{n i:Nat}{B:Nat->Kw}(a:∀p,p<L.np->0<=L.pr p i/\L.pr p i<=1000000)(b:∀j,GR n j (B j)):∀m,i+m<=n->GR n i (rowK L B i m)
 |0,_=>fun s t h=>by simp [Dv.rowK]at h
 |m+1,h=>Zep a (by omega) (by omega) (by grind) (Zen a b m (by omega)) L.np (Vw _)
theorem ZcJ{L:Law}(a:∀p i,p<L.np->0<=L.pr p i/\L.pr p i<=1000000):∀d,d<=L.n->∀j,GR L.n j (Kd L d j)
 |0,_,j=>by
  intro s t h;rw[Kd]at h
  grind
 |d+1,b,j=>by
  rw[Kd];split
  ·next c=>exact Zen (by grind) (ZcJ a d (by omega)) _ (by omega)
  ·exact ZcJ a d (by omega) j
theorem ZhG(L:Law):∀d,d<=L.n->∀j,j<L.n - d->Kd L d j=none
 |0,_,j,h=>by rw[Kd,Zg (by omega)]
 |d+1,a,j,h=>by rw[Kd,Zg (by omega)];exact ZhG L d (by omega) j (by omega)
theorem ZmF(f:Nat->Kw)(i:Nat)(c c' :Kw):Jj (Jj f i c) i c' =Jj f i c' :=by
 funext j;unfold Jj
 grind
theorem Rn(f:Nat->Kw)(i:Nat)(c:Kw):Jj f i c i=c:=Zn rfl
theorem HO(f:Nat->Kw){i j:Nat}(c:Kw)(h:j≠i):Jj f i c j=f j:=Zg h
def rz:XS:=(false,0,0,(0,0,0,0,()),())
theorem Zp4{F:Kc}(hF:Rv F){l:List ZJ}(P:l.length<=8):∃T,F13 F l=some T/\XE (Kd (ZM F l) l.length) T:=by
 have D:∀p i,p<(ZM F l).np->0<=(ZM F l).pr p i/\(ZM F l).pr p i<=1000000:=fun p i u=>Zcp hF u;have y:(ZM F l).n=l.length:=rfl;unfold F13;have V:(Tr.zeroEl Jn:List XS)=Vh 9 rz:=rfl;have B:Zp (l.length:Int) 9=some l.length:=Kg (by omega);have E:(Tr.zeroEl Jn:List XS)[l.length]? =some rz:=by grind
 rw[B];simp only[Za];erw[E];simp only[Za]
 have key:∀o:Option (List XS),(∃T,o=some T/\XE (Kd (ZM F l) l.length) T)->∃T,(Vb o fun G=>some G)=some T/\XE (Kd (ZM F l) l.length) T:=by simp
 refine key _ (Ki l.length _ (fun c (s:List XS×Int)=>∃T,s=(T,(l.length:Int) - 1 - (c:Int))/\XE (Kd (ZM F l) c) T) ?_ ?_ _ ?_)
 ·rintro c _ S ⟨T,rfl,b⟩;left;obtain⟨i,M⟩:∃i:Nat,(l.length:Int) - 1 - (c:Int)=(i:Int):=by grind
  have O:i<l.length:=by omega
  have N:i=l.length - (c+1):=by omega
  rw[M];rw[Ze (by omega)];simp only[Zc];refine Xn (fun g=>XE (Kd (ZM F l) (c+1)) g) ?_ ?_
  ·refine Ki (l.length - i) _ (fun m (s:List XS×Int)=>∃T,s=(T,((i+m:Nat):Int))/\XE (Jj (Kd (ZM F l) c) i (rowK (ZM F l) (Kd (ZM F l) c) i m)) T) ?_ ?_ _ ⟨T,rfl,b.congr fun j C=>?_⟩
   ·rintro m _ U ⟨T,rfl,b⟩;left;have I:i+m<l.length:=by omega
    simp only[ZO I,Zc];refine Xn (fun g=>XE (Jj (Kd (ZM F l) c) i (rowK (ZM F l) (Kd (ZM F l) c) i (m+1))) g) ?_ ?_
    ·refine Ki F.1.length _ (fun p (s:List XS×Int)=>∃T,s=(T,(p:Int))/\XE (Jj (Kd (ZM F l) c) i (Gl (ZM F l) (Kd (ZM F l) c (i+m+1)) i (i+m) (rowK (ZM F l) (Kd (ZM F l) c) i m) p)) T) ?_ ?_ _ ⟨T,rfl,b⟩
     ·rintro p _ u ⟨T,rfl,b⟩;left;have v:Va .i64 (((i+m:Nat):Int)+1)=((i+m+1:Nat):Int):=by rw[Zy (by omega) (by omega)];omega
      have A:Zp ((i+m+1:Nat):Int) 9=some (i+m+1):=Kg (by omega);obtain⟨r,Q,d⟩:=b.2 (i+m+1) (by omega);rw[HO _ _ (by omega)]at d;simp only[ZO u,Zc,v,A,Q,Za,ZW u (show F.1.length<=9223372036854775807 by have:=hF.many;omega)]
      cases f:Kd (ZM F l) c (i+m+1) with
      |none=>
       rw[f]at d;rw[show r.1=false from d];refine⟨_,rfl,T,rfl,?_⟩;rw[f]at b
       assumption
      |some x=>
       obtain⟨s,t⟩:=x;rw[f]at d;obtain⟨R,_⟩:=Gx.ok d;rw[R];simp only[Zc]
       have w:Bd l.length (Jj (Kd (ZM F l) c) i (Gl (ZM F l) (Kd (ZM F l) c (i+m+1)) i (i+m) (rowK (ZM F l) (Kd (ZM F l) c) i m) p)):=by
        intro j J K C e;have h:=ZcJ D c (by omega);by_cases a:j=i
        ·subst a;rw[Rn]at e;exact Zep (n:=l.length) (by grind) (by omega) (by omega) (h _) (Zen (by grind) h m (by omega)) p (show p<=F.1.length by omega) J K e
        ·rw[HO _ _ a]at e;exact h j J K e
       obtain⟨g,L,H⟩:=ZtW hF P b w (i:=i) (k:=i+m) (p:=p) (by omega) I u (s:=s) (t:=t) (by rw[HO _ _ (by omega)];omega);rw[L];refine⟨_,rfl,g,rfl,?_⟩;rw[ZmF,Rn,HO _ _ (by omega)]at H;rw[f]at H
       assumption
     ·rintro _ ⟨T,rfl,b⟩;simp only[JF,Zd];exact⟨_,rfl,b⟩
    ·intro g z;have v:Va .i64 (((i+m:Nat):Int)+1)=((i+(m+1):Nat):Int):=by rw[Zy (by omega) (by omega)];omega
     grind
   ·rintro _ ⟨T,rfl,b⟩;rw[show i+(l.length - i)=l.length by omega];simp only[JF,Zd];refine⟨_,rfl,b.congr fun j C=>?_⟩;rw[Kd];by_cases a:j=i
    ·subst a;rw[Zn (by omega),Rn];rfl
    ·rw[Zg (by omega),HO _ _ a]
   ·by_cases a:j=i
    ·subst a;rw[Rn,ZhG (ZM F l) c (by omega) j (by omega)];rfl
    ·rw[HO _ _ a]
  ·intro g z;have v:Va .i64 ((i:Int) - 1)=(l.length:Int) - 1 - ((c+1:Nat):Int):=by rw[Zy (by omega) (by omega)];omega
   grind
 ·grind
 ·refine⟨(Vh 9 rz).set l.length (true,rz.2),?_,by simp,fun j C=>?_⟩
  ·rw[Zy (by omega) (by omega)]
   grind
  ·rw[Kd];by_cases q:j=l.length
   ·subst q;rw[Zn y.symm,Vma (by grind)];exact⟨_,rfl,rfl,rfl,rfl,by simp⟩
   ·rw[Zg (by omega),Vba (Ne.symm q),List.getElem?_replicate,Zn (by omega)];exact⟨_,rfl,rfl⟩
def Y8(F:Kc)(s:Int):Int:=if 0<F.2.2.2.1/\F.2.2.2.1<s then F.2.2.2.1 else s
theorem Zpb(F:Kc)(s:Int):F12 F s=some (Y8 F s):=by
 unfold F12 Y8
 grind
end Q
namespace Q
open Tr Go Dv
def HQ(x:Zt):Int:=if x.1=true\/x.2.2.2.2.2.2.1<0\/x.2.2.2.2.2.2.2.1<x.2.2.2.2.2.2.1\/14400<x.2.2.2.2.2.2.2.1 - x.2.2.2.2.2.2.1 then 0 else x.2.2.2.2.2.2.2.1 - x.2.2.2.2.2.2.1
def K9(l:List Zt):Int:=(l.map HQ).sum
theorem Zui(x:Zt):0<=HQ x/\HQ x<=14400:=by unfold HQ;omega
theorem ZcM(a b:List Zt):K9 (a++b)=K9 a+K9 b:=by unfold K9;simp
theorem ZhO:∀l:List Zt,0<=K9 l/\K9 l<=14400* (l.length:Int)
 |[]=>by simp [K9]
 |x::l=>by
  have a:=Zui x;have b:=ZhO l;unfold K9 at*
  grind
def HU(x:Zt):Prop:=x.2.2.2.2.2.2.2.1<=9223372036854775807
theorem ZeO(j:Hq)(l:j.1.length<=1000)(f:∀x∈j.1,HU x):F82 j=some (K9 j.1):=by
 unfold F82;refine KM (fun r=>r=K9 j.1) ?_ (by simp);refine Ki j.1.length _ (fun i (s:Int×Int)=>s=(K9 (j.1.take i),(i:Int))) ?_ ?_ _ rfl
 ·rintro i _ a rfl;left;have h:=f _ (Vf a);have g:=ZhO (j.1.take i);rw[List.length_take]at g;refine⟨_,?_,rfl⟩;rw[Vr a,ZcM];generalize K9 (j.1.take i)=W at*;simp only[ZO a,Zc,ZC a,Za,ZW a (by omega)];generalize j.1[i]=x at*;unfold HU at h;have e0:K9 [x]=HQ x:=by simp [K9]
  rw[e0];unfold HQ
  cases k:x.1 with
  |true=>
   simp
  |false=>
   simp only[Zd];by_cases c:x.2.2.2.2.2.2.1<0
   ·grind
   ·rw[Zk c];by_cases d:x.2.2.2.2.2.2.2.1<x.2.2.2.2.2.2.1
    ·grind
    ·rw[Zk d];have b:Va .i64 (x.2.2.2.2.2.2.2.1 - x.2.2.2.2.2.2.1)=x.2.2.2.2.2.2.2.1 - x.2.2.2.2.2.2.1:=Zy (by omega) (by omega);simp only[Zd,b,Za];by_cases e:14400<x.2.2.2.2.2.2.2.1 - x.2.2.2.2.2.2.1
     ·grind
     ·rw[Zk e,Zg (by grind),Zy (by omega) (by omega)];rfl
 simp
end Q
