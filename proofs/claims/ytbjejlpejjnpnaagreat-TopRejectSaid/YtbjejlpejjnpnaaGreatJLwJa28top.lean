/- Plain laws: shortest walks and closures. -/
import Derived.Test.YtbjejlpejjnpnaaGreatFintopd
import Derived.Test.YtbjejlpejjnpnaaGreatETsF
import Derived.Test.YtbjejlpejjnpnaaGreatLxPop
open BitVec renaming ofInt_natCast ->Vu,toNat_ofNat ->Vy,ofInt ->Vja,toNat_or ->Vib
open Bool renaming not_true ->Vc,and_eq_true ->Vk,or_eq_false_iff ->Vm,not_false ->Vn,not_eq_true ->Vp,not_eq_false' ->Vx,true_and ->Vaa,false_eq_true ->Vda,or_eq_true ->Vjb
open Int renaming toNat_natCast ->Vq,le_refl ->Vea,min_eq_right ->Vab
open Go.IntKind renaming wrap ->Va,signed ->Vz,bits ->Vca,i64 ->Vmb,u64 ->Vnb
open List renaming getElem?_eq_getElem ->Vd,getElem_mem ->Vf,length ->Vg,replicate ->Vh,set ->Vi,getElem_of_mem ->Vj,take_succ_eq_append_getElem ->Vr,length_append ->Vs,range ->Vt,length_set ->Vv,getElem?_set_ne ->Vba,drop_eq_getElem_cons ->Vfa,append_assoc ->Vha,pairwise_lt_range ->Vla,getElem?_set_self ->Vma,take ->Vna,length_replicate ->Voa,getElem?_eq_none ->Vpa,pairwise_flatMap ->Vqa,replicate_succ' ->Vra,length_pos_iff ->Vsa,mem_cons ->Vta,flatMap_append ->Vua,mem_map ->Vwa,ext_getElem? ->Vxa,length_cons ->Vya,take_length ->Vza,mem_flatMap ->Vbb,countP_set ->Vdb,mem_append ->Veb,length_map ->Vfb,range_succ ->Vgb,append_nil ->Vhb,isEmpty ->Vkb,set_set ->Vlb
open Nat renaming zero_le ->Vo,le_refl ->Vw,or_lt_two_pow ->Via,strongRecOn ->Vcb
open Option renaming bind ->Vb,getD ->Ve,isSome ->Vga
open Prod.mk renaming injEq ->Vva
open Sum renaming elim_inl ->Vl,elim ->Vka
namespace Gr
inductive Wk (Ed:Nat->Nat->Int->Prop) (s:Nat):Nat->Int->Prop
 |nil:Wk Ed s s 0
 |snoc {u v:Nat}{d w:Int} (h:Wk Ed s u d) (e:Ed u v w):Wk Ed s v (d+w)
def Least(Ed:Nat->Nat->Int->Prop)(s v:Nat)(d:Int):Prop:=Wk Ed s v d/\ ∀a,Wk Ed s v a->d<=a
theorem Wk.nonneg{Ed:Nat->Nat->Int->Prop}(a:∀u v w,Ed u v w->0<=w){s v:Nat}{d:Int}(h:Wk Ed s v d):0<=d:=by
 induction h with
 |nil=>omega
 |snoc h e b=>grind
theorem ZqJ{Ed:Nat->Nat->Int->Prop}(g:∀u v w,Ed u v w->0<=w){s:Nat}{S:Nat->Prop}{L:Nat->Int}{O:Nat->Int->Prop}{m:Int}
 (a:∀u,S u->∀d,Wk Ed s u d->L u<=d) (b:S s\/ ∃l,O s l/\l<=0) (c:∀u v w,S u->Ed u v w->S v\/ ∃l,O v l/\l<=L u+w) (f:∀v l,O v l->m<=l):
 ∀{v:Nat}{d:Int},Wk Ed s v d->S v\/m<=d:=by
 intro v d h
 induction h with
 |nil=>
  grind
 | @snoc u v d w h e i=>
   grind
theorem ZpB{Ed:Nat->Nat->Int->Prop}{s:Nat}{S:Nat->Prop}{L:Nat->Int}{O:Nat->Int->Prop}
 (a:S s\/ ∃l,O s l/\l<=0) (b:∀u v w,S u->Ed u v w->S v\/ ∃l,O v l/\l<=L u+w) (c:∀v l,¬O v l):∀{v:Nat}{d:Int},Wk Ed s v d->S v:=by
 intro v d h
 induction h with
 |nil=>grind
 | @snoc u v d w h e f=>grind
theorem Wk.dom{Ed a:Nat->Nat->Int->Prop}(h:∀u v w,Ed u v w->∃w',a u v w' /\w' <=w){s v:Nat}{d:Int}(k:Wk Ed s v d):∃b,Wk a s v b/\b<=d:=by
 induction k with
 |nil=>exact⟨0,.nil,Vea _⟩
 |snoc k e g=>
  obtain⟨b,c,i⟩:=g;obtain⟨w',f,j⟩:=h _ _ _ e;exact⟨_,.snoc c f,by omega⟩
inductive Wb (Ed:Nat->Nat->Int->Prop) (k:Nat):Nat->Nat->Int->Prop
 |one {i j:Nat}{w:Int} (e:Ed i j w):Wb Ed k i j w
 |cons {i m j:Nat}{w d:Int} (e:Ed i m w) (hm:m<k) (h:Wb Ed k m j d):Wb Ed k i j (w+d)
theorem Wb.nonneg{Ed:Nat->Nat->Int->Prop}(a:∀u v w,Ed u v w->0<=w){k i j:Nat}{d:Int}(h:Wb Ed k i j d):0<=d:=by
 induction h with
 |one e=>grind
 |cons e _ _ b=>grind
theorem Wb.round{Ed:Nat->Nat->Int->Prop}(r:∀u v w,Ed u v w->0<=w){k i j:Nat}{d:Int}(h:Wb Ed (k+1) i j d):
 (∃b,b<=d/\Wb Ed k i j b)\/ ∃f c,f+c<=d/\Wb Ed k i k f/\Wb Ed k k j c:=by
 induction h with
 |one e=>exact .inl ⟨_,Vea _,.one e⟩
 | @cons i m j w d e s h q=>
   by_cases p:m=k
   ·subst p;rcases q with ⟨b,l,a⟩|⟨f,c,l,a,o⟩
    ·exact .inr ⟨w,b,by omega,.one e,a⟩
    ·have:=a.nonneg r;exact .inr ⟨w,c,by omega,.one e,o⟩
   ·have g:m<k:=by omega
    rcases q with ⟨b,l,a⟩|⟨f,c,l,a,o⟩
    ·exact .inl ⟨w+b,by omega,.cons e g a⟩
    ·exact .inr ⟨w+f,c,by omega,.cons e g a,o⟩
theorem Wb.mono{Ed:Nat->Nat->Int->Prop}{k a i j:Nat}{d:Int}(c:k<=a)(h:Wb Ed k i j d):Wb Ed a i j d:=by
 induction h with
 |one e=>exact .one e
 |cons e f _ b=>exact .cons e (by omega) b
theorem Wb.app{Ed:Nat->Nat->Int->Prop}{k i m j:Nat}{b c:Int}(g:m<k)(h:Wb Ed k i m b)(f:Wb Ed k m j c):Wb Ed k i j (b+c):=by
 induction h with
 |one e=>exact .cons e g f
 | @cons i p o w d e a _ l=>
   have:=Wb.cons e a (l g f)
   grind
theorem Wb.wk{Ed:Nat->Nat->Int->Prop}{k s i j:Nat}{d a:Int}(b:Wk Ed s i a)(h:Wb Ed k i j d):Wk Ed s j (a+d):=by
 induction h generalizing a with
 |one e=>exact .snoc b e
 |cons e _ _ c=>
  have:=c (.snoc b e)
  grind
theorem Wb.snoc{Ed:Nat->Nat->Int->Prop}{k i j v:Nat}{d w:Int}(a:j<k)(h:Wb Ed k i j d)(e:Ed j v w):Wb Ed k i v (d+w):=h.app a (.one e)
theorem Wk.wb{Ed:Nat->Nat->Int->Prop}{n s v:Nat}{d:Int}(c:∀u v w,Ed u v w->u<n/\v<n)(h:Wk Ed s v d):(v=s/\d=0)\/Wb Ed n s v d:=by
 induction h with
 |nil=>omega
 | @snoc u v d w h e b=>
   rcases b with ⟨rfl,rfl⟩|a
   ·right;rw[Int.zero_add];exact .one e
   ·exact .inr (a.snoc (by grind) e)
end Gr
namespace Q
open Tr Go
abbrev Xn:=Int×Int×Int×Unit
abbrev Nd:=Xn×Int×Unit
abbrev Hp:=Unit×List Nd×Int×Unit
def ZgJ(a b:Xn):Bool:=decide (a.2.1<b.2.1\/(a.2.1=b.2.1/\a.2.2.1<b.2.2.1))
def H9(a b:Nd):Bool:=decide (a.1.2.1<b.1.2.1\/(a.1.2.1=b.1.2.1/\(a.1.2.2.1<b.1.2.2.1\/(a.1.2.2.1=b.1.2.2.1/\a.2.1<b.2.1))))
def le(a b:Nd):Prop:= ¬(b.1.2.1<a.1.2.1\/(b.1.2.1=a.1.2.1/\(b.1.2.2.1<a.1.2.2.1\/(b.1.2.2.1=a.1.2.2.1/\b.2.1<a.2.1))))
theorem le_refl(a:Nd):le a a:=by unfold le;omega
theorem le_trans{a b c:Nd}(h:le a b)(k:le b c):le a c:=by unfold le at*;omega
theorem ZgD{a b:Nd}(h:H9 a b=true):le a b:=by
 unfold H9 at h;unfold le
 grind
theorem ZgE{a b:Nd}(h:H9 a b=false):le b a:=by unfold H9 at h;exact of_decide_eq_false h
theorem Zra{a b:Nd}(h:le a b):a.1.2.1<=b.1.2.1:=by unfold le at h;omega
def nd0:Nd:=((0,0,0,()),0,())
def ZP(l:List Nd)(k:Nat):Nd:=(l[k]?).getD nd0
theorem ZbL{l:List Nd}{k:Nat}(h:k<l.length):l[k]? =some (ZP l k):=by simp [ZP,h]
theorem ZiC{l:List Nd}{i:Nat}(h:i<l.length)(b:Nd)(k:Nat):ZP (l.set i b) k=if k=i then b else ZP l k:=by
 unfold ZP
 grind
def JI(l:List Nd)(i k:Nat):List Nd:=(l.set i (ZP l k)).set k (ZP l i)
theorem DC(l:List Nd)(i k:Nat):(JI l i k).length=l.length:=by simp [JI]
theorem GN{l:List Nd}{i k:Nat}(a:i<l.length)(b:k<l.length)(j:Nat):ZP (JI l i k) j=if j=k then ZP l i else if j=i then ZP l k else ZP l j:=by unfold JI;rw[ZiC (by grind),ZiC a]
theorem Zhz{l:List Nd}{i k:Nat}(a:i<l.length)(b:k<l.length):(JI l i k).Perm l:=by
 have c:ZP l k=l[k]:=by simp [ZP,b]
 have d:ZP l i=l[i]:=by simp [ZP,a]
 unfold JI
 grind
theorem Zrn(a b:Xn):F194 a b=some (ZgJ a b):=by
 unfold F194 ZgJ
 grind
theorem ZfC{l:List Nd}{c:Int}{i k:Nat}(a:i<l.length)(b:k<l.length):F72 ((),l,c,()) (i:Int) (k:Int)=some (((),l,c,()),H9 (ZP l i) (ZP l k)):=by
 unfold F72;simp only[Kg a,Kg b,ZbL a,ZbL b,Za,Zrn];unfold ZgJ H9;by_cases d:(ZP l i).1.2.1<(ZP l k).1.2.1\/((ZP l i).1.2.1=(ZP l k).1.2.1/\(ZP l i).1.2.2.1<(ZP l k).1.2.2.1)
 ·grind
 ·rw[Zi d];simp only[Zc];by_cases e:(ZP l k).1.2.1<(ZP l i).1.2.1\/((ZP l k).1.2.1=(ZP l i).1.2.1/\(ZP l k).1.2.2.1<(ZP l i).1.2.2.1)
  ·rw[Ze e];simp only[Zd];rw[Zi (by omega)]
  grind
theorem ZhA{l:List Nd}{c:Int}{i k:Nat}(b:i<l.length)(d:k<l.length):F74 ((),l,c,()) (i:Int) (k:Int)=some ((),JI l i k,c,()):=by
 unfold F74;have a:k<(Vi l i (ZP l k)).length:=by grind
 simp only[Kg b,Kg d,ZbL b,ZbL d,Za,Kg a];rw[Vd a];rfl
def Yg(l:List Nd):Prop:= ∀k,0<k->k<l.length->le (ZP l ((k - 1) / 2)) (ZP l k)
theorem ZqP{l:List Nd}(h:Yg l):∀k,k<l.length->le (ZP l 0) (ZP l k):=by
 intro k
 induction k using Vcb with
 |ind k c=>
  intro b;by_cases a:k=0
  ·subst a;exact le_refl _
  ·exact le_trans (by grind) (h k (by omega) b)
def Up(l:List Nd)(i:Nat):Prop:=
 i<l.length/\(∀k,0<k->k<l.length->k≠i->le (ZP l ((k - 1) / 2)) (ZP l k))/\ ∀k,0<k->k<l.length->(k - 1) / 2=i->0<i->le (ZP l ((i - 1) / 2)) (ZP l k)
theorem Zt0{l:List Nd}{i:Nat}(h:Up l i)(t:0<i)(q:H9 (ZP l i) (ZP l ((i - 1) / 2))=true):Up (JI l i ((i - 1) / 2)) ((i - 1) / 2):=by
 obtain⟨g,j,s⟩:=h;have d:(i - 1) / 2<l.length:=by omega
 have m:=ZgD q;refine⟨by rw[DC];omega,fun k o f p=>?_,fun k o f p r=>?_⟩
 ·rw[DC]at f;rw[GN g d,GN g d];by_cases c:k=i
  ·grind
  ·rw[Zg p,Zg c];by_cases u:(k - 1) / 2=i
   ·grind
   ·by_cases e:(k - 1) / 2=(i - 1) / 2
    ·rw[Zo e];have:=j k o f c;rw[e]at this;exact le_trans m this
    grind
 ·rw[DC]at f;rw[GN g d,GN g d,Zg (by omega),Zg (by omega)];by_cases c:k=i
  ·grind
  ·rw[Zg (by omega),Zg c];have a:=j _ r d (by omega);have b:=j k o f c;rw[p]at b;exact le_trans a b
theorem Zll{l:List Nd}{c:Int}(x:Xn)(h:Yg l)(E:l.length<2147483648):
 ∃z:Hp,F71 ((),l,c,()) x=some z/\z.2.2.1=Va .i64 (c+1)/\Yg z.2.1/\z.2.1.Perm (l++[(x,c,())]):=by
 have b:(l++[(x,c,())]).length=l.length+1:=by simp
 have A:Up (l++[(x,c,())]) l.length:=by
  refine⟨by omega,fun k d g F=>?_,by omega⟩;have e:∀j,j<l.length->ZP (l++[(x,c,())]) j=ZP l j:=fun j C=>by simp [ZP,List.getElem?_append_left C]
  rw[e _ (by omega),e _ (by omega)];exact h k d (by omega)
 unfold F71
 have w:ZF (decide (l.length+ [((x,c,()):Nd)].length<=ZC))=some ():=by rw[Ze (by simp [ZC];omega)];rfl
 have y:Va .i64 (((l++[(x,c,())]).length:Int) - 1)=(l.length:Int):=by rw[b,Zx (by omega) (by omega)];omega
 simp only[w,Za,y]
 refine run_bind (fun s=>∃(m:List Nd) (i:Nat),s=(((),m,Va .i64 (c+1),()),(i:Int))/\Up m i/\m.Perm (l++[(x,c,())])) (fun s=>s.2.toNat)
  (fun r=>∃m:List Nd,r=((),m,Va .i64 (c+1),())/\Yg m/\m.Perm (l++[(x,c,())])) ⟨_,l.length,rfl,A,.refl _⟩ ?_ ?_
 ·rintro s ⟨m,i,rfl,a,f⟩;have D:m.length=l.length+1:=by rw[f.length_eq,b]
  by_cases B:0<i
  ·have t:Va .i64 ((i:Int) - 1)=((i - 1:Nat):Int):=by have:=a.1;rw[Zx (by omega) (by omega)];omega
   have u:Int.tdiv ((i - 1:Nat):Int) 2=(((i - 1) / 2:Nat):Int):=by rfl
   have v:Va .i64 ((((i - 1) / 2:Nat)):Int)=(((i - 1) / 2:Nat):Int):=by have:=a.1;exact Zx (by omega) (by omega)
   have o:(i - 1) / 2<m.length:=by have:=a.1;omega
   simp only[show decide ((0:Int)<(i:Int))=true from (by grind),Zd,t,u,v,ZfC a.1 o,Za]
   cases p:H9 (ZP m i) (ZP m ((i - 1) / 2)) with
   |true=>
    left;refine⟨_,by simp only[Zd,ZhA a.1 o,Za],⟨JI m i ((i - 1) / 2),(i - 1) / 2,rfl,Zt0 a B p,(Zhz a.1 o).trans f⟩,?_⟩
    omega
   |false=>
    right;refine⟨_,rfl,m,rfl,fun k d g=>?_,f⟩;by_cases q:k=i
    ·subst q;exact ZgE p
    ·exact a.2.1 k d g q
  ·right;have:i=0:=by omega
   subst this;refine⟨_,by rfl,m,rfl,fun k d g=>a.2.1 k d g (by omega),f⟩
 grind
def Dn(l:List Nd)(i:Nat):Prop:=
 (∀k,0<k->k<l.length->(k - 1) / 2≠i->le (ZP l ((k - 1) / 2)) (ZP l k))/\ ∀k,0<k->k<l.length->(k - 1) / 2=i->0<i->le (ZP l ((i - 1) / 2)) (ZP l k)
theorem Zp1{l:List Nd}{i c:Nat}(h:Dn l i)(b:i<l.length)(a:c<l.length)(e:(c - 1) / 2=i)(m:0<c)(j:H9 (ZP l c) (ZP l i)=true)(t:∀k,0<k->k<l.length->(k - 1) / 2=i->le (ZP l c) (ZP l k)):Dn (JI l i c) c:=by
 obtain⟨r,s⟩:=h;have o:=ZgD j;refine⟨fun k q f g=>?_,fun k q f g u=>?_⟩
 ·rw[DC]at f;rw[GN b a,GN b a,Zg g];by_cases d:k=i
  ·grind
  ·by_cases p:(k - 1) / 2=i
   ·grind
   ·rw[Zg p,Zg (by omega),Zg d]
    grind
 ·rw[DC]at f;rw[e,GN b a,GN b a,Zg (by omega),Zo rfl,Zg (by omega),Zg (by omega)]
  grind
theorem Zjj{l:List Nd}{i:Nat}(h:Dn l i)(d:∀k,0<k->k<l.length->(k - 1) / 2=i->le (ZP l i) (ZP l k)):Yg l:=by
 intro k b c;by_cases a:(k - 1) / 2=i
 ·grind
 ·exact h.1 k b c a
theorem Ztk{l:List Nd}{c:Int}(h:Dn l 0)(H:l.length<2147483648):∃z:Hp,F73 ((),l,c,())=some z/\z.2.2.1=c/\Yg z.2.1/\z.2.1.Perm l:=by
 unfold F73;simp only
 refine run_bind (fun s=>∃(m:List Nd) (i:Nat),s=(((),m,c,()),(i:Int))/\(i<m.length\/i=0)/\Dn m i/\m.Perm l) (fun s=>l.length - s.2.toNat)
  (fun r=>∃m:List Nd,r=((),m,c,())/\Yg m/\m.Perm l) ⟨l,0,rfl,.inr rfl,h,.refl _⟩ ?_ ?_
 ·rintro s ⟨m,i,rfl,F,t,p⟩;have D:m.length=l.length:=p.length_eq;have y:Va .i64 ((2:Int) * (i:Int))=((2*i:Nat):Int):=by rw[Zx (by omega) (by omega)];omega
  have A:Va .i64 (((2*i:Nat):Int)+1)=((2*i+1:Nat):Int):=by rw[Zx (by omega) (by omega)];omega
  have B:Va .i64 (((2*i+1:Nat):Int)+1)=((2*i+2:Nat):Int):=by rw[Zx (by omega) (by omega)];omega
  simp only[y,A,B];by_cases G:m.length<=2*i+1
  ·right;refine⟨_,by grind,m,rfl,Zjj t (by omega),p⟩
  ·simp only[show decide ((m.length:Int)<=((2*i+1:Nat):Int))=false from (by grind),Zc];have e:i<m.length:=by omega
   have fin:∀a:Nat,(a=2*i+1\/a=2*i+2)->a<m.length->(∀k,0<k->k<m.length->(k - 1) / 2=i->le (ZP m a) (ZP m k))->
    (∃x:Hp×Int,(Vb (F72 ((),m,c,()) (a:Int) (i:Int)) fun b=>
       bif !b.snd then some (Sum.inr ((),b.fst.snd.fst,b.fst.snd.snd.fst,()))
       else Vb (F74 ((),b.fst.snd.fst,b.fst.snd.snd.fst,()) (i:Int) (a:Int)) fun o=>some (Sum.inl (((),o.snd.fst,o.snd.snd.fst,()),(a:Int))))=some (Sum.inl x:(Hp×Int) ⊕ Hp)/\
       (∃(f:List Nd) (q:Nat),x=(((),f,c,()),(q:Int))/\(q<f.length\/q=0)/\Dn f q/\f.Perm l)/\l.length - x.2.toNat<l.length - (i:Int).toNat)\/
    ∃r:Hp,(Vb (F72 ((),m,c,()) (a:Int) (i:Int)) fun b=>
       bif !b.snd then some (Sum.inr ((),b.fst.snd.fst,b.fst.snd.snd.fst,()))
       else Vb (F74 ((),b.fst.snd.fst,b.fst.snd.snd.fst,()) (i:Int) (a:Int)) fun o=>some (Sum.inl (((),o.snd.fst,o.snd.snd.fst,()),(a:Int))))=some (Sum.inr r:(Hp×Int) ⊕ Hp)/\
      ∃f:List Nd,r=((),f,c,())/\Yg f/\f.Perm l:=by
    intro a C d E;rw[ZfC d e];simp only[Za]
    cases g:H9 (ZP m a) (ZP m i) with
    |true=>
     left;refine⟨_,by simp only[Vc,Zc,ZhA e d,Za],⟨JI m i a,a,rfl,.inl (by rw[DC];omega),Zp1 t e d (by omega) (by omega) g E,(Zhz e d).trans p⟩,?_⟩
     omega
    |false=>
     right;exact⟨_,by rfl,m,rfl,Zjj t fun k u v w=>le_trans (ZgE g) (by grind),p⟩
   by_cases j:2*i+2<m.length
   ·simp only[show decide (((2*i+2:Nat):Int)<(m.length:Int))=true from (by grind),Zd,ZfC j (show 2*i+1<m.length by omega),Za]
    cases g:H9 (ZP m (2*i+2)) (ZP m (2*i+1)) with
    |true=>
     simp only[Zd,Za]
     exact fin (2*i+2) (.inr rfl) j fun k u v w=>by
      have:k=2*i+1\/k=2*i+2:=by omega
      rcases this with rfl|rfl
      ·exact ZgD g
      ·exact le_refl _
    |false=>
     simp only[Zc,Za]
     exact fin (2*i+1) (.inl rfl) (by omega) fun k u v w=>by
      have:k=2*i+1\/k=2*i+2:=by omega
      rcases this with rfl|rfl
      ·exact le_refl _
      ·exact ZgE g
   ·simp only[show decide (((2*i+2:Nat):Int)<(m.length:Int))=false from (by grind),Zc]
    exact fin (2*i+1) (.inl rfl) (by omega) fun k u v w=>by
     have:k=2*i+1:=by omega
     subst this;exact le_refl _
 grind
theorem Zr4(c:Int):F70 ((),[],c,())=some (((),[],c,()),(0,0,0,()),false):=by rfl
theorem Zr6{l:List Nd}{c:Int}(h:Yg l)(o:l≠ [])(G:l.length<2147483648):
 ∃f x,F70 ((),l,c,())=some (((),f,c,()),x.1,true)/\Yg f/\l.Perm (x::f)/\ ∀y∈l,x.1.2.1<=y.1.2.1:=by
 have b:0<l.length:=Vsa.2 o;have a:l.length - 1<l.length:=by omega
 have d:F69 ((),l,c,())=some (((),l,c,()),(ZP l 0).1,true):=by unfold F69 F68;simp only[Za,show decide ((l.length:Int)=0)=false from (by grind),Zc];rw[show (0:Int)=((0:Nat):Int) from rfl,Kg b];simp only[Za,ZbL b]
 have r:Va .i64 ((l.length:Int) - 1)=((l.length - 1:Nat):Int):=by rw[Zx (by omega) (by omega)];omega
 have v:sliceB (JI l 0 (l.length - 1)).length (JI l 0 (l.length - 1)).length none (some ((l.length - 1:Nat):Int))=some (0,l.length - 1):=by unfold sliceB;rw[DC];simp
 have u:Dn (Vna (l.length - 1) (JI l 0 (l.length - 1))) 0:=by
  refine⟨fun k A B H=>?_,by omega⟩;simp [DC]at B
  have e:∀j,j<l.length - 1->j≠0->ZP (Vna (l.length - 1) (JI l 0 (l.length - 1))) j=ZP l j:=fun j F g=>by
   have:ZP (Vna (l.length - 1) (JI l 0 (l.length - 1))) j=ZP (JI l 0 (l.length - 1)) j:=by unfold ZP;grind
   rw[this,GN b a,Zg (by omega),Zg g]
  rw[e _ (by omega) (by omega),e _ (by omega) (by omega)];exact h k A (by omega)
 obtain⟨⟨_,f,C,_⟩,D,rfl,s,E⟩:=Ztk (c:=c) u (by grind);refine⟨f,ZP l 0,?_,s,?_,fun y z=>?_⟩
 ·unfold F70;rw[d];simp only[Za,Vc,Zc,r];rw[show (0:Int)=((0:Nat):Int) from rfl,ZhA b a]
  grind
 ·have w:=Zhz b a
  have e:JI l 0 (l.length - 1)=Vna (l.length - 1) (JI l 0 (l.length - 1))++[ZP l 0]:=by
   conv=>lhs;rw[<-List.take_append_drop (l.length - 1) (JI l 0 (l.length - 1))]
   congr 1;have m:(JI l 0 (l.length - 1)).length=l.length:=DC ..;rw[Vfa (by omega)];have t:List.drop (l.length - 1+1) (JI l 0 (l.length - 1))=[]:=by grind
   rw[t];have p:=GN b a (l.length - 1);rw[Zo rfl]at p;rw[<-p];simp [ZP,m,a]
  grind
 ·obtain⟨i,q,rfl⟩:=Vj z;have:=Zra (ZqP h i q);simpa [ZP,q] using this
end Q
namespace Q
open Tr Go Gr
abbrev Ye:=Int×Int×Int×Unit
abbrev Adj:=List (Int×List Ye)
def W6(m:Adj)(u:Nat):List Ye:=Ve (ZJ (Zl (.int .i64)) (u:Int) m) []
structure ZeX (n:Nat) (m:Adj) (Ed:Nat->Nat->Int->Prop):Prop where
 mem:∀u,u<n->∀y∈W6 m u,∃v:Nat,v<n/\y.2.1=(v:Int)/\0<=y.2.2.1/\y.2.2.1<=1073741824/\Ed u v y.2.2.1
 all:∀u v w,Ed u v w->u<n/\ ∃y∈W6 m u,y.2.1=(v:Int)/\y.2.2.1=w
 len:∀u,u<n->(W6 m u).length<=4096
def JT(x:Xn):Bool:=decide (0<=x.2.2.1)
def He(o:List Xn)(i:Nat):Prop:= ∃x,o[i]? =some x/\0<=x.2.2.1
def lenOf(o:List Xn)(i:Nat):Int:=((o[i]?).getD (0,0,0,())).2.1
structure DI (n:Nat) (Ed:Nat->Nat->Int->Prop) (s:Nat) (o:List Xn) (h:List Nd):Prop where
 len:o.length=n
 heap:Yg h
 lab:∀i x,o[i]? =some x->(x.2.2.1<0->x.2.1= -1)/\(0<=x.2.2.1->Least Ed s i x.2.1)
 opn:∀d∈h,∃v:Nat,v<n/\d.1.1=(v:Int)/\Wk Ed s v d.1.2.1/\0<=d.1.2.2.1/\d.1.2.2.1<=(o.countP JT:Nat)/\d.1.2.1<=d.1.2.2.1*1073741824
 src:He o s\/ ∃d∈h,d.1.1=(s:Int)/\d.1.2.1<=0
 out:∀u v w,He o u->Ed u v w->He o v\/ ∃d∈h,d.1.1=(v:Int)/\d.1.2.1<=lenOf o u+w
 size:h.length+(n - o.countP JT) *4096<=1+n*4096
theorem ZfT(o:List Xn):o.countP JT<=o.length:=List.countP_le_length
theorem ZpU{n:Nat}{Ed:Nat->Nat->Int->Prop}{s:Nat}{o:List Xn}{h b:List Nd}{x:Nd}{v:Nat}(a:DI n Ed s o h)(i:Yg b)(j:h.Perm (x::b))(q:x.1.1=(v:Int))(p:He o v):DI n Ed s o b where
 len:=a.len
 heap:=i
 lab:=a.lab
 opn:=fun d m=>a.opn d (by grind)
 src:=by
  rcases a.src with c|⟨d,c,e,f⟩
  all_goals grind
 out:=fun u l w k g=>by
  rcases a.out u l w k g with c|⟨d,c,e,f⟩
  all_goals grind
 size:=by
  have:=j.length_eq;have:=a.size
  grind
theorem Zl9{o:List Xn}{v:Nat}{x:Xn}(c:0<=x.2.2.1){i:Nat}(h:He o i):He (o.set v x) i:=by
 obtain⟨y,d,a⟩:=h;by_cases b:v=i
 ·subst b;have e:v<o.length:=by grind
  exact⟨x,by grind,c⟩
 ·exact⟨y,by grind,a⟩
theorem ZpV{n:Nat}{Ed:Nat->Nat->Int->Prop}{m:Adj}(F:ZeX n m Ed){s:Nat}{o:List Xn}{h K D:List Nd}{x:Nd}{v:Nat}{y:Xn}(k:DI n Ed s o h)(hv:v<n)(V:h.Perm (x::K))(b5:x.1.1=(v:Int))
 (a7:∀d∈h,x.1.2.1<=d.1.2.1) (ho:o[v]? =some y) (hy:y.2.2.1<0) (Q:Yg D) (b1:D.length<=K.length+(W6 m v).length) (h1:∀d∈K,d∈D)
 (h3:∀d∈D,d∈K\/ ∃e∈W6 m v,d.1.1=e.2.1/\d.1.2.1=x.1.2.1+e.2.2.1/\d.1.2.2.1=x.1.2.2.1+1)
 (h4:∀e∈W6 m v,(∃t:Nat,e.2.1=(t:Int)/\He (o.set v x.1) t)\/ ∃d∈D,d.1.1=e.2.1/\d.1.2.1=x.1.2.1+e.2.2.1):DI n Ed s (o.set v x.1) D:=by
 have hw:∀u v w,Ed u v w->0<=w:=fun u v w e=>by obtain⟨B,z,j,g,rfl⟩:=F.all u v w e;obtain⟨f,_,_,r,_⟩:=F.mem u B z j;omega
 have X:x∈h:=by grind
 obtain⟨f,b3,b4,J,A,a9,b0⟩:=k.opn x X;have:f=v:=by omega
 subst this;have T:f<o.length:=by grind
 have p:(o.set f x.1)[f]? =some x.1:=by grind
 have H:∀{i},i≠f->(o.set f x.1)[i]? =o[i]? :=by grind
 have U:o[f]=y:=by
  grind
 have a0:(o.set f x.1).countP JT=o.countP JT+1:=by
  rw[Vdb T,U];have a:JT y=false:=by simp [JT];omega
  have b:JT x.1=true:=by simp [JT];omega
  grind
 have b2:(o.set f x.1).countP JT<=n:=by have:=ZfT (o.set f x.1);rw[Vv,k.len]at this;omega
 have M:Least Ed s f x.1.2.1:=by
  refine⟨J,fun d G=>?_⟩
  have:=ZqJ (S:=He o) (L:=lenOf o) (O:=fun v l=>∃d∈h,d.1.1=(v:Int)/\d.1.2.1=l) (m:=x.1.2.1) hw (fun u B d G=>by
   obtain⟨z,j,q⟩:=B;have:=((k.lab u z j).2 q).2 d G
   simpa [lenOf,j] using this) (by
   rcases k.src with g|⟨d,g,r,C⟩
   all_goals grind) (fun u v w B E=>by
   rcases k.out u v w B E with g|⟨d,g,r,C⟩
   all_goals grind) (by grind) G
  rcases this with ⟨z,j,q⟩|g
  all_goals grind
 have R:∀u,He o u->lenOf (o.set f x.1) u=lenOf o u:=fun u B=>by
  obtain⟨z,j,q⟩:=B;have a8:u≠f:=by grind
  unfold lenOf
  grind
 refine⟨by rw[Vv];exact k.len,Q,fun i z j=>?_,fun d G=>?_,?_,fun u Y w B E=>?_,?_⟩
 ·by_cases hi:i=f
  ·grind
  ·rw[H hi]at j;exact k.lab i z j
 ·rcases h3 d G with g|⟨e,E,g,r,C⟩
  ·obtain⟨t,Z,a2,a3,a4,a5,a6⟩:=k.opn d (by grind)
   grind
  ·obtain⟨t,Z,a2,a3,a4,a5⟩:=F.mem f hv e E;refine⟨t,Z,g.trans a2,by rw[r];exact .snoc J a5,by omega,by omega,?_⟩;omega
 ·rcases k.src with g|⟨d,g,r,C⟩
  ·exact .inl (Zl9 A g)
  ·rcases Vta.1 (V.mem_iff.1 g) with rfl|N
   ·have:s=f:=by omega
    subst this;exact .inl ⟨_,p,A⟩
   grind
 ·by_cases I:u=f
  ·subst I;obtain⟨_,e,P,g,rfl⟩:=F.all u Y w E;rcases h4 e P with ⟨t,r,C⟩|⟨d,r,C,N⟩
   ·grind
   ·refine .inr ⟨d,r,C.trans g,?_⟩;rw[N];simp [lenOf,p]
  ·have W:He o u:=by obtain⟨z,j,q⟩:=B;rw[H I]at j;exact⟨z,j,q⟩
   rcases k.out u Y w W E with g|⟨d,g,r,C⟩
   ·exact .inl (Zl9 A g)
   ·rcases Vta.1 (V.mem_iff.1 g) with rfl|N
    ·have:Y=f:=by omega
     subst this;exact .inl ⟨_,p,A⟩
    grind
 ·have a:=V.length_eq;have b:=k.size;have c:=F.len f hv
  grind
end Q
namespace Q
open Tr Go Gr
def Ze5(n:Nat)(Ed:Nat->Nat->Int->Prop)(s:Nat)(o:List Xn):Prop:=
 o.length=n/\ ∀i x,o[i]? =some x->(Least Ed s i x.2.1/\0<=x.2.1)\/((∀d,¬Wk Ed s i d)/\x.2.1= -1)
theorem Zq6{n:Nat}(hn:n<=64){m:Adj}{Ed:Nat->Nat->Int->Prop}(R:ZeX n m Ed){s:Nat}(hs:s<n):
 ∃z,F192 (n:Int) m (s:Int)=some z/\z.1=m/\Ze5 n Ed s z.2:=by
 have hw:∀u v w,Ed u v w->0<=w:=fun u v w e=>by obtain⟨hu,z,hz,P,rfl⟩:=R.all u v w e;obtain⟨v',_,_,h6,_⟩:=R.mem u hu z hz;omega
 unfold F192
 have eg:ZF (decide ((0:Int)<=(n:Int)/\(n:Int)<=(n:Int)/\(n:Int)<=(ZC:Int)))=some ():=by rw[Ze (by simp [ZC];omega)];rfl
 rw[show ZF _=some () from eg];simp only[Za,Voa,Vq]
 refine Xk (fun st=>∃(o:List Xn) (i:Nat),st=(o,(i:Int))/\o.length=n/\i<=n/\ ∀j,j<i->o[j]? =some ((j:Int), -1, -1,())) (fun st=>n - st.2.toNat)
  (fun o=>o.length=n/\ ∀j,j<n->o[j]? =some ((j:Int), -1, -1,())) ⟨_,0,rfl,by simp,Vo _,by omega⟩ ?_ ?_
 ·rintro st ⟨o,i,rfl,h1,h2,h3⟩;by_cases hi:i<n
  ·have X:i<o.length:=by omega
   have e1:Va .i64 ((i:Int)+1)=((i+1:Nat):Int):=by rw[Zx (by omega) (by omega)];omega
   simp only[show decide ((i:Int)<(n:Int))=true from (by grind),Zd,Kg X,Za,Vd X,e1]
   grind
  ·have:i=n:=by omega
   simp_all
 ·rintro o0 ⟨a7,a8⟩;obtain⟨⟨_,h0,c0,_⟩,K,_,a0,A⟩:=Zll (l:=[]) (c:=0) ((s:Int),0,0,()) (fun k k1 k2=>by grind) (by simp);simp only at a0 A;unfold F76;simp only[Za];rw[show F71 _ _=some _ from K];simp only[Za];have J:∀d,d∈h0↔d=((((s:Int),0,0,()),0,()):Nd):=by grind
  have a6:o0.countP JT=0:=by rw[List.countP_eq_zero];intro a ha;obtain⟨i,hi,rfl⟩:=Vj ha;have:=a8 i (by omega);rw[Vd hi]at this;simp only[Option.some.injEq]at this;rw[this];simp [JT]
  have a5:DI n Ed s o0 h0:= {
   len:=a7
   heap:=a0
   lab:=by grind
   opn:=fun d U=>by rw[J]at U;subst U;exact⟨s,hs,rfl,.nil,Vea _,by simp,by simp⟩
   src:=by simp_all
   out:=fun u v w hu=>by
    obtain⟨x,hx,a4⟩:=hu
    grind
   size:=by
    have:=A.length_eq
    grind}
  refine Xk (fun st=>∃(o:List Xn) (h:List Nd) (c:Int),st=(o,(),h,c,())/\DI n Ed s o h) (fun st=>(n - st.1.countP JT) *8192+st.2.2.1.length)
   (fun o=>Ze5 n Ed s o) ⟨o0,h0,c0,rfl,a5⟩ ?_ (by simp)
  rintro st ⟨o,h,c,rfl,y⟩;simp only;have b4:h.length<=300000:=by have:=y.size;omega
  have b0:h.length<2147483648:=by omega
  by_cases Z:h=[]
  ·subst Z;rw[Zr4];simp only[Za,Vn,Zd];refine⟨_,rfl,y.len,fun i x hx=>?_⟩;by_cases a4:0<=x.2.2.1
   ·have:=(y.lab i x hx).2 a4;exact .inl ⟨this,this.1.nonneg hw⟩
   ·refine .inr ⟨fun d U=>?_,(y.lab i x hx).1 (by omega)⟩
    have:=ZpB (S:=He o) (L:=lenOf o) (O:=fun _ _=>False) (by
     rcases y.src with P|⟨d,P,_⟩
     all_goals grind) (fun u v w hu he=>by
     rcases y.out u v w hu he with P|⟨d,P,_⟩
     all_goals grind) (by simp) U
    obtain⟨z,hz,d0⟩:=this
    grind
  ·obtain⟨E,x,a2,F,hp,Y⟩:=Zr6 (c:=c) y.heap Z b0;rw[a2];simp only[Za,Vc,Zc];obtain⟨v,hv,N,b1,b7,c4,c5⟩:=y.opn x (by grind);have D:v<o.length:=by rw[y.len];omega
   have a9:=hp.length_eq;simp only[Vya]at a9;have b5:o.countP JT<=n:=by have:=ZfT o;rw[y.len]at this;omega
   simp only[N,Kg D,Za,Vd D];have a1:o[v]? =some o[v]:=Vd D;by_cases a3:0<=(o[v]).2.2.1
   ·simp only[show decide ((0:Int)<=(o[v]).2.2.1)=true from (by grind),Zd];exact⟨_,rfl,⟨o,E,c,rfl,ZpU y F hp N ⟨_,a1,a3⟩⟩,by grind⟩
   ·simp only[show decide ((0:Int)<=(o[v]).2.2.1)=false from (by grind),Zc];have T:Ve (ZJ (Zl Y3) (v:Int) m) []=W6 m v:=rfl;have b6:=R.len v hv;have c8:0<=x.1.2.1:=b1.nonneg hw;have c9:x.1.2.1<=68719476736:=by omega
    refine Xk (fun st=>∃(g:List Nd) (B:Int) (j:Nat),st=(((),g,B,()),(j:Int))/\j<=(W6 m v).length/\Yg g/\g.length<=E.length+j/\(∀d∈E,d∈g)/\
     (∀d∈g,d∈E\/ ∃e∈W6 m v,d.1.1=e.2.1/\d.1.2.1=x.1.2.1+e.2.2.1/\d.1.2.2.1=x.1.2.2.1+1)/\
     ∀k e,k<j->(W6 m v)[k]? =some e->(∃t:Nat,e.2.1=(t:Int)/\He (o.set v x.1) t)\/ ∃d∈g,d.1.1=e.2.1/\d.1.2.1=x.1.2.1+e.2.2.1) (fun st=>(W6 m v).length - st.2.toNat)
     (fun r=>∃(g:List Nd) (B:Int),r=((),g,B,())/\Yg g/\g.length<=E.length+(W6 m v).length/\(∀d∈E,d∈g)/\
       (∀d∈g,d∈E\/ ∃e∈W6 m v,d.1.1=e.2.1/\d.1.2.1=x.1.2.1+e.2.2.1/\d.1.2.2.1=x.1.2.2.1+1)/\
       ∀e∈W6 m v,(∃t:Nat,e.2.1=(t:Int)/\He (o.set v x.1) t)\/ ∃d∈g,d.1.1=e.2.1/\d.1.2.1=x.1.2.1+e.2.2.1)
     ⟨E,c,0,rfl,Vo _,F,Vw _,fun _ h=>h,by grind,by omega⟩ ?_ ?_
    ·rintro st ⟨g,B,j,rfl,hj,W,H,g1,g2,Q⟩;simp only[T];by_cases f:j<(W6 m v).length
     ·obtain⟨t,ht,V,b8,b9,c1⟩:=R.mem v hv _ (Vf f);have M:t<(Vi o v x.1).length:=by rw[Vv,y.len];omega
      have e1:Va .i64 ((j:Int)+1)=((j+1:Nat):Int):=by rw[Zx (by omega) (by omega)];omega
      simp only[show decide ((j:Int)<((W6 m v).length:Int))=true from (by grind),Zd,Kg f,Za,Vd f,V,Kg M,Vd M,e1];by_cases c7:(Vi o v x.1)[t].2.2.1<0
      ·have e2:Va .i64 (x.1.2.1+((W6 m v)[j]).2.2.1)=x.1.2.1+((W6 m v)[j]).2.2.1:=Zx (by omega) (by omega);have e3:Va .i64 (x.1.2.2.1+1)=x.1.2.2.1+1:=Zx (by omega) (by omega);simp only[show decide ((Vi o v x.1)[t].2.2.1<0)=true from (by grind),Zd,e2,e3];obtain⟨⟨_,g',c2,_⟩,C,_,G,q⟩:=Zll (c:=B) ((t:Int),x.1.2.1+((W6 m v)[j]).2.2.1,x.1.2.2.1+1,()) W (by omega);simp only at G q;rw[show F71 _ _=some _ from C];simp only[Za];have c6:∀d,d∈g' ↔d∈g\/d=(((t:Int),x.1.2.1+((W6 m v)[j]).2.2.1,x.1.2.2.1+1,()),B,()):=by grind
       refine⟨_,rfl,⟨g',c2,j+1,rfl,f,G,?_,by grind,fun d U=>?_,fun k e hk p=>?_⟩,by omega⟩
       ·have:=q.length_eq;grind
       ·grind
       ·by_cases I:k=j
        ·subst I;rw[Vd f]at p;cases p;simp [*]
        ·rcases Q k e (by omega) p with P|⟨d,P,h6⟩
         all_goals grind
      ·simp only[show decide ((Vi o v x.1)[t].2.2.1<0)=false from (by grind),Zc];refine⟨_,rfl,⟨g,B,j+1,rfl,f,W,by omega,g1,g2,fun k e hk p=>?_⟩,by omega⟩;by_cases I:k=j
       ·subst I;rw[Vd f]at p;cases p;exact .inl ⟨t,V,_,Vd M,by omega⟩
       ·exact Q k e (by omega) p
     ·have:j=(W6 m v).length:=by omega
      subst this;simp only[show decide (((W6 m v).length:Int)<((W6 m v).length:Int))=false by simp,Zc];refine⟨_,rfl,g,B,rfl,W,H,g1,g2,fun e he=>?_⟩;obtain⟨k,hk,rfl⟩:=Vj he;exact Q k _ hk (by simp)
    ·rintro r ⟨g,B,rfl,W,H,g1,g2,Q⟩;have hD:=ZpV R y hv hp N Y a1 (by omega) W H g1 g2 Q;refine⟨_,rfl,⟨_,g,B,rfl,hD⟩,?_⟩
     have b3:(o.set v x.1).countP JT=o.countP JT+1:=by
      rw[Vdb D];have a:JT o[v]=false:=by simp [JT];omega
      have b:JT x.1=true:=by simp [JT];omega
      grind
     have b2:(o.set v x.1).countP JT<=n:=by have:=ZfT (o.set v x.1);rw[hD.len]at this;omega
     grind
end Q
namespace Q
open Tr Go Gr
open Classical in
theorem GL{t:Ty}{β:Type}(b:t.key=true)(k a:El t)(v:β):∀(l:List (El t×β)),ZJ (Zl t) k (Z0 (Zl t) a v l)=if k=a then some v else ZJ (Zl t) k l
 |[]=>by
  simp only[Z0,ZJ];by_cases h:k=a
  ·rw[(Ju b).2 h,Zo h];rfl
  ·rw[Zg h]
   cases c:Zl t k a with
   |true=>exact absurd ((Ju b).1 c) h
   |false=>rfl
 |e::l=>by
  simp only[Z0]
  cases c:Zl t a e.1 with
  |true=>
   have f:=(Ju b).1 c;simp only[Zd,ZJ];by_cases h:k=a
   ·rw[(Ju b).2 h,Zo h];rfl
   ·rw[Zg h, <-f]
    cases d:Zl t k a with
    |true=>exact absurd ((Ju b).1 d) h
    |false=>rfl
  |false=>
   simp only[Zc,ZJ,GL b k a v l]
   cases d:Zl t k e.1 with
   |false=>rfl
   |true=>
    have f:=(Ju b).1 d
    have:k≠a:=by rintro rfl;rw[d]at c;cases c
    simp only[Zd];rw[Zg this]
def EdL(E:List Ye)(u v:Nat)(w:Int):Prop:= ∃e∈E,e.1=(u:Int)/\e.2.1=(v:Int)/\e.2.2.1=w
theorem ZrF(E:List Ye)(j:E.length<=4096):∃z,F195 E false=some z/\ ∀u:Nat,W6 z u=E.filter fun e=>decide (e.1=(u:Int)):=by
 unfold F195
 refine Xk (fun st=>∃(m:Adj) (i:Nat),st=(m,(i:Int))/\i<=E.length/\ ∀k:Int,Ve (ZJ (Zl (.int .i64)) k m) []=(E.take i).filter fun e=>decide (e.1=k)) (fun st=>E.length - st.2.toNat)
  (fun m=>∀u:Nat,W6 m u=E.filter fun e=>decide (e.1=(u:Int))) ⟨[],0,rfl,Vo _,fun k=>by rfl⟩ ?_ (by simp)
 rintro st ⟨m,i,rfl,l,c⟩;by_cases a:i<E.length
 ·have d:Va .i64 ((i:Int)+1)=((i+1:Nat):Int):=by rw[Zx (by omega) (by omega)];omega
  have h:=c (E[i]).1
  have b:(Ve (ZJ (Zl (.int .i64)) (E[i]).1 m) []).length<=4096:=by
   grind
  have f:ZF (decide ((Ve (ZJ (Zl (.int .i64)) (E[i]).1 m) []).length+ [E[i]].length<=ZC))=some ():=by rw[Ze (by simp [ZC];omega)];rfl
  have g:ZF (Tr.holeK (.int .i64) (some (E[i]).1) (E[i]).1)=some ():=by have:Tr.holeK (.int .i64) (some (E[i]).1) (E[i]).1=true:=(Ju rfl).2 rfl;rw[this];rfl
  simp only[show decide ((i:Int)<(E.length:Int))=true from (by grind),Zd,Zc,ZA a,Za,d];rw[show ZF _=some () from f];simp only[Za];rw[show ZF _=some () from g];simp only[Za];refine⟨_,rfl,⟨_,i+1,rfl,a,fun k=>?_⟩,by omega⟩
  rw[show Ve (ZJ (Zl (.int .i64)) k (Z0 (Zl (.int .i64)) (E[i]).1 (Ve (ZJ (Zl (.int .i64)) (E[i]).1 m) []++[E[i]]) m)) []=if k=(E[i]).1 then Ve (ZJ (Zl (.int .i64)) (E[i]).1 m) []++[E[i]] else Ve (ZJ (Zl (.int .i64)) k m) [] by
   rw[GL rfl]
   grind]
  rw[Vr a,List.filter_append]
  grind
 ·have:i=E.length:=by omega
  subst this;simp only[show decide ((E.length:Int)<(E.length:Int))=false by simp,Zc];exact⟨_,rfl,fun u=>by have:=c (u:Int);rw[Vza]at this;assumption⟩
def EOk(n:Nat)(E:List Ye):Prop:= ∀e∈E,0<=e.1/\e.1<n/\0<=e.2.1/\e.2.1<n/\0<=e.2.2.1/\e.2.2.1<=1073741824
theorem ZnF{n:Nat}{E:List Ye}(i:EOk n E)(p:E.length<=4096){m:Adj}(l:∀u:Nat,W6 m u=E.filter fun e=>decide (e.1=(u:Int))):ZeX n m (EdL E) where
 mem:=fun u q y j=>by rw[l]at j;obtain⟨h,g⟩:=List.mem_filter.1 j;have g:=X2 g;obtain⟨a,b,c,d,e,f⟩:=i y h;exact⟨y.2.1.toNat,by omega,by omega,e,f,y,h,g,by omega,rfl⟩
 all:=fun u v w ⟨e,k,h,g,o⟩=>by
  obtain⟨a,b,_⟩:=i e k
  grind
 len:=by grind
open Classical in
noncomputable def KI(Ed:Nat->Nat->Int->Prop)(i j:Nat):Int:=if h:∃d,Least Ed i j d then h.choose else -1
theorem Least.uniq{Ed:Nat->Nat->Int->Prop}{i j:Nat}{d a:Int}(h:Least Ed i j d)(k:Least Ed i j a):d=a:=by have:=h.2 a k.1;have:=k.2 d h.1;omega
theorem RW{Ed:Nat->Nat->Int->Prop}{i j:Nat}{d:Int}(h:Least Ed i j d):KI Ed i j=d:=by unfold KI;have a:∃d,Least Ed i j d:=⟨d,h⟩;rw[dif_pos a];exact Least.uniq a.choose_spec h
theorem ZpW{Ed:Nat->Nat->Int->Prop}{i j:Nat}(h:∀d,¬Wk Ed i j d):KI Ed i j= -1:=by unfold KI;rw[dif_neg];rintro ⟨d,a⟩;exact h d a.1
noncomputable def Yb(Ed:Nat->Nat->Int->Prop)(n:Nat):List (List Int):=(Vt n).map fun i=>(Vt n).map fun j=>KI Ed i j
theorem ZkD{Ed:Nat->Nat->Int->Prop}{n i:Nat}(h:i<n):(Yb Ed n)[i]? =some ((Vt n).map fun j=>KI Ed i j):=by
 unfold Yb
 grind
theorem Zrm{n:Nat}(w:n<=64){Ed:Nat->Nat->Int->Prop}{s:Nat}{o:List Xn}(h:Ze5 n Ed s o):∃z,F193 o=some z/\z=(Vt n).map fun j=>KI Ed s j:=by
 obtain⟨u,k⟩:=h;unfold F193
 have g:ZF (decide ((0:Int)<=(o.length:Int)/\(o.length:Int)<=(o.length:Int)/\(o.length:Int)<=(ZC:Int)))=some ():=by rw[Ze (by simp [ZC];omega)];rfl
 rw[show ZF _=some () from g];simp only[Za,Vq]
 refine Xk (fun st=>∃(r:List Int) (i:Nat),st=(r,(i:Int))/\r.length=n/\i<=n/\ ∀j,j<i->r[j]? =some (KI Ed s j)) (fun st=>n - st.2.toNat)
  (fun r=>r.length=n/\ ∀j,j<n->r[j]? =some (KI Ed s j)) ⟨_,0,rfl,by grind,Vo _,by omega⟩ ?_ ?_
 ·rintro st ⟨r,i,rfl,t,v,p⟩;by_cases d:i<n
  ·have a:i<o.length:=by omega
   have b:i<r.length:=by omega
   have f:Va .i64 ((i:Int)+1)=((i+1:Nat):Int):=by rw[Zx (by omega) (by omega)];omega
   simp only[show decide ((i:Int)<(o.length:Int))=true from (by grind),Zd,ZA a,Kg b,Za,Vd b,f];refine⟨_,rfl,⟨_,i+1,rfl,by grind,d,fun j q=>?_⟩,by omega⟩;by_cases e:j=i
   ·subst e
    have:(o[j]).2.1=KI Ed s j:=by
     rcases k j _ (Vd a) with ⟨c,_⟩|⟨c,l⟩
     ·exact(RW c).symm
     ·rw[l,ZpW c]
    grind
   grind
  ·have m:i=n:=by omega
   simp_all
 ·rintro r ⟨t,p⟩;refine⟨_,rfl,?_⟩;apply Vxa
  grind
theorem Zpf{n:Nat}(q:n<=64){E:List Ye}(k:EOk n E)(p:E.length<=4096):F190 (n:Int) E []=some 0:=by
 have key:∃z,F190 (n:Int) E []=some z/\z=0:=by
  unfold F190;simp only[show decide ((n:Int)<0)=false from (by rfl),Zc,Za,show decide ((64:Int)<(n:Int))=false from (by grind),show decide ((4096:Int)<(E.length:Int))=false from (by grind)];refine Xk (fun st=>∃i:Nat,st=(i:Int)/\i<=E.length) (fun st=>E.length - st.toNat) (fun r=>r=.inl ()) (by grind) ?_ ?_
  ·rintro st ⟨i,rfl,o⟩;by_cases g:i<E.length
   ·have j:Va .i64 ((i:Int)+1)=((i+1:Nat):Int):=by rw[Zx (by omega) (by omega)];omega
    obtain⟨a,b,c,d,e,f⟩:=k _ (Vf g)
    have h:∀x:Int,0<=x->x<(n:Int)->F191 x (n:Int)=some false:=fun x l m=>by
     unfold F191
     grind
    simp only[show decide ((i:Int)<(E.length:Int))=true from (by grind),Zd,ZA g,Za,h _ a b,h _ c d,Zc,show decide ((E[i]).2.2.1<0)=false from (by grind),
     show decide ((1073741824:Int)<(E[i]).2.2.1)=false from (by grind),j]
    grind
   simp [*]
  ·rintro r rfl;simp only[Vl];refine Xk (fun st=>st=(0:Int)) (fun _=>0) (fun r=>r=.inl ()) rfl ?_ ?_
   all_goals simp
 grind
theorem ZnN{n:Nat}(g:n<=64){E:List Ye}(h:EOk n E)(d:E.length<=4096):∃z,F189 (n:Int) E=some z/\z=(Yb (EdL E) n,0):=by
 unfold F189;obtain⟨m,e,f⟩:=ZrF E d;have t:=ZnF h d f;rw[Zpf g h d];simp only[Za,decide_true,Vc,Zc,e]
 have l:ZF (decide ((0:Int)<=(n:Int)/\(n:Int)<=(n:Int)/\(n:Int)<=(ZC:Int)))=some ():=by rw[Ze (by simp [ZC];omega)];rfl
 rw[show ZF _=some () from l];simp only[Za,Voa,Vq]
 refine Xk (fun st=>∃(r:List (List Int)) (i:Nat),st=(m,r,(i:Int))/\r.length=n/\i<=n/\ ∀j,j<i->r[j]? =(Yb (EdL E) n)[j]?) (fun st=>n - st.2.2.toNat)
  (fun r=>r.length=n/\ ∀j,j<n->r[j]? =(Yb (EdL E) n)[j]?) ⟨_,0,rfl,by simp,Vo _,by omega⟩ ?_ ?_
 ·rintro st ⟨r,i,rfl,y,A,v⟩;by_cases a:i<n
  ·have b:i<r.length:=by omega
   have k:Va .i64 ((i:Int)+1)=((i+1:Nat):Int):=by rw[Zx (by omega) (by omega)];omega
   obtain⟨⟨B,o⟩,p,rfl,q⟩:=Zq6 g t a;obtain⟨_,s,rfl⟩:=Zrm g q;simp only[show decide ((i:Int)<(n:Int))=true from (by grind),Zd,p,Za,s,Kg b,Vd b,k];refine⟨_,rfl,⟨_,i+1,rfl,by grind,a,fun j w=>?_⟩,by grind⟩;by_cases c:j=i
   ·subst c;rw[ZkD a];grind
   grind
  ·have u:i=n:=by omega
   simp_all
 ·rintro r ⟨y,v⟩;refine⟨_,rfl,?_⟩;congr 1;apply Vxa;intro j;by_cases x:j<n
  ·grind
  ·rw[Vpa (by omega),Vpa (by simp [Yb];omega)]
end Q
namespace Q
open Tr Go Gr
theorem Hb.uniq{σ τ ρ:Type}{cnt:σ->Nat}{step:σ->Nat->Option (σ ⊕ τ)}{k:τ->Option ρ}(a:∀s,0<cnt s){z i:ρ} :∀{n g:Nat}{s:σ},Hb cnt step k z n s->Hb cnt step k i g s->z=i
 |0,_,_,h,_=>h.elim
 |_+1,0,_,_,h=>h.elim
 |n+1,g+1,s,h,c=>by
  rcases h 0 (a s) with ⟨l,d,e⟩|⟨t,d,e⟩
  ·rcases c 0 (a s) with ⟨j,b,f⟩|⟨t,b,_⟩
   ·rw[d]at b;simp only[Option.some.injEq,Sum.inl.injEq]at b;subst b;exact Hb.uniq a e f
   grind
  ·rcases c 0 (a s) with ⟨j,b,_⟩|⟨m,b,f⟩
   all_goals grind
theorem Zp3{σ τ ρ:Type}{cnt:σ->Nat}{step:σ->Nat->Option (σ ⊕ τ)}{k:τ->Option ρ}{s:σ}{z:ρ}{P:ρ->Prop}(n:Nat)(a:∀s,0<cnt s)(h:Hb cnt step k z n s)(d:P z):∃z,Tr.drun cnt step k s=some z/\P z:=by
 refine⟨z,?_,d⟩
 have b:∃r,Tr.drun cnt step k s=some r:=by
  unfold Tr.drun;split
  ·simp
  ·rw[dif_pos ⟨z,n,h⟩];simp
 obtain⟨r,c⟩:=b;obtain⟨m,e⟩:=Zjk c;rw[c,Hb.uniq a e h]
theorem Zkm{Ed c:Nat->Nat->Int->Prop}(j:∀u v w,Ed u v w->∃w',c u v w' /\w' <=w)(g:∀u v w,c u v w->∃w',Ed u v w' /\w' <=w){s v:Nat}{d:Int} :Least Ed s v d->Least c s v d:=by
 rintro ⟨a,b⟩;obtain⟨h,f,l⟩:=Wk.dom j a;obtain⟨i,c3,m⟩:=Wk.dom g f;have:=b i c3;have:h=d:=by omega
 subst this;refine⟨f,fun e k=>?_⟩;obtain⟨q,o,p⟩:=Wk.dom g k
 grind
theorem ZrA{Ed a:Nat->Nat->Int->Prop}(c:∀u v w,Ed u v w->∃w',a u v w' /\w' <=w)(e:∀u v w,a u v w->∃w',Ed u v w' /\w' <=w)(n:Nat):Yb Ed n=Yb a n:=by
 have:∀i j,KI Ed i j=KI a i j:=by
  intro i j;by_cases h:∃d,Least Ed i j d
  ·obtain⟨d,b⟩:=h;rw[RW b,RW (Zkm c e b)]
  ·have f:¬∃d,Least a i j d:=fun⟨d,b⟩=>h ⟨d,Zkm e c b⟩;unfold KI
   grind
 unfold Yb
 simp_all
abbrev Kj:=Int×Int×Int×Bool×Unit
abbrev Pr:=Int×Int×Bool×Unit
abbrev Yj:Ty:=.prod (.int .i64) (.prod (.int .i64) (.prod .bool .unit))
def G2(n:Nat)(l:List Kj):Prop:= ∀p∈l,0<=p.1/\p.1<n/\0<=p.2.1/\p.2.1<n/\1<=p.2.2.1/\p.2.2.1<=14400
def Hn(free:Bool)(p:Kj):Prop:=free=true->p.2.2.2.1=true
def Ki(l:List Kj)(free:Bool)(u v:Nat)(w:Int):Prop:= ∃p∈l,Hn free p/\p.1=(u:Int)/\p.2.1=(v:Int)/\p.2.2.1=w
def ZdC(e:Pr×Int):Ye:=(e.1.1,e.1.2.1,e.2,())
theorem Zis{α β:Type}(eq:α->α->Bool)(k:α)(v:β):∀l:List (α×β),(Z0 eq k v l).length<=l.length+1
 |[]=>by simp [Z0]
 |e::l=>by
  simp only[Z0]
  cases eq k e.1 with
  |true=>simp
  |false=>simp only[Zc,Vya];have:=Zis eq k v l;omega
structure J8 (free:Bool) (l:List Kj) (b:List (Pr×Int)):Prop where
 nodup:(b.map Prod.fst).Nodup
 len:b.length<=l.length
 snd:∀e∈b,∃p∈l,Hn free p/\e.1=(p.1,p.2.1,false,())/\e.2=p.2.2.1
 all:∀p∈l,Hn free p->∃w,ZJ (Zl Yj) (p.1,p.2.1,false,()) b=some w/\w<=p.2.2.1
theorem J8.more{free:Bool}{l:List Kj}{b a:List (Pr×Int)}{p:Kj}(h:J8 free l b)(f:(a.map Prod.fst).Nodup)(o:a.length<=b.length+1)(g:∀e∈a,e∈b\/(Hn free p/\e.1=(p.1,p.2.1,false,())/\e.2=p.2.2.1))
 (r:∀k w,ZJ (Zl Yj) k b=some w->∃w',ZJ (Zl Yj) k a=some w' /\w' <=w) (s:Hn free p->∃w,ZJ (Zl Yj) (p.1,p.2.1,false,()) a=some w/\w<=p.2.2.1):J8 free (l++[p]) a where
 nodup:=f
 len:=by have:=h.len;grind
 snd:=fun e j=>by
  rcases g e j with c|c
  ·obtain⟨q,d,i⟩:=h.snd e c
   grind
  grind
 all:=fun q d m=>by
  rcases Veb.1 d with c|c
  ·obtain⟨w,i,t⟩:=h.all q c m
   grind
  grind
theorem Zjp{α:Type} :∀{l:List α}{i:Nat} (h:i<l.length),(l[i]::l.eraseIdx i).Perm l
 |[],i,h=>by grind
 |x::l,0,_=>.refl _
 |x::l,i+1,h=>by
  have a:i<l.length:=by grind
  simp only[List.getElem_cons_succ,List.eraseIdx_cons_succ];exact(List.Perm.swap _ _ _).trans (List.Perm.cons _ (Zjp a))
theorem Zji{n:Nat}(hn:n<=64){l:List Kj}(hF:G2 n l)(hl:l.length<=4096)(free:Bool):∃z,F59 l (n:Int) free=some z/\z=Yb (Ki l free) n:=by
 unfold F59
 refine Xk (fun st=>∃(b:List (Pr×Int)) (i:Nat),st=(b,(i:Int))/\i<=l.length/\J8 free (l.take i) b) (fun st=>l.length - st.2.toNat)
  (fun b=>J8 free l b) ⟨[],0,rfl,Vo _,⟨by simp,by simp,by simp,by simp⟩⟩ ?_ ?_
 ·rintro st ⟨b,i,rfl,F,j⟩;by_cases A:i<l.length
  ·have X:Va .i64 ((i:Int)+1)=((i+1:Nat):Int):=by rw[Zx (by omega) (by omega)];omega
   simp only[show decide ((i:Int)<(l.length:Int))=true from (by grind),Zd,ZA A,Za,X];have o:l.take (i+1)=l.take i++[l[i]]:=Vr A
   have stay:(Hn free l[i]->∃w,ZJ (Zl Yj) ((l[i]).1,(l[i]).2.1,false,()) b=some w/\w<=(l[i]).2.2.1)->J8 free (l.take (i+1)) b:=fun K=>by rw[o];exact j.more j.nodup (by omega) (by grind) (by grind) K
   have put:Hn free l[i]->(∀w,ZJ (Zl Yj) ((l[i]).1,(l[i]).2.1,false,()) b=some w->(l[i]).2.2.1<=w)->J8 free (l.take (i+1)) (Z0 (Zl Yj) ((l[i]).1,(l[i]).2.1,false,()) (l[i]).2.2.1 b):=fun B hw=>by
    rw[o];refine j.more (Zfv (t:=Yj) (β:=Int) rfl j.nodup) (Zis _ _ _ _) (fun e E=>?_) (fun k w h=>?_) fun _=>⟨(l[i]).2.2.1,by rw[GL rfl,Zo rfl],Vea _⟩
    ·obtain⟨k',x⟩:=e;rcases Zd3 (t:=Yj) rfl j.nodup E with ⟨rfl,rfl⟩|⟨_,h6⟩
     all_goals grind
    ·rw[GL rfl]
     grind
   have U:Zl XZ=Zl Yj:=rfl
   have rest:Hn free l[i]->∃z,(Vb
         (bif !Vga (ZJ (Zl Yj) ((l[i]).1,(l[i]).2.1,false,()) b) then some true
         else some (decide ((l[i]).2.2.1<Ve (ZJ (Zl Yj) ((l[i]).1,(l[i]).2.1,false,()) b) (0:Int))))
         fun x3=>
         bif x3 then some (Sum.inl (Z0 (Zl Yj) ((l[i]).1,(l[i]).2.1,false,()) (l[i]).2.2.1 b,((i+1:Nat):Int)))
         else some (Sum.inl (b,((i+1:Nat):Int))))=some (z:(List (Pr×Int) ×Int) ⊕ List (Pr×Int))/\
         Vka (fun W=>(∃(b:List (Pr×Int)) (i:Nat),W=(b,(i:Int))/\i<=l.length/\J8 free (l.take i) b)/\l.length - W.2.toNat<l.length - ((i:Nat):Int).toNat) (fun b=>J8 free l b) z:=by
    intro B
    cases hg:ZJ (Zl Yj) ((l[i]).1,(l[i]).2.1,false,()) b with
    |none=>
     simp only[Option.isSome_none,Vn,Zd,Za]
     grind
    |some w=>
     simp only[Option.isSome_some,Vc,Zc,Option.getD_some,Za];by_cases a1:(l[i]).2.2.1<w
     ·simp only[show decide ((l[i]).2.2.1<w)=true from (by grind),Zd]
      grind
     ·simp only[show decide ((l[i]).2.2.1<w)=false from (by grind),Zc]
      grind
   cases m:free with
   |false=>
    simp only[Zc,Za];have:=rest (fun h=>by grind)
    grind
   |true=>
    simp only[Zd,Za]
    cases O:(l[i]).2.2.2.1 with
    |true=>
     simp only[Vc,Zc];have:=rest (fun _=>O)
     grind
    |false=>
     simp only[Vn,Zd];refine⟨_,rfl,⟨b,i+1,rfl,A,?_⟩,by omega⟩;rw[<-m];exact stay fun B=>by have:=B m;grind
  ·have a0:i=l.length:=by omega
   simp_all
 ·intro b j
  have Y:ZF (decide ((0:Int)<=(0:Int)/\(0:Int)<=(b.length:Int)/\(b.length:Int)<=(ZC:Int)))=some ():=by have:=j.len;rw[Ze (by simp [ZC];omega)];rfl
  rw[show ZF _=some () from Y];simp only[Za]
  have T:∀es:List Ye,es.Perm (b.map ZdC)->F189 (n:Int) es=some (Yb (Ki l free) n,0):=by
   intro es y;have G:es.length<=4096:=by have:=y.length_eq;have:=j.len;grind
   have N:EOk n es:=fun e E=>by
    obtain⟨x,P,rfl⟩:=Vwa.1 (y.mem_iff.1 E);obtain⟨p,g,_,J,M⟩:=j.snd x P;obtain⟨a,b',c,d,e,f⟩:=hF p g;have Z:x.1.1=p.1/\x.1.2.1=p.2.1:=by grind
    show 0<=x.1.1/\x.1.1<n/\0<=x.1.2.1/\x.1.2.1<n/\0<=x.2/\x.2<=1073741824;omega
   obtain⟨z,hz,rfl⟩:=ZnN hn N G;rw[hz];congr 2;refine ZrA (fun u v w ⟨e,E,J,M,h3⟩=>?_) (fun u v w ⟨p,g,B,J,M,h3⟩=>?_) n
   ·obtain⟨x,P,rfl⟩:=Vwa.1 (y.mem_iff.1 E);obtain⟨p,g,B,S,K⟩:=j.snd x P;have D:x.1.1=p.1/\x.1.2.1=p.2.1:=by grind
    refine⟨w,⟨p,g,B,?_,?_,?_⟩,Vea _⟩
    ·rw[<-D.1];assumption
    ·rw[<-D.2];assumption
    ·rw[<-K];assumption
   ·obtain⟨w',S,K⟩:=j.all p g B;have H:=Zde (t:=Yj) rfl S;refine⟨w',⟨_,y.mem_iff.2 (Vwa.2 ⟨_,H,rfl⟩),J,M,rfl⟩,by omega⟩
  refine Zp3 (z:=Yb (Ki l free) n) (b.length+1) (fun s=>?_) ?_ rfl
  ·grind
  ·have key:∀(r:Nat) (es:List Ye) (rest:List (Pr×Int)),rest.length=r->(es++rest.map ZdC).Perm (b.map ZdC)->
    Hb (fun q:List Ye×List (Pr×Int)=>bif Vkb q.snd then(1:Nat) else Vg q.snd)
     (fun q V=>bif Vkb q.snd then some (Sum.inr q.fst)
       else Vb q.snd[V]? fun C=>
        Vb (ZF (decide (Vg q.fst+Vg [((C.fst.fst,C.fst.snd.fst,C.snd,()):Ye)]<=ZC))) fun _=>
         some (Sum.inl (q.fst++[(C.fst.fst,C.fst.snd.fst,C.snd,())],List.eraseIdx q.snd V)))
     (fun Q=>Vb (F189 (n:Int) Q) fun R=>some R.fst) (Yb (Ki l free) n) (r+1) (es,rest):=by
    intro r
    induction r with
    |zero=>
     intro es rest hr y i F
     grind
    |succ r ih=>
     intro es rest hr y i F;have I:rest.isEmpty=false:=by grind
     simp only[I,Zc]at F;left;have g:=y.length_eq;have:=j.len;simp only[Vs,Vfb]at g
     have L:ZF (decide (es.length+ [(((rest[i]).1.1,(rest[i]).1.2.1,(rest[i]).2,()):Ye)].length<=ZC))=some ():=by rw[Ze (by simp [ZC];omega)];rfl
     refine⟨(es++[ZdC rest[i]],rest.eraseIdx i),?_,ih _ _ (by grind) ?_⟩
     ·simp only[I,Zc,Vd F,Za];rw[show ZF _=some () from L];rfl
     ·refine List.Perm.trans ?_ y;have J:(rest[i]::rest.eraseIdx i).Perm rest:=Zjp F
      grind
   grind
end Q
namespace Q
open Tr Go Gr
def Jn:Int:=1099511627776
def gm(m:List (List Int))(i j:Nat):Int:=(((m[i]?).getD [])[j]?).getD 0
def HA(n:Nat)(m:List (List Int)):Prop:=m.length=n/\ ∀(i:Nat) (r:List Int),m[i]? =some r->r.length=n
def upd(m:List (List Int))(i j:Nat)(v:Int):List (List Int):=m.set i (((m[i]?).getD []).set j v)
theorem HA.row{n:Nat}{m:List (List Int)}(h:HA n m){i:Nat}(a:i<n):∃r,m[i]? =some r/\r.length=n:=by
 have:i<m.length:=by rw[h.1];omega
 exact⟨m[i],by simp,h.2 i _ (by simp)⟩
theorem HA.upd{n:Nat}{m:List (List Int)}(h:HA n m){i:Nat}(c:i<n)(j:Nat)(v:Int):HA n (upd m i j v):=by
 obtain⟨r,e,f⟩:=h.row c;refine⟨by simp [Q.upd];exact h.1,fun k d a=>?_⟩;unfold Q.upd at a;by_cases b:i=k
 ·grind
 ·rw[Vba b]at a;exact h.2 k d a
theorem Zb4{n:Nat}{m:List (List Int)}(h:HA n m){i j:Nat}(c:i<n)(f:j<n)(v:Int)(a b:Nat):gm (upd m i j v) a b=if a=i/\b=j then v else gm m a b:=by
 obtain⟨r,d,e⟩:=h.row c;unfold gm upd
 grind
theorem Zbe{n:Nat}{m:List (List Int)}(h:HA n m){i j:Nat}(_hi:i<n)(c:j<n){r:List Int}(a:m[i]? =some r):r[j]? =some (gm m i j):=by
 have b:=h.2 i r a;unfold gm
 grind
structure XF (Ed:Nat->Nat->Int->Prop) (n k:Nat) (m:List (List Int)):Prop where
 shp:HA n m
 snd:∀i j,i<n->j<n->gm m i j=Jn\/(gm m i j<=Jn/\Wb Ed n i j (gm m i j))
 all:∀i j d,i<n->j<n->Wb Ed k i j d->gm m i j<=d
theorem XF.bnd{Ed:Nat->Nat->Int->Prop}(e:∀u v w,Ed u v w->0<=w){n k:Nat}{m:List (List Int)}(h:XF Ed n k m){i j:Nat}(c:i<n)(d:j<n):0<=gm m i j/\gm m i j<=Jn:=by
 rcases h.snd i j c d with a|⟨a,b⟩
 ·rw[a];unfold Jn;omega
 ·exact⟨b.nonneg e,a⟩
theorem XF.step{Ed:Nat->Nat->Int->Prop}(p:∀u v w,Ed u v w->0<=w){n k:Nat}{m:List (List Int)}(h:XF Ed n k m){i j:Nat}(c:i<n)(e:j<n)(f:k<n):
 XF Ed n k (upd m i j (min (gm m i j) (gm m i k+gm m k j)))/\(∀d,Wb Ed (k+1) i j d->min (gm m i j) (gm m i k+gm m k j)<=d)/\min (gm m i j) (gm m i k+gm m k j)<=gm m i j:=by
 have B:=h.bnd p c e;have C:=h.bnd p c f;have D:=h.bnd p f e;refine⟨⟨h.shp.upd c j _,fun a b q r=>?_,fun a b d q r s=>?_⟩,fun d s=>?_,Int.min_le_left _ _⟩
 ·rw[Zb4 h.shp c e];by_cases l:a=i/\b=j
  ·obtain⟨rfl,rfl⟩:=l;rw[Zo ⟨rfl,rfl⟩];by_cases t:gm m a b<=gm m a k+gm m k b
   ·rw[Int.min_eq_left t];exact h.snd a b c e
   ·rw[Vab (by omega)];right;refine⟨by omega,?_⟩;rcases h.snd a k c f with o|⟨_,o⟩
    ·omega
    ·rcases h.snd k b f e with g|⟨_,g⟩
     ·omega
     ·exact o.app f g
  ·rw[Zg l];exact h.snd a b q r
 ·rw[Zb4 h.shp c e];have:=h.all a b d q r s
  grind
 ·rcases s.round p with ⟨x,o,g⟩|⟨y,z,o,g,A⟩
  ·have:=h.all i j x c e g;omega
  ·have:=h.all i k y c f g;have:=h.all k j z f e A;omega
structure Ym (Ed:Nat->Nat->Int->Prop) (n k a b:Nat) (m:List (List Int)):Prop where
 ent:XF Ed n k m
 done:∀i j d,i<n->j<n->(i<a\/i=a/\j<b)->Wb Ed (k+1) i j d->gm m i j<=d
theorem Ym.step{Ed:Nat->Nat->Int->Prop}(r:∀u v w,Ed u v w->0<=w){n k a b:Nat}{m:List (List Int)}(h:Ym Ed n k a b m)(e:a<n)(f:b<n)(q:k<n):Ym Ed n k a (b+1) (upd m a b (min (gm m a b) (gm m a k+gm m k b))):=by
 obtain⟨g,s,t⟩:=h.ent.step r e f q;refine⟨g,fun i j d o p x l=>?_⟩;rw[Zb4 h.ent.shp e f];by_cases c:i=a/\j=b
 ·grind
 ·rw[Zg c];exact h.done i j d o p (by omega) l
theorem Ym.next{Ed:Nat->Nat->Int->Prop}{n k a:Nat}{m:List (List Int)}(h:Ym Ed n k a n m):Ym Ed n k (a+1) 0 m:=
 ⟨h.ent,fun i j d c e f b=>h.done i j d c e (by omega) b⟩
theorem Ym.fin{Ed:Nat->Nat->Int->Prop}{n k:Nat}{m:List (List Int)}(h:Ym Ed n k n 0 m):XF Ed n (k+1) m:=
 ⟨h.ent.shp,h.ent.snd,fun i j d a c b=>h.done i j d a c (.inl a) b⟩
theorem Ym.start{Ed:Nat->Nat->Int->Prop}{n k:Nat}{m:List (List Int)}(h:XF Ed n k m):Ym Ed n k 0 0 m:=
 ⟨h,by omega⟩
theorem ZjV(a b:Int):Tr.imin a b=min a b:=by unfold Tr.imin;omega
theorem Zma{n:Nat}(hn:n<=64){l:List Kj}(hF:G2 n l)(hl:l.length<=4096)(free:Bool):∃z,F119 l (n:Int) free=some z/\XF (Ki l free) n n z:=by
 have R:∀u v w,Ki l free u v w->0<=w:=fun u v w ⟨p,F,_,_,_,h⟩=>by have:=hF p F;omega
 unfold F119
 refine Xk (fun st=>∃i:Nat,st=(Vh i (Vh n Jn),(i:Int))/\i<=n) (fun st=>n - st.2.toNat)
  (fun r=>r=Vh n (Vh n Jn)) (by grind) ?_ ?_
 ·rintro st ⟨i,rfl,hi⟩;by_cases c:i<n
  ·have K:Va .i64 ((i:Int)+1)=((i+1:Nat):Int):=by rw[Zx (by omega) (by omega)];omega
   simp only[show decide ((i:Int)<(n:Int))=true from (by grind),Zd,K]
   refine Xk (fun st=>∃j:Nat,st=(Vh i (Vh n Jn),Vh j Jn,(j:Int))/\j<=n) (fun st=>n - st.2.2.toNat)
    (fun r=>r=(Vh i (Vh n Jn),Vh n Jn)) (by grind) ?_ ?_
   ·rintro st ⟨j,rfl,hj⟩;by_cases a4:j<n
    ·have U:Va .i64 ((j:Int)+1)=((j+1:Nat):Int):=by rw[Zx (by omega) (by omega)];omega
     simp only[show decide ((j:Int)<(n:Int))=true from (by grind),Zd,U];rw[GU (by grind)];simp only[Za];refine⟨_,rfl,⟨j+1,?_,a4⟩,by grind⟩;rw[Vra];rfl
    ·have:j=n:=by omega
     simp_all
   ·rintro r rfl;simp only;rw[GU (by grind)];simp only[Za];refine⟨_,rfl,⟨i+1,?_,c⟩,by omega⟩;rw[Vra]
  ·have:i=n:=by omega
   simp_all
 ·rintro r rfl;have W:HA n (Vh n (Vh n Jn)):=⟨by simp,by grind⟩
  have c1:∀i j,i<n->j<n->gm (Vh n (Vh n Jn)) i j=Jn:=fun i j hi hj=>by unfold gm;grind
  refine Xk (fun st=>∃(m:List (List Int)) (i:Nat),st=(m,(i:Int))/\i<=l.length/\HA n m/\(∀a b,a<n->b<n->gm m a b=Jn\/(gm m a b<=Jn/\Wb (Ki l free) n a b (gm m a b)))/\
   ∀p∈l.take i,Hn free p->gm m p.1.toNat p.2.1.toNat<=p.2.2.1) (fun st=>l.length - st.2.toNat)
   (fun m=>XF (Ki l free) n 0 m) ⟨_,0,rfl,Vo _,W,by grind,by simp⟩ ?_ ?_
  ·rintro st ⟨m,i,rfl,hi,o,B,s⟩;by_cases c:i<l.length
   ·have K:Va .i64 ((i:Int)+1)=((i+1:Nat):Int):=by rw[Zx (by omega) (by omega)];omega
    obtain⟨p1,p2,p3,p4,p5,p6⟩:=hF _ (Vf c);have H:l.take (i+1)=l.take i++[l[i]]:=Vr c;obtain⟨u,hu⟩:∃u:Nat,(l[i]).1=(u:Int):=by grind
    obtain⟨v,hv⟩:∃v:Nat,(l[i]).2.1=(v:Int):=by grind
    have y:u<n:=by omega
    have I:v<n:=by omega
    obtain⟨row,x,c4⟩:=o.row y;have D:=Zbe o y I x;have a8:u<m.length:=by grind
    simp only[show decide ((i:Int)<(l.length:Int))=true from (by grind),Zd,K,ZA c,Za]
    have stay:¬Hn free l[i]->∃z,some (Sum.inl (m,((i+1:Nat):Int)):(List (List Int) ×Int) ⊕ List (List Int))=some z/\Vka (fun O:List (List Int) ×Int=>(∃(m:List (List Int)) (i:Nat),O=(m,(i:Int))/\i<=l.length/\HA n m/\(∀a b,a<n->b<n->gm m a b=Jn\/(gm m a b<=Jn/\Wb (Ki l free) n a b (gm m a b)))/\
     ∀p∈l.take i,Hn free p->gm m p.1.toNat p.2.1.toNat<=p.2.2.1)/\l.length - O.2.toNat<l.length - ((i:Nat):Int).toNat) (fun m=>XF (Ki l free) n 0 m) z:=fun A=>by
     refine⟨_,rfl,⟨m,i+1,rfl,c,o,B,fun p F M=>?_⟩,by omega⟩
     grind
    have put:Hn free l[i]->∀b:Bool,b=true->∃z,(bif b then
             Vb (Zn (u:Int) (Vg m)) fun T=>
              Vb m[T]? fun _=>
               Vb (Zn (u:Int) (Vg m)) fun J=>
                Vb m[J]? fun _=>
                 Vb (idx m (J:Int)) fun b0=>
                  Vb (Zn (v:Int) (Vg b0)) fun b4=>
                   Vb (idx m (J:Int)) fun b5=>
                    Vb b5[b4]? fun b6=>
                     Vb (idx m (T:Int)) fun b7=>
                      Vb (Zn (v:Int) (Vg b7)) fun P=>
                       Vb (idx m (T:Int)) fun Q=>
                        Vb Q[P]? fun _=>
                         some
                          (Sum.inl (Vi m (Int.toNat (T:Int)) (Vi Q P (Tr.imin b6 (l[i]).2.2.1)),((i+1:Nat):Int)))
          else some (Sum.inl (m,((i+1:Nat):Int))))=some (z:(List (List Int) ×Int) ⊕ List (List Int))/\Vka (fun O:List (List Int) ×Int=>(∃(m:List (List Int)) (i:Nat),O=(m,(i:Int))/\i<=l.length/\HA n m/\(∀a b,a<n->b<n->gm m a b=Jn\/(gm m a b<=Jn/\Wb (Ki l free) n a b (gm m a b)))/\
     ∀p∈l.take i,Hn free p->gm m p.1.toNat p.2.1.toNat<=p.2.2.1)/\l.length - O.2.toNat<l.length - ((i:Nat):Int).toNat) (fun m=>XF (Ki l free) n 0 m) z:=by
     rintro A b rfl;have a9:v<row.length:=by omega
     have L:idx m (u:Int)=some row:=by assumption
     simp only[Zd,Kg a8,Za,x,L,Kg a9,D,Vq]
     have t:Vi m u (Vi row v (Tr.imin (gm m u v) (l[i]).2.2.1))=upd m u v (min (gm m u v) (l[i]).2.2.1):=by unfold upd;rw[x,ZjV];rfl
     rw[t];have a1:Ki l free u v (l[i]).2.2.1:=⟨_,Vf c,A,hu,hv,rfl⟩;refine⟨_,rfl,⟨_,i+1,rfl,c,o.upd y v _,fun a b ha hb=>?_,fun p F M=>?_⟩,by omega⟩
     ·rw[Zb4 o y I];by_cases X:a=u/\b=v
      ·obtain⟨rfl,rfl⟩:=X;rw[Zo ⟨rfl,rfl⟩];by_cases c2:gm m a b<=(l[i]).2.2.1
       ·grind
       ·rw[Vab (by omega)];exact .inr ⟨by grind,.one a1⟩
      grind
     ·rw[Zb4 o y I];rw[H]at F;rcases Veb.1 F with h|h
      ·have:=s p h M
       grind
      ·simp at h;grind
    simp only[hu,hv]
    cases a7:(l[i]).2.2.2.1 with
    |true=>
     simp only[Zd,Za]
     exact put (fun _=>a7) true rfl
    |false=>
     simp only[Zc,Za]
     cases E:free with
     |false=>
      have:=put (fun h=>by grind) true rfl;rw[E]at this
      grind
     |true=>
      have:=stay (fun h=>by have:=h E;grind);rw[E]at this
      grind
   ·have:i=l.length:=by omega
    subst this;simp only[show decide ((l.length:Int)<(l.length:Int))=false from (by simp),Zc];rw[Vza]at s;refine⟨_,rfl,o,B,fun a b d ha hb hd=>?_⟩
    cases hd with
    |one e=>
     obtain⟨p,F,A,h1,h2,rfl⟩:=e;have:=s p F A
     simp_all
    |cons e A _=>omega
  ·intro m V;refine Xk (fun st=>∃(m:List (List Int)) (k:Nat),st=(m,(k:Int))/\k<=n/\XF (Ki l free) n k m) (fun st=>n - st.2.toNat) (fun m=>XF (Ki l free) n n m) ⟨m,0,rfl,Vo _,V⟩ ?_ (by simp);rintro st ⟨m,k,rfl,hk,V⟩;by_cases g:k<n
   ·have K:Va .i64 ((k:Int)+1)=((k+1:Nat):Int):=by rw[Zx (by omega) (by omega)];omega
    simp only[show decide ((k:Int)<(n:Int))=true from (by grind),Zd,K];refine Xk (fun st=>∃(m:List (List Int)) (a:Nat),st=(m,(a:Int))/\a<=n/\Ym (Ki l free) n k a 0 m) (fun st=>n - st.2.toNat) (fun m=>Ym (Ki l free) n k n 0 m) ⟨m,0,rfl,Vo _,Ym.start V⟩ ?_ (fun m A=>⟨_,rfl,⟨m,k+1,rfl,g,A.fin⟩,by omega⟩);rintro st ⟨m,a,rfl,ha,C⟩;by_cases f:a<n
    ·have U:Va .i64 ((a:Int)+1)=((a+1:Nat):Int):=by rw[Zx (by omega) (by omega)];omega
     simp only[show decide ((a:Int)<(n:Int))=true from (by grind),Zd,U]
     refine Xk (fun st=>∃(m:List (List Int)) (b:Nat),st=(m,(b:Int))/\b<=n/\Ym (Ki l free) n k a b m) (fun st=>n - st.2.toNat) (fun m=>Ym (Ki l free) n k a n m) ⟨m,0,rfl,Vo _,C⟩ ?_ (fun m A=>⟨_,rfl,⟨m,a+1,rfl,f,A.next⟩,by omega⟩)
     rintro st ⟨m,b,rfl,hb,C⟩;by_cases q:b<n
     ·have e3:Va .i64 ((b:Int)+1)=((b+1:Nat):Int):=by rw[Zx (by omega) (by omega)];omega
      have o:=C.ent.shp;obtain⟨S,G,b8⟩:=o.row f;obtain⟨rk,N,b9⟩:=o.row g;have Y:a<m.length:=by grind
      have a6:k<m.length:=by grind
      have a2:idx m (a:Int)=some S:=by assumption
      have a3:idx m (k:Int)=some rk:=by assumption
      have Z:b<S.length:=by omega
      have a0:b<rk.length:=by omega
      have a5:k<S.length:=by omega
      have b1:=C.ent.bnd R f q;have b2:=C.ent.bnd R f g;have b3:=C.ent.bnd R g q;have e4:Va .i64 (gm m a k+gm m k b)=gm m a k+gm m k b:=Zx (by omega) (by unfold Jn at*;omega);simp only[show decide ((b:Int)<(n:Int))=true from (by grind),Zd,e3,Kg Y,Kg a6,Za,G,N,a2,a3,Kg Z,Kg a0,Kg a5,Zbe o f q G,Zbe o f g G,Zbe o g q N,e4,Vq,ZjV]
      have t:Vi m a (Vi S b (min (gm m a b) (gm m a k+gm m k b)))=upd m a b (min (gm m a b) (gm m a k+gm m k b)):=by unfold upd;grind
      rw[t];exact⟨_,rfl,⟨_,b+1,rfl,q,C.step R f q g⟩,by omega⟩
     ·have:b=n:=by omega
      simp_all
    ·have:a=n:=by omega
     simp_all
   ·have:k=n:=by omega
    simp_all
end Q
namespace Q
open Tr Go
abbrev Jz:=Int×Int×Int×Bool×Unit
def HL(a b:Jz):Prop:=a.1<b.1\/(a.1=b.1/\(a.2.1<b.2.1\/(a.2.1=b.2.1/\a.2.2.1<b.2.2.1)))
def HH(a b:Int):Int:=if a<b then -1 else if b<a then 1 else 0
theorem ZpG(a b:Int):F8 a b=some (HH a b):=by
 unfold F8 F10 HH
 grind
theorem ZrV(x y z:Int):F9 [x,y,z]=some (if x≠0 then x else if y≠0 then y else z):=by
 unfold F9;have h:Va .i64 (0+1:Int)=1:=by decide
 have i:Va .i64 (1+1:Int)=2:=by decide
 have j:Va .i64 (2+1:Int)=3:=by decide
 have e:idx [x,y,z] 0=some x:=rfl;have f:idx [x,y,z] 1=some y:=rfl;have g:idx [x,y,z] 2=some z:=rfl;have a:(([x,y,z]:List Int).length:Int)=3:=rfl;rw[ZcD];simp only[a,show decide ((0:Int)<3)=true from rfl,Zd,e,Za,h];by_cases b:x=0
 ·subst b;simp only[decide_true,Vc,Zc,Za,Vl];rw[ZcD];simp only[show decide ((1:Int)<3)=true from rfl,Zd,f,Za,i];by_cases c:y=0
  ·subst c;simp only[decide_true,Vc,Zc,Za,Vl];rw[ZcD];simp only[show decide ((2:Int)<3)=true from rfl,Zd,g,Za,j];by_cases d:z=0
   ·subst d;rfl
   grind
  grind
 grind
def c3(a b:Jz):Int:=if HH a.1 b.1≠0 then HH a.1 b.1 else if HH a.2.1 b.2.1≠0 then HH a.2.1 b.2.1 else HH a.2.2.1 b.2.2.1
theorem ZoX(a b:Jz):F58 a b=some (c3 a b):=by unfold F58;simp only[ZpG,Za];rw[show F9 [HH a.1 b.1,HH a.2.1 b.2.1,HH a.2.2.1 b.2.2.1]=_ from ZrV _ _ _];rfl
theorem ZoV(a b:Jz):c3 a b<0↔HL a b:=by unfold c3 HL HH;omega
theorem ZoW(a b:Jz):0<c3 a b↔HL b a:=by unfold c3 HL HH;omega
def Srt(l:List Jz):Prop:=l.Pairwise HL
theorem Ztt{l:List Jz}(h:Srt l)(d:l.length<16384):F200 l ()=some l:=by
 unfold F200;refine Tr.sortF_sorted HL l (by omega) (fun x _ y _=>⟨_,ZoX x y,ZoV x y,ZoW x y⟩) (fun x _=>?_) (fun a _ b _ c _=>?_) h
 ·unfold HL;omega
 ·unfold HL;omega
end Q
namespace Q
open Tr Go Gr
def Jt(a b:Nat)(d f:Int):List Jz:=
 (if 0<d/\d<=14400 then [((a:Int),(b:Int),d,decide (f=d),())] else [])++(if f=d then [] else if 0<f/\f<=14400 then [((a:Int),(b:Int),f,true,())] else [])
def Xv(a b:Nat)(e g:Int):List Jz:=
 if 14400<e then [] else((a:Int),(b:Int),e,decide (g=e),())::(if e<g/\g<=14400 then [((a:Int),(b:Int),g,true,())] else [])
def Rel(d e:Int):Prop:=(e=d/\1<=d)\/(e=Jn/\(d= -1\/Jn<=d))
theorem Zq1{a b:Nat}{d e f g:Int}(j:Rel d e)(k:Rel f g)(l:f= -1\/(d≠ -1/\d<=f)):Jt a b d f=Xv a b e g:=by
 unfold Rel Jn at*;unfold Jt Xv;by_cases c:0<d/\d<=14400
 ·have h:e=d:=by omega
  subst h;rw[Zo c,Zg (show¬(14400:Int)<e by omega)];by_cases i:f=e
  ·grind
  ·rw[Zg i];have m:¬g=e:=by omega
   grind
 ·rw[Zg c,Zo (show (14400:Int)<e by omega)]
  grind
theorem Zka(a b:Nat)(d f:Int):(Jt a b d f).length<=2:=by
 unfold Jt
 grind
theorem Zjc{a b:Nat}{d:Int}{s:Bool}{out:List Jz}(h:out.length<4294967295):F57 (a:Int) (b:Int) d s out=some (out++if 0<d/\d<=14400 then [((a:Int),(b:Int),d,s,())] else []):=by
 unfold F57;by_cases c:0<d
 ·by_cases e:d<=14400
  ·simp only[show decide ((0:Int)<d)=true from Ze c,Zd,Za,show decide (d<=(14400:Int))=true from Ze e];rw[GU (by grind),Zo ⟨c,e⟩];rfl
  grind
 grind
section
variable (it:Nat->Nat->List Jz) (n:Nat)
def Xz(a m:Nat):List Jz:=(Vt m).flatMap fun b=>if a=b then [] else it a b
def WJ(m:Nat):List Jz:=(Vt m).flatMap fun a=>Xz it a n
end
theorem Gu(it:Nat->Nat->List Jz)(a m:Nat):Xz it a (m+1)=Xz it a m++if a=m then [] else it a m:=by unfold Xz;rw[Vgb,Vua];simp
theorem ZbG(it:Nat->Nat->List Jz)(n m:Nat):WJ it n (m+1)=WJ it n m++Xz it m n:=by unfold WJ;rw[Vgb,Vua];simp
theorem Zeq{it:Nat->Nat->List Jz}(h:∀a b,(it a b).length<=2)(a:Nat):∀m,(Xz it a m).length<=2*m
 |0=>by simp [Xz]
 |m+1=>by
  rw[Gu,Vs];have:=Zeq h a m
  grind
theorem Zip{it:Nat->Nat->List Jz}(h:∀a b,(it a b).length<=2)(n:Nat):∀m,(WJ it n m).length<=2*n*m
 |0=>by simp [WJ]
 |m+1=>by
  rw[ZbG,Vs];have:=Zip h n m;have:=Zeq h m n
  grind
theorem Zdd{it:Nat->Nat->List Jz}(h:∀a b,(it a b).length<=2){n m:Nat}(f:n<=64)(e:m<=n):(WJ it n m).length<=8192:=by have c:=Zip h n m;have d:2*n*m<=2*64*64:=Nat.mul_le_mul (by omega) (by omega);omega
theorem ZnK{it c:Nat->Nat->List Jz}{n m:Nat}(g:m<=n)(h:∀a b,a<n->b<n->a≠b->it a b=c a b):WJ it n m=WJ c n m:=by
 induction m with
 |zero=>rfl
 |succ m e=>
  rw[ZbG,ZbG,e (by omega)];congr 1
  have:∀k,k<=n->Xz it m k=Xz c m k:=by
   intro k
   induction k with
   |zero=>intro _;rfl
   |succ k d=>
    intro f;rw[Gu,Gu,d (by omega)]
    grind
  grind
theorem ZnM{it:Nat->Nat->List Jz}{n m:Nat}(e:∀a b x,x∈it a b->x.1=(a:Int)/\x.2.1=(b:Int))(l:∀a b,(it a b).Pairwise fun x y=>x.2.2.1<y.2.2.1):Srt (WJ it n m):=by
 show (WJ it n m).Pairwise HL
 ·unfold WJ;rw[Vqa];refine⟨fun a _=>?_,?_⟩
  ·unfold Xz;rw[Vqa];refine⟨fun b _=>?_,?_⟩
   ·split
    ·simp
    ·refine List.Pairwise.imp_of_mem ?_ (l a b);intro x y c d q;obtain⟨g,h⟩:=e a b x c;obtain⟨i,j⟩:=e a b y d;unfold HL;omega
   ·refine List.Pairwise.imp ?_ Vla;intro b f p x c y d;split at c
    ·grind
    ·split at d
     ·grind
     ·obtain⟨g,h⟩:=e a b x c;obtain⟨i,j⟩:=e a f y d;unfold HL;omega
  ·refine List.Pairwise.imp ?_ Vla;intro a k o x c y d;unfold Xz at c d;obtain⟨b,_,c⟩:=Vbb.1 c;obtain⟨f,_,d⟩:=Vbb.1 d;split at c
   ·grind
   ·split at d
    ·grind
    ·obtain⟨g,h⟩:=e a b x c;obtain⟨i,j⟩:=e k f y d;unfold HL;omega
theorem ZqY{a b:Nat}{d f:Int}{x:Jz}(h:x∈Jt a b d f):x.1=(a:Int)/\x.2.1=(b:Int):=by
 unfold Jt at h
 grind
theorem ZfP{n:Nat}(m:n<=64){l:List Kj}(hF:G2 n l)(s:l.length<=4096)
 (q:∀a b,KI (Ki l true) a b= -1\/KI (Ki l false) a b<=KI (Ki l true) a b):
 F56 l (n:Int)=some (WJ (fun a b=>Jt a b (KI (Ki l false) a b) (KI (Ki l true) a b)) n n):=by
 have key:∃z,F56 l (n:Int)=some z/\z=WJ (fun a b=>Jt a b (KI (Ki l false) a b) (KI (Ki l true) a b)) n n:=by
  unfold F56;obtain⟨_,v,rfl⟩:=Zji m hF s false;obtain⟨_,w,rfl⟩:=Zji m hF s true;rw[v];simp only[Za];rw[w];simp only[Za];have i:∀Ed,(Yb Ed n).length=n:=fun Ed=>by simp [Yb]
  have c:∀a b:Nat,((fun a b=>Jt a b (KI (Ki l false) a b) (KI (Ki l true) a b)) a b).length<=2:=fun a b=>Zka _ _ _ _
  have k:∀Ed (a:Nat),a<n->idx (Yb Ed n) (a:Int)=some ((Vt n).map fun j=>KI Ed a j):=fun Ed a o=>by
   have h:=ZkD (Ed:=Ed) o
   assumption
  have f:∀Ed (a b:Nat),b<n->idx ((Vt n).map fun j=>KI Ed a j) (b:Int)=some (KI Ed a b):=fun Ed a b y=>by rw[ZA (by grind)];simp
  refine Xk (fun st=>∃a:Nat,st=(WJ (fun a b=>Jt a b (KI (Ki l false) a b) (KI (Ki l true) a b)) n a,(a:Int))/\a<=n) (fun st=>n - st.2.toNat)
   (fun r=>r=WJ (fun a b=>Jt a b (KI (Ki l false) a b) (KI (Ki l true) a b)) n n) ⟨0,rfl,Vo _⟩ ?_ ?_
  ·rintro st ⟨a,rfl,o⟩;by_cases p:a<n
   ·have t:Va .i64 ((a:Int)+1)=((a+1:Nat):Int):=by rw[Zx (by omega) (by omega)];omega
    simp only[i,show decide ((a:Int)<(n:Int))=true from (by grind),Zd,k _ a p,Za,t,Vfb,List.length_range]
    refine Xk (fun st=>∃b:Nat,st=(WJ (fun a b=>Jt a b (KI (Ki l false) a b) (KI (Ki l true) a b)) n a++Xz (fun a b=>Jt a b (KI (Ki l false) a b) (KI (Ki l true) a b)) a b,(b:Int))/\b<=n) (fun st=>n - st.2.toNat)
     (fun r=>r=WJ (fun a b=>Jt a b (KI (Ki l false) a b) (KI (Ki l true) a b)) n (a+1)) ⟨0,by simp [Xz],Vo _⟩ ?_ ?_
    ·rintro st ⟨b,rfl,y⟩;by_cases d:b<n
     ·have u:Va .i64 ((b:Int)+1)=((b+1:Nat):Int):=by rw[Zx (by omega) (by omega)];omega
      simp only[show decide ((b:Int)<(n:Int))=true from (by grind),Zd,f _ a b d,Za,u];by_cases e:a=b
      ·subst e;simp only[decide_true,Zd];exact⟨_,rfl,⟨a+1,by rw[Gu,Zo rfl,Vhb],d⟩,by omega⟩
      ·have A:(WJ (fun a b=>Jt a b (KI (Ki l false) a b) (KI (Ki l true) a b)) n a++Xz (fun a b=>Jt a b (KI (Ki l false) a b) (KI (Ki l true) a b)) a b).length<=10000:=by rw[Vs];have:=Zdd c m o;have:=Zeq c a b;omega
       simp only[show decide ((a:Int)=(b:Int))=false from (by grind),Zc];rw[Zjc (by omega)];simp only[Za];by_cases g:KI (Ki l true) a b=KI (Ki l false) a b
       ·simp only[g,decide_true,Vc,Zc];refine⟨_,rfl,⟨b+1,?_,d⟩,by omega⟩;rw[Gu,Zg e, <-Vha];congr 1;unfold Jt
        grind
       ·simp only[Zi g,Vn,Zd];rw[Zjc (by grind)];simp only[Za];refine⟨_,rfl,⟨b+1,?_,d⟩,by omega⟩;rw[Gu,Zg e,Vha, <-Vha (WJ _ _ _)];congr 1;unfold Jt
        grind
     ·have:b=n:=by omega
      subst this;simp only[show decide ((b:Int)<(b:Int))=false from (by simp),Zc];exact⟨_,rfl,(ZbG _ _ _).symm⟩
    grind
   ·have:a=n:=by omega
    simp_all
  ·rintro r rfl
   have B:Srt (WJ (fun a b=>Jt a b (KI (Ki l false) a b) (KI (Ki l true) a b)) n n):=ZnM (fun a b x C=>ZqY C) (fun a b=>by
    unfold Jt;have:=q a b;split
    ·grind
    ·split
     ·simp
     ·split<;>simp)
   rw[Ztt B (by have:=Zdd c m (Vw n);omega)];simp
 grind
end Q
namespace Q
open Tr Go Gr
theorem Zrd{Ed:Nat->Nat->Int->Prop}(f:∀u v w,Ed u v w->0<=w){s v:Nat} :∀(k:Nat) (d:Int),d.toNat=k->Wk Ed s v d->∃m,Least Ed s v m:=by
 intro k
 induction k using Vcb with
 |ind k j=>
  intro d i h;by_cases c:∃b,Wk Ed s v b/\b<d
  ·obtain⟨b,e,g⟩:=c;have a:=e.nonneg f
   grind
  ·exact⟨d,h,by grind⟩
theorem Zul{Ed:Nat->Nat->Int->Prop}(a:∀u v w,Ed u v w->1<=w){k i j:Nat}{d:Int}(h:Wb Ed k i j d):1<=d:=by
 induction h with
 |one e=>grind
 |cons e _ _ b=>grind
theorem ZdD{n:Nat}{l:List Kj}(hF:G2 n l)(free:Bool):∀u v w,Ki l free u v w->u<n/\v<n/\1<=w:=fun u v w ⟨p,a,_,b,c,d⟩=>by have:=hF p a;omega
theorem Zdy{n:Nat}{l:List Kj}(hF:G2 n l)(a b:Nat):KI (Ki l true) a b= -1\/(KI (Ki l false) a b≠ -1/\KI (Ki l false) a b<=KI (Ki l true) a b):=by
 by_cases h:∃d,Least (Ki l true) a b d
 ·right;obtain⟨d,g⟩:=h;have i:∀u v w,Ki l false u v w->0<=w:=fun u v w h=>by have:=ZdD hF false u v w h;omega
  have c:Wk (Ki l false) a b d:=by
   have key:∀{v:Nat}{d:Int},Wk (Ki l true) a v d->Wk (Ki l false) a v d:=by
    intro v d h
    induction h with
    |nil=>exact .nil
    |snoc _ e o=>
     obtain⟨p,k,_,j⟩:=e;exact .snoc o ⟨p,k,(fun(h:false=true)=>by cases h),j⟩
   exact key g.1
  obtain⟨m,f⟩:=Zrd i _ d rfl c;rw[RW f,RW g];have:=f.1.nonneg i;exact⟨by omega,f.2 d c⟩
 ·left;unfold KI
  grind
theorem Zlw{n:Nat}{l:List Kj}(hF:G2 n l){free:Bool}{m:List (List Int)}(i:XF (Ki l free) n n m){a b:Nat}(j:a<n)(k:b<n)(o:a≠b):Rel (KI (Ki l free) a b) (gm m a b):=by
 have p:∀u v w,Ki l free u v w->u<n/\v<n:=fun u v w h=>⟨(ZdD hF free u v w h).1,(ZdD hF free u v w h).2.1⟩
 have c:∀d,Wk (Ki l free) a b d->gm m a b<=d:=fun d f=>by
  rcases f.wb p with ⟨h,_⟩|h
  ·omega
  ·exact i.all a b d j k h
 rcases i.snd a b j k with h|⟨_,h⟩
 ·right;refine⟨h,?_⟩;by_cases g:∃d,Least (Ki l free) a b d
  ·obtain⟨d,f⟩:=g;rw[RW f];have:=c d f.1;omega
  ·left;unfold KI;grind
 ·left;have e:=Wb.wk (Wk.nil (Ed:=Ki l free) (s:=a)) h;rw[Int.zero_add]at e;rw[RW ⟨e,c⟩];exact⟨rfl,Zul (fun u v w h=>(ZdD hF free u v w h).2.2) h⟩
theorem ZqZ(a b:Nat)(d f:Int):(Xv a b d f).length<=2:=by
 unfold Xv
 grind
theorem ZpA{n:Nat}(q:n<=64){l:List Kj}(hF:G2 n l)(w:l.length<=4096):
 ∃c d,XF (Ki l false) n n c/\XF (Ki l true) n n d/\F117 l (n:Int)=some (WJ (fun a b=>Xv a b (gm c a b) (gm d a b)) n n):=by
 obtain⟨c,C,j⟩:=Zma q hF w false;obtain⟨d,D,k⟩:=Zma q hF w true;refine⟨c,d,j,k,?_⟩
 have key:∃z,F117 l (n:Int)=some z/\z=WJ (fun a b=>Xv a b (gm c a b) (gm d a b)) n n:=by
  unfold F117;rw[C];simp only[Za];rw[D];simp only[Za];have i:∀a b:Nat,((fun a b=>Xv a b (gm c a b) (gm d a b)) a b).length<=2:=fun a b=>ZqZ _ _ _ _
  refine Xk (fun st=>∃a:Nat,st=(WJ (fun a b=>Xv a b (gm c a b) (gm d a b)) n a,(a:Int))/\a<=n) (fun st=>n - st.2.toNat)
   (fun r=>r=WJ (fun a b=>Xv a b (gm c a b) (gm d a b)) n n) ⟨0,rfl,Vo _⟩ ?_ (by simp)
  rintro st ⟨a,rfl,E⟩;by_cases g:a<n
  ·have A:Va .i64 ((a:Int)+1)=((a+1:Nat):Int):=by rw[Zx (by omega) (by omega)];omega
   obtain⟨u,s,J⟩:=j.shp.row g;obtain⟨v,t,K⟩:=k.shp.row g;have F:a<c.length:=by grind
   have G:a<d.length:=by grind
   have L:idx c (a:Int)=some u:=by assumption
   have M:idx d (a:Int)=some v:=by assumption
   simp only[show decide ((a:Int)<(n:Int))=true from (by grind),Zd,A]
   refine Xk (fun st=>∃b:Nat,st=(WJ (fun a b=>Xv a b (gm c a b) (gm d a b)) n a++Xz (fun a b=>Xv a b (gm c a b) (gm d a b)) a b,(b:Int))/\b<=n) (fun st=>n - st.2.toNat)
    (fun r=>r=WJ (fun a b=>Xv a b (gm c a b) (gm d a b)) n (a+1)) ⟨0,by simp [Xz],Vo _⟩ ?_ ?_
   ·rintro st ⟨b,rfl,N⟩;by_cases e:b<n
    ·have B:Va .i64 ((b:Int)+1)=((b+1:Nat):Int):=by rw[Zx (by omega) (by omega)];omega
     have H:b<u.length:=by omega
     have I:b<v.length:=by omega
     have x:idx u (b:Int)=some (gm c a b):=by
      have:=Zbe j.shp g e s
      assumption
     have y:idx v (b:Int)=some (gm d a b):=by
      have:=Zbe k.shp g e t
      assumption
     simp only[show decide ((b:Int)<(n:Int))=true from (by grind),Zd,L,M,x,y,Za,B];by_cases f:a=b
     ·subst f;simp only[decide_true,Zd,Za];exact⟨_,rfl,⟨a+1,by rw[Gu,Zo rfl,Vhb],e⟩,by omega⟩
     ·have p:(WJ (fun a b=>Xv a b (gm c a b) (gm d a b)) n a++Xz (fun a b=>Xv a b (gm c a b) (gm d a b)) a b).length<=10000:=by rw[Vs];have:=Zdd i q E;have:=Zeq i a b;omega
      simp only[show decide ((a:Int)=(b:Int))=false from (by grind),Zc,Za];by_cases h:14400<gm c a b
      ·simp only[Ze h,Zd];refine⟨_,rfl,⟨b+1,?_,e⟩,by omega⟩;rw[Gu,Zg f];unfold Xv
       grind
      ·simp only[Zi h,Zc];rw[GU (by grind)];simp only[Za];by_cases o:gm c a b<gm d a b
       ·simp only[Ze o,Zd,Za];by_cases m:gm d a b<=14400
        ·simp only[Ze m,Zd];rw[GU (by grind)];simp only[Za];refine⟨_,rfl,⟨b+1,?_,e⟩,by omega⟩;rw[Gu,Zg f];unfold Xv
         grind
        ·simp only[Zi m,Zc];refine⟨_,rfl,⟨b+1,?_,e⟩,by omega⟩;rw[Gu,Zg f];unfold Xv
         grind
       ·simp only[Zi o,Zc,Za];refine⟨_,rfl,⟨b+1,?_,e⟩,by omega⟩;rw[Gu,Zg f];unfold Xv
        grind
    ·have:b=n:=by omega
     subst this;simp only[show decide ((b:Int)<(b:Int))=false from (by simp),Zc];exact⟨_,rfl,(ZbG _ _ _).symm⟩
   grind
  ·have:a=n:=by omega
   simp_all
 grind
theorem ZfO{n:Nat}(g:n<=64){l:List Kj}(hF:G2 n l)(k:l.length<=4096):∃c:List Kj,F56 l (n:Int)=some c/\F117 l (n:Int)=some c/\c.length<=8192:=by obtain⟨m,o,e,f,h⟩:=ZpA g hF k;refine⟨_,ZfP g hF k (fun a b=>(Zdy hF a b).imp id fun h=>h.2),?_,Zdd (fun a b=>Zka _ _ _ _) g (Vw n)⟩;rw[h];congr 1;refine(ZnK (Vw n) fun a b i j d=>?_).symm;exact Zq1 (Zlw hF e i j d) (Zlw hF f i j d) (Zdy hF a b)
end Q
namespace Q
open Tr Go
def K6(n:Nat)(chk:Nat->Int):Option Nat:=(Vt n).find? fun i=>decide (chk i≠0)
theorem Zqq{n i:Nat}{chk:Nat->Int}(b:i<n)(h:∀j,j<i->chk j=0)(a:chk i≠0):K6 n chk=some i:=by
 unfold K6
 simp_all
theorem ZdK{n:Nat}{chk:Nat->Int}(h:∀j,j<n->chk j=0):K6 n chk=none:=by
 unfold K6
 grind
theorem WL{n:Nat}{chk:Nat->Int} :K6 n chk=none↔∀j,j<n->chk j=0:=by
 refine⟨fun h j a=>?_,ZdK⟩;unfold K6 at h
 grind
theorem D7{n i:Nat}{chk:Nat->Int}(h:K6 n chk=some i):i<n/\chk i≠0:=by
 unfold K6 at h
 grind
def pick{τ:Type}(n:Nat)(chk:Nat->Int)(R:Nat->τ)(E:τ):τ:=match K6 n chk with
 |some i=>R i
 |none=>E
theorem Jl{σ τ:Type}{step:σ->Option (σ ⊕ τ)}{n:Nat}(a:Nat->σ->Prop)(chk:Nat->Int)(R:Nat->τ)(E:τ)
 (g:∀i s,i<n->a i s->chk i=0->∃s',step s=some (.inl s')/\a (i+1) s')
 (b:∀i s,i<n->a i s->chk i≠0->step s=some (.inr (R i)))
 (c:∀s,a n s->step s=some (.inr E)):∀s,a 0 s->run step s=some (pick n chk R E):=by
 have key:∀(k i:Nat) (s:σ),n - i=k->i<=n->a i s->(∀j,j<i->chk j=0)->run step s=some (pick n chk R E):=by
  intro k
  induction k with
  |zero=>
   intro i s m l d f;have:i=n:=by omega
   subst this;rw[XB (c s d)];unfold pick
   rw[ZdK f]
  |succ k p=>
   intro i s m l d f;by_cases e:chk i=0
   ·obtain⟨s',h,o⟩:=g i s (by omega) d e;rw[Hs h]
    grind
   ·rw[XB (b i s (by omega) d e)];unfold pick;rw[Zqq (by omega) f e]
 grind
def WO{t:Ty}(key:Nat->El t)(i:Nat)(m:List (El t×Bool)):Prop:= ∀k,Ve (ZJ (Zl t) k m) false=true↔∃j,j<i/\key j=k
theorem WO.nil{t:Ty}(key:Nat->El t):WO key 0 []:=fun k=>by simp [ZJ]
theorem WO.add{t:Ty}(b:t.key=true){key:Nat->El t}{i:Nat}{m:List (El t×Bool)}(h:WO key i m):WO key (i+1) (Z0 (Zl t) (key i) true m):=by
 classical
 intro k;rw[GL b];by_cases a:k=key i
 ·grind
 ·rw[Zg a,h k]
  grind
theorem ZU{i n:Nat}(h:i<n)(a:n<=9223372036854775807):Va .i64 ((i:Int)+1)=((i+1:Nat):Int):=by rw[Zx (by omega) (by omega)];omega
theorem ZL{i n:Nat}(h:i<n):decide ((i:Int)<(n:Int))=true:=by grind
theorem JE(n:Nat):decide ((n:Int)<(n:Int))=false:=by simp
def okx(x:Int):Bool:=
 ((decide (97<=x) &&decide (x<=122)) || (decide (65<=x) &&decide (x<=90)) || (decide (48<=x) &&decide (x<=57))) || (decide (x=45) ||decide (x=95) ||decide (x=46))
def YB(c:UInt8):Bool:=okx (c.toNat:Int)
def Wr(s:List UInt8):Bool:=decide (1<=s.length/\s.length<=32) &&s.all YB
theorem ZiN(b:Bool)(x y:Bool):(bif b then some x else some y)=some (bif b then x else y):=by grind
def Gc(s:List UInt8)(i:Nat):Int:=if YB ((s[i]?).getD 0) then 0 else 1
theorem Zdq(s:List UInt8):K6 s.length (Gc s)=none↔s.all YB=true:=by
 rw[WL,List.all_eq_true];constructor
 ·intro h c b;obtain⟨i,a,rfl⟩:=Vj b;have:=h i a;unfold Gc at this
  grind
 ·intro h i a;unfold Gc
  grind
theorem Rt(s:List UInt8)(f:s.length<=9223372036854775807):F77 s=some (Wr s):=by
 unfold F77;rw[Jl (n:=s.length) (fun i st=>st=(i:Int)) (Gc s) (fun _=>.inr false) (.inl ()) ?_ ?_ ?_ (0:Int) rfl]
 ·unfold pick;simp only[Za]
  cases e:K6 s.length (Gc s) with
  |none=>
   have d:=(Zdq s).1 e;simp only[Vl];unfold Wr;rw[d,Bool.and_true];by_cases g:0<s.length
   ·rw[Ze (by omega)];simp only[Zd,Za];congr 1
    grind
   grind
  |some i=>
   simp only[Sum.elim_inr]
   have d:s.all YB=false:=by
    cases b:s.all YB with
    |false=>rfl
    |true=>rw[(Zdq s).2 b]at e;grind
   unfold Wr
   grind
 ·rintro i _ a rfl b;refine⟨_,?_,rfl⟩
  have c:YB s[i]=true:=by
   unfold Gc at b
   grind
  simp only[ZL a,Zd,ZA a,Za,ZiN,ZU a f];unfold YB okx at c
  grind
 ·rintro i _ a rfl b
  have c:YB s[i]=false:=by
   unfold Gc at b
   grind
  simp only[ZL a,Zd,ZA a,Za,ZiN,ZU a f];unfold YB okx at c
  grind
 simp
theorem Zap(s:List UInt8):F122 s=some (Wr s):=by
 unfold F122;by_cases f:s.length<1
 ·rw[Ze (by omega)];simp only[Zd,Za];unfold Wr
  grind
 ·rw[Zi (by omega)];simp only[Zc,Za];by_cases g:32<s.length
  ·rw[Ze (by omega)];simp only[Zd];unfold Wr
   grind
  ·rw[Zi (by omega)];simp only[Zc];have e:s.length<=9223372036854775807:=by omega
   rw[Jl (n:=s.length) (fun i st=>st=(i:Int)) (Gc s) (fun _=>.inr false) (.inl ()) ?_ ?_ ?_ (0:Int) rfl]
   ·unfold pick;simp only[Za];unfold Wr;rw[Ze (by omega),Vaa]
    cases d:K6 s.length (Gc s) with
    |none=>rw[(Zdq s).1 d];rfl
    |some i=>
     have h:s.all YB=false:=by
      cases b:s.all YB with
      |false=>rfl
      |true=>rw[(Zdq s).2 b]at d;grind
     grind
   ·rintro i _ a rfl b;refine⟨_,?_,rfl⟩
    have c:YB s[i]=true:=by
     unfold Gc at b
     grind
    simp only[ZL a,Zd,ZA a,Za,ZU a e];unfold YB okx at c
    grind
   ·rintro i _ a rfl b
    have c:YB s[i]=false:=by
     unfold Gc at b
     grind
    simp only[ZL a,Zd,ZA a,Za,ZU a e];unfold YB okx at c
    grind
   simp
end Q
namespace Q
open Tr Go
open Classical in
noncomputable def Yx(name dup num:Prop):Int:=if name then 12 else if dup then 6 else if num then 2 else 0
theorem GT{a b c:Prop} :Yx a b c=0↔¬a/\ ¬b/\ ¬c:=by
 unfold Yx
 grind
theorem ZaL{a b c:Prop}(h:a):Yx a b c=12:=by unfold Yx;grind
theorem ZaK{a b c:Prop}(h:¬a)(d:b):Yx a b c=6:=by unfold Yx;grind
theorem ZaN{a b c:Prop}(h:¬a)(d:¬b)(e:c):Yx a b c=2:=by unfold Yx;grind
theorem ZaM{a b c:Prop}(h:¬a)(d:¬b)(e:¬c):Yx a b c=0:=by unfold Yx;grind
theorem ZbU{τ:Type}{step:Int->Option (Int ⊕ τ)}{i:Nat}{p:Nat->Prop}{R E:τ}(f:∀j:Nat,j<i->¬p j->step (j:Int)=some (.inl ((j+1:Nat):Int)))(c:∀j:Nat,j<i->p j->step (j:Int)=some (.inr R))
 (a:step (i:Int)=some (.inr E)):((∃j,j<i/\p j)->run step (0:Int)=some R)/\((¬∃j,j<i/\p j)->run step (0:Int)=some E):=by
 classical
 have key:=Jl (n:=i) (step:=step) (fun j st=>st=(j:Int)) (fun j=>if p j then 1 else 0) (fun _=>R) E (by grind) (by grind) (by grind) (0:Int) rfl
 constructor
 ·rintro ⟨j,e,g⟩;rw[key];unfold pick
  cases d:K6 i (fun j=>if p j then 1 else 0) with
  |some k=>rfl
  |none=>
   have:=WL.1 d j e
   grind
 ·intro b;rw[key];unfold pick;rw[ZdK (by grind)]
theorem YZ(x a b:Int):F123 x a b=some (decide (a<=x/\x<=b)):=by
 unfold F123
 grind
theorem ZhL(x a b:Int):F114 x a b=some (decide (a<=x/\x<=b)):=YZ x a b
abbrev G7:=List UInt8×Int×Bool×Int×Unit
abbrev YM:=List UInt8×Int×Bool×Unit
noncomputable def HT(l:List G7)(i:Nat):Int:=
 let x:G7:=(l[i]?).getD ([],0,false,0,())
 Yx (Wr x.1=false) (∃j,j<i/\((l[j]?).getD ([],0,false,0,())).1=x.1) (x.2.1<0\/16<=x.2.1\/x.2.2.2.1<0\/3600<x.2.2.2.1)
noncomputable def HU(l:List G7):Int×Int:=if 64<l.length then(0,5) else pick l.length (HT l) (fun i=>((i:Int),HT l i)) (0,0)
theorem ZtK(l:List G7)(q:∀x∈l,x.1.length<=9223372036854775807):F203 l=some (HU l):=by
 unfold F203 HU;by_cases k:64<l.length
 ·grind
 ·rw[Zg k,Zi (by omega)];simp only[Zc];rw[Jl (n:=l.length) (fun i st=>∃m,st=(m,(i:Int))/\WO (t:=Y9) (fun j=>((l[j]?).getD ([],0,false,0,())).1) i m) (HT l) (fun i=>.inr ((i:Int),HT l i)) (.inl ()) ?_ ?_ ?_ ([],(0:Int)) ⟨[],rfl,WO.nil _⟩]
  ·unfold pick
   grind
  ·rintro i _ a ⟨m,rfl,f⟩ d;have p:(l[i]?).getD ([],0,false,0,())=l[i]:=by grind
   unfold HT at d;simp only[p]at d;obtain⟨e,b,g⟩:=GT.1 d;have e:Wr (l[i]).1=true:=by grind
   have c:Ve (ZJ (Zl Y9) (l[i]).1 m) false=false:=by
    cases o:Ve (ZJ (Zl Y9) (l[i]).1 m) false with
    |false=>rfl
    |true=>exact absurd ((f _).1 o) b
   refine⟨(Z0 (Zl Y9) (l[i]).1 true m,((i+1:Nat):Int)),?_,_,rfl,?_⟩
   ·simp only[ZL a,Zd,ZA a,Za,Rt _ (q _ (Vf a)),e,Vc,Zc,c,ZU a (by omega),
     show decide ((l[i]).2.1<0)=false from (by grind),show decide ((16:Int)<=(l[i]).2.1)=false from (by grind),show decide ((l[i]).2.2.2.1<0)=false from (by grind),show decide ((3600:Int)<(l[i]).2.2.2.1)=false from (by grind)]
   ·have:=WO.add (t:=Y9) rfl f
    grind
  ·rintro i _ a ⟨m,rfl,f⟩ d;have p:(l[i]?).getD ([],0,false,0,())=l[i]:=by grind
   simp only[ZL a,Zd,ZA a,Za,Rt _ (q _ (Vf a))];unfold HT at d⊢;simp only[p]at d⊢;by_cases e:Wr (l[i]).1=false
   ·rw[ZaL e,e];rfl
   ·have h:Wr (l[i]).1=true:=by grind
    simp only[h,Vc,Zc];by_cases b:∃j,j<i/\((l[j]?).getD ([],0,false,0,())).1=(l[i]).1
    ·rw[ZaK (by simp) b,(f _).2 b];rfl
    ·have c:Ve (ZJ (Zl Y9) (l[i]).1 m) false=false:=by
      cases o:Ve (ZJ (Zl Y9) (l[i]).1 m) false with
      |false=>rfl
      |true=>exact absurd ((f _).1 o) b
     simp only[c,Zc]
     have g:(l[i]).2.1<0\/16<=(l[i]).2.1\/(l[i]).2.2.2.1<0\/3600<(l[i]).2.2.2.1:=by
      by_cases g:(l[i]).2.1<0\/16<=(l[i]).2.1\/(l[i]).2.2.2.1<0\/3600<(l[i]).2.2.2.1
      ·omega
      ·exact absurd (ZaM e b g) d
     rw[ZaN (by simp) b g]
     grind
  simp
theorem ZtL(l:List G7):F129 l=some (HU l):=by
 unfold F129 HU;by_cases s:64<l.length
 ·grind
 ·rw[Zg s,Zi (by omega)];simp only[Zc]
  have a:∀i (b:i<l.length) (τ:Type) (R E:τ) (f:Int->τ),f (i:Int)=R->((∃j,j<i/\((l[j]?).getD ([],0,false,0,())).1=(l[i]).1)->run (fun h:Int=>
        bif decide (h<(i:Int)) then
         Vb (idx l h) fun t=>
          bif decide (t.fst=(l[i]).fst) then some (Sum.inr (f (i:Int))) else some (Sum.inl (Va .i64 (h+(1:Int))))
        else some (Sum.inr E)) (0:Int)=some R)/\((¬∃j,j<i/\((l[j]?).getD ([],0,false,0,())).1=(l[i]).1)->run (fun h:Int=>
        bif decide (h<(i:Int)) then
         Vb (idx l h) fun t=>
          bif decide (t.fst=(l[i]).fst) then some (Sum.inr (f (i:Int))) else some (Sum.inl (Va .i64 (h+(1:Int))))
        else some (Sum.inr E)) (0:Int)=some E):=by
   intro i b τ R E f u;refine ZbU (p:=fun j=>((l[j]?).getD ([],0,false,0,())).1=(l[i]).1) (fun j q m=>?_) (fun j q m=>?_) ?_
   ·have e:j<l.length:=by omega
    have g:(l[j]?).getD ([],0,false,0,())=l[j]:=by grind
    rw[g]at m;simp only[ZL q,Zd,ZA e,Za,Zi m,Zc,ZU q (by omega)]
   ·have e:j<l.length:=by omega
    have g:(l[j]?).getD ([],0,false,0,())=l[j]:=by grind
    rw[g]at m;simp only[ZL q,Zd,ZA e,Za,Ze m,u]
   simp
  rw[Jl (n:=l.length) (fun i st=>st=(i:Int)) (HT l) (fun i=>.inr ((i:Int),HT l i)) (.inl ()) ?_ ?_ ?_ (0:Int) rfl]
  ·unfold pick
   grind
  ·rintro i _ b rfl d;have g:(l[i]?).getD ([],0,false,0,())=l[i]:=by grind
   unfold HT at d;simp only[g]at d;obtain⟨k,c,o⟩:=GT.1 d;have k:Wr (l[i]).1=true:=by grind
   refine⟨((i+1:Nat):Int),?_,rfl⟩;simp only[ZL b,Zd,ZA b,Za,Zap,k,Vc,Zc];rw[(a i b _ _ (Sum.inl ()) (fun x=>Sum.inr (x,(6:Int))) rfl).2 c];simp only[Za,Vl,YZ,Ze (show (0:Int)<=(l[i]).2.1/\(l[i]).2.1<=15 by omega),Vc,Zc,Ze (show (0:Int)<=(l[i]).2.2.2.1/\(l[i]).2.2.2.1<=3600 by omega),ZU b (by omega)]
  ·rintro i _ b rfl d;have g:(l[i]?).getD ([],0,false,0,())=l[i]:=by grind
   simp only[ZL b,Zd,ZA b,Za,Zap];unfold HT at d⊢;simp only[g]at d⊢;by_cases k:Wr (l[i]).1=false
   ·rw[ZaL k,k];rfl
   ·have r:Wr (l[i]).1=true:=by grind
    simp only[r,Vc,Zc];by_cases c:∃j,j<i/\((l[j]?).getD ([],0,false,0,())).1=(l[i]).1
    ·rw[ZaK (by simp) c,(a i b _ _ (Sum.inl ()) (fun x=>Sum.inr (x,(6:Int))) rfl).1 c];rfl
    ·rw[(a i b _ _ (Sum.inl ()) (fun x=>Sum.inr (x,(6:Int))) rfl).2 c]
     have o:(l[i]).2.1<0\/16<=(l[i]).2.1\/(l[i]).2.2.2.1<0\/3600<(l[i]).2.2.2.1:=by
      by_cases o:(l[i]).2.1<0\/16<=(l[i]).2.1\/(l[i]).2.2.2.1<0\/3600<(l[i]).2.2.2.1
      ·omega
      ·exact absurd (ZaM k c o) d
     rw[ZaN (by simp) c o];simp only[Za,Vl,YZ]
     grind
  simp
end Q
namespace Q
open Tr Go
theorem Zkg(x:Int):F171 x=some (decide (0<=x/\x<=7)):=by
 unfold F171
 grind
theorem ZaI{α:Type}{l:List α}{nm:α->List UInt8}{d:α}{i:Nat}(h:i<l.length)(k:l.length<=9223372036854775807){y:List UInt8}{τ:Type}(R E:τ):
 ((∃j,j<i/\nm ((l[j]?).getD d)=y)->run (fun b:Int=>
        bif decide (b<(i:Int)) then
         Vb (idx l b) fun g=>
          bif decide (nm g=y) then some (Sum.inr R) else some (Sum.inl (Va .i64 (b+(1:Int))))
        else some (Sum.inr E)) (0:Int)=some R)/\((¬∃j,j<i/\nm ((l[j]?).getD d)=y)->run (fun b:Int=>
        bif decide (b<(i:Int)) then
         Vb (idx l b) fun g=>
          bif decide (nm g=y) then some (Sum.inr R) else some (Sum.inl (Va .i64 (b+(1:Int))))
        else some (Sum.inr E)) (0:Int)=some E):=by
 refine ZbU (p:=fun j=>nm ((l[j]?).getD d)=y) (fun j e c=>?_) (fun j e c=>?_) ?_
 ·have a:j<l.length:=by omega
  have f:(l[j]?).getD d=l[j]:=by grind
  rw[f]at c;simp only[ZL e,Zd,ZA a,Za,Zi c,Zc,ZU e (by omega)]
 ·have a:j<l.length:=by omega
  have f:(l[j]?).getD d=l[j]:=by grind
  rw[f]at c;simp only[ZL e,Zd,ZA a,Za,Ze c]
 simp
def r0:YM:=([],0,false,())
noncomputable def Gs(l:List YM)(i:Nat):Int:=
 Yx (Wr ((l[i]?).getD r0).1=false) (∃j,j<i/\((l[j]?).getD r0).1=((l[i]?).getD r0).1) (¬(0<=((l[i]?).getD r0).2.1/\((l[i]?).getD r0).2.1<=7))
noncomputable def Gt(l:List YM):Int×Int:=if 64<l.length then(0,5) else pick l.length (Gs l) (fun i=>((i:Int),Gs l i)) (0,0)
theorem Kq{α:Type}{l:List α}{i:Nat}(h:i<l.length)(d:α):(l[i]?).getD d=l[i]:=by grind
theorem DE{t:Ty}{key:Nat->El t}{i:Nat}{m:List (El t×Bool)}(h:WO key i m){k:El t}(b:¬∃j,j<i/\key j=k):Ve (ZJ (Zl t) k m) false=false:=by
 cases a:Ve (ZJ (Zl t) k m) false with
 |false=>rfl
 |true=>exact absurd ((h k).1 a) b
theorem ZsQ(l:List YM)(p:∀x∈l,x.1.length<=9223372036854775807):F170 l=some (Gt l):=by
 unfold F170 Gt;by_cases o:64<l.length
 ·grind
 ·rw[Zg o,Zi (by omega)];simp only[Zc];rw[Jl (n:=l.length) (fun i st=>∃m,st=(m,(i:Int))/\WO (t:=Y9) (fun j=>((l[j]?).getD r0).1) i m) (Gs l) (fun i=>.inr ((i:Int),Gs l i)) (.inl ()) ?_ ?_ ?_ ([],(0:Int)) ⟨[],rfl,WO.nil _⟩]
  ·unfold pick
   grind
  ·rintro i _ a ⟨m,rfl,f⟩ c;have g:=Kq a r0;unfold Gs at c;rw[g]at c;obtain⟨d,b,e⟩:=GT.1 c;have d:Wr (l[i]).1=true:=by grind
   have k:=DE f b;have e:0<=(l[i]).2.1/\(l[i]).2.1<=7:=by omega
   refine⟨(Z0 (Zl Y9) (l[i]).1 true m,((i+1:Nat):Int)),?_,_,rfl,?_⟩
   ·simp only[ZL a,Zd,ZA a,Za,Rt _ (p _ (Vf a)),d,Vc,Zc,k,ZU a (by omega),Zkg,Ze e]
   ·have:=WO.add (t:=Y9) rfl f
    grind
  ·rintro i _ a ⟨m,rfl,f⟩ c;have g:=Kq a r0;simp only[ZL a,Zd,ZA a,Za,Rt _ (p _ (Vf a))];unfold Gs at c⊢;rw[g]at c;simp only[g];by_cases d:Wr (l[i]).1=false
   ·rw[ZaL d,d];rfl
   ·have h:Wr (l[i]).1=true:=by grind
    simp only[h,Vc,Zc];by_cases b:∃j,j<i/\((l[j]?).getD r0).1=(l[i]).1
    ·rw[ZaK (by simp) b,(f _).2 b];rfl
    ·simp only[DE f b,Zc];have e:¬(0<=(l[i]).2.1/\(l[i]).2.1<=7):=fun e=>c (ZaM d b (by omega));rw[ZaN (by simp) b e,Zkg,Zi e];rfl
  simp
theorem ZsR(l:List YM):F127 l=some (Gt l):=by
 unfold F127 Gt;by_cases m:64<l.length
 ·grind
 ·rw[Zg m,Zi (by omega)];simp only[Zc];have g:l.length<=9223372036854775807:=by omega
  rw[Jl (n:=l.length) (fun i st=>st=(i:Int)) (Gs l) (fun i=>.inr ((i:Int),Gs l i)) (.inl ()) ?_ ?_ ?_ (0:Int) rfl]
  ·unfold pick
   grind
  ·rintro i _ a rfl c;have h:=Kq a r0;unfold Gs at c;rw[h]at c;obtain⟨e,b,f⟩:=GT.1 c;have e:Wr (l[i]).1=true:=by grind
   have f:0<=(l[i]).2.1/\(l[i]).2.1<=7:=by omega
   refine⟨((i+1:Nat):Int),?_,rfl⟩;simp only[ZL a,Zd,ZA a,Za,Zap,e,Vc,Zc];rw[(ZaI (nm:=fun x:YM=>x.1) (d:=r0) a g (y:=(l[i]).1) _ _).2 b];simp only[Za,Vl,YZ,Ze f,Vc,Zc,ZU a g]
  ·rintro i _ a rfl c;have h:=Kq a r0;simp only[ZL a,Zd,ZA a,Za,Zap];unfold Gs at c⊢;rw[h]at c;simp only[h];by_cases e:Wr (l[i]).1=false
   ·rw[ZaL e,e];rfl
   ·have k:Wr (l[i]).1=true:=by grind
    simp only[k,Vc,Zc];by_cases b:∃j,j<i/\((l[j]?).getD r0).1=(l[i]).1
    ·rw[ZaK (by simp) b,(ZaI (nm:=fun x:YM=>x.1) (d:=r0) a g (y:=(l[i]).1) _ _).1 b];rfl
    ·rw[(ZaI (nm:=fun x:YM=>x.1) (d:=r0) a g (y:=(l[i]).1) _ _).2 b];have f:¬(0<=(l[i]).2.1/\(l[i]).2.1<=7):=fun f=>c (ZaM e b (by omega));rw[ZaN (by simp) b f];simp only[Za,Vl,YZ,Zi f];rfl
  simp
abbrev JM:=List UInt8×Int×Int×Int×Int×Int×Unit
abbrev Ke:=List JM×Int×Int×Int×Unit
def p0:JM:=([],0,0,0,0,0,())
def Yz(x:JM):Bool:=decide (0<=x.2.1/\x.2.1<=1000000) && (decide (1<=x.2.2.1/\x.2.2.1<=8) && (decide (1<=x.2.2.2.1/\x.2.2.2.1<=16) && (decide (0<=x.2.2.2.2.1/\x.2.2.2.2.1<=86400) &&decide (1<=x.2.2.2.2.2.1/\x.2.2.2.2.2.1<=255))))
noncomputable def Ho(l:List JM)(i:Nat):Int:=
 Yx (Wr ((l[i]?).getD p0).1=false) (∃j,j<i/\((l[j]?).getD p0).1=((l[i]?).getD p0).1) (Yz ((l[i]?).getD p0)=false)
def HI(f:Ke):Bool:=decide (0<=f.2.1/\f.2.1<=1000000) && (decide (0<=f.2.2.1/\f.2.2.1<=86400) &&decide (0<=f.2.2.2.1/\f.2.2.2.1<=1000000))
noncomputable def Js(f:Ke):Int×Int:=
 if HI f=false then(-1,2) else if 16<f.1.length then(0,5) else pick f.1.length (Ho f.1) (fun i=>((i:Int),Ho f.1 i)) (0,0)
theorem Zml{w:Int->Int->Int->Option Bool}(c:∀x a b,w x a b=some (decide (a<=x/\x<=b)))(f:Ke):
 (Vb (w f.2.1 0 1000000) fun x0=>bif !x0 then some true else Vb (w f.2.2.1 0 86400) fun d=>bif !d then some true else Vb (w f.2.2.2.1 0 1000000) fun e=>some !e)=some (!HI f):=by
 unfold HI;simp only[c,Za]
 grind
theorem ZdM{w:Int->Int->Int->Option Bool}(c:∀x a b,w x a b=some (decide (a<=x/\x<=b)))(x:JM):
 (Vb (w x.2.1 0 1000000) fun x0=>bif !x0 then some true else Vb (w x.2.2.1 1 8) fun d=>bif !d then some true else Vb (w x.2.2.2.1 1 16) fun e=>bif !e then some true else
   Vb (w x.2.2.2.2.1 0 86400) fun f=>bif !f then some true else Vb (w x.2.2.2.2.2.1 1 255) fun g=>some !g)=some (!Yz x):=by
 unfold Yz;simp only[c,Za]
 grind
theorem Zgd(f:Ke)(p:∀x∈f.1,x.1.length<=9223372036854775807):F110 f=some (Js f):=by
 unfold F110 Js;rw[Zml (w:=F114) ZhL f];simp only[Za]
 cases r:HI f with
 |true=>
  rw[Zg (by simp)];simp only[Vc,Zc];by_cases l:16<f.1.length
  ·grind
  ·rw[Zg l,Zi (by omega)];simp only[Zc];rw[Jl (n:=f.1.length) (fun i st=>∃m,st=(m,(i:Int))/\WO (t:=Y9) (fun j=>((f.1[j]?).getD p0).1) i m) (Ho f.1) (fun i=>.inr ((i:Int),Ho f.1 i)) (.inl ()) ?_ ?_ ?_ ([],(0:Int)) ⟨[],rfl,WO.nil _⟩]
   ·unfold pick
    grind
   ·rintro i _ a ⟨m,rfl,g⟩ c;have h:=Kq a p0;unfold Ho at c;rw[h]at c;obtain⟨d,b,e⟩:=GT.1 c;have d:Wr (f.1[i]).1=true:=by grind
    have o:=DE g b;have e:Yz f.1[i]=true:=by grind
    refine⟨(Z0 (Zl Y9) (f.1[i]).1 true m,((i+1:Nat):Int)),?_,_,rfl,?_⟩
    ·simp only[ZL a,Zd,ZA a,Za,Rt _ (p _ (Vf a)),d,Vc,Zc,o,ZU a (by omega)];rw[ZdM (w:=F114) ZhL,e];rfl
    ·have:=WO.add (t:=Y9) rfl g
     grind
   ·rintro i _ a ⟨m,rfl,g⟩ c;have h:=Kq a p0;simp only[ZL a,Zd,ZA a,Za,Rt _ (p _ (Vf a))];unfold Ho at c⊢;rw[h]at c;simp only[h];by_cases d:Wr (f.1[i]).1=false
    ·rw[ZaL d,d];rfl
    ·have k:Wr (f.1[i]).1=true:=by grind
     simp only[k,Vc,Zc];by_cases b:∃j,j<i/\((f.1[j]?).getD p0).1=(f.1[i]).1
     ·rw[ZaK (by simp) b,(g _).2 b];rfl
     ·simp only[DE g b,Zc]
      have e:Yz f.1[i]=false:=by
       cases q:Yz f.1[i] with
       |false=>rfl
       |true=>exact absurd (ZaM d b (by grind)) c
      rw[ZaN (by simp) b e,ZdM (w:=F114) ZhL,e];rfl
   simp
 |false=>rfl
theorem Zqi(f:Ke):F118 f=some (Js f):=by
 unfold F118 Js;rw[Zml (w:=F123) YZ f];simp only[Za]
 cases p:HI f with
 |true=>
  rw[Zg (by simp)];simp only[Vc,Zc];by_cases m:16<f.1.length
  ·grind
  ·rw[Zg m,Zi (by omega)];simp only[Zc];have h:f.1.length<=9223372036854775807:=by omega
   rw[Jl (n:=f.1.length) (fun i st=>st=(i:Int)) (Ho f.1) (fun i=>.inr ((i:Int),Ho f.1 i)) (.inl ()) ?_ ?_ ?_ (0:Int) rfl]
   ·unfold pick
    grind
   ·rintro i _ a rfl c;have k:=Kq a p0;unfold Ho at c;rw[k]at c;obtain⟨e,b,g⟩:=GT.1 c;have e:Wr (f.1[i]).1=true:=by grind
    have g:Yz f.1[i]=true:=by grind
    refine⟨((i+1:Nat):Int),?_,rfl⟩;simp only[ZL a,Zd,ZA a,Za,Zap,e,Vc,Zc];rw[(ZaI (nm:=fun x:JM=>x.1) (d:=p0) a h (y:=(f.1[i]).1) _ _).2 b];simp only[Za,Vl];rw[ZdM (w:=F123) YZ,g];simp only[Vc,Za,Zc,ZU a h]
   ·rintro i _ a rfl c;have k:=Kq a p0;simp only[ZL a,Zd,ZA a,Za,Zap];unfold Ho at c⊢;rw[k]at c;simp only[k];by_cases e:Wr (f.1[i]).1=false
    ·rw[ZaL e,e];rfl
    ·have l:Wr (f.1[i]).1=true:=by grind
     simp only[l,Vc,Zc];by_cases b:∃j,j<i/\((f.1[j]?).getD p0).1=(f.1[i]).1
     ·rw[ZaK (by simp) b,(ZaI (nm:=fun x:JM=>x.1) (d:=p0) a h (y:=(f.1[i]).1) _ _).1 b];rfl
     ·rw[(ZaI (nm:=fun x:JM=>x.1) (d:=p0) a h (y:=(f.1[i]).1) _ _).2 b]
      have g:Yz f.1[i]=false:=by
       cases o:Yz f.1[i] with
       |false=>rfl
       |true=>exact absurd (ZaM e b (by grind)) c
      rw[ZaN (by simp) b g];simp only[Za,Vl];rw[ZdM (w:=F123) YZ,g];rfl
   simp
 |false=>rfl
end Q
namespace Q
open Tr Go
abbrev Wv:=Int×Int×Int×Bool×Bool×Unit
def c0:Wv:=(0,0,0,false,false,())
def ZbO(l:List Wv)(i:Nat)(n:Int):Bool:=decide (((l[i]?).getD c0).1<0) ||decide (n<=((l[i]?).getD c0).1)
def ZbP(l:List Wv)(i:Nat):Bool:=decide (0<i) &&decide (((l[i - 1]?).getD c0).1=((l[i]?).getD c0).1)
def ZbQ(l:List Wv)(i:Nat)(lo a:Int):Bool:=decide (((l[i]?).getD c0).2.1<lo) || (decide (((l[i]?).getD c0).2.2.1<((l[i]?).getD c0).2.1) || (decide (a<((l[i]?).getD c0).2.2.1) || (decide (0<i) &&decide (((l[i]?).getD c0).2.1<((l[i - 1]?).getD c0).2.2.1))))
def JV(l:List Wv)(n lo a:Int)(i:Nat):Int:=if ZbO l i n then 9 else if ZbP l i then 13 else if ZbQ l i lo a then 10 else 0
theorem Zj5(i:Nat):decide ((0:Int)<(i:Int))=decide (0<i):=by simp
theorem Zlh{l:List Wv}{i:Nat}(b:i<l.length)(c:l.length<=9223372036854775807)(a:0<i):idx l (Va .i64 ((i:Int) - 1))=some ((l[i - 1]?).getD c0):=by
 have e:Va .i64 ((i:Int) - 1)=((i - 1:Nat):Int):=by rw[Zx (by omega) (by omega)];omega
 rw[e,ZA (by omega),Kq (by omega)]
theorem ZkY{l:List Wv}{i:Nat}(b:i<l.length)(d:l.length<=9223372036854775807)(n lo a:Int):F7 l (i:Int) n lo a=some (JV l n lo a i):=by
 unfold F7 JV ZbO ZbP ZbQ;rw[Kq b,ZA b];simp only[Za,Zj5];by_cases c:0<i
 ·simp only[Zlh b d c,Za,Ze c,Zd,Vaa]
  grind
 grind
noncomputable def Xf(l:List Wv)(n lo a:Int):Int:=if l.length<2\/32<l.length then 5 else pick l.length (JV l n lo a) (JV l n lo a) 0
theorem ZiT(l:List Wv)(n lo b:Int):∃i,F6 l n lo b=some (i,Xf l n lo b):=by
 unfold F6 Xf;by_cases e:l.length<2
 ·rw[Ze (by omega),Zo (.inl e)];simp
 ·rw[Zi (by omega)];by_cases f:32<l.length
  ·rw[Zo (.inr f)];simp only[Zc,Za,Ze (show (32:Int)<(l.length:Int) by omega),Zd];simp
  ·rw[Zg (by omega)];simp only[Zc,Za,Zi (show¬(32:Int)<(l.length:Int) by omega)];have d:l.length<=9223372036854775807:=by omega
   rw[Jl (n:=l.length) (fun i st=>st=(i:Int)) (JV l n lo b) (fun i=>.inr ((i:Int),JV l n lo b i)) (.inl ()) ?_ ?_ ?_ (0:Int) rfl]
   ·unfold pick
    cases K6 l.length (JV l n lo b)<;>exact⟨_,rfl⟩
   ·rintro i _ a rfl c;refine⟨((i+1:Nat):Int),?_,rfl⟩;simp only[ZL a,Zd,ZkY a d,Za,c,decide_true,Vc,Zc,ZU a d]
   ·rintro i _ a rfl c;simp only[ZL a,Zd,ZkY a d,Za,Zi c,Vn]
   simp
theorem Zo2(l:List Wv)(n lo c:Int):F115 l n lo c=some (Xf l n lo c):=by
 unfold F115 Xf;by_cases m:l.length<2
 ·grind
 ·rw[Zi (by omega)];by_cases o:32<l.length
  ·grind
  ·rw[Zg (by omega)];simp only[Zc,Za,Zi (by omega)];have e:l.length<=9223372036854775807:=by omega
   have step:∀i (a:i<l.length),(bif decide ((i:Int)<(↑(Vg l):Int)) then
         Vb (idx l (i:Int)) fun b=>
          Vb (bif decide (b.fst<(0:Int)) then some true else some (decide (n<=b.fst))) fun f=>
           bif f then some (Sum.inr (Sum.inr (9:Int)))
           else
            Vb
             (bif decide ((0:Int)<(i:Int)) then Vb (idx l (Va .i64 ((i:Int) - (1:Int)))) fun g=>some (decide (g.fst=b.fst))
             else some false)
             fun h=>
             bif h then some (Sum.inr (Sum.inr (13:Int)))
             else
              Vb
               (bif decide (b.snd.fst<lo) then some true
               else
                bif decide (b.snd.snd.fst<b.snd.fst) then some true
                else
                 bif decide (c<b.snd.snd.fst) then some true
                 else
                  bif decide ((0:Int)<(i:Int)) then
                   Vb (idx l (Va .i64 ((i:Int) - (1:Int)))) fun j=>some (decide (b.snd.fst<j.snd.snd.fst))
                  else some false)
               fun k=>bif k then some (Sum.inr (Sum.inr (10:Int))) else some (Sum.inl (Va .i64 ((i:Int)+(1:Int))))
         else some (Sum.inr (Sum.inl ())))=(if JV l n lo c i=0 then some (Sum.inl ((i+1:Nat):Int)) else some (Sum.inr (Sum.inr (JV l n lo c i))):Option (Int ⊕ (Unit ⊕ Int))):=by
    intro i a;simp only[ZL a,Zd,ZA a,Za,Zj5,ZU a e];unfold JV ZbO ZbP ZbQ;rw[Kq a];by_cases d:0<i
    ·simp only[Zlh a e d,Za,Ze d,Zd,Vaa]
     grind
    grind
   rw[Jl (n:=l.length) (fun i st=>st=(i:Int)) (JV l n lo c) (fun i=>.inr (JV l n lo c i)) (.inl ()) ?_ ?_ ?_ (0:Int) rfl]
   ·unfold pick
    grind
   all_goals simp_all
abbrev YN:=Int×Int×Int×List UInt8×Int×Bool×Bool×List Wv×Unit
abbrev Yi:=Int×Int×Int×Int×Bool×Unit
abbrev Zf:=List G7×List YM×List YN×List Yi×List Kj×Ke×Unit
def u0:YN:=(0,0,0,[],0,false,false,[],())
abbrev Zm9:=List UInt8×Int×Int×Unit
def runK(x:YN):Zm9:=(x.2.2.2.1,x.2.1,x.2.2.1,())
open Classical in
noncomputable def XA(n:Zf)(i:Nat):Int:=
 let x:=(n.2.2.1[i]?).getD u0
 if Wr x.2.2.2.1=false then 12 else if (decide (x.1< -1) ||decide (x.2.2.1<0))=true then 2 else if (decide (x.2.1<0) ||decide (36524<x.2.1))=true then 11
 else if (decide (x.2.2.2.2.1<0) ||decide ((n.2.1.length:Int)<=x.2.2.2.2.1))=true then 9
 else if Xf x.2.2.2.2.2.2.2.1 (n.1.length:Int) 0 3155932800≠0 then Xf x.2.2.2.2.2.2.2.1 (n.1.length:Int) 0 3155932800
 else if∃j,j<i/\runK ((n.2.2.1[j]?).getD u0)=runK x then 6 else 0
noncomputable def Zev(n:Zf):Int×Int×Int×Unit:=if 1024<n.2.2.1.length then(2,0,5,()) else pick n.2.2.1.length (XA n) (fun i=>(2,(i:Int),XA n i,())) (0,0,0,())
theorem Zs9(n:Zf)(q:∀x∈n.2.2.1,x.2.2.2.1.length<=9223372036854775807):F91 n=some (Zev n):=by
 unfold F91 Zev F101;by_cases r:1024<n.2.2.1.length
 ·grind
 ·rw[Zg r,Zi (by omega)];simp only[Zc];have s:n.2.2.1.length<=9223372036854775807:=by omega
  rw[Jl (n:=n.2.2.1.length) (fun i st=>∃m,st=((0,0,0,()),m,(i:Int))/\WO (t:=GI) (fun j=>runK ((n.2.2.1[j]?).getD u0)) i m) (XA n) (fun i=>.inr (2,(i:Int),XA n i,())) (.inl (0,0,0,())) ?_ ?_ ?_ _ ⟨[],rfl,WO.nil _⟩]
  ·unfold pick
   grind
  ·rintro i _ b ⟨m,rfl,k⟩ a;have p:=Kq b u0;unfold XA at a;simp only[p]at a;obtain⟨ci,g⟩:=ZiT (n.2.2.1[i]).2.2.2.2.2.2.2.1 (n.1.length:Int) 0 3155932800;by_cases l:Wr (n.2.2.1[i]).2.2.2.1=false
   ·grind
   rw[Zg l]at a;by_cases c:(decide ((n.2.2.1[i]).1< -1) ||decide ((n.2.2.1[i]).2.2.1<0))=true
   ·grind
   rw[Zg c]at a;by_cases d:(decide ((n.2.2.1[i]).2.1<0) ||decide (36524<(n.2.2.1[i]).2.1))=true
   ·grind
   rw[Zg d]at a;by_cases e:(decide ((n.2.2.1[i]).2.2.2.2.1<0) ||decide ((n.2.1.length:Int)<=(n.2.2.1[i]).2.2.2.2.1))=true
   ·grind
   rw[Zg e]at a;by_cases o:Xf (n.2.2.1[i]).2.2.2.2.2.2.2.1 (n.1.length:Int) 0 3155932800=0
   ·rw[Zg (by omega)]at a;by_cases h:∃j,j<i/\runK ((n.2.2.1[j]?).getD u0)=runK n.2.2.1[i]
    ·simp_all
    ·have f:Wr (n.2.2.1[i]).2.2.2.1=true:=by grind
     have u:=DE k h;refine⟨((0,0,0,()),Z0 (Zl GI) (runK n.2.2.1[i]) true m,((i+1:Nat):Int)),?_,_,rfl,?_⟩
     ·simp only[ZL b,Zd,ZA b,Za,Rt _ (q _ (Vf b)),f,Vc,Zc,g,o,decide_true,ZU b s];simp only[Vp,Vm]at c d e;simp only[c.1,c.2,d.1,d.2,e.1,e.2,Zc,Za];rw[show Ve (ZJ (Zl GI) ((n.2.2.1[i]).2.2.2.1,(n.2.2.1[i]).2.1,(n.2.2.1[i]).2.2.1,()) m) false=false from u];rfl
     ·have:=WO.add (t:=GI) rfl k
      grind
   omega
  ·rintro i _ b ⟨m,rfl,k⟩ a;have p:=Kq b u0;obtain⟨ci,g⟩:=ZiT (n.2.2.1[i]).2.2.2.2.2.2.2.1 (n.1.length:Int) 0 3155932800;simp only[ZL b,Zd,ZA b,Za,Rt _ (q _ (Vf b))];unfold XA at a⊢;simp only[p]at a⊢;by_cases l:Wr (n.2.2.1[i]).2.2.2.1=false
   ·grind
   have f:Wr (n.2.2.1[i]).2.2.2.1=true:=by grind
   rw[Zg l]at a⊢;simp only[f,Vc,Zc];by_cases c:(decide ((n.2.2.1[i]).1< -1) ||decide ((n.2.2.1[i]).2.2.1<0))=true
   ·grind
   rw[Zg c]at a⊢;by_cases d:(decide ((n.2.2.1[i]).2.1<0) ||decide (36524<(n.2.2.1[i]).2.1))=true
   ·grind
   rw[Zg d]at a⊢;simp only[Vp,Vm]at c d;simp only[c.1,c.2,d.1,d.2,Zc,Za];by_cases e:(decide ((n.2.2.1[i]).2.2.2.2.1<0) ||decide ((n.2.1.length:Int)<=(n.2.2.1[i]).2.2.2.2.1))=true
   ·grind
   rw[Zg e]at a⊢;simp only[Vp,Vm]at e;simp only[e.1,e.2,Zc,Za,g];by_cases o:Xf (n.2.2.1[i]).2.2.2.2.2.2.2.1 (n.1.length:Int) 0 3155932800=0
   ·rw[Zg (by omega)]at a⊢;simp only[o,decide_true,Vc,Zc];by_cases h:∃j,j<i/\runK ((n.2.2.1[j]?).getD u0)=runK n.2.2.1[i]
    ·rw[Zo h];rw[show Ve (ZJ (Zl GI) ((n.2.2.1[i]).2.2.2.1,(n.2.2.1[i]).2.1,(n.2.2.1[i]).2.2.1,()) m) false=true from (k _).2 h];rfl
    grind
   grind
  grind
theorem ZlU(n:Zf){i:Nat}(l:i<n.2.2.1.length)(y:n.2.2.1.length<=9223372036854775807):F128 n (i:Int)=some (XA n i):=by
 unfold F128 XA;have v:=Kq l u0;simp only[v,ZA l,Za,Zap,Zo2,YZ];by_cases m:Wr (n.2.2.1[i]).2.2.2.1=false
 ·grind
 have f:Wr (n.2.2.1[i]).2.2.2.1=true:=by grind
 rw[Zg m];simp only[f,Vc,Zc];by_cases c:(decide ((n.2.2.1[i]).1< -1) ||decide ((n.2.2.1[i]).2.2.1<0))=true
 ·grind
 rw[Zg c];simp only[Vp,Vm]at c;simp only[c.1,c.2,Zc,Za];by_cases o:(decide ((n.2.2.1[i]).2.1<0) ||decide (36524<(n.2.2.1[i]).2.1))=true
 ·grind
 rw[Zg o]
 have u:0<=(n.2.2.1[i]).2.1/\(n.2.2.1[i]).2.1<=36524:=by
  grind
 simp only[Ze u,Vc,Zc];by_cases d:(decide ((n.2.2.1[i]).2.2.2.2.1<0) ||decide ((n.2.1.length:Int)<=(n.2.2.1[i]).2.2.2.2.1))=true
 ·grind
 rw[Zg d];simp only[Vp,Vm]at d;simp only[d.1,d.2,Zc,Za];by_cases q:Xf (n.2.2.1[i]).2.2.2.2.2.2.2.1 (n.1.length:Int) 0 3155932800=0
 ·rw[Zg (by omega)];simp only[q,decide_true,Vc,Zc]
  have k:=ZbU (i:=i) (p:=fun j=>runK ((n.2.2.1[j]?).getD u0)=runK n.2.2.1[i]) (τ:=Unit ⊕ Int) (R:=.inr 6) (E:=.inl ()) (step:=fun g:Int=>
   bif decide (g<(i:Int)) then
    Vb (idx n.2.2.1 g) fun h=>
     Vb
      (bif decide (h.snd.snd.snd.fst=(n.2.2.1[i]).snd.snd.snd.fst) then
        bif decide (h.snd.fst=(n.2.2.1[i]).snd.fst) then some (decide (h.snd.snd.fst=(n.2.2.1[i]).snd.snd.fst)) else some false
      else some false)
      fun w=>bif w then some (Sum.inr (Sum.inr (6:Int))) else some (Sum.inl (Va .i64 (g+(1:Int))))
   else some (Sum.inr (Sum.inl ()))) (fun j e a=>?_) (fun j e a=>?_) (by simp)
  ·by_cases x:∃j,j<i/\runK ((n.2.2.1[j]?).getD u0)=runK n.2.2.1[i]
   all_goals simp_all
  ·have b:j<n.2.2.1.length:=by omega
   have a:¬runK n.2.2.1[j]=runK n.2.2.1[i]:=by grind
   simp only[ZL e,Zd,ZA b,Za,ZU e (by omega)];by_cases r:(n.2.2.1[j]).2.2.2.1=(n.2.2.1[i]).2.2.2.1
   ·rw[Ze r];by_cases s:(n.2.2.1[j]).2.1=(n.2.2.1[i]).2.1
    ·rw[Ze s];have t:¬(n.2.2.1[j]).2.2.1=(n.2.2.1[i]).2.2.1:=fun t=>a (by unfold runK;grind)
     grind
    grind
   grind
  ·have b:j<n.2.2.1.length:=by omega
   have a:runK n.2.2.1[j]=runK n.2.2.1[i]:=by grind
   unfold runK at a;simp only[Vva,and_true]at a;simp only[ZL e,Zd,ZA b,Za,Ze a.1,Ze a.2.1,Ze a.2.2]
 grind
end Q
namespace Q
open Tr Go Gr
def f0:Kj:=(0,0,0,false,())
def JG(p:Kj):Kj:=(p.1,p.2.1,0,p.2.2.2.1,())
def YC(n:Nat)(p:Kj):Bool:= !decide (0<=p.1/\p.1<(n:Int)) || (!decide (0<=p.2.1/\p.2.1<(n:Int)) ||decide (p.1=p.2.1))
def YD(p:Kj):Bool:=decide (p.2.2.1<1) ||decide (14400<p.2.2.1)
open Classical in
noncomputable def K8(n:Nat)(l:List Kj)(i:Nat):Int:=
 if YC n ((l[i]?).getD f0)=true then 9 else if YD ((l[i]?).getD f0)=true then 2 else if∃j,j<i/\JG ((l[j]?).getD f0)=JG ((l[i]?).getD f0) then 6 else 0
theorem Zai{n:Nat}{l:List Kj}{i:Nat}(h:K8 n l i=0):YC n ((l[i]?).getD f0)=false/\YD ((l[i]?).getD f0)=false/\ ¬∃j,j<i/\JG ((l[j]?).getD f0)=JG ((l[i]?).getD f0):=by
 unfold K8 at h;by_cases a:YC n ((l[i]?).getD f0)=true
 ·grind
 ·rw[Zg a]at h;by_cases b:YD ((l[i]?).getD f0)=true
  all_goals simp_all
theorem Zlb{n:Nat}{p:Kj}(h:YC n p=false):(0<=p.1/\p.1<n)/\(0<=p.2.1/\p.2.1<n)/\p.1≠p.2.1:=by
 unfold YC at h
 grind
theorem Zlc{p:Kj}(h:YD p=false):1<=p.2.2.1/\p.2.2.1<=14400:=by
 unfold YD at h
 grind
theorem Zgg{n:Nat}{l:List Kj}(h:∀i,i<l.length->K8 n l i=0):G2 n l:=by intro p d;obtain⟨i,c,rfl⟩:=Vj d;obtain⟨a,b,_⟩:=Zai (h i c);rw[Kq c]at a b;have:=Zlb a;have:=Zlc b;omega
theorem Zuo(x:Int)(n:Nat):F102 x (n:Int)=some (decide (0<=x/\x<(n:Int))):=by
 unfold F102
 grind
theorem ZiG(n:Nat)(p:Kj):(Vb (F102 p.1 (n:Int)) fun a=>bif !a then some true else Vb (F102 p.2.1 (n:Int)) fun b=>bif !b then some true else some (decide (p.1=p.2.1)))=some (YC n p):=by
 unfold YC;simp only[Zuo,Za]
 grind
theorem ZoI{n:Nat}(c:n<=9223372036854775807)(p:Kj):(Vb (F123 p.1 0 (Va .i64 ((n:Int) - 1))) fun a=>bif !a then some true else Vb (F123 p.2.1 0 (Va .i64 ((n:Int) - 1))) fun b=>bif !b then some true else some (decide (p.1=p.2.1)))=some (YC n p):=by
 have e:Va .i64 ((n:Int) - 1)=(n:Int) - 1:=Zx (by omega) (by omega);have h:∀x:Int,decide (0<=x/\x<=(n:Int) - 1)=decide (0<=x/\x<(n:Int)):=by grind
 unfold YC;simp only[e,YZ,Za,h]
 grind
theorem ZiH(p:Kj):(bif decide (p.2.2.1<(1:Int)) then some true else some (decide ((14400:Int)<p.2.2.1)))=some (YD p):=by
 unfold YD
 grind
theorem ZoJ(p:Kj):decide ((1:Int)<=p.2.2.1/\p.2.2.1<=14400)= !YD p:=by
 unfold YD
 grind
def sameF(a b:Kj):Bool:=decide (a.1=b.1) && (decide (a.2.1=b.2.1) && (decide (a.2.2.1=b.2.2.1) &&a.2.2.2.1==b.2.2.2.1))
def RX(c l:List Kj)(i:Nat):Int:=if sameF ((c[i]?).getD f0) ((l[i]?).getD f0) then 0 else 1
def Xs(c l:List Kj):Bool:=decide (c.length=l.length) && (K6 c.length (RX c l)).isNone
theorem Zje{τ:Type}{c l:List Kj}(h:c.length=l.length)(j:c.length<=9223372036854775807)(R E:τ):run (fun s2:Int=>
              bif decide (s2<(↑(Vg c):Int)) then
               Vb (idx c s2) fun f=>
                Vb (idx l s2) fun g=>
                 bif !(decide (f.fst=g.fst) && (decide (f.snd.fst=g.snd.fst) && (decide (f.snd.snd.fst=g.snd.snd.fst) &&f.snd.snd.snd.fst==g.snd.snd.snd.fst))) then
                  some (Sum.inr R)
                 else some (Sum.inl (Va .i64 (s2+(1:Int))))
              else some (Sum.inr E)) (0:Int)=some (if (K6 c.length (RX c l)).isNone then E else R):=by
 rw[Jl (n:=c.length) (fun i st=>st=(i:Int)) (RX c l) (fun _=>R) E ?_ ?_ ?_ (0:Int) rfl]
 ·unfold pick
  grind
 ·rintro i _ b rfl d;have a:i<l.length:=by omega
  refine⟨((i+1:Nat):Int),?_,rfl⟩;unfold RX at d;rw[Kq b,Kq a]at d
  have e:sameF c[i] l[i]=true:=by
   grind
  unfold sameF at e;simp only[ZL b,Zd,ZA b,ZA a,Za,e,Vc,Zc,ZU b j]
 ·rintro i _ b rfl d;have a:i<l.length:=by omega
  unfold RX at d;rw[Kq b,Kq a]at d
  have e:sameF c[i] l[i]=false:=by
   grind
  unfold sameF at e;simp only[ZL b,Zd,ZA b,ZA a,Za,e,Vn]
 simp
theorem Ztv{n:Nat}{l:List Kj}(u:l.length<=4096)(h:∀i,i<l.length->K8 n l i=0):F60 l (n:Int)=some (0,0):=by
 unfold F60
 have b:∀i (_:i<l.length),¬∃j,j<i/\(fun j=>(((l[j]?).getD f0).1,((l[j]?).getD f0).2.1,((l[j]?).getD f0).2.2.2.1,())) j=(((l[i]?).getD f0).1,((l[i]?).getD f0).2.1,((l[i]?).getD f0).2.2.2.1,()):=by
  rintro i a ⟨j,o,k⟩;refine(Zai (h i a)).2.2 ⟨j,o,?_⟩;simp only[Vva,and_true]at k;unfold JG
  grind
 rw[Jl (n:=l.length) (fun i st=>∃m,st=(m,(i:Int))/\WO (t:=XZ) (fun j=>(((l[j]?).getD f0).1,((l[j]?).getD f0).2.1,((l[j]?).getD f0).2.2.2.1,())) i m) (K8 n l) (fun i=>.inr ((i:Int),K8 n l i)) (.inl ()) ?_ ?_ ?_ ([],(0:Int)) ⟨[],rfl,WO.nil _⟩]
 ·unfold pick;rw[ZdK h];rfl
 ·rintro i _ a ⟨m,rfl,e⟩ g;have p:=Kq a f0;have v:=DE e (b i a);obtain⟨c,d,_⟩:=Zai g;rw[p]at c d;obtain⟨q,r,f⟩:=Zlb c;have s:=Zlc d;refine⟨(Z0 (Zl XZ) ((l[i]).1,(l[i]).2.1,(l[i]).2.2.2.1,()) true m,((i+1:Nat):Int)),?_,_,rfl,?_⟩
  ·simp only[ZL a,Zd,ZA a,Za,show decide ((l[i]).1<0)=false from (by grind),show decide ((n:Int)<=(l[i]).1)=false from (by grind),show decide ((l[i]).2.1<0)=false from (by grind),
    show decide ((n:Int)<=(l[i]).2.1)=false from (by grind),Zi f,Zc,show decide ((l[i]).2.2.1<1)=false from (by grind),show decide ((14400:Int)<(l[i]).2.2.1)=false from (by grind),ZU a (by omega)]
   grind
  ·have:=WO.add (t:=XZ) rfl e
   grind
 all_goals grind
theorem ZqV{n:Nat}(g:n<=64){l:List Kj}(b:l.length<=4096)(h:∀i,i<l.length->K8 n l i=0):∃c,F117 l (n:Int)=some c/\c.length<=8192/\F55 l (n:Int)=some (Xs c l):=by
 obtain⟨c,d,e,f⟩:=ZfO g (Zgg h) b;refine⟨c,e,f,?_⟩;unfold F55 Xs;rw[Ztv b h]
 have em:Tr.imax (n:Int) 0=(n:Int):=by rfl
 simp only[show decide ((64:Int)<(n:Int))=false from (by grind),Zc,Za,decide_true,Vc,em];rw[d];simp only[Za];by_cases a:c.length=l.length
 ·rw[Ze (by omega),Ze a];simp only[Vc,Zc,Vaa];rw[Zje a (by omega) _ _]
  grind
 grind
theorem ZrZ(n:Zf)(J:n.1.length<=64)(I:n.2.2.2.2.1.length<=4096):∃c,((∀i,i<n.2.2.2.2.1.length->K8 n.1.length n.2.2.2.2.1 i=0)->F117 n.2.2.2.2.1 (n.1.length:Int)=some c)/\F90 n=some (match K6 n.2.2.2.2.1.length (K8 n.1.length n.2.2.2.2.1) with
 |some i=>(4,(i:Int),K8 n.1.length n.2.2.2.2.1 i,())
 |none=>if Xs c n.2.2.2.2.1 then(0,0,0,()) else(4,0,18,()))/\
 F126 n=some (match K6 n.2.2.2.2.1.length (K8 n.1.length n.2.2.2.2.1) with
  |some i=>((i:Int),K8 n.1.length n.2.2.2.2.1 i)
  |none=>if Xs c n.2.2.2.2.1 then(0,0) else(0,18)):=by
 have x:n.2.2.2.2.1.length<=9223372036854775807:=by omega
 have code:run (fun s0:(Int×Int×Int×Unit) ×List (Kj×Bool) ×Int=>
       bif decide (s0.snd.snd<(↑(Vg n.snd.snd.snd.snd.fst):Int)) then
        Vb (idx n.snd.snd.snd.snd.fst s0.snd.snd) fun e=>
         Vb
          (Vb (F102 e.fst (↑(Vg n.fst):Int)) fun K=>
            bif !K then some true
            else Vb (F102 e.snd.fst (↑(Vg n.fst):Int)) fun L=>bif !L then some true else some (decide (e.fst=e.snd.fst)))
          fun M=>
          bif M then Vb (F101 (4:Int) s0.snd.snd (9:Int)) fun N=>some (Sum.inr (Sum.inr N))
          else
           Vb (bif decide (e.snd.snd.fst<(1:Int)) then some true else some (decide ((14400:Int)<e.snd.snd.fst))) fun O=>
            bif O then Vb (F101 (4:Int) s0.snd.snd (2:Int)) fun l=>some (Sum.inr (Sum.inr l))
            else
             bif Ve (ZJ (Zl Wh) (e.fst,e.snd.fst,(0:Int),e.snd.snd.snd.fst,()) s0.snd.fst) (false) then
              Vb (F101 (4:Int) s0.snd.snd (6:Int)) fun y=>some (Sum.inr (Sum.inr y))
             else
              some
               (Sum.inl
                 (s0.fst,Z0 (Zl Wh) (e.fst,e.snd.fst,(0:Int),e.snd.snd.snd.fst,()) true s0.snd.fst,Va .i64 (s0.snd.snd+(1:Int))))
       else some (Sum.inr (Sum.inl s0.fst)))
  (((0:Int),(0:Int),(0:Int),()),[],(0:Int))=some (pick n.2.2.2.2.1.length (K8 n.1.length n.2.2.2.2.1) (fun i=>.inr (4,(i:Int),K8 n.1.length n.2.2.2.2.1 i,())) (.inl (0,0,0,()))):=by
  refine Jl (n:=n.2.2.2.2.1.length) (fun i st=>∃m,st=((0,0,0,()),m,(i:Int))/\WO (t:=Wh) (fun j=>JG ((n.2.2.2.2.1[j]?).getD f0)) i m) (K8 n.1.length n.2.2.2.2.1) _ _ ?_ ?_ ?_ _ ⟨[],rfl,WO.nil _⟩
  ·rintro i _ a ⟨m,rfl,z⟩ h;have u:=Kq a f0;obtain⟨d,f,o⟩:=Zai h;have D:=DE z o;rw[u]at d f D;refine⟨((0,0,0,()),Z0 (Zl Wh) (JG n.2.2.2.2.1[i]) true m,((i+1:Nat):Int)),?_,_,rfl,?_⟩
   ·simp only[ZL a,Zd,ZA a,Za,ZU a x];rw[ZiG,ZiH];simp only[Za,d,f,Zc];rw[show Ve (ZJ (Zl Wh) ((n.2.2.2.2.1[i]).1,(n.2.2.2.2.1[i]).2.1,(0:Int),(n.2.2.2.2.1[i]).2.2.2.1,()) m) false=false from D];rfl
   ·have:=WO.add (t:=Wh) rfl z
    grind
  ·rintro i _ a ⟨m,rfl,z⟩ h;have u:=Kq a f0;simp only[ZL a,Zd,ZA a,Za];rw[ZiG,ZiH];simp only[Za];unfold K8 at h⊢;rw[u]at h;simp only[u];by_cases d:YC n.1.length n.2.2.2.2.1[i]=true
   ·rw[Zo d,d];rfl
   rw[Zg d]at h⊢;have q:YC n.1.length n.2.2.2.2.1[i]=false:=by grind
   simp only[q,Zc];by_cases f:YD n.2.2.2.2.1[i]=true
   ·rw[Zo f,f];rfl
   rw[Zg f]at h⊢;have r:YD n.2.2.2.2.1[i]=false:=by grind
   simp only[r,Zc];by_cases o:∃j,j<i/\JG ((n.2.2.2.2.1[j]?).getD f0)=JG n.2.2.2.2.1[i]
   ·rw[Zo o];rw[show Ve (ZJ (Zl Wh) ((n.2.2.2.2.1[i]).1,(n.2.2.2.2.1[i]).2.1,(0:Int),(n.2.2.2.2.1[i]).2.2.2.1,()) m) false=true from (z _).2 o];rfl
   grind
  grind
 have C:∀i (a:i<n.2.2.2.2.1.length) (τ:Type) (R E:τ),((∃j,j<i/\JG ((n.2.2.2.2.1[j]?).getD f0)=JG n.2.2.2.2.1[i])->run (fun s:Int=>
               bif decide (s<(i:Int)) then
                Vb (idx n.snd.snd.snd.snd.fst s) fun l=>
                 Vb
                  (bif decide (l.fst=(n.2.2.2.2.1[i]).fst) then
                    bif decide (l.snd.fst=(n.2.2.2.2.1[i]).snd.fst) then some (l.snd.snd.snd.fst== (n.2.2.2.2.1[i]).snd.snd.snd.fst) else some false
                  else some false)
                  fun y=>bif y then some (Sum.inr R) else some (Sum.inl (Va .i64 (s+(1:Int))))
               else some (Sum.inr E)) (0:Int)=some R)/\((¬∃j,j<i/\JG ((n.2.2.2.2.1[j]?).getD f0)=JG n.2.2.2.2.1[i])->run (fun s:Int=>
               bif decide (s<(i:Int)) then
                Vb (idx n.snd.snd.snd.snd.fst s) fun l=>
                 Vb
                  (bif decide (l.fst=(n.2.2.2.2.1[i]).fst) then
                    bif decide (l.snd.fst=(n.2.2.2.2.1[i]).snd.fst) then some (l.snd.snd.snd.fst== (n.2.2.2.2.1[i]).snd.snd.snd.fst) else some false
                  else some false)
                  fun y=>bif y then some (Sum.inr R) else some (Sum.inl (Va .i64 (s+(1:Int))))
               else some (Sum.inr E)) (0:Int)=some E):=by
  intro i a τ R E;refine ZbU (p:=fun j=>JG ((n.2.2.2.2.1[j]?).getD f0)=JG n.2.2.2.2.1[i]) (fun j B k=>?_) (fun j B k=>?_) (by simp)
  ·have g:j<n.2.2.2.2.1.length:=by omega
   rw[Kq g f0]at k;simp only[ZL B,Zd,ZA g,Za,ZU B (by omega)];by_cases F:(n.2.2.2.2.1[j]).1=(n.2.2.2.2.1[i]).1
   ·rw[Ze F];by_cases G:(n.2.2.2.2.1[j]).2.1=(n.2.2.2.2.1[i]).2.1
    ·rw[Ze G]
     have H:((n.2.2.2.2.1[j]).2.2.2.1== (n.2.2.2.2.1[i]).2.2.2.1)=false:=by
      cases A:((n.2.2.2.2.1[j]).2.2.2.1== (n.2.2.2.2.1[i]).2.2.2.1) with
      |false=>rfl
      |true=>exact absurd (by unfold JG;grind) k
     grind
    grind
   grind
  ·have g:j<n.2.2.2.2.1.length:=by omega
   rw[Kq g f0]at k;unfold JG at k;simp only[Vva,and_true,true_and]at k;have H:((n.2.2.2.2.1[j]).2.2.2.1== (n.2.2.2.2.1[i]).2.2.2.1)=true:=beq_iff_eq.2 k.2.2;simp only[ZL B,Zd,ZA g,Za,Ze k.1,Ze k.2.1]
   grind
 have b:∀(step:Int->Option (Int ⊕ (Unit ⊕ (Int×Int)))),(∀i,i<n.2.2.2.2.1.length->step (i:Int)=if K8 n.1.length n.2.2.2.2.1 i=0 then some (.inl ((i+1:Nat):Int)) else some (.inr (.inr ((i:Int),K8 n.1.length n.2.2.2.2.1 i))))->step (n.2.2.2.2.1.length:Int)=some (.inr (.inl ()))->
  run step (0:Int)=some (pick n.2.2.2.2.1.length (K8 n.1.length n.2.2.2.2.1) (fun i=>.inr ((i:Int),K8 n.1.length n.2.2.2.2.1 i)) (.inl ())):=by
  intro step d f;refine Jl (fun i st=>st=(i:Int)) _ _ _ ?_ ?_ ?_ _ rfl
  all_goals grind
 have key:∀c,(∀(_:∀i,i<n.2.2.2.2.1.length->K8 n.1.length n.2.2.2.2.1 i=0),F117 n.2.2.2.2.1 (n.1.length:Int)=some c/\c.length<=8192/\F55 n.2.2.2.2.1 (n.1.length:Int)=some (Xs c n.2.2.2.2.1))->
  F90 n=some (match K6 n.2.2.2.2.1.length (K8 n.1.length n.2.2.2.2.1) with
  |some i=>(4,(i:Int),K8 n.1.length n.2.2.2.2.1 i,())
  |none=>if Xs c n.2.2.2.2.1 then(0,0,0,()) else(4,0,18,()))/\
  F126 n=some (match K6 n.2.2.2.2.1.length (K8 n.1.length n.2.2.2.2.1) with
   |some i=>((i:Int),K8 n.1.length n.2.2.2.2.1 i)
   |none=>if Xs c n.2.2.2.2.1 then(0,0) else(0,18)):=by
  intro c h;constructor
  ·unfold F90;rw[show run _ _=some _ from code];unfold pick;simp only[Za]
   cases A:K6 n.2.2.2.2.1.length (K8 n.1.length n.2.2.2.2.1) with
   |some i=>rfl
   |none=>
    obtain⟨_,_,o⟩:=h (WL.1 A);simp only[Vl];rw[o]
    cases Xs c n.2.2.2.2.1<;>rfl
  ·unfold F126;rw[b _ (fun i a=>?_) (by simp)]
   ·unfold pick;simp only[Za]
    cases A:K6 n.2.2.2.2.1.length (K8 n.1.length n.2.2.2.2.1) with
    |some i=>rfl
    |none=>
     obtain⟨d,f,_⟩:=h (WL.1 A);simp only[Vl];rw[d];simp only[Za];unfold Xs;by_cases w:c.length=n.2.2.2.2.1.length
     ·rw[Ze (by omega),Ze w];simp only[Vc,Zc,Vaa];rw[Zje w (by omega) _ _]
      grind
     grind
   ·have u:=Kq a f0;simp only[ZL a,Zd,ZA a,Za,ZU a x];rw[ZoI (by omega),YZ,ZoJ];simp only[Za];unfold K8;rw[u];by_cases d:YC n.1.length n.2.2.2.2.1[i]=true
    ·grind
    have q:YC n.1.length n.2.2.2.2.1[i]=false:=by grind
    rw[Zg d,q];simp only[Zc];by_cases f:YD n.2.2.2.2.1[i]=true
    ·grind
    have r:YD n.2.2.2.2.1[i]=false:=by grind
    rw[Zg f,r];simp only[Vn,Vc,Zc];by_cases o:∃j,j<i/\JG ((n.2.2.2.2.1[j]?).getD f0)=JG n.2.2.2.2.1[i]
    all_goals simp [*]
 by_cases v:∀i,i<n.2.2.2.2.1.length->K8 n.1.length n.2.2.2.2.1 i=0
 ·obtain⟨c,d,f,o⟩:=ZqV J I v
  grind
 grind
end Q
namespace Q
open Tr Go
def KE(f:Int->Option Int)(a:Int):Nat->Option Int
 |0=>some a
 |k+1=>(f a).bind fun b=>KE f b k
inductive J1 (f:Int->Option Int):Int->Prop
 |stop {a:Int} :f a=none->J1 f a
 |step {a b:Int} :f a=some b->J1 f b->J1 f a
theorem J1.next{f:Int->Option Int}{a b:Int}(h:J1 f a)(e:f a=some b):J1 f b:=by
 cases h with
 |stop c=>grind
 |step c d=>grind
theorem Zk3(f:Int->Option Int):∀(k:Nat) (a:Int),KE f a (k+1)=(KE f a k).bind f
 |0,a=>by
  show (f a).bind (fun b=>some b)=f a
  simp
 |k+1,a=>by
  show (f a).bind (fun b=>KE f b (k+1))=((f a).bind fun b=>KE f b k).bind f
  cases h:f a with
  |none=>rfl
  |some b=>exact Zk3 f k b
theorem ZkP{f:Int->Option Int}{a:Int}(h:J1 f a):∀k,KE f a (k+1)≠some a:=by
 induction h with
 |stop c=>intro k d;simp [KE,c]at d
 | @step a b c i g=>
   intro k d;have e:KE f b k=some a:=by simpa [KE,c] using d
   refine g k ?_;rw[Zk3,e]
   grind
theorem few:∀(i:Nat) (l:List Nat),l.Nodup->(∀j∈l,j<i)->l.length<=i
 |0,l,_,h=>by
  cases l with
  |nil=>simp
  |cons a t=>exact absurd (h a (by simp)) (by omega)
 |i+1,l,b,h=>by
  have c:=few i (l.erase i) (b.erase i) (by grind)
  grind
def nx(from_ to_:Nat->Int)(st:Nat->Bool):Nat->Int->Option Int
 |0,_=>none
 |i+1,a=>if st i=true/\from_ i=a then some (to_ i) else nx from_ to_ st i a
variable {from_ to_:Nat->Int}{st:Nat->Bool}
theorem Zcj:∀{i:Nat}{a b:Int},nx from_ to_ st i a=some b->∃j,j<i/\st j=true/\from_ j=a/\to_ j=b
 |0,a,b,h=>by cases h
 |i+1,a,b,h=>by
  unfold nx at h;split at h
  ·grind
  ·obtain⟨j,c,d⟩:=Zcj h
   grind
theorem ZgU:∀{i:Nat}{a:Int},nx from_ to_ st i a=none->∀j,j<i->st j=true->from_ j≠a
 |0,a,_,j,b,_=>by omega
 |i+1,a,h,j,b,d=>by
  unfold nx at h;split at h
  ·cases h
  ·next e=>
   by_cases c:j=i
   ·grind
   ·exact ZgU h j (by omega) d
theorem Zld{i:Nat} :∀(k:Nat) (a c:Int),J1 (nx from_ to_ st i) a->KE (nx from_ to_ st i) a k=some c->
 ∃l:List Nat,l.length=k/\l.Nodup/\ ∀j∈l,j<i/\ ∃t,KE (nx from_ to_ st i) a t=some (from_ j)
 |0,_,_,_,_=>⟨[],rfl,List.nodup_nil,by simp⟩
 |k+1,a,c,p,h=>by
  cases d:nx from_ to_ st i a with
  |none=>simp [KE,d]at h
  |some b=>
   have q:KE (nx from_ to_ st i) b k=some c:=by simpa [KE,d] using h
   obtain⟨l,y,r,o⟩:=Zld k b c (p.next d) q
   obtain⟨j,g,u,e,v⟩:=Zcj d;refine⟨j::l,by grind,List.nodup_cons.2 ⟨fun w=>?_,r⟩,fun x m=>?_⟩
   ·obtain⟨_,t,f⟩:=o j w;rw[e]at f;refine ZkP p t ?_;simpa [KE,d] using f
   ·rcases Vta.1 m with rfl|m
    ·exact⟨g,0,by rw[e];rfl⟩
    ·obtain⟨s,t,f⟩:=o x m;exact⟨s,t+1,by simpa [KE,d] using f⟩
theorem ZrY{i k:Nat}{a c:Int}(d:J1 (nx from_ to_ st i) a)(h:KE (nx from_ to_ st i) a k=some c):k<=i:=by obtain⟨l,e,b,f⟩:=Zld k a c d h;have:=few i l b (by grind);omega
theorem Zp6{f g:Int->Option Int}{fr:Int}(m:∀a,a≠fr->g a=f a){a:Int}(h:J1 f a)(c:∀k,KE f a k≠some fr):J1 g a:=by
 induction h with
 | @stop a d=>
   have:a≠fr:=fun e=>c 0 (by rw[e];rfl)
   exact .stop (by grind)
 | @step a b d l j=>
   have:a≠fr:=fun e=>c 0 (by rw[e];rfl);refine .step (by grind) (j fun k i=>c (k+1) ?_);simpa [KE,d] using i
theorem Zp5{f g:Int->Option Int}{fr to:Int}(l:∀a,a≠fr->g a=f a)(c:g fr=some to)(d:J1 g to){a:Int}(h:J1 f a):J1 g a:=by
 induction h with
 | @stop a i=>
   by_cases e:a=fr
   ·subst e;exact .step c d
   ·exact .stop (by grind)
 | @step a b i k j=>
   by_cases e:a=fr
   ·subst e;exact .step c d
   ·exact .step (by grind) j
theorem Zp7{i:Nat}(h:∀a,J1 (nx from_ to_ st i) a)(f:st i=true->to_ i≠from_ i/\ ∀k,KE (nx from_ to_ st i) (to_ i) (k+1)≠some (from_ i))(a:Int):J1 (nx from_ to_ st (i+1)) a:=by
 by_cases c:st i=true
 ·obtain⟨d,g⟩:=f c;have b:∀a,a≠from_ i->nx from_ to_ st (i+1) a=nx from_ to_ st i a:=fun a j=>Zg (by omega);refine Zp5 b (Zo ⟨c,rfl⟩) (Zp6 b (h _) fun k=>?_) (h a)
  cases k with
  |zero=>exact fun e=>d (Option.some.inj e)
  |succ k=>grind
 ·have:nx from_ to_ st (i+1)=nx from_ to_ st i:=funext fun a=>Zg (by grind)
  grind
theorem Zp8(a:Int):J1 (nx from_ to_ st 0) a:=.stop rfl
theorem Zrc{f:Int->Option Int}{m:List (Int×Int)}(j:∀a,ZJ (Zl Y3) a m=f a){a fr:Int}(e:J1 f a):F100 m a fr=some (m, @decide (∃k,KE f a (k+1)=some fr) (Classical.propDecidable _)):=by
 classical
 unfold F100
 have key:∀a,J1 f a->run (fun s0:Int×Bool=>
       bif s0.snd then
        bif decide (s0.fst=fr) then some (Sum.inr (Sum.inr true))
        else some (Sum.inl (Ve (ZJ (Zl Y3) s0.fst m) ((0:Int)),Vga (ZJ (Zl Y3) s0.fst m)))
       else some (Sum.inr (Sum.inl ())))
  (Ve (ZJ (Zl Y3) a m) ((0:Int)),Vga (ZJ (Zl Y3) a m))=some (if∃k,KE f a (k+1)=some fr then Sum.inr true else Sum.inl ()):=by
  intro a e
  induction e with
  | @stop a c=>
    rw[j a,c,Zg (by rintro ⟨k,d⟩;simp [KE,c]at d)]
    rfl
  | @step a b c o l=>
    rw[j a,c];by_cases g:b=fr
    ·rw[Zo ⟨0,by simp [KE,c,g]⟩];exact XB (by grind)
    ·rw[Hs (s' :=(Ve (ZJ (Zl Y3) b m) ((0:Int)),Vga (ZJ (Zl Y3) b m))) (by grind),l]
     have i:(∃k,KE f b (k+1)=some fr)↔∃k,KE f a (k+1)=some fr:=by
      refine⟨fun⟨k,d⟩=>⟨k+1,by simpa [KE,c] using d⟩,fun⟨k,d⟩=>?_⟩
      cases k with
      |zero=>exact absurd (by simpa [KE,c] using d) g
      |succ k=>exact⟨k,by simpa [KE,c] using d⟩
     simp_all
 refine(congrArg (Vb · _) (key a e)).trans ?_;by_cases h:∃k,KE f a (k+1)=some fr
 all_goals grind
end Q
namespace Q
open Tr Go
theorem Zl6{σ τ:Type}{step:σ->Option (σ ⊕ τ)}{n:Nat}(a:Nat->σ->Prop)(chk:Nat->Int)(R:Nat->τ)(E:τ)
 (b:∀i s,i<n->(∀j,j<i->chk j=0)->a i s->(chk i=0/\ ∃s',step s=some (.inl s')/\a (i+1) s')\/(chk i≠0/\step s=some (.inr (R i))))
 (c:∀s,a n s->step s=some (.inr E)) (s:σ) (d:a 0 s):run step s=some (pick n chk R E):=by
 refine Jl (fun i s=>a i s/\ ∀j,j<i->chk j=0) chk R E ?_ ?_ (by grind) s (by grind)
 all_goals grind
def l0:Yi:=(0,0,0,0,false,())
def lk(n:Zf)(j:Nat):Yi:=(n.2.2.2.1[j]?).getD l0
def rn(n:Zf)(a:Int):YN:=(n.2.2.1[a.toNat]?).getD u0
def cl(l:List Wv)(a:Int):Wv:=(l[a.toNat]?).getD c0
def ZT(x:Int)(m:Nat):Bool:=decide (0<=x) &&decide (x<(m:Int))
def K7(n:Zf)(i:Nat):Int->Option Int:=nx (fun j=>(lk n j).1) (fun j=>(lk n j).2.2.1) (fun j=>(lk n j).2.2.2.2.1) i
abbrev ZhW:=List Int
def XQ(x:Yi):ZhW:=[x.1,x.2.1,x.2.2.1,x.2.2.2.1]
theorem Zun(x:Int)(m:Nat):F102 x (m:Int)=some (ZT x m):=by
 unfold F102 ZT
 grind
theorem Wy{α:Type}{l:List α}{x:Int}(h:ZT x l.length=true)(d:α):idx l x=some ((l[x.toNat]?).getD d):=by
 unfold ZT at h;simp only[Vk,KL]at h;have e:x=(x.toNat:Int):=by omega
 have a:x.toNat<l.length:=by omega
 rw[e,ZA a,Vq,Kq a]
def YT(n:Zf)(x:Yi):Bool:= !ZT x.1 n.2.2.1.length|| (!ZT x.2.2.1 n.2.2.1.length||decide (x.1=x.2.2.1))
def HF(n:Zf)(x:Yi):Bool:= !ZT x.2.1 (rn n x.1).2.2.2.2.2.2.2.1.length|| !ZT x.2.2.2.1 (rn n x.2.2.1).2.2.2.2.2.2.2.1.length
open Classical in
noncomputable def WR(n:Zf)(i:Nat):Int:=
 let x:=lk n i
 if YT n x=true then 9 else if HF n x=true then 9
 else if¬(cl (rn n x.1).2.2.2.2.2.2.2.1 x.2.1).1=(cl (rn n x.2.2.1).2.2.2.2.2.2.2.1 x.2.2.2.1).1 then 13
 else if x.2.2.2.2.1=true/\ ¬x.2.1+1=((rn n x.1).2.2.2.2.2.2.2.1.length:Int) then 19
 else if x.2.2.2.2.1=true/\ ¬x.2.2.2.1=0 then 19
 else if x.2.2.2.2.1=true/\ ∃j,j<i/\(lk n j).2.2.2.2.1=true/\((lk n j).1=x.1\/(lk n j).2.2.1=x.2.2.1) then 19
 else if x.2.2.2.2.1=true/\ ∃k,KE (K7 n i) x.2.2.1 (k+1)=some x.1 then 19
 else if∃j,j<i/\XQ (lk n j)=XQ x then 6 else 0
theorem Zaa{n:Zf}{i:Nat}(h:WR n i=0):YT n (lk n i)=false/\HF n (lk n i)=false/\((lk n i).2.2.2.2.1=true->
 (¬∃j,j<i/\(lk n j).2.2.2.2.1=true/\((lk n j).1=(lk n i).1\/(lk n j).2.2.1=(lk n i).2.2.1))/\ ¬∃k,KE (K7 n i) (lk n i).2.2.1 (k+1)=some (lk n i).1):=by
 unfold WR at h;simp only at h;by_cases a:YT n (lk n i)=true
 ·grind
 rw[Zg a]at h;by_cases b:HF n (lk n i)=true
 ·grind
 rw[Zg b]at h;refine⟨by grind,by grind,fun c=>?_⟩
 repeat (split at h; · omega)
 grind
theorem ZdE{n:Zf} :∀{i:Nat},(∀j,j<i->WR n j=0)->∀a,J1 (K7 n i) a
 |0,_,a=>Zp8 a
 |i+1,h,a=>by
  obtain⟨b,_,c⟩:=Zaa (h i (by omega));refine Zp7 (ZdE (by grind)) (fun f=>⟨fun e=>?_,fun k d=>(c f).2 ⟨k,d⟩⟩) a;unfold YT at b
  grind
theorem ZqH{n:Zf}{j:Nat}(h:WR n j=0):0<=(lk n j).1:=by
 obtain⟨a,_⟩:=Zaa h;unfold YT ZT at a
 grind
end Q
namespace Q
open Tr Go
noncomputable def Zd0(n:Zf):Int×Int×Int×Unit:=if 1024<n.2.2.2.1.length then(3,0,5,()) else pick n.2.2.2.1.length (WR n) (fun i=>(3,(i:Int),WR n i,())) (0,0,0,())
theorem Du{n:Zf}{a:Int}(h:ZT a n.2.2.1.length=true):rn n a∈n.2.2.1:=by
 unfold ZT at h;simp only[Vk,KL]at h;have b:a.toNat<n.2.2.1.length:=by omega
 unfold rn
 grind
def LSt(n:Zf)(i:Nat)(s:(Int×Int×Int×Unit) ×List (Int×Int) ×List (Int×Bool) ×List (ZhW×Bool) ×Int):Prop:=
 ∃d c e,s=((0,0,0,()),d,c,e,(i:Int))/\(∀a,ZJ (Zl Y3) a d=K7 n i a)/\(∀b,Ve (ZJ (Zl Y3) b c) false=true↔∃j,j<i/\(lk n j).2.2.2.2.1=true/\(lk n j).2.2.1=b)
  /\WO (t:=Jd) (fun j=>XQ (lk n j)) i e
theorem ZkR{n:Zf}{i:Nat}{a:Int} :(K7 n i a).isSome=true↔∃j,j<i/\(lk n j).2.2.2.2.1=true/\(lk n j).1=a:=by
 cases h:K7 n i a with
 |none=>
  refine⟨by simp,fun⟨j,c,d,e⟩=>absurd e (ZgU h j c d)⟩
 |some b=>
  obtain⟨j,c,d,e,_⟩:=Zcj h
  grind
theorem Zrt(n:Zf)(P:∀x∈n.2.2.1,x.2.2.2.2.2.2.2.1.length<=9223372036854775807):F89 n=some (Zd0 n):=by
 unfold F89 Zd0 F101;by_cases u:1024<n.2.2.2.1.length
 ·grind
 rw[Zg u,Zi (by omega)];simp only[Zc];have C:n.2.2.2.1.length<=9223372036854775807:=by omega
 rw[Zl6 (n:=n.2.2.2.1.length) (LSt n) (WR n) (fun i=>.inr (3,(i:Int),WR n i,())) (.inl (0,0,0,())) ?_ ?_ ((0,0,0,()),[],[],[],(0:Int))
  ⟨[],[],[],rfl,fun _=>rfl,fun b=>⟨fun h=>(nomatch h),by omega⟩,WO.nil _⟩]
 ·unfold pick
  grind
 ·rintro i _ q R ⟨A,s,f,rfl,v,W,m⟩;have U:n.2.2.2.1[i]=lk n i:=(Kq q l0).symm;simp only[ZL q,Zd,ZA q,Za,U,Zun];have c:WR n i=WR n i:=rfl
  conv at c=>rhs;unfold WR
  simp only at c;generalize E:lk n i=x at c⊢;by_cases g:YT n x=true
  ·rw[Zo g]at c;refine .inr ⟨by omega,?_⟩;rw[c];unfold YT at g
   grind
  rw[Zg g]at c;unfold YT at g;simp only[Vp,Vm,Vx]at g;obtain⟨B,F,V⟩:=g;have L:idx n.2.2.1 x.1=some (rn n x.1):=Wy B u0;have M:idx n.2.2.1 x.2.2.1=some (rn n x.2.2.1):=Wy F u0;simp only[B,F,V,Vc,Zc,Za,L,M];by_cases l:HF n x=true
  ·rw[Zo l]at c;refine .inr ⟨by omega,?_⟩;rw[c];unfold HF at l
   grind
  rw[Zg l]at c;unfold HF at l;simp only[Vp,Vm,Vx]at l;obtain⟨w,G⟩:=l;have N:idx (rn n x.1).2.2.2.2.2.2.2.1 x.2.1=some (cl (rn n x.1).2.2.2.2.2.2.2.1 x.2.1):=Wy w c0;have O:idx (rn n x.2.2.1).2.2.2.2.2.2.2.1 x.2.2.2.1=some (cl (rn n x.2.2.1).2.2.2.2.2.2.2.1 x.2.2.2.1):=Wy G c0;simp only[w,G,Vc,Zc,Za,N,O];by_cases H:(cl (rn n x.1).2.2.2.2.2.2.2.1 x.2.1).1=(cl (rn n x.2.2.1).2.2.2.2.2.2.2.1 x.2.2.2.1).1
  case neg=>
   grind
  rw[Zg (by omega)]at c;simp only[Ze H,Vc,Zc];by_cases D:x.2.2.2.2.1=true
  ·simp only[D,true_and,Zd]at c⊢
   have T:Va .i64 (x.2.1+1)=x.2.1+1:=by have z:=P _ (Du B);unfold ZT at w;simp only[Vk,KL]at w;exact Zx (by omega) (by omega)
   rw[T];by_cases I:x.2.1+1=((rn n x.1).2.2.2.2.2.2.2.1.length:Int)
   case neg=>
    grind
   rw[Zg (by omega)]at c;simp only[Ze I,Vc,Zc];by_cases J:x.2.2.2.1=0
   case neg=>
    grind
   rw[Zg (by omega)]at c;simp only[Ze J,Vc,Zc,v,Zrc v (ZdE R x.2.2.1),Za];by_cases y:∃j,j<i/\(lk n j).2.2.2.2.1=true/\((lk n j).1=x.1\/(lk n j).2.2.1=x.2.2.1)
   ·rw[Zo y]at c;refine .inr ⟨by omega,?_⟩;rw[c];by_cases e:(K7 n i x.1).isSome=true
    ·grind
    ·have o:Ve (ZJ (Zl Y3) x.2.2.1 s) false=true:=by
      obtain⟨j,u,z,p⟩:=y;rcases p with p|p
      ·exact absurd (ZkR.2 ⟨j,u,z,p⟩) e
      grind
     grind
   rw[Zg y]at c
   have e:(K7 n i x.1).isSome=false:=by
    cases S:(K7 n i x.1).isSome with
    |false=>rfl
    |true=>obtain⟨j,u,z,p⟩:=ZkR.1 S;grind
   have o:Ve (ZJ (Zl Y3) x.2.2.1 s) false=false:=by
    grind
   simp only[e,o,Zc];by_cases K:∃k,KE (K7 n i) x.2.2.1 (k+1)=some x.1
   ·grind
   rw[Zg (by grind)]at c;simp only[@decide_eq_false _ (Classical.propDecidable _) K,Zc];by_cases d:∃j,j<i/\XQ (lk n j)=XQ x
   ·rw[Zo d]at c;refine .inr ⟨by omega,?_⟩;rw[c];rw[show Ve (ZJ (Zl Jd) [x.1,x.2.1,x.2.2.1,x.2.2.2.1] f) false=true from (m _).2 d];rfl
   rw[Zg d]at c;refine .inl ⟨c,_,?_,Z0 (Zl Y3) x.1 x.2.2.1 A,Z0 (Zl Y3) x.2.2.1 true s,Z0 (Zl Jd) (XQ x) true f,rfl,?_,?_,?_⟩
   ·rw[show Ve (ZJ (Zl Jd) [x.1,x.2.1,x.2.2.1,x.2.2.2.1] f) false=false from DE m d];simp only[Zc,ZU q C];rfl
   ·intro a;rw[GL rfl,v];show _=nx _ _ _ (i+1) a;unfold nx;simp only[E,D,true_and];by_cases Q:a=x.1
    ·grind
    ·rw[Zg Q,Zg (by grind)];rfl
   ·intro b;rw[GL rfl]
    grind
   ·have:=WO.add (t:=Jd) rfl m
    grind
  ·have r:x.2.2.2.2.1=false:=by grind
   simp only[r,Vda,false_and,if_false,Zc]at c⊢;by_cases d:∃j,j<i/\XQ (lk n j)=XQ x
   ·rw[Zo d]at c;refine .inr ⟨by omega,?_⟩;rw[c];rw[show Ve (ZJ (Zl Jd) [x.1,x.2.1,x.2.2.1,x.2.2.2.1] f) false=true from (m _).2 d];rfl
   rw[Zg d]at c;refine .inl ⟨c,_,?_,A,s,Z0 (Zl Jd) (XQ x) true f,rfl,?_,?_,?_⟩
   ·rw[show Ve (ZJ (Zl Jd) [x.1,x.2.1,x.2.2.1,x.2.2.2.1] f) false=false from DE m d];simp only[Zc,ZU q C];rfl
   ·intro a;rw[v];show _=nx _ _ _ (i+1) a;unfold nx;simp only[E,r,Vda,false_and,if_false];rfl
   ·grind
   ·have:=WO.add (t:=Jd) rfl m
    grind
 ·rintro _ ⟨A,s,f,rfl,_⟩;simp
end Q
namespace Q
open Tr Go
theorem Zb6(x:Int){m:Nat}(b:m<=9223372036854775807):F123 x 0 (Va .i64 ((m:Int) - 1))=some (ZT x m):=by
 rw[YZ,Zx (by omega) (by omega)];unfold ZT;by_cases a:0<=x
 all_goals grind
theorem Zq7(n:Zf){i:Nat}(o:i<=n.2.2.2.1.length)(l:n.2.2.2.1.length<=9223372036854775807)(a:Int):
 run (fun b:Int×Int=>
          bif decide (b.snd<(i:Int)) then
           Vb
            (Vb (idx n.snd.snd.snd.fst b.snd) fun d=>
              bif d.snd.snd.snd.snd.fst then Vb (idx n.snd.snd.snd.fst b.snd) fun e=>some (decide (e.fst=a)) else some false)
            fun f=>
            bif f then Vb (idx n.snd.snd.snd.fst b.snd) fun g=>some (Sum.inl (g.snd.snd.fst,Va .i64 (b.snd+(1:Int))))
            else some (Sum.inl (b.fst,Va .i64 (b.snd+(1:Int))))
          else some (Sum.inr b.fst))
       ((-1:Int),(0:Int))=some ((K7 n i a).getD (-1)):=by
 have h:=Jl (n:=i) (fun j (st:Int×Int)=>st=((K7 n j a).getD (-1),(j:Int))) (fun _=>0) (fun _=>(K7 n i a).getD (-1)) ((K7 n i a).getD (-1)) (step:=fun b:Int×Int=>
          bif decide (b.snd<(i:Int)) then
           Vb
            (Vb (idx n.snd.snd.snd.fst b.snd) fun d=>
              bif d.snd.snd.snd.snd.fst then Vb (idx n.snd.snd.snd.fst b.snd) fun e=>some (decide (e.fst=a)) else some false)
            fun f=>
            bif f then Vb (idx n.snd.snd.snd.fst b.snd) fun g=>some (Sum.inl (g.snd.snd.fst,Va .i64 (b.snd+(1:Int))))
            else some (Sum.inl (b.fst,Va .i64 (b.snd+(1:Int))))
          else some (Sum.inr b.fst)) ?_ ?_ ?_ ((-1:Int),(0:Int)) rfl
 ·rw[h];unfold pick
  grind
 ·rintro j _ k rfl _;have c:j<n.2.2.2.1.length:=by omega
  have m:n.2.2.2.1[j]=lk n j:=(Kq c l0).symm;refine⟨((K7 n (j+1) a).getD (-1),((j+1:Nat):Int)),?_,rfl⟩;simp only[ZL k,Zd,ZA c,Za,m,ZU c l]
  have p:K7 n (j+1) a=if (lk n j).2.2.2.2.1=true/\(lk n j).1=a then some (lk n j).2.2.1 else K7 n j a:=rfl
  grind
 all_goals simp
theorem Zrb(n:Zf){i:Nat}(u:i<=n.2.2.2.1.length)(E:n.2.2.2.1.length<=9223372036854775806)(p:∀j,j<i->WR n j=0)(to fr:Int)(s:0<=fr):
 F124 n (i:Int) to fr=some (@decide (∃k,KE (K7 n i) to (k+1)=some fr) (Classical.propDecidable _)):=by
 classical
 unfold F124
 have f:K7 n i (-1)=none:=by
  cases h:K7 n i (-1) with
  |none=>rfl
  |some b=>
   obtain⟨j,l,C,D,_⟩:=Zcj h;have:=ZqH (p j l);omega
 have m:=Zq7 n u (by omega)
 have key:∀(r k:Nat) (a:Int),i+1 - k=r->k<=i+1->run (fun s0:Int×Int=>
       bif decide (s0.snd<=(i:Int)) then
        Vb
         (run
           (fun c=>
             bif decide (c.snd<(i:Int)) then
              Vb
               (Vb (idx n.snd.snd.snd.fst c.snd) fun y=>
                 bif y.snd.snd.snd.snd.fst then Vb (idx n.snd.snd.snd.fst c.snd) fun z=>some (decide (z.fst=s0.fst)) else some false)
               fun A=>
               bif A then Vb (idx n.snd.snd.snd.fst c.snd) fun B=>some (Sum.inl (B.snd.snd.fst,Va .i64 (c.snd+(1:Int))))
               else some (Sum.inl (c.fst,Va .i64 (c.snd+(1:Int))))
             else some (Sum.inr c.fst))
           ((-1:Int),(0:Int)))
         fun q=>bif decide (q=fr) then some (Sum.inr (Sum.inr true)) else some (Sum.inl (q,Va .i64 (s0.snd+(1:Int))))
       else some (Sum.inr (Sum.inl ())))
  (a,(k:Int))=some (if∃t,k+t<=i/\KE (K7 n i) a (t+1)=some fr then Sum.inr true else Sum.inl ()):=by
  intro r
  induction r with
  |zero=>
   intro k a w v;rw[Zg (by omega)]
   exact XB (by grind)
  |succ r x=>
   intro k a w v;have F:Va .i64 ((k:Int)+1)=((k+1:Nat):Int):=by rw[Zx (by omega) (by omega)];omega
   by_cases o:(K7 n i a).getD (-1)=fr
   ·have:K7 n i a=some fr:=by
     cases h:K7 n i a with
     |none=>grind
     |some b=>grind
    rw[Zo ⟨0,by omega,by simp [KE,this]⟩];refine XB ?_
    grind
   ·rw[Hs (s' :=((K7 n i a).getD (-1),((k+1:Nat):Int))) (by
     grind),x (k+1) _ (by omega) (by omega)]
    have e:(∃t,k+1+t<=i/\KE (K7 n i) ((K7 n i a).getD (-1)) (t+1)=some fr)↔∃t,k+t<=i/\KE (K7 n i) a (t+1)=some fr:=by
     cases h:K7 n i a with
     |none=>
      refine⟨fun⟨t,_,d⟩=>?_,fun⟨t,_,d⟩=>?_⟩
      ·simp [KE,f]at d
      ·simp [KE,h]at d
     |some b=>
      refine⟨fun⟨t,l,d⟩=>⟨t+1,by omega,?_⟩,fun⟨t,l,d⟩=>?_⟩
      ·show (K7 n i a).bind (fun b=>KE (K7 n i) b (t+1))=_
       grind
      ·have g:(K7 n i a).bind (fun b=>KE (K7 n i) b t)=some fr:=d;rw[h]at g
       cases t with
       |zero=>rw[h]at o;exact absurd (Option.some.inj g) o
       |succ t=>grind
    simp_all
 refine(congrArg (Vb · _) (key _ 0 to rfl (by omega))).trans ?_
 have e:(∃t,0+t<=i/\KE (K7 n i) to (t+1)=some fr)↔∃k,KE (K7 n i) to (k+1)=some fr:=by refine⟨by grind,fun⟨t,h⟩=>⟨t,?_,h⟩⟩;have:=ZrY (ZdE p to) h;omega
 by_cases h:∃k,KE (K7 n i) to (k+1)=some fr
 all_goals grind
end Q
namespace Q
open Tr Go
theorem Zf3{τ:Type}{step:Int->Option (Int ⊕ τ)}{i:Nat}{p:Nat->Prop}{R E:τ}(c:∀j:Nat,j<i->¬p j->step (j:Int)=some (.inl ((j+1:Nat):Int)))(b:∀j:Nat,j<i->p j->step (j:Int)=some (.inr R))
 (a:step (i:Int)=some (.inr E)):run step (0:Int)=some (@ite _ (∃j,j<i/\p j) (Classical.propDecidable _) R E):=by
 classical
 obtain⟨d,e⟩:=ZbU c b a;by_cases h:∃j,j<i/\p j
 all_goals grind
theorem Zrs(n:Zf){i:Nat}(w:i<n.2.2.2.1.length)(W:n.2.2.2.1.length<=9223372036854775806)(Y:n.2.2.1.length<=9223372036854775807)
 (D:∀x∈n.2.2.1,x.2.2.2.2.2.2.2.1.length<=9223372036854775807) (V:∀j,j<i->WR n j=0):F125 n (i:Int)=some (WR n i):=by
 classical
 unfold F125;have hx:n.2.2.2.1[i]=lk n i:=(Kq w l0).symm;have X:n.2.2.2.1.length<=9223372036854775807:=by omega
 simp only[ZA w,Za,hx,Zb6 _ Y];have c:WR n i=WR n i:=rfl
 conv at c=>rhs;unfold WR
 simp only at c;generalize hy:lk n i=x at c⊢;by_cases s:YT n x=true
 ·rw[Zo s]at c;rw[c];unfold YT at s
  grind
 rw[Zg s]at c;unfold YT at s;simp only[Vp,Vm,Vx]at s;obtain⟨u,z,p3⟩:=s;have Q:idx n.2.2.1 x.1=some (rn n x.1):=Wy u u0;have S:idx n.2.2.1 x.2.2.1=some (rn n x.2.2.1):=Wy z u0;have K:=D _ (Du u);have L:=D _ (Du z);simp only[u,z,p3,Vc,Zc,Za,Q,S,Zb6 _ K,Zb6 _ L];by_cases t:HF n x=true
 ·rw[Zo t]at c;rw[c];unfold HF at t
  grind
 rw[Zg t]at c;unfold HF at t;simp only[Vp,Vm,Vx]at t;obtain⟨F,G⟩:=t;have T:idx (rn n x.1).2.2.2.2.2.2.2.1 x.2.1=some (cl (rn n x.1).2.2.2.2.2.2.2.1 x.2.1):=Wy F c0;have U:idx (rn n x.2.2.1).2.2.2.2.2.2.2.1 x.2.2.2.1=some (cl (rn n x.2.2.1).2.2.2.2.2.2.2.1 x.2.2.2.1):=Wy G c0;simp only[F,G,Vc,Zc,Za,T,U];by_cases H:(cl (rn n x.1).2.2.2.2.2.2.2.1 x.2.1).1=(cl (rn n x.2.2.1).2.2.2.2.2.2.2.1 x.2.2.2.1).1
 case neg=>
  grind
 rw[Zg (by omega)]at c;simp only[Ze H,Vc,Zc];have hw:Va .i64 (((rn n x.1).2.2.2.2.2.2.2.1.length:Int) - 1)=((rn n x.1).2.2.2.2.2.2.2.1.length:Int) - 1:=Zx (by omega) (by omega)
 have f:=Zf3 (i:=i) (p:=fun j=>XQ (lk n j)=XQ x) (τ:=Unit ⊕ Int) (R:=.inr 6) (E:=.inl ()) (step:=fun o:Int=>
                         bif decide (o<(i:Int)) then
                             Vb (idx n.snd.snd.snd.fst o) fun m=>
                              Vb
                               (bif decide (m.fst=x.fst) then
                                 bif decide (m.snd.fst=x.snd.fst) then
                                  bif decide (m.snd.snd.fst=x.snd.snd.fst) then some (decide (m.snd.snd.snd.fst=x.snd.snd.snd.fst))
                                  else some false
                                 else some false
                               else some false)
                               fun A=>bif A then some (Sum.inr (Sum.inr (6:Int))) else some (Sum.inl (Va .i64 (o+(1:Int))))
                          else some (Sum.inr (Sum.inl ()))) (fun j b g=>by
  have a:j<n.2.2.2.1.length:=by omega
  have d:n.2.2.2.1[j]=lk n j:=(Kq a l0).symm;simp only[ZL b,Zd,ZA a,Za,d,ZU b (by omega)];by_cases M:(lk n j).1=x.1
  ·rw[Ze M];by_cases N:(lk n j).2.1=x.2.1
   ·rw[Ze N];by_cases O:(lk n j).2.2.1=x.2.2.1
    ·rw[Ze O];have P:¬(lk n j).2.2.2.1=x.2.2.2.1:=fun P=>g (by unfold XQ;grind)
     grind
    grind
   grind
  grind) (fun j b g=>by
  have a:j<n.2.2.2.1.length:=by omega
  have d:n.2.2.2.1[j]=lk n j:=(Kq a l0).symm;unfold XQ at g;simp only[List.cons.injEq,and_true]at g;simp only[ZL b,Zd,ZA a,Za,d,Ze g.1,Ze g.2.1,Ze g.2.2.1,Ze g.2.2.2]) (by simp)
 by_cases Z:x.2.2.2.2.1=true
 ·simp only[Z,true_and,Zd,hw]at c f⊢;by_cases b4:x.2.1+1=((rn n x.1).2.2.2.2.2.2.2.1.length:Int)
  case neg=>
   grind
  rw[Zg (by omega)]at c;simp only[Ze (show x.2.1=((rn n x.1).2.2.2.2.2.2.2.1.length:Int) - 1 by omega),Vc,Zc,Za];by_cases I:x.2.2.2.1=0
  case neg=>
   grind
  rw[Zg (by omega)]at c
  have v:0<=x.1:=by
   unfold ZT at u
   grind
  have l:=Zf3 (i:=i) (p:=fun j=>(lk n j).2.2.2.2.1=true/\((lk n j).1=x.1\/(lk n j).2.2.1=x.2.2.1)) (τ:=Unit ⊕ Int) (R:=.inr 19) (E:=.inl ()) (step:=fun e:Int=>
                  bif decide (e<(i:Int)) then
                   Vb (idx n.snd.snd.snd.fst e) fun q=>
                    Vb
                     (
                      bif q.snd.snd.snd.snd.fst then
                       bif decide (q.fst=x.fst) then some true else some (decide (q.snd.snd.fst=x.snd.snd.fst))
                      else some false)
                     fun r=>bif r then some (Sum.inr (Sum.inr (19:Int))) else some (Sum.inl (Va .i64 (e+(1:Int))))
                  else some (Sum.inr (Sum.inl ()))) (fun j b g=>by
   have a:j<n.2.2.2.1.length:=by omega
   have d:n.2.2.2.1[j]=lk n j:=(Kq a l0).symm;simp only[ZL b,Zd,ZA a,Za,d,ZU b (by omega)]
   grind) (fun j b g=>by
   have a:j<n.2.2.2.1.length:=by omega
   have d:n.2.2.2.1[j]=lk n j:=(Kq a l0).symm;simp only[ZL b,Zd,ZA a,Za,d,g.1]
   grind) (by simp)
  simp only[Ze I,Vc,Zc];refine(congrArg (Vb · _) l).trans ?_;simp only[Za];by_cases B:∃j,j<i/\(lk n j).2.2.2.2.1=true/\((lk n j).1=x.1\/(lk n j).2.2.1=x.2.2.1)
  ·grind
  rw[Zg B]at c;rw[Zg B];simp only[Vl,Zrb n (Nat.le_of_lt w) W V x.2.2.1 x.1 v,Za];by_cases C:∃k,KE (K7 n i) x.2.2.1 (k+1)=some x.1
  ·grind
  rw[Zg C]at c;rw[Zi C];simp only[Zc];refine(congrArg (Vb · _) f).trans ?_;rw[c];by_cases J:∃j,j<i/\XQ (lk n j)=XQ x
  all_goals grind
 ·have y:x.2.2.2.2.1=false:=by grind
  have h:=Zf3 (i:=i) (p:=fun _=>False) (τ:=Unit ⊕ Int) (R:=.inr 19) (E:=.inl ()) (step:=fun e:Int=>
                    bif decide (e<(i:Int)) then
                     Vb (idx n.snd.snd.snd.fst e) fun _=>
                      Vb
                       (some false)
                       fun r=>bif r then some (Sum.inr (Sum.inr (19:Int))) else some (Sum.inl (Va .i64 (e+(1:Int))))
                    else some (Sum.inr (Sum.inl ()))) (fun j b _=>by
   have a:j<n.2.2.2.1.length:=by omega
   simp only[ZL b,Zd,ZA a,Za,Zc,ZU b (by omega)]) (by simp) (by simp)
  rw[Zg (by simp)]at h;simp only[y,Vda,false_and,if_false,Zc,Za]at c h f⊢;refine(congrArg (Vb · _) h).trans ?_;simp only[Za,Vl];refine(congrArg (Vb · _) f).trans ?_;rw[c];by_cases J:∃j,j<i/\XQ (lk n j)=XQ x
  all_goals grind
end Q
namespace Q
open Tr Go
abbrev Ze1:=Int×Int×Int×Unit
def Zag(a b:Ze1):Ze1:=if a.2.2.1=0 then b else a
theorem ZjG(a b:El KT):F92 [a,b]=some (Zag a (Zag b (0,0,0,()))):=by
 revert a b
 show∀a b:Ze1,F92 [a,b]=some (Zag a (Zag b (0,0,0,())));intro a b;unfold F92 Zag;by_cases c:a.2.2.1=0
 ·rw[Zo c];by_cases d:b.2.2.1=0
  ·rw[Zo d,Hs (s' :=((0,0,0,()),(1:Int))) (by simp [idx,c,Va,Vz,Vca]),Hs (s' :=((0,0,0,()),(2:Int))) (by simp [idx,d,Va,Vz,Vca]),XB (r:=.inl (0,0,0,())) (by simp)];rfl
  ·rw[Zg d,Hs (s' :=((0,0,0,()),(1:Int))) (by simp [idx,c,Va,Vz,Vca]),XB (r:=.inr b) (by simp [idx,d])];rfl
 ·rw[Zg c,XB (r:=.inr a) (by simp [idx,c])];rfl
structure W1 (n:Zf):Prop where
 stops:∀x∈n.1,x.1.length<=9223372036854775807
 routes:∀x∈n.2.1,x.1.length<=9223372036854775807
 runs:∀x∈n.2.2.1,x.2.2.2.1.length<=9223372036854775807
 calls:∀x∈n.2.2.1,x.2.2.2.2.2.2.2.1.length<=9223372036854775807
 paths:n.2.2.2.2.1.length<=4096
 prods:∀x∈n.2.2.2.2.2.1.1,x.1.length<=9223372036854775807
def Zh2(l:List Wv):Prop:= ∀i (a:i<l.length),0<=l[i].2.1/\l[i].2.1<=l[i].2.2.1/\l[i].2.2.1<=3155932800/\(0<i->(l[i - 1]'(by omega)).1≠l[i].1/\(l[i - 1]'(by omega)).2.2.1<=l[i].2.1)
structure Wa (n:Zf):Prop where
 stops:n.1.length<=64
 runs:n.2.2.1.length<=1024
 links:n.2.2.2.1.length<=1024
 zone:∀x∈n.1,0<=x.2.1/\x.2.1<16
 mode:∀x∈n.2.1,0<=x.2.1/\x.2.1<=7
 route:∀x∈n.2.2.1,0<=x.2.2.2.2.1/\x.2.2.2.2.1<(n.2.1.length:Int)
 many:∀x∈n.2.2.1,2<=x.2.2.2.2.2.2.2.1.length/\x.2.2.2.2.2.2.2.1.length<=32
 call:∀x∈n.2.2.1,∀c∈x.2.2.2.2.2.2.2.1,0<=c.1/\c.1<(n.1.length:Int)
 time:∀x∈n.2.2.1,Zh2 x.2.2.2.2.2.2.2.1
 base:∀x∈n.2.2.1, -1<=x.1/\0<=x.2.2.1/\0<=x.2.1/\x.2.1<=36524
 fare:(Js n.2.2.2.2.2.1).2=0
theorem Za9{n:Nat}{chk:Nat->Int}{E:Int×Int}(h:(pick n chk (fun i=>((i:Int),chk i)) E).2=0):∀j,j<n->chk j=0:=by
 unfold pick at h
 cases a:K6 n chk with
 |none=>exact WL.1 a
 |some i=>rw[a]at h;exact absurd h (D7 a).2
theorem Zo1{l:List Wv}{n:Int}(h:Xf l n 0 3155932800=0):Zh2 l:=by
 unfold Xf at h;split at h
 ·omega
 ·intro i e
  have a:JV l n 0 3155932800 i=0:=by
   unfold pick at h
   cases b:K6 l.length (JV l n 0 3155932800) with
   |none=>exact WL.1 b i e
   |some i=>rw[b]at h;exact absurd h (D7 b).2
  unfold JV at a;split at a
  ·omega
  split at a
  ·omega
  next c=>
   split at a
   ·omega
   next d=>
    unfold ZbP at c;unfold ZbQ at d
    grind
theorem ZiU{l:List Wv}{n lo b:Int}(h:Xf l n lo b=0):(2<=l.length/\l.length<=32)/\ ∀c∈l,0<=c.1/\c.1<n:=by
 unfold Xf at h;split at h
 ·omega
 ·refine⟨by omega,fun c f=>?_⟩;obtain⟨j,g,rfl⟩:=Vj f
  have d:JV l n lo b j=0:=by
   unfold pick at h
   cases a:K6 l.length (JV l n lo b) with
   |none=>exact WL.1 a j g
   |some i=>rw[a]at h;exact absurd h (D7 a).2
  unfold JV at d;split at d
  ·omega
  ·next e=>
   unfold ZbO at e
   grind
theorem Ztu{n:Zf}(s:(HU n.1).2=0)(t:(Gt n.2.1).2=0)(u:n.2.2.1.length<=1024)(c:K6 n.2.2.1.length (XA n)=none)(v:n.2.2.2.1.length<=1024)(z:(Js n.2.2.2.2.2.1).2=0):Wa n:=by
 unfold HU at s;unfold Gt at t;split at s
 ·omega
 split at t
 ·omega
 have e:=Za9 s;have f:=Za9 t;have d:=WL.1 c
 have key:∀x∈n.2.2.1,((0<=x.2.2.2.2.1/\x.2.2.2.2.1<(n.2.1.length:Int))/\ -1<=x.1/\0<=x.2.2.1/\0<=x.2.1/\x.2.1<=36524)/\Xf x.2.2.2.2.2.2.2.1 (n.1.length:Int) 0 3155932800=0:=by
  intro x a;obtain⟨j,b,rfl⟩:=Vj a;have h:=d j b;unfold XA at h
  grind
 refine⟨by omega,u,v,fun x a=>?_,fun x a=>?_,by grind,fun x a=>(ZiU (key x a).2).1,fun x a=>(ZiU (key x a).2).2,fun x a=>Zo1 (key x a).2,by grind,z⟩
 ·obtain⟨j,b,rfl⟩:=Vj a;have h:=e j b;unfold HT Yx at h;simp only[Kq b]at h;split at h
  ·omega
  split at h
  all_goals omega
 ·obtain⟨j,b,rfl⟩:=Vj a;have h:=f j b;unfold Gs Yx at h;simp only[Kq b]at h;split at h
  ·omega
  split at h
  all_goals omega
structure Whole (n:Zf):Prop where
 s:(HU n.1).2=0
 t:(Gt n.2.1).2=0
 u:n.2.2.1.length<=1024
 f:K6 n.2.2.1.length (XA n)=none
 v:n.2.2.2.1.length<=1024
 g:K6 n.2.2.2.1.length (WR n)=none
 q:K6 n.2.2.2.2.1.length (K8 n.1.length n.2.2.2.2.1)=none
 w:∀c,F117 n.2.2.2.2.1 (n.1.length:Int)=some c->Xs c n.2.2.2.2.1=true
 z:(Js n.2.2.2.2.2.1).2=0
theorem Whole.sound{n:Zf}(h:Whole n):Wa n:=Ztu h.s h.t h.u h.f h.v h.z
theorem ZfN(n:Zf)(h:W1 n):∃r:Int×Int×Int,F87 n=some r/\F116 n=some r/\(r.2.2=0↔Whole n):=by
 unfold F87 F116;rw[ZtK n.1 h.stops,ZsQ n.2.1 h.routes,ZtL n.1,ZsR n.2.1,Zs9 n h.runs,Zrt n h.calls,Zgd _ h.prods,Zqi];simp only[Za,F101];erw[ZjG];simp only[Za];by_cases s:(HU n.1).2=0
 case neg=>
  refine⟨(0,(HU n.1).1,(HU n.1).2),?_,?_,⟨by grind,fun W=>absurd W.s s⟩⟩
  ·simp only[Zag,Zg s,Zi s,Zc,Za]
  grind
 have y:n.1.length<=64:=by
  unfold HU at s
  grind
 obtain⟨c,d,e,j⟩:=ZrZ n y h.paths;rw[e,j];clear e j;simp only[Za];erw[ZjG];simp only[Zag,Zo s,Ze s,Vc,Zc,Za];by_cases t:(Gt n.2.1).2=0
 case neg=>
  refine⟨(1,(Gt n.2.1).1,(Gt n.2.1).2),?_,?_,⟨by grind,fun W=>absurd W.t t⟩⟩
  all_goals grind
 simp only[Zo t,Ze t,Vc,Zc];by_cases u:1024<n.2.2.1.length
 ·refine⟨(2,0,5),?_,?_,⟨by simp,fun W=>absurd W.u (by omega)⟩⟩
  ·simp [Zev,u]
  grind
 rw[Zi (show¬(1024:Int)<(n.2.2.1.length:Int) by omega)];simp only[Zc];rw[Jl (n:=n.2.2.1.length) (fun i (st:Int)=>st=(i:Int)) (XA n) (fun i=>.inr ((2:Int),(i:Int),XA n i)) (.inl ()) ?_ ?_ ?_ (0:Int) rfl]
 rotate_left
 ·rintro i _ a rfl b;refine⟨((i+1:Nat):Int),?_,rfl⟩;simp only[ZL a,Zd,ZlU n a (by omega),Za,b,decide_true,Vc,Zc,ZU a (by omega)]
 ·rintro i _ a rfl b;simp only[ZL a,Zd,ZlU n a (by omega),Za,Zi b,Vn]
 ·simp
 unfold Zev;rw[Zg u];unfold pick
 cases l:K6 n.2.2.1.length (XA n) with
 |some i=>
  have o:=(D7 l).2;refine⟨(2,(i:Int),XA n i),?_,?_,⟨by grind,fun W=>by rw[W.f]at l;grind⟩⟩
  all_goals grind
 |none=>
 simp only[Za,Vl,decide_true,Zd];by_cases v:1024<n.2.2.2.1.length
 ·refine⟨(3,0,5),?_,?_,⟨by simp,fun W=>absurd W.v (by omega)⟩⟩
  ·simp [Zd0,v]
  grind
 rw[Zi (show¬(1024:Int)<(n.2.2.2.1.length:Int) by omega)];simp only[Zc];rw[Zl6 (n:=n.2.2.2.1.length) (fun i (st:Int)=>st=(i:Int)) (WR n) (fun i=>.inr ((3:Int),(i:Int),WR n i)) (.inl ()) ?_ ?_ (0:Int) rfl]
 rotate_left
 ·rintro i _ a x rfl;have A:=Zrs n a (by omega) (by omega) h.calls x;by_cases b:WR n i=0
  ·refine .inl ⟨b,((i+1:Nat):Int),?_,rfl⟩;simp only[ZL a,Zd,A,Za,b,decide_true,Vc,Zc,ZU a (by omega)]
  grind
 ·simp
 unfold Zd0;rw[Zg v];unfold pick
 cases m:K6 n.2.2.2.1.length (WR n) with
 |some i=>
  have o:=(D7 m).2;refine⟨(3,(i:Int),WR n i),?_,?_,⟨by grind,fun W=>by rw[W.g]at m;grind⟩⟩
  all_goals grind
 |none=>
 simp only[Za,Vl,decide_true,Zd]
 cases k:K6 n.2.2.2.2.1.length (K8 n.1.length n.2.2.2.2.1) with
 |some i=>
  have o:=(D7 k).2;refine⟨(4,(i:Int),K8 n.1.length n.2.2.2.2.1 i),?_,?_,⟨by grind,fun W=>by rw[W.q]at k;grind⟩⟩
  all_goals grind
 |none=>
 by_cases w:Xs c n.2.2.2.2.1=true
 case neg=>
  refine⟨(4,0,18),?_,?_,⟨by simp,fun W=>absurd (W.w c (d (WL.1 k))) w⟩⟩
  all_goals grind
 simp only[Zo w,if_true,decide_true,Vc,Zc];by_cases z:(Js n.2.2.2.2.2.1).2=0
 ·refine⟨(0,0,0),?_,?_,⟨fun _=>⟨s,t,by omega,l,by omega,m,k,fun B p=>by rw[d (WL.1 k)]at p;grind,z⟩,fun _=>rfl⟩⟩
  all_goals grind
 ·refine⟨(5,(Js n.2.2.2.2.2.1).1,(Js n.2.2.2.2.2.1).2),?_,?_,⟨by grind,fun W=>absurd W.z z⟩⟩
  all_goals grind
theorem Zi4(n:Zf)(h:W1 n):∃r:Int×Int×Int,F87 n=some r/\F116 n=some r/\(r.2.2=0->Wa n):=by obtain⟨r,a,b,c⟩:=ZfN n h;exact⟨r,a,b,fun h=>(c.1 h).sound⟩
end Q
namespace Q
open Tr Go
theorem HO{a b:Nat}(e:a<65536)(f:b<65536):KN .i64 (a:Int) (b:Int)=((a ||| b:Nat):Int):=by
 have d:a ||| b<2 ^ 16:=Via (n:=16) (by omega) (by omega);unfold KN
 have c:(Vja Vmb.bits (a:Int) ||| Vja Vmb.bits (b:Int)).toNat=a ||| b:=by
  rw[Vib,Vu,Vu,Vy,Vy];show a % 2 ^ 64 ||| b % 2 ^ 64=a ||| b
  grind
 rw[c,Zx (by omega) (by omega)]
theorem Za5{a b:Nat}(e:a<65536)(f:b<65536):KN .u64 (a:Int) (b:Int)=((a ||| b:Nat):Int):=by
 have d:a ||| b<2 ^ 16:=Via (n:=16) (by omega) (by omega);unfold KN
 have c:(Vja Vnb.bits (a:Int) ||| Vja Vnb.bits (b:Int)).toNat=a ||| b:=by
  rw[Vib,Vu,Vu,Vy,Vy];show a % 2 ^ 64 ||| b % 2 ^ 64=a ||| b
  grind
 rw[c];simp [Va,Vz,Vca];omega
theorem Dz{z:Int}(a:0<=z)(b:z<16):Hq .i64 1 z=some ((2 ^ z.toNat:Nat):Int):=by
 have:z=0\/z=1\/z=2\/z=3\/z=4\/z=5\/z=6\/z=7\/z=8\/z=9\/z=10\/z=11\/z=12\/z=13\/z=14\/z=15:=by omega
 rcases this with rfl|rfl|rfl|rfl|rfl|rfl|rfl|rfl|rfl|rfl|rfl|rfl|rfl|rfl|rfl|rfl<;>decide
theorem Ztj{z:Int}(a:0<=z)(b:z<16):Hq .u64 1 z=some ((2 ^ z.toNat:Nat):Int):=by
 have:z=0\/z=1\/z=2\/z=3\/z=4\/z=5\/z=6\/z=7\/z=8\/z=9\/z=10\/z=11\/z=12\/z=13\/z=14\/z=15:=by omega
 rcases this with rfl|rfl|rfl|rfl|rfl|rfl|rfl|rfl|rfl|rfl|rfl|rfl|rfl|rfl|rfl|rfl<;>decide
theorem Y2{z:Int}(a:z<16):2 ^ z.toNat<65536:=Nat.pow_lt_pow_right (by omega) (show z.toNat<16 by omega)
theorem ZkX{z:Int}(a:0<=z)(b:z<16):F5 z=some ((2 ^ z.toNat:Nat):Int):=by unfold F5;rw[Zi (show¬z<0 by omega),Zi (by omega)];simp only[Zc,Za,Ztj a b]
theorem Zum{m:Nat}(c:m<65536){z:Int}(b:0<=z)(a:z<16):F3 (m:Int) z=some ((m ||| 2 ^ z.toNat:Nat):Int):=by unfold F3;rw[ZkX b a];simp only[Za];rw[Za5 c (Y2 a)]
theorem ZkT{z:Int}(c:0<=z)(b:z<16):F0 [z]=some ((2 ^ z.toNat:Nat):Int):=by
 unfold F0;rw[Hs (s' :=(((2 ^ z.toNat:Nat):Int),(1:Int))) ?_,XB (r:=((2 ^ z.toNat:Nat):Int)) ?_]
 ·rfl
 ·simp
 ·have:=Za5 (a:=0) (by omega) (Y2 b);simp only[Nat.zero_or]at this
  show (bif decide ((0:Int)<((1:Nat):Int)) then _ else _)=_
  rw[Ze (by omega)];simp only[Zd];rw[show idx [z] (0:Int)=some z from rfl];simp only[Za,ZkX c b];rw[show KN .u64 (0:Int) ((2 ^ z.toNat:Nat):Int)=((2 ^ z.toNat:Nat):Int) from this];rfl
end Q
namespace Q
open Tr Go
abbrev Zs:=Bool×Int×Int×Int×Int×Int×Int×Int×Bool×Unit
abbrev ZK:=Int×Int×Int×Int×Unit
abbrev Yh:=List Zs×Unit
def KH(n:Zf)(x:Zs):List Wv:=(rn n x.2.1).2.2.2.2.2.2.2.1
def Ks(n:Zf)(x:Zs):Bool:=ZT x.2.1 n.2.2.1.length&& (decide (0<=x.2.2.1) && (decide (x.2.2.1<x.2.2.2.1) &&decide (x.2.2.2.1<((KH n x).length:Int))))
theorem Zjr(n:Zf)(x:Zs):F84 n x=some (Ks n x):=by
 unfold F84 Ks;by_cases h:ZT x.2.1 n.2.2.1.length=true
 ·have e:idx n.2.2.1 x.2.1=some (rn n x.2.1):=Wy h u0;simp only[e,Za,h];unfold ZT at h;simp only[Vk]at h;simp only[h.1,h.2,Zd];unfold KH
  grind
 ·have a:ZT x.2.1 n.2.2.1.length=false:=by grind
  rw[a];unfold ZT at a
  grind
theorem Zf7(n:Zf)(x:Zs):F133 n x=some (Ks n x):=by
 unfold F133 Ks;by_cases h:ZT x.2.1 n.2.2.1.length=true
 ·have e:idx n.2.2.1 x.2.1=some (rn n x.2.1):=Wy h u0;simp only[e,Za,h];unfold ZT at h;simp only[Vk,KL]at h;rw[Zi (show¬x.2.1<0 by omega),Zi (by omega)];simp only[Zc,Za];unfold KH
  grind
 ·have a:ZT x.2.1 n.2.2.1.length=false:=by grind
  rw[a];unfold ZT at h
  grind
def s0:G7:=([],0,false,0,())
def Gx(n:Zf)(a:Int):G7:=(n.1[a.toNat]?).getD s0
def zn(n:Zf)(l:List Wv)(j:Nat):Nat:=2 ^ (Gx n ((l[j]?).getD c0).1).2.1.toNat
def zN(n:Zf)(l:List Wv)(a:Nat):Nat->Nat
 |0=>0
 |k+1=>zN n l a k ||| zn n l (a+k)
theorem ZcG{n:Zf}(h:Wa n){a:Int}(d:0<=a)(e:a<(n.1.length:Int)):idx n.1 a=some (Gx n a)/\0<=(Gx n a).2.1/\(Gx n a).2.1<16:=by
 have c:ZT a n.1.length=true:=by unfold ZT;grind
 refine⟨Wy c s0,?_⟩;have b:a.toNat<n.1.length:=by omega
 unfold Gx;rw[Kq b];exact h.zone _ (Vf b)
theorem Zbq{n:Zf}(h:Wa n){l:List Wv}(d:∀c∈l,0<=c.1/\c.1<(n.1.length:Int)){a:Nat} :∀k,a+k<=l.length->zN n l a k<65536
 |0,_=>by unfold zN;omega
 |k+1,i=>by
  have g:=Zbq h d (a:=a) k (by omega);have e:a+k<l.length:=by omega
  have b:=d _ (Vf e);have f:=(ZcG h b.1 b.2).2
  have:zn n l (a+k)<65536:=by unfold zn;rw[Kq e];exact Y2 f.2
  exact Via (n:=16) g this
theorem Zm7{n:Zf}(h:Wa n){x:Zs}(q:Ks n x=true):F85 n x=some ((zN n (KH n x) x.2.2.1.toNat (x.2.2.2.1.toNat+1 - x.2.2.1.toNat):Nat):Int):=by
 unfold Ks at q;simp only[Vk,KL]at q;obtain⟨y,z,r,A⟩:=q;have w:=Du y;have f:=(h.many _ w).2;have u:∀c∈KH n x,0<=c.1/\c.1<(n.1.length:Int):=h.call _ w;have e:idx n.2.2.1 x.2.1=some (rn n x.2.1):=Wy y u0;unfold F85;rw[e];simp only[Za];have d:(rn n x.2.1).2.2.2.2.2.2.2.1=KH n x:=rfl;simp only[d]at f⊢;generalize KH n x=l at*;obtain⟨a,s⟩:∃a:Nat,x.2.2.1=(a:Int):=⟨x.2.2.1.toNat,by omega⟩;obtain⟨b,t⟩:∃b:Nat,x.2.2.2.1=(b:Int):=⟨x.2.2.2.1.toNat,by omega⟩;rw[s]at z r;rw[t]at r A;rw[s,t];have C:Va .i64 ((b:Int)+1)=((b+1:Nat):Int):=by rw[Zx (by omega) (by omega)];omega
 have p:sliceB l.length l.length (some (a:Int)) (some ((b+1:Nat):Int))=some (a,b+1):=by
  unfold sliceB
  grind
 rw[C,p];simp only[Za,Vq]
 have j:(Vna (b+1 - a) (List.drop a l)).length=b+1 - a:=by
  grind
 rw[Jl (n:=b+1 - a) (fun i (st:Int×Int)=>st=(((zN n l a i:Nat):Int),(i:Int))) (fun _=>0) (fun _=>((zN n l a (b+1 - a):Nat):Int)) ((zN n l a (b+1 - a):Nat):Int) ?_ ?_ ?_ ((0:Int),(0:Int)) rfl]
 ·unfold pick
  grind
 ·rintro i _ v rfl _;have B:a+i<l.length:=by omega
  have g:=u _ (Vf B);obtain⟨k,m,o⟩:=ZcG h g.1 g.2;refine⟨(((zN n l a (i+1):Nat):Int),((i+1:Nat):Int)),?_,rfl⟩;simp only[j,ZL v,Zd];rw[ZA (by omega)];simp only[List.getElem_take,List.getElem_drop,Za,k,Zum (Zbq h u (a:=a) i (by omega)) m o,ZU v (by omega)]
  have:zN n l a (i+1)=zN n l a i ||| 2 ^ (Gx n l[a+i].1).2.1.toNat:=by
   show zN n l a i ||| zn n l (a+i)=_;unfold zn
   grind
  grind
 all_goals grind
theorem Zm6{n:Zf}(h:Wa n){x:Zs}(o:Ks n x=true):F141 n x=some ((zN n (KH n x) x.2.2.1.toNat (x.2.2.2.1.toNat+1 - x.2.2.1.toNat):Nat):Int):=by
 unfold Ks at o;simp only[Vk,KL]at o;obtain⟨v,w,p,y⟩:=o;have u:=Du v;have f:=(h.many _ u).2;have s:∀c∈KH n x,0<=c.1/\c.1<(n.1.length:Int):=h.call _ u;have e:idx n.2.2.1 x.2.1=some (rn n x.2.1):=Wy v u0;unfold F141;rw[e];simp only[Za];have d:(rn n x.2.1).2.2.2.2.2.2.2.1=KH n x:=rfl;simp only[d]at f⊢;generalize KH n x=l at*;obtain⟨a,q⟩:∃a:Nat,x.2.2.1=(a:Int):=⟨x.2.2.1.toNat,by omega⟩;obtain⟨b,r⟩:∃b:Nat,x.2.2.2.1=(b:Int):=⟨x.2.2.2.1.toNat,by omega⟩;rw[q]at w p;rw[r]at p y;rw[q,r];simp only[Vq];rw[Jl (n:=b+1 - a) (fun i (st:Int×Int)=>st=(((zN n l a i:Nat):Int),((a+i:Nat):Int))) (fun _=>0) (fun _=>((zN n l a (b+1 - a):Nat):Int)) ((zN n l a (b+1 - a):Nat):Int) ?_ ?_ ?_ ((0:Int),(a:Int)) rfl]
 ·unfold pick
  grind
 ·rintro i _ A rfl _;have t:a+i<l.length:=by omega
  have g:=s _ (Vf t);obtain⟨k,m,j⟩:=ZcG h g.1 g.2;refine⟨(((zN n l a (i+1):Nat):Int),((a+(i+1):Nat):Int)),?_,rfl⟩;have z:Va .i64 (((a+i:Nat):Int)+1)=((a+(i+1):Nat):Int):=by rw[Zx (by omega) (by omega)];omega
  simp only[Ze (show ((a+i:Nat):Int)<=(b:Int) by omega),Zd,ZA t,Za,k,Dz m j,z];rw[HO (Zbq h s (a:=a) i (by omega)) (Y2 j)]
  have:zN n l a (i+1)=zN n l a i ||| 2 ^ (Gx n l[a+i].1).2.1.toNat:=by
   show zN n l a i ||| zn n l (a+i)=_;unfold zn
   grind
  grind
 all_goals grind
end Q
namespace Q
open Tr Go
theorem Zs3{σ ρ τ:Type}{f:σ->Option (σ ⊕ τ)}{g:ρ->Option (ρ ⊕ τ)}{n:Nat}(P:τ->Prop)(R:Nat->σ->ρ->Prop)
 (a:∀i s t,i<n->R i s t->(∃s' j,f s=some (.inl s')/\g t=some (.inl j)/\R (i+1) s' j)\/ ∃r,f s=some (.inr r)/\g t=some (.inr r)/\P r)
 (d:∀s t,R n s t->∃r,f s=some (.inr r)/\g t=some (.inr r)/\P r) (s:σ) (t:ρ) (o:R 0 s t):∃r,run f s=some r/\run g t=some r/\P r:=by
 have key:∀(k i:Nat) (s:σ) (t:ρ),n - i=k->i<=n->R i s t->∃r,run f s=some r/\run g t=some r/\P r:=by
  intro k
  induction k with
  |zero=>
   intro i s t m l h;have:i=n:=by omega
   subst this;obtain⟨r,b,c,e⟩:=d s t h
   exact⟨r,XB b,XB c,e⟩
  |succ k p=>
   intro i s t m l h;rcases a i s t (by omega) h with ⟨s',j,b,c,e⟩|⟨r,b,c,e⟩
   ·rw[Hs b,Hs c]
    grind
   ·exact⟨r,XB b,XB c,e⟩
 grind
theorem Zgk{k:Nat}(h:0<k)(a:k<=9223372036854775807):Zn (Va .i64 ((k:Int) - 1)) k=some (k - 1):=by
 have e:Va .i64 ((k:Int) - 1)=((k - 1:Nat):Int):=by rw[Zx (by omega) (by omega)];omega
 rw[e,Kg (by omega)]
theorem Zbh{α:Type}{l:List α}{k:Nat}(h:k<l.length)(w:α):(l.set k w)[k]? =some w:=by grind
theorem ZeQ{m:Nat}(h:m<65536):Va .i64 (m:Int)=(m:Int):=Zx (by omega) (by omega)
def Hu(n:Zf)(x:Zs):Nat:=zN n (KH n x) x.2.2.1.toNat (x.2.2.2.1.toNat+1 - x.2.2.1.toNat)
theorem ZcS{n:Zf}(h:Wa n){x:Zs}(a:Ks n x=true):Hu n x<65536:=by unfold Ks at a;simp only[Vk,KL]at a;obtain⟨c,d,e,b⟩:=a;exact Zbq h (h.call _ (Du c)) _ (by unfold KH at b;omega)
def Rj:YM:=([],0,false,())
def Hr(n:Zf)(x:Zs):YM:=(n.2.1[(rn n x.2.1).2.2.2.2.1.toNat]?).getD Rj
theorem Zal{n:Zf}(h:Wa n){x:Zs}(a:Ks n x=true):idx n.2.2.1 x.2.1=some (rn n x.2.1)/\idx n.2.1 (rn n x.2.1).2.2.2.2.1=some (Hr n x)/\0<=(Hr n x).2.1/\(Hr n x).2.1<16:=by
 unfold Ks at a;simp only[Vk]at a;have d:=Du a.1;have e:=h.route _ d;have c:ZT (rn n x.2.1).2.2.2.2.1 n.2.1.length=true:=by unfold ZT;grind
 refine⟨Wy a.1 u0,Wy c Rj,?_⟩;have b:(rn n x.2.1).2.2.2.2.1.toNat<n.2.1.length:=by omega
 unfold Hr;rw[Kq b];have:=h.mode _ (Vf b);omega
def Xi(n:Zf)(x:Zs):ZK:=(x.2.2.2.2.2.2.1,x.2.2.2.2.2.2.2.1,((Hu n x:Nat):Int),((2 ^ (Hr n x).2.1.toNat:Nat):Int),())
def X1(n:Zf)(x:Zs)(l:List ZK)(v:ZK):List ZK:=
 l.set (l.length - 1) (v.1,x.2.2.2.2.2.2.2.1,KN .i64 v.2.2.1 ((Hu n x:Nat):Int),KN .i64 v.2.2.2.1 ((2 ^ (Hr n x).2.1.toNat:Nat):Int),())
theorem ZlC{n:Zf}(h:Wa n){x:Zs}(a:Ks n x=true)(g:x.2.2.2.2.2.2.2.2.1=false){l:List ZK}(i:l.length<=100):F81 x n l=some (l++[Xi n x]):=by obtain⟨c,d,e,b⟩:=Zal h a;unfold F81;rw[Zm7 h a];simp only[Za,c,d,ZkT e b,g,Vn,Zd];rw[show Va .i64 ((zN n (KH n x) x.2.2.1.toNat (x.2.2.2.1.toNat+1 - x.2.2.1.toNat):Nat):Int)=((Hu n x:Nat):Int) from ZeQ (ZcS h a),ZeQ (Y2 b)];have f:(decide (l.length+ [Xi n x].length<=ZC))=true:=Ze (by simp [ZC];omega);show (ZF (decide (l.length+ [Xi n x].length<=ZC))).bind (fun _=>some (l++[Xi n x]))=_;rw[f];rfl
theorem ZlD{n:Zf}(h:Wa n){x:Zs}(a:Ks n x=true)(i:x.2.2.2.2.2.2.2.2.1=true){l:List ZK}(k:l.length<=100){v:ZK}(g:0<l.length)(j:l[l.length - 1]? =some v):F81 x n l=some (X1 n x l v):=by
 obtain⟨d,e,f,b⟩:=Zal h a;unfold F81;rw[Zm7 h a];simp only[Za,d,e,ZkT f b,i,Vc,Zc];rw[show Va .i64 ((zN n (KH n x) x.2.2.1.toNat (x.2.2.2.1.toNat+1 - x.2.2.1.toNat):Nat):Int)=((Hu n x:Nat):Int) from ZeQ (ZcS h a),ZeQ (Y2 b)];have c:l.length - 1<l.length:=by omega
 simp only[Zgk g (by omega),Za];erw[j];simp only[Za,Vlb];erw[Zbh c];simp only[Za];erw[Zbh c];rfl
theorem ZsK(n:Zf)(j:Yh)(hf:W1 n)(hj:j.1.length<=20):∃r:List ZK×Int,F80 n j=some r/\F135 n j=some r/\r.1.length<=20:=by
 obtain⟨c,G,H,I⟩:=Zi4 n hf;unfold F80 F135 F121;rw[G,H];simp only[Za];by_cases he:c.2.2=0
 case neg=>
  simp_all
 have h:=I he;rw[Ze he];simp only[Vc,Zc]
 refine Exists.elim (Zs3 (n:=j.1.length) (τ:=List ZK ⊕ (List ZK×Int)) (fun r=>Vka (fun l:List ZK=>l.length<=20) (fun y=>y.1.length<=20) r)
  (fun i (s:List ZK×Bool×Int) (t:List ZK×Int)=>∃l w,s=(l,w,(i:Int))/\t=(l,(i:Int))/\l.length<=i/\(w=true->0<l.length)/\w=(if i=0 then false else((j.1[i - 1]?).getD (false,0,0,0,0,0,0,0,false,())).1))
  (f:=fun d=>
       bif decide (d.snd.snd<(↑(Vg j.fst):Int)) then
        Vb (idx j.fst d.snd.snd) fun m=>
         Vb (bif m.fst then Vb (F84 n m) fun Q=>some !Q else some false) fun R=>
          bif R then some (Sum.inr (Sum.inr ([],(9:Int))))
          else
           Vb (bif m.snd.snd.snd.snd.snd.snd.snd.snd.fst then bif !m.fst then some true else some !d.snd.fst else some false) fun S=>
            bif S then some (Sum.inr (Sum.inr ([],(19:Int))))
            else
             Vb (bif m.fst then Vb (F81 m n d.fst) fun T=>some T else some d.fst) fun U=>
              some (Sum.inl (U,m.fst,Va .i64 (d.snd.snd+(1:Int))))
       else some (Sum.inr (Sum.inl d.fst)))
  (g:=fun d=>
       bif decide (d.snd<(↑(Vg j.fst):Int)) then
        Vb (idx j.fst d.snd) fun m=>
         Vb (bif m.fst then Vb (F133 n m) fun Q=>some !Q else some false) fun R=>
          bif R then some (Sum.inr (Sum.inr ([],(9:Int))))
          else
           Vb
            (bif m.snd.snd.snd.snd.snd.snd.snd.snd.fst then
              bif !m.fst then some true
              else
               bif decide (d.snd=(0:Int)) then some true
               else Vb (idx j.fst (Va .i64 (d.snd - (1:Int)))) fun S=>some !S.fst
            else some false)
            fun T=>
            bif T then some (Sum.inr (Sum.inr ([],(19:Int))))
            else
             bif !m.fst then some (Sum.inl (d.fst,Va .i64 (d.snd+(1:Int))))
             else
              Vb (idx n.snd.snd.fst m.snd.fst) fun U=>
               Vb (idx n.snd.fst U.snd.snd.snd.snd.fst) fun x8=>
                Vb (Hq Go.IntKind.i64 (1:Int) x8.snd.fst) fun V=>
                 bif m.snd.snd.snd.snd.snd.snd.snd.snd.fst then
                  Vb (Zn (Va .i64 ((↑(Vg d.fst):Int) - (1:Int))) (Vg d.fst)) fun o=>
                   Vb d.fst[o]? fun a=>
                    Vb
                     (Zn (Va .i64 ((↑(Vg d.fst):Int) - (1:Int)))
                       (Vg (Vi d.fst o (a.fst,m.snd.snd.snd.snd.snd.snd.snd.fst,a.snd.snd))))
                     fun N=>
                     Vb (Vi d.fst o (a.fst,m.snd.snd.snd.snd.snd.snd.snd.fst,a.snd.snd))[N]? fun q=>
                      Vb (F141 n m) fun u=>
                       Vb
                        (Zn (Va .i64 ((↑(Vg d.fst):Int) - (1:Int)))
                          (Vg (Vi d.fst o (a.fst,m.snd.snd.snd.snd.snd.snd.snd.fst,a.snd.snd))))
                        fun p=>
                        Vb (Vi d.fst o (a.fst,m.snd.snd.snd.snd.snd.snd.snd.fst,a.snd.snd))[p]? fun k=>
                         Vb
                          (Zn (Va .i64 ((↑(Vg d.fst):Int) - (1:Int)))
                            (Vg
                              (Vi (Vi d.fst o (a.fst,m.snd.snd.snd.snd.snd.snd.snd.fst,a.snd.snd)) p
                                (k.fst,k.snd.fst,KN Go.IntKind.i64 q.snd.snd.fst u,k.snd.snd.snd))))
                          fun O=>
                          Vb
                           (Vi (Vi d.fst o (a.fst,m.snd.snd.snd.snd.snd.snd.snd.fst,a.snd.snd)) p
                             (k.fst,k.snd.fst,KN Go.IntKind.i64 q.snd.snd.fst u,k.snd.snd.snd))[O]?
                           fun P=>
                           Vb
                            (Zn (Va .i64 ((↑(Vg d.fst):Int) - (1:Int)))
                              (Vg
                                (Vi (Vi d.fst o (a.fst,m.snd.snd.snd.snd.snd.snd.snd.fst,a.snd.snd)) p
                                  (k.fst,k.snd.fst,KN Go.IntKind.i64 q.snd.snd.fst u,k.snd.snd.snd))))
                            fun E=>
                            Vb
                             (Vi (Vi d.fst o (a.fst,m.snd.snd.snd.snd.snd.snd.snd.fst,a.snd.snd)) p
                               (k.fst,k.snd.fst,KN Go.IntKind.i64 q.snd.snd.fst u,k.snd.snd.snd))[E]?
                             fun z=>
                             some
                              (Sum.inl
                                (Vi
                                  (Vi (Vi d.fst o (a.fst,m.snd.snd.snd.snd.snd.snd.snd.fst,a.snd.snd)) p
                                    (k.fst,k.snd.fst,KN Go.IntKind.i64 q.snd.snd.fst u,k.snd.snd.snd))
                                  E (z.fst,z.snd.fst,z.snd.snd.fst,KN Go.IntKind.i64 P.snd.snd.snd.fst V,z.snd.snd.snd.snd),
                                  Va .i64 (d.snd+(1:Int))))
                 else
                  Vb (F141 n m) fun F=>
                   Vb
                    (ZF (decide (Vg d.fst+Vg [(m.snd.snd.snd.snd.snd.snd.fst,m.snd.snd.snd.snd.snd.snd.snd.fst,F,V,())]<=ZC)))
                    fun _=>
                    some
                     (Sum.inl (d.fst++[(m.snd.snd.snd.snd.snd.snd.fst,m.snd.snd.snd.snd.snd.snd.snd.fst,F,V,())],Va .i64 (d.snd+(1:Int))))
       else some (Sum.inr (Sum.inl d.fst))) ?_ ?_ ([],false,(0:Int)) ([],(0:Int)) ⟨[],false,rfl,rfl,by simp,by simp,rfl⟩) ?_
 rotate_left 2
 ·rintro r ⟨h1,h2,h3⟩;refine⟨Vka (fun l=>(l,(0:Int))) id r,?_,?_,?_⟩
  all_goals grind
 ·rintro i _ _ J ⟨l,w,rfl,rfl,hl,hw,C⟩;have K:j.1.length<=9223372036854775807:=by omega
  simp only[ZL J,Zd,ZA J,Za,ZU J K]
  have L:∀b:Bool,b=(j.1[i]).1->b=(if i+1=0 then false else((j.1[i+1 - 1]?).getD (false,0,0,0,0,0,0,0,false,())).1):=by
   grind
  have B:0<i->idx j.1 (Va .i64 ((i:Int) - 1))=some ((j.1[i - 1]?).getD (false,0,0,0,0,0,0,0,false,())):=by
   intro h0;have e:Va .i64 ((i:Int) - 1)=((i - 1:Nat):Int):=by rw[Zx (by omega) (by omega)];omega
   rw[e,ZA (by omega),Kq (by omega)]
  generalize j.1[i]=x at*
  cases a0:x.1 with
  |false=>
   simp only[Zc,Za,Vn,Zd]
   cases M:x.2.2.2.2.2.2.2.2.1 with
   |true=>simp
   |false=>exact .inl ⟨(l,false,((i+1:Nat):Int)),(l,((i+1:Nat):Int)),rfl,rfl,l,false,rfl,rfl,by omega,by simp,by grind⟩
  |true=>
   simp only[Zd,Za,Vc,Zc,Zjr,Zf7]
   cases D:Ks n x with
   |false=>simp
   |true=>
    obtain⟨W,X,Y,Z⟩:=Zal h D;simp only[Vc,Zc]
    cases M:x.2.2.2.2.2.2.2.2.1 with
    |false=>
     simp only[Zc,Za,ZlC h D M (show l.length<=100 by omega),W,X,Dz Y Z,Zm6 h D];refine .inl ⟨(l++[Xi n x],true,((i+1:Nat):Int)),(l++[Xi n x],((i+1:Nat):Int)),rfl,?_,l++[Xi n x],true,rfl,rfl,by grind,by simp,by grind⟩;have hg:(decide (l.length+ [Xi n x].length<=ZC))=true:=Ze (by simp [ZC];omega);show (ZF (decide (l.length+ [Xi n x].length<=ZC))).bind (fun _=>some (Sum.inl (l++[Xi n x],((i+1:Nat):Int))))=_;rw[hg]
     rfl
    |true=>
     simp only[Zd]
     cases w with
     |false=>
      refine .inr ⟨.inr ([],19),rfl,?_,by simp⟩
      grind
     |true=>
      have h0:i≠0:=by grind
      rw[Zg h0]at C;have A:=hw rfl;have hk:l.length - 1<l.length:=by omega
      obtain⟨v,hv⟩:∃v,l[l.length - 1]? =some v:=by simp_all
      refine .inl ⟨(X1 n x l v,true,((i+1:Nat):Int)),(X1 n x l v,((i+1:Nat):Int)),?_,?_,X1 n x l v,true,rfl,rfl,by unfold X1;grind,fun _=>by unfold X1;grind,by grind⟩
      ·simp only[Vc,Za,Zc,ZlD h D M (by omega) A hv]
      ·rw[Zi (by omega)];simp only[Zc,B (by omega),Za, <-C,Vc,W,X,Dz Y Z,Zm6 h D,Zgk A (by omega),Vv];erw[hv];simp only[Za,Vlb];erw[Zbh hk];simp only[Za];erw[Zbh hk];rfl
 ·rintro _ _ ⟨l,w,rfl,rfl,hl,_⟩
  grind
end Q
namespace Q
open Tr Go
abbrev Kw(x:Zs):Bool:=x.2.2.2.2.2.2.2.2.1
def XL(n:Zf)(x:Zs)(out:List ZK):List ZK:=match out[out.length - 1]? with
 |some v=>X1 n x out v
 |none=>out
def K5(n:Zf):List Zs->Bool->List ZK->List ZK×Int
 |[],_,out=>(out,0)
 |x::l,rode,out=>
  if x.1=true/\Ks n x=false then([],9)
  else if Kw x=true/\(x.1=false\/rode=false) then([],19)
  else if x.1=true then K5 n l true (if Kw x=true then XL n x out else out++[Xi n x])
  else K5 n l false out
theorem Gq(n:Zf)(x:Zs)(l:List Zs)(rode:Bool)(out:List ZK):K5 n (x::l) rode out=if x.1=true/\Ks n x=false then([],9)
 else if Kw x=true/\(x.1=false\/rode=false) then([],19)
 else if x.1=true then K5 n l true (if Kw x=true then XL n x out else out++[Xi n x])
 else K5 n l false out:=rfl
theorem Zda(n:Zf)(x:Zs)(out:List ZK):(XL n x out).length=out.length:=by
 unfold XL;split
 ·unfold X1;simp
 ·rfl
theorem Zeo(n:Zf)(j:Yh)(A:W1 n)(D:j.1.length<=90):(F80 n j=some ([],21)/\F121 n=some false)\/(Wa n/\F121 n=some true/\F80 n j=some (K5 n j.1 false [])):=by
 obtain⟨c,k,m,o⟩:=Zi4 n A;unfold F80 F121;rw[k,m];simp only[Za];by_cases u:c.2.2=0
 case neg=>
  grind
 have h:=o u;rw[Ze u];simp only[Vc,Zc];refine .inr ⟨h,by simp,?_⟩;refine KD (fun r=>K5 n j.1 false []=Vka (fun l:List ZK=>(l,(0:Int))) (fun y=>y) r) ?_ ?_
 ·refine Kf j.1.length _ (fun i (s:List ZK×Bool×Int)=>∃l w,s=(l,w,(i:Int))/\l.length<=i/\(w=true->0<l.length)/\K5 n j.1 false []=K5 n (j.1.drop i) w l) ?_ ?_ _ ⟨[],false,rfl,by simp,by simp,rfl⟩
  ·rintro i _ g ⟨l,w,rfl,B,z,a⟩;have p:j.1.length<=9223372036854775807:=by omega
   rw[Vfa g]at a;simp only[ZL g,Zd,ZA g,Za,ZU g p];generalize j.1[i]=x at*;rw[Gq]at a
   cases f:x.1 with
   |false=>
    rw[f]at a;simp only[Zc,Za,Vn,Zd]
    cases e:Kw x with
    |true=>
     simp_all
    |false=>
     grind
   |true=>
    rw[f]at a;simp only[Zd,Za,Vc,Zc,Zjr]
    cases q:Ks n x with
    |false=>
     simp_all
    |true=>
     rw[q]at a;simp only[Vc,Zc]
     cases e:Kw x with
     |false=>
      left;rw[e]at a;have b:=e;unfold Kw at b;rw[b];simp only[Zc,Za,ZlC h q b (show l.length<=100 by omega)]
      grind
     |true=>
      rw[e]at a;have b:=e;unfold Kw at b;rw[b];simp only[Zd]
      cases w with
      |false=>
       simp_all
      |true=>
       left;have d:=z rfl;obtain⟨v,C⟩:∃v,l[l.length - 1]? =some v:=⟨_,Vd (by omega)⟩;simp only[Vc,Za,Zc,ZlD h q b (by omega) d C];have t:XL n x l=X1 n x l v:=by unfold XL;grind
       refine⟨_,rfl,X1 n x l v,true,rfl,by rw[<-t,Zda];omega,fun _=>by rw[<-t,Zda];omega,?_⟩
       grind
  ·rintro _ ⟨l,w,rfl,B,z,a⟩;simp only[JE,Zc];refine⟨_,rfl,?_⟩;rw[a,List.drop_length];rfl
 grind
end Q
namespace Dv
abbrev Tk:=Int×Int×Int×Int×Unit
structure Law where
 n:Nat
 np:Nat
 cov:Nat->Nat->Nat->Bool
 pr:Nat->Nat->Int
abbrev Kx:=Option (Int×List Tk)
def DY(cur:Kx)(s:Int)(c:Nat):Bool:=match cur with
 |none=>true
 |some (cs,a)=>decide (s<cs) || (decide (s=cs) &&decide (c<a.length))
def Gb(L:Law)(nx:Kx)(i k p:Nat)(cur:Kx):Kx:=match nx with
 |none=>cur
 |some (s,t)=>if L.cov p i k=true then(if DY cur (L.pr p i+s) (1+t.length)=true then some (L.pr p i+s,((p:Int),(i:Int),(k:Int),L.pr p i,())::t) else cur) else cur
def Gv(L:Law)(nx:Kx)(i k:Nat)(cur:Kx):Nat->Kx
 |0=>cur
 |m+1=>Gb L nx i k m (Gv L nx i k cur m)
def rowK(L:Law)(B:Nat->Kx)(i:Nat):Nat->Kx
 |0=>none
 |m+1=>Gv L (B (i+m+1)) i (i+m) (rowK L B i m) L.np
def Kh(L:Law):Nat->Nat->Kx
 |0,j=>if j=L.n then some (0,[]) else none
 |d+1,j=>if j=L.n - (d+1) then rowK L (Kh L d) j (L.n - j) else Kh L d j
inductive Div (L:Law):Nat->Int->Prop
 |nil:Div L L.n 0
 |cons {i k p:Nat}{s:Int} (hik:i<=k) (hk:k<L.n) (hp:p<L.np) (hc:L.cov p i k=true) (h:Div L (k+1) s):Div L i (L.pr p i+s)
def J8(c:Kx)(S:Int->Prop):Prop:=match c with
 |none=>∀s,¬S s
 |some (s,_)=>S s/\ ∀a,S a->s<=a
theorem Zo4{L:Law}{nx cur:Kx}{i k p:Nat}{S N:Int->Prop}(d:J8 cur S)(f:J8 nx N):J8 (Gb L nx i k p cur) fun s=>S s\/(L.cov p i k=true/\ ∃s',N s' /\s=L.pr p i+s'):=by
 unfold Gb
 cases nx with
 |none=>
  have:(fun s=>S s\/(L.cov p i k=true/\ ∃s',N s' /\s=L.pr p i+s'))=S:=by
   funext s;refine propext ⟨fun h=>?_,.inl⟩;rcases h with h|⟨_,s',h,_⟩
   ·exact h
   ·exact absurd h (f s')
  grind
 |some x=>
  obtain⟨s,t⟩:=x;obtain⟨m,l⟩:=f;simp only;by_cases c:L.cov p i k=true
  ·rw[if_pos c];by_cases b:DY cur (L.pr p i+s) (1+t.length)=true
   ·rw[if_pos b];refine⟨by grind,fun s' a=>?_⟩;rcases a with a|⟨_,g,e,rfl⟩
    ·cases cur with
     |none=>exact absurd a (d s')
     |some y=>
      obtain⟨cs,j⟩:=y;have:=d.2 s' a;simp only[DY,Vjb,Vk,decide_eq_true_eq]at b;omega
    grind
   ·rw[if_neg b]
    cases cur with
    |none=>exact absurd rfl b
    |some y=>
     obtain⟨cs,j⟩:=y;refine⟨.inl d.1,fun s' a=>?_⟩;rcases a with a|⟨_,g,e,rfl⟩
     ·exact d.2 s' a
     ·have:=l g e;simp only[DY,Vjb,Vk,decide_eq_true_eq]at b;omega
  simp_all
theorem ZlP{L:Law}{nx cur:Kx}{i k:Nat}{S N:Int->Prop}(b:J8 cur S)(a:J8 nx N):∀m,J8 (Gv L nx i k cur m) fun s=>S s\/ ∃p,p<m/\L.cov p i k=true/\ ∃s',N s' /\s=L.pr p i+s'
 |0=>by
  have:(fun s=>S s\/ ∃p,p<0/\L.cov p i k=true/\ ∃s',N s' /\s=L.pr p i+s')=S:=by simp
  rw[this];assumption
 |m+1=>by
  have h:=Zo4 (p:=m) (i:=i) (k:=k) (L:=L) (ZlP (i:=i) (k:=k) (L:=L) b a m) a
  have e:(fun s=>(S s\/ ∃p,p<m/\L.cov p i k=true/\ ∃s',N s' /\s=L.pr p i+s')\/(L.cov m i k=true/\ ∃s',N s' /\s=L.pr m i+s'))=fun s=>S s\/ ∃p,p<m+1/\L.cov p i k=true/\ ∃s',N s' /\s=L.pr p i+s' :=by
   grind
  rw[e]at h;exact h
theorem ZlN{L:Law}{B:Nat->Kx}{i:Nat}{N:Nat->Int->Prop} :∀m,(∀j,i<j->j<=i+m->J8 (B j) (N j))->J8 (rowK L B i m) fun s=>∃k,i<=k/\k<i+m/\ ∃p,p<L.np/\L.cov p i k=true/\ ∃s',N (k+1) s' /\s=L.pr p i+s'
 |0,_=>by
  intro s h
  omega
 |m+1,a=>by
  have h:=ZlP (L:=L) (i:=i) (k:=i+m) (ZlN (L:=L) (B:=B) (i:=i) (N:=N) m (by grind)) (a (i+m+1) (by omega) (by omega)) L.np
  have e:(fun s=>(∃k,i<=k/\k<i+m/\ ∃p,p<L.np/\L.cov p i k=true/\ ∃s',N (k+1) s' /\s=L.pr p i+s')\/ ∃p,p<L.np/\L.cov p i (i+m)=true/\ ∃s',N (i+m+1) s' /\s=L.pr p i+s')=fun s=>∃k,i<=k/\k<i+(m+1)/\ ∃p,p<L.np/\L.cov p i k=true/\ ∃s',N (k+1) s' /\s=L.pr p i+s' :=by
   grind
  rw[e]at h;exact h
theorem ZpX{L:Law}{s:Int}(h:Div L L.n s):s=0:=by
 generalize c:L.n=i at h
 cases h with
 |nil=>rfl
 |cons a b _ _ _=>omega
theorem ZpY{L:Law}{i:Nat}(f:i<L.n){s:Int} :Div L i s↔∃k,i<=k/\k<i+(L.n - i)/\ ∃p,p<L.np/\L.cov p i k=true/\ ∃s',Div L (k+1) s' /\s=L.pr p i+s' :=by
 constructor
 ·intro h
  cases h with
  |nil=>omega
  |cons a e b c d=>grind
 ·rintro ⟨k,a,e,p,b,c,s',d,rfl⟩;exact .cons a (by omega) b c d
theorem tab_best(L:Law):∀d,d<=L.n->∀j,L.n - d<=j->j<=L.n->J8 (Kh L d j) (Div L j)
 |0,_,j,f,b=>by
  have:j=L.n:=by omega
  subst this;rw[Kh,if_pos rfl]
  exact⟨.nil,fun a h=>by have:=ZpX h;omega⟩
 |d+1,o,j,f,b=>by
  rw[Kh];by_cases c:j=L.n - (d+1)
  ·rw[if_pos c];have h:=ZlN (L:=L) (B:=Kh L d) (i:=j) (N:=Div L) (L.n - j) fun g l m=>tab_best L d (by omega) g (by omega) (by omega)
   have e:(fun s=>∃k,j<=k/\k<j+(L.n - j)/\ ∃p,p<L.np/\L.cov p j k=true/\ ∃a,Div L (k+1) a/\s=L.pr p j+a)=Div L j:=by funext s;exact propext (ZpY (by omega)).symm
   grind
  ·rw[if_neg c];exact tab_best L d (by omega) j (by omega) b
def Zar(B:Nat->Kx)(n i:Nat)(c:Kx):Prop:= ∀s t,c=some (s,t)->∃p k q b a,t=((p:Int),(i:Int),((k:Nat):Int),(q:Int),())::a/\i<=k/\k<n/\B (k+1)=some (b,a)
theorem Zo5{L:Law}{B:Nat->Kx}{n i k p:Nat}{cur:Kx}(a:i<=k)(c:k<n)(h:Zar B n i cur):Zar B n i (Gb L (B (k+1)) i k p cur):=by
 unfold Gb
 cases d:B (k+1) with
 |none=>exact h
 |some x=>
  obtain⟨s,t⟩:=x;simp only;split
  ·split
   ·intro e f b
    grind
   omega
  omega
theorem ZlQ{L:Law}{B:Nat->Kx}{n i k:Nat}{cur:Kx}(a:i<=k)(b:k<n)(h:Zar B n i cur):∀m,Zar B n i (Gv L (B (k+1)) i k cur m)
 |0=>h
 |m+1=>Zo5 a b (ZlQ a b h m)
theorem ZlO{L:Law}{B:Nat->Kx}{n i:Nat} :∀m,i+m<=n->Zar B n i (rowK L B i m)
 |0,_=>fun s t h=>by simp [rowK]at h
 |m+1,h=>ZlQ (by omega) (by omega) (ZlO m (by omega)) L.np
theorem ZhD(L:Law):∀d e j,L.n - d<=j->d<=e->e<=L.n->Kh L e j=Kh L d j
 |d,e,j,a,b,c=>by
  induction e with
  |zero=>grind
  |succ e g=>
   by_cases f:d=e+1
   ·grind
   ·rw[Kh,if_neg (by omega)]
    grind
theorem ZtR(L:Law){j:Nat}(r:j<L.n):Zar (Kh L L.n) L.n j (Kh L L.n j):=by
 have b:Kh L L.n j=rowK L (Kh L (L.n - j - 1)) j (L.n - j):=by rw[ZhD L (L.n - j) L.n j (by omega) (by omega) (Vw _)];obtain⟨d,a⟩:∃d,L.n - j=d+1:=⟨L.n - j - 1,by omega⟩;rw[show L.n - j - 1=d by omega,a,Kh,if_pos (by omega),a]
 have h:=ZlO (L:=L) (B:=Kh L (L.n - j - 1)) (n:=L.n) (i:=j) (L.n - j) (by omega);rw[b];intro s t g;obtain⟨p,k,q,l,m,c,e,f,o⟩:=h s t g;exact⟨p,k,q,l,m,c,e,f,by rw[ZhD L (L.n - j - 1) L.n (k+1) (by omega) (by omega) (Vw _)];omega⟩
end Dv
namespace Q
open Tr Go Dv
abbrev XW:=Bool×Int×Int×Tk×Unit
theorem Zls(a b:Int):0<=KN .u64 a b/\KN .u64 a b<18446744073709551616:=by
 have c:∀x:Int,0<=Va .u64 x/\Va .u64 x<18446744073709551616:=fun x=>by simp [Va,Vca,Vz];omega
 unfold KN
 grind
theorem Zq8(a b d:Int):∃z:Bool,F113 a b d=some z:=by
 unfold F113;by_cases h:a<=b
 ·rw[Ze h];by_cases c:d<0
  all_goals simp [*]
 ·rw[Zi h];by_cases c:d<0
  all_goals simp [*]
theorem ZpP(p:JM)(s:List ZK)(v:s.length<=100):∃z:Bool,F111 p s=some z/\(s=[]->z=false):=by
 unfold F111;by_cases d:s=[]
 ·simp_all
 ·have h:0<s.length:=Vsa.2 d;rw[Zi (by omega)];have el:Va .i64 ((s.length:Int) - 1)=((s.length - 1:Nat):Int):=by rw[Zx (by omega) (by omega)];omega
  have m:idx s (0:Int)=some s[0]:=ZA (i:=0) h;obtain⟨lt,b⟩:=Zq8 (s[0]).1 (s[s.length - 1]).1 p.2.2.2.2.1;simp only[Zc,el,ZA (show s.length - 1<s.length by omega),m,Za,b]
  have e:∃c:Bool,(bif decide (p.2.2.1<(s.length:Int)) then some true else some lt)=some c:=by
   grind
  obtain⟨c,f⟩:=e;rw[f];simp only[Za]
  cases c with
  |true=>simp
  |false=>
   simp only[Zc]
   have key:∀(o:Option (Int×Int)) (k:Int×Int->Option Bool),(∃r,o=some r/\(0<=r.1/\r.1<18446744073709551616))->(∀r:Int×Int,0<=r.1->r.1<18446744073709551616->∃z,k r=some z)->∃z:Bool,Vb o k=some z/\(s=[]->z=false):=by
    simp_all
   refine key _ _ ?_ ?_
   ·refine Kf s.length _ (fun i (t:Int×Int×Int)=>∃x y,t=(x,y,(i:Int))/\0<=x/\x<18446744073709551616) ?_ ?_ _ ⟨0,0,rfl,by omega,by omega⟩
    ·rintro i _ a ⟨x,y,rfl,j,l⟩;left;simp only[ZL a,Zd,ZA a,Za,ZU a (by omega),F112,F2];exact⟨_,rfl,_,_,rfl,(Zls _ _).1,(Zls _ _).2⟩
    simp_all
   ·intro r q u
    have g:F1 r.1=some ((Jj 64 r.1.toNat:Nat):Int):=by
     show lenF r.1=_;unfold lenF
     grind
    simp only[g,Za,F4]
    grind
noncomputable def RU(p:JM)(s:List ZK):Bool:=(F111 p s).getD false
theorem ZpR(p:JM)(s:List ZK)(a:s.length<=100):F111 p s=some (RU p s):=by
 obtain⟨z,h,_⟩:=ZpP p s a;unfold RU
 grind
def GC(a b d:Int):Bool:=bif decide (b<=a) then true else decide (Va .u64 (Va .u64 b - Va .u64 a)<=Va .u64 d)
theorem Zup(a b d:Int):F18 a b d=some (GC a b d):=by
 unfold F18 GC
 grind
def GX:ZK:=(0,0,0,0,())
def HR(F:Ke)(p:JM)(l:List ZK)(i:Nat):Int:=
 if 0<i/\GC ((l[i - 1]?).getD GX).2.1 ((l[i]?).getD GX).1 F.2.2.1=true then(if 0<p.2.1 - F.2.1 then p.2.1 - F.2.1 else 0) else p.2.1
theorem Zsc(F:Ke)(p:JM)(l:List ZK)(i:Nat)(b:i<l.length)(g:l.length<=100)(e:0<=p.2.1/\p.2.1<=1000000)(f:0<=F.2.1/\F.2.1<=1000000):F16 F p l (i:Int)=some (HR F p l i):=by
 unfold F16 HR;have c:Va .i64 (p.2.1 - F.2.1)=p.2.1 - F.2.1:=Zx (by omega) (by omega)
 have em:Tr.imax 0 (p.2.1 - F.2.1)=if 0<p.2.1 - F.2.1 then p.2.1 - F.2.1 else 0:=rfl
 by_cases d:0<i
 ·have a:Va .i64 ((i:Int) - 1)=((i - 1:Nat):Int):=by rw[Zx (by omega) (by omega)];omega
  rw[Ze (by omega)];simp only[Zd,a,ZA (show i - 1<l.length by omega),ZA b,Za,Zup]
  grind
 grind
structure RA (F:Ke):Prop where
 disc:0<=F.2.1/\F.2.1<=1000000
 cap:0<=F.2.2.2.1
 price:∀p∈F.1,0<=p.2.1/\p.2.1<=1000000
 many:F.1.length<=16
theorem ZbZ{F:Ke}(h:(Js F).2=0):RA F:=by
 unfold Js at h;by_cases a:HI F=false
 ·grind
 rw[Zg a]at h;by_cases c:16<F.1.length
 ·grind
 rw[Zg c]at h;have g:=Za9 h;have a:HI F=true:=by grind
 unfold HI at a;simp only[Vk,KL]at a;refine⟨a.1,a.2.2.1,fun p f=>?_,by omega⟩;obtain⟨i,e,rfl⟩:=Vj f;have b:=g i e;unfold Ho at b;rw[Kq e]at b;obtain⟨_,_,d⟩:=GT.1 b;have d:Yz F.1[i]=true:=by grind
 unfold Yz at d
 grind
noncomputable def ZN(F:Ke)(l:List ZK):Law where
 n:=l.length
 np:=F.1.length
 cov:=fun p i k=>RU ((F.1[p]?).getD p0) ((l.drop i).take (k+1 - i))
 pr:=fun p i=>HR F ((F.1[p]?).getD p0) l i
theorem Zcq{F:Ke}(hF:RA F){l:List ZK}{p i:Nat}(a:p<(ZN F l).np):0<=(ZN F l).pr p i/\(ZN F l).pr p i<=1000000:=by have h:=hF.price _ (Vf (show p<F.1.length from a));have b:=hF.disc;show 0<=HR F ((F.1[p]?).getD p0) l i/\HR F ((F.1[p]?).getD p0) l i<=1000000;rw[Kq (by grind)];unfold HR;omega
def Bd(n:Nat)(f:Nat->Kx):Prop:= ∀j s t,j<=n->f j=some (s,t)->0<=s/\s<=1000000* ((n:Int) - (j:Int))/\t.length<=n - j
def GG(c:Kx)(r:XW):Prop:=match c with
 |none=>r.1=false
 |some (s,t)=>r.1=true/\r.2.1=s/\r.2.2.1=(t.length:Int)/\ ∀x a,t=x::a->r.2.2.2.1=x
def XH(f:Nat->Kx)(T:List XW):Prop:=T.length=9/\ ∀j,j<=8->∃r,T[j]? =some r/\GG (f j) r
theorem XH.congr{f g:Nat->Kx}{T:List XW}(h:XH f T)(e:∀j,j<=8->g j=f j):XH g T:=
 ⟨h.1,fun j a=>by rw[e j a];exact h.2 j a⟩
def Jm(f:Nat->Kx)(i:Nat)(c:Kx):Nat->Kx:=fun j=>if j=i then c else f j
theorem XH.set{f:Nat->Kx}{T:List XW}(h:XH f T){i:Nat}(d:i<=8){c:Kx}{r:XW}(e:GG c r):XH (Jm f i c) (T.set i r):=by
 refine⟨by rw[Vv];exact h.1,fun j b=>?_⟩;unfold Jm;by_cases a:j=i
 ·subst a;rw[Zo rfl,Vma (by rw[h.1];omega)]
  grind
 ·rw[Zg a,Vba (Ne.symm a)];exact h.2 j b
theorem GG.ok{s:Int}{t:List Tk}{r:XW}(h:GG (some (s,t)) r):r.1=true/\r.2.1=s/\r.2.2.1=(t.length:Int)/\ ∀x a,t=x::a->r.2.2.2.1=x:=h
theorem ZoO{cur:Kx}{r:XW}(h:GG cur r)(s:Int)(c:Nat):F15 r s (c:Int)=some (DY cur s c):=by
 cases cur with
 |none=>
  unfold F15
  rw[show r.1=false from h];rfl
 |some x=>
  obtain⟨cs,a⟩:=x;obtain⟨b,d,f,_⟩:=GG.ok h;unfold F15;rw[b,d,f];have e:decide ((c:Int)<(a.length:Int))=decide (c<a.length):=by simp
  rw[e];show _=some (decide (s<cs) || (decide (s=cs) &&decide (c<a.length)))
  grind
theorem ZtU{F:Ke}(hF:RA F){l:List ZK}(P:l.length<=8){f:Nat->Kx}{T:List XW}(b:XH f T)(A:Bd l.length f){i k p:Nat}(C:i<=k)(O:k<l.length)(x:p<F.1.length){s:Int}{t:List Tk}(m:f (k+1)=some (s,t)):
 ∃v,F14 (i:Int) (k:Int) (p:Int) F l T=some v/\XH (Jm f i (Gb (ZN F l) (f (k+1)) i k p (f i))) v:=by
 unfold F14;have a:=hF.price _ (Vf x);obtain⟨J,K,L⟩:=A (k+1) s t (by omega) m;have z:Va .i64 ((k:Int)+1)=((k+1:Nat):Int):=by rw[Zx (by omega) (by omega)];omega
 have G:sliceB l.length l.length (some (i:Int)) (some ((k+1:Nat):Int))=some (i,k+1):=by
  unfold sliceB
  grind
 have u:((l.drop i).take (k+1 - i)).length<=100:=by grind
 obtain⟨R,r,c⟩:=b.2 (k+1) (by omega);obtain⟨Q,q,e⟩:=b.2 i (by omega);rw[m]at c;obtain⟨M,y,c3,N⟩:=GG.ok c;have d:Zn ((k+1:Nat):Int) 9=some (k+1):=Kg (by omega);have h:Zn (i:Int) 9=some i:=Kg (by omega)
 have o:F16 F F.1[p] l (i:Int)=some ((ZN F l).pr p i):=by
  rw[Zsc F F.1[p] l i (by omega) (by omega) a hF.disc];show _=some (HR F ((F.1[p]?).getD p0) l i)
  grind
 have E:=Zcq hF (l:=l) (i:=i) (by assumption)
 have g:RU F.1[p] ((l.drop i).take (k+1 - i))=(ZN F l).cov p i k:=by
  show _=RU ((F.1[p]?).getD p0) ((l.drop i).take (k+1 - i))
  grind
 have H:Va .i64 ((ZN F l).pr p i+s)=(ZN F l).pr p i+s:=Zx (by omega) (by omega);have I:Va .i64 ((t.length:Int)+1)=((1+t.length:Nat):Int):=by rw[Zx (by omega) (by omega)];omega
 simp only[ZA x,Za,z,G,ZpR F.1[p] _ u,g,o,d,h,r,q,y,c3,H,I];rw[m];unfold Gb;simp only
 cases w:(ZN F l).cov p i k with
 |false=>
  refine⟨T,rfl,b.congr fun j D=>?_⟩;unfold Jm
  grind
 |true=>
  simp only[Vc,Zc,ZoO e,Za,if_true]
  cases B:DY (f i) ((ZN F l).pr p i+s) (1+t.length) with
  |false=>
   refine⟨T,rfl,b.congr fun j D=>?_⟩;unfold Jm
   grind
  |true=>
   refine⟨_,rfl,b.set (by omega) ⟨rfl,rfl,?_,by simp⟩⟩
   all_goals grind
end Q
namespace Q
open Tr Go Dv
def G1(n i:Nat)(c:Kx):Prop:= ∀s t,c=some (s,t)->0<=s/\s<=1000000* ((n:Int) - (i:Int))/\t.length<=n - i
theorem Zo3{L:Law}{n i k p:Nat}{nx cur:Kx}(c:0<=L.pr p i/\L.pr p i<=1000000)(a:i<=k)(j:k<n)(b:G1 n (k+1) nx)(h:G1 n i cur):G1 n i (Gb L nx i k p cur):=by
 unfold Gb
 cases nx with
 |none=>omega
 |some x=>
  obtain⟨s,t⟩:=x;obtain⟨d,f,g⟩:=b s t rfl;simp only;split
  ·split
   ·intro l m e
    grind
   omega
  omega
theorem Zer{L:Law}{n i k:Nat}{nx cur:Kx}(b:∀p,p<L.np->0<=L.pr p i/\L.pr p i<=1000000)(a:i<=k)(d:k<n)(e:G1 n (k+1) nx)(c:G1 n i cur):∀m,m<=L.np->G1 n i (Gv L nx i k cur m)
 |0,_=>c
 |m+1,h=>Zo3 (by grind) a d e (Zer b a d e c m (by omega))
theorem Zep{L:Law}{n i:Nat}{B:Nat->Kx}(a:∀p,p<L.np->0<=L.pr p i/\L.pr p i<=1000000)(b:∀j,G1 n j (B j)):∀m,i+m<=n->G1 n i (rowK L B i m)
 |0,_=>fun s t h=>by simp [Dv.rowK]at h
 |m+1,h=>Zer a (by omega) (by omega) (by grind) (Zep a b m (by omega)) L.np (Vw _)
theorem ZcK{L:Law}(a:∀p i,p<L.np->0<=L.pr p i/\L.pr p i<=1000000):∀d,d<=L.n->∀j,G1 L.n j (Kh L d j)
 |0,_,j=>by
  intro s t h;rw[Kh]at h
  grind
 |d+1,b,j=>by
  rw[Kh];split
  ·next c=>exact Zep (by grind) (ZcK a d (by omega)) _ (by omega)
  ·exact ZcK a d (by omega) j
theorem ZhC(L:Law):∀d,d<=L.n->∀j,j<L.n - d->Kh L d j=none
 |0,_,j,h=>by rw[Kh,Zg (by omega)]
 |d+1,a,j,h=>by rw[Kh,Zg (by omega)];exact ZhC L d (by omega) j (by omega)
theorem ZmD(f:Nat->Kx)(i:Nat)(c c' :Kx):Jm (Jm f i c) i c' =Jm f i c' :=by
 funext j;unfold Jm
 grind
theorem Rs(f:Nat->Kx)(i:Nat)(c:Kx):Jm f i c i=c:=Zo rfl
theorem HV(f:Nat->Kx){i j:Nat}(c:Kx)(h:j≠i):Jm f i c j=f j:=Zg h
def rz:XW:=(false,0,0,(0,0,0,0,()),())
theorem Zp0{F:Ke}(hF:RA F){l:List ZK}(P:l.length<=8):∃T,F13 F l=some T/\XH (Kh (ZN F l) l.length) T:=by
 have D:∀p i,p<(ZN F l).np->0<=(ZN F l).pr p i/\(ZN F l).pr p i<=1000000:=fun p i u=>Zcq hF u;have y:(ZN F l).n=l.length:=rfl;unfold F13;have V:(Tr.zeroEl Jq:List XW)=Vh 9 rz:=rfl;have B:Zn (l.length:Int) 9=some l.length:=Kg (by omega);have E:(Tr.zeroEl Jq:List XW)[l.length]? =some rz:=by grind
 rw[B];simp only[Za];erw[E];simp only[Za]
 have key:∀o:Option (List XW),(∃T,o=some T/\XH (Kh (ZN F l) l.length) T)->∃T,(Vb o fun G=>some G)=some T/\XH (Kh (ZN F l) l.length) T:=by simp
 refine key _ (Kf l.length _ (fun c (s:List XW×Int)=>∃T,s=(T,(l.length:Int) - 1 - (c:Int))/\XH (Kh (ZN F l) c) T) ?_ ?_ _ ?_)
 ·rintro c _ S ⟨T,rfl,b⟩;left;obtain⟨i,M⟩:∃i:Nat,(l.length:Int) - 1 - (c:Int)=(i:Int):=by grind
  have O:i<l.length:=by omega
  have N:i=l.length - (c+1):=by omega
  rw[M];rw[Ze (by omega)];simp only[Zd];refine Xr (fun g=>XH (Kh (ZN F l) (c+1)) g) ?_ ?_
  ·refine Kf (l.length - i) _ (fun m (s:List XW×Int)=>∃T,s=(T,((i+m:Nat):Int))/\XH (Jm (Kh (ZN F l) c) i (rowK (ZN F l) (Kh (ZN F l) c) i m)) T) ?_ ?_ _ ⟨T,rfl,b.congr fun j C=>?_⟩
   ·rintro m _ U ⟨T,rfl,b⟩;left;have I:i+m<l.length:=by omega
    simp only[ZL I,Zd];refine Xr (fun g=>XH (Jm (Kh (ZN F l) c) i (rowK (ZN F l) (Kh (ZN F l) c) i (m+1))) g) ?_ ?_
    ·refine Kf F.1.length _ (fun p (s:List XW×Int)=>∃T,s=(T,(p:Int))/\XH (Jm (Kh (ZN F l) c) i (Gv (ZN F l) (Kh (ZN F l) c (i+m+1)) i (i+m) (rowK (ZN F l) (Kh (ZN F l) c) i m) p)) T) ?_ ?_ _ ⟨T,rfl,b⟩
     ·rintro p _ u ⟨T,rfl,b⟩;left;have v:Va .i64 (((i+m:Nat):Int)+1)=((i+m+1:Nat):Int):=by rw[Zx (by omega) (by omega)];omega
      have A:Zn ((i+m+1:Nat):Int) 9=some (i+m+1):=Kg (by omega);obtain⟨r,Q,d⟩:=b.2 (i+m+1) (by omega);rw[HV _ _ (by omega)]at d;simp only[ZL u,Zd,v,A,Q,Za,ZU u (show F.1.length<=9223372036854775807 by have:=hF.many;omega)]
      cases f:Kh (ZN F l) c (i+m+1) with
      |none=>
       rw[f]at d;rw[show r.1=false from d];refine⟨_,rfl,T,rfl,?_⟩;rw[f]at b
       assumption
      |some x=>
       obtain⟨s,t⟩:=x;rw[f]at d;obtain⟨R,_⟩:=GG.ok d;rw[R];simp only[Zd]
       have w:Bd l.length (Jm (Kh (ZN F l) c) i (Gv (ZN F l) (Kh (ZN F l) c (i+m+1)) i (i+m) (rowK (ZN F l) (Kh (ZN F l) c) i m) p)):=by
        intro j J K C e;have h:=ZcK D c (by omega);by_cases a:j=i
        ·subst a;rw[Rs]at e;exact Zer (n:=l.length) (by grind) (by omega) (by omega) (h _) (Zep (by grind) h m (by omega)) p (show p<=F.1.length by omega) J K e
        ·rw[HV _ _ a]at e;exact h j J K e
       obtain⟨g,L,H⟩:=ZtU hF P b w (i:=i) (k:=i+m) (p:=p) (by omega) I u (s:=s) (t:=t) (by rw[HV _ _ (by omega)];omega);rw[L];refine⟨_,rfl,g,rfl,?_⟩;rw[ZmD,Rs,HV _ _ (by omega)]at H;rw[f]at H
       assumption
     ·rintro _ ⟨T,rfl,b⟩;simp only[JE,Zc];exact⟨_,rfl,b⟩
    ·intro g z;have v:Va .i64 (((i+m:Nat):Int)+1)=((i+(m+1):Nat):Int):=by rw[Zx (by omega) (by omega)];omega
     grind
   ·rintro _ ⟨T,rfl,b⟩;rw[show i+(l.length - i)=l.length by omega];simp only[JE,Zc];refine⟨_,rfl,b.congr fun j C=>?_⟩;rw[Kh];by_cases a:j=i
    ·subst a;rw[Zo (by omega),Rs];rfl
    ·rw[Zg (by omega),HV _ _ a]
   ·by_cases a:j=i
    ·subst a;rw[Rs,ZhC (ZN F l) c (by omega) j (by omega)];rfl
    ·rw[HV _ _ a]
  ·intro g z;have v:Va .i64 ((i:Int) - 1)=(l.length:Int) - 1 - ((c+1:Nat):Int):=by rw[Zx (by omega) (by omega)];omega
   grind
 ·grind
 ·refine⟨(Vh 9 rz).set l.length (true,rz.2),?_,by simp,fun j C=>?_⟩
  ·rw[Zx (by omega) (by omega)]
   grind
  ·rw[Kh];by_cases q:j=l.length
   ·subst q;rw[Zo y.symm,Vma (by grind)];exact⟨_,rfl,rfl,rfl,rfl,by simp⟩
   ·rw[Zg (by omega),Vba (Ne.symm q),List.getElem?_replicate,Zo (by omega)];exact⟨_,rfl,rfl⟩
def Hh(F:Ke)(s:Int):Int:=if 0<F.2.2.2.1/\F.2.2.2.1<s then F.2.2.2.1 else s
theorem Zo9(F:Ke)(s:Int):F12 F s=some (Hh F s):=by
 unfold F12 Hh
 grind
end Q
namespace Q
open Tr Go Dv
def HW(x:Zs):Int:=if x.1=true\/x.2.2.2.2.2.2.1<0\/x.2.2.2.2.2.2.2.1<x.2.2.2.2.2.2.1\/14400<x.2.2.2.2.2.2.2.1 - x.2.2.2.2.2.2.1 then 0 else x.2.2.2.2.2.2.2.1 - x.2.2.2.2.2.2.1
def We(l:List Zs):Int:=(l.map HW).sum
theorem Zug(x:Zs):0<=HW x/\HW x<=14400:=by unfold HW;omega
theorem ZcN(a b:List Zs):We (a++b)=We a+We b:=by unfold We;simp
theorem ZhJ:∀l:List Zs,0<=We l/\We l<=14400* (l.length:Int)
 |[]=>by simp [We]
 |x::l=>by
  have a:=Zug x;have b:=ZhJ l;unfold We at*
  grind
def Hx(x:Zs):Prop:=x.2.2.2.2.2.2.2.1<=9223372036854775807
theorem ZeP(j:Yh)(l:j.1.length<=1000)(f:∀x∈j.1,Hx x):F83 j=some (We j.1):=by
 unfold F83;refine KD (fun r=>r=We j.1) ?_ (by simp);refine Kf j.1.length _ (fun i (s:Int×Int)=>s=(We (j.1.take i),(i:Int))) ?_ ?_ _ rfl
 ·rintro i _ a rfl;left;have h:=f _ (Vf a);have g:=ZhJ (j.1.take i);rw[List.length_take]at g;refine⟨_,?_,rfl⟩;rw[Vr a,ZcN];generalize We (j.1.take i)=W at*;simp only[ZL a,Zd,ZA a,Za,ZU a (by omega)];generalize j.1[i]=x at*;unfold Hx at h;have e0:We [x]=HW x:=by simp [We]
  rw[e0];unfold HW
  cases k:x.1 with
  |true=>
   simp
  |false=>
   simp only[Zc];by_cases c:x.2.2.2.2.2.2.1<0
   ·grind
   ·rw[Zi c];by_cases d:x.2.2.2.2.2.2.2.1<x.2.2.2.2.2.2.1
    ·grind
    ·rw[Zi d];have b:Va .i64 (x.2.2.2.2.2.2.2.1 - x.2.2.2.2.2.2.1)=x.2.2.2.2.2.2.2.1 - x.2.2.2.2.2.2.1:=Zx (by omega) (by omega);simp only[Zc,b,Za];by_cases e:14400<x.2.2.2.2.2.2.2.1 - x.2.2.2.2.2.2.1
     ·grind
     ·rw[Zi e,Zg (by grind),Zx (by omega) (by omega)];rfl
 simp
end Q
