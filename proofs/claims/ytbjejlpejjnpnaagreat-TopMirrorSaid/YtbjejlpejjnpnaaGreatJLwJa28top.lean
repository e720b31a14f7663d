/- Plain laws: shortest walks and closures. -/
import Derived.Test.YtbjejlpejjnpnaaGreatFintopd
import Derived.Test.YtbjejlpejjnpnaaGreatETsF
import Derived.Test.YtbjejlpejjnpnaaGreatLxPop
open BitVec renaming ofInt ->Vp,ofInt_natCast ->Vaa,toNat_ofNat ->Vda,toNat_ofInt ->Vya,toNat_or ->Vnb
open Bool renaming not_true ->Vc,or_eq_false_iff ->Vl,and_eq_true ->Vn,not_eq_true ->Vo,not_false ->Vq,not_eq_false' ->Vca,true_and ->Vfa,false_eq_true ->Vga,or_eq_true ->Vob
open Int renaming toNat_natCast ->Vs,le_refl ->Vha,toNat_of_nonneg ->Vxa,min_eq_right ->Veb
open Go.IntKind renaming wrap ->Va,signed ->Vr,bits ->Vt,i64 ->Vgb,u64 ->Vhb
open List renaming getElem?_eq_getElem ->Vd,getElem_mem ->Vf,replicate ->Vg,getElem_of_mem ->Vh,take_succ_eq_append_getElem ->Vi,length ->Vj,length_append ->Vv,range ->Vw,set ->Vy,getElem?_set_ne ->Vz,length_set ->Vba,getElem?_set_self ->Vea,drop_eq_getElem_cons ->Via,append_assoc ->Vka,pairwise_lt_range ->Vma,append_nil ->Vna,take ->Voa,length_replicate ->Vpa,getElem?_eq_none ->Vqa,pairwise_flatMap ->Vra,replicate_succ' ->Vsa,length_pos_iff ->Vta,mem_cons ->Vua,flatMap_append ->Vva,mem_map ->Vza,ext_getElem? ->Vab,foldl_append ->Vbb,length_cons ->Vcb,take_length ->Vdb,mem_flatMap ->Vfb,countP_set ->Vib,mem_append ->Vjb,length_map ->Vlb,range_succ ->Vmb,isEmpty ->Vpb
open Nat renaming zero_le ->Vm,le_refl ->Vu,or_lt_two_pow ->Vx,strongRecOn ->Vla
open Option renaming bind ->Vb,getD ->Ve,isSome ->Vja
open Prod.mk renaming injEq ->Vwa
open Sum renaming elim_inl ->Vk,elim ->Vkb
namespace Gr
inductive Wk (Ed:Nat->Nat->Int->Prop) (s:Nat):Nat->Int->Prop
 |nil:Wk Ed s s 0
 |snoc {u v:Nat}{d w:Int} (h:Wk Ed s u d) (e:Ed u v w):Wk Ed s v (d+w)
def J4(Ed:Nat->Nat->Int->Prop)(s v:Nat)(d:Int):Prop:=Wk Ed s v d/\ ∀a,Wk Ed s v a->d<=a
theorem Wk.nonneg{Ed:Nat->Nat->Int->Prop}(a:∀u v w,Ed u v w->0<=w){s v:Nat}{d:Int}(h:Wk Ed s v d):0<=d:=by
 induction h with
 |nil=>omega
 |snoc h e b=>grind
theorem ZqW{Ed:Nat->Nat->Int->Prop}(g:∀u v w,Ed u v w->0<=w){s:Nat}{S:Nat->Prop}{L:Nat->Int}{O:Nat->Int->Prop}{m:Int}
 (a:∀u,S u->∀d,Wk Ed s u d->L u<=d) (b:S s\/ ∃l,O s l/\l<=0) (c:∀u v w,S u->Ed u v w->S v\/ ∃l,O v l/\l<=L u+w) (f:∀v l,O v l->m<=l):
 ∀{v:Nat}{d:Int},Wk Ed s v d->S v\/m<=d:=by
 intro v d h
 induction h with
 |nil=>
  grind
 | @snoc u v d w h e i=>
   grind
theorem ZpU{Ed:Nat->Nat->Int->Prop}{s:Nat}{S:Nat->Prop}{L:Nat->Int}{O:Nat->Int->Prop}
 (a:S s\/ ∃l,O s l/\l<=0) (b:∀u v w,S u->Ed u v w->S v\/ ∃l,O v l/\l<=L u+w) (c:∀v l,¬O v l):∀{v:Nat}{d:Int},Wk Ed s v d->S v:=by
 intro v d h
 induction h with
 |nil=>grind
 | @snoc u v d w h e f=>grind
theorem Wk.dom{Ed a:Nat->Nat->Int->Prop}(h:∀u v w,Ed u v w->∃w',a u v w' /\w' <=w){s v:Nat}{d:Int}(k:Wk Ed s v d):∃b,Wk a s v b/\b<=d:=by
 induction k with
 |nil=>exact⟨0,.nil,Vha _⟩
 |snoc k e g=>
  obtain⟨b,c,i⟩:=g;obtain⟨w',f,j⟩:=h _ _ _ e;exact⟨_,.snoc c f,by omega⟩
inductive Wb (Ed:Nat->Nat->Int->Prop) (k:Nat):Nat->Nat->Int->Prop
 |one {i j:Nat}{w:Int} (e:Ed i j w):Wb Ed k i j w
 |cons {i m j:Nat}{w d:Int} (e:Ed i m w) (hm:m<k) (h:Wb Ed k m j d):Wb Ed k i j (w+d)
theorem Wb.nonneg{Ed:Nat->Nat->Int->Prop}(a:∀u v w,Ed u v w->0<=w){k i j:Nat}{d:Int}(h:Wb Ed k i j d):0<=d:=by
 induction h with
 |one e=>grind
 |cons e _ _ b=>grind
theorem Wb.round{Ed:Nat->Nat->Int->Prop}(r:∀u v w,Ed u v w->0<=w){k i j:Nat}{d:Int}(h:Wb Ed (k+1) i j d):
 (∃b,b<=d/\Wb Ed k i j b)\/ ∃f c,f+c<=d/\Wb Ed k i k f/\Wb Ed k k j c:=by
 induction h with
 |one e=>exact .inl ⟨_,Vha _,.one e⟩
 | @cons i m j w d e s h q=>
   by_cases p:m=k
   ·subst p;rcases q with ⟨b,l,a⟩|⟨f,c,l,a,o⟩
    ·exact .inr ⟨w,b,by omega,.one e,a⟩
    ·have:=a.nonneg r;exact .inr ⟨w,c,by omega,.one e,o⟩
   ·have g:m<k:=by omega
    rcases q with ⟨b,l,a⟩|⟨f,c,l,a,o⟩
    ·exact .inl ⟨w+b,by omega,.cons e g a⟩
    ·exact .inr ⟨w+f,c,by omega,.cons e g a,o⟩
theorem Wb.mono{Ed:Nat->Nat->Int->Prop}{k a i j:Nat}{d:Int}(c:k<=a)(h:Wb Ed k i j d):Wb Ed a i j d:=by
 induction h with
 |one e=>exact .one e
 |cons e f _ b=>exact .cons e (by omega) b
theorem Wb.app{Ed:Nat->Nat->Int->Prop}{k i m j:Nat}{b c:Int}(g:m<k)(h:Wb Ed k i m b)(f:Wb Ed k m j c):Wb Ed k i j (b+c):=by
 induction h with
 |one e=>exact .cons e g f
 | @cons i p o w d e a _ l=>
   have:=Wb.cons e a (l g f)
   grind
theorem Wb.wk{Ed:Nat->Nat->Int->Prop}{k s i j:Nat}{d a:Int}(b:Wk Ed s i a)(h:Wb Ed k i j d):Wk Ed s j (a+d):=by
 induction h generalizing a with
 |one e=>exact .snoc b e
 |cons e _ _ c=>
  have:=c (.snoc b e)
  grind
theorem Wb.snoc{Ed:Nat->Nat->Int->Prop}{k i j v:Nat}{d w:Int}(a:j<k)(h:Wb Ed k i j d)(e:Ed j v w):Wb Ed k i v (d+w):=h.app a (.one e)
theorem Wk.wb{Ed:Nat->Nat->Int->Prop}{n s v:Nat}{d:Int}(c:∀u v w,Ed u v w->u<n/\v<n)(h:Wk Ed s v d):(v=s/\d=0)\/Wb Ed n s v d:=by
 induction h with
 |nil=>omega
 | @snoc u v d w h e b=>
   rcases b with ⟨rfl,rfl⟩|a
   ·right;rw[Int.zero_add];exact .one e
   ·exact .inr (a.snoc (by grind) e)
end Gr
namespace Q
open Tr Go
abbrev XB:=Int×Int×Int×Unit
abbrev Nd:=XB×Int×Unit
abbrev Hp:=Unit×List Nd×Int×Unit
def ZgG(a b:XB):Bool:=decide (a.2.1<b.2.1\/(a.2.1=b.2.1/\a.2.2.1<b.2.2.1))
def H4(a b:Nd):Bool:=decide (a.1.2.1<b.1.2.1\/(a.1.2.1=b.1.2.1/\(a.1.2.2.1<b.1.2.2.1\/(a.1.2.2.1=b.1.2.2.1/\a.2.1<b.2.1))))
def le(a b:Nd):Prop:= ¬(b.1.2.1<a.1.2.1\/(b.1.2.1=a.1.2.1/\(b.1.2.2.1<a.1.2.2.1\/(b.1.2.2.1=a.1.2.2.1/\b.2.1<a.2.1))))
theorem le_refl(a:Nd):le a a:=by unfold le;omega
theorem le_trans{a b c:Nd}(h:le a b)(k:le b c):le a c:=by unfold le at*;omega
theorem ZgC{a b:Nd}(h:H4 a b=true):le a b:=by
 unfold H4 at h;unfold le
 grind
theorem ZgD{a b:Nd}(h:H4 a b=false):le b a:=by unfold H4 at h;exact of_decide_eq_false h
theorem Zrt{a b:Nd}(h:le a b):a.1.2.1<=b.1.2.1:=by unfold le at h;omega
def nd0:Nd:=((0,0,0,()),0,())
def ZN(l:List Nd)(k:Nat):Nd:=(l[k]?).getD nd0
theorem ZbS{l:List Nd}{k:Nat}(h:k<l.length):l[k]? =some (ZN l k):=by simp [ZN,h]
theorem ZiO{l:List Nd}{i:Nat}(h:i<l.length)(b:Nd)(k:Nat):ZN (l.set i b) k=if k=i then b else ZN l k:=by
 unfold ZN
 grind
def JM(l:List Nd)(i k:Nat):List Nd:=(l.set i (ZN l k)).set k (ZN l i)
theorem DB(l:List Nd)(i k:Nat):(JM l i k).length=l.length:=by simp [JM]
theorem Gz{l:List Nd}{i k:Nat}(a:i<l.length)(b:k<l.length)(j:Nat):ZN (JM l i k) j=if j=k then ZN l i else if j=i then ZN l k else ZN l j:=by unfold JM;rw[ZiO (by grind),ZiO a]
theorem ZhH{l:List Nd}{i k:Nat}(a:i<l.length)(b:k<l.length):(JM l i k).Perm l:=by
 have c:ZN l k=l[k]:=by simp [ZN,b]
 have d:ZN l i=l[i]:=by simp [ZN,a]
 unfold JM
 grind
theorem ZrH(a b:XB):F168 a b=some (ZgG a b):=by
 unfold F168 ZgG
 grind
theorem ZfH{l:List Nd}{c:Int}{i k:Nat}(a:i<l.length)(b:k<l.length):F72 ((),l,c,()) (i:Int) (k:Int)=some (((),l,c,()),H4 (ZN l i) (ZN l k)):=by
 unfold F72;simp only[Ke a,Ke b,ZbS a,ZbS b,Za,ZrH];unfold ZgG H4;by_cases d:(ZN l i).1.2.1<(ZN l k).1.2.1\/((ZN l i).1.2.1=(ZN l k).1.2.1/\(ZN l i).1.2.2.1<(ZN l k).1.2.2.1)
 ·grind
 ·rw[Zk d];simp only[Ze];by_cases e:(ZN l k).1.2.1<(ZN l i).1.2.1\/((ZN l k).1.2.1=(ZN l i).1.2.1/\(ZN l k).1.2.2.1<(ZN l i).1.2.2.1)
  ·rw[Zd e];simp only[Zc];rw[Zk (by omega)]
  grind
theorem ZhI{l:List Nd}{c:Int}{i k:Nat}(b:i<l.length)(d:k<l.length):F74 ((),l,c,()) (i:Int) (k:Int)=some ((),JM l i k,c,()):=by
 unfold F74;have a:k<(Vy l i (ZN l k)).length:=by grind
 simp only[Ke b,Ke d,ZbS b,ZbS d,Za,Ke a];rw[Vd a];rfl
def Ys(l:List Nd):Prop:= ∀k,0<k->k<l.length->le (ZN l ((k - 1) / 2)) (ZN l k)
theorem Zq5{l:List Nd}(h:Ys l):∀k,k<l.length->le (ZN l 0) (ZN l k):=by
 intro k
 induction k using Vla with
 |ind k c=>
  intro b;by_cases a:k=0
  ·subst a;exact le_refl _
  ·exact le_trans (by grind) (h k (by omega) b)
def Up(l:List Nd)(i:Nat):Prop:=
 i<l.length/\(∀k,0<k->k<l.length->k≠i->le (ZN l ((k - 1) / 2)) (ZN l k))/\ ∀k,0<k->k<l.length->(k - 1) / 2=i->0<i->le (ZN l ((i - 1) / 2)) (ZN l k)
theorem Zux{l:List Nd}{i:Nat}(h:Up l i)(t:0<i)(q:H4 (ZN l i) (ZN l ((i - 1) / 2))=true):Up (JM l i ((i - 1) / 2)) ((i - 1) / 2):=by
 obtain⟨g,j,s⟩:=h;have d:(i - 1) / 2<l.length:=by omega
 have m:=ZgC q;refine⟨by rw[DB];omega,fun k o f p=>?_,fun k o f p r=>?_⟩
 ·rw[DB]at f;rw[Gz g d,Gz g d];by_cases c:k=i
  ·grind
  ·rw[Zf p,Zf c];by_cases u:(k - 1) / 2=i
   ·grind
   ·by_cases e:(k - 1) / 2=(i - 1) / 2
    ·rw[Zp e];have:=j k o f c;rw[e]at this;exact le_trans m this
    grind
 ·rw[DB]at f;rw[Gz g d,Gz g d,Zf (by omega),Zf (by omega)];by_cases c:k=i
  ·grind
  ·rw[Zf (by omega),Zf c];have a:=j _ r d (by omega);have b:=j k o f c;rw[p]at b;exact le_trans a b
theorem ZlF{l:List Nd}{c:Int}(x:XB)(h:Ys l)(E:l.length<2147483648):
 ∃z:Hp,F71 ((),l,c,()) x=some z/\z.2.2.1=Va .i64 (c+1)/\Ys z.2.1/\z.2.1.Perm (l++[(x,c,())]):=by
 have b:(l++[(x,c,())]).length=l.length+1:=by simp
 have A:Up (l++[(x,c,())]) l.length:=by
  refine⟨by omega,fun k d g F=>?_,by omega⟩;have e:∀j,j<l.length->ZN (l++[(x,c,())]) j=ZN l j:=fun j C=>by simp [ZN,List.getElem?_append_left C]
  rw[e _ (by omega),e _ (by omega)];exact h k d (by omega)
 unfold F71
 have w:ZD (decide (l.length+ [((x,c,()):Nd)].length<=ZE))=some ():=by rw[Zd (by simp [ZE];omega)];rfl
 have y:Va .i64 (((l++[(x,c,())]).length:Int) - 1)=(l.length:Int):=by rw[b,Zs (by omega) (by omega)];omega
 simp only[w,Za,y]
 refine run_bind (fun s=>∃(m:List Nd) (i:Nat),s=(((),m,Va .i64 (c+1),()),(i:Int))/\Up m i/\m.Perm (l++[(x,c,())])) (fun s=>s.2.toNat)
  (fun r=>∃m:List Nd,r=((),m,Va .i64 (c+1),())/\Ys m/\m.Perm (l++[(x,c,())])) ⟨_,l.length,rfl,A,.refl _⟩ ?_ ?_
 ·rintro s ⟨m,i,rfl,a,f⟩;have D:m.length=l.length+1:=by rw[f.length_eq,b]
  by_cases B:0<i
  ·have t:Va .i64 ((i:Int) - 1)=((i - 1:Nat):Int):=by have:=a.1;rw[Zs (by omega) (by omega)];omega
   have u:Int.tdiv ((i - 1:Nat):Int) 2=(((i - 1) / 2:Nat):Int):=by rfl
   have v:Va .i64 ((((i - 1) / 2:Nat)):Int)=(((i - 1) / 2:Nat):Int):=by have:=a.1;exact Zs (by omega) (by omega)
   have o:(i - 1) / 2<m.length:=by have:=a.1;omega
   simp only[show decide ((0:Int)<(i:Int))=true from (by grind),Zc,t,u,v,ZfH a.1 o,Za]
   cases p:H4 (ZN m i) (ZN m ((i - 1) / 2)) with
   |true=>
    left;refine⟨_,by simp only[Zc,ZhI a.1 o,Za],⟨JM m i ((i - 1) / 2),(i - 1) / 2,rfl,Zux a B p,(ZhH a.1 o).trans f⟩,?_⟩
    omega
   |false=>
    right;refine⟨_,rfl,m,rfl,fun k d g=>?_,f⟩;by_cases q:k=i
    ·subst q;exact ZgD p
    ·exact a.2.1 k d g q
  ·right;have:i=0:=by omega
   subst this;refine⟨_,by rfl,m,rfl,fun k d g=>a.2.1 k d g (by omega),f⟩
 grind
def Dn(l:List Nd)(i:Nat):Prop:=
 (∀k,0<k->k<l.length->(k - 1) / 2≠i->le (ZN l ((k - 1) / 2)) (ZN l k))/\ ∀k,0<k->k<l.length->(k - 1) / 2=i->0<i->le (ZN l ((i - 1) / 2)) (ZN l k)
theorem Zqj{l:List Nd}{i c:Nat}(h:Dn l i)(b:i<l.length)(a:c<l.length)(e:(c - 1) / 2=i)(m:0<c)(j:H4 (ZN l c) (ZN l i)=true)(t:∀k,0<k->k<l.length->(k - 1) / 2=i->le (ZN l c) (ZN l k)):Dn (JM l i c) c:=by
 obtain⟨r,s⟩:=h;have o:=ZgC j;refine⟨fun k q f g=>?_,fun k q f g u=>?_⟩
 ·rw[DB]at f;rw[Gz b a,Gz b a,Zf g];by_cases d:k=i
  ·grind
  ·by_cases p:(k - 1) / 2=i
   ·grind
   ·rw[Zf p,Zf (by omega),Zf d]
    grind
 ·rw[DB]at f;rw[e,Gz b a,Gz b a,Zf (by omega),Zp rfl,Zf (by omega),Zf (by omega)]
  grind
theorem Zju{l:List Nd}{i:Nat}(h:Dn l i)(d:∀k,0<k->k<l.length->(k - 1) / 2=i->le (ZN l i) (ZN l k)):Ys l:=by
 intro k b c;by_cases a:(k - 1) / 2=i
 ·grind
 ·exact h.1 k b c a
theorem ZtJ{l:List Nd}{c:Int}(h:Dn l 0)(H:l.length<2147483648):∃z:Hp,F73 ((),l,c,())=some z/\z.2.2.1=c/\Ys z.2.1/\z.2.1.Perm l:=by
 unfold F73;simp only
 refine run_bind (fun s=>∃(m:List Nd) (i:Nat),s=(((),m,c,()),(i:Int))/\(i<m.length\/i=0)/\Dn m i/\m.Perm l) (fun s=>l.length - s.2.toNat)
  (fun r=>∃m:List Nd,r=((),m,c,())/\Ys m/\m.Perm l) ⟨l,0,rfl,.inr rfl,h,.refl _⟩ ?_ ?_
 ·rintro s ⟨m,i,rfl,F,t,p⟩;have D:m.length=l.length:=p.length_eq;have y:Va .i64 ((2:Int) * (i:Int))=((2*i:Nat):Int):=by rw[Zs (by omega) (by omega)];omega
  have A:Va .i64 (((2*i:Nat):Int)+1)=((2*i+1:Nat):Int):=by rw[Zs (by omega) (by omega)];omega
  have B:Va .i64 (((2*i+1:Nat):Int)+1)=((2*i+2:Nat):Int):=by rw[Zs (by omega) (by omega)];omega
  simp only[y,A,B];by_cases G:m.length<=2*i+1
  ·right;refine⟨_,by grind,m,rfl,Zju t (by omega),p⟩
  ·simp only[show decide ((m.length:Int)<=((2*i+1:Nat):Int))=false from (by grind),Ze];have e:i<m.length:=by omega
   have fin:∀a:Nat,(a=2*i+1\/a=2*i+2)->a<m.length->(∀k,0<k->k<m.length->(k - 1) / 2=i->le (ZN m a) (ZN m k))->
    (∃x:Hp×Int,(Vb (F72 ((),m,c,()) (a:Int) (i:Int)) fun b=>
       bif !b.snd then some (Sum.inr ((),b.fst.snd.fst,b.fst.snd.snd.fst,()))
       else Vb (F74 ((),b.fst.snd.fst,b.fst.snd.snd.fst,()) (i:Int) (a:Int)) fun o=>some (Sum.inl (((),o.snd.fst,o.snd.snd.fst,()),(a:Int))))=some (Sum.inl x:(Hp×Int) ⊕ Hp)/\
       (∃(f:List Nd) (q:Nat),x=(((),f,c,()),(q:Int))/\(q<f.length\/q=0)/\Dn f q/\f.Perm l)/\l.length - x.2.toNat<l.length - (i:Int).toNat)\/
    ∃r:Hp,(Vb (F72 ((),m,c,()) (a:Int) (i:Int)) fun b=>
       bif !b.snd then some (Sum.inr ((),b.fst.snd.fst,b.fst.snd.snd.fst,()))
       else Vb (F74 ((),b.fst.snd.fst,b.fst.snd.snd.fst,()) (i:Int) (a:Int)) fun o=>some (Sum.inl (((),o.snd.fst,o.snd.snd.fst,()),(a:Int))))=some (Sum.inr r:(Hp×Int) ⊕ Hp)/\
      ∃f:List Nd,r=((),f,c,())/\Ys f/\f.Perm l:=by
    intro a C d E;rw[ZfH d e];simp only[Za]
    cases g:H4 (ZN m a) (ZN m i) with
    |true=>
     left;refine⟨_,by simp only[Vc,Ze,ZhI e d,Za],⟨JM m i a,a,rfl,.inl (by rw[DB];omega),Zqj t e d (by omega) (by omega) g E,(ZhH e d).trans p⟩,?_⟩
     omega
    |false=>
     right;exact⟨_,by rfl,m,rfl,Zju t fun k u v w=>le_trans (ZgD g) (by grind),p⟩
   by_cases j:2*i+2<m.length
   ·simp only[show decide (((2*i+2:Nat):Int)<(m.length:Int))=true from (by grind),Zc,ZfH j (show 2*i+1<m.length by omega),Za]
    cases g:H4 (ZN m (2*i+2)) (ZN m (2*i+1)) with
    |true=>
     simp only[Zc,Za]
     exact fin (2*i+2) (.inr rfl) j fun k u v w=>by
      have:k=2*i+1\/k=2*i+2:=by omega
      rcases this with rfl|rfl
      ·exact ZgC g
      ·exact le_refl _
    |false=>
     simp only[Ze,Za]
     exact fin (2*i+1) (.inl rfl) (by omega) fun k u v w=>by
      have:k=2*i+1\/k=2*i+2:=by omega
      rcases this with rfl|rfl
      ·exact le_refl _
      ·exact ZgD g
   ·simp only[show decide (((2*i+2:Nat):Int)<(m.length:Int))=false from (by grind),Ze]
    exact fin (2*i+1) (.inl rfl) (by omega) fun k u v w=>by
     have:k=2*i+1:=by omega
     subst this;exact le_refl _
 grind
theorem Zsx(c:Int):F70 ((),[],c,())=some (((),[],c,()),(0,0,0,()),false):=by rfl
theorem Zsz{l:List Nd}{c:Int}(h:Ys l)(o:l≠ [])(G:l.length<2147483648):
 ∃f x,F70 ((),l,c,())=some (((),f,c,()),x.1,true)/\Ys f/\l.Perm (x::f)/\ ∀y∈l,x.1.2.1<=y.1.2.1:=by
 have b:0<l.length:=Vta.2 o;have a:l.length - 1<l.length:=by omega
 have d:F69 ((),l,c,())=some (((),l,c,()),(ZN l 0).1,true):=by unfold F69 F68;simp only[Za,show decide ((l.length:Int)=0)=false from (by grind),Ze];rw[show (0:Int)=((0:Nat):Int) from rfl,Ke b];simp only[Za,ZbS b]
 have r:Va .i64 ((l.length:Int) - 1)=((l.length - 1:Nat):Int):=by rw[Zs (by omega) (by omega)];omega
 have v:sliceB (JM l 0 (l.length - 1)).length (JM l 0 (l.length - 1)).length none (some ((l.length - 1:Nat):Int))=some (0,l.length - 1):=by unfold sliceB;rw[DB];simp
 have u:Dn (Voa (l.length - 1) (JM l 0 (l.length - 1))) 0:=by
  refine⟨fun k A B H=>?_,by omega⟩;simp [DB]at B
  have e:∀j,j<l.length - 1->j≠0->ZN (Voa (l.length - 1) (JM l 0 (l.length - 1))) j=ZN l j:=fun j F g=>by
   have:ZN (Voa (l.length - 1) (JM l 0 (l.length - 1))) j=ZN (JM l 0 (l.length - 1)) j:=by unfold ZN;grind
   rw[this,Gz b a,Zf (by omega),Zf g]
  rw[e _ (by omega) (by omega),e _ (by omega) (by omega)];exact h k A (by omega)
 obtain⟨⟨_,f,C,_⟩,D,rfl,s,E⟩:=ZtJ (c:=c) u (by grind);refine⟨f,ZN l 0,?_,s,?_,fun y z=>?_⟩
 ·unfold F70;rw[d];simp only[Za,Vc,Ze,r];rw[show (0:Int)=((0:Nat):Int) from rfl,ZhI b a]
  grind
 ·have w:=ZhH b a
  have e:JM l 0 (l.length - 1)=Voa (l.length - 1) (JM l 0 (l.length - 1))++[ZN l 0]:=by
   conv=>lhs;rw[<-List.take_append_drop (l.length - 1) (JM l 0 (l.length - 1))]
   congr 1;have m:(JM l 0 (l.length - 1)).length=l.length:=DB ..;rw[Via (by omega)];have t:List.drop (l.length - 1+1) (JM l 0 (l.length - 1))=[]:=by grind
   rw[t];have p:=Gz b a (l.length - 1);rw[Zp rfl]at p;rw[<-p];simp [ZN,m,a]
  grind
 ·obtain⟨i,q,rfl⟩:=Vh z;have:=Zrt (Zq5 h i q);simpa [ZN,q] using this
end Q
namespace Q
open Tr Go Gr
abbrev Yq:=Int×Int×Int×Unit
abbrev Adj:=List (Int×List Yq)
def W2(m:Adj)(u:Nat):List Yq:=Ve (ZI (Zj (.int .i64)) (u:Int) m) []
structure Ze4 (n:Nat) (m:Adj) (Ed:Nat->Nat->Int->Prop):Prop where
 mem:∀u,u<n->∀y∈W2 m u,∃v:Nat,v<n/\y.2.1=(v:Int)/\0<=y.2.2.1/\y.2.2.1<=1073741824/\Ed u v y.2.2.1
 all:∀u v w,Ed u v w->u<n/\ ∃y∈W2 m u,y.2.1=(v:Int)/\y.2.2.1=w
 len:∀u,u<n->(W2 m u).length<=4096
def JX(x:XB):Bool:=decide (0<=x.2.2.1)
def Ho(o:List XB)(i:Nat):Prop:= ∃x,o[i]? =some x/\0<=x.2.2.1
def lenOf(o:List XB)(i:Nat):Int:=((o[i]?).getD (0,0,0,())).2.1
structure DI (n:Nat) (Ed:Nat->Nat->Int->Prop) (s:Nat) (o:List XB) (h:List Nd):Prop where
 len:o.length=n
 heap:Ys h
 lab:∀i x,o[i]? =some x->(x.2.2.1<0->x.2.1= -1)/\(0<=x.2.2.1->J4 Ed s i x.2.1)
 opn:∀d∈h,∃v:Nat,v<n/\d.1.1=(v:Int)/\Wk Ed s v d.1.2.1/\0<=d.1.2.2.1/\d.1.2.2.1<=(o.countP JX:Nat)/\d.1.2.1<=d.1.2.2.1*1073741824
 src:Ho o s\/ ∃d∈h,d.1.1=(s:Int)/\d.1.2.1<=0
 out:∀u v w,Ho o u->Ed u v w->Ho o v\/ ∃d∈h,d.1.1=(v:Int)/\d.1.2.1<=lenOf o u+w
 size:h.length+(n - o.countP JX) *4096<=1+n*4096
theorem ZfV(o:List XB):o.countP JX<=o.length:=List.countP_le_length
theorem Zqb{n:Nat}{Ed:Nat->Nat->Int->Prop}{s:Nat}{o:List XB}{h b:List Nd}{x:Nd}{v:Nat}(a:DI n Ed s o h)(i:Ys b)(j:h.Perm (x::b))(q:x.1.1=(v:Int))(p:Ho o v):DI n Ed s o b where
 len:=a.len
 heap:=i
 lab:=a.lab
 opn:=fun d m=>a.opn d (by grind)
 src:=by
  rcases a.src with c|⟨d,c,e,f⟩
  all_goals grind
 out:=fun u l w k g=>by
  rcases a.out u l w k g with c|⟨d,c,e,f⟩
  all_goals grind
 size:=by
  have:=j.length_eq;have:=a.size
  grind
theorem Zmu{o:List XB}{v:Nat}{x:XB}(c:0<=x.2.2.1){i:Nat}(h:Ho o i):Ho (o.set v x) i:=by
 obtain⟨y,d,a⟩:=h;by_cases b:v=i
 ·subst b;have e:v<o.length:=by grind
  exact⟨x,by grind,c⟩
 ·exact⟨y,by grind,a⟩
theorem Zqc{n:Nat}{Ed:Nat->Nat->Int->Prop}{m:Adj}(F:Ze4 n m Ed){s:Nat}{o:List XB}{h K D:List Nd}{x:Nd}{v:Nat}{y:XB}(k:DI n Ed s o h)(hv:v<n)(V:h.Perm (x::K))(b5:x.1.1=(v:Int))
 (a7:∀d∈h,x.1.2.1<=d.1.2.1) (ho:o[v]? =some y) (hy:y.2.2.1<0) (Q:Ys D) (b1:D.length<=K.length+(W2 m v).length) (h1:∀d∈K,d∈D)
 (h3:∀d∈D,d∈K\/ ∃e∈W2 m v,d.1.1=e.2.1/\d.1.2.1=x.1.2.1+e.2.2.1/\d.1.2.2.1=x.1.2.2.1+1)
 (h4:∀e∈W2 m v,(∃t:Nat,e.2.1=(t:Int)/\Ho (o.set v x.1) t)\/ ∃d∈D,d.1.1=e.2.1/\d.1.2.1=x.1.2.1+e.2.2.1):DI n Ed s (o.set v x.1) D:=by
 have hw:∀u v w,Ed u v w->0<=w:=fun u v w e=>by obtain⟨B,z,j,g,rfl⟩:=F.all u v w e;obtain⟨f,_,_,r,_⟩:=F.mem u B z j;omega
 have X:x∈h:=by grind
 obtain⟨f,b3,b4,J,A,a9,b0⟩:=k.opn x X;have:f=v:=by omega
 subst this;have T:f<o.length:=by grind
 have p:(o.set f x.1)[f]? =some x.1:=by grind
 have H:∀{i},i≠f->(o.set f x.1)[i]? =o[i]? :=by grind
 have U:o[f]=y:=by
  grind
 have a0:(o.set f x.1).countP JX=o.countP JX+1:=by
  rw[Vib T,U];have a:JX y=false:=by simp [JX];omega
  have b:JX x.1=true:=by simp [JX];omega
  grind
 have b2:(o.set f x.1).countP JX<=n:=by have:=ZfV (o.set f x.1);rw[Vba,k.len]at this;omega
 have M:J4 Ed s f x.1.2.1:=by
  refine⟨J,fun d G=>?_⟩
  have:=ZqW (S:=Ho o) (L:=lenOf o) (O:=fun v l=>∃d∈h,d.1.1=(v:Int)/\d.1.2.1=l) (m:=x.1.2.1) hw (fun u B d G=>by
   obtain⟨z,j,q⟩:=B;have:=((k.lab u z j).2 q).2 d G
   simpa [lenOf,j] using this) (by
   rcases k.src with g|⟨d,g,r,C⟩
   all_goals grind) (fun u v w B E=>by
   rcases k.out u v w B E with g|⟨d,g,r,C⟩
   all_goals grind) (by grind) G
  rcases this with ⟨z,j,q⟩|g
  all_goals grind
 have R:∀u,Ho o u->lenOf (o.set f x.1) u=lenOf o u:=fun u B=>by
  obtain⟨z,j,q⟩:=B;have a8:u≠f:=by grind
  unfold lenOf
  grind
 refine⟨by rw[Vba];exact k.len,Q,fun i z j=>?_,fun d G=>?_,?_,fun u Y w B E=>?_,?_⟩
 ·by_cases hi:i=f
  ·grind
  ·rw[H hi]at j;exact k.lab i z j
 ·rcases h3 d G with g|⟨e,E,g,r,C⟩
  ·obtain⟨t,Z,a2,a3,a4,a5,a6⟩:=k.opn d (by grind)
   grind
  ·obtain⟨t,Z,a2,a3,a4,a5⟩:=F.mem f hv e E;refine⟨t,Z,g.trans a2,by rw[r];exact .snoc J a5,by omega,by omega,?_⟩;omega
 ·rcases k.src with g|⟨d,g,r,C⟩
  ·exact .inl (Zmu A g)
  ·rcases Vua.1 (V.mem_iff.1 g) with rfl|N
   ·have:s=f:=by omega
    subst this;exact .inl ⟨_,p,A⟩
   grind
 ·by_cases I:u=f
  ·subst I;obtain⟨_,e,P,g,rfl⟩:=F.all u Y w E;rcases h4 e P with ⟨t,r,C⟩|⟨d,r,C,N⟩
   ·grind
   ·refine .inr ⟨d,r,C.trans g,?_⟩;rw[N];simp [lenOf,p]
  ·have W:Ho o u:=by obtain⟨z,j,q⟩:=B;rw[H I]at j;exact⟨z,j,q⟩
   rcases k.out u Y w W E with g|⟨d,g,r,C⟩
   ·exact .inl (Zmu A g)
   ·rcases Vua.1 (V.mem_iff.1 g) with rfl|N
    ·have:Y=f:=by omega
     subst this;exact .inl ⟨_,p,A⟩
    grind
 ·have a:=V.length_eq;have b:=k.size;have c:=F.len f hv
  grind
end Q
namespace Q
open Tr Go Gr
def Zfc(n:Nat)(Ed:Nat->Nat->Int->Prop)(s:Nat)(o:List XB):Prop:=
 o.length=n/\ ∀i x,o[i]? =some x->(J4 Ed s i x.2.1/\0<=x.2.1)\/((∀d,¬Wk Ed s i d)/\x.2.1= -1)
theorem Zro{n:Nat}(hn:n<=64){m:Adj}{Ed:Nat->Nat->Int->Prop}(R:Ze4 n m Ed){s:Nat}(hs:s<n):
 ∃z,F166 (n:Int) m (s:Int)=some z/\z.1=m/\Zfc n Ed s z.2:=by
 have hw:∀u v w,Ed u v w->0<=w:=fun u v w e=>by obtain⟨hu,z,hz,P,rfl⟩:=R.all u v w e;obtain⟨v',_,_,h6,_⟩:=R.mem u hu z hz;omega
 unfold F166
 have eg:ZD (decide ((0:Int)<=(n:Int)/\(n:Int)<=(n:Int)/\(n:Int)<=(ZE:Int)))=some ():=by rw[Zd (by simp [ZE];omega)];rfl
 rw[show ZD _=some () from eg];simp only[Za,Vpa,Vs]
 refine Xx (fun st=>∃(o:List XB) (i:Nat),st=(o,(i:Int))/\o.length=n/\i<=n/\ ∀j,j<i->o[j]? =some ((j:Int), -1, -1,())) (fun st=>n - st.2.toNat)
  (fun o=>o.length=n/\ ∀j,j<n->o[j]? =some ((j:Int), -1, -1,())) ⟨_,0,rfl,by simp,Vm _,by omega⟩ ?_ ?_
 ·rintro st ⟨o,i,rfl,h1,h2,h3⟩;by_cases hi:i<n
  ·have X:i<o.length:=by omega
   have e1:Va .i64 ((i:Int)+1)=((i+1:Nat):Int):=by rw[Zs (by omega) (by omega)];omega
   simp only[show decide ((i:Int)<(n:Int))=true from (by grind),Zc,Ke X,Za,Vd X,e1]
   grind
  ·have:i=n:=by omega
   simp_all
 ·rintro o0 ⟨a7,a8⟩;obtain⟨⟨_,h0,c0,_⟩,K,_,a0,A⟩:=ZlF (l:=[]) (c:=0) ((s:Int),0,0,()) (fun k k1 k2=>by grind) (by simp);simp only at a0 A;unfold F76;simp only[Za];rw[show F71 _ _=some _ from K];simp only[Za];have J:∀d,d∈h0↔d=((((s:Int),0,0,()),0,()):Nd):=by grind
  have a6:o0.countP JX=0:=by rw[List.countP_eq_zero];intro a ha;obtain⟨i,hi,rfl⟩:=Vh ha;have:=a8 i (by omega);rw[Vd hi]at this;simp only[Option.some.injEq]at this;rw[this];simp [JX]
  have a5:DI n Ed s o0 h0:= {
   len:=a7
   heap:=a0
   lab:=by grind
   opn:=fun d U=>by rw[J]at U;subst U;exact⟨s,hs,rfl,.nil,Vha _,by simp,by simp⟩
   src:=by simp_all
   out:=fun u v w hu=>by
    obtain⟨x,hx,a4⟩:=hu
    grind
   size:=by
    have:=A.length_eq
    grind}
  refine Xx (fun st=>∃(o:List XB) (h:List Nd) (c:Int),st=(o,(),h,c,())/\DI n Ed s o h) (fun st=>(n - st.1.countP JX) *8192+st.2.2.1.length)
   (fun o=>Zfc n Ed s o) ⟨o0,h0,c0,rfl,a5⟩ ?_ (by simp)
  rintro st ⟨o,h,c,rfl,y⟩;simp only;have b4:h.length<=300000:=by have:=y.size;omega
  have b0:h.length<2147483648:=by omega
  by_cases Z:h=[]
  ·subst Z;rw[Zsx];simp only[Za,Vq,Zc];refine⟨_,rfl,y.len,fun i x hx=>?_⟩;by_cases a4:0<=x.2.2.1
   ·have:=(y.lab i x hx).2 a4;exact .inl ⟨this,this.1.nonneg hw⟩
   ·refine .inr ⟨fun d U=>?_,(y.lab i x hx).1 (by omega)⟩
    have:=ZpU (S:=Ho o) (L:=lenOf o) (O:=fun _ _=>False) (by
     rcases y.src with P|⟨d,P,_⟩
     all_goals grind) (fun u v w hu he=>by
     rcases y.out u v w hu he with P|⟨d,P,_⟩
     all_goals grind) (by simp) U
    obtain⟨z,hz,d0⟩:=this
    grind
  ·obtain⟨E,x,a2,F,hp,Y⟩:=Zsz (c:=c) y.heap Z b0;rw[a2];simp only[Za,Vc,Ze];obtain⟨v,hv,N,b1,b7,c4,c5⟩:=y.opn x (by grind);have D:v<o.length:=by rw[y.len];omega
   have a9:=hp.length_eq;simp only[Vcb]at a9;have b5:o.countP JX<=n:=by have:=ZfV o;rw[y.len]at this;omega
   simp only[N,Ke D,Za,Vd D];have a1:o[v]? =some o[v]:=Vd D;by_cases a3:0<=(o[v]).2.2.1
   ·simp only[show decide ((0:Int)<=(o[v]).2.2.1)=true from (by grind),Zc];exact⟨_,rfl,⟨o,E,c,rfl,Zqb y F hp N ⟨_,a1,a3⟩⟩,by grind⟩
   ·simp only[show decide ((0:Int)<=(o[v]).2.2.1)=false from (by grind),Ze];have T:Ve (ZI (Zj Y3) (v:Int) m) []=W2 m v:=rfl;have b6:=R.len v hv;have c8:0<=x.1.2.1:=b1.nonneg hw;have c9:x.1.2.1<=68719476736:=by omega
    refine Xx (fun st=>∃(g:List Nd) (B:Int) (j:Nat),st=(((),g,B,()),(j:Int))/\j<=(W2 m v).length/\Ys g/\g.length<=E.length+j/\(∀d∈E,d∈g)/\
     (∀d∈g,d∈E\/ ∃e∈W2 m v,d.1.1=e.2.1/\d.1.2.1=x.1.2.1+e.2.2.1/\d.1.2.2.1=x.1.2.2.1+1)/\
     ∀k e,k<j->(W2 m v)[k]? =some e->(∃t:Nat,e.2.1=(t:Int)/\Ho (o.set v x.1) t)\/ ∃d∈g,d.1.1=e.2.1/\d.1.2.1=x.1.2.1+e.2.2.1) (fun st=>(W2 m v).length - st.2.toNat)
     (fun r=>∃(g:List Nd) (B:Int),r=((),g,B,())/\Ys g/\g.length<=E.length+(W2 m v).length/\(∀d∈E,d∈g)/\
       (∀d∈g,d∈E\/ ∃e∈W2 m v,d.1.1=e.2.1/\d.1.2.1=x.1.2.1+e.2.2.1/\d.1.2.2.1=x.1.2.2.1+1)/\
       ∀e∈W2 m v,(∃t:Nat,e.2.1=(t:Int)/\Ho (o.set v x.1) t)\/ ∃d∈g,d.1.1=e.2.1/\d.1.2.1=x.1.2.1+e.2.2.1)
     ⟨E,c,0,rfl,Vm _,F,Vu _,fun _ h=>h,by grind,by omega⟩ ?_ ?_
    ·rintro st ⟨g,B,j,rfl,hj,W,H,g1,g2,Q⟩;simp only[T];by_cases f:j<(W2 m v).length
     ·obtain⟨t,ht,V,b8,b9,c1⟩:=R.mem v hv _ (Vf f);have M:t<(Vy o v x.1).length:=by rw[Vba,y.len];omega
      have e1:Va .i64 ((j:Int)+1)=((j+1:Nat):Int):=by rw[Zs (by omega) (by omega)];omega
      simp only[show decide ((j:Int)<((W2 m v).length:Int))=true from (by grind),Zc,Ke f,Za,Vd f,V,Ke M,Vd M,e1];by_cases c7:(Vy o v x.1)[t].2.2.1<0
      ·have e2:Va .i64 (x.1.2.1+((W2 m v)[j]).2.2.1)=x.1.2.1+((W2 m v)[j]).2.2.1:=Zs (by omega) (by omega);have e3:Va .i64 (x.1.2.2.1+1)=x.1.2.2.1+1:=Zs (by omega) (by omega);simp only[show decide ((Vy o v x.1)[t].2.2.1<0)=true from (by grind),Zc,e2,e3];obtain⟨⟨_,g',c2,_⟩,C,_,G,q⟩:=ZlF (c:=B) ((t:Int),x.1.2.1+((W2 m v)[j]).2.2.1,x.1.2.2.1+1,()) W (by omega);simp only at G q;rw[show F71 _ _=some _ from C];simp only[Za];have c6:∀d,d∈g' ↔d∈g\/d=(((t:Int),x.1.2.1+((W2 m v)[j]).2.2.1,x.1.2.2.1+1,()),B,()):=by grind
       refine⟨_,rfl,⟨g',c2,j+1,rfl,f,G,?_,by grind,fun d U=>?_,fun k e hk p=>?_⟩,by omega⟩
       ·have:=q.length_eq;grind
       ·grind
       ·by_cases I:k=j
        ·subst I;rw[Vd f]at p;cases p;simp [*]
        ·rcases Q k e (by omega) p with P|⟨d,P,h6⟩
         all_goals grind
      ·simp only[show decide ((Vy o v x.1)[t].2.2.1<0)=false from (by grind),Ze];refine⟨_,rfl,⟨g,B,j+1,rfl,f,W,by omega,g1,g2,fun k e hk p=>?_⟩,by omega⟩;by_cases I:k=j
       ·subst I;rw[Vd f]at p;cases p;exact .inl ⟨t,V,_,Vd M,by omega⟩
       ·exact Q k e (by omega) p
     ·have:j=(W2 m v).length:=by omega
      subst this;simp only[show decide (((W2 m v).length:Int)<((W2 m v).length:Int))=false by simp,Ze];refine⟨_,rfl,g,B,rfl,W,H,g1,g2,fun e he=>?_⟩;obtain⟨k,hk,rfl⟩:=Vh he;exact Q k _ hk (by simp)
    ·rintro r ⟨g,B,rfl,W,H,g1,g2,Q⟩;have hD:=Zqc R y hv hp N Y a1 (by omega) W H g1 g2 Q;refine⟨_,rfl,⟨_,g,B,rfl,hD⟩,?_⟩
     have b3:(o.set v x.1).countP JX=o.countP JX+1:=by
      rw[Vib D];have a:JX o[v]=false:=by simp [JX];omega
      have b:JX x.1=true:=by simp [JX];omega
      grind
     have b2:(o.set v x.1).countP JX<=n:=by have:=ZfV (o.set v x.1);rw[hD.len]at this;omega
     grind
end Q
namespace Q
open Tr Go Gr
open Classical in
theorem Gy{t:Ty}{β:Type}(b:t.key=true)(k a:El t)(v:β):∀(l:List (El t×β)),ZI (Zj t) k (ZZ (Zj t) a v l)=if k=a then some v else ZI (Zj t) k l
 |[]=>by
  simp only[ZZ,ZI];by_cases h:k=a
  ·rw[(Jv b).2 h,Zp h];rfl
  ·rw[Zf h]
   cases c:Zj t k a with
   |true=>exact absurd ((Jv b).1 c) h
   |false=>rfl
 |e::l=>by
  simp only[ZZ]
  cases c:Zj t a e.1 with
  |true=>
   have f:=(Jv b).1 c;simp only[Zc,ZI];by_cases h:k=a
   ·rw[(Jv b).2 h,Zp h];rfl
   ·rw[Zf h, <-f]
    cases d:Zj t k a with
    |true=>exact absurd ((Jv b).1 d) h
    |false=>rfl
  |false=>
   simp only[Ze,ZI,Gy b k a v l]
   cases d:Zj t k e.1 with
   |false=>rfl
   |true=>
    have f:=(Jv b).1 d
    have:k≠a:=by rintro rfl;rw[d]at c;cases c
    simp only[Zc];rw[Zf this]
def EdL(E:List Yq)(u v:Nat)(w:Int):Prop:= ∃e∈E,e.1=(u:Int)/\e.2.1=(v:Int)/\e.2.2.1=w
theorem Zsf(E:List Yq)(j:E.length<=4096):∃z,F169 E false=some z/\ ∀u:Nat,W2 z u=E.filter fun e=>decide (e.1=(u:Int)):=by
 unfold F169
 refine Xx (fun st=>∃(m:Adj) (i:Nat),st=(m,(i:Int))/\i<=E.length/\ ∀k:Int,Ve (ZI (Zj (.int .i64)) k m) []=(E.take i).filter fun e=>decide (e.1=k)) (fun st=>E.length - st.2.toNat)
  (fun m=>∀u:Nat,W2 m u=E.filter fun e=>decide (e.1=(u:Int))) ⟨[],0,rfl,Vm _,fun k=>by rfl⟩ ?_ (by simp)
 rintro st ⟨m,i,rfl,l,c⟩;by_cases a:i<E.length
 ·have d:Va .i64 ((i:Int)+1)=((i+1:Nat):Int):=by rw[Zs (by omega) (by omega)];omega
  have h:=c (E[i]).1
  have b:(Ve (ZI (Zj (.int .i64)) (E[i]).1 m) []).length<=4096:=by
   grind
  have f:ZD (decide ((Ve (ZI (Zj (.int .i64)) (E[i]).1 m) []).length+ [E[i]].length<=ZE))=some ():=by rw[Zd (by simp [ZE];omega)];rfl
  have g:ZD (Tr.holeK (.int .i64) (some (E[i]).1) (E[i]).1)=some ():=by have:Tr.holeK (.int .i64) (some (E[i]).1) (E[i]).1=true:=(Jv rfl).2 rfl;rw[this];rfl
  simp only[show decide ((i:Int)<(E.length:Int))=true from (by grind),Zc,Ze,ZH a,Za,d];rw[show ZD _=some () from f];simp only[Za];rw[show ZD _=some () from g];simp only[Za];refine⟨_,rfl,⟨_,i+1,rfl,a,fun k=>?_⟩,by omega⟩
  rw[show Ve (ZI (Zj (.int .i64)) k (ZZ (Zj (.int .i64)) (E[i]).1 (Ve (ZI (Zj (.int .i64)) (E[i]).1 m) []++[E[i]]) m)) []=if k=(E[i]).1 then Ve (ZI (Zj (.int .i64)) (E[i]).1 m) []++[E[i]] else Ve (ZI (Zj (.int .i64)) k m) [] by
   rw[Gy rfl]
   grind]
  rw[Vi a,List.filter_append]
  grind
 ·have:i=E.length:=by omega
  subst this;simp only[show decide ((E.length:Int)<(E.length:Int))=false by simp,Ze];exact⟨_,rfl,fun u=>by have:=c (u:Int);rw[Vdb]at this;assumption⟩
def EOk(n:Nat)(E:List Yq):Prop:= ∀e∈E,0<=e.1/\e.1<n/\0<=e.2.1/\e.2.1<n/\0<=e.2.2.1/\e.2.2.1<=1073741824
theorem Zn1{n:Nat}{E:List Yq}(i:EOk n E)(p:E.length<=4096){m:Adj}(l:∀u:Nat,W2 m u=E.filter fun e=>decide (e.1=(u:Int))):Ze4 n m (EdL E) where
 mem:=fun u q y j=>by rw[l]at j;obtain⟨h,g⟩:=List.mem_filter.1 j;have g:=X8 g;obtain⟨a,b,c,d,e,f⟩:=i y h;exact⟨y.2.1.toNat,by omega,by omega,e,f,y,h,g,by omega,rfl⟩
 all:=fun u v w ⟨e,k,h,g,o⟩=>by
  obtain⟨a,b,_⟩:=i e k
  grind
 len:=by grind
open Classical in
noncomputable def Kt(Ed:Nat->Nat->Int->Prop)(i j:Nat):Int:=if h:∃d,J4 Ed i j d then h.choose else -1
theorem J4.uniq{Ed:Nat->Nat->Int->Prop}{i j:Nat}{d a:Int}(h:J4 Ed i j d)(k:J4 Ed i j a):d=a:=by have:=h.2 a k.1;have:=k.2 d h.1;omega
theorem Df{Ed:Nat->Nat->Int->Prop}{i j:Nat}{d:Int}(h:J4 Ed i j d):Kt Ed i j=d:=by unfold Kt;have a:∃d,J4 Ed i j d:=⟨d,h⟩;rw[dif_pos a];exact J4.uniq a.choose_spec h
theorem Zqd{Ed:Nat->Nat->Int->Prop}{i j:Nat}(h:∀d,¬Wk Ed i j d):Kt Ed i j= -1:=by unfold Kt;rw[dif_neg];rintro ⟨d,a⟩;exact h d a.1
noncomputable def Yh(Ed:Nat->Nat->Int->Prop)(n:Nat):List (List Int):=(Vw n).map fun i=>(Vw n).map fun j=>Kt Ed i j
theorem ZkR{Ed:Nat->Nat->Int->Prop}{n i:Nat}(h:i<n):(Yh Ed n)[i]? =some ((Vw n).map fun j=>Kt Ed i j):=by
 unfold Yh
 grind
theorem ZrG{n:Nat}(w:n<=64){Ed:Nat->Nat->Int->Prop}{s:Nat}{o:List XB}(h:Zfc n Ed s o):∃z,F167 o=some z/\z=(Vw n).map fun j=>Kt Ed s j:=by
 obtain⟨u,k⟩:=h;unfold F167
 have g:ZD (decide ((0:Int)<=(o.length:Int)/\(o.length:Int)<=(o.length:Int)/\(o.length:Int)<=(ZE:Int)))=some ():=by rw[Zd (by simp [ZE];omega)];rfl
 rw[show ZD _=some () from g];simp only[Za,Vs]
 refine Xx (fun st=>∃(r:List Int) (i:Nat),st=(r,(i:Int))/\r.length=n/\i<=n/\ ∀j,j<i->r[j]? =some (Kt Ed s j)) (fun st=>n - st.2.toNat)
  (fun r=>r.length=n/\ ∀j,j<n->r[j]? =some (Kt Ed s j)) ⟨_,0,rfl,by grind,Vm _,by omega⟩ ?_ ?_
 ·rintro st ⟨r,i,rfl,t,v,p⟩;by_cases d:i<n
  ·have a:i<o.length:=by omega
   have b:i<r.length:=by omega
   have f:Va .i64 ((i:Int)+1)=((i+1:Nat):Int):=by rw[Zs (by omega) (by omega)];omega
   simp only[show decide ((i:Int)<(o.length:Int))=true from (by grind),Zc,ZH a,Ke b,Za,Vd b,f];refine⟨_,rfl,⟨_,i+1,rfl,by grind,d,fun j q=>?_⟩,by omega⟩;by_cases e:j=i
   ·subst e
    have:(o[j]).2.1=Kt Ed s j:=by
     rcases k j _ (Vd a) with ⟨c,_⟩|⟨c,l⟩
     ·exact(Df c).symm
     ·rw[l,Zqd c]
    grind
   grind
  ·have m:i=n:=by omega
   simp_all
 ·rintro r ⟨t,p⟩;refine⟨_,rfl,?_⟩;apply Vab
  grind
theorem ZpA{n:Nat}(q:n<=64){E:List Yq}(k:EOk n E)(p:E.length<=4096):F164 (n:Int) E []=some 0:=by
 have key:∃z,F164 (n:Int) E []=some z/\z=0:=by
  unfold F164;simp only[show decide ((n:Int)<0)=false from (by rfl),Ze,Za,show decide ((64:Int)<(n:Int))=false from (by grind),show decide ((4096:Int)<(E.length:Int))=false from (by grind)];refine Xx (fun st=>∃i:Nat,st=(i:Int)/\i<=E.length) (fun st=>E.length - st.toNat) (fun r=>r=.inl ()) (by grind) ?_ ?_
  ·rintro st ⟨i,rfl,o⟩;by_cases g:i<E.length
   ·have j:Va .i64 ((i:Int)+1)=((i+1:Nat):Int):=by rw[Zs (by omega) (by omega)];omega
    obtain⟨a,b,c,d,e,f⟩:=k _ (Vf g)
    have h:∀x:Int,0<=x->x<(n:Int)->F165 x (n:Int)=some false:=fun x l m=>by
     unfold F165
     grind
    simp only[show decide ((i:Int)<(E.length:Int))=true from (by grind),Zc,ZH g,Za,h _ a b,h _ c d,Ze,show decide ((E[i]).2.2.1<0)=false from (by grind),
     show decide ((1073741824:Int)<(E[i]).2.2.1)=false from (by grind),j]
    grind
   simp [*]
  ·rintro r rfl;simp only[Vk];refine Xx (fun st=>st=(0:Int)) (fun _=>0) (fun r=>r=.inl ()) rfl ?_ ?_
   all_goals simp
 grind
theorem Zn7{n:Nat}(g:n<=64){E:List Yq}(h:EOk n E)(d:E.length<=4096):∃z,F163 (n:Int) E=some z/\z=(Yh (EdL E) n,0):=by
 unfold F163;obtain⟨m,e,f⟩:=Zsf E d;have t:=Zn1 h d f;rw[ZpA g h d];simp only[Za,decide_true,Vc,Ze,e]
 have l:ZD (decide ((0:Int)<=(n:Int)/\(n:Int)<=(n:Int)/\(n:Int)<=(ZE:Int)))=some ():=by rw[Zd (by simp [ZE];omega)];rfl
 rw[show ZD _=some () from l];simp only[Za,Vpa,Vs]
 refine Xx (fun st=>∃(r:List (List Int)) (i:Nat),st=(m,r,(i:Int))/\r.length=n/\i<=n/\ ∀j,j<i->r[j]? =(Yh (EdL E) n)[j]?) (fun st=>n - st.2.2.toNat)
  (fun r=>r.length=n/\ ∀j,j<n->r[j]? =(Yh (EdL E) n)[j]?) ⟨_,0,rfl,by simp,Vm _,by omega⟩ ?_ ?_
 ·rintro st ⟨r,i,rfl,y,A,v⟩;by_cases a:i<n
  ·have b:i<r.length:=by omega
   have k:Va .i64 ((i:Int)+1)=((i+1:Nat):Int):=by rw[Zs (by omega) (by omega)];omega
   obtain⟨⟨B,o⟩,p,rfl,q⟩:=Zro g t a;obtain⟨_,s,rfl⟩:=ZrG g q;simp only[show decide ((i:Int)<(n:Int))=true from (by grind),Zc,p,Za,s,Ke b,Vd b,k];refine⟨_,rfl,⟨_,i+1,rfl,by grind,a,fun j w=>?_⟩,by grind⟩;by_cases c:j=i
   ·subst c;rw[ZkR a];grind
   grind
  ·have u:i=n:=by omega
   simp_all
 ·rintro r ⟨y,v⟩;refine⟨_,rfl,?_⟩;congr 1;apply Vab;intro j;by_cases x:j<n
  ·grind
  ·rw[Vqa (by omega),Vqa (by simp [Yh];omega)]
end Q
namespace Q
open Tr Go Gr
theorem Hj.uniq{σ τ ρ:Type}{cnt:σ->Nat}{step:σ->Nat->Option (σ ⊕ τ)}{k:τ->Option ρ}(a:∀s,0<cnt s){z i:ρ} :∀{n g:Nat}{s:σ},Hj cnt step k z n s->Hj cnt step k i g s->z=i
 |0,_,_,h,_=>h.elim
 |_+1,0,_,_,h=>h.elim
 |n+1,g+1,s,h,c=>by
  rcases h 0 (a s) with ⟨l,d,e⟩|⟨t,d,e⟩
  ·rcases c 0 (a s) with ⟨j,b,f⟩|⟨t,b,_⟩
   ·rw[d]at b;simp only[Option.some.injEq,Sum.inl.injEq]at b;subst b;exact Hj.uniq a e f
   grind
  ·rcases c 0 (a s) with ⟨j,b,_⟩|⟨m,b,f⟩
   all_goals grind
theorem Zql{σ τ ρ:Type}{cnt:σ->Nat}{step:σ->Nat->Option (σ ⊕ τ)}{k:τ->Option ρ}{s:σ}{z:ρ}{P:ρ->Prop}(n:Nat)(a:∀s,0<cnt s)(h:Hj cnt step k z n s)(d:P z):∃z,Tr.drun cnt step k s=some z/\P z:=by
 refine⟨z,?_,d⟩
 have b:∃r,Tr.drun cnt step k s=some r:=by
  unfold Tr.drun;split
  ·simp
  ·rw[dif_pos ⟨z,n,h⟩];simp
 obtain⟨r,c⟩:=b;obtain⟨m,e⟩:=Zjv c;rw[c,Hj.uniq a e h]
theorem ZkD{Ed c:Nat->Nat->Int->Prop}(j:∀u v w,Ed u v w->∃w',c u v w' /\w' <=w)(g:∀u v w,c u v w->∃w',Ed u v w' /\w' <=w){s v:Nat}{d:Int} :J4 Ed s v d->J4 c s v d:=by
 rintro ⟨a,b⟩;obtain⟨h,f,l⟩:=Wk.dom j a;obtain⟨i,c3,m⟩:=Wk.dom g f;have:=b i c3;have:h=d:=by omega
 subst this;refine⟨f,fun e k=>?_⟩;obtain⟨q,o,p⟩:=Wk.dom g k
 grind
theorem ZrR{Ed a:Nat->Nat->Int->Prop}(c:∀u v w,Ed u v w->∃w',a u v w' /\w' <=w)(e:∀u v w,a u v w->∃w',Ed u v w' /\w' <=w)(n:Nat):Yh Ed n=Yh a n:=by
 have:∀i j,Kt Ed i j=Kt a i j:=by
  intro i j;by_cases h:∃d,J4 Ed i j d
  ·obtain⟨d,b⟩:=h;rw[Df b,Df (ZkD c e b)]
  ·have f:¬∃d,J4 a i j d:=fun⟨d,b⟩=>h ⟨d,ZkD e c b⟩;unfold Kt
   grind
 unfold Yh
 simp_all
abbrev ZO:=Int×Int×Int×Bool×Unit
abbrev Pr:=Int×Int×Bool×Unit
abbrev Yt:Ty:=.prod (.int .i64) (.prod (.int .i64) (.prod .bool .unit))
def YT(n:Nat)(l:List ZO):Prop:= ∀p∈l,0<=p.1/\p.1<n/\0<=p.2.1/\p.2.1<n/\1<=p.2.2.1/\p.2.2.1<=14400
def Hx(free:Bool)(p:ZO):Prop:=free=true->p.2.2.2.1=true
def Z6(l:List ZO)(free:Bool)(u v:Nat)(w:Int):Prop:= ∃p∈l,Hx free p/\p.1=(u:Int)/\p.2.1=(v:Int)/\p.2.2.1=w
def ZdG(e:Pr×Int):Yq:=(e.1.1,e.1.2.1,e.2,())
theorem ZiC{α β:Type}(eq:α->α->Bool)(k:α)(v:β):∀l:List (α×β),(ZZ eq k v l).length<=l.length+1
 |[]=>by simp [ZZ]
 |e::l=>by
  simp only[ZZ]
  cases eq k e.1 with
  |true=>simp
  |false=>simp only[Ze,Vcb];have:=ZiC eq k v l;omega
structure Xg (free:Bool) (l:List ZO) (b:List (Pr×Int)):Prop where
 nodup:(b.map Prod.fst).Nodup
 len:b.length<=l.length
 snd:∀e∈b,∃p∈l,Hx free p/\e.1=(p.1,p.2.1,false,())/\e.2=p.2.2.1
 all:∀p∈l,Hx free p->∃w,ZI (Zj Yt) (p.1,p.2.1,false,()) b=some w/\w<=p.2.2.1
theorem Xg.more{free:Bool}{l:List ZO}{b a:List (Pr×Int)}{p:ZO}(h:Xg free l b)(f:(a.map Prod.fst).Nodup)(o:a.length<=b.length+1)(g:∀e∈a,e∈b\/(Hx free p/\e.1=(p.1,p.2.1,false,())/\e.2=p.2.2.1))
 (r:∀k w,ZI (Zj Yt) k b=some w->∃w',ZI (Zj Yt) k a=some w' /\w' <=w) (s:Hx free p->∃w,ZI (Zj Yt) (p.1,p.2.1,false,()) a=some w/\w<=p.2.2.1):Xg free (l++[p]) a where
 nodup:=f
 len:=by have:=h.len;grind
 snd:=fun e j=>by
  rcases g e j with c|c
  ·obtain⟨q,d,i⟩:=h.snd e c
   grind
  grind
 all:=fun q d m=>by
  rcases Vjb.1 d with c|c
  ·obtain⟨w,i,t⟩:=h.all q c m
   grind
  grind
theorem ZjA{α:Type} :∀{l:List α}{i:Nat} (h:i<l.length),(l[i]::l.eraseIdx i).Perm l
 |[],i,h=>by grind
 |x::l,0,_=>.refl _
 |x::l,i+1,h=>by
  have a:i<l.length:=by grind
  simp only[List.getElem_cons_succ,List.eraseIdx_cons_succ];exact(List.Perm.swap _ _ _).trans (List.Perm.cons _ (ZjA a))
theorem Zjs{n:Nat}(hn:n<=64){l:List ZO}(hF:YT n l)(hl:l.length<=4096)(free:Bool):∃z,F59 l (n:Int) free=some z/\z=Yh (Z6 l free) n:=by
 unfold F59
 refine Xx (fun st=>∃(b:List (Pr×Int)) (i:Nat),st=(b,(i:Int))/\i<=l.length/\Xg free (l.take i) b) (fun st=>l.length - st.2.toNat)
  (fun b=>Xg free l b) ⟨[],0,rfl,Vm _,⟨by simp,by simp,by simp,by simp⟩⟩ ?_ ?_
 ·rintro st ⟨b,i,rfl,F,j⟩;by_cases A:i<l.length
  ·have X:Va .i64 ((i:Int)+1)=((i+1:Nat):Int):=by rw[Zs (by omega) (by omega)];omega
   simp only[show decide ((i:Int)<(l.length:Int))=true from (by grind),Zc,ZH A,Za,X];have o:l.take (i+1)=l.take i++[l[i]]:=Vi A
   have stay:(Hx free l[i]->∃w,ZI (Zj Yt) ((l[i]).1,(l[i]).2.1,false,()) b=some w/\w<=(l[i]).2.2.1)->Xg free (l.take (i+1)) b:=fun K=>by rw[o];exact j.more j.nodup (by omega) (by grind) (by grind) K
   have put:Hx free l[i]->(∀w,ZI (Zj Yt) ((l[i]).1,(l[i]).2.1,false,()) b=some w->(l[i]).2.2.1<=w)->Xg free (l.take (i+1)) (ZZ (Zj Yt) ((l[i]).1,(l[i]).2.1,false,()) (l[i]).2.2.1 b):=fun B hw=>by
    rw[o];refine j.more (Zfz (t:=Yt) (β:=Int) rfl j.nodup) (ZiC _ _ _ _) (fun e E=>?_) (fun k w h=>?_) fun _=>⟨(l[i]).2.2.1,by rw[Gy rfl,Zp rfl],Vha _⟩
    ·obtain⟨k',x⟩:=e;rcases Zed (t:=Yt) rfl j.nodup E with ⟨rfl,rfl⟩|⟨_,h6⟩
     all_goals grind
    ·rw[Gy rfl]
     grind
   have U:Zj X6=Zj Yt:=rfl
   have rest:Hx free l[i]->∃z,(Vb
         (bif !Vja (ZI (Zj Yt) ((l[i]).1,(l[i]).2.1,false,()) b) then some true
         else some (decide ((l[i]).2.2.1<Ve (ZI (Zj Yt) ((l[i]).1,(l[i]).2.1,false,()) b) (0:Int))))
         fun x3=>
         bif x3 then some (Sum.inl (ZZ (Zj Yt) ((l[i]).1,(l[i]).2.1,false,()) (l[i]).2.2.1 b,((i+1:Nat):Int)))
         else some (Sum.inl (b,((i+1:Nat):Int))))=some (z:(List (Pr×Int) ×Int) ⊕ List (Pr×Int))/\
         Vkb (fun W=>(∃(b:List (Pr×Int)) (i:Nat),W=(b,(i:Int))/\i<=l.length/\Xg free (l.take i) b)/\l.length - W.2.toNat<l.length - ((i:Nat):Int).toNat) (fun b=>Xg free l b) z:=by
    intro B
    cases hg:ZI (Zj Yt) ((l[i]).1,(l[i]).2.1,false,()) b with
    |none=>
     simp only[Option.isSome_none,Vq,Zc,Za]
     grind
    |some w=>
     simp only[Option.isSome_some,Vc,Ze,Option.getD_some,Za];by_cases a1:(l[i]).2.2.1<w
     ·simp only[show decide ((l[i]).2.2.1<w)=true from (by grind),Zc]
      grind
     ·simp only[show decide ((l[i]).2.2.1<w)=false from (by grind),Ze]
      grind
   cases m:free with
   |false=>
    simp only[Ze,Za];have:=rest (fun h=>by grind)
    grind
   |true=>
    simp only[Zc,Za]
    cases O:(l[i]).2.2.2.1 with
    |true=>
     simp only[Vc,Ze];have:=rest (fun _=>O)
     grind
    |false=>
     simp only[Vq,Zc];refine⟨_,rfl,⟨b,i+1,rfl,A,?_⟩,by omega⟩;rw[<-m];exact stay fun B=>by have:=B m;grind
  ·have a0:i=l.length:=by omega
   simp_all
 ·intro b j
  have Y:ZD (decide ((0:Int)<=(0:Int)/\(0:Int)<=(b.length:Int)/\(b.length:Int)<=(ZE:Int)))=some ():=by have:=j.len;rw[Zd (by simp [ZE];omega)];rfl
  rw[show ZD _=some () from Y];simp only[Za]
  have T:∀es:List Yq,es.Perm (b.map ZdG)->F163 (n:Int) es=some (Yh (Z6 l free) n,0):=by
   intro es y;have G:es.length<=4096:=by have:=y.length_eq;have:=j.len;grind
   have N:EOk n es:=fun e E=>by
    obtain⟨x,P,rfl⟩:=Vza.1 (y.mem_iff.1 E);obtain⟨p,g,_,J,M⟩:=j.snd x P;obtain⟨a,b',c,d,e,f⟩:=hF p g;have Z:x.1.1=p.1/\x.1.2.1=p.2.1:=by grind
    show 0<=x.1.1/\x.1.1<n/\0<=x.1.2.1/\x.1.2.1<n/\0<=x.2/\x.2<=1073741824;omega
   obtain⟨z,hz,rfl⟩:=Zn7 hn N G;rw[hz];congr 2;refine ZrR (fun u v w ⟨e,E,J,M,h3⟩=>?_) (fun u v w ⟨p,g,B,J,M,h3⟩=>?_) n
   ·obtain⟨x,P,rfl⟩:=Vza.1 (y.mem_iff.1 E);obtain⟨p,g,B,S,K⟩:=j.snd x P;have D:x.1.1=p.1/\x.1.2.1=p.2.1:=by grind
    refine⟨w,⟨p,g,B,?_,?_,?_⟩,Vha _⟩
    ·rw[<-D.1];assumption
    ·rw[<-D.2];assumption
    ·rw[<-K];assumption
   ·obtain⟨w',S,K⟩:=j.all p g B;have H:=Zdk (t:=Yt) rfl S;refine⟨w',⟨_,y.mem_iff.2 (Vza.2 ⟨_,H,rfl⟩),J,M,rfl⟩,by omega⟩
  refine Zql (z:=Yh (Z6 l free) n) (b.length+1) (fun s=>?_) ?_ rfl
  ·grind
  ·have key:∀(r:Nat) (es:List Yq) (rest:List (Pr×Int)),rest.length=r->(es++rest.map ZdG).Perm (b.map ZdG)->
    Hj (fun q:List Yq×List (Pr×Int)=>bif Vpb q.snd then(1:Nat) else Vj q.snd)
     (fun q V=>bif Vpb q.snd then some (Sum.inr q.fst)
       else Vb q.snd[V]? fun C=>
        Vb (ZD (decide (Vj q.fst+Vj [((C.fst.fst,C.fst.snd.fst,C.snd,()):Yq)]<=ZE))) fun _=>
         some (Sum.inl (q.fst++[(C.fst.fst,C.fst.snd.fst,C.snd,())],List.eraseIdx q.snd V)))
     (fun Q=>Vb (F163 (n:Int) Q) fun R=>some R.fst) (Yh (Z6 l free) n) (r+1) (es,rest):=by
    intro r
    induction r with
    |zero=>
     intro es rest hr y i F
     grind
    |succ r ih=>
     intro es rest hr y i F;have I:rest.isEmpty=false:=by grind
     simp only[I,Ze]at F;left;have g:=y.length_eq;have:=j.len;simp only[Vv,Vlb]at g
     have L:ZD (decide (es.length+ [(((rest[i]).1.1,(rest[i]).1.2.1,(rest[i]).2,()):Yq)].length<=ZE))=some ():=by rw[Zd (by simp [ZE];omega)];rfl
     refine⟨(es++[ZdG rest[i]],rest.eraseIdx i),?_,ih _ _ (by grind) ?_⟩
     ·simp only[I,Ze,Vd F,Za];rw[show ZD _=some () from L];rfl
     ·refine List.Perm.trans ?_ y;have J:(rest[i]::rest.eraseIdx i).Perm rest:=ZjA F
      grind
   grind
end Q
namespace Q
open Tr Go Gr
def Jo:Int:=1099511627776
def gm(m:List (List Int))(i j:Nat):Int:=(((m[i]?).getD [])[j]?).getD 0
def HG(n:Nat)(m:List (List Int)):Prop:=m.length=n/\ ∀(i:Nat) (r:List Int),m[i]? =some r->r.length=n
def upd(m:List (List Int))(i j:Nat)(v:Int):List (List Int):=m.set i (((m[i]?).getD []).set j v)
theorem HG.row{n:Nat}{m:List (List Int)}(h:HG n m){i:Nat}(a:i<n):∃r,m[i]? =some r/\r.length=n:=by
 have:i<m.length:=by rw[h.1];omega
 exact⟨m[i],by simp,h.2 i _ (by simp)⟩
theorem HG.upd{n:Nat}{m:List (List Int)}(h:HG n m){i:Nat}(c:i<n)(j:Nat)(v:Int):HG n (upd m i j v):=by
 obtain⟨r,e,f⟩:=h.row c;refine⟨by simp [Q.upd];exact h.1,fun k d a=>?_⟩;unfold Q.upd at a;by_cases b:i=k
 ·grind
 ·rw[Vz b]at a;exact h.2 k d a
theorem Zcc{n:Nat}{m:List (List Int)}(h:HG n m){i j:Nat}(c:i<n)(f:j<n)(v:Int)(a b:Nat):gm (upd m i j v) a b=if a=i/\b=j then v else gm m a b:=by
 obtain⟨r,d,e⟩:=h.row c;unfold gm upd
 grind
theorem Zbf{n:Nat}{m:List (List Int)}(h:HG n m){i j:Nat}(_hi:i<n)(c:j<n){r:List Int}(a:m[i]? =some r):r[j]? =some (gm m i j):=by
 have b:=h.2 i r a;unfold gm
 grind
structure XO (Ed:Nat->Nat->Int->Prop) (n k:Nat) (m:List (List Int)):Prop where
 shp:HG n m
 snd:∀i j,i<n->j<n->gm m i j=Jo\/(gm m i j<=Jo/\Wb Ed n i j (gm m i j))
 all:∀i j d,i<n->j<n->Wb Ed k i j d->gm m i j<=d
theorem XO.bnd{Ed:Nat->Nat->Int->Prop}(e:∀u v w,Ed u v w->0<=w){n k:Nat}{m:List (List Int)}(h:XO Ed n k m){i j:Nat}(c:i<n)(d:j<n):0<=gm m i j/\gm m i j<=Jo:=by
 rcases h.snd i j c d with a|⟨a,b⟩
 ·rw[a];unfold Jo;omega
 ·exact⟨b.nonneg e,a⟩
theorem XO.step{Ed:Nat->Nat->Int->Prop}(p:∀u v w,Ed u v w->0<=w){n k:Nat}{m:List (List Int)}(h:XO Ed n k m){i j:Nat}(c:i<n)(e:j<n)(f:k<n):
 XO Ed n k (upd m i j (min (gm m i j) (gm m i k+gm m k j)))/\(∀d,Wb Ed (k+1) i j d->min (gm m i j) (gm m i k+gm m k j)<=d)/\min (gm m i j) (gm m i k+gm m k j)<=gm m i j:=by
 have B:=h.bnd p c e;have C:=h.bnd p c f;have D:=h.bnd p f e;refine⟨⟨h.shp.upd c j _,fun a b q r=>?_,fun a b d q r s=>?_⟩,fun d s=>?_,Int.min_le_left _ _⟩
 ·rw[Zcc h.shp c e];by_cases l:a=i/\b=j
  ·obtain⟨rfl,rfl⟩:=l;rw[Zp ⟨rfl,rfl⟩];by_cases t:gm m a b<=gm m a k+gm m k b
   ·rw[Int.min_eq_left t];exact h.snd a b c e
   ·rw[Veb (by omega)];right;refine⟨by omega,?_⟩;rcases h.snd a k c f with o|⟨_,o⟩
    ·omega
    ·rcases h.snd k b f e with g|⟨_,g⟩
     ·omega
     ·exact o.app f g
  ·rw[Zf l];exact h.snd a b q r
 ·rw[Zcc h.shp c e];have:=h.all a b d q r s
  grind
 ·rcases s.round p with ⟨x,o,g⟩|⟨y,z,o,g,A⟩
  ·have:=h.all i j x c e g;omega
  ·have:=h.all i k y c f g;have:=h.all k j z f e A;omega
structure Yv (Ed:Nat->Nat->Int->Prop) (n k a b:Nat) (m:List (List Int)):Prop where
 ent:XO Ed n k m
 done:∀i j d,i<n->j<n->(i<a\/i=a/\j<b)->Wb Ed (k+1) i j d->gm m i j<=d
theorem Yv.step{Ed:Nat->Nat->Int->Prop}(r:∀u v w,Ed u v w->0<=w){n k a b:Nat}{m:List (List Int)}(h:Yv Ed n k a b m)(e:a<n)(f:b<n)(q:k<n):Yv Ed n k a (b+1) (upd m a b (min (gm m a b) (gm m a k+gm m k b))):=by
 obtain⟨g,s,t⟩:=h.ent.step r e f q;refine⟨g,fun i j d o p x l=>?_⟩;rw[Zcc h.ent.shp e f];by_cases c:i=a/\j=b
 ·grind
 ·rw[Zf c];exact h.done i j d o p (by omega) l
theorem Yv.next{Ed:Nat->Nat->Int->Prop}{n k a:Nat}{m:List (List Int)}(h:Yv Ed n k a n m):Yv Ed n k (a+1) 0 m:=
 ⟨h.ent,fun i j d c e f b=>h.done i j d c e (by omega) b⟩
theorem Yv.fin{Ed:Nat->Nat->Int->Prop}{n k:Nat}{m:List (List Int)}(h:Yv Ed n k n 0 m):XO Ed n (k+1) m:=
 ⟨h.ent.shp,h.ent.snd,fun i j d a c b=>h.done i j d a c (.inl a) b⟩
theorem Yv.start{Ed:Nat->Nat->Int->Prop}{n k:Nat}{m:List (List Int)}(h:XO Ed n k m):Yv Ed n k 0 0 m:=
 ⟨h,by omega⟩
theorem Zj6(a b:Int):Tr.imin a b=min a b:=by unfold Tr.imin;omega
theorem Zmw{n:Nat}(hn:n<=64){l:List ZO}(hF:YT n l)(hl:l.length<=4096)(free:Bool):∃z,F118 l (n:Int) free=some z/\XO (Z6 l free) n n z:=by
 have R:∀u v w,Z6 l free u v w->0<=w:=fun u v w ⟨p,F,_,_,_,h⟩=>by have:=hF p F;omega
 unfold F118
 refine Xx (fun st=>∃i:Nat,st=(Vg i (Vg n Jo),(i:Int))/\i<=n) (fun st=>n - st.2.toNat)
  (fun r=>r=Vg n (Vg n Jo)) (by grind) ?_ ?_
 ·rintro st ⟨i,rfl,hi⟩;by_cases c:i<n
  ·have K:Va .i64 ((i:Int)+1)=((i+1:Nat):Int):=by rw[Zs (by omega) (by omega)];omega
   simp only[show decide ((i:Int)<(n:Int))=true from (by grind),Zc,K]
   refine Xx (fun st=>∃j:Nat,st=(Vg i (Vg n Jo),Vg j Jo,(j:Int))/\j<=n) (fun st=>n - st.2.2.toNat)
    (fun r=>r=(Vg i (Vg n Jo),Vg n Jo)) (by grind) ?_ ?_
   ·rintro st ⟨j,rfl,hj⟩;by_cases a4:j<n
    ·have U:Va .i64 ((j:Int)+1)=((j+1:Nat):Int):=by rw[Zs (by omega) (by omega)];omega
     simp only[show decide ((j:Int)<(n:Int))=true from (by grind),Zc,U];rw[Dk (by grind)];simp only[Za];refine⟨_,rfl,⟨j+1,?_,a4⟩,by grind⟩;rw[Vsa];rfl
    ·have:j=n:=by omega
     simp_all
   ·rintro r rfl;simp only;rw[Dk (by grind)];simp only[Za];refine⟨_,rfl,⟨i+1,?_,c⟩,by omega⟩;rw[Vsa]
  ·have:i=n:=by omega
   simp_all
 ·rintro r rfl;have W:HG n (Vg n (Vg n Jo)):=⟨by simp,by grind⟩
  have c1:∀i j,i<n->j<n->gm (Vg n (Vg n Jo)) i j=Jo:=fun i j hi hj=>by unfold gm;grind
  refine Xx (fun st=>∃(m:List (List Int)) (i:Nat),st=(m,(i:Int))/\i<=l.length/\HG n m/\(∀a b,a<n->b<n->gm m a b=Jo\/(gm m a b<=Jo/\Wb (Z6 l free) n a b (gm m a b)))/\
   ∀p∈l.take i,Hx free p->gm m p.1.toNat p.2.1.toNat<=p.2.2.1) (fun st=>l.length - st.2.toNat)
   (fun m=>XO (Z6 l free) n 0 m) ⟨_,0,rfl,Vm _,W,by grind,by simp⟩ ?_ ?_
  ·rintro st ⟨m,i,rfl,hi,o,B,s⟩;by_cases c:i<l.length
   ·have K:Va .i64 ((i:Int)+1)=((i+1:Nat):Int):=by rw[Zs (by omega) (by omega)];omega
    obtain⟨p1,p2,p3,p4,p5,p6⟩:=hF _ (Vf c);have H:l.take (i+1)=l.take i++[l[i]]:=Vi c;obtain⟨u,hu⟩:∃u:Nat,(l[i]).1=(u:Int):=by grind
    obtain⟨v,hv⟩:∃v:Nat,(l[i]).2.1=(v:Int):=by grind
    have y:u<n:=by omega
    have I:v<n:=by omega
    obtain⟨row,x,c4⟩:=o.row y;have D:=Zbf o y I x;have a8:u<m.length:=by grind
    simp only[show decide ((i:Int)<(l.length:Int))=true from (by grind),Zc,K,ZH c,Za]
    have stay:¬Hx free l[i]->∃z,some (Sum.inl (m,((i+1:Nat):Int)):(List (List Int) ×Int) ⊕ List (List Int))=some z/\Vkb (fun O:List (List Int) ×Int=>(∃(m:List (List Int)) (i:Nat),O=(m,(i:Int))/\i<=l.length/\HG n m/\(∀a b,a<n->b<n->gm m a b=Jo\/(gm m a b<=Jo/\Wb (Z6 l free) n a b (gm m a b)))/\
     ∀p∈l.take i,Hx free p->gm m p.1.toNat p.2.1.toNat<=p.2.2.1)/\l.length - O.2.toNat<l.length - ((i:Nat):Int).toNat) (fun m=>XO (Z6 l free) n 0 m) z:=fun A=>by
     refine⟨_,rfl,⟨m,i+1,rfl,c,o,B,fun p F M=>?_⟩,by omega⟩
     grind
    have put:Hx free l[i]->∀b:Bool,b=true->∃z,(bif b then
             Vb (Zo (u:Int) (Vj m)) fun T=>
              Vb m[T]? fun _=>
               Vb (Zo (u:Int) (Vj m)) fun J=>
                Vb m[J]? fun _=>
                 Vb (idx m (J:Int)) fun b0=>
                  Vb (Zo (v:Int) (Vj b0)) fun b4=>
                   Vb (idx m (J:Int)) fun b5=>
                    Vb b5[b4]? fun b6=>
                     Vb (idx m (T:Int)) fun b7=>
                      Vb (Zo (v:Int) (Vj b7)) fun P=>
                       Vb (idx m (T:Int)) fun Q=>
                        Vb Q[P]? fun _=>
                         some
                          (Sum.inl (Vy m (Int.toNat (T:Int)) (Vy Q P (Tr.imin b6 (l[i]).2.2.1)),((i+1:Nat):Int)))
          else some (Sum.inl (m,((i+1:Nat):Int))))=some (z:(List (List Int) ×Int) ⊕ List (List Int))/\Vkb (fun O:List (List Int) ×Int=>(∃(m:List (List Int)) (i:Nat),O=(m,(i:Int))/\i<=l.length/\HG n m/\(∀a b,a<n->b<n->gm m a b=Jo\/(gm m a b<=Jo/\Wb (Z6 l free) n a b (gm m a b)))/\
     ∀p∈l.take i,Hx free p->gm m p.1.toNat p.2.1.toNat<=p.2.2.1)/\l.length - O.2.toNat<l.length - ((i:Nat):Int).toNat) (fun m=>XO (Z6 l free) n 0 m) z:=by
     rintro A b rfl;have a9:v<row.length:=by omega
     have L:idx m (u:Int)=some row:=by assumption
     simp only[Zc,Ke a8,Za,x,L,Ke a9,D,Vs]
     have t:Vy m u (Vy row v (Tr.imin (gm m u v) (l[i]).2.2.1))=upd m u v (min (gm m u v) (l[i]).2.2.1):=by unfold upd;rw[x,Zj6];rfl
     rw[t];have a1:Z6 l free u v (l[i]).2.2.1:=⟨_,Vf c,A,hu,hv,rfl⟩;refine⟨_,rfl,⟨_,i+1,rfl,c,o.upd y v _,fun a b ha hb=>?_,fun p F M=>?_⟩,by omega⟩
     ·rw[Zcc o y I];by_cases X:a=u/\b=v
      ·obtain⟨rfl,rfl⟩:=X;rw[Zp ⟨rfl,rfl⟩];by_cases c2:gm m a b<=(l[i]).2.2.1
       ·grind
       ·rw[Veb (by omega)];exact .inr ⟨by grind,.one a1⟩
      grind
     ·rw[Zcc o y I];rw[H]at F;rcases Vjb.1 F with h|h
      ·have:=s p h M
       grind
      ·simp at h;grind
    simp only[hu,hv]
    cases a7:(l[i]).2.2.2.1 with
    |true=>
     simp only[Zc,Za]
     exact put (fun _=>a7) true rfl
    |false=>
     simp only[Ze,Za]
     cases E:free with
     |false=>
      have:=put (fun h=>by grind) true rfl;rw[E]at this
      grind
     |true=>
      have:=stay (fun h=>by have:=h E;grind);rw[E]at this
      grind
   ·have:i=l.length:=by omega
    subst this;simp only[show decide ((l.length:Int)<(l.length:Int))=false from (by simp),Ze];rw[Vdb]at s;refine⟨_,rfl,o,B,fun a b d ha hb hd=>?_⟩
    cases hd with
    |one e=>
     obtain⟨p,F,A,h1,h2,rfl⟩:=e;have:=s p F A
     simp_all
    |cons e A _=>omega
  ·intro m V;refine Xx (fun st=>∃(m:List (List Int)) (k:Nat),st=(m,(k:Int))/\k<=n/\XO (Z6 l free) n k m) (fun st=>n - st.2.toNat) (fun m=>XO (Z6 l free) n n m) ⟨m,0,rfl,Vm _,V⟩ ?_ (by simp);rintro st ⟨m,k,rfl,hk,V⟩;by_cases g:k<n
   ·have K:Va .i64 ((k:Int)+1)=((k+1:Nat):Int):=by rw[Zs (by omega) (by omega)];omega
    simp only[show decide ((k:Int)<(n:Int))=true from (by grind),Zc,K];refine Xx (fun st=>∃(m:List (List Int)) (a:Nat),st=(m,(a:Int))/\a<=n/\Yv (Z6 l free) n k a 0 m) (fun st=>n - st.2.toNat) (fun m=>Yv (Z6 l free) n k n 0 m) ⟨m,0,rfl,Vm _,Yv.start V⟩ ?_ (fun m A=>⟨_,rfl,⟨m,k+1,rfl,g,A.fin⟩,by omega⟩);rintro st ⟨m,a,rfl,ha,C⟩;by_cases f:a<n
    ·have U:Va .i64 ((a:Int)+1)=((a+1:Nat):Int):=by rw[Zs (by omega) (by omega)];omega
     simp only[show decide ((a:Int)<(n:Int))=true from (by grind),Zc,U]
     refine Xx (fun st=>∃(m:List (List Int)) (b:Nat),st=(m,(b:Int))/\b<=n/\Yv (Z6 l free) n k a b m) (fun st=>n - st.2.toNat) (fun m=>Yv (Z6 l free) n k a n m) ⟨m,0,rfl,Vm _,C⟩ ?_ (fun m A=>⟨_,rfl,⟨m,a+1,rfl,f,A.next⟩,by omega⟩)
     rintro st ⟨m,b,rfl,hb,C⟩;by_cases q:b<n
     ·have e3:Va .i64 ((b:Int)+1)=((b+1:Nat):Int):=by rw[Zs (by omega) (by omega)];omega
      have o:=C.ent.shp;obtain⟨S,G,b8⟩:=o.row f;obtain⟨rk,N,b9⟩:=o.row g;have Y:a<m.length:=by grind
      have a6:k<m.length:=by grind
      have a2:idx m (a:Int)=some S:=by assumption
      have a3:idx m (k:Int)=some rk:=by assumption
      have Z:b<S.length:=by omega
      have a0:b<rk.length:=by omega
      have a5:k<S.length:=by omega
      have b1:=C.ent.bnd R f q;have b2:=C.ent.bnd R f g;have b3:=C.ent.bnd R g q;have e4:Va .i64 (gm m a k+gm m k b)=gm m a k+gm m k b:=Zs (by omega) (by unfold Jo at*;omega);simp only[show decide ((b:Int)<(n:Int))=true from (by grind),Zc,e3,Ke Y,Ke a6,Za,G,N,a2,a3,Ke Z,Ke a0,Ke a5,Zbf o f q G,Zbf o f g G,Zbf o g q N,e4,Vs,Zj6]
      have t:Vy m a (Vy S b (min (gm m a b) (gm m a k+gm m k b)))=upd m a b (min (gm m a b) (gm m a k+gm m k b)):=by unfold upd;grind
      rw[t];exact⟨_,rfl,⟨_,b+1,rfl,q,C.step R f q g⟩,by omega⟩
     ·have:b=n:=by omega
      simp_all
    ·have:a=n:=by omega
     simp_all
   ·have:k=n:=by omega
    simp_all
end Q
namespace Q
open Tr Go
abbrev Z7:=Int×Int×Int×Bool×Unit
def W9(a b:Z7):Prop:=a.1<b.1\/(a.1=b.1/\(a.2.1<b.2.1\/(a.2.1=b.2.1/\a.2.2.1<b.2.2.1)))
def HJ(a b:Int):Int:=if a<b then -1 else if b<a then 1 else 0
theorem ZpY(a b:Int):F8 a b=some (HJ a b):=by
 unfold F8 F10 HJ
 grind
theorem Zsm(x y z:Int):F9 [x,y,z]=some (if x≠0 then x else if y≠0 then y else z):=by
 unfold F9;have h:Va .i64 (0+1:Int)=1:=by decide
 have i:Va .i64 (1+1:Int)=2:=by decide
 have j:Va .i64 (2+1:Int)=3:=by decide
 have e:idx [x,y,z] 0=some x:=rfl;have f:idx [x,y,z] 1=some y:=rfl;have g:idx [x,y,z] 2=some z:=rfl;have a:(([x,y,z]:List Int).length:Int)=3:=rfl;rw[ZcL];simp only[a,show decide ((0:Int)<3)=true from rfl,Zc,e,Za,h];by_cases b:x=0
 ·subst b;simp only[decide_true,Vc,Ze,Za,Vk];rw[ZcL];simp only[show decide ((1:Int)<3)=true from rfl,Zc,f,Za,i];by_cases c:y=0
  ·subst c;simp only[decide_true,Vc,Ze,Za,Vk];rw[ZcL];simp only[show decide ((2:Int)<3)=true from rfl,Zc,g,Za,j];by_cases d:z=0
   ·subst d;rfl
   grind
  grind
 grind
def c3(a b:Z7):Int:=if HJ a.1 b.1≠0 then HJ a.1 b.1 else if HJ a.2.1 b.2.1≠0 then HJ a.2.1 b.2.1 else HJ a.2.2.1 b.2.2.1
theorem Zpj(a b:Z7):F58 a b=some (c3 a b):=by unfold F58;simp only[ZpY,Za];rw[show F9 [HJ a.1 b.1,HJ a.2.1 b.2.1,HJ a.2.2.1 b.2.2.1]=_ from Zsm _ _ _];rfl
theorem Zph(a b:Z7):c3 a b<0↔W9 a b:=by unfold c3 W9 HJ;omega
theorem Zpi(a b:Z7):0<c3 a b↔W9 b a:=by unfold c3 W9 HJ;omega
def Srt(l:List Z7):Prop:=l.Pairwise W9
theorem ZtW{l:List Z7}(h:Srt l)(d:l.length<16384):F175 l ()=some l:=by
 unfold F175;refine Tr.sortF_sorted W9 l (by omega) (fun x _ y _=>⟨_,Zpj x y,Zph x y,Zpi x y⟩) (fun x _=>?_) (fun a _ b _ c _=>?_) h
 ·unfold W9;omega
 ·unfold W9;omega
end Q
namespace Q
open Tr Go Gr
def WS(a b:Nat)(d f:Int):List Z7:=
 (if 0<d/\d<=14400 then [((a:Int),(b:Int),d,decide (f=d),())] else [])++(if f=d then [] else if 0<f/\f<=14400 then [((a:Int),(b:Int),f,true,())] else [])
def XH(a b:Nat)(e g:Int):List Z7:=
 if 14400<e then [] else((a:Int),(b:Int),e,decide (g=e),())::(if e<g/\g<=14400 then [((a:Int),(b:Int),g,true,())] else [])
def Rel(d e:Int):Prop:=(e=d/\1<=d)\/(e=Jo/\(d= -1\/Jo<=d))
theorem Zrh{a b:Nat}{d e f g:Int}(j:Rel d e)(k:Rel f g)(l:f= -1\/(d≠ -1/\d<=f)):WS a b d f=XH a b e g:=by
 unfold Rel Jo at*;unfold WS XH;by_cases c:0<d/\d<=14400
 ·have h:e=d:=by omega
  subst h;rw[Zp c,Zf (show¬(14400:Int)<e by omega)];by_cases i:f=e
  ·grind
  ·rw[Zf i];have m:¬g=e:=by omega
   grind
 ·rw[Zf c,Zp (show (14400:Int)<e by omega)]
  grind
theorem Zkm(a b:Nat)(d f:Int):(WS a b d f).length<=2:=by
 unfold WS
 grind
theorem Zjj{a b:Nat}{d:Int}{s:Bool}{out:List Z7}(h:out.length<4294967295):F57 (a:Int) (b:Int) d s out=some (out++if 0<d/\d<=14400 then [((a:Int),(b:Int),d,s,())] else []):=by
 unfold F57;by_cases c:0<d
 ·by_cases e:d<=14400
  ·simp only[show decide ((0:Int)<d)=true from Zd c,Zc,Za,show decide (d<=(14400:Int))=true from Zd e];rw[Dk (by grind),Zp ⟨c,e⟩];rfl
  grind
 grind
section
variable (it:Nat->Nat->List Z7) (n:Nat)
def Xw(a m:Nat):List Z7:=(Vw m).flatMap fun b=>if a=b then [] else it a b
def Ww(m:Nat):List Z7:=(Vw m).flatMap fun a=>Xw it a n
end
theorem Gk(it:Nat->Nat->List Z7)(a m:Nat):Xw it a (m+1)=Xw it a m++if a=m then [] else it a m:=by unfold Xw;rw[Vmb,Vva];simp
theorem ZbN(it:Nat->Nat->List Z7)(n m:Nat):Ww it n (m+1)=Ww it n m++Xw it m n:=by unfold Ww;rw[Vmb,Vva];simp
theorem Zey{it:Nat->Nat->List Z7}(h:∀a b,(it a b).length<=2)(a:Nat):∀m,(Xw it a m).length<=2*m
 |0=>by simp [Xw]
 |m+1=>by
  rw[Gk,Vv];have:=Zey h a m
  grind
theorem Ziy{it:Nat->Nat->List Z7}(h:∀a b,(it a b).length<=2)(n:Nat):∀m,(Ww it n m).length<=2*n*m
 |0=>by simp [Ww]
 |m+1=>by
  rw[ZbN,Vv];have:=Ziy h n m;have:=Zey h m n
  grind
theorem Zdj{it:Nat->Nat->List Z7}(h:∀a b,(it a b).length<=2){n m:Nat}(f:n<=64)(e:m<=n):(Ww it n m).length<=8192:=by have c:=Ziy h n m;have d:2*n*m<=2*64*64:=Nat.mul_le_mul (by omega) (by omega);omega
theorem Zn5{it c:Nat->Nat->List Z7}{n m:Nat}(g:m<=n)(h:∀a b,a<n->b<n->a≠b->it a b=c a b):Ww it n m=Ww c n m:=by
 induction m with
 |zero=>rfl
 |succ m e=>
  rw[ZbN,ZbN,e (by omega)];congr 1
  have:∀k,k<=n->Xw it m k=Xw c m k:=by
   intro k
   induction k with
   |zero=>intro _;rfl
   |succ k d=>
    intro f;rw[Gk,Gk,d (by omega)]
    grind
  grind
theorem Ziz{it:Nat->Nat->List Z7}{n m:Nat}(e:∀a b x,x∈it a b->x.1=(a:Int)/\x.2.1=(b:Int))(l:∀a b,(it a b).Pairwise fun x y=>x.2.2.1<y.2.2.1):Srt (Ww it n m):=by
 show (Ww it n m).Pairwise W9
 ·unfold Ww;rw[Vra];refine⟨fun a _=>?_,?_⟩
  ·unfold Xw;rw[Vra];refine⟨fun b _=>?_,?_⟩
   ·split
    ·simp
    ·refine List.Pairwise.imp_of_mem ?_ (l a b);intro x y c d q;obtain⟨g,h⟩:=e a b x c;obtain⟨i,j⟩:=e a b y d;unfold W9;omega
   ·refine List.Pairwise.imp ?_ Vma;intro b f p x c y d;split at c
    ·grind
    ·split at d
     ·grind
     ·obtain⟨g,h⟩:=e a b x c;obtain⟨i,j⟩:=e a f y d;unfold W9;omega
  ·refine List.Pairwise.imp ?_ Vma;intro a k o x c y d;unfold Xw at c d;obtain⟨b,_,c⟩:=Vfb.1 c;obtain⟨f,_,d⟩:=Vfb.1 d;split at c
   ·grind
   ·split at d
    ·grind
    ·obtain⟨g,h⟩:=e a b x c;obtain⟨i,j⟩:=e k f y d;unfold W9;omega
theorem Zkn{a b:Nat}{d f:Int}{x:Z7}(h:x∈WS a b d f):x.1=(a:Int)/\x.2.1=(b:Int):=by
 unfold WS at h
 grind
theorem ZdB{n:Nat}(m:n<=64){l:List ZO}(hF:YT n l)(s:l.length<=4096)
 (q:∀a b,Kt (Z6 l true) a b= -1\/Kt (Z6 l false) a b<=Kt (Z6 l true) a b):
 F56 l (n:Int)=some (Ww (fun a b=>WS a b (Kt (Z6 l false) a b) (Kt (Z6 l true) a b)) n n):=by
 have key:∃z,F56 l (n:Int)=some z/\z=Ww (fun a b=>WS a b (Kt (Z6 l false) a b) (Kt (Z6 l true) a b)) n n:=by
  unfold F56;obtain⟨_,v,rfl⟩:=Zjs m hF s false;obtain⟨_,w,rfl⟩:=Zjs m hF s true;rw[v];simp only[Za];rw[w];simp only[Za];have i:∀Ed,(Yh Ed n).length=n:=fun Ed=>by simp [Yh]
  have c:∀a b:Nat,((fun a b=>WS a b (Kt (Z6 l false) a b) (Kt (Z6 l true) a b)) a b).length<=2:=fun a b=>Zkm _ _ _ _
  have k:∀Ed (a:Nat),a<n->idx (Yh Ed n) (a:Int)=some ((Vw n).map fun j=>Kt Ed a j):=fun Ed a o=>by
   have h:=ZkR (Ed:=Ed) o
   assumption
  have f:∀Ed (a b:Nat),b<n->idx ((Vw n).map fun j=>Kt Ed a j) (b:Int)=some (Kt Ed a b):=fun Ed a b y=>by rw[ZH (by grind)];simp
  refine Xx (fun st=>∃a:Nat,st=(Ww (fun a b=>WS a b (Kt (Z6 l false) a b) (Kt (Z6 l true) a b)) n a,(a:Int))/\a<=n) (fun st=>n - st.2.toNat)
   (fun r=>r=Ww (fun a b=>WS a b (Kt (Z6 l false) a b) (Kt (Z6 l true) a b)) n n) ⟨0,rfl,Vm _⟩ ?_ ?_
  ·rintro st ⟨a,rfl,o⟩;by_cases p:a<n
   ·have t:Va .i64 ((a:Int)+1)=((a+1:Nat):Int):=by rw[Zs (by omega) (by omega)];omega
    simp only[i,show decide ((a:Int)<(n:Int))=true from (by grind),Zc,k _ a p,Za,t,Vlb,List.length_range]
    refine Xx (fun st=>∃b:Nat,st=(Ww (fun a b=>WS a b (Kt (Z6 l false) a b) (Kt (Z6 l true) a b)) n a++Xw (fun a b=>WS a b (Kt (Z6 l false) a b) (Kt (Z6 l true) a b)) a b,(b:Int))/\b<=n) (fun st=>n - st.2.toNat)
     (fun r=>r=Ww (fun a b=>WS a b (Kt (Z6 l false) a b) (Kt (Z6 l true) a b)) n (a+1)) ⟨0,by simp [Xw],Vm _⟩ ?_ ?_
    ·rintro st ⟨b,rfl,y⟩;by_cases d:b<n
     ·have u:Va .i64 ((b:Int)+1)=((b+1:Nat):Int):=by rw[Zs (by omega) (by omega)];omega
      simp only[show decide ((b:Int)<(n:Int))=true from (by grind),Zc,f _ a b d,Za,u];by_cases e:a=b
      ·subst e;simp only[decide_true,Zc];exact⟨_,rfl,⟨a+1,by rw[Gk,Zp rfl,Vna],d⟩,by omega⟩
      ·have A:(Ww (fun a b=>WS a b (Kt (Z6 l false) a b) (Kt (Z6 l true) a b)) n a++Xw (fun a b=>WS a b (Kt (Z6 l false) a b) (Kt (Z6 l true) a b)) a b).length<=10000:=by rw[Vv];have:=Zdj c m o;have:=Zey c a b;omega
       simp only[show decide ((a:Int)=(b:Int))=false from (by grind),Ze];rw[Zjj (by omega)];simp only[Za];by_cases g:Kt (Z6 l true) a b=Kt (Z6 l false) a b
       ·simp only[g,decide_true,Vc,Ze];refine⟨_,rfl,⟨b+1,?_,d⟩,by omega⟩;rw[Gk,Zf e, <-Vka];congr 1;unfold WS
        grind
       ·simp only[Zk g,Vq,Zc];rw[Zjj (by grind)];simp only[Za];refine⟨_,rfl,⟨b+1,?_,d⟩,by omega⟩;rw[Gk,Zf e,Vka, <-Vka (Ww _ _ _)];congr 1;unfold WS
        grind
     ·have:b=n:=by omega
      subst this;simp only[show decide ((b:Int)<(b:Int))=false from (by simp),Ze];exact⟨_,rfl,(ZbN _ _ _).symm⟩
    grind
   ·have:a=n:=by omega
    simp_all
  ·rintro r rfl
   have B:Srt (Ww (fun a b=>WS a b (Kt (Z6 l false) a b) (Kt (Z6 l true) a b)) n n):=Ziz (fun a b x C=>Zkn C) (fun a b=>by
    unfold WS;have:=q a b;split
    ·grind
    ·split
     ·simp
     ·split<;>simp)
   rw[ZtW B (by have:=Zdj c m (Vu n);omega)];simp
 grind
end Q
namespace Q
open Tr Go Gr
theorem Zrw{Ed:Nat->Nat->Int->Prop}(f:∀u v w,Ed u v w->0<=w){s v:Nat} :∀(k:Nat) (d:Int),d.toNat=k->Wk Ed s v d->∃m,J4 Ed s v m:=by
 intro k
 induction k using Vla with
 |ind k j=>
  intro d i h;by_cases c:∃b,Wk Ed s v b/\b<d
  ·obtain⟨b,e,g⟩:=c;have a:=e.nonneg f
   grind
  ·exact⟨d,h,by grind⟩
theorem ZuR{Ed:Nat->Nat->Int->Prop}(a:∀u v w,Ed u v w->1<=w){k i j:Nat}{d:Int}(h:Wb Ed k i j d):1<=d:=by
 induction h with
 |one e=>grind
 |cons e _ _ b=>grind
theorem ZdH{n:Nat}{l:List ZO}(hF:YT n l)(free:Bool):∀u v w,Z6 l free u v w->u<n/\v<n/\1<=w:=fun u v w ⟨p,a,_,b,c,d⟩=>by have:=hF p a;omega
theorem ZaL{n:Nat}{l:List ZO}(hF:YT n l)(a b:Nat):Kt (Z6 l true) a b= -1\/(Kt (Z6 l false) a b≠ -1/\Kt (Z6 l false) a b<=Kt (Z6 l true) a b):=by
 by_cases h:∃d,J4 (Z6 l true) a b d
 ·right;obtain⟨d,g⟩:=h;have i:∀u v w,Z6 l false u v w->0<=w:=fun u v w h=>by have:=ZdH hF false u v w h;omega
  have c:Wk (Z6 l false) a b d:=by
   have key:∀{v:Nat}{d:Int},Wk (Z6 l true) a v d->Wk (Z6 l false) a v d:=by
    intro v d h
    induction h with
    |nil=>exact .nil
    |snoc _ e o=>
     obtain⟨p,k,_,j⟩:=e;exact .snoc o ⟨p,k,(fun(h:false=true)=>by cases h),j⟩
   exact key g.1
  obtain⟨m,f⟩:=Zrw i _ d rfl c;rw[Df f,Df g];have:=f.1.nonneg i;exact⟨by omega,f.2 d c⟩
 ·left;unfold Kt
  grind
theorem ZlS{n:Nat}{l:List ZO}(hF:YT n l){free:Bool}{m:List (List Int)}(i:XO (Z6 l free) n n m){a b:Nat}(j:a<n)(k:b<n)(o:a≠b):Rel (Kt (Z6 l free) a b) (gm m a b):=by
 have p:∀u v w,Z6 l free u v w->u<n/\v<n:=fun u v w h=>⟨(ZdH hF free u v w h).1,(ZdH hF free u v w h).2.1⟩
 have c:∀d,Wk (Z6 l free) a b d->gm m a b<=d:=fun d f=>by
  rcases f.wb p with ⟨h,_⟩|h
  ·omega
  ·exact i.all a b d j k h
 rcases i.snd a b j k with h|⟨_,h⟩
 ·right;refine⟨h,?_⟩;by_cases g:∃d,J4 (Z6 l free) a b d
  ·obtain⟨d,f⟩:=g;rw[Df f];have:=c d f.1;omega
  ·left;unfold Kt;grind
 ·left;have e:=Wb.wk (Wk.nil (Ed:=Z6 l free) (s:=a)) h;rw[Int.zero_add]at e;rw[Df ⟨e,c⟩];exact⟨rfl,ZuR (fun u v w h=>(ZdH hF free u v w h).2.2) h⟩
theorem Zrf(a b:Nat)(d f:Int):(XH a b d f).length<=2:=by
 unfold XH
 grind
theorem ZpT{n:Nat}(q:n<=64){l:List ZO}(hF:YT n l)(w:l.length<=4096):
 ∃c d,XO (Z6 l false) n n c/\XO (Z6 l true) n n d/\F116 l (n:Int)=some (Ww (fun a b=>XH a b (gm c a b) (gm d a b)) n n):=by
 obtain⟨c,C,j⟩:=Zmw q hF w false;obtain⟨d,D,k⟩:=Zmw q hF w true;refine⟨c,d,j,k,?_⟩
 have key:∃z,F116 l (n:Int)=some z/\z=Ww (fun a b=>XH a b (gm c a b) (gm d a b)) n n:=by
  unfold F116;rw[C];simp only[Za];rw[D];simp only[Za];have i:∀a b:Nat,((fun a b=>XH a b (gm c a b) (gm d a b)) a b).length<=2:=fun a b=>Zrf _ _ _ _
  refine Xx (fun st=>∃a:Nat,st=(Ww (fun a b=>XH a b (gm c a b) (gm d a b)) n a,(a:Int))/\a<=n) (fun st=>n - st.2.toNat)
   (fun r=>r=Ww (fun a b=>XH a b (gm c a b) (gm d a b)) n n) ⟨0,rfl,Vm _⟩ ?_ (by simp)
  rintro st ⟨a,rfl,E⟩;by_cases g:a<n
  ·have A:Va .i64 ((a:Int)+1)=((a+1:Nat):Int):=by rw[Zs (by omega) (by omega)];omega
   obtain⟨u,s,J⟩:=j.shp.row g;obtain⟨v,t,K⟩:=k.shp.row g;have F:a<c.length:=by grind
   have G:a<d.length:=by grind
   have L:idx c (a:Int)=some u:=by assumption
   have M:idx d (a:Int)=some v:=by assumption
   simp only[show decide ((a:Int)<(n:Int))=true from (by grind),Zc,A]
   refine Xx (fun st=>∃b:Nat,st=(Ww (fun a b=>XH a b (gm c a b) (gm d a b)) n a++Xw (fun a b=>XH a b (gm c a b) (gm d a b)) a b,(b:Int))/\b<=n) (fun st=>n - st.2.toNat)
    (fun r=>r=Ww (fun a b=>XH a b (gm c a b) (gm d a b)) n (a+1)) ⟨0,by simp [Xw],Vm _⟩ ?_ ?_
   ·rintro st ⟨b,rfl,N⟩;by_cases e:b<n
    ·have B:Va .i64 ((b:Int)+1)=((b+1:Nat):Int):=by rw[Zs (by omega) (by omega)];omega
     have H:b<u.length:=by omega
     have I:b<v.length:=by omega
     have x:idx u (b:Int)=some (gm c a b):=by
      have:=Zbf j.shp g e s
      assumption
     have y:idx v (b:Int)=some (gm d a b):=by
      have:=Zbf k.shp g e t
      assumption
     simp only[show decide ((b:Int)<(n:Int))=true from (by grind),Zc,L,M,x,y,Za,B];by_cases f:a=b
     ·subst f;simp only[decide_true,Zc,Za];exact⟨_,rfl,⟨a+1,by rw[Gk,Zp rfl,Vna],e⟩,by omega⟩
     ·have p:(Ww (fun a b=>XH a b (gm c a b) (gm d a b)) n a++Xw (fun a b=>XH a b (gm c a b) (gm d a b)) a b).length<=10000:=by rw[Vv];have:=Zdj i q E;have:=Zey i a b;omega
      simp only[show decide ((a:Int)=(b:Int))=false from (by grind),Ze,Za];by_cases h:14400<gm c a b
      ·simp only[Zd h,Zc];refine⟨_,rfl,⟨b+1,?_,e⟩,by omega⟩;rw[Gk,Zf f];unfold XH
       grind
      ·simp only[Zk h,Ze];rw[Dk (by grind)];simp only[Za];by_cases o:gm c a b<gm d a b
       ·simp only[Zd o,Zc,Za];by_cases m:gm d a b<=14400
        ·simp only[Zd m,Zc];rw[Dk (by grind)];simp only[Za];refine⟨_,rfl,⟨b+1,?_,e⟩,by omega⟩;rw[Gk,Zf f];unfold XH
         grind
        ·simp only[Zk m,Ze];refine⟨_,rfl,⟨b+1,?_,e⟩,by omega⟩;rw[Gk,Zf f];unfold XH
         grind
       ·simp only[Zk o,Ze,Za];refine⟨_,rfl,⟨b+1,?_,e⟩,by omega⟩;rw[Gk,Zf f];unfold XH
        grind
    ·have:b=n:=by omega
     subst this;simp only[show decide ((b:Int)<(b:Int))=false from (by simp),Ze];exact⟨_,rfl,(ZbN _ _ _).symm⟩
   grind
  ·have:a=n:=by omega
   simp_all
 grind
theorem ZdA{n:Nat}(g:n<=64){l:List ZO}(hF:YT n l)(k:l.length<=4096):∃c:List ZO,F56 l (n:Int)=some c/\F116 l (n:Int)=some c/\c.length<=8192:=by obtain⟨m,o,e,f,h⟩:=ZpT g hF k;refine⟨_,ZdB g hF k (fun a b=>(ZaL hF a b).imp id fun h=>h.2),?_,Zdj (fun a b=>Zkm _ _ _ _) g (Vu n)⟩;rw[h];congr 1;refine(Zn5 (Vu n) fun a b i j d=>?_).symm;exact Zrh (ZlS hF e i j d) (ZlS hF f i j d) (ZaL hF a b)
end Q
namespace Q
open Tr Go
def Wm(n:Nat)(chk:Nat->Int):Option Nat:=(Vw n).find? fun i=>decide (chk i≠0)
theorem ZqH{n i:Nat}{chk:Nat->Int}(b:i<n)(h:∀j,j<i->chk j=0)(a:chk i≠0):Wm n chk=some i:=by
 unfold Wm
 simp_all
theorem ZdN{n:Nat}{chk:Nat->Int}(h:∀j,j<n->chk j=0):Wm n chk=none:=by
 unfold Wm
 grind
theorem K6{n:Nat}{chk:Nat->Int} :Wm n chk=none↔∀j,j<n->chk j=0:=by
 refine⟨fun h j a=>?_,ZdN⟩;unfold Wm at h
 grind
theorem RW{n i:Nat}{chk:Nat->Int}(h:Wm n chk=some i):i<n/\chk i≠0:=by
 unfold Wm at h
 grind
def pick{τ:Type}(n:Nat)(chk:Nat->Int)(R:Nat->τ)(E:τ):τ:=match Wm n chk with
 |some i=>R i
 |none=>E
theorem Xd{σ τ:Type}{step:σ->Option (σ ⊕ τ)}{n:Nat}(a:Nat->σ->Prop)(chk:Nat->Int)(R:Nat->τ)(E:τ)
 (g:∀i s,i<n->a i s->chk i=0->∃s',step s=some (.inl s')/\a (i+1) s')
 (b:∀i s,i<n->a i s->chk i≠0->step s=some (.inr (R i)))
 (c:∀s,a n s->step s=some (.inr E)):∀s,a 0 s->run step s=some (pick n chk R E):=by
 have key:∀(k i:Nat) (s:σ),n - i=k->i<=n->a i s->(∀j,j<i->chk j=0)->run step s=some (pick n chk R E):=by
  intro k
  induction k with
  |zero=>
   intro i s m l d f;have:i=n:=by omega
   subst this;rw[Ym (c s d)];unfold pick
   rw[ZdN f]
  |succ k p=>
   intro i s m l d f;by_cases e:chk i=0
   ·obtain⟨s',h,o⟩:=g i s (by omega) d e;rw[HT h]
    grind
   ·rw[Ym (b i s (by omega) d e)];unfold pick;rw[ZqH (by omega) f e]
 grind
def WP{t:Ty}(key:Nat->El t)(i:Nat)(m:List (El t×Bool)):Prop:= ∀k,Ve (ZI (Zj t) k m) false=true↔∃j,j<i/\key j=k
theorem WP.nil{t:Ty}(key:Nat->El t):WP key 0 []:=fun k=>by simp [ZI]
theorem WP.add{t:Ty}(b:t.key=true){key:Nat->El t}{i:Nat}{m:List (El t×Bool)}(h:WP key i m):WP key (i+1) (ZZ (Zj t) (key i) true m):=by
 classical
 intro k;rw[Gy b];by_cases a:k=key i
 ·grind
 ·rw[Zf a,h k]
  grind
theorem Z8{i n:Nat}(h:i<n)(a:n<=9223372036854775807):Va .i64 ((i:Int)+1)=((i+1:Nat):Int):=by rw[Zs (by omega) (by omega)];omega
theorem ZU{i n:Nat}(h:i<n):decide ((i:Int)<(n:Int))=true:=by grind
theorem Jy(n:Nat):decide ((n:Int)<(n:Int))=false:=by simp
def okx(x:Int):Bool:=
 ((decide (97<=x) &&decide (x<=122)) || (decide (65<=x) &&decide (x<=90)) || (decide (48<=x) &&decide (x<=57))) || (decide (x=45) ||decide (x=95) ||decide (x=46))
def YM(c:UInt8):Bool:=okx (c.toNat:Int)
def Wp(s:List UInt8):Bool:=decide (1<=s.length/\s.length<=32) &&s.all YM
theorem Zi1(b:Bool)(x y:Bool):(bif b then some x else some y)=some (bif b then x else y):=by grind
def H5(s:List UInt8)(i:Nat):Int:=if YM ((s[i]?).getD 0) then 0 else 1
theorem Zdw(s:List UInt8):Wm s.length (H5 s)=none↔s.all YM=true:=by
 rw[K6,List.all_eq_true];constructor
 ·intro h c b;obtain⟨i,a,rfl⟩:=Vh b;have:=h i a;unfold H5 at this
  grind
 ·intro h i a;unfold H5
  grind
theorem Rv(s:List UInt8)(f:s.length<=9223372036854775807):F77 s=some (Wp s):=by
 unfold F77;rw[Xd (n:=s.length) (fun i st=>st=(i:Int)) (H5 s) (fun _=>.inr false) (.inl ()) ?_ ?_ ?_ (0:Int) rfl]
 ·unfold pick;simp only[Za]
  cases e:Wm s.length (H5 s) with
  |none=>
   have d:=(Zdw s).1 e;simp only[Vk];unfold Wp;rw[d,Bool.and_true];by_cases g:0<s.length
   ·rw[Zd (by omega)];simp only[Zc,Za];congr 1
    grind
   grind
  |some i=>
   simp only[Sum.elim_inr]
   have d:s.all YM=false:=by
    cases b:s.all YM with
    |false=>rfl
    |true=>rw[(Zdw s).2 b]at e;grind
   unfold Wp
   grind
 ·rintro i _ a rfl b;refine⟨_,?_,rfl⟩
  have c:YM s[i]=true:=by
   unfold H5 at b
   grind
  simp only[ZU a,Zc,ZH a,Za,Zi1,Z8 a f];unfold YM okx at c
  grind
 ·rintro i _ a rfl b
  have c:YM s[i]=false:=by
   unfold H5 at b
   grind
  simp only[ZU a,Zc,ZH a,Za,Zi1,Z8 a f];unfold YM okx at c
  grind
 simp
theorem Zan(s:List UInt8):F121 s=some (Wp s):=by
 unfold F121;by_cases f:s.length<1
 ·rw[Zd (by omega)];simp only[Zc,Za];unfold Wp
  grind
 ·rw[Zk (by omega)];simp only[Ze,Za];by_cases g:32<s.length
  ·rw[Zd (by omega)];simp only[Zc];unfold Wp
   grind
  ·rw[Zk (by omega)];simp only[Ze];have e:s.length<=9223372036854775807:=by omega
   rw[Xd (n:=s.length) (fun i st=>st=(i:Int)) (H5 s) (fun _=>.inr false) (.inl ()) ?_ ?_ ?_ (0:Int) rfl]
   ·unfold pick;simp only[Za];unfold Wp;rw[Zd (by omega),Vfa]
    cases d:Wm s.length (H5 s) with
    |none=>rw[(Zdw s).1 d];rfl
    |some i=>
     have h:s.all YM=false:=by
      cases b:s.all YM with
      |false=>rfl
      |true=>rw[(Zdw s).2 b]at d;grind
     grind
   ·rintro i _ a rfl b;refine⟨_,?_,rfl⟩
    have c:YM s[i]=true:=by
     unfold H5 at b
     grind
    simp only[ZU a,Zc,ZH a,Za,Z8 a e];unfold YM okx at c
    grind
   ·rintro i _ a rfl b
    have c:YM s[i]=false:=by
     unfold H5 at b
     grind
    simp only[ZU a,Zc,ZH a,Za,Z8 a e];unfold YM okx at c
    grind
   simp
end Q
namespace Q
open Tr Go
open Classical in
noncomputable def YH(name dup num:Prop):Int:=if name then 12 else if dup then 6 else if num then 2 else 0
theorem GE{a b c:Prop} :YH a b c=0↔¬a/\ ¬b/\ ¬c:=by
 unfold YH
 grind
theorem ZaQ{a b c:Prop}(h:a):YH a b c=12:=by unfold YH;grind
theorem ZaP{a b c:Prop}(h:¬a)(d:b):YH a b c=6:=by unfold YH;grind
theorem ZaS{a b c:Prop}(h:¬a)(d:¬b)(e:c):YH a b c=2:=by unfold YH;grind
theorem ZaR{a b c:Prop}(h:¬a)(d:¬b)(e:¬c):YH a b c=0:=by unfold YH;grind
theorem Zb0{τ:Type}{step:Int->Option (Int ⊕ τ)}{i:Nat}{p:Nat->Prop}{R E:τ}(f:∀j:Nat,j<i->¬p j->step (j:Int)=some (.inl ((j+1:Nat):Int)))(c:∀j:Nat,j<i->p j->step (j:Int)=some (.inr R))
 (a:step (i:Int)=some (.inr E)):((∃j,j<i/\p j)->run step (0:Int)=some R)/\((¬∃j,j<i/\p j)->run step (0:Int)=some E):=by
 classical
 have key:=Xd (n:=i) (step:=step) (fun j st=>st=(j:Int)) (fun j=>if p j then 1 else 0) (fun _=>R) E (by grind) (by grind) (by grind) (0:Int) rfl
 constructor
 ·rintro ⟨j,e,g⟩;rw[key];unfold pick
  cases d:Wm i (fun j=>if p j then 1 else 0) with
  |some k=>rfl
  |none=>
   have:=K6.1 d j e
   grind
 ·intro b;rw[key];unfold pick;rw[ZdN (by grind)]
theorem Hd(x a b:Int):F122 x a b=some (decide (a<=x/\x<=b)):=by
 unfold F122
 grind
theorem ZhW(x a b:Int):F113 x a b=some (decide (a<=x/\x<=b)):=Hd x a b
abbrev GY:=List UInt8×Int×Bool×Int×Unit
abbrev Hm:=List UInt8×Int×Bool×Unit
noncomputable def HU(l:List GY)(i:Nat):Int:=
 let x:GY:=(l[i]?).getD ([],0,false,0,())
 YH (Wp x.1=false) (∃j,j<i/\((l[j]?).getD ([],0,false,0,())).1=x.1) (x.2.1<0\/16<=x.2.1\/x.2.2.2.1<0\/3600<x.2.2.2.1)
noncomputable def HV(l:List GY):Int×Int:=if 64<l.length then(0,5) else pick l.length (HU l) (fun i=>((i:Int),HU l i)) (0,0)
theorem Zue(l:List GY)(q:∀x∈l,x.1.length<=9223372036854775807):F186 l=some (HV l):=by
 unfold F186 HV;by_cases k:64<l.length
 ·grind
 ·rw[Zf k,Zk (by omega)];simp only[Ze];rw[Xd (n:=l.length) (fun i st=>∃m,st=(m,(i:Int))/\WP (t:=Y9) (fun j=>((l[j]?).getD ([],0,false,0,())).1) i m) (HU l) (fun i=>.inr ((i:Int),HU l i)) (.inl ()) ?_ ?_ ?_ ([],(0:Int)) ⟨[],rfl,WP.nil _⟩]
  ·unfold pick
   grind
  ·rintro i _ a ⟨m,rfl,f⟩ d;have p:(l[i]?).getD ([],0,false,0,())=l[i]:=by grind
   unfold HU at d;simp only[p]at d;obtain⟨e,b,g⟩:=GE.1 d;have e:Wp (l[i]).1=true:=by grind
   have c:Ve (ZI (Zj Y9) (l[i]).1 m) false=false:=by
    cases o:Ve (ZI (Zj Y9) (l[i]).1 m) false with
    |false=>rfl
    |true=>exact absurd ((f _).1 o) b
   refine⟨(ZZ (Zj Y9) (l[i]).1 true m,((i+1:Nat):Int)),?_,_,rfl,?_⟩
   ·simp only[ZU a,Zc,ZH a,Za,Rv _ (q _ (Vf a)),e,Vc,Ze,c,Z8 a (by omega),
     show decide ((l[i]).2.1<0)=false from (by grind),show decide ((16:Int)<=(l[i]).2.1)=false from (by grind),show decide ((l[i]).2.2.2.1<0)=false from (by grind),show decide ((3600:Int)<(l[i]).2.2.2.1)=false from (by grind)]
   ·have:=WP.add (t:=Y9) rfl f
    grind
  ·rintro i _ a ⟨m,rfl,f⟩ d;have p:(l[i]?).getD ([],0,false,0,())=l[i]:=by grind
   simp only[ZU a,Zc,ZH a,Za,Rv _ (q _ (Vf a))];unfold HU at d⊢;simp only[p]at d⊢;by_cases e:Wp (l[i]).1=false
   ·rw[ZaQ e,e];rfl
   ·have h:Wp (l[i]).1=true:=by grind
    simp only[h,Vc,Ze];by_cases b:∃j,j<i/\((l[j]?).getD ([],0,false,0,())).1=(l[i]).1
    ·rw[ZaP (by simp) b,(f _).2 b];rfl
    ·have c:Ve (ZI (Zj Y9) (l[i]).1 m) false=false:=by
      cases o:Ve (ZI (Zj Y9) (l[i]).1 m) false with
      |false=>rfl
      |true=>exact absurd ((f _).1 o) b
     simp only[c,Ze]
     have g:(l[i]).2.1<0\/16<=(l[i]).2.1\/(l[i]).2.2.2.1<0\/3600<(l[i]).2.2.2.1:=by
      by_cases g:(l[i]).2.1<0\/16<=(l[i]).2.1\/(l[i]).2.2.2.1<0\/3600<(l[i]).2.2.2.1
      ·omega
      ·exact absurd (ZaR e b g) d
     rw[ZaS (by simp) b g]
     grind
  simp
theorem Zuf(l:List GY):F128 l=some (HV l):=by
 unfold F128 HV;by_cases s:64<l.length
 ·grind
 ·rw[Zf s,Zk (by omega)];simp only[Ze]
  have a:∀i (b:i<l.length) (τ:Type) (R E:τ) (f:Int->τ),f (i:Int)=R->((∃j,j<i/\((l[j]?).getD ([],0,false,0,())).1=(l[i]).1)->run (fun h:Int=>
        bif decide (h<(i:Int)) then
         Vb (idx l h) fun t=>
          bif decide (t.fst=(l[i]).fst) then some (Sum.inr (f (i:Int))) else some (Sum.inl (Va .i64 (h+(1:Int))))
        else some (Sum.inr E)) (0:Int)=some R)/\((¬∃j,j<i/\((l[j]?).getD ([],0,false,0,())).1=(l[i]).1)->run (fun h:Int=>
        bif decide (h<(i:Int)) then
         Vb (idx l h) fun t=>
          bif decide (t.fst=(l[i]).fst) then some (Sum.inr (f (i:Int))) else some (Sum.inl (Va .i64 (h+(1:Int))))
        else some (Sum.inr E)) (0:Int)=some E):=by
   intro i b τ R E f u;refine Zb0 (p:=fun j=>((l[j]?).getD ([],0,false,0,())).1=(l[i]).1) (fun j q m=>?_) (fun j q m=>?_) ?_
   ·have e:j<l.length:=by omega
    have g:(l[j]?).getD ([],0,false,0,())=l[j]:=by grind
    rw[g]at m;simp only[ZU q,Zc,ZH e,Za,Zk m,Ze,Z8 q (by omega)]
   ·have e:j<l.length:=by omega
    have g:(l[j]?).getD ([],0,false,0,())=l[j]:=by grind
    rw[g]at m;simp only[ZU q,Zc,ZH e,Za,Zd m,u]
   simp
  rw[Xd (n:=l.length) (fun i st=>st=(i:Int)) (HU l) (fun i=>.inr ((i:Int),HU l i)) (.inl ()) ?_ ?_ ?_ (0:Int) rfl]
  ·unfold pick
   grind
  ·rintro i _ b rfl d;have g:(l[i]?).getD ([],0,false,0,())=l[i]:=by grind
   unfold HU at d;simp only[g]at d;obtain⟨k,c,o⟩:=GE.1 d;have k:Wp (l[i]).1=true:=by grind
   refine⟨((i+1:Nat):Int),?_,rfl⟩;simp only[ZU b,Zc,ZH b,Za,Zan,k,Vc,Ze];rw[(a i b _ _ (Sum.inl ()) (fun x=>Sum.inr (x,(6:Int))) rfl).2 c];simp only[Za,Vk,Hd,Zd (show (0:Int)<=(l[i]).2.1/\(l[i]).2.1<=15 by omega),Vc,Ze,Zd (show (0:Int)<=(l[i]).2.2.2.1/\(l[i]).2.2.2.1<=3600 by omega),Z8 b (by omega)]
  ·rintro i _ b rfl d;have g:(l[i]?).getD ([],0,false,0,())=l[i]:=by grind
   simp only[ZU b,Zc,ZH b,Za,Zan];unfold HU at d⊢;simp only[g]at d⊢;by_cases k:Wp (l[i]).1=false
   ·rw[ZaQ k,k];rfl
   ·have r:Wp (l[i]).1=true:=by grind
    simp only[r,Vc,Ze];by_cases c:∃j,j<i/\((l[j]?).getD ([],0,false,0,())).1=(l[i]).1
    ·rw[ZaP (by simp) c,(a i b _ _ (Sum.inl ()) (fun x=>Sum.inr (x,(6:Int))) rfl).1 c];rfl
    ·rw[(a i b _ _ (Sum.inl ()) (fun x=>Sum.inr (x,(6:Int))) rfl).2 c]
     have o:(l[i]).2.1<0\/16<=(l[i]).2.1\/(l[i]).2.2.2.1<0\/3600<(l[i]).2.2.2.1:=by
      by_cases o:(l[i]).2.1<0\/16<=(l[i]).2.1\/(l[i]).2.2.2.1<0\/3600<(l[i]).2.2.2.1
      ·omega
      ·exact absurd (ZaR k c o) d
     rw[ZaS (by simp) c o];simp only[Za,Vk,Hd]
     grind
  simp
end Q
namespace Q
open Tr Go
theorem Zkz(x:Int):F145 x=some (decide (0<=x/\x<=7)):=by
 unfold F145
 grind
theorem ZaN{α:Type}{l:List α}{nm:α->List UInt8}{d:α}{i:Nat}(h:i<l.length)(k:l.length<=9223372036854775807){y:List UInt8}{τ:Type}(R E:τ):
 ((∃j,j<i/\nm ((l[j]?).getD d)=y)->run (fun b:Int=>
        bif decide (b<(i:Int)) then
         Vb (idx l b) fun g=>
          bif decide (nm g=y) then some (Sum.inr R) else some (Sum.inl (Va .i64 (b+(1:Int))))
        else some (Sum.inr E)) (0:Int)=some R)/\((¬∃j,j<i/\nm ((l[j]?).getD d)=y)->run (fun b:Int=>
        bif decide (b<(i:Int)) then
         Vb (idx l b) fun g=>
          bif decide (nm g=y) then some (Sum.inr R) else some (Sum.inl (Va .i64 (b+(1:Int))))
        else some (Sum.inr E)) (0:Int)=some E):=by
 refine Zb0 (p:=fun j=>nm ((l[j]?).getD d)=y) (fun j e c=>?_) (fun j e c=>?_) ?_
 ·have a:j<l.length:=by omega
  have f:(l[j]?).getD d=l[j]:=by grind
  rw[f]at c;simp only[ZU e,Zc,ZH a,Za,Zk c,Ze,Z8 e (by omega)]
 ·have a:j<l.length:=by omega
  have f:(l[j]?).getD d=l[j]:=by grind
  rw[f]at c;simp only[ZU e,Zc,ZH a,Za,Zd c]
 simp
def r0:Hm:=([],0,false,())
noncomputable def Gi(l:List Hm)(i:Nat):Int:=
 YH (Wp ((l[i]?).getD r0).1=false) (∃j,j<i/\((l[j]?).getD r0).1=((l[i]?).getD r0).1) (¬(0<=((l[i]?).getD r0).2.1/\((l[i]?).getD r0).2.1<=7))
noncomputable def Gj(l:List Hm):Int×Int:=if 64<l.length then(0,5) else pick l.length (Gi l) (fun i=>((i:Int),Gi l i)) (0,0)
theorem Kx{α:Type}{l:List α}{i:Nat}(h:i<l.length)(d:α):(l[i]?).getD d=l[i]:=by grind
theorem DD{t:Ty}{key:Nat->El t}{i:Nat}{m:List (El t×Bool)}(h:WP key i m){k:El t}(b:¬∃j,j<i/\key j=k):Ve (ZI (Zj t) k m) false=false:=by
 cases a:Ve (ZI (Zj t) k m) false with
 |false=>rfl
 |true=>exact absurd ((h k).1 a) b
theorem Ztd(l:List Hm)(p:∀x∈l,x.1.length<=9223372036854775807):F144 l=some (Gj l):=by
 unfold F144 Gj;by_cases o:64<l.length
 ·grind
 ·rw[Zf o,Zk (by omega)];simp only[Ze];rw[Xd (n:=l.length) (fun i st=>∃m,st=(m,(i:Int))/\WP (t:=Y9) (fun j=>((l[j]?).getD r0).1) i m) (Gi l) (fun i=>.inr ((i:Int),Gi l i)) (.inl ()) ?_ ?_ ?_ ([],(0:Int)) ⟨[],rfl,WP.nil _⟩]
  ·unfold pick
   grind
  ·rintro i _ a ⟨m,rfl,f⟩ c;have g:=Kx a r0;unfold Gi at c;rw[g]at c;obtain⟨d,b,e⟩:=GE.1 c;have d:Wp (l[i]).1=true:=by grind
   have k:=DD f b;have e:0<=(l[i]).2.1/\(l[i]).2.1<=7:=by omega
   refine⟨(ZZ (Zj Y9) (l[i]).1 true m,((i+1:Nat):Int)),?_,_,rfl,?_⟩
   ·simp only[ZU a,Zc,ZH a,Za,Rv _ (p _ (Vf a)),d,Vc,Ze,k,Z8 a (by omega),Zkz,Zd e]
   ·have:=WP.add (t:=Y9) rfl f
    grind
  ·rintro i _ a ⟨m,rfl,f⟩ c;have g:=Kx a r0;simp only[ZU a,Zc,ZH a,Za,Rv _ (p _ (Vf a))];unfold Gi at c⊢;rw[g]at c;simp only[g];by_cases d:Wp (l[i]).1=false
   ·rw[ZaQ d,d];rfl
   ·have h:Wp (l[i]).1=true:=by grind
    simp only[h,Vc,Ze];by_cases b:∃j,j<i/\((l[j]?).getD r0).1=(l[i]).1
    ·rw[ZaP (by simp) b,(f _).2 b];rfl
    ·simp only[DD f b,Ze];have e:¬(0<=(l[i]).2.1/\(l[i]).2.1<=7):=fun e=>c (ZaR d b (by omega));rw[ZaS (by simp) b e,Zkz,Zk e];rfl
  simp
theorem Zte(l:List Hm):F126 l=some (Gj l):=by
 unfold F126 Gj;by_cases m:64<l.length
 ·grind
 ·rw[Zf m,Zk (by omega)];simp only[Ze];have g:l.length<=9223372036854775807:=by omega
  rw[Xd (n:=l.length) (fun i st=>st=(i:Int)) (Gi l) (fun i=>.inr ((i:Int),Gi l i)) (.inl ()) ?_ ?_ ?_ (0:Int) rfl]
  ·unfold pick
   grind
  ·rintro i _ a rfl c;have h:=Kx a r0;unfold Gi at c;rw[h]at c;obtain⟨e,b,f⟩:=GE.1 c;have e:Wp (l[i]).1=true:=by grind
   have f:0<=(l[i]).2.1/\(l[i]).2.1<=7:=by omega
   refine⟨((i+1:Nat):Int),?_,rfl⟩;simp only[ZU a,Zc,ZH a,Za,Zan,e,Vc,Ze];rw[(ZaN (nm:=fun x:Hm=>x.1) (d:=r0) a g (y:=(l[i]).1) _ _).2 b];simp only[Za,Vk,Hd,Zd f,Vc,Ze,Z8 a g]
  ·rintro i _ a rfl c;have h:=Kx a r0;simp only[ZU a,Zc,ZH a,Za,Zan];unfold Gi at c⊢;rw[h]at c;simp only[h];by_cases e:Wp (l[i]).1=false
   ·rw[ZaQ e,e];rfl
   ·have k:Wp (l[i]).1=true:=by grind
    simp only[k,Vc,Ze];by_cases b:∃j,j<i/\((l[j]?).getD r0).1=(l[i]).1
    ·rw[ZaP (by simp) b,(ZaN (nm:=fun x:Hm=>x.1) (d:=r0) a g (y:=(l[i]).1) _ _).1 b];rfl
    ·rw[(ZaN (nm:=fun x:Hm=>x.1) (d:=r0) a g (y:=(l[i]).1) _ _).2 b];have f:¬(0<=(l[i]).2.1/\(l[i]).2.1<=7):=fun f=>c (ZaR e b (by omega));rw[ZaS (by simp) b f];simp only[Za,Vk,Hd,Zk f];rfl
  simp
abbrev XQ:=List UInt8×Int×Int×Int×Int×Int×Unit
abbrev Ku:=List XQ×Int×Int×Int×Unit
def p0:XQ:=([],0,0,0,0,0,())
def YK(x:XQ):Bool:=decide (0<=x.2.1/\x.2.1<=1000000) && (decide (1<=x.2.2.1/\x.2.2.1<=8) && (decide (1<=x.2.2.2.1/\x.2.2.2.1<=16) && (decide (0<=x.2.2.2.2.1/\x.2.2.2.2.1<=86400) &&decide (1<=x.2.2.2.2.2.1/\x.2.2.2.2.2.1<=255))))
noncomputable def Hy(l:List XQ)(i:Nat):Int:=
 YH (Wp ((l[i]?).getD p0).1=false) (∃j,j<i/\((l[j]?).getD p0).1=((l[i]?).getD p0).1) (YK ((l[i]?).getD p0)=false)
def HL(f:Ku):Bool:=decide (0<=f.2.1/\f.2.1<=1000000) && (decide (0<=f.2.2.1/\f.2.2.1<=86400) &&decide (0<=f.2.2.2.1/\f.2.2.2.1<=1000000))
noncomputable def J8(f:Ku):Int×Int:=
 if HL f=false then(-1,2) else if 16<f.1.length then(0,5) else pick f.1.length (Hy f.1) (fun i=>((i:Int),Hy f.1 i)) (0,0)
theorem ZmJ{w:Int->Int->Int->Option Bool}(c:∀x a b,w x a b=some (decide (a<=x/\x<=b)))(f:Ku):
 (Vb (w f.2.1 0 1000000) fun x0=>bif !x0 then some true else Vb (w f.2.2.1 0 86400) fun d=>bif !d then some true else Vb (w f.2.2.2.1 0 1000000) fun e=>some !e)=some (!HL f):=by
 unfold HL;simp only[c,Za]
 grind
theorem ZdP{w:Int->Int->Int->Option Bool}(c:∀x a b,w x a b=some (decide (a<=x/\x<=b)))(x:XQ):
 (Vb (w x.2.1 0 1000000) fun x0=>bif !x0 then some true else Vb (w x.2.2.1 1 8) fun d=>bif !d then some true else Vb (w x.2.2.2.1 1 16) fun e=>bif !e then some true else
   Vb (w x.2.2.2.2.1 0 86400) fun f=>bif !f then some true else Vb (w x.2.2.2.2.2.1 1 255) fun g=>some !g)=some (!YK x):=by
 unfold YK;simp only[c,Za]
 grind
theorem Zgf(f:Ku)(p:∀x∈f.1,x.1.length<=9223372036854775807):F109 f=some (J8 f):=by
 unfold F109 J8;rw[ZmJ (w:=F113) ZhW f];simp only[Za]
 cases r:HL f with
 |true=>
  rw[Zf (by simp)];simp only[Vc,Ze];by_cases l:16<f.1.length
  ·grind
  ·rw[Zf l,Zk (by omega)];simp only[Ze];rw[Xd (n:=f.1.length) (fun i st=>∃m,st=(m,(i:Int))/\WP (t:=Y9) (fun j=>((f.1[j]?).getD p0).1) i m) (Hy f.1) (fun i=>.inr ((i:Int),Hy f.1 i)) (.inl ()) ?_ ?_ ?_ ([],(0:Int)) ⟨[],rfl,WP.nil _⟩]
   ·unfold pick
    grind
   ·rintro i _ a ⟨m,rfl,g⟩ c;have h:=Kx a p0;unfold Hy at c;rw[h]at c;obtain⟨d,b,e⟩:=GE.1 c;have d:Wp (f.1[i]).1=true:=by grind
    have o:=DD g b;have e:YK f.1[i]=true:=by grind
    refine⟨(ZZ (Zj Y9) (f.1[i]).1 true m,((i+1:Nat):Int)),?_,_,rfl,?_⟩
    ·simp only[ZU a,Zc,ZH a,Za,Rv _ (p _ (Vf a)),d,Vc,Ze,o,Z8 a (by omega)];rw[ZdP (w:=F113) ZhW,e];rfl
    ·have:=WP.add (t:=Y9) rfl g
     grind
   ·rintro i _ a ⟨m,rfl,g⟩ c;have h:=Kx a p0;simp only[ZU a,Zc,ZH a,Za,Rv _ (p _ (Vf a))];unfold Hy at c⊢;rw[h]at c;simp only[h];by_cases d:Wp (f.1[i]).1=false
    ·rw[ZaQ d,d];rfl
    ·have k:Wp (f.1[i]).1=true:=by grind
     simp only[k,Vc,Ze];by_cases b:∃j,j<i/\((f.1[j]?).getD p0).1=(f.1[i]).1
     ·rw[ZaP (by simp) b,(g _).2 b];rfl
     ·simp only[DD g b,Ze]
      have e:YK f.1[i]=false:=by
       cases q:YK f.1[i] with
       |false=>rfl
       |true=>exact absurd (ZaR d b (by grind)) c
      rw[ZaS (by simp) b e,ZdP (w:=F113) ZhW,e];rfl
   simp
 |false=>rfl
theorem ZqA(f:Ku):F117 f=some (J8 f):=by
 unfold F117 J8;rw[ZmJ (w:=F122) Hd f];simp only[Za]
 cases p:HL f with
 |true=>
  rw[Zf (by simp)];simp only[Vc,Ze];by_cases m:16<f.1.length
  ·grind
  ·rw[Zf m,Zk (by omega)];simp only[Ze];have h:f.1.length<=9223372036854775807:=by omega
   rw[Xd (n:=f.1.length) (fun i st=>st=(i:Int)) (Hy f.1) (fun i=>.inr ((i:Int),Hy f.1 i)) (.inl ()) ?_ ?_ ?_ (0:Int) rfl]
   ·unfold pick
    grind
   ·rintro i _ a rfl c;have k:=Kx a p0;unfold Hy at c;rw[k]at c;obtain⟨e,b,g⟩:=GE.1 c;have e:Wp (f.1[i]).1=true:=by grind
    have g:YK f.1[i]=true:=by grind
    refine⟨((i+1:Nat):Int),?_,rfl⟩;simp only[ZU a,Zc,ZH a,Za,Zan,e,Vc,Ze];rw[(ZaN (nm:=fun x:XQ=>x.1) (d:=p0) a h (y:=(f.1[i]).1) _ _).2 b];simp only[Za,Vk];rw[ZdP (w:=F122) Hd,g];simp only[Vc,Za,Ze,Z8 a h]
   ·rintro i _ a rfl c;have k:=Kx a p0;simp only[ZU a,Zc,ZH a,Za,Zan];unfold Hy at c⊢;rw[k]at c;simp only[k];by_cases e:Wp (f.1[i]).1=false
    ·rw[ZaQ e,e];rfl
    ·have l:Wp (f.1[i]).1=true:=by grind
     simp only[l,Vc,Ze];by_cases b:∃j,j<i/\((f.1[j]?).getD p0).1=(f.1[i]).1
     ·rw[ZaP (by simp) b,(ZaN (nm:=fun x:XQ=>x.1) (d:=p0) a h (y:=(f.1[i]).1) _ _).1 b];rfl
     ·rw[(ZaN (nm:=fun x:XQ=>x.1) (d:=p0) a h (y:=(f.1[i]).1) _ _).2 b]
      have g:YK f.1[i]=false:=by
       cases o:YK f.1[i] with
       |false=>rfl
       |true=>exact absurd (ZaR e b (by grind)) c
      rw[ZaS (by simp) b g];simp only[Za,Vk];rw[ZdP (w:=F122) Hd,g];rfl
   simp
 |false=>rfl
end Q
namespace Q
open Tr Go
abbrev KK:=Int×Int×Int×Bool×Bool×Unit
def c0:KK:=(0,0,0,false,false,())
def D0(l:List KK)(i:Nat)(n:Int):Bool:=decide (((l[i]?).getD c0).1<0) ||decide (n<=((l[i]?).getD c0).1)
def G7(l:List KK)(i:Nat):Bool:=decide (0<i) &&decide (((l[i - 1]?).getD c0).1=((l[i]?).getD c0).1)
def G8(l:List KK)(i:Nat)(lo a:Int):Bool:=decide (((l[i]?).getD c0).2.1<lo) || (decide (((l[i]?).getD c0).2.2.1<((l[i]?).getD c0).2.1) || (decide (a<((l[i]?).getD c0).2.2.1) || (decide (0<i) &&decide (((l[i]?).getD c0).2.1<((l[i - 1]?).getD c0).2.2.1))))
def Jb(l:List KK)(n lo a:Int)(i:Nat):Int:=if D0 l i n then 9 else if G7 l i then 13 else if G8 l i lo a then 10 else 0
theorem Zkh(i:Nat):decide ((0:Int)<(i:Int))=decide (0<i):=by simp
theorem ZlC{l:List KK}{i:Nat}(b:i<l.length)(c:l.length<=9223372036854775807)(a:0<i):idx l (Va .i64 ((i:Int) - 1))=some ((l[i - 1]?).getD c0):=by
 have e:Va .i64 ((i:Int) - 1)=((i - 1:Nat):Int):=by rw[Zs (by omega) (by omega)];omega
 rw[e,ZH (by omega),Kx (by omega)]
theorem Zlj{l:List KK}{i:Nat}(b:i<l.length)(d:l.length<=9223372036854775807)(n lo a:Int):F7 l (i:Int) n lo a=some (Jb l n lo a i):=by
 unfold F7 Jb D0 G7 G8;rw[Kx b,ZH b];simp only[Za,Zkh];by_cases c:0<i
 ·simp only[ZlC b d c,Za,Zd c,Zc,Vfa]
  grind
 grind
noncomputable def Ju(l:List KK)(n lo a:Int):Int:=if l.length<2\/32<l.length then 5 else pick l.length (Jb l n lo a) (Jb l n lo a) 0
theorem Zi7(l:List KK)(n lo b:Int):∃i,F6 l n lo b=some (i,Ju l n lo b):=by
 unfold F6 Ju;by_cases e:l.length<2
 ·rw[Zd (by omega),Zp (.inl e)];simp
 ·rw[Zk (by omega)];by_cases f:32<l.length
  ·rw[Zp (.inr f)];simp only[Ze,Za,Zd (show (32:Int)<(l.length:Int) by omega),Zc];simp
  ·rw[Zf (by omega)];simp only[Ze,Za,Zk (show¬(32:Int)<(l.length:Int) by omega)];have d:l.length<=9223372036854775807:=by omega
   rw[Xd (n:=l.length) (fun i st=>st=(i:Int)) (Jb l n lo b) (fun i=>.inr ((i:Int),Jb l n lo b i)) (.inl ()) ?_ ?_ ?_ (0:Int) rfl]
   ·unfold pick
    cases Wm l.length (Jb l n lo b)<;>exact⟨_,rfl⟩
   ·rintro i _ a rfl c;refine⟨((i+1:Nat):Int),?_,rfl⟩;simp only[ZU a,Zc,Zlj a d,Za,c,decide_true,Vc,Ze,Z8 a d]
   ·rintro i _ a rfl c;simp only[ZU a,Zc,Zlj a d,Za,Zk c,Vq]
   simp
theorem Zpq(l:List KK)(n lo c:Int):F114 l n lo c=some (Ju l n lo c):=by
 unfold F114 Ju;by_cases m:l.length<2
 ·grind
 ·rw[Zk (by omega)];by_cases o:32<l.length
  ·grind
  ·rw[Zf (by omega)];simp only[Ze,Za,Zk (by omega)];have e:l.length<=9223372036854775807:=by omega
   have step:∀i (a:i<l.length),(bif decide ((i:Int)<(↑(Vj l):Int)) then
         Vb (idx l (i:Int)) fun b=>
          Vb (bif decide (b.fst<(0:Int)) then some true else some (decide (n<=b.fst))) fun f=>
           bif f then some (Sum.inr (Sum.inr (9:Int)))
           else
            Vb
             (bif decide ((0:Int)<(i:Int)) then Vb (idx l (Va .i64 ((i:Int) - (1:Int)))) fun g=>some (decide (g.fst=b.fst))
             else some false)
             fun h=>
             bif h then some (Sum.inr (Sum.inr (13:Int)))
             else
              Vb
               (bif decide (b.snd.fst<lo) then some true
               else
                bif decide (b.snd.snd.fst<b.snd.fst) then some true
                else
                 bif decide (c<b.snd.snd.fst) then some true
                 else
                  bif decide ((0:Int)<(i:Int)) then
                   Vb (idx l (Va .i64 ((i:Int) - (1:Int)))) fun j=>some (decide (b.snd.fst<j.snd.snd.fst))
                  else some false)
               fun k=>bif k then some (Sum.inr (Sum.inr (10:Int))) else some (Sum.inl (Va .i64 ((i:Int)+(1:Int))))
         else some (Sum.inr (Sum.inl ())))=(if Jb l n lo c i=0 then some (Sum.inl ((i+1:Nat):Int)) else some (Sum.inr (Sum.inr (Jb l n lo c i))):Option (Int ⊕ (Unit ⊕ Int))):=by
    intro i a;simp only[ZU a,Zc,ZH a,Za,Zkh,Z8 a e];unfold Jb D0 G7 G8;rw[Kx a];by_cases d:0<i
    ·simp only[ZlC a e d,Za,Zd d,Zc,Vfa]
     grind
    grind
   rw[Xd (n:=l.length) (fun i st=>st=(i:Int)) (Jb l n lo c) (fun i=>.inr (Jb l n lo c i)) (.inl ()) ?_ ?_ ?_ (0:Int) rfl]
   ·unfold pick
    grind
   all_goals simp_all
abbrev Xi:=Int×Int×Int×List UInt8×Int×Bool×Bool×List KK×Unit
abbrev XC:=Int×Int×Int×Int×Bool×Unit
abbrev Zh:=List GY×List Hm×List Xi×List XC×List ZO×Ku×Unit
def u0:Xi:=(0,0,0,[],0,false,false,[],())
abbrev Znu:=List UInt8×Int×Int×Unit
def runK(x:Xi):Znu:=(x.2.2.2.1,x.2.1,x.2.2.1,())
open Classical in
noncomputable def J1(n:Zh)(i:Nat):Int:=
 let x:=(n.2.2.1[i]?).getD u0
 if Wp x.2.2.2.1=false then 12 else if (decide (x.1< -1) ||decide (x.2.2.1<0))=true then 2 else if (decide (x.2.1<0) ||decide (36524<x.2.1))=true then 11
 else if (decide (x.2.2.2.2.1<0) ||decide ((n.2.1.length:Int)<=x.2.2.2.2.1))=true then 9
 else if Ju x.2.2.2.2.2.2.2.1 (n.1.length:Int) 0 3155932800≠0 then Ju x.2.2.2.2.2.2.2.1 (n.1.length:Int) 0 3155932800
 else if∃j,j<i/\runK ((n.2.2.1[j]?).getD u0)=runK x then 6 else 0
noncomputable def ZeC(n:Zh):Int×Int×Int×Unit:=if 1024<n.2.2.1.length then(2,0,5,()) else pick n.2.2.1.length (J1 n) (fun i=>(2,(i:Int),J1 n i,())) (0,0,0,())
theorem Ztw(n:Zh)(q:∀x∈n.2.2.1,x.2.2.2.1.length<=9223372036854775807):F90 n=some (ZeC n):=by
 unfold F90 ZeC F100;by_cases r:1024<n.2.2.1.length
 ·grind
 ·rw[Zf r,Zk (by omega)];simp only[Ze];have s:n.2.2.1.length<=9223372036854775807:=by omega
  rw[Xd (n:=n.2.2.1.length) (fun i st=>∃m,st=((0,0,0,()),m,(i:Int))/\WP (t:=Gw) (fun j=>runK ((n.2.2.1[j]?).getD u0)) i m) (J1 n) (fun i=>.inr (2,(i:Int),J1 n i,())) (.inl (0,0,0,())) ?_ ?_ ?_ _ ⟨[],rfl,WP.nil _⟩]
  ·unfold pick
   grind
  ·rintro i _ b ⟨m,rfl,k⟩ a;have p:=Kx b u0;unfold J1 at a;simp only[p]at a;obtain⟨ci,g⟩:=Zi7 (n.2.2.1[i]).2.2.2.2.2.2.2.1 (n.1.length:Int) 0 3155932800;by_cases l:Wp (n.2.2.1[i]).2.2.2.1=false
   ·grind
   rw[Zf l]at a;by_cases c:(decide ((n.2.2.1[i]).1< -1) ||decide ((n.2.2.1[i]).2.2.1<0))=true
   ·grind
   rw[Zf c]at a;by_cases d:(decide ((n.2.2.1[i]).2.1<0) ||decide (36524<(n.2.2.1[i]).2.1))=true
   ·grind
   rw[Zf d]at a;by_cases e:(decide ((n.2.2.1[i]).2.2.2.2.1<0) ||decide ((n.2.1.length:Int)<=(n.2.2.1[i]).2.2.2.2.1))=true
   ·grind
   rw[Zf e]at a;by_cases o:Ju (n.2.2.1[i]).2.2.2.2.2.2.2.1 (n.1.length:Int) 0 3155932800=0
   ·rw[Zf (by omega)]at a;by_cases h:∃j,j<i/\runK ((n.2.2.1[j]?).getD u0)=runK n.2.2.1[i]
    ·simp_all
    ·have f:Wp (n.2.2.1[i]).2.2.2.1=true:=by grind
     have u:=DD k h;refine⟨((0,0,0,()),ZZ (Zj Gw) (runK n.2.2.1[i]) true m,((i+1:Nat):Int)),?_,_,rfl,?_⟩
     ·simp only[ZU b,Zc,ZH b,Za,Rv _ (q _ (Vf b)),f,Vc,Ze,g,o,decide_true,Z8 b s];simp only[Vo,Vl]at c d e;simp only[c.1,c.2,d.1,d.2,e.1,e.2,Ze,Za];rw[show Ve (ZI (Zj Gw) ((n.2.2.1[i]).2.2.2.1,(n.2.2.1[i]).2.1,(n.2.2.1[i]).2.2.1,()) m) false=false from u];rfl
     ·have:=WP.add (t:=Gw) rfl k
      grind
   omega
  ·rintro i _ b ⟨m,rfl,k⟩ a;have p:=Kx b u0;obtain⟨ci,g⟩:=Zi7 (n.2.2.1[i]).2.2.2.2.2.2.2.1 (n.1.length:Int) 0 3155932800;simp only[ZU b,Zc,ZH b,Za,Rv _ (q _ (Vf b))];unfold J1 at a⊢;simp only[p]at a⊢;by_cases l:Wp (n.2.2.1[i]).2.2.2.1=false
   ·grind
   have f:Wp (n.2.2.1[i]).2.2.2.1=true:=by grind
   rw[Zf l]at a⊢;simp only[f,Vc,Ze];by_cases c:(decide ((n.2.2.1[i]).1< -1) ||decide ((n.2.2.1[i]).2.2.1<0))=true
   ·grind
   rw[Zf c]at a⊢;by_cases d:(decide ((n.2.2.1[i]).2.1<0) ||decide (36524<(n.2.2.1[i]).2.1))=true
   ·grind
   rw[Zf d]at a⊢;simp only[Vo,Vl]at c d;simp only[c.1,c.2,d.1,d.2,Ze,Za];by_cases e:(decide ((n.2.2.1[i]).2.2.2.2.1<0) ||decide ((n.2.1.length:Int)<=(n.2.2.1[i]).2.2.2.2.1))=true
   ·grind
   rw[Zf e]at a⊢;simp only[Vo,Vl]at e;simp only[e.1,e.2,Ze,Za,g];by_cases o:Ju (n.2.2.1[i]).2.2.2.2.2.2.2.1 (n.1.length:Int) 0 3155932800=0
   ·rw[Zf (by omega)]at a⊢;simp only[o,decide_true,Vc,Ze];by_cases h:∃j,j<i/\runK ((n.2.2.1[j]?).getD u0)=runK n.2.2.1[i]
    ·rw[Zp h];rw[show Ve (ZI (Zj Gw) ((n.2.2.1[i]).2.2.2.1,(n.2.2.1[i]).2.1,(n.2.2.1[i]).2.2.1,()) m) false=true from (k _).2 h];rfl
    grind
   grind
  grind
theorem Zmf(n:Zh){i:Nat}(l:i<n.2.2.1.length)(y:n.2.2.1.length<=9223372036854775807):F127 n (i:Int)=some (J1 n i):=by
 unfold F127 J1;have v:=Kx l u0;simp only[v,ZH l,Za,Zan,Zpq,Hd];by_cases m:Wp (n.2.2.1[i]).2.2.2.1=false
 ·grind
 have f:Wp (n.2.2.1[i]).2.2.2.1=true:=by grind
 rw[Zf m];simp only[f,Vc,Ze];by_cases c:(decide ((n.2.2.1[i]).1< -1) ||decide ((n.2.2.1[i]).2.2.1<0))=true
 ·grind
 rw[Zf c];simp only[Vo,Vl]at c;simp only[c.1,c.2,Ze,Za];by_cases o:(decide ((n.2.2.1[i]).2.1<0) ||decide (36524<(n.2.2.1[i]).2.1))=true
 ·grind
 rw[Zf o]
 have u:0<=(n.2.2.1[i]).2.1/\(n.2.2.1[i]).2.1<=36524:=by
  grind
 simp only[Zd u,Vc,Ze];by_cases d:(decide ((n.2.2.1[i]).2.2.2.2.1<0) ||decide ((n.2.1.length:Int)<=(n.2.2.1[i]).2.2.2.2.1))=true
 ·grind
 rw[Zf d];simp only[Vo,Vl]at d;simp only[d.1,d.2,Ze,Za];by_cases q:Ju (n.2.2.1[i]).2.2.2.2.2.2.2.1 (n.1.length:Int) 0 3155932800=0
 ·rw[Zf (by omega)];simp only[q,decide_true,Vc,Ze]
  have k:=Zb0 (i:=i) (p:=fun j=>runK ((n.2.2.1[j]?).getD u0)=runK n.2.2.1[i]) (τ:=Unit ⊕ Int) (R:=.inr 6) (E:=.inl ()) (step:=fun g:Int=>
   bif decide (g<(i:Int)) then
    Vb (idx n.2.2.1 g) fun h=>
     Vb
      (bif decide (h.snd.snd.snd.fst=(n.2.2.1[i]).snd.snd.snd.fst) then
        bif decide (h.snd.fst=(n.2.2.1[i]).snd.fst) then some (decide (h.snd.snd.fst=(n.2.2.1[i]).snd.snd.fst)) else some false
      else some false)
      fun w=>bif w then some (Sum.inr (Sum.inr (6:Int))) else some (Sum.inl (Va .i64 (g+(1:Int))))
   else some (Sum.inr (Sum.inl ()))) (fun j e a=>?_) (fun j e a=>?_) (by simp)
  ·by_cases x:∃j,j<i/\runK ((n.2.2.1[j]?).getD u0)=runK n.2.2.1[i]
   all_goals simp_all
  ·have b:j<n.2.2.1.length:=by omega
   have a:¬runK n.2.2.1[j]=runK n.2.2.1[i]:=by grind
   simp only[ZU e,Zc,ZH b,Za,Z8 e (by omega)];by_cases r:(n.2.2.1[j]).2.2.2.1=(n.2.2.1[i]).2.2.2.1
   ·rw[Zd r];by_cases s:(n.2.2.1[j]).2.1=(n.2.2.1[i]).2.1
    ·rw[Zd s];have t:¬(n.2.2.1[j]).2.2.1=(n.2.2.1[i]).2.2.1:=fun t=>a (by unfold runK;grind)
     grind
    grind
   grind
  ·have b:j<n.2.2.1.length:=by omega
   have a:runK n.2.2.1[j]=runK n.2.2.1[i]:=by grind
   unfold runK at a;simp only[Vwa,and_true]at a;simp only[ZU e,Zc,ZH b,Za,Zd a.1,Zd a.2.1,Zd a.2.2]
 grind
end Q
namespace Q
open Tr Go Gr
def f0:ZO:=(0,0,0,false,())
def WW(p:ZO):ZO:=(p.1,p.2.1,0,p.2.2.2.1,())
def XY(n:Nat)(p:ZO):Bool:= !decide (0<=p.1/\p.1<(n:Int)) || (!decide (0<=p.2.1/\p.2.1<(n:Int)) ||decide (p.1=p.2.1))
def Yk(p:ZO):Bool:=decide (p.2.2.1<1) ||decide (14400<p.2.2.1)
open Classical in
noncomputable def KZ(n:Nat)(l:List ZO)(i:Nat):Int:=
 if XY n ((l[i]?).getD f0)=true then 9 else if Yk ((l[i]?).getD f0)=true then 2 else if∃j,j<i/\WW ((l[j]?).getD f0)=WW ((l[i]?).getD f0) then 6 else 0
theorem Ds{n:Nat}{l:List ZO}{i:Nat}(h:KZ n l i=0):XY n ((l[i]?).getD f0)=false/\Yk ((l[i]?).getD f0)=false/\ ¬∃j,j<i/\WW ((l[j]?).getD f0)=WW ((l[i]?).getD f0):=by
 unfold KZ at h;by_cases a:XY n ((l[i]?).getD f0)=true
 ·grind
 ·rw[Zf a]at h;by_cases b:Yk ((l[i]?).getD f0)=true
  all_goals simp_all
theorem Zg3{n:Nat}{p:ZO}(h:XY n p=false):(0<=p.1/\p.1<n)/\(0<=p.2.1/\p.2.1<n)/\p.1≠p.2.1:=by
 unfold XY at h
 grind
theorem Zlx{p:ZO}(h:Yk p=false):1<=p.2.2.1/\p.2.2.1<=14400:=by
 unfold Yk at h
 grind
theorem ZdT{n:Nat}{l:List ZO}(h:∀i,i<l.length->KZ n l i=0):YT n l:=by intro p d;obtain⟨i,c,rfl⟩:=Vh d;obtain⟨a,b,_⟩:=Ds (h i c);rw[Kx c]at a b;have:=Zg3 a;have:=Zlx b;omega
theorem ZuV(x:Int)(n:Nat):F101 x (n:Int)=some (decide (0<=x/\x<(n:Int))):=by
 unfold F101
 grind
theorem ZiS(n:Nat)(p:ZO):(Vb (F101 p.1 (n:Int)) fun a=>bif !a then some true else Vb (F101 p.2.1 (n:Int)) fun b=>bif !b then some true else some (decide (p.1=p.2.1)))=some (XY n p):=by
 unfold XY;simp only[ZuV,Za]
 grind
theorem Zo2{n:Nat}(c:n<=9223372036854775807)(p:ZO):(Vb (F122 p.1 0 (Va .i64 ((n:Int) - 1))) fun a=>bif !a then some true else Vb (F122 p.2.1 0 (Va .i64 ((n:Int) - 1))) fun b=>bif !b then some true else some (decide (p.1=p.2.1)))=some (XY n p):=by
 have e:Va .i64 ((n:Int) - 1)=(n:Int) - 1:=Zs (by omega) (by omega);have h:∀x:Int,decide (0<=x/\x<=(n:Int) - 1)=decide (0<=x/\x<(n:Int)):=by grind
 unfold XY;simp only[e,Hd,Za,h]
 grind
theorem ZiT(p:ZO):(bif decide (p.2.2.1<(1:Int)) then some true else some (decide ((14400:Int)<p.2.2.1)))=some (Yk p):=by
 unfold Yk
 grind
theorem Zo3(p:ZO):decide ((1:Int)<=p.2.2.1/\p.2.2.1<=14400)= !Yk p:=by
 unfold Yk
 grind
def sameF(a b:ZO):Bool:=decide (a.1=b.1) && (decide (a.2.1=b.2.1) && (decide (a.2.2.1=b.2.2.1) &&a.2.2.2.1==b.2.2.2.1))
def Dh(c l:List ZO)(i:Nat):Int:=if sameF ((c[i]?).getD f0) ((l[i]?).getD f0) then 0 else 1
def JG(c l:List ZO):Bool:=decide (c.length=l.length) && (Wm c.length (Dh c l)).isNone
theorem Zjm{τ:Type}{c l:List ZO}(h:c.length=l.length)(j:c.length<=9223372036854775807)(R E:τ):run (fun s2:Int=>
              bif decide (s2<(↑(Vj c):Int)) then
               Vb (idx c s2) fun f=>
                Vb (idx l s2) fun g=>
                 bif !(decide (f.fst=g.fst) && (decide (f.snd.fst=g.snd.fst) && (decide (f.snd.snd.fst=g.snd.snd.fst) &&f.snd.snd.snd.fst==g.snd.snd.snd.fst))) then
                  some (Sum.inr R)
                 else some (Sum.inl (Va .i64 (s2+(1:Int))))
              else some (Sum.inr E)) (0:Int)=some (if (Wm c.length (Dh c l)).isNone then E else R):=by
 rw[Xd (n:=c.length) (fun i st=>st=(i:Int)) (Dh c l) (fun _=>R) E ?_ ?_ ?_ (0:Int) rfl]
 ·unfold pick
  grind
 ·rintro i _ b rfl d;have a:i<l.length:=by omega
  refine⟨((i+1:Nat):Int),?_,rfl⟩;unfold Dh at d;rw[Kx b,Kx a]at d
  have e:sameF c[i] l[i]=true:=by
   grind
  unfold sameF at e;simp only[ZU b,Zc,ZH b,ZH a,Za,e,Vc,Ze,Z8 b j]
 ·rintro i _ b rfl d;have a:i<l.length:=by omega
  unfold Dh at d;rw[Kx b,Kx a]at d
  have e:sameF c[i] l[i]=false:=by
   grind
  unfold sameF at e;simp only[ZU b,Zc,ZH b,ZH a,Za,e,Vq]
 simp
theorem ZtY{n:Nat}{l:List ZO}(u:l.length<=4096)(h:∀i,i<l.length->KZ n l i=0):F60 l (n:Int)=some (0,0):=by
 unfold F60
 have b:∀i (_:i<l.length),¬∃j,j<i/\(fun j=>(((l[j]?).getD f0).1,((l[j]?).getD f0).2.1,((l[j]?).getD f0).2.2.2.1,())) j=(((l[i]?).getD f0).1,((l[i]?).getD f0).2.1,((l[i]?).getD f0).2.2.2.1,()):=by
  rintro i a ⟨j,o,k⟩;refine(Ds (h i a)).2.2 ⟨j,o,?_⟩;simp only[Vwa,and_true]at k;unfold WW
  grind
 rw[Xd (n:=l.length) (fun i st=>∃m,st=(m,(i:Int))/\WP (t:=X6) (fun j=>(((l[j]?).getD f0).1,((l[j]?).getD f0).2.1,((l[j]?).getD f0).2.2.2.1,())) i m) (KZ n l) (fun i=>.inr ((i:Int),KZ n l i)) (.inl ()) ?_ ?_ ?_ ([],(0:Int)) ⟨[],rfl,WP.nil _⟩]
 ·unfold pick;rw[ZdN h];rfl
 ·rintro i _ a ⟨m,rfl,e⟩ g;have p:=Kx a f0;have v:=DD e (b i a);obtain⟨c,d,_⟩:=Ds g;rw[p]at c d;obtain⟨q,r,f⟩:=Zg3 c;have s:=Zlx d;refine⟨(ZZ (Zj X6) ((l[i]).1,(l[i]).2.1,(l[i]).2.2.2.1,()) true m,((i+1:Nat):Int)),?_,_,rfl,?_⟩
  ·simp only[ZU a,Zc,ZH a,Za,show decide ((l[i]).1<0)=false from (by grind),show decide ((n:Int)<=(l[i]).1)=false from (by grind),show decide ((l[i]).2.1<0)=false from (by grind),
    show decide ((n:Int)<=(l[i]).2.1)=false from (by grind),Zk f,Ze,show decide ((l[i]).2.2.1<1)=false from (by grind),show decide ((14400:Int)<(l[i]).2.2.1)=false from (by grind),Z8 a (by omega)]
   grind
  ·have:=WP.add (t:=X6) rfl e
   grind
 all_goals grind
theorem Zrc{n:Nat}(g:n<=64){l:List ZO}(b:l.length<=4096)(h:∀i,i<l.length->KZ n l i=0):∃c,F116 l (n:Int)=some c/\c.length<=8192/\F55 l (n:Int)=some (JG c l):=by
 obtain⟨c,d,e,f⟩:=ZdA g (ZdT h) b;refine⟨c,e,f,?_⟩;unfold F55 JG;rw[ZtY b h]
 have em:Tr.imax (n:Int) 0=(n:Int):=by rfl
 simp only[show decide ((64:Int)<(n:Int))=false from (by grind),Ze,Za,decide_true,Vc,em];rw[d];simp only[Za];by_cases a:c.length=l.length
 ·rw[Zd (by omega),Zd a];simp only[Vc,Ze,Vfa];rw[Zjm a (by omega) _ _]
  grind
 grind
theorem Zss(n:Zh)(J:n.1.length<=64)(I:n.2.2.2.2.1.length<=4096):∃c,((∀i,i<n.2.2.2.2.1.length->KZ n.1.length n.2.2.2.2.1 i=0)->F116 n.2.2.2.2.1 (n.1.length:Int)=some c)/\F89 n=some (match Wm n.2.2.2.2.1.length (KZ n.1.length n.2.2.2.2.1) with
 |some i=>(4,(i:Int),KZ n.1.length n.2.2.2.2.1 i,())
 |none=>if JG c n.2.2.2.2.1 then(0,0,0,()) else(4,0,18,()))/\
 F125 n=some (match Wm n.2.2.2.2.1.length (KZ n.1.length n.2.2.2.2.1) with
  |some i=>((i:Int),KZ n.1.length n.2.2.2.2.1 i)
  |none=>if JG c n.2.2.2.2.1 then(0,0) else(0,18)):=by
 have x:n.2.2.2.2.1.length<=9223372036854775807:=by omega
 have code:run (fun s0:(Int×Int×Int×Unit) ×List (ZO×Bool) ×Int=>
       bif decide (s0.snd.snd<(↑(Vj n.snd.snd.snd.snd.fst):Int)) then
        Vb (idx n.snd.snd.snd.snd.fst s0.snd.snd) fun e=>
         Vb
          (Vb (F101 e.fst (↑(Vj n.fst):Int)) fun K=>
            bif !K then some true
            else Vb (F101 e.snd.fst (↑(Vj n.fst):Int)) fun L=>bif !L then some true else some (decide (e.fst=e.snd.fst)))
          fun M=>
          bif M then Vb (F100 (4:Int) s0.snd.snd (9:Int)) fun N=>some (Sum.inr (Sum.inr N))
          else
           Vb (bif decide (e.snd.snd.fst<(1:Int)) then some true else some (decide ((14400:Int)<e.snd.snd.fst))) fun O=>
            bif O then Vb (F100 (4:Int) s0.snd.snd (2:Int)) fun l=>some (Sum.inr (Sum.inr l))
            else
             bif Ve (ZI (Zj ZJ) (e.fst,e.snd.fst,(0:Int),e.snd.snd.snd.fst,()) s0.snd.fst) (false) then
              Vb (F100 (4:Int) s0.snd.snd (6:Int)) fun y=>some (Sum.inr (Sum.inr y))
             else
              some
               (Sum.inl
                 (s0.fst,ZZ (Zj ZJ) (e.fst,e.snd.fst,(0:Int),e.snd.snd.snd.fst,()) true s0.snd.fst,Va .i64 (s0.snd.snd+(1:Int))))
       else some (Sum.inr (Sum.inl s0.fst)))
  (((0:Int),(0:Int),(0:Int),()),[],(0:Int))=some (pick n.2.2.2.2.1.length (KZ n.1.length n.2.2.2.2.1) (fun i=>.inr (4,(i:Int),KZ n.1.length n.2.2.2.2.1 i,())) (.inl (0,0,0,()))):=by
  refine Xd (n:=n.2.2.2.2.1.length) (fun i st=>∃m,st=((0,0,0,()),m,(i:Int))/\WP (t:=ZJ) (fun j=>WW ((n.2.2.2.2.1[j]?).getD f0)) i m) (KZ n.1.length n.2.2.2.2.1) _ _ ?_ ?_ ?_ _ ⟨[],rfl,WP.nil _⟩
  ·rintro i _ a ⟨m,rfl,z⟩ h;have u:=Kx a f0;obtain⟨d,f,o⟩:=Ds h;have D:=DD z o;rw[u]at d f D;refine⟨((0,0,0,()),ZZ (Zj ZJ) (WW n.2.2.2.2.1[i]) true m,((i+1:Nat):Int)),?_,_,rfl,?_⟩
   ·simp only[ZU a,Zc,ZH a,Za,Z8 a x];rw[ZiS,ZiT];simp only[Za,d,f,Ze];rw[show Ve (ZI (Zj ZJ) ((n.2.2.2.2.1[i]).1,(n.2.2.2.2.1[i]).2.1,(0:Int),(n.2.2.2.2.1[i]).2.2.2.1,()) m) false=false from D];rfl
   ·have:=WP.add (t:=ZJ) rfl z
    grind
  ·rintro i _ a ⟨m,rfl,z⟩ h;have u:=Kx a f0;simp only[ZU a,Zc,ZH a,Za];rw[ZiS,ZiT];simp only[Za];unfold KZ at h⊢;rw[u]at h;simp only[u];by_cases d:XY n.1.length n.2.2.2.2.1[i]=true
   ·rw[Zp d,d];rfl
   rw[Zf d]at h⊢;have q:XY n.1.length n.2.2.2.2.1[i]=false:=by grind
   simp only[q,Ze];by_cases f:Yk n.2.2.2.2.1[i]=true
   ·rw[Zp f,f];rfl
   rw[Zf f]at h⊢;have r:Yk n.2.2.2.2.1[i]=false:=by grind
   simp only[r,Ze];by_cases o:∃j,j<i/\WW ((n.2.2.2.2.1[j]?).getD f0)=WW n.2.2.2.2.1[i]
   ·rw[Zp o];rw[show Ve (ZI (Zj ZJ) ((n.2.2.2.2.1[i]).1,(n.2.2.2.2.1[i]).2.1,(0:Int),(n.2.2.2.2.1[i]).2.2.2.1,()) m) false=true from (z _).2 o];rfl
   grind
  grind
 have C:∀i (a:i<n.2.2.2.2.1.length) (τ:Type) (R E:τ),((∃j,j<i/\WW ((n.2.2.2.2.1[j]?).getD f0)=WW n.2.2.2.2.1[i])->run (fun s:Int=>
               bif decide (s<(i:Int)) then
                Vb (idx n.snd.snd.snd.snd.fst s) fun l=>
                 Vb
                  (bif decide (l.fst=(n.2.2.2.2.1[i]).fst) then
                    bif decide (l.snd.fst=(n.2.2.2.2.1[i]).snd.fst) then some (l.snd.snd.snd.fst== (n.2.2.2.2.1[i]).snd.snd.snd.fst) else some false
                  else some false)
                  fun y=>bif y then some (Sum.inr R) else some (Sum.inl (Va .i64 (s+(1:Int))))
               else some (Sum.inr E)) (0:Int)=some R)/\((¬∃j,j<i/\WW ((n.2.2.2.2.1[j]?).getD f0)=WW n.2.2.2.2.1[i])->run (fun s:Int=>
               bif decide (s<(i:Int)) then
                Vb (idx n.snd.snd.snd.snd.fst s) fun l=>
                 Vb
                  (bif decide (l.fst=(n.2.2.2.2.1[i]).fst) then
                    bif decide (l.snd.fst=(n.2.2.2.2.1[i]).snd.fst) then some (l.snd.snd.snd.fst== (n.2.2.2.2.1[i]).snd.snd.snd.fst) else some false
                  else some false)
                  fun y=>bif y then some (Sum.inr R) else some (Sum.inl (Va .i64 (s+(1:Int))))
               else some (Sum.inr E)) (0:Int)=some E):=by
  intro i a τ R E;refine Zb0 (p:=fun j=>WW ((n.2.2.2.2.1[j]?).getD f0)=WW n.2.2.2.2.1[i]) (fun j B k=>?_) (fun j B k=>?_) (by simp)
  ·have g:j<n.2.2.2.2.1.length:=by omega
   rw[Kx g f0]at k;simp only[ZU B,Zc,ZH g,Za,Z8 B (by omega)];by_cases F:(n.2.2.2.2.1[j]).1=(n.2.2.2.2.1[i]).1
   ·rw[Zd F];by_cases G:(n.2.2.2.2.1[j]).2.1=(n.2.2.2.2.1[i]).2.1
    ·rw[Zd G]
     have H:((n.2.2.2.2.1[j]).2.2.2.1== (n.2.2.2.2.1[i]).2.2.2.1)=false:=by
      cases A:((n.2.2.2.2.1[j]).2.2.2.1== (n.2.2.2.2.1[i]).2.2.2.1) with
      |false=>rfl
      |true=>exact absurd (by unfold WW;grind) k
     grind
    grind
   grind
  ·have g:j<n.2.2.2.2.1.length:=by omega
   rw[Kx g f0]at k;unfold WW at k;simp only[Vwa,and_true,true_and]at k;have H:((n.2.2.2.2.1[j]).2.2.2.1== (n.2.2.2.2.1[i]).2.2.2.1)=true:=beq_iff_eq.2 k.2.2;simp only[ZU B,Zc,ZH g,Za,Zd k.1,Zd k.2.1]
   grind
 have b:∀(step:Int->Option (Int ⊕ (Unit ⊕ (Int×Int)))),(∀i,i<n.2.2.2.2.1.length->step (i:Int)=if KZ n.1.length n.2.2.2.2.1 i=0 then some (.inl ((i+1:Nat):Int)) else some (.inr (.inr ((i:Int),KZ n.1.length n.2.2.2.2.1 i))))->step (n.2.2.2.2.1.length:Int)=some (.inr (.inl ()))->
  run step (0:Int)=some (pick n.2.2.2.2.1.length (KZ n.1.length n.2.2.2.2.1) (fun i=>.inr ((i:Int),KZ n.1.length n.2.2.2.2.1 i)) (.inl ())):=by
  intro step d f;refine Xd (fun i st=>st=(i:Int)) _ _ _ ?_ ?_ ?_ _ rfl
  all_goals grind
 have key:∀c,(∀(_:∀i,i<n.2.2.2.2.1.length->KZ n.1.length n.2.2.2.2.1 i=0),F116 n.2.2.2.2.1 (n.1.length:Int)=some c/\c.length<=8192/\F55 n.2.2.2.2.1 (n.1.length:Int)=some (JG c n.2.2.2.2.1))->
  F89 n=some (match Wm n.2.2.2.2.1.length (KZ n.1.length n.2.2.2.2.1) with
  |some i=>(4,(i:Int),KZ n.1.length n.2.2.2.2.1 i,())
  |none=>if JG c n.2.2.2.2.1 then(0,0,0,()) else(4,0,18,()))/\
  F125 n=some (match Wm n.2.2.2.2.1.length (KZ n.1.length n.2.2.2.2.1) with
   |some i=>((i:Int),KZ n.1.length n.2.2.2.2.1 i)
   |none=>if JG c n.2.2.2.2.1 then(0,0) else(0,18)):=by
  intro c h;constructor
  ·unfold F89;rw[show run _ _=some _ from code];unfold pick;simp only[Za]
   cases A:Wm n.2.2.2.2.1.length (KZ n.1.length n.2.2.2.2.1) with
   |some i=>rfl
   |none=>
    obtain⟨_,_,o⟩:=h (K6.1 A);simp only[Vk];rw[o]
    cases JG c n.2.2.2.2.1<;>rfl
  ·unfold F125;rw[b _ (fun i a=>?_) (by simp)]
   ·unfold pick;simp only[Za]
    cases A:Wm n.2.2.2.2.1.length (KZ n.1.length n.2.2.2.2.1) with
    |some i=>rfl
    |none=>
     obtain⟨d,f,_⟩:=h (K6.1 A);simp only[Vk];rw[d];simp only[Za];unfold JG;by_cases w:c.length=n.2.2.2.2.1.length
     ·rw[Zd (by omega),Zd w];simp only[Vc,Ze,Vfa];rw[Zjm w (by omega) _ _]
      grind
     grind
   ·have u:=Kx a f0;simp only[ZU a,Zc,ZH a,Za,Z8 a x];rw[Zo2 (by omega),Hd,Zo3];simp only[Za];unfold KZ;rw[u];by_cases d:XY n.1.length n.2.2.2.2.1[i]=true
    ·grind
    have q:XY n.1.length n.2.2.2.2.1[i]=false:=by grind
    rw[Zf d,q];simp only[Ze];by_cases f:Yk n.2.2.2.2.1[i]=true
    ·grind
    have r:Yk n.2.2.2.2.1[i]=false:=by grind
    rw[Zf f,r];simp only[Vq,Vc,Ze];by_cases o:∃j,j<i/\WW ((n.2.2.2.2.1[j]?).getD f0)=WW n.2.2.2.2.1[i]
    all_goals simp [*]
 by_cases v:∀i,i<n.2.2.2.2.1.length->KZ n.1.length n.2.2.2.2.1 i=0
 ·obtain⟨c,d,f,o⟩:=Zrc J I v
  grind
 grind
end Q
namespace Q
open Tr Go
def Kn(f:Int->Option Int)(a:Int):Nat->Option Int
 |0=>some a
 |k+1=>(f a).bind fun b=>Kn f b k
inductive J3 (f:Int->Option Int):Int->Prop
 |stop {a:Int} :f a=none->J3 f a
 |step {a b:Int} :f a=some b->J3 f b->J3 f a
theorem J3.next{f:Int->Option Int}{a b:Int}(h:J3 f a)(e:f a=some b):J3 f b:=by
 cases h with
 |stop c=>grind
 |step c d=>grind
theorem Zlp(f:Int->Option Int):∀(k:Nat) (a:Int),Kn f a (k+1)=(Kn f a k).bind f
 |0,a=>by
  show (f a).bind (fun b=>some b)=f a
  simp
 |k+1,a=>by
  show (f a).bind (fun b=>Kn f b (k+1))=((f a).bind fun b=>Kn f b k).bind f
  cases h:f a with
  |none=>rfl
  |some b=>exact Zlp f k b
theorem Zk8{f:Int->Option Int}{a:Int}(h:J3 f a):∀k,Kn f a (k+1)≠some a:=by
 induction h with
 |stop c=>intro k d;simp [Kn,c]at d
 | @step a b c i g=>
   intro k d;have e:Kn f b k=some a:=by simpa [Kn,c] using d
   refine g k ?_;rw[Zlp,e]
   grind
theorem few:∀(i:Nat) (l:List Nat),l.Nodup->(∀j∈l,j<i)->l.length<=i
 |0,l,_,h=>by
  cases l with
  |nil=>simp
  |cons a t=>exact absurd (h a (by simp)) (by omega)
 |i+1,l,b,h=>by
  have c:=few i (l.erase i) (b.erase i) (by grind)
  grind
def nx(from_ to_:Nat->Int)(st:Nat->Bool):Nat->Int->Option Int
 |0,_=>none
 |i+1,a=>if st i=true/\from_ i=a then some (to_ i) else nx from_ to_ st i a
variable {from_ to_:Nat->Int}{st:Nat->Bool}
theorem Za5:∀{i:Nat}{a b:Int},nx from_ to_ st i a=some b->∃j,j<i/\st j=true/\from_ j=a/\to_ j=b
 |0,a,b,h=>by cases h
 |i+1,a,b,h=>by
  unfold nx at h;split at h
  ·grind
  ·obtain⟨j,c,d⟩:=Za5 h
   grind
theorem ZgV:∀{i:Nat}{a:Int},nx from_ to_ st i a=none->∀j,j<i->st j=true->from_ j≠a
 |0,a,_,j,b,_=>by omega
 |i+1,a,h,j,b,d=>by
  unfold nx at h;split at h
  ·cases h
  ·next e=>
   by_cases c:j=i
   ·grind
   ·exact ZgV h j (by omega) d
theorem Zlz{i:Nat} :∀(k:Nat) (a c:Int),J3 (nx from_ to_ st i) a->Kn (nx from_ to_ st i) a k=some c->
 ∃l:List Nat,l.length=k/\l.Nodup/\ ∀j∈l,j<i/\ ∃t,Kn (nx from_ to_ st i) a t=some (from_ j)
 |0,_,_,_,_=>⟨[],rfl,List.nodup_nil,by simp⟩
 |k+1,a,c,p,h=>by
  cases d:nx from_ to_ st i a with
  |none=>simp [Kn,d]at h
  |some b=>
   have q:Kn (nx from_ to_ st i) b k=some c:=by simpa [Kn,d] using h
   obtain⟨l,y,r,o⟩:=Zlz k b c (p.next d) q
   obtain⟨j,g,u,e,v⟩:=Za5 d;refine⟨j::l,by grind,List.nodup_cons.2 ⟨fun w=>?_,r⟩,fun x m=>?_⟩
   ·obtain⟨_,t,f⟩:=o j w;rw[e]at f;refine Zk8 p t ?_;simpa [Kn,d] using f
   ·rcases Vua.1 m with rfl|m
    ·exact⟨g,0,by rw[e];rfl⟩
    ·obtain⟨s,t,f⟩:=o x m;exact⟨s,t+1,by simpa [Kn,d] using f⟩
theorem Zsr{i k:Nat}{a c:Int}(d:J3 (nx from_ to_ st i) a)(h:Kn (nx from_ to_ st i) a k=some c):k<=i:=by obtain⟨l,e,b,f⟩:=Zlz k a c d h;have:=few i l b (by grind);omega
theorem Zqn{f g:Int->Option Int}{fr:Int}(m:∀a,a≠fr->g a=f a){a:Int}(h:J3 f a)(c:∀k,Kn f a k≠some fr):J3 g a:=by
 induction h with
 | @stop a d=>
   have:a≠fr:=fun e=>c 0 (by rw[e];rfl)
   exact .stop (by grind)
 | @step a b d l j=>
   have:a≠fr:=fun e=>c 0 (by rw[e];rfl);refine .step (by grind) (j fun k i=>c (k+1) ?_);simpa [Kn,d] using i
theorem Zqm{f g:Int->Option Int}{fr to:Int}(l:∀a,a≠fr->g a=f a)(c:g fr=some to)(d:J3 g to){a:Int}(h:J3 f a):J3 g a:=by
 induction h with
 | @stop a i=>
   by_cases e:a=fr
   ·subst e;exact .step c d
   ·exact .stop (by grind)
 | @step a b i k j=>
   by_cases e:a=fr
   ·subst e;exact .step c d
   ·exact .step (by grind) j
theorem Zqo{i:Nat}(h:∀a,J3 (nx from_ to_ st i) a)(f:st i=true->to_ i≠from_ i/\ ∀k,Kn (nx from_ to_ st i) (to_ i) (k+1)≠some (from_ i))(a:Int):J3 (nx from_ to_ st (i+1)) a:=by
 by_cases c:st i=true
 ·obtain⟨d,g⟩:=f c;have b:∀a,a≠from_ i->nx from_ to_ st (i+1) a=nx from_ to_ st i a:=fun a j=>Zf (by omega);refine Zqm b (Zp ⟨c,rfl⟩) (Zqn b (h _) fun k=>?_) (h a)
  cases k with
  |zero=>exact fun e=>d (Option.some.inj e)
  |succ k=>grind
 ·have:nx from_ to_ st (i+1)=nx from_ to_ st i:=funext fun a=>Zf (by grind)
  grind
theorem Zqp(a:Int):J3 (nx from_ to_ st 0) a:=.stop rfl
theorem Zrv{f:Int->Option Int}{m:List (Int×Int)}(j:∀a,ZI (Zj Y3) a m=f a){a fr:Int}(e:J3 f a):F99 m a fr=some (m, @decide (∃k,Kn f a (k+1)=some fr) (Classical.propDecidable _)):=by
 classical
 unfold F99
 have key:∀a,J3 f a->run (fun s0:Int×Bool=>
       bif s0.snd then
        bif decide (s0.fst=fr) then some (Sum.inr (Sum.inr true))
        else some (Sum.inl (Ve (ZI (Zj Y3) s0.fst m) ((0:Int)),Vja (ZI (Zj Y3) s0.fst m)))
       else some (Sum.inr (Sum.inl ())))
  (Ve (ZI (Zj Y3) a m) ((0:Int)),Vja (ZI (Zj Y3) a m))=some (if∃k,Kn f a (k+1)=some fr then Sum.inr true else Sum.inl ()):=by
  intro a e
  induction e with
  | @stop a c=>
    rw[j a,c,Zf (by rintro ⟨k,d⟩;simp [Kn,c]at d)]
    rfl
  | @step a b c o l=>
    rw[j a,c];by_cases g:b=fr
    ·rw[Zp ⟨0,by simp [Kn,c,g]⟩];exact Ym (by grind)
    ·rw[HT (s' :=(Ve (ZI (Zj Y3) b m) ((0:Int)),Vja (ZI (Zj Y3) b m))) (by grind),l]
     have i:(∃k,Kn f b (k+1)=some fr)↔∃k,Kn f a (k+1)=some fr:=by
      refine⟨fun⟨k,d⟩=>⟨k+1,by simpa [Kn,c] using d⟩,fun⟨k,d⟩=>?_⟩
      cases k with
      |zero=>exact absurd (by simpa [Kn,c] using d) g
      |succ k=>exact⟨k,by simpa [Kn,c] using d⟩
     simp_all
 refine(congrArg (Vb · _) (key a e)).trans ?_;by_cases h:∃k,Kn f a (k+1)=some fr
 all_goals grind
end Q
namespace Q
open Tr Go
theorem Zmq{σ τ:Type}{step:σ->Option (σ ⊕ τ)}{n:Nat}(a:Nat->σ->Prop)(chk:Nat->Int)(R:Nat->τ)(E:τ)
 (b:∀i s,i<n->(∀j,j<i->chk j=0)->a i s->(chk i=0/\ ∃s',step s=some (.inl s')/\a (i+1) s')\/(chk i≠0/\step s=some (.inr (R i))))
 (c:∀s,a n s->step s=some (.inr E)) (s:σ) (d:a 0 s):run step s=some (pick n chk R E):=by
 refine Xd (fun i s=>a i s/\ ∀j,j<i->chk j=0) chk R E ?_ ?_ (by grind) s (by grind)
 all_goals grind
def l0:XC:=(0,0,0,0,false,())
def lk(n:Zh)(j:Nat):XC:=(n.2.2.2.1[j]?).getD l0
def rn(n:Zh)(a:Int):Xi:=(n.2.2.1[a.toNat]?).getD u0
def cl(l:List KK)(a:Int):KK:=(l[a.toNat]?).getD c0
def Kh(x:Int)(m:Nat):Bool:=decide (0<=x) &&decide (x<(m:Int))
def K2(n:Zh)(i:Nat):Int->Option Int:=nx (fun j=>(lk n j).1) (fun j=>(lk n j).2.2.1) (fun j=>(lk n j).2.2.2.2.1) i
abbrev Zh5:=List Int
def JZ(x:XC):Zh5:=[x.1,x.2.1,x.2.2.1,x.2.2.2.1]
theorem ZuU(x:Int)(m:Nat):F101 x (m:Int)=some (Kh x m):=by
 unfold F101 Kh
 grind
theorem J9{α:Type}{l:List α}{x:Int}(h:Kh x l.length=true)(d:α):idx l x=some ((l[x.toNat]?).getD d):=by
 unfold Kh at h;simp only[Vn,KQ]at h;have e:x=(x.toNat:Int):=by omega
 have a:x.toNat<l.length:=by omega
 rw[e,ZH a,Vs,Kx a]
def X9(n:Zh)(x:XC):Bool:= !Kh x.1 n.2.2.1.length|| (!Kh x.2.2.1 n.2.2.1.length||decide (x.1=x.2.2.1))
def Y5(n:Zh)(x:XC):Bool:= !Kh x.2.1 (rn n x.1).2.2.2.2.2.2.2.1.length|| !Kh x.2.2.2.1 (rn n x.2.2.1).2.2.2.2.2.2.2.1.length
open Classical in
noncomputable def WD(n:Zh)(i:Nat):Int:=
 let x:=lk n i
 if X9 n x=true then 9 else if Y5 n x=true then 9
 else if¬(cl (rn n x.1).2.2.2.2.2.2.2.1 x.2.1).1=(cl (rn n x.2.2.1).2.2.2.2.2.2.2.1 x.2.2.2.1).1 then 13
 else if x.2.2.2.2.1=true/\ ¬x.2.1+1=((rn n x.1).2.2.2.2.2.2.2.1.length:Int) then 19
 else if x.2.2.2.2.1=true/\ ¬x.2.2.2.1=0 then 19
 else if x.2.2.2.2.1=true/\ ∃j,j<i/\(lk n j).2.2.2.2.1=true/\((lk n j).1=x.1\/(lk n j).2.2.1=x.2.2.1) then 19
 else if x.2.2.2.2.1=true/\ ∃k,Kn (K2 n i) x.2.2.1 (k+1)=some x.1 then 19
 else if∃j,j<i/\JZ (lk n j)=JZ x then 6 else 0
theorem R7{n:Zh}{i:Nat}(h:WD n i=0):X9 n (lk n i)=false/\Y5 n (lk n i)=false/\((lk n i).2.2.2.2.1=true->
 (¬∃j,j<i/\(lk n j).2.2.2.2.1=true/\((lk n j).1=(lk n i).1\/(lk n j).2.2.1=(lk n i).2.2.1))/\ ¬∃k,Kn (K2 n i) (lk n i).2.2.1 (k+1)=some (lk n i).1):=by
 unfold WD at h;simp only at h;by_cases a:X9 n (lk n i)=true
 ·grind
 rw[Zf a]at h;by_cases b:Y5 n (lk n i)=true
 ·grind
 rw[Zf b]at h;refine⟨by grind,by grind,fun c=>?_⟩
 repeat (split at h; · omega)
 grind
theorem ZdI{n:Zh} :∀{i:Nat},(∀j,j<i->WD n j=0)->∀a,J3 (K2 n i) a
 |0,_,a=>Zqp a
 |i+1,h,a=>by
  obtain⟨b,_,c⟩:=R7 (h i (by omega));refine Zqo (ZdI (by grind)) (fun f=>⟨fun e=>?_,fun k d=>(c f).2 ⟨k,d⟩⟩) a;unfold X9 at b
  grind
theorem ZqU{n:Zh}{j:Nat}(h:WD n j=0):0<=(lk n j).1:=by
 obtain⟨a,_⟩:=R7 h;unfold X9 Kh at a
 grind
end Q
namespace Q
open Tr Go
noncomputable def Zeb(n:Zh):Int×Int×Int×Unit:=if 1024<n.2.2.2.1.length then(3,0,5,()) else pick n.2.2.2.1.length (WD n) (fun i=>(3,(i:Int),WD n i,())) (0,0,0,())
theorem Zag{n:Zh}{a:Int}(h:Kh a n.2.2.1.length=true):rn n a∈n.2.2.1:=by
 unfold Kh at h;simp only[Vn,KQ]at h;have b:a.toNat<n.2.2.1.length:=by omega
 unfold rn
 grind
def LSt(n:Zh)(i:Nat)(s:(Int×Int×Int×Unit) ×List (Int×Int) ×List (Int×Bool) ×List (Zh5×Bool) ×Int):Prop:=
 ∃d c e,s=((0,0,0,()),d,c,e,(i:Int))/\(∀a,ZI (Zj Y3) a d=K2 n i a)/\(∀b,Ve (ZI (Zj Y3) b c) false=true↔∃j,j<i/\(lk n j).2.2.2.2.1=true/\(lk n j).2.2.1=b)
  /\WP (t:=Xl) (fun j=>JZ (lk n j)) i e
theorem Zlb{n:Zh}{i:Nat}{a:Int} :(K2 n i a).isSome=true↔∃j,j<i/\(lk n j).2.2.2.2.1=true/\(lk n j).1=a:=by
 cases h:K2 n i a with
 |none=>
  refine⟨by simp,fun⟨j,c,d,e⟩=>absurd e (ZgV h j c d)⟩
 |some b=>
  obtain⟨j,c,d,e,_⟩:=Za5 h
  grind
theorem ZrN(n:Zh)(P:∀x∈n.2.2.1,x.2.2.2.2.2.2.2.1.length<=9223372036854775807):F88 n=some (Zeb n):=by
 unfold F88 Zeb F100;by_cases u:1024<n.2.2.2.1.length
 ·grind
 rw[Zf u,Zk (by omega)];simp only[Ze];have C:n.2.2.2.1.length<=9223372036854775807:=by omega
 rw[Zmq (n:=n.2.2.2.1.length) (LSt n) (WD n) (fun i=>.inr (3,(i:Int),WD n i,())) (.inl (0,0,0,())) ?_ ?_ ((0,0,0,()),[],[],[],(0:Int))
  ⟨[],[],[],rfl,fun _=>rfl,fun b=>⟨fun h=>(nomatch h),by omega⟩,WP.nil _⟩]
 ·unfold pick
  grind
 ·rintro i _ q R ⟨A,s,f,rfl,v,W,m⟩;have U:n.2.2.2.1[i]=lk n i:=(Kx q l0).symm;simp only[ZU q,Zc,ZH q,Za,U,ZuU];have c:WD n i=WD n i:=rfl
  conv at c=>rhs;unfold WD
  simp only at c;generalize E:lk n i=x at c⊢;by_cases g:X9 n x=true
  ·rw[Zp g]at c;refine .inr ⟨by omega,?_⟩;rw[c];unfold X9 at g
   grind
  rw[Zf g]at c;unfold X9 at g;simp only[Vo,Vl,Vca]at g;obtain⟨B,F,V⟩:=g;have L:idx n.2.2.1 x.1=some (rn n x.1):=J9 B u0;have M:idx n.2.2.1 x.2.2.1=some (rn n x.2.2.1):=J9 F u0;simp only[B,F,V,Vc,Ze,Za,L,M];by_cases l:Y5 n x=true
  ·rw[Zp l]at c;refine .inr ⟨by omega,?_⟩;rw[c];unfold Y5 at l
   grind
  rw[Zf l]at c;unfold Y5 at l;simp only[Vo,Vl,Vca]at l;obtain⟨w,G⟩:=l;have N:idx (rn n x.1).2.2.2.2.2.2.2.1 x.2.1=some (cl (rn n x.1).2.2.2.2.2.2.2.1 x.2.1):=J9 w c0;have O:idx (rn n x.2.2.1).2.2.2.2.2.2.2.1 x.2.2.2.1=some (cl (rn n x.2.2.1).2.2.2.2.2.2.2.1 x.2.2.2.1):=J9 G c0;simp only[w,G,Vc,Ze,Za,N,O];by_cases H:(cl (rn n x.1).2.2.2.2.2.2.2.1 x.2.1).1=(cl (rn n x.2.2.1).2.2.2.2.2.2.2.1 x.2.2.2.1).1
  case neg=>
   grind
  rw[Zf (by omega)]at c;simp only[Zd H,Vc,Ze];by_cases D:x.2.2.2.2.1=true
  ·simp only[D,true_and,Zc]at c⊢
   have T:Va .i64 (x.2.1+1)=x.2.1+1:=by have z:=P _ (Zag B);unfold Kh at w;simp only[Vn,KQ]at w;exact Zs (by omega) (by omega)
   rw[T];by_cases I:x.2.1+1=((rn n x.1).2.2.2.2.2.2.2.1.length:Int)
   case neg=>
    grind
   rw[Zf (by omega)]at c;simp only[Zd I,Vc,Ze];by_cases J:x.2.2.2.1=0
   case neg=>
    grind
   rw[Zf (by omega)]at c;simp only[Zd J,Vc,Ze,v,Zrv v (ZdI R x.2.2.1),Za];by_cases y:∃j,j<i/\(lk n j).2.2.2.2.1=true/\((lk n j).1=x.1\/(lk n j).2.2.1=x.2.2.1)
   ·rw[Zp y]at c;refine .inr ⟨by omega,?_⟩;rw[c];by_cases e:(K2 n i x.1).isSome=true
    ·grind
    ·have o:Ve (ZI (Zj Y3) x.2.2.1 s) false=true:=by
      obtain⟨j,u,z,p⟩:=y;rcases p with p|p
      ·exact absurd (Zlb.2 ⟨j,u,z,p⟩) e
      grind
     grind
   rw[Zf y]at c
   have e:(K2 n i x.1).isSome=false:=by
    cases S:(K2 n i x.1).isSome with
    |false=>rfl
    |true=>obtain⟨j,u,z,p⟩:=Zlb.1 S;grind
   have o:Ve (ZI (Zj Y3) x.2.2.1 s) false=false:=by
    grind
   simp only[e,o,Ze];by_cases K:∃k,Kn (K2 n i) x.2.2.1 (k+1)=some x.1
   ·grind
   rw[Zf (by grind)]at c;simp only[@decide_eq_false _ (Classical.propDecidable _) K,Ze];by_cases d:∃j,j<i/\JZ (lk n j)=JZ x
   ·rw[Zp d]at c;refine .inr ⟨by omega,?_⟩;rw[c];rw[show Ve (ZI (Zj Xl) [x.1,x.2.1,x.2.2.1,x.2.2.2.1] f) false=true from (m _).2 d];rfl
   rw[Zf d]at c;refine .inl ⟨c,_,?_,ZZ (Zj Y3) x.1 x.2.2.1 A,ZZ (Zj Y3) x.2.2.1 true s,ZZ (Zj Xl) (JZ x) true f,rfl,?_,?_,?_⟩
   ·rw[show Ve (ZI (Zj Xl) [x.1,x.2.1,x.2.2.1,x.2.2.2.1] f) false=false from DD m d];simp only[Ze,Z8 q C];rfl
   ·intro a;rw[Gy rfl,v];show _=nx _ _ _ (i+1) a;unfold nx;simp only[E,D,true_and];by_cases Q:a=x.1
    ·grind
    ·rw[Zf Q,Zf (by grind)];rfl
   ·intro b;rw[Gy rfl]
    grind
   ·have:=WP.add (t:=Xl) rfl m
    grind
  ·have r:x.2.2.2.2.1=false:=by grind
   simp only[r,Vga,false_and,if_false,Ze]at c⊢;by_cases d:∃j,j<i/\JZ (lk n j)=JZ x
   ·rw[Zp d]at c;refine .inr ⟨by omega,?_⟩;rw[c];rw[show Ve (ZI (Zj Xl) [x.1,x.2.1,x.2.2.1,x.2.2.2.1] f) false=true from (m _).2 d];rfl
   rw[Zf d]at c;refine .inl ⟨c,_,?_,A,s,ZZ (Zj Xl) (JZ x) true f,rfl,?_,?_,?_⟩
   ·rw[show Ve (ZI (Zj Xl) [x.1,x.2.1,x.2.2.1,x.2.2.2.1] f) false=false from DD m d];simp only[Ze,Z8 q C];rfl
   ·intro a;rw[v];show _=nx _ _ _ (i+1) a;unfold nx;simp only[E,r,Vga,false_and,if_false];rfl
   ·grind
   ·have:=WP.add (t:=Xl) rfl m
    grind
 ·rintro _ ⟨A,s,f,rfl,_⟩;simp
end Q
namespace Q
open Tr Go
theorem Zcg(x:Int){m:Nat}(b:m<=9223372036854775807):F122 x 0 (Va .i64 ((m:Int) - 1))=some (Kh x m):=by
 rw[Hd,Zs (by omega) (by omega)];unfold Kh;by_cases a:0<=x
 all_goals grind
theorem Zrp(n:Zh){i:Nat}(o:i<=n.2.2.2.1.length)(l:n.2.2.2.1.length<=9223372036854775807)(a:Int):
 run (fun b:Int×Int=>
          bif decide (b.snd<(i:Int)) then
           Vb
            (Vb (idx n.snd.snd.snd.fst b.snd) fun d=>
              bif d.snd.snd.snd.snd.fst then Vb (idx n.snd.snd.snd.fst b.snd) fun e=>some (decide (e.fst=a)) else some false)
            fun f=>
            bif f then Vb (idx n.snd.snd.snd.fst b.snd) fun g=>some (Sum.inl (g.snd.snd.fst,Va .i64 (b.snd+(1:Int))))
            else some (Sum.inl (b.fst,Va .i64 (b.snd+(1:Int))))
          else some (Sum.inr b.fst))
       ((-1:Int),(0:Int))=some ((K2 n i a).getD (-1)):=by
 have h:=Xd (n:=i) (fun j (st:Int×Int)=>st=((K2 n j a).getD (-1),(j:Int))) (fun _=>0) (fun _=>(K2 n i a).getD (-1)) ((K2 n i a).getD (-1)) (step:=fun b:Int×Int=>
          bif decide (b.snd<(i:Int)) then
           Vb
            (Vb (idx n.snd.snd.snd.fst b.snd) fun d=>
              bif d.snd.snd.snd.snd.fst then Vb (idx n.snd.snd.snd.fst b.snd) fun e=>some (decide (e.fst=a)) else some false)
            fun f=>
            bif f then Vb (idx n.snd.snd.snd.fst b.snd) fun g=>some (Sum.inl (g.snd.snd.fst,Va .i64 (b.snd+(1:Int))))
            else some (Sum.inl (b.fst,Va .i64 (b.snd+(1:Int))))
          else some (Sum.inr b.fst)) ?_ ?_ ?_ ((-1:Int),(0:Int)) rfl
 ·rw[h];unfold pick
  grind
 ·rintro j _ k rfl _;have c:j<n.2.2.2.1.length:=by omega
  have m:n.2.2.2.1[j]=lk n j:=(Kx c l0).symm;refine⟨((K2 n (j+1) a).getD (-1),((j+1:Nat):Int)),?_,rfl⟩;simp only[ZU k,Zc,ZH c,Za,m,Z8 c l]
  have p:K2 n (j+1) a=if (lk n j).2.2.2.2.1=true/\(lk n j).1=a then some (lk n j).2.2.1 else K2 n j a:=rfl
  grind
 all_goals simp
theorem Zru(n:Zh){i:Nat}(u:i<=n.2.2.2.1.length)(E:n.2.2.2.1.length<=9223372036854775806)(p:∀j,j<i->WD n j=0)(to fr:Int)(s:0<=fr):
 F123 n (i:Int) to fr=some (@decide (∃k,Kn (K2 n i) to (k+1)=some fr) (Classical.propDecidable _)):=by
 classical
 unfold F123
 have f:K2 n i (-1)=none:=by
  cases h:K2 n i (-1) with
  |none=>rfl
  |some b=>
   obtain⟨j,l,C,D,_⟩:=Za5 h;have:=ZqU (p j l);omega
 have m:=Zrp n u (by omega)
 have key:∀(r k:Nat) (a:Int),i+1 - k=r->k<=i+1->run (fun s0:Int×Int=>
       bif decide (s0.snd<=(i:Int)) then
        Vb
         (run
           (fun c=>
             bif decide (c.snd<(i:Int)) then
              Vb
               (Vb (idx n.snd.snd.snd.fst c.snd) fun y=>
                 bif y.snd.snd.snd.snd.fst then Vb (idx n.snd.snd.snd.fst c.snd) fun z=>some (decide (z.fst=s0.fst)) else some false)
               fun A=>
               bif A then Vb (idx n.snd.snd.snd.fst c.snd) fun B=>some (Sum.inl (B.snd.snd.fst,Va .i64 (c.snd+(1:Int))))
               else some (Sum.inl (c.fst,Va .i64 (c.snd+(1:Int))))
             else some (Sum.inr c.fst))
           ((-1:Int),(0:Int)))
         fun q=>bif decide (q=fr) then some (Sum.inr (Sum.inr true)) else some (Sum.inl (q,Va .i64 (s0.snd+(1:Int))))
       else some (Sum.inr (Sum.inl ())))
  (a,(k:Int))=some (if∃t,k+t<=i/\Kn (K2 n i) a (t+1)=some fr then Sum.inr true else Sum.inl ()):=by
  intro r
  induction r with
  |zero=>
   intro k a w v;rw[Zf (by omega)]
   exact Ym (by grind)
  |succ r x=>
   intro k a w v;have F:Va .i64 ((k:Int)+1)=((k+1:Nat):Int):=by rw[Zs (by omega) (by omega)];omega
   by_cases o:(K2 n i a).getD (-1)=fr
   ·have:K2 n i a=some fr:=by
     cases h:K2 n i a with
     |none=>grind
     |some b=>grind
    rw[Zp ⟨0,by omega,by simp [Kn,this]⟩];refine Ym ?_
    grind
   ·rw[HT (s' :=((K2 n i a).getD (-1),((k+1:Nat):Int))) (by
     grind),x (k+1) _ (by omega) (by omega)]
    have e:(∃t,k+1+t<=i/\Kn (K2 n i) ((K2 n i a).getD (-1)) (t+1)=some fr)↔∃t,k+t<=i/\Kn (K2 n i) a (t+1)=some fr:=by
     cases h:K2 n i a with
     |none=>
      refine⟨fun⟨t,_,d⟩=>?_,fun⟨t,_,d⟩=>?_⟩
      ·simp [Kn,f]at d
      ·simp [Kn,h]at d
     |some b=>
      refine⟨fun⟨t,l,d⟩=>⟨t+1,by omega,?_⟩,fun⟨t,l,d⟩=>?_⟩
      ·show (K2 n i a).bind (fun b=>Kn (K2 n i) b (t+1))=_
       grind
      ·have g:(K2 n i a).bind (fun b=>Kn (K2 n i) b t)=some fr:=d;rw[h]at g
       cases t with
       |zero=>rw[h]at o;exact absurd (Option.some.inj g) o
       |succ t=>grind
    simp_all
 refine(congrArg (Vb · _) (key _ 0 to rfl (by omega))).trans ?_
 have e:(∃t,0+t<=i/\Kn (K2 n i) to (t+1)=some fr)↔∃k,Kn (K2 n i) to (k+1)=some fr:=by refine⟨by grind,fun⟨t,h⟩=>⟨t,?_,h⟩⟩;have:=Zsr (ZdI p to) h;omega
 by_cases h:∃k,Kn (K2 n i) to (k+1)=some fr
 all_goals grind
end Q
namespace Q
open Tr Go
theorem Zf5{τ:Type}{step:Int->Option (Int ⊕ τ)}{i:Nat}{p:Nat->Prop}{R E:τ}(c:∀j:Nat,j<i->¬p j->step (j:Int)=some (.inl ((j+1:Nat):Int)))(b:∀j:Nat,j<i->p j->step (j:Int)=some (.inr R))
 (a:step (i:Int)=some (.inr E)):run step (0:Int)=some (@ite _ (∃j,j<i/\p j) (Classical.propDecidable _) R E):=by
 classical
 obtain⟨d,e⟩:=Zb0 c b a;by_cases h:∃j,j<i/\p j
 all_goals grind
theorem ZrM(n:Zh){i:Nat}(w:i<n.2.2.2.1.length)(W:n.2.2.2.1.length<=9223372036854775806)(Y:n.2.2.1.length<=9223372036854775807)
 (D:∀x∈n.2.2.1,x.2.2.2.2.2.2.2.1.length<=9223372036854775807) (V:∀j,j<i->WD n j=0):F124 n (i:Int)=some (WD n i):=by
 classical
 unfold F124;have hx:n.2.2.2.1[i]=lk n i:=(Kx w l0).symm;have X:n.2.2.2.1.length<=9223372036854775807:=by omega
 simp only[ZH w,Za,hx,Zcg _ Y];have c:WD n i=WD n i:=rfl
 conv at c=>rhs;unfold WD
 simp only at c;generalize hy:lk n i=x at c⊢;by_cases s:X9 n x=true
 ·rw[Zp s]at c;rw[c];unfold X9 at s
  grind
 rw[Zf s]at c;unfold X9 at s;simp only[Vo,Vl,Vca]at s;obtain⟨u,z,p3⟩:=s;have Q:idx n.2.2.1 x.1=some (rn n x.1):=J9 u u0;have S:idx n.2.2.1 x.2.2.1=some (rn n x.2.2.1):=J9 z u0;have K:=D _ (Zag u);have L:=D _ (Zag z);simp only[u,z,p3,Vc,Ze,Za,Q,S,Zcg _ K,Zcg _ L];by_cases t:Y5 n x=true
 ·rw[Zp t]at c;rw[c];unfold Y5 at t
  grind
 rw[Zf t]at c;unfold Y5 at t;simp only[Vo,Vl,Vca]at t;obtain⟨F,G⟩:=t;have T:idx (rn n x.1).2.2.2.2.2.2.2.1 x.2.1=some (cl (rn n x.1).2.2.2.2.2.2.2.1 x.2.1):=J9 F c0;have U:idx (rn n x.2.2.1).2.2.2.2.2.2.2.1 x.2.2.2.1=some (cl (rn n x.2.2.1).2.2.2.2.2.2.2.1 x.2.2.2.1):=J9 G c0;simp only[F,G,Vc,Ze,Za,T,U];by_cases H:(cl (rn n x.1).2.2.2.2.2.2.2.1 x.2.1).1=(cl (rn n x.2.2.1).2.2.2.2.2.2.2.1 x.2.2.2.1).1
 case neg=>
  grind
 rw[Zf (by omega)]at c;simp only[Zd H,Vc,Ze];have hw:Va .i64 (((rn n x.1).2.2.2.2.2.2.2.1.length:Int) - 1)=((rn n x.1).2.2.2.2.2.2.2.1.length:Int) - 1:=Zs (by omega) (by omega)
 have f:=Zf5 (i:=i) (p:=fun j=>JZ (lk n j)=JZ x) (τ:=Unit ⊕ Int) (R:=.inr 6) (E:=.inl ()) (step:=fun o:Int=>
                         bif decide (o<(i:Int)) then
                             Vb (idx n.snd.snd.snd.fst o) fun m=>
                              Vb
                               (bif decide (m.fst=x.fst) then
                                 bif decide (m.snd.fst=x.snd.fst) then
                                  bif decide (m.snd.snd.fst=x.snd.snd.fst) then some (decide (m.snd.snd.snd.fst=x.snd.snd.snd.fst))
                                  else some false
                                 else some false
                               else some false)
                               fun A=>bif A then some (Sum.inr (Sum.inr (6:Int))) else some (Sum.inl (Va .i64 (o+(1:Int))))
                          else some (Sum.inr (Sum.inl ()))) (fun j b g=>by
  have a:j<n.2.2.2.1.length:=by omega
  have d:n.2.2.2.1[j]=lk n j:=(Kx a l0).symm;simp only[ZU b,Zc,ZH a,Za,d,Z8 b (by omega)];by_cases M:(lk n j).1=x.1
  ·rw[Zd M];by_cases N:(lk n j).2.1=x.2.1
   ·rw[Zd N];by_cases O:(lk n j).2.2.1=x.2.2.1
    ·rw[Zd O];have P:¬(lk n j).2.2.2.1=x.2.2.2.1:=fun P=>g (by unfold JZ;grind)
     grind
    grind
   grind
  grind) (fun j b g=>by
  have a:j<n.2.2.2.1.length:=by omega
  have d:n.2.2.2.1[j]=lk n j:=(Kx a l0).symm;unfold JZ at g;simp only[List.cons.injEq,and_true]at g;simp only[ZU b,Zc,ZH a,Za,d,Zd g.1,Zd g.2.1,Zd g.2.2.1,Zd g.2.2.2]) (by simp)
 by_cases Z:x.2.2.2.2.1=true
 ·simp only[Z,true_and,Zc,hw]at c f⊢;by_cases b4:x.2.1+1=((rn n x.1).2.2.2.2.2.2.2.1.length:Int)
  case neg=>
   grind
  rw[Zf (by omega)]at c;simp only[Zd (show x.2.1=((rn n x.1).2.2.2.2.2.2.2.1.length:Int) - 1 by omega),Vc,Ze,Za];by_cases I:x.2.2.2.1=0
  case neg=>
   grind
  rw[Zf (by omega)]at c
  have v:0<=x.1:=by
   unfold Kh at u
   grind
  have l:=Zf5 (i:=i) (p:=fun j=>(lk n j).2.2.2.2.1=true/\((lk n j).1=x.1\/(lk n j).2.2.1=x.2.2.1)) (τ:=Unit ⊕ Int) (R:=.inr 19) (E:=.inl ()) (step:=fun e:Int=>
                  bif decide (e<(i:Int)) then
                   Vb (idx n.snd.snd.snd.fst e) fun q=>
                    Vb
                     (
                      bif q.snd.snd.snd.snd.fst then
                       bif decide (q.fst=x.fst) then some true else some (decide (q.snd.snd.fst=x.snd.snd.fst))
                      else some false)
                     fun r=>bif r then some (Sum.inr (Sum.inr (19:Int))) else some (Sum.inl (Va .i64 (e+(1:Int))))
                  else some (Sum.inr (Sum.inl ()))) (fun j b g=>by
   have a:j<n.2.2.2.1.length:=by omega
   have d:n.2.2.2.1[j]=lk n j:=(Kx a l0).symm;simp only[ZU b,Zc,ZH a,Za,d,Z8 b (by omega)]
   grind) (fun j b g=>by
   have a:j<n.2.2.2.1.length:=by omega
   have d:n.2.2.2.1[j]=lk n j:=(Kx a l0).symm;simp only[ZU b,Zc,ZH a,Za,d,g.1]
   grind) (by simp)
  simp only[Zd I,Vc,Ze];refine(congrArg (Vb · _) l).trans ?_;simp only[Za];by_cases B:∃j,j<i/\(lk n j).2.2.2.2.1=true/\((lk n j).1=x.1\/(lk n j).2.2.1=x.2.2.1)
  ·grind
  rw[Zf B]at c;rw[Zf B];simp only[Vk,Zru n (Nat.le_of_lt w) W V x.2.2.1 x.1 v,Za];by_cases C:∃k,Kn (K2 n i) x.2.2.1 (k+1)=some x.1
  ·grind
  rw[Zf C]at c;rw[Zk C];simp only[Ze];refine(congrArg (Vb · _) f).trans ?_;rw[c];by_cases J:∃j,j<i/\JZ (lk n j)=JZ x
  all_goals grind
 ·have y:x.2.2.2.2.1=false:=by grind
  have h:=Zf5 (i:=i) (p:=fun _=>False) (τ:=Unit ⊕ Int) (R:=.inr 19) (E:=.inl ()) (step:=fun e:Int=>
                    bif decide (e<(i:Int)) then
                     Vb (idx n.snd.snd.snd.fst e) fun _=>
                      Vb
                       (some false)
                       fun r=>bif r then some (Sum.inr (Sum.inr (19:Int))) else some (Sum.inl (Va .i64 (e+(1:Int))))
                    else some (Sum.inr (Sum.inl ()))) (fun j b _=>by
   have a:j<n.2.2.2.1.length:=by omega
   simp only[ZU b,Zc,ZH a,Za,Ze,Z8 b (by omega)]) (by simp) (by simp)
  rw[Zf (by simp)]at h;simp only[y,Vga,false_and,if_false,Ze,Za]at c h f⊢;refine(congrArg (Vb · _) h).trans ?_;simp only[Za,Vk];refine(congrArg (Vb · _) f).trans ?_;rw[c];by_cases J:∃j,j<i/\JZ (lk n j)=JZ x
  all_goals grind
end Q
namespace Q
open Tr Go
abbrev Ze8:=Int×Int×Int×Unit
def Zad(a b:Ze8):Ze8:=if a.2.2.1=0 then b else a
theorem ZjP(a b:El KS):F91 [a,b]=some (Zad a (Zad b (0,0,0,()))):=by
 revert a b
 show∀a b:Ze8,F91 [a,b]=some (Zad a (Zad b (0,0,0,())));intro a b;unfold F91 Zad;by_cases c:a.2.2.1=0
 ·rw[Zp c];by_cases d:b.2.2.1=0
  ·rw[Zp d,HT (s' :=((0,0,0,()),(1:Int))) (by simp [idx,c,Va,Vr,Vt]),HT (s' :=((0,0,0,()),(2:Int))) (by simp [idx,d,Va,Vr,Vt]),Ym (r:=.inl (0,0,0,())) (by simp)];rfl
  ·rw[Zf d,HT (s' :=((0,0,0,()),(1:Int))) (by simp [idx,c,Va,Vr,Vt]),Ym (r:=.inr b) (by simp [idx,d])];rfl
 ·rw[Zf c,Ym (r:=.inr a) (by simp [idx,c])];rfl
structure Xh (n:Zh):Prop where
 stops:∀x∈n.1,x.1.length<=9223372036854775807
 routes:∀x∈n.2.1,x.1.length<=9223372036854775807
 runs:∀x∈n.2.2.1,x.2.2.2.1.length<=9223372036854775807
 calls:∀x∈n.2.2.1,x.2.2.2.2.2.2.2.1.length<=9223372036854775807
 paths:n.2.2.2.2.1.length<=4096
 prods:∀x∈n.2.2.2.2.2.1.1,x.1.length<=9223372036854775807
def Zib(l:List KK):Prop:= ∀i (a:i<l.length),0<=l[i].2.1/\l[i].2.1<=l[i].2.2.1/\l[i].2.2.1<=3155932800/\(0<i->(l[i - 1]'(by omega)).1≠l[i].1/\(l[i - 1]'(by omega)).2.2.1<=l[i].2.1)
structure Js (n:Zh):Prop where
 stops:n.1.length<=64
 runs:n.2.2.1.length<=1024
 links:n.2.2.2.1.length<=1024
 zone:∀x∈n.1,0<=x.2.1/\x.2.1<16
 mode:∀x∈n.2.1,0<=x.2.1/\x.2.1<=7
 route:∀x∈n.2.2.1,0<=x.2.2.2.2.1/\x.2.2.2.2.1<(n.2.1.length:Int)
 many:∀x∈n.2.2.1,2<=x.2.2.2.2.2.2.2.1.length/\x.2.2.2.2.2.2.2.1.length<=32
 call:∀x∈n.2.2.1,∀c∈x.2.2.2.2.2.2.2.1,0<=c.1/\c.1<(n.1.length:Int)
 time:∀x∈n.2.2.1,Zib x.2.2.2.2.2.2.2.1
 base:∀x∈n.2.2.1, -1<=x.1/\0<=x.2.2.1/\0<=x.2.1/\x.2.1<=36524
 fare:(J8 n.2.2.2.2.2.1).2=0
theorem Zbb{n:Nat}{chk:Nat->Int}{E:Int×Int}(h:(pick n chk (fun i=>((i:Int),chk i)) E).2=0):∀j,j<n->chk j=0:=by
 unfold pick at h
 cases a:Wm n chk with
 |none=>exact K6.1 a
 |some i=>rw[a]at h;exact absurd h (RW a).2
theorem Zpp{l:List KK}{n:Int}(h:Ju l n 0 3155932800=0):Zib l:=by
 unfold Ju at h;split at h
 ·omega
 ·intro i e
  have a:Jb l n 0 3155932800 i=0:=by
   unfold pick at h
   cases b:Wm l.length (Jb l n 0 3155932800) with
   |none=>exact K6.1 b i e
   |some i=>rw[b]at h;exact absurd h (RW b).2
  unfold Jb at a;split at a
  ·omega
  split at a
  ·omega
  next c=>
   split at a
   ·omega
   next d=>
    unfold G7 at c;unfold G8 at d
    grind
theorem Zi8{l:List KK}{n lo b:Int}(h:Ju l n lo b=0):(2<=l.length/\l.length<=32)/\ ∀c∈l,0<=c.1/\c.1<n:=by
 unfold Ju at h;split at h
 ·omega
 ·refine⟨by omega,fun c f=>?_⟩;obtain⟨j,g,rfl⟩:=Vh f
  have d:Jb l n lo b j=0:=by
   unfold pick at h
   cases a:Wm l.length (Jb l n lo b) with
   |none=>exact K6.1 a j g
   |some i=>rw[a]at h;exact absurd h (RW a).2
  unfold Jb at d;split at d
  ·omega
  ·next e=>
   unfold D0 at e
   grind
theorem ZtX{n:Zh}(s:(HV n.1).2=0)(t:(Gj n.2.1).2=0)(u:n.2.2.1.length<=1024)(c:Wm n.2.2.1.length (J1 n)=none)(v:n.2.2.2.1.length<=1024)(z:(J8 n.2.2.2.2.2.1).2=0):Js n:=by
 unfold HV at s;unfold Gj at t;split at s
 ·omega
 split at t
 ·omega
 have e:=Zbb s;have f:=Zbb t;have d:=K6.1 c
 have key:∀x∈n.2.2.1,((0<=x.2.2.2.2.1/\x.2.2.2.2.1<(n.2.1.length:Int))/\ -1<=x.1/\0<=x.2.2.1/\0<=x.2.1/\x.2.1<=36524)/\Ju x.2.2.2.2.2.2.2.1 (n.1.length:Int) 0 3155932800=0:=by
  intro x a;obtain⟨j,b,rfl⟩:=Vh a;have h:=d j b;unfold J1 at h
  grind
 refine⟨by omega,u,v,fun x a=>?_,fun x a=>?_,by grind,fun x a=>(Zi8 (key x a).2).1,fun x a=>(Zi8 (key x a).2).2,fun x a=>Zpp (key x a).2,by grind,z⟩
 ·obtain⟨j,b,rfl⟩:=Vh a;have h:=e j b;unfold HU YH at h;simp only[Kx b]at h;split at h
  ·omega
  split at h
  all_goals omega
 ·obtain⟨j,b,rfl⟩:=Vh a;have h:=f j b;unfold Gi YH at h;simp only[Kx b]at h;split at h
  ·omega
  split at h
  all_goals omega
structure Whole (n:Zh):Prop where
 s:(HV n.1).2=0
 t:(Gj n.2.1).2=0
 u:n.2.2.1.length<=1024
 f:Wm n.2.2.1.length (J1 n)=none
 v:n.2.2.2.1.length<=1024
 g:Wm n.2.2.2.1.length (WD n)=none
 q:Wm n.2.2.2.2.1.length (KZ n.1.length n.2.2.2.2.1)=none
 w:∀c,F116 n.2.2.2.2.1 (n.1.length:Int)=some c->JG c n.2.2.2.2.1=true
 z:(J8 n.2.2.2.2.2.1).2=0
theorem Whole.sound{n:Zh}(h:Whole n):Js n:=ZtX h.s h.t h.u h.f h.v h.z
theorem Zdv(n:Zh)(h:Xh n):∃r:Int×Int×Int,F86 n=some r/\F115 n=some r/\(r.2.2=0↔Whole n):=by
 unfold F86 F115;rw[Zue n.1 h.stops,Ztd n.2.1 h.routes,Zuf n.1,Zte n.2.1,Ztw n h.runs,ZrN n h.calls,Zgf _ h.prods,ZqA];simp only[Za,F100];erw[ZjP];simp only[Za];by_cases s:(HV n.1).2=0
 case neg=>
  refine⟨(0,(HV n.1).1,(HV n.1).2),?_,?_,⟨by grind,fun W=>absurd W.s s⟩⟩
  ·simp only[Zad,Zf s,Zk s,Ze,Za]
  grind
 have y:n.1.length<=64:=by
  unfold HV at s
  grind
 obtain⟨c,d,e,j⟩:=Zss n y h.paths;rw[e,j];clear e j;simp only[Za];erw[ZjP];simp only[Zad,Zp s,Zd s,Vc,Ze,Za];by_cases t:(Gj n.2.1).2=0
 case neg=>
  refine⟨(1,(Gj n.2.1).1,(Gj n.2.1).2),?_,?_,⟨by grind,fun W=>absurd W.t t⟩⟩
  all_goals grind
 simp only[Zp t,Zd t,Vc,Ze];by_cases u:1024<n.2.2.1.length
 ·refine⟨(2,0,5),?_,?_,⟨by simp,fun W=>absurd W.u (by omega)⟩⟩
  ·simp [ZeC,u]
  grind
 rw[Zk (show¬(1024:Int)<(n.2.2.1.length:Int) by omega)];simp only[Ze];rw[Xd (n:=n.2.2.1.length) (fun i (st:Int)=>st=(i:Int)) (J1 n) (fun i=>.inr ((2:Int),(i:Int),J1 n i)) (.inl ()) ?_ ?_ ?_ (0:Int) rfl]
 rotate_left
 ·rintro i _ a rfl b;refine⟨((i+1:Nat):Int),?_,rfl⟩;simp only[ZU a,Zc,Zmf n a (by omega),Za,b,decide_true,Vc,Ze,Z8 a (by omega)]
 ·rintro i _ a rfl b;simp only[ZU a,Zc,Zmf n a (by omega),Za,Zk b,Vq]
 ·simp
 unfold ZeC;rw[Zf u];unfold pick
 cases l:Wm n.2.2.1.length (J1 n) with
 |some i=>
  have o:=(RW l).2;refine⟨(2,(i:Int),J1 n i),?_,?_,⟨by grind,fun W=>by rw[W.f]at l;grind⟩⟩
  all_goals grind
 |none=>
 simp only[Za,Vk,decide_true,Zc];by_cases v:1024<n.2.2.2.1.length
 ·refine⟨(3,0,5),?_,?_,⟨by simp,fun W=>absurd W.v (by omega)⟩⟩
  ·simp [Zeb,v]
  grind
 rw[Zk (show¬(1024:Int)<(n.2.2.2.1.length:Int) by omega)];simp only[Ze];rw[Zmq (n:=n.2.2.2.1.length) (fun i (st:Int)=>st=(i:Int)) (WD n) (fun i=>.inr ((3:Int),(i:Int),WD n i)) (.inl ()) ?_ ?_ (0:Int) rfl]
 rotate_left
 ·rintro i _ a x rfl;have A:=ZrM n a (by omega) (by omega) h.calls x;by_cases b:WD n i=0
  ·refine .inl ⟨b,((i+1:Nat):Int),?_,rfl⟩;simp only[ZU a,Zc,A,Za,b,decide_true,Vc,Ze,Z8 a (by omega)]
  grind
 ·simp
 unfold Zeb;rw[Zf v];unfold pick
 cases m:Wm n.2.2.2.1.length (WD n) with
 |some i=>
  have o:=(RW m).2;refine⟨(3,(i:Int),WD n i),?_,?_,⟨by grind,fun W=>by rw[W.g]at m;grind⟩⟩
  all_goals grind
 |none=>
 simp only[Za,Vk,decide_true,Zc]
 cases k:Wm n.2.2.2.2.1.length (KZ n.1.length n.2.2.2.2.1) with
 |some i=>
  have o:=(RW k).2;refine⟨(4,(i:Int),KZ n.1.length n.2.2.2.2.1 i),?_,?_,⟨by grind,fun W=>by rw[W.q]at k;grind⟩⟩
  all_goals grind
 |none=>
 by_cases w:JG c n.2.2.2.2.1=true
 case neg=>
  refine⟨(4,0,18),?_,?_,⟨by simp,fun W=>absurd (W.w c (d (K6.1 k))) w⟩⟩
  all_goals grind
 simp only[Zp w,if_true,decide_true,Vc,Ze];by_cases z:(J8 n.2.2.2.2.2.1).2=0
 ·refine⟨(0,0,0),?_,?_,⟨fun _=>⟨s,t,by omega,l,by omega,m,k,fun B p=>by rw[d (K6.1 k)]at p;grind,z⟩,fun _=>rfl⟩⟩
  all_goals grind
 ·refine⟨(5,(J8 n.2.2.2.2.2.1).1,(J8 n.2.2.2.2.2.1).2),?_,?_,⟨by grind,fun W=>absurd W.z z⟩⟩
  all_goals grind
theorem Zpz(n:Zh)(h:Xh n):∃r:Int×Int×Int,F86 n=some r/\F115 n=some r/\(r.2.2=0->Js n):=by obtain⟨r,a,b,c⟩:=Zdv n h;exact⟨r,a,b,fun h=>(c.1 h).sound⟩
end Q
namespace Q
open Tr Go
theorem GJ{a b:Nat}(e:a<65536)(f:b<65536):Wt .i64 (a:Int) (b:Int)=((a ||| b:Nat):Int):=by
 have d:a ||| b<2 ^ 16:=Vx (n:=16) (by omega) (by omega);unfold Wt
 have c:(Vp Vgb.bits (a:Int) ||| Vp Vgb.bits (b:Int)).toNat=a ||| b:=by
  rw[Vnb,Vaa,Vaa,Vda,Vda];show a % 2 ^ 64 ||| b % 2 ^ 64=a ||| b
  grind
 rw[c,Zs (by omega) (by omega)]
theorem Zeo{a b:Nat}(e:a<65536)(f:b<65536):Wt .u64 (a:Int) (b:Int)=((a ||| b:Nat):Int):=by
 have d:a ||| b<2 ^ 16:=Vx (n:=16) (by omega) (by omega);unfold Wt
 have c:(Vp Vhb.bits (a:Int) ||| Vp Vhb.bits (b:Int)).toNat=a ||| b:=by
  rw[Vnb,Vaa,Vaa,Vda,Vda];show a % 2 ^ 64 ||| b % 2 ^ 64=a ||| b
  grind
 rw[c];simp [Va,Vr,Vt];omega
theorem Zhx{z:Int}(a:0<=z)(b:z<16):GK .i64 1 z=some ((2 ^ z.toNat:Nat):Int):=by
 have:z=0\/z=1\/z=2\/z=3\/z=4\/z=5\/z=6\/z=7\/z=8\/z=9\/z=10\/z=11\/z=12\/z=13\/z=14\/z=15:=by omega
 rcases this with rfl|rfl|rfl|rfl|rfl|rfl|rfl|rfl|rfl|rfl|rfl|rfl|rfl|rfl|rfl|rfl<;>decide
theorem ZtI{z:Int}(a:0<=z)(b:z<16):GK .u64 1 z=some ((2 ^ z.toNat:Nat):Int):=by
 have:z=0\/z=1\/z=2\/z=3\/z=4\/z=5\/z=6\/z=7\/z=8\/z=9\/z=10\/z=11\/z=12\/z=13\/z=14\/z=15:=by omega
 rcases this with rfl|rfl|rfl|rfl|rfl|rfl|rfl|rfl|rfl|rfl|rfl|rfl|rfl|rfl|rfl|rfl<;>decide
theorem Gg{z:Int}(a:z<16):2 ^ z.toNat<65536:=Nat.pow_lt_pow_right (by omega) (show z.toNat<16 by omega)
theorem Zli{z:Int}(a:0<=z)(b:z<16):F5 z=some ((2 ^ z.toNat:Nat):Int):=by unfold F5;rw[Zk (show¬z<0 by omega),Zk (by omega)];simp only[Ze,Za,ZtI a b]
theorem ZuT{m:Nat}(c:m<65536){z:Int}(b:0<=z)(a:z<16):F3 (m:Int) z=some ((m ||| 2 ^ z.toNat:Nat):Int):=by unfold F3;rw[Zli b a];simp only[Za];rw[Zeo c (Gg a)]
theorem Zle{z:Int}(c:0<=z)(b:z<16):F0 [z]=some ((2 ^ z.toNat:Nat):Int):=by
 unfold F0;rw[HT (s' :=(((2 ^ z.toNat:Nat):Int),(1:Int))) ?_,Ym (r:=((2 ^ z.toNat:Nat):Int)) ?_]
 ·rfl
 ·simp
 ·have:=Zeo (a:=0) (by omega) (Gg b);simp only[Nat.zero_or]at this
  show (bif decide ((0:Int)<((1:Nat):Int)) then _ else _)=_
  rw[Zd (by omega)];simp only[Zc];rw[show idx [z] (0:Int)=some z from rfl];simp only[Za,Zli c b];rw[show Wt .u64 (0:Int) ((2 ^ z.toNat:Nat):Int)=((2 ^ z.toNat:Nat):Int) from this];rfl
end Q
namespace Q
open Tr Go
abbrev Zv:=Bool×Int×Int×Int×Int×Int×Int×Int×Bool×Unit
abbrev ZW:=Int×Int×Int×Int×Unit
abbrev GV:=List Zv×Unit
def Wl(n:Zh)(x:Zv):List KK:=(rn n x.2.1).2.2.2.2.2.2.2.1
def KL(n:Zh)(x:Zv):Bool:=Kh x.2.1 n.2.2.1.length&& (decide (0<=x.2.2.1) && (decide (x.2.2.1<x.2.2.2.1) &&decide (x.2.2.2.1<((Wl n x).length:Int))))
theorem Zqx(n:Zh)(x:Zv):F83 n x=some (KL n x):=by
 unfold F83 KL;by_cases h:Kh x.2.1 n.2.2.1.length=true
 ·have e:idx n.2.2.1 x.2.1=some (rn n x.2.1):=J9 h u0;simp only[e,Za,h];unfold Kh at h;simp only[Vn]at h;simp only[h.1,h.2,Zc];unfold Wl
  grind
 ·have a:Kh x.2.1 n.2.2.1.length=false:=by grind
  rw[a];unfold Kh at a
  grind
def s0:GY:=([],0,false,0,())
def GQ(n:Zh)(a:Int):GY:=(n.1[a.toNat]?).getD s0
def zn(n:Zh)(l:List KK)(j:Nat):Nat:=2 ^ (GQ n ((l[j]?).getD c0).1).2.1.toNat
def zN(n:Zh)(l:List KK)(a:Nat):Nat->Nat
 |0=>0
 |k+1=>zN n l a k ||| zn n l (a+k)
theorem ZeL{n:Zh}(h:Js n){a:Int}(d:0<=a)(e:a<(n.1.length:Int)):idx n.1 a=some (GQ n a)/\0<=(GQ n a).2.1/\(GQ n a).2.1<16:=by
 have c:Kh a n.1.length=true:=by unfold Kh;grind
 refine⟨J9 c s0,?_⟩;have b:a.toNat<n.1.length:=by omega
 unfold GQ;rw[Kx b];exact h.zone _ (Vf b)
theorem ZeY{n:Zh}(h:Js n){l:List KK}(d:∀c∈l,0<=c.1/\c.1<(n.1.length:Int)){a:Nat} :∀k,a+k<=l.length->zN n l a k<65536
 |0,_=>by unfold zN;omega
 |k+1,i=>by
  have g:=ZeY h d (a:=a) k (by omega);have e:a+k<l.length:=by omega
  have b:=d _ (Vf e);have f:=(ZeL h b.1 b.2).2
  have:zn n l (a+k)<65536:=by unfold zn;rw[Kx e];exact Gg f.2
  exact Vx (n:=16) g this
theorem Zns{n:Zh}(h:Js n){x:Zv}(q:KL n x=true):F84 n x=some ((zN n (Wl n x) x.2.2.1.toNat (x.2.2.2.1.toNat+1 - x.2.2.1.toNat):Nat):Int):=by
 unfold KL at q;simp only[Vn,KQ]at q;obtain⟨y,z,r,A⟩:=q;have w:=Zag y;have f:=(h.many _ w).2;have u:∀c∈Wl n x,0<=c.1/\c.1<(n.1.length:Int):=h.call _ w;have e:idx n.2.2.1 x.2.1=some (rn n x.2.1):=J9 y u0;unfold F84;rw[e];simp only[Za];have d:(rn n x.2.1).2.2.2.2.2.2.2.1=Wl n x:=rfl;simp only[d]at f⊢;generalize Wl n x=l at*;obtain⟨a,s⟩:∃a:Nat,x.2.2.1=(a:Int):=⟨x.2.2.1.toNat,by omega⟩;obtain⟨b,t⟩:∃b:Nat,x.2.2.2.1=(b:Int):=⟨x.2.2.2.1.toNat,by omega⟩;rw[s]at z r;rw[t]at r A;rw[s,t];have C:Va .i64 ((b:Int)+1)=((b+1:Nat):Int):=by rw[Zs (by omega) (by omega)];omega
 have p:sliceB l.length l.length (some (a:Int)) (some ((b+1:Nat):Int))=some (a,b+1):=by
  unfold sliceB
  grind
 rw[C,p];simp only[Za,Vs]
 have j:(Voa (b+1 - a) (List.drop a l)).length=b+1 - a:=by
  grind
 rw[Xd (n:=b+1 - a) (fun i (st:Int×Int)=>st=(((zN n l a i:Nat):Int),(i:Int))) (fun _=>0) (fun _=>((zN n l a (b+1 - a):Nat):Int)) ((zN n l a (b+1 - a):Nat):Int) ?_ ?_ ?_ ((0:Int),(0:Int)) rfl]
 ·unfold pick
  grind
 ·rintro i _ v rfl _;have B:a+i<l.length:=by omega
  have g:=u _ (Vf B);obtain⟨k,m,o⟩:=ZeL h g.1 g.2;refine⟨(((zN n l a (i+1):Nat):Int),((i+1:Nat):Int)),?_,rfl⟩;simp only[j,ZU v,Zc];rw[ZH (by omega)];simp only[List.getElem_take,List.getElem_drop,Za,k,ZuT (ZeY h u (a:=a) i (by omega)) m o,Z8 v (by omega)]
  have:zN n l a (i+1)=zN n l a i ||| 2 ^ (GQ n l[a+i].1).2.1.toNat:=by
   show zN n l a i ||| zn n l (a+i)=_;unfold zn
   grind
  grind
 all_goals grind
end Q
namespace Q
open Tr Go
theorem Zq8{k:Nat}(h:0<k)(a:k<=9223372036854775807):Zo (Va .i64 ((k:Int) - 1)) k=some (k - 1):=by
 have e:Va .i64 ((k:Int) - 1)=((k - 1:Nat):Int):=by rw[Zs (by omega) (by omega)];omega
 rw[e,Ke (by omega)]
theorem Zmt{α:Type}{l:List α}{k:Nat}(h:k<l.length)(w:α):(l.set k w)[k]? =some w:=by grind
theorem ZeW{m:Nat}(h:m<65536):Va .i64 (m:Int)=(m:Int):=Zs (by omega) (by omega)
def Hi(n:Zh)(x:Zv):Nat:=zN n (Wl n x) x.2.2.1.toNat (x.2.2.2.1.toNat+1 - x.2.2.1.toNat)
theorem ZcX{n:Zh}(h:Js n){x:Zv}(a:KL n x=true):Hi n x<65536:=by unfold KL at a;simp only[Vn,KQ]at a;obtain⟨c,d,e,b⟩:=a;exact ZeY h (h.call _ (Zag c)) _ (by unfold Wl at b;omega)
def Rm:Hm:=([],0,false,())
def XZ(n:Zh)(x:Zv):Hm:=(n.2.1[(rn n x.2.1).2.2.2.2.1.toNat]?).getD Rm
theorem Zex{n:Zh}(h:Js n){x:Zv}(a:KL n x=true):idx n.2.2.1 x.2.1=some (rn n x.2.1)/\idx n.2.1 (rn n x.2.1).2.2.2.2.1=some (XZ n x)/\0<=(XZ n x).2.1/\(XZ n x).2.1<16:=by
 unfold KL at a;simp only[Vn]at a;have d:=Zag a.1;have e:=h.route _ d;have c:Kh (rn n x.2.1).2.2.2.2.1 n.2.1.length=true:=by unfold Kh;grind
 refine⟨J9 a.1 u0,J9 c Rm,?_⟩;have b:(rn n x.2.1).2.2.2.2.1.toNat<n.2.1.length:=by omega
 unfold XZ;rw[Kx b];have:=h.mode _ (Vf b);omega
def Hf(n:Zh)(x:Zv):ZW:=(x.2.2.2.2.2.2.1,x.2.2.2.2.2.2.2.1,((Hi n x:Nat):Int),((2 ^ (XZ n x).2.1.toNat:Nat):Int),())
def G2(n:Zh)(x:Zv)(l:List ZW)(v:ZW):List ZW:=
 l.set (l.length - 1) (v.1,x.2.2.2.2.2.2.2.1,Wt .i64 v.2.2.1 ((Hi n x:Nat):Int),Wt .i64 v.2.2.2.1 ((2 ^ (XZ n x).2.1.toNat:Nat):Int),())
theorem Zs5{n:Zh}(h:Js n){x:Zv}(a:KL n x=true)(g:x.2.2.2.2.2.2.2.2.1=false){l:List ZW}(i:l.length<=100):F80 x n l=some (l++[Hf n x]):=by obtain⟨c,d,e,b⟩:=Zex h a;unfold F80;rw[Zns h a];simp only[Za,c,d,Zle e b,g,Vq,Zc];rw[show Va .i64 ((zN n (Wl n x) x.2.2.1.toNat (x.2.2.2.1.toNat+1 - x.2.2.1.toNat):Nat):Int)=((Hi n x:Nat):Int) from ZeW (ZcX h a),ZeW (Gg b)];have f:(decide (l.length+ [Hf n x].length<=ZE))=true:=Zd (by simp [ZE];omega);show (ZD (decide (l.length+ [Hf n x].length<=ZE))).bind (fun _=>some (l++[Hf n x]))=_;rw[f];rfl
theorem Zs6{n:Zh}(h:Js n){x:Zv}(a:KL n x=true)(i:x.2.2.2.2.2.2.2.2.1=true){l:List ZW}(k:l.length<=100){v:ZW}(g:0<l.length)(j:l[l.length - 1]? =some v):F80 x n l=some (G2 n x l v):=by
 obtain⟨d,e,f,b⟩:=Zex h a;unfold F80;rw[Zns h a];simp only[Za,d,e,Zle f b,i,Vc,Ze];rw[show Va .i64 ((zN n (Wl n x) x.2.2.1.toNat (x.2.2.2.1.toNat+1 - x.2.2.1.toNat):Nat):Int)=((Hi n x:Nat):Int) from ZeW (ZcX h a),ZeW (Gg b)];have c:l.length - 1<l.length:=by omega
 simp only[Zq8 g (by omega),Za];erw[j];simp only[Za,List.set_set];erw[Zmt c];simp only[Za];erw[Zmt c];rfl
end Q
namespace Q
open Tr Go
abbrev Kv(x:Zv):Bool:=x.2.2.2.2.2.2.2.2.1
def X7(n:Zh)(x:Zv)(out:List ZW):List ZW:=match out[out.length - 1]? with
 |some v=>G2 n x out v
 |none=>out
def WA(n:Zh):List Zv->Bool->List ZW->List ZW×Int
 |[],_,out=>(out,0)
 |x::l,rode,out=>
  if x.1=true/\KL n x=false then([],9)
  else if Kv x=true/\(x.1=false\/rode=false) then([],19)
  else if x.1=true then WA n l true (if Kv x=true then X7 n x out else out++[Hf n x])
  else WA n l false out
theorem GN(n:Zh)(x:Zv)(l:List Zv)(rode:Bool)(out:List ZW):WA n (x::l) rode out=if x.1=true/\KL n x=false then([],9)
 else if Kv x=true/\(x.1=false\/rode=false) then([],19)
 else if x.1=true then WA n l true (if Kv x=true then X7 n x out else out++[Hf n x])
 else WA n l false out:=rfl
theorem Zfs(n:Zh)(x:Zv)(out:List ZW):(X7 n x out).length=out.length:=by
 unfold X7;split
 ·unfold G2;simp
 ·rfl
theorem Zhm(n:Zh)(j:GV)(A:Xh n)(D:j.1.length<=90):(F79 n j=some ([],21)/\F120 n=some false)\/(Js n/\F120 n=some true/\F79 n j=some (WA n j.1 false [])):=by
 obtain⟨c,k,m,o⟩:=Zpz n A;unfold F79 F120;rw[k,m];simp only[Za];by_cases u:c.2.2=0
 case neg=>
  grind
 have h:=o u;rw[Zd u];simp only[Vc,Ze];refine .inr ⟨h,by simp,?_⟩;refine KF (fun r=>WA n j.1 false []=Vkb (fun l:List ZW=>(l,(0:Int))) (fun y=>y) r) ?_ ?_
 ·refine Kq j.1.length _ (fun i (s:List ZW×Bool×Int)=>∃l w,s=(l,w,(i:Int))/\l.length<=i/\(w=true->0<l.length)/\WA n j.1 false []=WA n (j.1.drop i) w l) ?_ ?_ _ ⟨[],false,rfl,by simp,by simp,rfl⟩
  ·rintro i _ g ⟨l,w,rfl,B,z,a⟩;have p:j.1.length<=9223372036854775807:=by omega
   rw[Via g]at a;simp only[ZU g,Zc,ZH g,Za,Z8 g p];generalize j.1[i]=x at*;rw[GN]at a
   cases f:x.1 with
   |false=>
    rw[f]at a;simp only[Ze,Za,Vq,Zc]
    cases e:Kv x with
    |true=>
     simp_all
    |false=>
     grind
   |true=>
    rw[f]at a;simp only[Zc,Za,Vc,Ze,Zqx]
    cases q:KL n x with
    |false=>
     simp_all
    |true=>
     rw[q]at a;simp only[Vc,Ze]
     cases e:Kv x with
     |false=>
      left;rw[e]at a;have b:=e;unfold Kv at b;rw[b];simp only[Ze,Za,Zs5 h q b (show l.length<=100 by omega)]
      grind
     |true=>
      rw[e]at a;have b:=e;unfold Kv at b;rw[b];simp only[Zc]
      cases w with
      |false=>
       simp_all
      |true=>
       left;have d:=z rfl;obtain⟨v,C⟩:∃v,l[l.length - 1]? =some v:=⟨_,Vd (by omega)⟩;simp only[Vc,Za,Ze,Zs6 h q b (by omega) d C];have t:X7 n x l=G2 n x l v:=by unfold X7;grind
       refine⟨_,rfl,G2 n x l v,true,rfl,by rw[<-t,Zfs];omega,fun _=>by rw[<-t,Zfs];omega,?_⟩
       grind
  ·rintro _ ⟨l,w,rfl,B,z,a⟩;simp only[Jy,Ze];refine⟨_,rfl,?_⟩;rw[a,List.drop_length];rfl
 grind
end Q
namespace Dv
abbrev Tk:=Int×Int×Int×Int×Unit
structure Jp where
 n:Nat
 np:Nat
 cov:Nat->Nat->Nat->Bool
 pr:Nat->Nat->Int
abbrev KC:=Option (Int×List Tk)
def ZaE(cur:KC)(s:Int)(c:Nat):Bool:=match cur with
 |none=>true
 |some (cs,a)=>decide (s<cs) || (decide (s=cs) &&decide (c<a.length))
def Db(L:Jp)(nx:KC)(i k p:Nat)(cur:KC):KC:=match nx with
 |none=>cur
 |some (s,t)=>if L.cov p i k=true then(if ZaE cur (L.pr p i+s) (1+t.length)=true then some (L.pr p i+s,((p:Int),(i:Int),(k:Int),L.pr p i,())::t) else cur) else cur
def Zai(L:Jp)(nx:KC)(i k:Nat)(cur:KC):Nat->KC
 |0=>cur
 |m+1=>Db L nx i k m (Zai L nx i k cur m)
def rowK(L:Jp)(B:Nat->KC)(i:Nat):Nat->KC
 |0=>none
 |m+1=>Zai L (B (i+m+1)) i (i+m) (rowK L B i m) L.np
def KO(L:Jp):Nat->Nat->KC
 |0,j=>if j=L.n then some (0,[]) else none
 |d+1,j=>if j=L.n - (d+1) then rowK L (KO L d) j (L.n - j) else KO L d j
inductive Div (L:Jp):Nat->Int->Prop
 |nil:Div L L.n 0
 |cons {i k p:Nat}{s:Int} (hik:i<=k) (hk:k<L.n) (hp:p<L.np) (hc:L.cov p i k=true) (h:Div L (k+1) s):Div L i (L.pr p i+s)
def Xg(c:KC)(S:Int->Prop):Prop:=match c with
 |none=>∀s,¬S s
 |some (s,_)=>S s/\ ∀a,S a->s<=a
theorem Zps{L:Jp}{nx cur:KC}{i k p:Nat}{S N:Int->Prop}(d:Xg cur S)(f:Xg nx N):Xg (Db L nx i k p cur) fun s=>S s\/(L.cov p i k=true/\ ∃s',N s' /\s=L.pr p i+s'):=by
 unfold Db
 cases nx with
 |none=>
  have:(fun s=>S s\/(L.cov p i k=true/\ ∃s',N s' /\s=L.pr p i+s'))=S:=by
   funext s;refine propext ⟨fun h=>?_,.inl⟩;rcases h with h|⟨_,s',h,_⟩
   ·exact h
   ·exact absurd h (f s')
  grind
 |some x=>
  obtain⟨s,t⟩:=x;obtain⟨m,l⟩:=f;simp only;by_cases c:L.cov p i k=true
  ·rw[if_pos c];by_cases b:ZaE cur (L.pr p i+s) (1+t.length)=true
   ·rw[if_pos b];refine⟨by grind,fun s' a=>?_⟩;rcases a with a|⟨_,g,e,rfl⟩
    ·cases cur with
     |none=>exact absurd a (d s')
     |some y=>
      obtain⟨cs,j⟩:=y;have:=d.2 s' a;simp only[ZaE,Vob,Vn,decide_eq_true_eq]at b;omega
    grind
   ·rw[if_neg b]
    cases cur with
    |none=>exact absurd rfl b
    |some y=>
     obtain⟨cs,j⟩:=y;refine⟨.inl d.1,fun s' a=>?_⟩;rcases a with a|⟨_,g,e,rfl⟩
     ·exact d.2 s' a
     ·have:=l g e;simp only[ZaE,Vob,Vn,decide_eq_true_eq]at b;omega
  simp_all
theorem Zmb{L:Jp}{nx cur:KC}{i k:Nat}{S N:Int->Prop}(b:Xg cur S)(a:Xg nx N):∀m,Xg (Zai L nx i k cur m) fun s=>S s\/ ∃p,p<m/\L.cov p i k=true/\ ∃s',N s' /\s=L.pr p i+s'
 |0=>by
  have:(fun s=>S s\/ ∃p,p<0/\L.cov p i k=true/\ ∃s',N s' /\s=L.pr p i+s')=S:=by simp
  rw[this];assumption
 |m+1=>by
  have h:=Zps (p:=m) (i:=i) (k:=k) (L:=L) (Zmb (i:=i) (k:=k) (L:=L) b a m) a
  have e:(fun s=>(S s\/ ∃p,p<m/\L.cov p i k=true/\ ∃s',N s' /\s=L.pr p i+s')\/(L.cov m i k=true/\ ∃s',N s' /\s=L.pr m i+s'))=fun s=>S s\/ ∃p,p<m+1/\L.cov p i k=true/\ ∃s',N s' /\s=L.pr p i+s' :=by
   grind
  rw[e]at h;exact h
theorem Zl9{L:Jp}{B:Nat->KC}{i:Nat}{N:Nat->Int->Prop} :∀m,(∀j,i<j->j<=i+m->Xg (B j) (N j))->Xg (rowK L B i m) fun s=>∃k,i<=k/\k<i+m/\ ∃p,p<L.np/\L.cov p i k=true/\ ∃s',N (k+1) s' /\s=L.pr p i+s'
 |0,_=>by
  intro s h
  omega
 |m+1,a=>by
  have h:=Zmb (L:=L) (i:=i) (k:=i+m) (Zl9 (L:=L) (B:=B) (i:=i) (N:=N) m (by grind)) (a (i+m+1) (by omega) (by omega)) L.np
  have e:(fun s=>(∃k,i<=k/\k<i+m/\ ∃p,p<L.np/\L.cov p i k=true/\ ∃s',N (k+1) s' /\s=L.pr p i+s')\/ ∃p,p<L.np/\L.cov p i (i+m)=true/\ ∃s',N (i+m+1) s' /\s=L.pr p i+s')=fun s=>∃k,i<=k/\k<i+(m+1)/\ ∃p,p<L.np/\L.cov p i k=true/\ ∃s',N (k+1) s' /\s=L.pr p i+s' :=by
   grind
  rw[e]at h;exact h
theorem Zqf{L:Jp}{s:Int}(h:Div L L.n s):s=0:=by
 generalize c:L.n=i at h
 cases h with
 |nil=>rfl
 |cons a b _ _ _=>omega
theorem Zqh{L:Jp}{i:Nat}(f:i<L.n){s:Int} :Div L i s↔∃k,i<=k/\k<i+(L.n - i)/\ ∃p,p<L.np/\L.cov p i k=true/\ ∃s',Div L (k+1) s' /\s=L.pr p i+s' :=by
 constructor
 ·intro h
  cases h with
  |nil=>omega
  |cons a e b c d=>grind
 ·rintro ⟨k,a,e,p,b,c,s',d,rfl⟩;exact .cons a (by omega) b c d
theorem tab_best(L:Jp):∀d,d<=L.n->∀j,L.n - d<=j->j<=L.n->Xg (KO L d j) (Div L j)
 |0,_,j,f,b=>by
  have:j=L.n:=by omega
  subst this;rw[KO,if_pos rfl]
  exact⟨.nil,fun a h=>by have:=Zqf h;omega⟩
 |d+1,o,j,f,b=>by
  rw[KO];by_cases c:j=L.n - (d+1)
  ·rw[if_pos c];have h:=Zl9 (L:=L) (B:=KO L d) (i:=j) (N:=Div L) (L.n - j) fun g l m=>tab_best L d (by omega) g (by omega) (by omega)
   have e:(fun s=>∃k,j<=k/\k<j+(L.n - j)/\ ∃p,p<L.np/\L.cov p j k=true/\ ∃a,Div L (k+1) a/\s=L.pr p j+a)=Div L j:=by funext s;exact propext (Zqh (by omega)).symm
   grind
  ·rw[if_neg c];exact tab_best L d (by omega) j (by omega) b
def Zaq(B:Nat->KC)(n i:Nat)(c:KC):Prop:= ∀s t,c=some (s,t)->∃p k q b a,t=((p:Int),(i:Int),((k:Nat):Int),(q:Int),())::a/\i<=k/\k<n/\B (k+1)=some (b,a)
theorem Zpt{L:Jp}{B:Nat->KC}{n i k p:Nat}{cur:KC}(a:i<=k)(c:k<n)(h:Zaq B n i cur):Zaq B n i (Db L (B (k+1)) i k p cur):=by
 unfold Db
 cases d:B (k+1) with
 |none=>exact h
 |some x=>
  obtain⟨s,t⟩:=x;simp only;split
  ·split
   ·intro e f b
    grind
   omega
  omega
theorem Zmc{L:Jp}{B:Nat->KC}{n i k:Nat}{cur:KC}(a:i<=k)(b:k<n)(h:Zaq B n i cur):∀m,Zaq B n i (Zai L (B (k+1)) i k cur m)
 |0=>h
 |m+1=>Zpt a b (Zmc a b h m)
theorem Zma{L:Jp}{B:Nat->KC}{n i:Nat} :∀m,i+m<=n->Zaq B n i (rowK L B i m)
 |0,_=>fun s t h=>by simp [rowK]at h
 |m+1,h=>Zmc (by omega) (by omega) (Zma m (by omega)) L.np
theorem ZhM(L:Jp):∀d e j,L.n - d<=j->d<=e->e<=L.n->KO L e j=KO L d j
 |d,e,j,a,b,c=>by
  induction e with
  |zero=>grind
  |succ e g=>
   by_cases f:d=e+1
   ·grind
   ·rw[KO,if_neg (by omega)]
    grind
theorem Zun(L:Jp){j:Nat}(r:j<L.n):Zaq (KO L L.n) L.n j (KO L L.n j):=by
 have b:KO L L.n j=rowK L (KO L (L.n - j - 1)) j (L.n - j):=by rw[ZhM L (L.n - j) L.n j (by omega) (by omega) (Vu _)];obtain⟨d,a⟩:∃d,L.n - j=d+1:=⟨L.n - j - 1,by omega⟩;rw[show L.n - j - 1=d by omega,a,KO,if_pos (by omega),a]
 have h:=Zma (L:=L) (B:=KO L (L.n - j - 1)) (n:=L.n) (i:=j) (L.n - j) (by omega);rw[b];intro s t g;obtain⟨p,k,q,l,m,c,e,f,o⟩:=h s t g;exact⟨p,k,q,l,m,c,e,f,by rw[ZhM L (L.n - j - 1) L.n (k+1) (by omega) (by omega) (Vu _)];omega⟩
theorem Zjt{L:Jp}(h:∀p i,p<L.np->0<=L.pr p i){i:Nat}{s:Int}(k:Div L i s):0<=s:=by
 induction k with
 |nil=>omega
 | @cons i k p s _ _ a _ _ b=>grind
end Dv
namespace Q
open Tr Go Dv
abbrev X4:=Bool×Int×Int×Tk×Unit
theorem ZlN(a b:Int):0<=Wt .u64 a b/\Wt .u64 a b<18446744073709551616:=by
 have c:∀x:Int,0<=Va .u64 x/\Va .u64 x<18446744073709551616:=fun x=>by simp [Va,Vt,Vr];omega
 unfold Wt
 grind
theorem Zrq(a b d:Int):∃z:Bool,F112 a b d=some z:=by
 unfold F112;by_cases h:a<=b
 ·rw[Zd h];by_cases c:d<0
  all_goals simp [*]
 ·rw[Zk h];by_cases c:d<0
  all_goals simp [*]
theorem Zp7(p:XQ)(s:List ZW)(v:s.length<=100):∃z:Bool,F110 p s=some z/\(s=[]->z=false):=by
 unfold F110;by_cases d:s=[]
 ·simp_all
 ·have h:0<s.length:=Vta.2 d;rw[Zk (by omega)];have el:Va .i64 ((s.length:Int) - 1)=((s.length - 1:Nat):Int):=by rw[Zs (by omega) (by omega)];omega
  have m:idx s (0:Int)=some s[0]:=ZH (i:=0) h;obtain⟨lt,b⟩:=Zrq (s[0]).1 (s[s.length - 1]).1 p.2.2.2.2.1;simp only[Ze,el,ZH (show s.length - 1<s.length by omega),m,Za,b]
  have e:∃c:Bool,(bif decide (p.2.2.1<(s.length:Int)) then some true else some lt)=some c:=by
   grind
  obtain⟨c,f⟩:=e;rw[f];simp only[Za]
  cases c with
  |true=>simp
  |false=>
   simp only[Ze]
   have key:∀(o:Option (Int×Int)) (k:Int×Int->Option Bool),(∃r,o=some r/\(0<=r.1/\r.1<18446744073709551616))->(∀r:Int×Int,0<=r.1->r.1<18446744073709551616->∃z,k r=some z)->∃z:Bool,Vb o k=some z/\(s=[]->z=false):=by
    simp_all
   refine key _ _ ?_ ?_
   ·refine Kq s.length _ (fun i (t:Int×Int×Int)=>∃x y,t=(x,y,(i:Int))/\0<=x/\x<18446744073709551616) ?_ ?_ _ ⟨0,0,rfl,by omega,by omega⟩
    ·rintro i _ a ⟨x,y,rfl,j,l⟩;left;simp only[ZU a,Zc,ZH a,Za,Z8 a (by omega),F111,F2];exact⟨_,rfl,_,_,rfl,(ZlN _ _).1,(ZlN _ _).2⟩
    simp_all
   ·intro r q u
    have g:F1 r.1=some ((Jl 64 r.1.toNat:Nat):Int):=by
     show lenF r.1=_;unfold lenF
     grind
    simp only[g,Za,F4]
    grind
noncomputable def RT(p:XQ)(s:List ZW):Bool:=(F110 p s).getD false
theorem Zp8(p:XQ)(s:List ZW)(a:s.length<=100):F110 p s=some (RT p s):=by
 obtain⟨z,h,_⟩:=Zp7 p s a;unfold RT
 grind
def Gs(a b d:Int):Bool:=bif decide (b<=a) then true else decide (Va .u64 (Va .u64 b - Va .u64 a)<=Va .u64 d)
theorem ZuW(a b d:Int):F18 a b d=some (Gs a b d):=by
 unfold F18 Gs
 grind
def rd0:ZW:=(0,0,0,0,())
def Dt(F:Ku)(p:XQ)(l:List ZW)(i:Nat):Int:=
 if 0<i/\Gs ((l[i - 1]?).getD rd0).2.1 ((l[i]?).getD rd0).1 F.2.2.1=true then(if 0<p.2.1 - F.2.1 then p.2.1 - F.2.1 else 0) else p.2.1
theorem ZsD(F:Ku)(p:XQ)(l:List ZW)(i:Nat)(b:i<l.length)(g:l.length<=100)(e:0<=p.2.1/\p.2.1<=1000000)(f:0<=F.2.1/\F.2.1<=1000000):F16 F p l (i:Int)=some (Dt F p l i):=by
 unfold F16 Dt;have c:Va .i64 (p.2.1 - F.2.1)=p.2.1 - F.2.1:=Zs (by omega) (by omega)
 have em:Tr.imax 0 (p.2.1 - F.2.1)=if 0<p.2.1 - F.2.1 then p.2.1 - F.2.1 else 0:=rfl
 by_cases d:0<i
 ·have a:Va .i64 ((i:Int) - 1)=((i - 1:Nat):Int):=by rw[Zs (by omega) (by omega)];omega
  rw[Zd (by omega)];simp only[Zc,a,ZH (show i - 1<l.length by omega),ZH b,Za,ZuW]
  grind
 grind
structure Zby (F:Ku):Prop where
 disc:0<=F.2.1/\F.2.1<=1000000
 cap:0<=F.2.2.2.1
 price:∀p∈F.1,0<=p.2.1/\p.2.1<=1000000
 many:F.1.length<=16
theorem ZjJ{F:Ku}(h:(J8 F).2=0):Zby F:=by
 unfold J8 at h;by_cases a:HL F=false
 ·grind
 rw[Zf a]at h;by_cases c:16<F.1.length
 ·grind
 rw[Zf c]at h;have g:=Zbb h;have a:HL F=true:=by grind
 unfold HL at a;simp only[Vn,KQ]at a;refine⟨a.1,a.2.2.1,fun p f=>?_,by omega⟩;obtain⟨i,e,rfl⟩:=Vh f;have b:=g i e;unfold Hy at b;rw[Kx e]at b;obtain⟨_,_,d⟩:=GE.1 b;have d:YK F.1[i]=true:=by grind
 unfold YK at d
 grind
noncomputable def KD(F:Ku)(l:List ZW):Jp where
 n:=l.length
 np:=F.1.length
 cov:=fun p i k=>RT ((F.1[p]?).getD p0) ((l.drop i).take (k+1 - i))
 pr:=fun p i=>Dt F ((F.1[p]?).getD p0) l i
theorem Zg6{F:Ku}(hF:Zby F){l:List ZW}{p i:Nat}(a:p<(KD F l).np):0<=(KD F l).pr p i/\(KD F l).pr p i<=1000000:=by have h:=hF.price _ (Vf (show p<F.1.length from a));have b:=hF.disc;show 0<=Dt F ((F.1[p]?).getD p0) l i/\Dt F ((F.1[p]?).getD p0) l i<=1000000;rw[Kx (by grind)];unfold Dt;omega
def Bd(n:Nat)(f:Nat->KC):Prop:= ∀j s t,j<=n->f j=some (s,t)->0<=s/\s<=1000000* ((n:Int) - (j:Int))/\t.length<=n - j
def Gv(c:KC)(r:X4):Prop:=match c with
 |none=>r.1=false
 |some (s,t)=>r.1=true/\r.2.1=s/\r.2.2.1=(t.length:Int)/\ ∀x a,t=x::a->r.2.2.2.1=x
def XR(f:Nat->KC)(T:List X4):Prop:=T.length=9/\ ∀j,j<=8->∃r,T[j]? =some r/\Gv (f j) r
theorem XR.congr{f g:Nat->KC}{T:List X4}(h:XR f T)(e:∀j,j<=8->g j=f j):XR g T:=
 ⟨h.1,fun j a=>by rw[e j a];exact h.2 j a⟩
def X1(f:Nat->KC)(i:Nat)(c:KC):Nat->KC:=fun j=>if j=i then c else f j
theorem XR.set{f:Nat->KC}{T:List X4}(h:XR f T){i:Nat}(d:i<=8){c:KC}{r:X4}(e:Gv c r):XR (X1 f i c) (T.set i r):=by
 refine⟨by rw[Vba];exact h.1,fun j b=>?_⟩;unfold X1;by_cases a:j=i
 ·subst a;rw[Zp rfl,Vea (by rw[h.1];omega)]
  grind
 ·rw[Zf a,Vz (Ne.symm a)];exact h.2 j b
theorem Gv.ok{s:Int}{t:List Tk}{r:X4}(h:Gv (some (s,t)) r):r.1=true/\r.2.1=s/\r.2.2.1=(t.length:Int)/\ ∀x a,t=x::a->r.2.2.2.1=x:=h
theorem Zo8{cur:KC}{r:X4}(h:Gv cur r)(s:Int)(c:Nat):F15 r s (c:Int)=some (ZaE cur s c):=by
 cases cur with
 |none=>
  unfold F15
  rw[show r.1=false from h];rfl
 |some x=>
  obtain⟨cs,a⟩:=x;obtain⟨b,d,f,_⟩:=Gv.ok h;unfold F15;rw[b,d,f];have e:decide ((c:Int)<(a.length:Int))=decide (c<a.length):=by simp
  rw[e];show _=some (decide (s<cs) || (decide (s=cs) &&decide (c<a.length)))
  grind
theorem Zur{F:Ku}(hF:Zby F){l:List ZW}(P:l.length<=8){f:Nat->KC}{T:List X4}(b:XR f T)(A:Bd l.length f){i k p:Nat}(C:i<=k)(O:k<l.length)(x:p<F.1.length){s:Int}{t:List Tk}(m:f (k+1)=some (s,t)):
 ∃v,F14 (i:Int) (k:Int) (p:Int) F l T=some v/\XR (X1 f i (Db (KD F l) (f (k+1)) i k p (f i))) v:=by
 unfold F14;have a:=hF.price _ (Vf x);obtain⟨J,K,L⟩:=A (k+1) s t (by omega) m;have z:Va .i64 ((k:Int)+1)=((k+1:Nat):Int):=by rw[Zs (by omega) (by omega)];omega
 have G:sliceB l.length l.length (some (i:Int)) (some ((k+1:Nat):Int))=some (i,k+1):=by
  unfold sliceB
  grind
 have u:((l.drop i).take (k+1 - i)).length<=100:=by grind
 obtain⟨R,r,c⟩:=b.2 (k+1) (by omega);obtain⟨Q,q,e⟩:=b.2 i (by omega);rw[m]at c;obtain⟨M,y,c3,N⟩:=Gv.ok c;have d:Zo ((k+1:Nat):Int) 9=some (k+1):=Ke (by omega);have h:Zo (i:Int) 9=some i:=Ke (by omega)
 have o:F16 F F.1[p] l (i:Int)=some ((KD F l).pr p i):=by
  rw[ZsD F F.1[p] l i (by omega) (by omega) a hF.disc];show _=some (Dt F ((F.1[p]?).getD p0) l i)
  grind
 have E:=Zg6 hF (l:=l) (i:=i) (by assumption)
 have g:RT F.1[p] ((l.drop i).take (k+1 - i))=(KD F l).cov p i k:=by
  show _=RT ((F.1[p]?).getD p0) ((l.drop i).take (k+1 - i))
  grind
 have H:Va .i64 ((KD F l).pr p i+s)=(KD F l).pr p i+s:=Zs (by omega) (by omega);have I:Va .i64 ((t.length:Int)+1)=((1+t.length:Nat):Int):=by rw[Zs (by omega) (by omega)];omega
 simp only[ZH x,Za,z,G,Zp8 F.1[p] _ u,g,o,d,h,r,q,y,c3,H,I];rw[m];unfold Db;simp only
 cases w:(KD F l).cov p i k with
 |false=>
  refine⟨T,rfl,b.congr fun j D=>?_⟩;unfold X1
  grind
 |true=>
  simp only[Vc,Ze,Zo8 e,Za,if_true]
  cases B:ZaE (f i) ((KD F l).pr p i+s) (1+t.length) with
  |false=>
   refine⟨T,rfl,b.congr fun j D=>?_⟩;unfold X1
   grind
  |true=>
   refine⟨_,rfl,b.set (by omega) ⟨rfl,rfl,?_,by simp⟩⟩
   all_goals grind
end Q
namespace Q
open Tr Go Dv
def GS(n i:Nat)(c:KC):Prop:= ∀s t,c=some (s,t)->0<=s/\s<=1000000* ((n:Int) - (i:Int))/\t.length<=n - i
theorem Zpr{L:Jp}{n i k p:Nat}{nx cur:KC}(c:0<=L.pr p i/\L.pr p i<=1000000)(a:i<=k)(j:k<n)(b:GS n (k+1) nx)(h:GS n i cur):GS n i (Db L nx i k p cur):=by
 unfold Db
 cases nx with
 |none=>omega
 |some x=>
  obtain⟨s,t⟩:=x;obtain⟨d,f,g⟩:=b s t rfl;simp only;split
  ·split
   ·intro l m e
    grind
   omega
  omega
theorem Zhq{L:Jp}{n i k:Nat}{nx cur:KC}(b:∀p,p<L.np->0<=L.pr p i/\L.pr p i<=1000000)(a:i<=k)(d:k<n)(e:GS n (k+1) nx)(c:GS n i cur):∀m,m<=L.np->GS n i (Zai L nx i k cur m)
 |0,_=>c
 |m+1,h=>Zpr (by grind) a d e (Zhq b a d e c m (by omega))
theorem Zhp{L:Jp}{n i:Nat}{B:Nat->KC}(a:∀p,p<L.np->0<=L.pr p i/\L.pr p i<=1000000)(b:∀j,GS n j (B j)):∀m,i+m<=n->GS n i (rowK L B i m)
 |0,_=>fun s t h=>by simp [Dv.rowK]at h
 |m+1,h=>Zhq a (by omega) (by omega) (by grind) (Zhp a b m (by omega)) L.np (Vu _)
theorem ZhL{L:Jp}(a:∀p i,p<L.np->0<=L.pr p i/\L.pr p i<=1000000):∀d,d<=L.n->∀j,GS L.n j (KO L d j)
 |0,_,j=>by
  intro s t h;rw[KO]at h
  grind
 |d+1,b,j=>by
  rw[KO];split
  ·next c=>exact Zhp (by grind) (ZhL a d (by omega)) _ (by omega)
  ·exact ZhL a d (by omega) j
theorem ZmH(L:Jp):∀d,d<=L.n->∀j,j<L.n - d->KO L d j=none
 |0,_,j,h=>by rw[KO,Zf (by omega)]
 |d+1,a,j,h=>by rw[KO,Zf (by omega)];exact ZmH L d (by omega) j (by omega)
theorem Zuy(f:Nat->KC)(i:Nat)(c c' :KC):X1 (X1 f i c) i c' =X1 f i c' :=by
 funext j;unfold X1
 grind
theorem ZeS(f:Nat->KC)(i:Nat)(c:KC):X1 f i c i=c:=Zp rfl
theorem Zbr(f:Nat->KC){i j:Nat}(c:KC)(h:j≠i):X1 f i c j=f j:=Zf h
def rz:X4:=(false,0,0,(0,0,0,0,()),())
theorem Zqi{F:Ku}(hF:Zby F){l:List ZW}(P:l.length<=8):∃T,F13 F l=some T/\XR (KO (KD F l) l.length) T:=by
 have D:∀p i,p<(KD F l).np->0<=(KD F l).pr p i/\(KD F l).pr p i<=1000000:=fun p i u=>Zg6 hF u;have y:(KD F l).n=l.length:=rfl;unfold F13;have V:(Tr.zeroEl Jt:List X4)=Vg 9 rz:=rfl;have B:Zo (l.length:Int) 9=some l.length:=Ke (by omega);have E:(Tr.zeroEl Jt:List X4)[l.length]? =some rz:=by grind
 rw[B];simp only[Za];erw[E];simp only[Za]
 have key:∀o:Option (List X4),(∃T,o=some T/\XR (KO (KD F l) l.length) T)->∃T,(Vb o fun G=>some G)=some T/\XR (KO (KD F l) l.length) T:=by simp
 refine key _ (Kq l.length _ (fun c (s:List X4×Int)=>∃T,s=(T,(l.length:Int) - 1 - (c:Int))/\XR (KO (KD F l) c) T) ?_ ?_ _ ?_)
 ·rintro c _ S ⟨T,rfl,b⟩;left;obtain⟨i,M⟩:∃i:Nat,(l.length:Int) - 1 - (c:Int)=(i:Int):=by grind
  have O:i<l.length:=by omega
  have N:i=l.length - (c+1):=by omega
  rw[M];rw[Zd (by omega)];simp only[Zc];refine XW (fun g=>XR (KO (KD F l) (c+1)) g) ?_ ?_
  ·refine Kq (l.length - i) _ (fun m (s:List X4×Int)=>∃T,s=(T,((i+m:Nat):Int))/\XR (X1 (KO (KD F l) c) i (rowK (KD F l) (KO (KD F l) c) i m)) T) ?_ ?_ _ ⟨T,rfl,b.congr fun j C=>?_⟩
   ·rintro m _ U ⟨T,rfl,b⟩;left;have I:i+m<l.length:=by omega
    simp only[ZU I,Zc];refine XW (fun g=>XR (X1 (KO (KD F l) c) i (rowK (KD F l) (KO (KD F l) c) i (m+1))) g) ?_ ?_
    ·refine Kq F.1.length _ (fun p (s:List X4×Int)=>∃T,s=(T,(p:Int))/\XR (X1 (KO (KD F l) c) i (Zai (KD F l) (KO (KD F l) c (i+m+1)) i (i+m) (rowK (KD F l) (KO (KD F l) c) i m) p)) T) ?_ ?_ _ ⟨T,rfl,b⟩
     ·rintro p _ u ⟨T,rfl,b⟩;left;have v:Va .i64 (((i+m:Nat):Int)+1)=((i+m+1:Nat):Int):=by rw[Zs (by omega) (by omega)];omega
      have A:Zo ((i+m+1:Nat):Int) 9=some (i+m+1):=Ke (by omega);obtain⟨r,Q,d⟩:=b.2 (i+m+1) (by omega);rw[Zbr _ _ (by omega)]at d;simp only[ZU u,Zc,v,A,Q,Za,Z8 u (show F.1.length<=9223372036854775807 by have:=hF.many;omega)]
      cases f:KO (KD F l) c (i+m+1) with
      |none=>
       rw[f]at d;rw[show r.1=false from d];refine⟨_,rfl,T,rfl,?_⟩;rw[f]at b
       assumption
      |some x=>
       obtain⟨s,t⟩:=x;rw[f]at d;obtain⟨R,_⟩:=Gv.ok d;rw[R];simp only[Zc]
       have w:Bd l.length (X1 (KO (KD F l) c) i (Zai (KD F l) (KO (KD F l) c (i+m+1)) i (i+m) (rowK (KD F l) (KO (KD F l) c) i m) p)):=by
        intro j J K C e;have h:=ZhL D c (by omega);by_cases a:j=i
        ·subst a;rw[ZeS]at e;exact Zhq (n:=l.length) (by grind) (by omega) (by omega) (h _) (Zhp (by grind) h m (by omega)) p (show p<=F.1.length by omega) J K e
        ·rw[Zbr _ _ a]at e;exact h j J K e
       obtain⟨g,L,H⟩:=Zur hF P b w (i:=i) (k:=i+m) (p:=p) (by omega) I u (s:=s) (t:=t) (by rw[Zbr _ _ (by omega)];omega);rw[L];refine⟨_,rfl,g,rfl,?_⟩;rw[Zuy,ZeS,Zbr _ _ (by omega)]at H;rw[f]at H
       assumption
     ·rintro _ ⟨T,rfl,b⟩;simp only[Jy,Ze];exact⟨_,rfl,b⟩
    ·intro g z;have v:Va .i64 (((i+m:Nat):Int)+1)=((i+(m+1):Nat):Int):=by rw[Zs (by omega) (by omega)];omega
     grind
   ·rintro _ ⟨T,rfl,b⟩;rw[show i+(l.length - i)=l.length by omega];simp only[Jy,Ze];refine⟨_,rfl,b.congr fun j C=>?_⟩;rw[KO];by_cases a:j=i
    ·subst a;rw[Zp (by omega),ZeS];rfl
    ·rw[Zf (by omega),Zbr _ _ a]
   ·by_cases a:j=i
    ·subst a;rw[ZeS,ZmH (KD F l) c (by omega) j (by omega)];rfl
    ·rw[Zbr _ _ a]
  ·intro g z;have v:Va .i64 ((i:Int) - 1)=(l.length:Int) - 1 - ((c+1:Nat):Int):=by rw[Zs (by omega) (by omega)];omega
   grind
 ·grind
 ·refine⟨(Vg 9 rz).set l.length (true,rz.2),?_,by simp,fun j C=>?_⟩
  ·rw[Zs (by omega) (by omega)]
   grind
  ·rw[KO];by_cases q:j=l.length
   ·subst q;rw[Zp y.symm,Vea (by grind)];exact⟨_,rfl,rfl,rfl,rfl,by simp⟩
   ·rw[Zf (by omega),Vz (Ne.symm q),List.getElem?_replicate,Zp (by omega)];exact⟨_,rfl,rfl⟩
def ZfR(F:Ku)(s:Int):Int:=if 0<F.2.2.2.1/\F.2.2.2.1<s then F.2.2.2.1 else s
theorem Zpv(F:Ku)(s:Int):F12 F s=some (ZfR F s):=by
 unfold F12 ZfR
 grind
end Q
namespace Q
open Tr Go Dv
def Yn(x:Zv):Int:=if x.1=true\/x.2.2.2.2.2.2.1<0\/x.2.2.2.2.2.2.2.1<x.2.2.2.2.2.2.1\/14400<x.2.2.2.2.2.2.2.1 - x.2.2.2.2.2.2.1 then 0 else x.2.2.2.2.2.2.2.1 - x.2.2.2.2.2.2.1
def KE(l:List Zv):Int:=(l.map Yn).sum
theorem Zna(x:Zv):0<=Yn x/\Yn x<=14400:=by unfold Yn;omega
theorem ZcT(a b:List Zv):KE (a++b)=KE a+KE b:=by unfold KE;simp
theorem ZhT:∀l:List Zv,0<=KE l/\KE l<=14400* (l.length:Int)
 |[]=>by simp [KE]
 |x::l=>by
  have a:=Zna x;have b:=ZhT l;unfold KE at*
  grind
def Zar(x:Zv):Prop:=x.2.2.2.2.2.2.2.1<=9223372036854775807
theorem Zng(j:GV)(l:j.1.length<=1000)(f:∀x∈j.1,Zar x):F82 j=some (KE j.1):=by
 unfold F82;refine KF (fun r=>r=KE j.1) ?_ (by simp);refine Kq j.1.length _ (fun i (s:Int×Int)=>s=(KE (j.1.take i),(i:Int))) ?_ ?_ _ rfl
 ·rintro i _ a rfl;left;have h:=f _ (Vf a);have g:=ZhT (j.1.take i);rw[List.length_take]at g;refine⟨_,?_,rfl⟩;rw[Vi a,ZcT];generalize KE (j.1.take i)=W at*;simp only[ZU a,Zc,ZH a,Za,Z8 a (by omega)];generalize j.1[i]=x at*;unfold Zar at h;have e0:KE [x]=Yn x:=by simp [KE]
  rw[e0];unfold Yn
  cases k:x.1 with
  |true=>
   simp
  |false=>
   simp only[Ze];by_cases c:x.2.2.2.2.2.2.1<0
   ·grind
   ·rw[Zk c];by_cases d:x.2.2.2.2.2.2.2.1<x.2.2.2.2.2.2.1
    ·grind
    ·rw[Zk d];have b:Va .i64 (x.2.2.2.2.2.2.2.1 - x.2.2.2.2.2.2.1)=x.2.2.2.2.2.2.2.1 - x.2.2.2.2.2.2.1:=Zs (by omega) (by omega);simp only[Ze,b,Za];by_cases e:14400<x.2.2.2.2.2.2.2.1 - x.2.2.2.2.2.2.1
     ·grind
     ·rw[Zk e,Zf (by grind),Zs (by omega) (by omega)];rfl
 simp
end Q
namespace Q
open Tr Go Dv
def Small(v:ZW):Prop:=(0<=v.2.2.1/\v.2.2.1<65536)/\(0<=v.2.2.2.1/\v.2.2.2.1<65536)
theorem ZlM{a b:Int}(c:0<=a/\a<65536)(d:0<=b/\b<65536):0<=Wt .i64 a b/\Wt .i64 a b<65536:=by obtain⟨x,rfl⟩:∃x:Nat,a=(x:Int):=⟨_,(Vxa c.1).symm⟩;obtain⟨y,rfl⟩:∃y:Nat,b=(y:Int):=⟨_,(Vxa d.1).symm⟩;rw[GJ (by omega) (by omega)];have:x ||| y<2 ^ 16:=Vx (n:=16) (by omega) (by omega);omega
theorem Zrr(a b d:Int)(f:0<=d):F112 a b d=some (!Gs a b d):=by
 unfold F112 Gs
 have g:∀x:Int,0<=Va .u64 x:=fun x=>by simp [Va,Vt,Vr];omega
 rw[Zk (show¬d<0 by omega)];by_cases h:a<=b
 ·rw[Zd h];by_cases c:b<=a
  ·have e:a=b:=by omega
   subst e;rw[Zd c];have e0:Va .u64 (Va .u64 a - Va .u64 a)=0:=by rw[Int.sub_self];rfl
   grind
  ·rw[Zk c];simp only[Zc,Ze,Za];congr 1
   grind
 grind
def zF(s:List ZW):Nat:=s.foldl (fun a v=>a ||| v.2.2.1.toNat) 0
def mF(s:List ZW):Nat:=s.foldl (fun a v=>a ||| v.2.2.2.1.toNat) 0
theorem Zgj{f:ZW->Int} :∀(s:List ZW) (a:Nat),(∀v∈s,0<=f v/\f v<65536)->a<65536->s.foldl (fun a v=>a ||| (f v).toNat) a<65536
 |[],a,_,h=>h
 |v::s,a,b,h=>by rw[List.foldl_cons];refine Zgj s _ (by grind) ?_;have c:=b v List.mem_cons_self;have:a ||| (f v).toNat<2 ^ 16:=Vx (n:=16) (by omega) (by omega);omega
theorem Znm{s:List ZW}(a:∀v∈s,Small v):zF s<65536:=Zgj (f:=fun v=>v.2.2.1) s 0 (fun v b=>(a v b).1) (by omega)
theorem ZrP{s:List ZW}(a:∀v∈s,Small v):mF s<65536:=Zgj (f:=fun v=>v.2.2.2.1) s 0 (fun v b=>(a v b).2) (by omega)
def cvB(p:XQ)(s:List ZW):Bool:=
 decide ((s.length:Int)<=p.2.2.1) && (decide (((Y6 62 (zF s):Nat):Int)<=p.2.2.2.1) && (Gs ((s[0]?).getD rd0).1 ((s[s.length - 1]?).getD rd0).1 p.2.2.2.2.1&&decide (Tr.qandNot .i64 ((mF s:Nat):Int) p.2.2.2.2.2.1=0)))
theorem Zoa(a b:Int):decide (Tr.qandNot .u64 a (Va .u64 b)=0)=decide (Tr.qandNot .i64 a b=0):=by
 have d:Vp 64 (Va .u64 b)=Vp 64 b:=by apply BitVec.eq_of_toNat_eq;rw[Vya,Vya];simp only[Va,Vt,Vr];omega
 unfold Tr.qandNot;show decide (Vhb.wrap ((Vp 64 a &&& ~~~ Vp 64 (Va .u64 b)).toNat:Int)=0)=decide (Vgb.wrap ((Vp 64 a &&& ~~~ Vp 64 b).toNat:Int)=0);rw[d];have c:=by omega
 generalize (Vp 64 a &&& ~~~ Vp 64 b).toNat=N at*;refine decide_eq_decide.2 ?_;simp only[Va,Vt,Vr]
 grind
theorem Zjr{p:XQ}{s:List ZW}(e:∀v∈s,Small v)(c:0<s.length)(d:s.length<=100)(h:0<=p.2.2.2.2.1):F110 p s=some (cvB p s):=by
 unfold F110 cvB;rw[Zk (by omega)];have el:Va .i64 ((s.length:Int) - 1)=((s.length - 1:Nat):Int):=by rw[Zs (by omega) (by omega)];omega
 have m:idx s (0:Int)=some s[0]:=ZH (i:=0) c;have b:s.length - 1<s.length:=by omega
 simp only[Ze,el,ZH b,m,Za,Zrr _ _ _ h];rw[Kx c,Kx b];by_cases g:p.2.2.1<(s.length:Int)
 ·grind
 rw[Zk g,Zd (by omega)]
 cases B:Gs (s[0]).1 (s[s.length - 1]).1 p.2.2.2.2.1 with
 |false=>
  simp
 |true=>
  simp only[Vc,Ze,Za];refine KF (fun r:Int×Int=>r=(((zF s:Nat):Int),((mF s:Nat):Int))) ?_ ?_
  ·refine Kq s.length _ (fun i (t:Int×Int×Int)=>t=(((zF (s.take i):Nat):Int),((mF (s.take i):Nat):Int),(i:Int))) ?_ ?_ _ rfl
   ·rintro i _ a rfl;left;have j:=e _ (Vf a);have D:=Znm (s:=s.take i) (by grind);have E:=ZrP (s:=s.take i) (by grind);have f:zF (s.take (i+1))=zF (s.take i) ||| (s[i]).2.2.1.toNat:=by unfold zF;rw[Vi a,Vbb];rfl
    have em:mF (s.take (i+1))=mF (s.take i) ||| (s[i]).2.2.2.1.toNat:=by unfold mF;rw[Vi a,Vbb];rfl
    refine⟨_,?_,rfl⟩;rw[f,em];generalize zF (s.take i)=Z at*;generalize mF (s.take i)=M at*;simp only[ZU a,Zc,ZH a,Za,Z8 a (by omega),F111,F2];generalize s[i]=v at*;obtain⟨⟨u,w⟩,z,A⟩:=j;obtain⟨x,k⟩:∃x:Nat,v.2.2.1=(x:Int):=by grind
    obtain⟨y,l⟩:∃y:Nat,v.2.2.2.1=(y:Int):=by grind
    have o:Va .u64 (x:Int)=(x:Int):=by simp [Va,Vt,Vr];omega
    have q:Va .u64 (y:Int)=(y:Int):=by simp [Va,Vt,Vr];omega
    rw[k,l,o,q,Zeo (by omega) (by omega),Zeo (by omega) (by omega)];simp
   simp
  ·rintro r rfl;have C:=Znm e
   have d:F1 ((zF s:Nat):Int)=some ((Y6 62 (zF s):Nat):Int):=by show lenF ((zF s:Nat):Int)=_;unfold lenF;rw[Zd ⟨by omega,by omega⟩,Vs,Zsw (by omega)];rfl
   simp only[d,Za,F4,Zoa]
   grind
end Q
namespace Q
open Tr Go Dv
theorem Zqz{F:Ku}(h:(J8 F).2=0):∀p∈F.1,0<=p.2.2.2.2.1:=by
 unfold J8 at h;by_cases e:HL F=false
 ·grind
 rw[Zf e]at h;by_cases b:16<F.1.length
 ·grind
 rw[Zf b]at h;have g:=Zbb h;intro p f;obtain⟨i,d,rfl⟩:=Vh f;have a:=g i d;unfold Hy at a;rw[Kx d]at a;obtain⟨_,_,c⟩:=GE.1 a;have c:YK F.1[i]=true:=by grind
 unfold YK at c
 grind
theorem Zp5{F:Ku}(c:(J8 F).2=0){l:List ZW}(g:∀v∈l,Small v)(f:l.length<=100){p i k:Nat}(b:p<F.1.length)(d:i<=k)(e:k<l.length):(KD F l).cov p i k=cvB F.1[p] ((l.drop i).take (k+1 - i)):=by
 show RT ((F.1[p]?).getD p0) ((l.drop i).take (k+1 - i))=_;rw[Kx b];have a:((l.drop i).take (k+1 - i)).length=k+1 - i:=by grind
 have:=Zjr (p:=F.1[p]) (s:=(l.drop i).take (k+1 - i)) (by grind) (by omega) (by omega) (Zqz c _ (Vf b));unfold RT
 grind
abbrev Zap:=Bool×Int×List Tk×Unit
def Zc7(c:KC)(r:Zap):Prop:=match c with
 |none=>r.1=false
 |some (s,t)=>r.1=true/\r.2.1=s/\r.2.2.1=t
def Zas(n:Nat)(f:Nat->KC)(T:List Zap):Prop:=T.length=n+1/\ ∀j,j<=n->∃r,T[j]? =some r/\Zc7 (f j) r
theorem Zc7.ok{s:Int}{t:List Tk}{r:Zap}(h:Zc7 (some (s,t)) r):r.1=true/\r.2.1=s/\r.2.2.1=t:=h
theorem Zas.congr{n:Nat}{f g:Nat->KC}{T:List Zap}(h:Zas n f T)(e:∀j,j<=n->g j=f j):Zas n g T:=
 ⟨h.1,fun j a=>by rw[e j a];exact h.2 j a⟩
theorem Zas.set{n:Nat}{f:Nat->KC}{T:List Zap}(h:Zas n f T){i:Nat}(d:i<=n){c:KC}{r:Zap}(e:Zc7 c r):Zas n (X1 f i c) (T.set i r):=by
 refine⟨by rw[Vba];exact h.1,fun j b=>?_⟩;unfold X1;by_cases a:j=i
 ·subst a;rw[Zp rfl,Vea (by rw[h.1];omega)]
  grind
 ·rw[Zf a,Vz (Ne.symm a)];exact h.2 j b
end Q
namespace Q
open Tr Go Dv
theorem Zup{F:Ku}{l:List ZW}(N:l.length<=8){T:List X4}(D:XR (KO (KD F l) l.length) T):∀(m i:Nat) (acc:List Tk),l.length - i=m->i<=l.length->acc.length<=i->∀(t:List Tk),(∃s,KO (KD F l) l.length i=some (s,t))->run
 (fun d:List Tk×Int=>
 bif decide (d.2<(↑(Vj l):Int)) then
 Vb (Zo d.2 (9:Nat)) fun h=>
 Vb T[h]? fun e=>
 Vb (ZD (decide (Vj d.1+Vj [e.2.2.2.1]<=ZE))) fun _=>
 Vb (Zo d.2 (9:Nat)) fun j=>
 Vb T[j]? fun o=>some (.inl (d.1++[e.2.2.2.1],Va .i64 (o.2.2.2.1.2.2.1+(1:Int))))
 else some (.inr d.1))
 (acc,(i:Int))=some (acc++t):=by
  intro m
  induction m using Vla with
  |_ m H=>
   intro i acc O L v t x;by_cases g:i<l.length
   ·obtain⟨s,b⟩:=x;obtain⟨p,k,q,I,J,u,K,B,C⟩:=Zun (KD F l) (by assumption) s t b;obtain⟨r,E,w⟩:=D.2 i (by omega);rw[b]at w;obtain⟨_,_,_,y⟩:=Gv.ok w;have a:=y _ _ u;have f:Zo (i:Int) 9=some i:=Ke (by omega);have M:k<l.length:=B;have A:Va .i64 ((k:Int)+1)=((k+1:Nat):Int):=by rw[Zs (by omega) (by omega)];omega
    have c:∀z:List Tk×Int,z=(acc++[((p:Int),(i:Int),((k:Nat):Int),(q:Int),())],((k+1:Nat):Int))->(bif decide ((i:Int)<(↑(Vj l):Int)) then
     Vb (Zo (i:Int) (9:Nat)) fun h=>
     Vb T[h]? fun e=>
     Vb (ZD (decide (Vj acc+Vj [e.2.2.2.1]<=ZE))) fun _=>
     Vb (Zo (i:Int) (9:Nat)) fun j=>
     Vb T[j]? fun o=>(some (.inl (acc++[e.2.2.2.1],Va .i64 (o.2.2.2.1.2.2.1+(1:Int)))):Option ((List Tk×Int) ⊕ List Tk))
     else some (.inr acc))=some (.inl z):=by
     rintro z rfl;simp only[ZU g,Zc,f,E,Za,a,A];rw[Dk (by grind)];rfl
    rw[HT (c _ rfl)];rw[H (l.length - (k+1)) (by omega) (k+1) _ rfl (by omega) (by grind) J ⟨I,C⟩,u];simp
   ·have:i=l.length:=by omega
    subst this;obtain⟨s,b⟩:=x;rw[ZhM (KD F l) 0 l.length l.length (by assumption) (Vm _) (Vu _),KO,Zp (by rfl)]at b;have G:t=[]:=by grind
    subst G;rw[Vna];exact Ym (by simp)
theorem ZqP{F:Ku}(d:(J8 F).2=0)(j:∀x∈F.1,x.1.length<=9223372036854775807)(l:List ZW)(o:l.length<=1000):
 (8<l.length/\F11 F l=some (0,[],33))\/(l.length<=8/\KO (KD F l) l.length 0=none/\F11 F l=some (0,[],34))\/(l.length<=8/\ ∃s t,KO (KD F l) l.length 0=some (s,t)/\F11 F l=some (ZfR F s,t,0)):=by
 have i:=ZjJ d;unfold F11 F17;rw[Zgf F j];simp only[Za,Zd d,Vc,Ze];by_cases m:8<l.length
 ·grind
 ·right;rw[Zk (by omega)];simp only[Ze,Za,decide_true,Vc];obtain⟨T,h,e⟩:=Zqi i (show l.length<=8 by omega);rw[h];simp only[Za];obtain⟨r,k,b⟩:=e.2 0 (by omega);rw[show Int.toNat (0:Int)=0 from rfl,k];simp only[Za]
  cases a:KO (KD F l) l.length 0 with
  |none=>
   left;rw[a]at b;rw[show r.1=false from b]
   grind
  |some x=>
   right;obtain⟨s,t⟩:=x;rw[a]at b;obtain⟨f,g,_,_⟩:=Gv.ok b;have c:=Zup (by omega) e l.length 0 [] rfl (Vm _) (Vu _) t ⟨s,a⟩;refine⟨by omega,s,t,rfl,?_⟩;rw[f];simp only[Vc,Ze];refine KF (fun y=>y=t) ⟨_,c,rfl⟩ ?_;rintro y rfl;simp only[g,Zpv,Za]
abbrev YR:=Int×Int×Int×Int×Int×Unit
end Q
