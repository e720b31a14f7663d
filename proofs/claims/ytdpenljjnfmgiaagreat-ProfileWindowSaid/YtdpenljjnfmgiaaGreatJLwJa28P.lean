/- Plain laws: shortest walks and closures. -/
import Derived.Test.YtdpenljjnfmgiaaGreatFin45hc
noncomputable section
open BitVec renaming ofInt ->Vha
open Bool renaming not_true ->Vc,or_eq_false_iff ->Vi,not_eq_true ->Vl,and_eq_true ->Vn,not_false ->Vo,not_eq_false' ->Vw,true_and ->Vx,false_eq_true ->Vba
open Int renaming toNat_natCast ->Vp,le_refl ->Vca,min_eq_right ->Vxa
open Go.IntKind renaming wrap ->Va,bits ->Vz,signed ->Vaa,i64 ->Vfb,u64 ->Vgb
open List renaming getElem?_eq_getElem ->Vd,getElem_mem ->Vf,replicate ->Vg,getElem_of_mem ->Vj,take_succ_eq_append_getElem ->Vm,length_append ->Vq,range ->Vr,length ->Vs,set ->Vt,length_set ->Vu,getElem?_set_ne ->Vy,drop_eq_getElem_cons ->Vda,append_assoc ->Vfa,pairwise_lt_range ->Vja,getElem?_set_self ->Vka,take ->Vla,length_replicate ->Vma,getElem?_eq_none ->Vna,pairwise_flatMap ->Voa,replicate_succ' ->Vpa,length_pos_iff ->Vqa,mem_cons ->Vra,flatMap_append ->Vsa,mem_map ->Vua,ext_getElem? ->Vva,take_length ->Vwa,mem_flatMap ->Vya,mem_append ->Vab,length_map ->Vbb,range_succ ->Vcb,append_nil ->Vdb,isEmpty ->Veb
open Nat renaming zero_le ->Vk,le_refl ->Vv,or_lt_two_pow ->Vga,strongRecOn ->Vza
open Option renaming bind ->Vb,getD ->Ve,isSome ->Vea
open Prod.mk renaming injEq ->Vta
open Sum renaming elim_inl ->Vh,elim ->Via
open Option renaming some ->Ua,none ->Ub
open Bool renaming true ->Uc,false ->Ud
open Decidable renaming decide ->Ue
namespace Gr
inductive Wk (Ed:Nat->Nat->Int->Prop) (s:Nat):Nat->Int->Prop
 |nil:Wk Ed s s 0
 |snoc {u v:Nat}{d w:Int} (h:Wk Ed s u d) (e:Ed u v w):Wk Ed s v (d+w)
def Least(Ed:Nat->Nat->Int->Prop)(s v:Nat)(d:Int):Prop:=Wk Ed s v d/\∀a,Wk Ed s v a->d<=a
theorem Wk.nonneg{Ed}(a:∀u v w,Ed u v w->0<=w){s v d}(h:Wk Ed s v d):0<=d:=by
 induction h with|nil=>omega|snoc h e b=>grind
theorem ZvD{Ed}(g:∀u v w,Ed u v w->0<=w){s}{S:Nat->Prop}{L:Nat->Int}{O:Nat->Int->Prop}{m}
 (a:∀u,S u->∀d,Wk Ed s u d->L u<=d) (b:S s\/∃l,O s l/\l<=0) (c:∀u v w,S u->Ed u v w->S v\/∃l,O v l/\l<=L u+w) (f:∀v l,O v l->m<=l):
 ∀{v}{d},Wk Ed s v d->S v\/m<=d:=by
 intro v d h
 induction h with
 |nil=>
  grind| @snoc u v d w h e i=>
   grind
theorem ZtU{Ed s}{S:Nat->Prop}{L:Nat->Int}{O:Nat->Int->Prop}
 (a:S s\/∃l,O s l/\l<=0) (b:∀u v w,S u->Ed u v w->S v\/∃l,O v l/\l<=L u+w) (c:∀v l,¬O v l):∀{v}{d},Wk Ed s v d->S v:=by
 intro v d h
 induction h with|nil| @snoc _ _ _ _ _ _ _=>grind
theorem Wk.dom{Ed a}(h:∀u v w,Ed u v w->∃w',a u v w' /\w' <=w){s v d}(k:Wk Ed s v d):∃b,Wk a s v b/\b<=d:=by
 induction k with
 |nil=>exact⟨0,.nil,Vca _⟩|snoc k e g=>
  have⟨b,c,i⟩:=g;have⟨w',f,j⟩:=h _ _ _ e;exact⟨_,.snoc c f,by omega⟩
inductive Wb (Ed:Nat->Nat->Int->Prop) (k:Nat):Nat->Nat->Int->Prop
 |one {i j:Nat}{w:Int} (e:Ed i j w):Wb Ed k i j w
 |cons {i m j:Nat}{w d:Int} (e:Ed i m w) (hm:m<k) (h:Wb Ed k m j d):Wb Ed k i j (w+d)
theorem Wb.nonneg{Ed}(a:∀u v w,Ed u v w->0<=w){k i j d}(h:Wb Ed k i j d):0<=d:=by
 induction h with|one _|cons _ _ _ _=>grind
theorem Wb.round{Ed}(r:∀u v w,Ed u v w->0<=w){k i j d}(h:Wb Ed (k+1) i j d):
 (∃b,b<=d/\Wb Ed k i j b)\/∃f c,f+c<=d/\Wb Ed k i k f/\Wb Ed k k j c:=by
 induction h with
 |one e=>exact .inl ⟨_,Vca _,.one e⟩| @cons i m j w d e s h q=>
   by_cases p:m=k
   .subst p;obtain⟨b,l,a⟩|⟨f,c,l,a,o⟩:=q
    .exact .inr ⟨w,b,by omega,.one e,a⟩
    have:=a.nonneg r;exact .inr ⟨w,c,by omega,.one e,o⟩
   have g:m<k:=by omega
   obtain⟨b,l,a⟩|⟨f,c,l,a,o⟩:=q;.exact .inl ⟨w+b,by omega,.cons e g a⟩
   exact .inr ⟨w+f,c,by omega,.cons e g a,o⟩
theorem Wb.app{Ed k i m j b c}(g:m<k)(h:Wb Ed k i m b)(f:Wb Ed k m j c):Wb Ed k i j (b+c):=by
 induction h with
 |one e=>exact .cons e g f| @cons i p o w d e a _ l=>
   have:=Wb.cons e a (l g f);grind
theorem Wb.wk{Ed k s i j d a}(b:Wk Ed s i a)(h:Wb Ed k i j d):Wk Ed s j (a+d):=by
 induction h generalizing a with
 |one e=>exact .snoc b e|cons e _ _ c=>
  have:=c (.snoc b e);grind
theorem Wb.snoc{Ed k i j v d w}(a:j<k)(h:Wb Ed k i j d)(e:Ed j v w):Wb Ed k i v (d+w):=h.app a (.one e)
theorem Wk.wb{Ed n s v d}(c:∀u v w,Ed u v w->u<n/\v<n)(h:Wk Ed s v d):(v=s/\d=0)\/Wb Ed n s v d:=by
 induction h with
 |nil=>omega| @snoc u v d w h e b=>
   obtain⟨rfl,rfl⟩|a:=b;.right;rw[Int.zero_add];exact .one e
   exact .inr (a.snoc (by grind) e)
end Gr
namespace Q
open Tr Go
abbrev GO:=Int×Int×Int×Unit
abbrev Nd:=GO×Int×Unit
abbrev Hp:=Unit×V Nd×Int×Unit
def ZjG(a b:GO):Bool:=Ue (a.2.1<b.2.1\/(a.2.1=b.2.1/\a.2.2.1<b.2.2.1))
def K4(a b:Nd):Bool:=Ue (a.1.2.1<b.1.2.1\/(a.1.2.1=b.1.2.1/\(a.1.2.2.1<b.1.2.2.1\/(a.1.2.2.1=b.1.2.2.1/\a.2.1<b.2.1))))
def le(a b:Nd):Prop:= ¬(b.1.2.1<a.1.2.1\/(b.1.2.1=a.1.2.1/\(b.1.2.2.1<a.1.2.2.1\/(b.1.2.2.1=a.1.2.2.1/\b.2.1<a.2.1))))
theorem le_refl a:le a a:=by unfold le;omega
theorem le_trans{a b c}(h:le a b)(k:le b c):le a c:=by unfold le at*;omega
theorem ZjC{a b}(h:K4 a b=Uc):le a b:=by unfold K4 at h;unfold le;grind
theorem ZjD{a b}(h:K4 a b=Ud):le b a:=by exact of_decide_eq_false h
theorem Zwd{a b}(h:le a b):a.1.2.1<=b.1.2.1:=by unfold le at h;omega
def nd0:Nd:=((0,0,0,()),0,())
def Z1(l:V Nd)(k:Nat):Nd:=(l[k]?).getD nd0
theorem ZdD{l k}(h:k<l.length):l[k]? =Ua (Z1 l k):=by simp[Z1,h]
theorem ZlH{l i}(h:i<l.length) b k:Z1 (l.set i b) k=if k=i then b else Z1 l k:=by unfold Z1;grind
def J4(l:V Nd)(i k:Nat):V Nd:=(l.set i (Z1 l k)).set k (Z1 l i)
theorem Zai l i k:(J4 l i k).length=l.length:=by simp[J4]
theorem Ra{l i k}(a:i<l.length)(b:k<l.length) j:Z1 (J4 l i k) j=if j=k then Z1 l i else if j=i then Z1 l k else Z1 l j:=by unfold J4;rw[ZlH (by grind),ZlH a]
theorem Zkz{l i k}(a:i<l.length)(b:k<l.length):(J4 l i k).Perm l:=by
 have c:Z1 l k=l[k]:=by simp[Z1,b]
 have d:Z1 l i=l[i]:=by simp[Z1,a]
 unfold J4;grind
theorem Zwr(a b:GO):F182 a b=Ua (ZjG a b):=by unfold F182 ZjG;grind
theorem Zic{l:V Nd}{c:Int}{i k}(a:i<l.length)(b:k<l.length):F47 ((),l,c,()) (i:Int) (k:Int)=Ua (((),l,c,()),K4 (Z1 l i) (Z1 l k)):=by
 unfold F47;simp[Kz a,Kz b,ZdD a,ZdD b,Zwr];unfold ZjG K4;by_cases d:(Z1 l i).1.2.1<(Z1 l k).1.2.1\/((Z1 l i).1.2.1=(Z1 l k).1.2.1/\(Z1 l i).1.2.2.1<(Z1 l k).1.2.2.1);.grind
 rw[Zm d];simp only[Ze];by_cases e:(Z1 l k).1.2.1<(Z1 l i).1.2.1\/((Z1 l k).1.2.1=(Z1 l i).1.2.1/\(Z1 l k).1.2.2.1<(Z1 l i).1.2.2.1);.rw[Zi e];simp only[Zf];rw[Zm (by omega)]
 grind
theorem ZkA{l:V Nd}{c:Int}{i k}(b:i<l.length)(d:k<l.length):F49 ((),l,c,()) (i:Int) (k:Int)=Ua ((),J4 l i k,c,()):=by
 unfold F49;have a:k<(Vt l i (Z1 l k)).length:=by grind
 simp[Kz b,Kz d,ZdD b,ZdD d,Za];rw[Vd a];rfl
def Y1(l:V Nd):Prop:= ∀k,0<k->k<l.length->le (Z1 l ((k - 1) / 2)) (Z1 l k)
theorem ZvM{l}(h:Y1 l):∀k,k<l.length->le (Z1 l 0) (Z1 l k):=by
 intro k
 induction k using Vza with
 |ind k c=>
  intro b;by_cases a:k=0;.subst a;exact le_refl _
  exact le_trans (by grind) (h k (by omega) b)
def Up(l:V Nd)(i:Nat):Prop:=
 i<l.length/\(∀k,0<k->k<l.length->k≠i->le (Z1 l ((k - 1) / 2)) (Z1 l k))/\∀k,0<k->k<l.length->(k - 1) / 2=i->0<i->le (Z1 l ((i - 1) / 2)) (Z1 l k)
theorem ZzF{l i}(h:Up l i)(t:0<i)(q:K4 (Z1 l i) (Z1 l ((i - 1) / 2))=Uc):Up (J4 l i ((i - 1) / 2)) ((i - 1) / 2):=by
 have⟨g,j,s⟩:=h;have d:(i - 1) / 2<l.length:=by omega
 have m:=ZjC q;refine⟨by rw[Zai];omega,λk o f p=>?_,λk o f p r=>?_⟩
 .rw[Zai]at f;rw[Ra g d,Ra g d];by_cases c:k=i
  .grind
  rw[Zg p,Zg c];by_cases u:(k - 1) / 2=i;.grind
  by_cases e:(k - 1) / 2=(i - 1) / 2;.rw[Zn e];have:=j k o f c;rw[e]at this;exact le_trans m this
  grind
 rw[Zai]at f;rw[Ra g d,Ra g d,Zg (by omega),Zg (by omega)];by_cases c:k=i;.grind
 rw[Zg (by omega),Zg c];have a:=j _ r d (by omega);have b:=j k o f c;rw[p]at b;exact le_trans a b
theorem Zo9{l}{c:Int}(x:GO)(h:Y1 l)(E:l.length<2147483648):
 ∃z:Hp,F46 ((),l,c,()) x=Ua z/\z.2.2.1=Va .i64 (c+1)/\Y1 z.2.1/\z.2.1.Perm (l++[(x,c,())]):=by
 have b:(l++[(x,c,())]).length=l.length+1:=by simp
 have A:Up (l++[(x,c,())]) l.length:=by
  refine⟨by omega,λk d g F=>?_,by omega⟩;have e:∀j,j<l.length->Z1 (l++[(x,c,())]) j=Z1 l j:=λj C=>by simp[Z1,List.getElem?_append_left C]
  rw[e _ (by omega),e _ (by omega)];exact h k d (by omega)
 unfold F46;have w:Zw (decide (l.length+ [((x,c,()))].length<=Zt))=Ua ():=by rw[Zi (by simp[Zt];omega)];rfl
 have y:Va .i64 (((l++[(x,c,())]).length) - 1)=l.length:=by rw[b,ZB (by omega) (by omega)];omega
 simp only[w,Za,y];refine run_bind (λs=>∃(m:V Nd) (i:Nat),s=(((),m,Va .i64 (c+1),()),(i:Int))/\Up m i/\m.Perm (l++[(x,c,())])) (λs=>s.2.toNat)
  (λr=>∃m,r=((),m,Va .i64 (c+1),())/\Y1 m/\m.Perm (l++[(x,c,())])) ⟨_,l.length,rfl,A,.refl _⟩ ?_ ?_
 .rintro s ⟨m,i,rfl,a,f⟩;have D:m.length=l.length+1:=by rw[f.length_eq,b]
  by_cases B:0<i
  .have t:Va .i64 (i - 1)=((i - 1:Nat)):=by have:=a.1;rw[ZB (by omega) (by omega)];omega
   have u:Int.tdiv ((i - 1:Nat)) 2=(((i - 1) / 2:Nat)):=by rfl
   have v:Va .i64 ((((i - 1) / 2:Nat)))=(((i - 1) / 2:Nat)):=by have:=a.1;exact ZB (by omega) (by omega)
   have o:(i - 1) / 2<m.length:=by have:=a.1;omega
   simp only[show Ue (0<(i:Int))=Uc from (by grind),Zf,t,u,v,Zic a.1 o,Za]
   cases p:K4 (Z1 m i) (Z1 m ((i - 1) / 2)) with
   |true=>
    left;refine⟨_,by simp only[Zf,ZkA a.1 o,Za],⟨J4 m i ((i - 1) / 2),(i - 1) / 2,rfl,ZzF a B p,(Zkz a.1 o).trans f⟩,?_⟩
    omega|false=>
    right;refine⟨_,rfl,m,rfl,λk d g=>?_,f⟩;by_cases q:k=i;.subst q;exact ZjD p
    exact a.2.1 k d g q
  right;have:i=0:=by omega
  subst this;refine⟨_,by rfl,m,rfl,λk d g=>a.2.1 k d g (by omega),f⟩
 grind
def Dn(l:V Nd)(i:Nat):Prop:=
 (∀k,0<k->k<l.length->(k - 1) / 2≠i->le (Z1 l ((k - 1) / 2)) (Z1 l k))/\∀k,0<k->k<l.length->(k - 1) / 2=i->0<i->le (Z1 l ((i - 1) / 2)) (Z1 l k)
theorem ZuB{l i c}(h:Dn l i)(b:i<l.length)(a:c<l.length)(d:(c - 1) / 2=i)(j:0<c)(g:K4 (Z1 l c) (Z1 l i)=Uc)(t:∀k,0<k->k<l.length->(k - 1) / 2=i->le (Z1 l c) (Z1 l k)):Dn (J4 l i c) c:=by
 have⟨q,r⟩:=h;have o:=ZjC g;refine⟨λk p e f=>?_,λk p e f u=>?_⟩
 .rw[Zai]at e;rw[Ra b a,Ra b a,Zg f];by_cases m:k=i
  .grind
  by_cases s:(k - 1) / 2=i;.grind
  grind
 rw[Zai]at e;rw[d,Ra b a,Ra b a,Zg (by omega),Zn rfl,Zg (by omega),Zg (by omega)];grind
theorem ZmD{l i}(h:Dn l i)(d:∀k,0<k->k<l.length->(k - 1) / 2=i->le (Z1 l i) (Z1 l k)):Y1 l:=by
 intro k b c;by_cases a:(k - 1) / 2=i;.grind
 exact h.1 k b c a
theorem ZyT{l}{c:Int}(h:Dn l 0)(I:l.length<2147483648):∃z:Hp,F48 ((),l,c,())=Ua z/\z.2.2.1=c/\Y1 z.2.1/\z.2.1.Perm l:=by
 unfold F48;simp only;refine run_bind (λs=>∃(m:V Nd) (i:Nat),s=(((),m,c,()),(i:Int))/\(i<m.length\/i=0)/\Dn m i/\m.Perm l) (λs=>l.length - s.2.toNat)
  (λr=>∃m,r=((),m,c,())/\Y1 m/\m.Perm l) ⟨l,0,rfl,.inr rfl,h,.refl _⟩ ?_ ?_
 .rintro s ⟨m,i,rfl,F,t,p⟩;have D:m.length=l.length:=p.length_eq;have y:Va .i64 ((2:Int) * (i:Int))=((2*i:Nat):Int):=by rw[ZB (by omega) (by omega)];omega
  have A:Va .i64 (((2*i:Nat):Int)+1)=((2*i+1:Nat):Int):=by rw[ZB (by omega) (by omega)];omega
  have B:Va .i64 (((2*i+1:Nat):Int)+1)=((2*i+2:Nat):Int):=by rw[ZB (by omega) (by omega)];omega
  simp only[y,A,B];by_cases H:m.length<=2*i+1;.right;refine⟨_,by grind,m,rfl,ZmD t (by omega),p⟩
  simp only[show Ue ((m.length:Int)<=((2*i+1:Nat):Int))=Ud from (by grind),Ze];have e:i<m.length:=by omega
  have fin:∀a,(a=2*i+1\/a=2*i+2)->a<m.length->(∀k,0<k->k<m.length->(k - 1) / 2=i->le (Z1 m a) (Z1 m k))->
   (∃x,(Vb (F47 ((),m,c,()) (a:Int) (i:Int)) λb=>
       bif !b.snd then Ua (Sum.inr ((),b.fst.snd.fst,b.fst.snd.snd.fst,()))
       else Vb (F49 ((),b.fst.snd.fst,b.fst.snd.snd.fst,()) (i:Int) (a:Int)) λo=>Ua (Sum.inl (((),o.snd.fst,o.snd.snd.fst,()),(a:Int))))=Ua (Sum.inl x:(Hp×Int) ⊕ Hp)/\
      (∃(f:V Nd) (q:Nat),x=(((),f,c,()),(q:Int))/\(q<f.length\/q=0)/\Dn f q/\f.Perm l)/\l.length - x.2.toNat<l.length - (i:Int).toNat)\/
   ∃r,(Vb (F47 ((),m,c,()) (a:Int) (i:Int)) λb=>
       bif !b.snd then Ua (Sum.inr ((),b.fst.snd.fst,b.fst.snd.snd.fst,()))
       else Vb (F49 ((),b.fst.snd.fst,b.fst.snd.snd.fst,()) (i:Int) (a:Int)) λo=>Ua (Sum.inl (((),o.snd.fst,o.snd.snd.fst,()),(a:Int))))=Ua (Sum.inr r:(Hp×Int) ⊕ Hp)/\
      ∃f,r=((),f,c,())/\Y1 f/\f.Perm l:=by
   intro a C d E;rw[Zic d e];simp only[Za]
   cases g:K4 (Z1 m a) (Z1 m i) with
   |true=>
    left;refine⟨_,by simp only[Vc,Ze,ZkA e d,Za],⟨J4 m i a,a,rfl,.inl (by rw[Zai];omega),ZuB t e d (by omega) (by omega) g E,(Zkz e d).trans p⟩,?_⟩
    omega|false=>
    right;exact⟨_,by rfl,m,rfl,ZmD t λk u v w=>le_trans (ZjD g) (by grind),p⟩
  by_cases j:2*i+2<m.length
  .simp only[show Ue (((2*i+2:Nat):Int)<(m.length:Int))=Uc from (by grind),Zf,Zic j (show 2*i+1<m.length by omega),Za]
   cases g:K4 (Z1 m (2*i+2)) (Z1 m (2*i+1)) with
   |true=>
    simp only[Zf,Za];exact fin (2*i+2) (.inr rfl) j λk u v w=>by
     have:k=2*i+1\/k=2*i+2:=by omega
     obtain rfl|rfl:=this;.exact ZjC g
     exact le_refl _|false=>
    simp only[Ze,Za];exact fin (2*i+1) (.inl rfl) (by omega) λk u v w=>by
     have:k=2*i+1\/k=2*i+2:=by omega
     obtain rfl|rfl:=this;.exact le_refl _
     exact ZjD g
  simp only[show Ue (((2*i+2:Nat):Int)<(m.length:Int))=Ud from (by grind),Ze];exact fin (2*i+1) (.inl rfl) (by omega) λk u v w=>by
   have:k=2*i+1:=by omega
   subst this;exact le_refl _
 grind
theorem Zxy(c:Int):F45 ((),[],c,())=Ua (((),[],c,()),(0,0,0,()),Ud):=by rfl
theorem ZxA{l}{c:Int}(h:Y1 l)(o:l≠ [])(H:l.length<2147483648):
 ∃f x,F45 ((),l,c,())=Ua (((),f,c,()),x.1,Uc)/\Y1 f/\l.Perm (x::f)/\∀y∈l,x.1.2.1<=y.1.2.1:=by
 have b:0<l.length:=Vqa.2 o;have a:l.length - 1<l.length:=by omega
 have d:F44 ((),l,c,())=Ua (((),l,c,()),(Z1 l 0).1,Uc):=by unfold F44 F43;simp only[Za,show Ue ((l.length:Int)=0)=Ud from (by grind),Ze];rw[show 0=((0:Nat):Int) from rfl,Kz b];simp[Za,ZdD b]
 have r:Va .i64 (l.length - 1)=((l.length - 1:Nat)):=by rw[ZB (by omega) (by omega)];omega
 have v:sliceB (J4 l 0 (l.length - 1)).length (J4 l 0 (l.length - 1)).length Ub (Ua ((l.length - 1:Nat)))=Ua (0,l.length - 1):=by unfold sliceB;rw[Zai];simp
 have u:Dn (Vla (l.length - 1) (J4 l 0 (l.length - 1))) 0:=by
  refine⟨λk A B I=>?_,by omega⟩;simp[Zai]at B;have e:∀j,j<l.length - 1->j≠0->Z1 (Vla (l.length - 1) (J4 l 0 (l.length - 1))) j=Z1 l j:=λj F g=>by
   have:Z1 (Vla (l.length - 1) (J4 l 0 (l.length - 1))) j=Z1 (J4 l 0 (l.length - 1)) j:=by unfold Z1;grind
   rw[this,Ra b a,Zg (by omega),Zg g]
  rw[e _ (by omega) (by omega),e _ (by omega) (by omega)];exact h k A (by omega)
 obtain⟨⟨_,f,C,_⟩,D,rfl,s,E⟩:=ZyT (c:=c) u (by grind);refine⟨f,Z1 l 0,?_,s,?_,λy z=>?_⟩;.unfold F45;rw[d];simp[Za,Vc,Ze,r];rw[show 0=((0:Nat):Int) from rfl,ZkA b a];grind
 .have w:=Zkz b a;have e:J4 l 0 (l.length - 1)=Vla (l.length - 1) (J4 l 0 (l.length - 1))++[Z1 l 0]:=by
   conv=>lhs;rw[<-List.take_append_drop (l.length - 1) (J4 l 0 (l.length - 1))]
   congr 1;have m:(J4 l 0 (l.length - 1)).length=l.length:=Zai ..;rw[Vda (by omega)];have t:List.drop (l.length - 1+1) (J4 l 0 (l.length - 1))=[]:=by grind
   rw[t];have p:=Ra b a (l.length - 1);rw[Zn rfl]at p;rw[<-p];simp[Z1,m,a]
  grind
 obtain⟨i,q,rfl⟩:=Vj z;have:=Zwd (ZvM h i q);simpa[Z1,q] using this
end Q
namespace Q
open Tr Go Gr
abbrev Ry:=Int×Int×Int×Unit
abbrev Adj:=V (Int×V Ry)
def Jo(m:Adj)(u:Nat):V Ry:=Ve (ZT (Zs (.int .i64)) (u:Int) m) []
structure ZhD (n:Nat) (m:Adj) (Ed:Nat->Nat->Int->Prop):Prop where
 mem:∀u,u<n->∀y∈Jo m u,∃v:Nat,v<n/\y.2.1=(v:Int)/\0<=y.2.2.1/\y.2.2.1<=1073741824/\Ed u v y.2.2.1
 all:∀u v w,Ed u v w->u<n/\∃y∈Jo m u,y.2.1=(v:Int)/\y.2.2.1=w
 len:∀u,u<n->(Jo m u).length<=4096
def XN(x:GO):Bool:=Ue (0<=x.2.2.1)
def Gd(o:V GO)(i:Nat):Prop:= ∃x,o[i]? =Ua x/\0<=x.2.2.1
def lenOf(o:V GO)(i:Nat):Int:=((o[i]?).getD (0,0,0,())).2.1
structure DI (n:Nat) (Ed:Nat->Nat->Int->Prop) (s:Nat) (o:V GO) (h:V Nd):Prop where
 len:o.length=n
 heap:Y1 h
 lab:∀i x,o[i]? =Ua x->(x.2.2.1<0->x.2.1= -1)/\(0<=x.2.2.1->Least Ed s i x.2.1)
 opn:∀d∈h,∃v:Nat,v<n/\d.1.1=(v:Int)/\Wk Ed s v d.1.2.1/\0<=d.1.2.2.1/\d.1.2.2.1<=(o.countP XN:Nat)/\d.1.2.1<=d.1.2.2.1*1073741824
 src:Gd o s\/∃d∈h,d.1.1=(s:Int)/\d.1.2.1<=0
 out:∀u v w,Gd o u->Ed u v w->Gd o v\/∃d∈h,d.1.1=(v:Int)/\d.1.2.1<=lenOf o u+w
 size:h.length+(n - o.countP XN) *4096<=1+n*4096
theorem ZiC(o:V GO):o.countP XN<=o.length:=List.countP_le_length
theorem Zuu{n Ed s o h b x}{v:Nat}(a:DI n Ed s o h)(i:Y1 b)(j:h.Perm (x::b))(q:x.1.1=v)(p:Gd o v):DI n Ed s o b where
 len:=a.len
 heap:=i
 lab:=a.lab
 opn:=λd m=>a.opn d (by grind)
 src:=by
  obtain c|⟨d,c,e,f⟩:=a.src;all_goals grind
 out:=λu l w k g=>by
  obtain c|⟨d,c,e,f⟩:=a.out u l w k g;all_goals grind
 size:=by have:=j.length_eq;have:=a.size;grind
theorem Zp8{o v x}(b:0<=x.2.2.1){i}(h:Gd o i):Gd (o.set v x) i:=by
 have⟨y,c,a⟩:=h;by_cases d:v=i;.exact⟨x,by grind,b⟩
 exact⟨y,by grind,a⟩
theorem Zuv{n Ed m}(F:ZhD n m Ed){s o h M D x v y}(k:DI n Ed s o h)(hv:v<n)(U:h.Perm (x::M))(b7:x.1.1=v)
 (a8:∀d∈h,x.1.2.1<=d.1.2.1) (ho:o[v]? =Ua y) (hy:y.2.2.1<0) (R:Y1 D) (b1:D.length<=M.length+(Jo m v).length) (h1:∀d∈M,d∈D)
 (h3:∀d∈D,d∈M\/∃e∈Jo m v,d.1.1=e.2.1/\d.1.2.1=x.1.2.1+e.2.2.1/\d.1.2.2.1=x.1.2.2.1+1)
 (h4:∀e∈Jo m v,(∃t:Nat,e.2.1=t/\Gd (o.set v x.1) t)\/∃d∈D,d.1.1=e.2.1/\d.1.2.1=x.1.2.1+e.2.2.1):DI n Ed s (o.set v x.1) D:=by
 have hw:∀u v w,Ed u v w->0<=w:=λu v w e=>by obtain⟨B,z,j,g,rfl⟩:=F.all u v w e;have⟨f,_,_,r,_⟩:=F.mem u B z j;omega
 have a0:x∈h:=by grind
 have⟨f,b5,b6,K,A,a9,b0⟩:=k.opn x a0;have:f=v:=by omega
 subst this;have b3:f<o.length:=by grind
 have p:(o.set f x.1)[f]? =Ua x.1:=by grind
 have I:∀{i},i≠f->(o.set f x.1)[i]? =o[i]? :=by grind
 have b4:o[f]=y:=by grind
 have a7:(o.set f x.1).countP XN=o.countP XN+1:=by
  have a:XN y=false:=by simp[XN];omega
  have b:XN x.1=true:=by simp[XN];omega
  grind
 have b2:(o.set f x.1).countP XN<=n:=by have:=ZiC (o.set f x.1);rw[Vu,k.len]at this;omega
 have N:Least Ed s f x.1.2.1:=by
  refine⟨K,λd H=>?_⟩;have:=ZvD (S:=Gd o) (L:=lenOf o) (O:=λv l=>∃d∈h,d.1.1=v/\d.1.2.1=l) (m:=x.1.2.1) hw (λu B d H=>by
   have⟨z,j,q⟩:=B;have:=((k.lab u z j).2 q).2 d H;simpa[lenOf,j] using this) (by
   obtain g|⟨d,g,r,C⟩:=k.src;all_goals grind) (λu v w B E=>by
   obtain g|⟨d,g,r,C⟩:=k.out u v w B E;all_goals grind) (by grind) H
  obtain⟨z,j,q⟩|g:=this;all_goals grind
 have T:∀u,Gd o u->lenOf (o.set f x.1) u=lenOf o u:=λu B=>by have⟨z,j,q⟩:=B;unfold lenOf;grind
 refine⟨by rw[Vu];exact k.len,R,λi z j=>?_,λd H=>?_,?_,λu w' w B E=>?_,?_⟩
 .by_cases hi:i=f
  .grind
  rw[I hi]at j;exact k.lab i z j
 .obtain g|⟨e,E,g,r,C⟩:=h3 d H
  .have⟨t,a1,a2,a3,a4,a5,a6⟩:=k.opn d (by grind);grind
  have⟨t,a1,a2,a3,a4,a5⟩:=F.mem f hv e E;refine⟨t,a1,g.trans a2,by rw[r];exact .snoc K a5,by omega,by omega,?_⟩;omega
 .obtain g|⟨d,g,r,C⟩:=k.src
  .exact .inl (Zp8 A g)
  obtain rfl|P:=Vra.1 (U.mem_iff.1 g)
  .have:s=f:=by omega
   subst this;exact .inl ⟨_,p,A⟩
  grind
 .by_cases J:u=f
  .subst J;obtain⟨_,e,Q,g,rfl⟩:=F.all u w' w E;obtain⟨t,r,C⟩|⟨d,r,C,P⟩:=h4 e Q
   .grind
   refine .inr ⟨d,r,C.trans g,?_⟩;rw[P];simp[lenOf,p]
  have W:Gd o u:=by have⟨z,j,q⟩:=B;rw[I J]at j;exact⟨z,j,q⟩
  obtain g|⟨d,g,r,C⟩:=k.out u w' w W E;.exact .inl (Zp8 A g)
  obtain rfl|P:=Vra.1 (U.mem_iff.1 g)
  .have:w' =f:=by omega
   subst this;exact .inl ⟨_,p,A⟩
  grind
 have a:=U.length_eq;have b:=k.size;have c:=F.len f hv;grind
def ZhL(n:Nat)(Ed:Nat->Nat->Int->Prop)(s:Nat)(o:V GO):Prop:=
 o.length=n/\∀i x,o[i]? =Ua x->(Least Ed s i x.2.1/\0<=x.2.1)\/((∀d,¬Wk Ed s i d)/\x.2.1= -1)
theorem Zv8{n}(hn:n<=64){m Ed}(T:ZhD n m Ed){s}(hs:s<n):
 ∃z,F180 (n:Int) m (s:Int)=Ua z/\z.1=m/\ZhL n Ed s z.2:=by
 have hw:∀u v w,Ed u v w->0<=w:=λu v w e=>by obtain⟨hu,z,hz,Q,rfl⟩:=T.all u v w e;have⟨v',_,_,h6,_⟩:=T.mem u hu z hz;omega
 unfold F180;have eg:Zw (decide ((0:Int)<=(n:Int)/\(n:Int)<=(n:Int)/\(n:Int)<=(Zt:Int)))=Ua ():=by rw[Zi (by simp[Zt];omega)];rfl
 rw[show Zw _=Ua () from eg];simp only[Za,Vma,Vp];refine XV (λst=>∃(o:V GO) (i:Nat),st=(o,(i:Int))/\o.length=n/\i<=n/\∀j,j<i->o[j]? =Ua ((j:Int), -1, -1,())) (λst=>n - st.2.toNat)
  (λo=>o.length=n/\∀j,j<n->o[j]? =Ua ((j:Int), -1, -1,())) ⟨_,0,rfl,by simp,Vk _,by omega⟩ ?_ ?_
 .rintro st ⟨o,i,rfl,h1,h2,h3⟩;by_cases hi:i<n
  .have a1:i<o.length:=by omega
   have e1:Va .i64 ((i:Int)+1)=((i+1:Nat):Int):=by rw[ZB (by omega) (by omega)];omega
   simp only[show Ue ((i:Int)<(n:Int))=Uc from (by grind),Zf,Kz a1,Za,Vd a1,e1];grind
  have:i=n:=by omega
  simp_all
 rintro o0 ⟨b0,c9⟩;have⟨⟨_,h0,c0,_⟩,M,_,a4,A⟩:=Zo9 (l:=[]) (c:=0) ((s:Int),0,0,()) (λk k1 k2=>by grind) (by simp);simp only at a4 A;unfold F50;simp only[Za];rw[show F46 _ _=Ua _ from M];simp only[Za];have K:∀d,d∈h0↔d=((((s:Int),0,0,()),0,()):Nd):=by grind
 have a9:DI n Ed s o0 h0:={
  len:=b0
  heap:=a4
  lab:=by grind
  opn:=λd W=>by rw[K]at W;subst W;exact⟨s,hs,rfl,.nil,Vca _,by simp,by simp⟩
  src:=by simp_all
  out:=λu v w hu=>by have⟨x,hx,a8⟩:=hu;grind
  size:=by have:=A.length_eq;grind}
 refine XV (λst=>∃(o:V GO) (h:V Nd) (c:Int),st=(o,(),h,c,())/\DI n Ed s o h) (λst=>(n - st.1.countP XN) *8192+st.2.2.1.length)
  (λo=>ZhL n Ed s o) ⟨o0,h0,c0,rfl,a9⟩ ?_ (by simp)
 rintro st ⟨o,h,c,rfl,y⟩;simp only;have b6:h.length<=300000:=by have:=y.size;omega
 have b2:h.length<2147483648:=by omega
 by_cases a3:h=[]
 .subst a3;rw[Zxy];simp only[Za,Vo,Zf];refine⟨_,rfl,y.len,λi x hx=>?_⟩;by_cases a8:0<=x.2.2.1
  .have:=(y.lab i x hx).2 a8;exact .inl ⟨this,this.1.nonneg hw⟩
  refine .inr ⟨λd W=>?_,(y.lab i x hx).1 (by omega)⟩;have:=ZtU (S:=Gd o) (L:=lenOf o) (O:=λ_ _=>False) (by
   obtain Q|⟨d,Q,_⟩:=y.src;all_goals grind) (λu v w hu he=>by
   obtain Q|⟨d,Q,_⟩:=y.out u v w hu he;all_goals grind) (by simp) W
  have⟨z,hz,d3⟩:=this;grind
 have⟨E,x,a6,F,hp,a2⟩:=ZxA (c:=c) y.heap a3 b2;rw[a6];simp only[Za,Vc,Ze];have⟨v,hv,P,b3,b9,c6,c7⟩:=y.opn x (by grind);have D:v<o.length:=by rw[y.len];omega
 have b1:=hp.length_eq;simp only[List.length_cons]at b1;have b7:o.countP XN<=n:=by have:=ZiC o;rw[y.len]at this;omega
 simp only[P,Kz D,Za,Vd D];have a5:o[v]? =Ua o[v]:=Vd D;by_cases a7:0<=(o[v]).2.2.1;.simp only[show Ue ((0:Int)<=(o[v]).2.2.1)=Uc from (by grind),Zf];exact⟨_,rfl,⟨o,E,c,rfl,Zuu y F hp P ⟨_,a5,a7⟩⟩,by grind⟩
 simp only[show Ue ((0:Int)<=(o[v]).2.2.1)=Ud from (by grind),Ze];have U:Ve (ZT (Zs Y3) (v:Int) m) []=Jo m v:=rfl;have b8:=T.len v hv;have d1:0<=x.1.2.1:=b3.nonneg hw;have d2:x.1.2.1<=68719476736:=by omega
 refine XV (λst=>∃(g:V Nd) (B:Int) (j:Nat),st=(((),g,B,()),(j:Int))/\j<=(Jo m v).length/\Y1 g/\g.length<=E.length+j/\(∀d∈E,d∈g)/\
  (∀d∈g,d∈E\/∃e∈Jo m v,d.1.1=e.2.1/\d.1.2.1=x.1.2.1+e.2.2.1/\d.1.2.2.1=x.1.2.2.1+1)/\
  ∀k e,k<j->(Jo m v)[k]? =Ua e->(∃t:Nat,e.2.1=(t:Int)/\Gd (o.set v x.1) t)\/∃d∈g,d.1.1=e.2.1/\d.1.2.1=x.1.2.1+e.2.2.1) (λst=>(Jo m v).length - st.2.toNat)
  (λr=>∃(g:V Nd) (B:Int),r=((),g,B,())/\Y1 g/\g.length<=E.length+(Jo m v).length/\(∀d∈E,d∈g)/\
    (∀d∈g,d∈E\/∃e∈Jo m v,d.1.1=e.2.1/\d.1.2.1=x.1.2.1+e.2.2.1/\d.1.2.2.1=x.1.2.2.1+1)/\
    ∀e∈Jo m v,(∃t:Nat,e.2.1=(t:Int)/\Gd (o.set v x.1) t)\/∃d∈g,d.1.1=e.2.1/\d.1.2.1=x.1.2.1+e.2.2.1)
  ⟨E,c,0,rfl,Vk _,F,Vv _,λ_ h=>h,by grind,by omega⟩ ?_ ?_
 .rintro st ⟨g,B,j,rfl,hj,hg,I,g1,g2,R⟩;simp only[U];by_cases f:j<(Jo m v).length
  .have⟨t,ht,a0,c1,c4,c5⟩:=T.mem v hv _ (Vf f);have N:t<(Vt o v x.1).length:=by rw[Vu,y.len];omega
   have e1:Va .i64 ((j:Int)+1)=((j+1:Nat):Int):=by rw[ZB (by omega) (by omega)];omega
   simp only[show Ue ((j:Int)<((Jo m v).length:Int))=Uc from (by grind),Zf,Kz f,Za,Vd f,a0,Kz N,Vd N,e1];by_cases d0:(Vt o v x.1)[t].2.2.1<0
   .have e2:Va .i64 (x.1.2.1+((Jo m v)[j]).2.2.1)=x.1.2.1+((Jo m v)[j]).2.2.1:=ZB (by omega) (by omega);have e3:Va .i64 (x.1.2.2.1+1)=x.1.2.2.1+1:=ZB (by omega) (by omega);simp only[show Ue ((Vt o v x.1)[t].2.2.1<0)=Uc from (by grind),Zf,e2,e3];have⟨⟨_,g',c2,_⟩,C,_,H,q⟩:=Zo9 (c:=B) ((t:Int),x.1.2.1+((Jo m v)[j]).2.2.1,x.1.2.2.1+1,()) hg (by omega);simp only at H q;rw[show F46 _ _=Ua _ from C];simp only[Za];have c8:∀d,d∈g' ↔d∈g\/d=(((t:Int),x.1.2.1+((Jo m v)[j]).2.2.1,x.1.2.2.1+1,()),B,()):=by grind
    refine⟨_,rfl,⟨g',c2,j+1,rfl,f,H,?_,by grind,λd W=>?_,λk e hk p=>?_⟩,by omega⟩;.have:=q.length_eq;grind
    .grind
    by_cases J:k=j;.subst J;rw[Vd f]at p;cases p;simp[*]
    rcases R k e (by omega) p with Q|⟨d,Q,h6⟩;all_goals grind
   simp only[show Ue ((Vt o v x.1)[t].2.2.1<0)=Ud from (by grind),Ze];refine⟨_,rfl,⟨g,B,j+1,rfl,f,hg,by omega,g1,g2,λk e hk p=>?_⟩,by omega⟩;by_cases J:k=j;.subst J;rw[Vd f]at p;cases p;exact .inl ⟨t,a0,_,Vd N,by omega⟩
   exact R k e (by omega) p
  have:j=(Jo m v).length:=by omega
  subst this;simp only[show Ue (((Jo m v).length:Int)<((Jo m v).length:Int))=Ud by simp,Ze];refine⟨_,rfl,g,B,rfl,hg,I,g1,g2,λe he=>?_⟩;obtain⟨k,hk,rfl⟩:=Vj he;exact R k _ hk (by simp)
 rintro r ⟨g,B,rfl,hg,I,g1,g2,R⟩;have hD:=Zuv T y hv hp P a2 a5 (by omega) hg I g1 g2 R;refine⟨_,rfl,⟨_,g,B,rfl,hD⟩,?_⟩;have b5:(o.set v x.1).countP XN=o.countP XN+1:=by
  rw[List.countP_set D];have a:XN o[v]=false:=by simp[XN];omega
  have b:XN x.1=true:=by simp[XN];omega
  grind
 have b4:(o.set v x.1).countP XN<=n:=by have:=ZiC (o.set v x.1);rw[hD.len]at this;omega
 grind
end Q
namespace Q
open Tr Go Gr
open Classical in
theorem Zbq{t:Ty}{β:Type}(b:t.key=Uc)(k a:El t)(v:β):∀(l:V (El t×β)),ZT (Zs t) k (Ky (Zs t) a v l)=if k=a then Ua v else ZT (Zs t) k l
 |[]=>by
  simp only[Ky,ZT];by_cases h:k=a;.rw[(XO b).2 h,Zn h];rfl
  rw[Zg h]
  cases c:Zs t k a with|true=>exact absurd ((XO b).1 c) h|false=>rfl
 |e::l=>by
  simp only[Ky]
  cases c:Zs t a e.1 with
  |true=>
   have f:=(XO b).1 c;simp only[Zf,ZT];by_cases h:k=a;.rw[(XO b).2 h,Zn h];rfl
   rw[Zg h,<-f]
   cases d:Zs t k a with|true=>exact absurd ((XO b).1 d) h|false=>rfl
  |false=>
   simp only[Ze,ZT,Zbq b k a v l]
   cases d:Zs t k e.1 with
   |false=>rfl|true=>
    have f:=(XO b).1 d;have:k≠a:=by rintro rfl;rw[d]at c;cases c
    simp only[Zf];rw[Zg this]
def EdL(E:V Ry)(u v:Nat)(w:Int):Prop:= ∃e∈E,e.1=u/\e.2.1=v/\e.2.2.1=w
theorem ZwQ(E:V Ry)(h:E.length<=4096):∃z,F183 E Ud=Ua z/\∀u,Jo z u=E.filter λe=>Ue (e.1=(u:Int)):=by
 unfold F183;refine XV (λst=>∃(m:Adj) (i:Nat),st=(m,(i:Int))/\i<=E.length/\∀k,Ve (ZT (Zs (.int .i64)) k m) []=(E.take i).filter λe=>Ue (e.1=k)) (λst=>E.length - st.2.toNat)
  (λm=>∀u,Jo m u=E.filter λe=>Ue (e.1=(u:Int))) ⟨[],0,rfl,Vk _,λk=>by rfl⟩ ?_ (by simp)
 rintro st ⟨m,i,rfl,j,g⟩;by_cases a:i<E.length
 .have c:Va .i64 (i+1)=((i+1:Nat)):=by rw[ZB (by omega) (by omega)];omega
  have b:(Ve (ZT (Zs (.int .i64)) (E[i]).1 m) []).length<=4096:=by grind
  have d:Zw (decide ((Ve (ZT (Zs (.int .i64)) (E[i]).1 m) []).length+ [E[i]].length<=Zt))=Ua ():=by rw[Zi (by simp[Zt];omega)];rfl
  have f:Zw (Tr.holeK (.int .i64) (Ua (E[i]).1) (E[i]).1)=Ua ():=by have:Tr.holeK (.int .i64) (Ua (E[i]).1) (E[i]).1=true:=(XO rfl).2 rfl;rw[this];rfl
  simp only[show Ue (i<(E.length:Int))=Uc from (by grind),Zf,Ze,ZC a,Za,c];rw[d];rw[f];refine⟨_,rfl,⟨_,i+1,rfl,a,λk=>?_⟩,by omega⟩;rw[show Ve (ZT (Zs (.int .i64)) k (Ky (Zs (.int .i64)) (E[i]).1 (Ve (ZT (Zs (.int .i64)) (E[i]).1 m) []++[E[i]]) m)) []=if k=(E[i]).1 then Ve (ZT (Zs (.int .i64)) (E[i]).1 m) []++[E[i]] else Ve (ZT (Zs (.int .i64)) k m) [] by rw[Zbq rfl];grind];rw[Vm a,List.filter_append];grind
 have:i=E.length:=by omega
 subst this;simp only[show Ue (E.length<(E.length:Int))=Ud by simp,Ze];exact⟨_,rfl,λu=>by have:=g u;rw[Vwa]at this;assumption⟩
def EOk(n:Nat)(E:V Ry):Prop:= ∀e∈E,0<=e.1/\e.1<n/\0<=e.2.1/\e.2.1<n/\0<=e.2.2.1/\e.2.2.1<=1073741824
theorem ZrI{n E}(i:EOk n E)(p:E.length<=4096){m}(l:∀u,Jo m u=E.filter λe=>Ue (e.1=(u:Int))):ZhD n m (EdL E) where
 mem:=λu q y j=>by rw[l]at j;have⟨h,g⟩:=List.mem_filter.1 j;have g:=Xw g;have⟨a,b,c,d,e,f⟩:=i y h;exact⟨y.2.1.toNat,by omega,by omega,e,f,y,h,g,by omega,rfl⟩
 all:=λu v w ⟨e,k,h,g,o⟩=>by have⟨a,b,_⟩:=i e k;grind
 len:=by grind
open Classical in
def KL(Ed:Nat->Nat->Int->Prop)(i j:Nat):Int:=if h:∃d,Least Ed i j d then h.choose else -1
theorem Least.uniq{Ed i j d a}(h:Least Ed i j d)(k:Least Ed i j a):d=a:=by have:=h.2 a k.1;have:=k.2 d h.1;omega
theorem Zbx{Ed i j d}(h:Least Ed i j d):KL Ed i j=d:=by unfold KL;have a:∃d,Least Ed i j d:=⟨d,h⟩;rw[dif_pos a];exact Least.uniq a.choose_spec h
theorem Zuw{Ed i j}(h:∀d,¬Wk Ed i j d):KL Ed i j= -1:=by unfold KL;rw[dif_neg];rintro ⟨d,a⟩;exact h d a.1
def YT(Ed:Nat->Nat->Int->Prop)(n:Nat):V (V Int):=(Vr n).map λi=>(Vr n).map λj=>KL Ed i j
theorem Zoc{Ed n i}(h:i<n):(YT Ed n)[i]? =Ua ((Vr n).map λj=>KL Ed i j):=by unfold YT;grind
theorem Zwq{n}(w:n<=64){Ed s o}(h:ZhL n Ed s o):∃z,F181 o=Ua z/\z=(Vr n).map λj=>KL Ed s j:=by
 have⟨u,k⟩:=h;unfold F181;have g:Zw (decide (0<=(o.length:Int)/\o.length<=(o.length:Int)/\o.length<=(Zt:Int)))=Ua ():=by rw[Zi (by simp[Zt];omega)];rfl
 rw[g];refine XV (λst=>∃(r:V Int) (i:Nat),st=(r,(i:Int))/\r.length=n/\i<=n/\∀j,j<i->r[j]? =Ua (KL Ed s j)) (λst=>n - st.2.toNat)
  (λr=>r.length=n/\∀j,j<n->r[j]? =Ua (KL Ed s j)) ⟨_,0,rfl,by grind,Vk _,by omega⟩ ?_ ?_
 .rintro st ⟨r,i,rfl,t,v,p⟩;by_cases d:i<n
  .have a:i<o.length:=by omega
   have b:i<r.length:=by omega
   have f:Va .i64 (i+1)=((i+1:Nat)):=by rw[ZB (by omega) (by omega)];omega
   simp only[show Ue (i<(o.length:Int))=Uc from (by grind),ZC a,Kz b,Za,Vd b,f];refine⟨_,rfl,⟨_,i+1,rfl,by grind,d,λj q=>?_⟩,by omega⟩;by_cases e:j=i
   .subst e;have:(o[j]).2.1=KL Ed s j:=by
     obtain⟨c,_⟩|⟨c,l⟩:=k j _ (Vd a);.exact(Zbx c).symm
     rw[l,Zuw c]
    grind
   grind
  have m:i=n:=by omega
  simp_all
 rintro r ⟨t,p⟩;refine⟨_,rfl,?_⟩;apply Vva;grind
theorem Ztm{n}(q:n<=64){E}(k:EOk n E)(p:E.length<=4096):F178 (n:Int) E []=Ua 0:=by
 have key:∃z,F178 n E []=Ua z/\z=0:=by
  unfold F178;simp only[Ze,Za,show Ue (64<(n:Int))=Ud from (by grind),show Ue (4096<(E.length:Int))=Ud from (by grind)];refine XV (λst=>∃i:Nat,st=i/\i<=E.length) (λst=>E.length - st.toNat) (λr=>r=.inl ()) (by grind) ?_ ?_
  .rintro st ⟨i,rfl,o⟩;by_cases g:i<E.length
   .have j:Va .i64 (i+1)=((i+1:Nat)):=by rw[ZB (by omega) (by omega)];omega
    have⟨a,b,c,d,e,f⟩:=k _ (Vf g);have h:∀x,0<=x->x<(n:Int)->F179 x n=Ua false:=λx l m=>by unfold F179;grind
    simp only[show Ue (i<(E.length:Int))=Uc from (by grind),Zf,ZC g,Za,h _ a b,h _ c d,Ze,show Ue ((E[i]).2.2.1<0)=Ud from (by grind),
     show Ue ((1073741824:Int)<(E[i]).2.2.1)=Ud from (by grind),j]
    grind
   simp[*]
  rintro r rfl;simp only[Vh];refine XV (λst=>st=(0:Int)) (λ_=>0) (λr=>r=.inl ()) rfl ?_ ?_;all_goals simp
 grind
theorem ZrU{n}(g:n<=64){E}(h:EOk n E)(d:E.length<=4096):∃z,F177 (n:Int) E=Ua z/\z=(YT (EdL E) n,0):=by
 unfold F177;have⟨m,e,f⟩:=ZwQ E d;have t:=ZrI h d f;rw[Ztm g h d];simp only[e];have l:Zw (decide (0<=(n:Int)/\n<=(n:Int)/\n<=(Zt:Int)))=Ua ():=by rw[Zi (by simp[Zt];omega)];rfl
 rw[l];simp only[Vma,Vp];refine XV (λst=>∃(r:V (V Int)) (i:Nat),st=(m,r,(i:Int))/\r.length=n/\i<=n/\∀j,j<i->r[j]? =(YT (EdL E) n)[j]?) (λst=>n - st.2.2.toNat)
  (λr=>r.length=n/\∀j,j<n->r[j]? =(YT (EdL E) n)[j]?) ⟨_,0,rfl,by simp,Vk _,by omega⟩ ?_ ?_
 .rintro st ⟨r,i,rfl,y,A,v⟩;by_cases a:i<n
  .have b:i<r.length:=by omega
   have k:Va .i64 (i+1)=((i+1:Nat)):=by rw[ZB (by omega) (by omega)];omega
   obtain⟨⟨B,o⟩,p,rfl,q⟩:=Zv8 g t a;obtain⟨_,s,rfl⟩:=Zwq g q;simp only[show Ue (i<(n:Int))=Uc from (by grind),p,Za,s,Kz b,Vd b,k];refine⟨_,rfl,⟨_,i+1,rfl,by grind,a,λj w=>?_⟩,by grind⟩;by_cases c:j=i;.subst c;rw[Zoc a];grind
   grind
  have u:i=n:=by omega
  simp_all
 rintro r ⟨y,v⟩;refine⟨_,rfl,?_⟩;congr 1;apply Vva;intro j;by_cases x:j<n;.grind
 rw[Vna (by omega),Vna (by simp[YT];omega)]
end Q
namespace Q
open Tr Go Gr
theorem H6.uniq{l τ ρ}{cnt step}{k:τ->Option ρ}(a:∀s,0<cnt s){z i}:∀{n g}{s:l},H6 cnt step k z n s->H6 cnt step k i g s->z=i
 |0,_,_,h,_|_+1,0,_,_,h=>h.elim|n+1,g+1,s,h,c=>by
  obtain⟨m,d,e⟩|⟨t,d,e⟩:=h 0 (a s)
  .obtain⟨j,b,f⟩|⟨t,b,_⟩:=c 0 (a s)
   .rw[d]at b;simp[Sum.inl.injEq]at b;subst b;exact H6.uniq a e f
   grind
  obtain⟨j,b,_⟩|⟨o,b,f⟩:=c 0 (a s);all_goals grind
theorem ZuN{f τ ρ}{cnt step}{k:τ->Option ρ}{s:f}{z}{P:ρ->Prop} n(a:∀s,0<cnt s)(h:H6 cnt step k z n s)(d:P z):∃z,Tr.drun cnt step k s=Ua z/\P z:=by
 refine⟨z,?_,d⟩;have b:∃r,Tr.drun cnt step k s=Ua r:=by
  unfold Tr.drun;split;.simp
  rw[dif_pos ⟨z,n,h⟩];simp
 have⟨r,c⟩:=b;have⟨m,e⟩:=ZmM c;rw[c,H6.uniq a e h]
theorem ZnS{Ed c}(j:∀u v w,Ed u v w->∃w',c u v w' /\w' <=w)(g:∀u v w,c u v w->∃w',Ed u v w' /\w' <=w){s v d}:Least Ed s v d->Least c s v d:=by
 rintro ⟨a,b⟩;have⟨h,f,l⟩:=Wk.dom j a;have⟨i,c3,m⟩:=Wk.dom g f;have:=b i c3;have:h=d:=by omega
 subst this;refine⟨f,λe k=>?_⟩;have⟨q,o,p⟩:=Wk.dom g k;grind
theorem ZwJ{Ed a}(c:∀u v w,Ed u v w->∃w',a u v w' /\w' <=w)(e:∀u v w,a u v w->∃w',Ed u v w' /\w' <=w) n:YT Ed n=YT a n:=by
 have:∀i j,KL Ed i j=KL a i j:=by
  intro i j;by_cases h:∃d,Least Ed i j d;.have⟨d,b⟩:=h;rw[Zbx b,Zbx (ZnS c e b)]
  have f:¬∃d,Least a i j d:=λ⟨d,b⟩=>h ⟨d,ZnS e c b⟩;unfold KL;grind
 unfold YT;simp_all
abbrev K5:=Int×Int×Int×Bool×Unit
abbrev Pr:=Int×Int×Bool×Unit
abbrev Y6:Ty:=.prod (.int .i64) (.prod (.int .i64) (.prod .bool .unit))
def Rz(n:Nat)(l:V K5):Prop:= ∀p∈l,0<=p.1/\p.1<n/\0<=p.2.1/\p.2.1<n/\1<=p.2.2.1/\p.2.2.1<=14400
def GB(free:Bool)(p:K5):Prop:=free=Uc->p.2.2.2.1=Uc
def Kf(l:V K5)(free:Bool)(u v:Nat)(w:Int):Prop:= ∃p∈l,GB free p/\p.1=u/\p.2.1=v/\p.2.2.1=w
def ZfR(e:Pr×Int):Ry:=(e.1.1,e.1.2.1,e.2,())
theorem Zlu{α β} eq k v:∀l:V (α×β),(Ky eq k v l).length<=l.length+1
 |[]=>by simp[Ky]|e::l=>by
  simp[Ky]
  cases eq k e.1 with|true=>simp|false=>simp[Ze];have:=Zlu eq k v l;omega
structure XF (free:Bool) (l:V K5) (b:V (Pr×Int)):Prop where
 nodup:(b.map Prod.fst).Nodup
 len:b.length<=l.length
 snd:∀e∈b,∃p∈l,GB free p/\e.1=(p.1,p.2.1,Ud,())/\e.2=p.2.2.1
 all:∀p∈l,GB free p->∃w,ZT (Zs Y6) (p.1,p.2.1,Ud,()) b=Ua w/\w<=p.2.2.1
theorem XF.more{free l}{b a:V (Pr×Int)}{p}(h:XF free l b)(f:(a.map Prod.fst).Nodup)(o:a.length<=b.length+1)(g:∀e∈a,e∈b\/(GB free p/\e.1=(p.1,p.2.1,Ud,())/\e.2=p.2.2.1))
 (r:∀k w,ZT (Zs Y6) k b=Ua w->∃w',ZT (Zs Y6) k a=Ua w' /\w' <=w) (s:GB free p->∃w,ZT (Zs Y6) (p.1,p.2.1,Ud,()) a=Ua w/\w<=p.2.2.1):XF free (l++[p]) a where
 nodup:=f
 len:=by have:=h.len;grind
 snd:=λe j=>by
  obtain c|c:=g e j;.have⟨q,d,i⟩:=h.snd e c;grind
  grind
 all:=λq d m=>by
  obtain c|c:=Vab.1 d;.have⟨w,i,t⟩:=h.all q c m;grind
  grind
theorem ZmR{α:Type}:∀{l:V α}{i} h,(l[i]::l.eraseIdx i).Perm l
 |[],i,h=>by grind|x::l,0,_=>.refl _|x::l,i+1,h=>by
  have a:i<l.length:=by grind
  exact(List.Perm.swap _ _ _).trans (List.Perm.cons _ (ZmR a))
theorem ZmC{n}(hn:n<=64){l}(hF:Rz n l)(hl:l.length<=4096)(free:Bool):∃z,F41 l (n:Int) free=Ua z/\z=YT (Kf l free) n:=by
 unfold F41;refine XV (λst=>∃(b:V (Pr×Int)) (i:Nat),st=(b,(i:Int))/\i<=l.length/\XF free (l.take i) b) (λst=>l.length - st.2.toNat)
  (λb=>XF free l b) ⟨[],0,rfl,Vk _,⟨by simp,by simp,by simp,by simp⟩⟩ ?_ ?_
 .rintro st ⟨b,i,rfl,F,j⟩;by_cases A:i<l.length
  .have e1:Va .i64 ((i:Int)+1)=((i+1:Nat):Int):=by rw[ZB (by omega) (by omega)];omega
   simp only[show Ue ((i:Int)<(l.length:Int))=Uc from (by grind),Zf,ZC A,Za,e1];have o:l.take (i+1)=l.take i++[l[i]]:=Vm A;have stay:(GB free l[i]->∃w,ZT (Zs Y6) ((l[i]).1,(l[i]).2.1,Ud,()) b=Ua w/\w<=(l[i]).2.2.1)->XF free (l.take (i+1)) b:=λL=>by rw[o];exact j.more j.nodup (by omega) (by grind) (by grind) L
   have put:GB free l[i]->(∀w,ZT (Zs Y6) ((l[i]).1,(l[i]).2.1,Ud,()) b=Ua w->(l[i]).2.2.1<=w)->XF free (l.take (i+1)) (Ky (Zs Y6) ((l[i]).1,(l[i]).2.1,Ud,()) (l[i]).2.2.1 b):=λB hw=>by
    rw[o];refine j.more (Zh8 (t:=Y6) (β:=Int) rfl j.nodup) (Zlu _ _ _ _) (λe E=>?_) (λk w h=>?_) λ_=>⟨(l[i]).2.2.1,by rw[Zbq rfl,Zn rfl],Vca _⟩
    .have⟨k',x⟩:=e;obtain⟨rfl,rfl⟩|⟨_,h6⟩:=Zgr (t:=Y6) rfl j.nodup E;all_goals grind
    rw[Zbq rfl];grind
   have W:Zs YH=Zs Y6:=rfl;have rest:GB free l[i]->∃z,(Vb
         (bif !Vea (ZT (Zs Y6) ((l[i]).1,(l[i]).2.1,Ud,()) b) then Ua Uc
         else Ua (decide ((l[i]).2.2.1<Ve (ZT (Zs Y6) ((l[i]).1,(l[i]).2.1,Ud,()) b) (0:Int))))
         λx3=>
         bif x3 then Ua (Sum.inl (Ky (Zs Y6) ((l[i]).1,(l[i]).2.1,Ud,()) (l[i]).2.2.1 b,((i+1:Nat):Int)))
         else Ua (Sum.inl (b,((i+1:Nat):Int))))=Ua (z:(V (Pr×Int)×Int) ⊕ V (Pr×Int))/\
         Via (λs' =>(∃(b:V (Pr×Int)) (i:Nat),s' =(b,(i:Int))/\i<=l.length/\XF free (l.take i) b)/\l.length - s'.2.toNat<l.length - ((i:Nat):Int).toNat) (λb=>XF free l b) z:=by
    intro B
    cases hg:ZT (Zs Y6) ((l[i]).1,(l[i]).2.1,Ud,()) b with
    |none=>
     simp only[Option.isSome_none,Vo,Zf,Za]
     grind|some w=>
     simp only[Option.isSome_some,Vc,Ze,Option.getD_some,Za];by_cases a2:(l[i]).2.2.1<w;.simp only[show Ue ((l[i]).2.2.1<w)=Uc from (by grind),Zf];grind
     simp only[show Ue ((l[i]).2.2.1<w)=Ud from (by grind),Ze];grind
   cases m:free with
   |false=>
    simp only[Ze,Za];have:=rest (λh=>by grind)
    grind|true=>
    simp only[Zf,Za]
    cases P:(l[i]).2.2.2.1 with
    |true=>
     simp only[Vc,Ze];have:=rest (λ_=>P)
     grind|false=>
     simp only[Vo,Zf];refine⟨_,rfl,⟨b,i+1,rfl,A,?_⟩,by omega⟩;rw[<-m];exact stay λB=>by have:=B m;grind
  have a1:i=l.length:=by omega
  simp_all
 intro b j;have eg:Zw (decide ((0:Int)<=(0:Int)/\(0:Int)<=(b.length:Int)/\(b.length:Int)<=(Zt:Int)))=Ua ():=by have:=j.len;rw[Zi (by simp[Zt];omega)];rfl
 rw[show Zw _=Ua () from eg];simp only[Za];have U:∀es,es.Perm (b.map ZfR)->F177 (n:Int) es=Ua (YT (Kf l free) n,0):=by
  intro es y;have H:es.length<=4096:=by have:=y.length_eq;have:=j.len;grind
  have O:EOk n es:=λe E=>by
   obtain⟨x,Q,rfl⟩:=Vua.1 (y.mem_iff.1 E);have⟨p,g,_,K,N⟩:=j.snd x Q;have⟨a,b',c,d,e,f⟩:=hF p g;have a0:x.1.1=p.1/\x.1.2.1=p.2.1:=by grind
   show 0<=x.1.1/\x.1.1<n/\0<=x.1.2.1/\x.1.2.1<n/\0<=x.2/\x.2<=1073741824;omega
  obtain⟨z,hz,rfl⟩:=ZrU hn O H;rw[hz];congr 2;refine ZwJ (λu v w ⟨e,E,K,N,h3⟩=>?_) (λu v w ⟨p,g,B,K,N,h3⟩=>?_) n
  .obtain⟨x,Q,rfl⟩:=Vua.1 (y.mem_iff.1 E);have⟨p,g,B,T,L⟩:=j.snd x Q;have D:x.1.1=p.1/\x.1.2.1=p.2.1:=by grind
   refine⟨w,⟨p,g,B,?_,?_,?_⟩,Vca _⟩;.rw[<-D.1];assumption
   .rw[<-D.2];assumption
   rw[<-L];assumption
  have⟨w',T,L⟩:=j.all p g B;have I:=Zff (t:=Y6) rfl T;refine⟨w',⟨_,y.mem_iff.2 (Vua.2 ⟨_,I,rfl⟩),K,N,rfl⟩,by omega⟩
 refine ZuN (z:=YT (Kf l free) n) (b.length+1) (λs=>?_) ?_ rfl;.grind
 have key:∀r es rest,rest.length=r->(es++rest.map ZfR).Perm (b.map ZfR)->
  H6 (λq=>bif Veb q.snd then(1:Nat) else Vs q.snd)
   (λq i7=>bif Veb q.snd then Ua (Sum.inr q.fst)
     else Vb q.snd[i7]? λC=>
      Vb (Zw (decide (Vs q.fst+Vs [((C.fst.fst,C.fst.snd.fst,C.snd,()):Ry)]<=Zt))) λ_=>
       Ua (Sum.inl (q.fst++[(C.fst.fst,C.fst.snd.fst,C.snd,())],List.eraseIdx q.snd i7)))
   (λR=>Vb (F177 (n:Int) R) λS=>Ua S.fst) (YT (Kf l free) n) (r+1) (es,rest):=by
  intro r
  induction r with
  |zero=>
   intro es rest hr y i F
   grind|succ r ih=>
   intro es rest hr y i F;have J:rest.isEmpty=false:=by grind
   simp only[J,Ze]at F;left;have g:=y.length_eq;have:=j.len;simp only[Vq,Vbb]at g;have M:Zw (decide (es.length+ [(((rest[i]).1.1,(rest[i]).1.2.1,(rest[i]).2,()):Ry)].length<=Zt))=Ua ():=by rw[Zi (by simp[Zt];omega)];rfl
   refine⟨(es++[ZfR rest[i]],rest.eraseIdx i),?_,ih _ _ (by grind) ?_⟩;.simp only[J,Ze,Vd F,Za];rw[show Zw _=Ua () from M];rfl
   refine List.Perm.trans ?_ y;have K:(rest[i]::rest.eraseIdx i).Perm rest:=ZmR F;grind
 grind
def JE:Int:=1099511627776
def gm(m:V (V Int))(i j:Nat):Int:=(((m[i]?).getD [])[j]?).getD 0
def GP(n:Nat)(m:V (V Int)):Prop:=m.length=n/\∀(i:Nat) r,m[i]? =Ua r->r.length=n
def upd(m:V (V Int))(i j:Nat)(v:Int):V (V Int):=m.set i (((m[i]?).getD []).set j v)
theorem GP.row{n m}(h:GP n m){i}(a:i<n):∃r,m[i]? =Ua r/\r.length=n:=by
 have:i<m.length:=by rw[h.1];omega
 exact⟨m[i],by simp,h.2 i _ (by simp)⟩
theorem GP.upd{n m}(h:GP n m){i}(c:i<n) j v:GP n (upd m i j v):=by
 have⟨r,e,f⟩:=h.row c;refine⟨by simp[Q.upd];exact h.1,λk d a=>?_⟩;unfold Q.upd at a;by_cases b:i=k;.grind
 rw[Vy b]at a;exact h.2 k d a
theorem Zd4{n m}(h:GP n m){i j}(c:i<n)(f:j<n) v a b:gm (upd m i j v) a b=if a=i/\b=j then v else gm m a b:=by have⟨r,d,e⟩:=h.row c;unfold gm upd;grind
theorem Zc9{n m}(h:GP n m){i j}(_hi:i<n)(c:j<n){r}(a:m[i]? =Ua r):r[j]? =Ua (gm m i j):=by have b:=h.2 i r a;unfold gm;grind
structure Yj (Ed:Nat->Nat->Int->Prop) (n k:Nat) (m:V (V Int)):Prop where
 shp:GP n m
 snd:∀i j,i<n->j<n->gm m i j=JE\/(gm m i j<=JE/\Wb Ed n i j (gm m i j))
 all:∀i j d,i<n->j<n->Wb Ed k i j d->gm m i j<=d
theorem Yj.bnd{Ed}(e:∀u v w,Ed u v w->0<=w){n k m}(h:Yj Ed n k m){i j}(c:i<n)(d:j<n):0<=gm m i j/\gm m i j<=JE:=by
 obtain a|⟨a,b⟩:=h.snd i j c d;.rw[a];unfold JE;omega
 exact⟨b.nonneg e,a⟩
theorem Yj.step{Ed}(p:∀u v w,Ed u v w->0<=w){n k m}(h:Yj Ed n k m){i j}(c:i<n)(e:j<n)(f:k<n):
 Yj Ed n k (upd m i j (min (gm m i j) (gm m i k+gm m k j)))/\(∀d,Wb Ed (k+1) i j d->min (gm m i j) (gm m i k+gm m k j)<=d)/\min (gm m i j) (gm m i k+gm m k j)<=gm m i j:=by
 have B:=h.bnd p c e;have C:=h.bnd p c f;have D:=h.bnd p f e;refine⟨⟨h.shp.upd c j _,λa b q r=>?_,λa b d q r s=>?_⟩,λd s=>?_,Int.min_le_left _ _⟩
 .rw[Zd4 h.shp c e];by_cases l:a=i/\b=j
  .obtain⟨rfl,rfl⟩:=l;rw[Zn ⟨rfl,rfl⟩];by_cases t:gm m a b<=gm m a k+gm m k b
   .rw[Int.min_eq_left t];exact h.snd a b c e
   rw[Vxa (by omega)];right;refine⟨by omega,?_⟩;obtain o|⟨_,o⟩:=h.snd a k c f;.omega
   obtain g|⟨_,g⟩:=h.snd k b f e;.omega
   exact o.app f g
  rw[Zg l];exact h.snd a b q r
 .rw[Zd4 h.shp c e];have:=h.all a b d q r s;grind
 obtain⟨x,o,g⟩|⟨y,z,o,g,A⟩:=s.round p;.have:=h.all i j x c e g;omega
 have:=h.all i k y c f g;have:=h.all k j z f e A;omega
structure Ha (Ed:Nat->Nat->Int->Prop) (n k a b:Nat) (m:V (V Int)):Prop where
 ent:Yj Ed n k m
 done:∀i j d,i<n->j<n->(i<a\/i=a/\j<b)->Wb Ed (k+1) i j d->gm m i j<=d
theorem Ha.step{Ed}(r:∀u v w,Ed u v w->0<=w){n k a b m}(h:Ha Ed n k a b m)(e:a<n)(f:b<n)(q:k<n):Ha Ed n k a (b+1) (upd m a b (min (gm m a b) (gm m a k+gm m k b))):=by
 have⟨g,s,t⟩:=h.ent.step r e f q;refine⟨g,λi j d o p x l=>?_⟩;rw[Zd4 h.ent.shp e f];by_cases c:i=a/\j=b;.grind
 rw[Zg c];exact h.done i j d o p (by omega) l
theorem Ha.next{Ed n k a m}(h:Ha Ed n k a n m):Ha Ed n k (a+1) 0 m:=
 ⟨h.ent,λi j d c e f b=>h.done i j d c e (by omega) b⟩
theorem Ha.fin{Ed n k m}(h:Ha Ed n k n 0 m):Yj Ed n (k+1) m:=
 ⟨h.ent.shp,h.ent.snd,λi j d a c b=>h.done i j d a c (.inl a) b⟩
theorem Ha.start{Ed n k m}(h:Yj Ed n k m):Ha Ed n k 0 0 m:=
 ⟨h,by omega⟩
theorem Zns a b:Tr.imin a b=min a b:=by unfold Tr.imin;omega
theorem Zp9{n}(hn:n<=64){l}(hF:Rz n l)(hl:l.length<=4096)(free:Bool):∃z,F122 l (n:Int) free=Ua z/\Yj (Kf l free) n n z:=by
 have S:∀u v w,Kf l free u v w->0<=w:=λu v w ⟨p,F,_,_,_,h⟩=>by have:=hF p F;omega
 unfold F122;refine XV (λst=>∃i,st=(Vg i (Vg n JE),(i:Int))/\i<=n) (λst=>n - st.2.toNat)
  (λr=>r=Vg n (Vg n JE)) (by grind) ?_ ?_
 .rintro st ⟨i,rfl,hi⟩;by_cases c:i<n
  .have L:Va .i64 ((i:Int)+1)=((i+1:Nat):Int):=by rw[ZB (by omega) (by omega)];omega
   simp only[show Ue ((i:Int)<(n:Int))=Uc from (by grind),Zf,L];refine XV (λst=>∃j,st=(Vg i (Vg n JE),Vg j JE,(j:Int))/\j<=n) (λst=>n - st.2.2.toNat)
    (λr=>r=(Vg i (Vg n JE),Vg n JE)) (by grind) ?_ ?_
   .rintro st ⟨j,rfl,hj⟩;by_cases a8:j<n
    .have W:Va .i64 ((j:Int)+1)=((j+1:Nat):Int):=by rw[ZB (by omega) (by omega)];omega
     simp only[show Ue ((j:Int)<(n:Int))=Uc from (by grind),Zf,W];rw[XM (by grind)];simp only[Za];refine⟨_,rfl,⟨j+1,?_,a8⟩,by grind⟩;rw[Vpa];rfl
    have:j=n:=by omega
    simp_all
   rintro r rfl;simp only;rw[XM (by grind)];simp only[Za];refine⟨_,rfl,⟨i+1,?_,c⟩,by omega⟩;rw[Vpa]
  have:i=n:=by omega
  simp_all
 rintro r rfl;have a0:GP n (Vg n (Vg n JE)):=⟨by simp,by grind⟩;have c6:∀i j,i<n->j<n->gm (Vg n (Vg n JE)) i j=JE:=λi j hi hj=>by unfold gm;grind
 refine XV (λst=>∃(m:V (V Int)) (i:Nat),st=(m,(i:Int))/\i<=l.length/\GP n m/\(∀a b,a<n->b<n->gm m a b=JE\/(gm m a b<=JE/\Wb (Kf l free) n a b (gm m a b)))/\
  ∀p∈l.take i,GB free p->gm m p.1.toNat p.2.1.toNat<=p.2.2.1) (λst=>l.length - st.2.toNat)
  (λm=>Yj (Kf l free) n 0 m) ⟨_,0,rfl,Vk _,a0,by grind,by simp⟩ ?_ ?_
 .rintro st ⟨m,i,rfl,hi,o,B,s⟩;by_cases c:i<l.length
  .have L:Va .i64 ((i:Int)+1)=((i+1:Nat):Int):=by rw[ZB (by omega) (by omega)];omega
   have⟨p1,p2,p3,p4,p5,p6⟩:=hF _ (Vf c);have I:l.take (i+1)=l.take i++[l[i]]:=Vm c;have⟨u,hu⟩:∃u:Nat,(l[i]).1=(u:Int):=by grind
   have⟨v,hv⟩:∃v:Nat,(l[i]).2.1=(v:Int):=by grind
   have y:u<n:=by omega
   have J:v<n:=by omega
   have⟨row,x,c8⟩:=o.row y;have D:=Zc9 o y J x;have b5:u<m.length:=by grind
   simp only[show Ue ((i:Int)<(l.length:Int))=Uc from (by grind),Zf,L,ZC c,Za];have stay:¬GB free l[i]->∃z,Ua (Sum.inl (m,((i+1:Nat):Int)):(V (V Int)×Int) ⊕ V (V Int))=Ua z/\Via (λP:V (V Int)×Int=>(∃(m:V (V Int)) (i:Nat),P=(m,(i:Int))/\i<=l.length/\GP n m/\(∀a b,a<n->b<n->gm m a b=JE\/(gm m a b<=JE/\Wb (Kf l free) n a b (gm m a b)))/\
    ∀p∈l.take i,GB free p->gm m p.1.toNat p.2.1.toNat<=p.2.2.1)/\l.length - P.2.toNat<l.length - ((i:Nat):Int).toNat) (λm=>Yj (Kf l free) n 0 m) z:=λA=>by
    refine⟨_,rfl,⟨m,i+1,rfl,c,o,B,λp F N=>?_⟩,by omega⟩;grind
   have put:GB free l[i]->∀b:Bool,b=Uc->∃z,(bif b then
            Vb (Zo (u:Int) (Vs m)) λU=>
             Vb m[U]? λ_=>
              Vb (Zo (u:Int) (Vs m)) λK=>
               Vb m[K]? λ_=>
                Vb (idx m (K:Int)) λb7=>
                 Vb (Zo (v:Int) (Vs b7)) λb8=>
                  Vb (idx m (K:Int)) λb9=>
                   Vb b9[b8]? λc1=>
                    Vb (idx m (U:Int)) λc2=>
                     Vb (Zo (v:Int) (Vs c2)) λQ=>
                      Vb (idx m (U:Int)) λR=>
                       Vb R[Q]? λ_=>
                        Ua
                         (Sum.inl (Vt m (Int.toNat (U:Int)) (Vt R Q (Tr.imin c1 (l[i]).2.2.1)),((i+1:Nat):Int)))
         else Ua (Sum.inl (m,((i+1:Nat):Int))))=Ua (z:(V (V Int)×Int) ⊕ V (V Int))/\Via (λP:V (V Int)×Int=>(∃(m:V (V Int)) (i:Nat),P=(m,(i:Int))/\i<=l.length/\GP n m/\(∀a b,a<n->b<n->gm m a b=JE\/(gm m a b<=JE/\Wb (Kf l free) n a b (gm m a b)))/\
    ∀p∈l.take i,GB free p->gm m p.1.toNat p.2.1.toNat<=p.2.2.1)/\l.length - P.2.toNat<l.length - ((i:Nat):Int).toNat) (λm=>Yj (Kf l free) n 0 m) z:=by
    rintro A b rfl;have b6:v<row.length:=by omega
    have M:idx m (u:Int)=Ua row:=by assumption
    simp only[Zf,Kz b5,Za,x,M,Kz b6,D,Vp];have t:Vt m u (Vt row v (Tr.imin (gm m u v) (l[i]).2.2.1))=upd m u v (min (gm m u v) (l[i]).2.2.1):=by unfold upd;rw[x,Zns];rfl
    rw[t];have a5:Kf l free u v (l[i]).2.2.1:=⟨_,Vf c,A,hu,hv,rfl⟩;refine⟨_,rfl,⟨_,i+1,rfl,c,o.upd y v _,λa b ha hb=>?_,λp F N=>?_⟩,by omega⟩
    .rw[Zd4 o y J];by_cases a1:a=u/\b=v
     .obtain⟨rfl,rfl⟩:=a1;rw[Zn ⟨rfl,rfl⟩];by_cases c7:gm m a b<=(l[i]).2.2.1
      .grind
      rw[Vxa (by omega)];exact .inr ⟨by grind,.one a5⟩
     grind
    rw[Zd4 o y J];rw[I]at F;obtain h|h:=Vab.1 F;.have:=s p h N;grind
    simp at h;grind
   simp only[hu,hv]
   cases b4:(l[i]).2.2.2.1 with
   |true=>
    simp only[Zf,Za]
    exact put (λ_=>b4) Uc rfl|false=>
    simp only[Ze,Za]
    cases E:free with
    |false=>
     have:=put (λh=>by grind) Uc rfl;rw[E]at this
     grind|true=>
     have:=stay (λh=>by have:=h E;grind);rw[E]at this;grind
  have:i=l.length:=by omega
  subst this;simp only[show Ue ((l.length:Int)<(l.length:Int))=Ud from (by simp),Ze];rw[Vwa]at s;refine⟨_,rfl,o,B,λa b d ha hb hd=>?_⟩
  cases hd with
  |one e=>
   obtain⟨p,F,A,h1,h2,rfl⟩:=e;have:=s p F A
   simp_all|cons e A _=>omega
 intro m hE;refine XV (λst=>∃(m:V (V Int)) (k:Nat),st=(m,(k:Int))/\k<=n/\Yj (Kf l free) n k m) (λst=>n - st.2.toNat) (λm=>Yj (Kf l free) n n m) ⟨m,0,rfl,Vk _,hE⟩ ?_ (by simp);rintro st ⟨m,k,rfl,hk,hE⟩;by_cases g:k<n
 .have L:Va .i64 ((k:Int)+1)=((k+1:Nat):Int):=by rw[ZB (by omega) (by omega)];omega
  simp only[show Ue ((k:Int)<(n:Int))=Uc from (by grind),Zf,L];refine XV (λst=>∃(m:V (V Int)) (a:Nat),st=(m,(a:Int))/\a<=n/\Ha (Kf l free) n k a 0 m) (λst=>n - st.2.toNat) (λm=>Ha (Kf l free) n k n 0 m) ⟨m,0,rfl,Vk _,Ha.start hE⟩ ?_ (λm A=>⟨_,rfl,⟨m,k+1,rfl,g,A.fin⟩,by omega⟩);rintro st ⟨m,a,rfl,ha,C⟩;by_cases f:a<n
  .have W:Va .i64 ((a:Int)+1)=((a+1:Nat):Int):=by rw[ZB (by omega) (by omega)];omega
   simp only[show Ue ((a:Int)<(n:Int))=Uc from (by grind),Zf,W];refine XV (λst=>∃(m:V (V Int)) (b:Nat),st=(m,(b:Int))/\b<=n/\Ha (Kf l free) n k a b m) (λst=>n - st.2.toNat) (λm=>Ha (Kf l free) n k a n m) ⟨m,0,rfl,Vk _,C⟩ ?_ (λm A=>⟨_,rfl,⟨m,a+1,rfl,f,A.next⟩,by omega⟩)
   rintro st ⟨m,b,rfl,hb,C⟩;by_cases q:b<n
   .have e3:Va .i64 ((b:Int)+1)=((b+1:Nat):Int):=by rw[ZB (by omega) (by omega)];omega
    have o:=C.ent.shp;have⟨T,H,c4⟩:=o.row f;have⟨rk,O,c5⟩:=o.row g;have a2:a<m.length:=by grind
    have b0:k<m.length:=by grind
    have a6:idx m (a:Int)=Ua T:=by assumption
    have a7:idx m (k:Int)=Ua rk:=by assumption
    have a3:b<T.length:=by omega
    have a4:b<rk.length:=by omega
    have a9:k<T.length:=by omega
    have b1:=C.ent.bnd S f q;have b2:=C.ent.bnd S f g;have b3:=C.ent.bnd S g q;have e4:Va .i64 (gm m a k+gm m k b)=gm m a k+gm m k b:=ZB (by omega) (by unfold JE at*;omega);simp only[show Ue ((b:Int)<(n:Int))=Uc from (by grind),Zf,e3,Kz a2,Kz b0,Za,H,O,a6,a7,Kz a3,Kz a4,Kz a9,Zc9 o f q H,Zc9 o f g H,Zc9 o g q O,e4,Vp,Zns];have t:Vt m a (Vt T b (min (gm m a b) (gm m a k+gm m k b)))=upd m a b (min (gm m a b) (gm m a k+gm m k b)):=by unfold upd;grind
    rw[t];exact⟨_,rfl,⟨_,b+1,rfl,q,C.step S f q g⟩,by omega⟩
   have:b=n:=by omega
   simp_all
  have:a=n:=by omega
  simp_all
 have:k=n:=by omega
 simp_all
end Q
namespace Q
open Tr Go
abbrev Di:=Int×Int×Int×Bool×Unit
def G3(a b:Di):Prop:=a.1<b.1\/(a.1=b.1/\(a.2.1<b.2.1\/(a.2.1=b.2.1/\a.2.2.1<b.2.2.1)))
def Hj(a b:Int):Int:=if a<b then -1 else if b<a then 1 else 0
theorem Zmp(a b:Int):F8 a b=Ua (Hj a b):=by unfold F8 F10 Hj;grind
theorem Zxi(x y z:Int):F9 [x,y,z]=Ua (if x≠0 then x else if y≠0 then y else z):=by
 unfold F9;have g:Va .i64 (0+1)=1:=by decide
 have i:Va .i64 (1+1)=2:=by decide
 have j:Va .i64 (2+1)=3:=by decide
 have e:idx [x,y,z] 0=Ua x:=rfl;have f:idx [x,y,z] 1=Ua y:=rfl;have h:idx [x,y,z] 2=Ua z:=rfl;have a:(([x,y,z]).length:Int)=3:=rfl;rw[ZeD];simp only[a,show Ue ((0:Int)<3)=Uc from rfl,Zf,e,g];by_cases b:x=0
 .subst b;simp only[decide_true,Vc,Ze,Za,Vh];rw[ZeD];simp[show Ue (1<3)=Uc from rfl,f];by_cases c:y=0
  .subst c;simp[Vh];rw[ZeD];by_cases d:z=0
   .subst d;rfl
   grind
  grind
 grind
def c3(a b:Di):Int:=if Hj a.1 b.1≠0 then Hj a.1 b.1 else if Hj a.2.1 b.2.1≠0 then Hj a.2.1 b.2.1 else Hj a.2.2.1 b.2.2.1
theorem Zs2(a b:Di):F40 a b=Ua (c3 a b):=by unfold F40;simp[Zmp];rw[Zxi _ _ _];rfl
theorem Zs0 a b:c3 a b<0↔G3 a b:=by unfold c3 G3 Hj;omega
theorem Zs1 a b:0<c3 a b↔G3 b a:=by unfold c3 G3 Hj;omega
def Srt(l:V Di):Prop:=l.Pairwise G3
theorem Zy6{l}(h:Srt l)(d:l.length<16384):F198 l ()=Ua l:=by
 refine Tr.sortF_sorted G3 l (by omega) (λx _ y _=>⟨_,Zs2 x y,Zs0 x y,Zs1 x y⟩) (λx _=>?_) (λa _ b _ c _=>?_) h;.unfold G3;omega
 unfold G3;omega
end Q
namespace Q
open Tr Go Gr
def JI(a b:Nat)(d f:Int):V Di:=
 (if 0<d/\d<=14400 then [((a:Int),(b:Int),d,Ue (f=d),())] else [])++(if f=d then [] else if 0<f/\f<=14400 then [((a:Int),(b:Int),f,Uc,())] else [])
def X9(a b:Nat)(e g:Int):V Di:=
 if 14400<e then [] else(a,b,e,Ue (g=e),())::(if e<g/\g<=14400 then [(a,b,g,Uc,())] else [])
def Rel(d e:Int):Prop:=(e=d/\1<=d)\/(e=JE/\(d= -1\/JE<=d))
theorem ZvY{a b d e f g}(h:Rel d e)(i:Rel f g)(j:f= -1\/(d≠ -1/\d<=f)):JI a b d f=X9 a b e g:=by
 unfold Rel JE at*;unfold JI X9;by_cases c:0<d/\d<=14400
 .by_cases k:f=e
  .grind
  have l:¬g=e:=by omega
  grind
 rw[Zg c,Zn (show 14400<e by omega)];grind
theorem ZnH a b d f:(JI a b d f).length<=2:=by unfold JI;grind
theorem Zmc{a b:Nat}{d:Int}{s:Bool}{out:V Di}(h:out.length<4294967295):F39 (a:Int) (b:Int) d s out=Ua (out++if 0<d/\d<=14400 then [((a:Int),(b:Int),d,s,())] else []):=by
 unfold F39;by_cases c:0<d
 .by_cases e:d<=14400
  .simp only[Zi c,Zi e];rw[XM (by grind),Zn ⟨c,e⟩];rfl
  grind
 grind
section
variable (it:Nat->Nat->V Di) (n:Nat)
def YC(a m:Nat):V Di:=(Vr m).flatMap λb=>if a=b then [] else it a b
def WU(m:Nat):V Di:=(Vr m).flatMap λa=>YC it a n
end
theorem DP it a m:YC it a (m+1)=YC it a m++if a=m then [] else it a m:=by unfold YC;rw[Vcb,Vsa];simp
theorem Zdy it n m:WU it n (m+1)=WU it n m++YC it m n:=by unfold WU;rw[Vcb,Vsa];simp
theorem ZgR{it}(h:∀a b,(it a b).length<=2) a:∀m,(YC it a m).length<=2*m|0=>by simp[YC]|m+1=>by rw[DP,Vq];have:=ZgR h a m;grind
theorem Zls{it}(h:∀a b,(it a b).length<=2) n:∀m,(WU it n m).length<=2*n*m|0=>by simp[WU]|m+1=>by rw[Zdy,Vq];have:=Zls h n m;have:=ZgR h m n;grind
theorem Zfd{it}(h:∀a b,(it a b).length<=2){n m}(f:n<=64)(e:m<=n):(WU it n m).length<=8192:=by have c:=Zls h n m;have d:2*n*m<=2*64*64:=Nat.mul_le_mul (by omega) (by omega);omega
theorem ZrQ{it c n m}(g:m<=n)(h:∀a b,a<n->b<n->a≠b->it a b=c a b):WU it n m=WU c n m:=by
 induction m with
 |zero=>rfl|succ m e=>
  rw[Zdy,Zdy,e (by omega)];congr 1;have:∀k,k<=n->YC it m k=YC c m k:=by
   intro k
   induction k with
   |zero=>intro _;rfl|succ k d=>
    intro f;rw[DP,DP,d (by omega)];grind
  grind
theorem ZrS{it:Nat->Nat->V Di}{n m}(e:∀a b x,x∈it a b->x.1=a/\x.2.1=b)(l:∀a b,(it a b).Pairwise λx y=>x.2.2.1<y.2.2.1):Srt (WU it n m):=by
 show (WU it n m).Pairwise G3
 .unfold WU;rw[Voa];refine⟨λa _=>?_,?_⟩
  .unfold YC;rw[Voa];refine⟨λb _=>?_,?_⟩
   .split
    .simp
    refine List.Pairwise.imp_of_mem ?_ (l a b);intro x y c d q;have⟨g,h⟩:=e a b x c;have⟨i,j⟩:=e a b y d;unfold G3;omega
   refine List.Pairwise.imp ?_ Vja;intro b f p x c y d;split at c;.grind
   split at d;.grind
   have⟨g,h⟩:=e a b x c;have⟨i,j⟩:=e a f y d;unfold G3;omega
  refine List.Pairwise.imp ?_ Vja;intro a k o x c y d;have⟨b,_,c⟩:=Vya.1 c;have⟨f,_,d⟩:=Vya.1 d;split at c;.grind
  split at d;.grind
  have⟨g,h⟩:=e a b x c;have⟨i,j⟩:=e k f y d;unfold G3;omega
theorem ZvV{a b d f x}(h:x∈JI a b d f):x.1=a/\x.2.1=b:=by unfold JI at h;grind
theorem Zis{n}(m:n<=64){l}(hF:Rz n l)(s:l.length<=4096)
 (q:∀a b,KL (Kf l Uc) a b= -1\/KL (Kf l Ud) a b<=KL (Kf l Uc) a b):
 F38 l (n:Int)=Ua (WU (λa b=>JI a b (KL (Kf l Ud) a b) (KL (Kf l Uc) a b)) n n):=by
 have key:∃z,F38 l (n:Int)=Ua z/\z=WU (λa b=>JI a b (KL (Kf l Ud) a b) (KL (Kf l Uc) a b)) n n:=by
  unfold F38;obtain⟨_,v,rfl⟩:=ZmC m hF s Ud;obtain⟨_,w,rfl⟩:=ZmC m hF s Uc;rw[v];simp only[Za];rw[w];simp only[Za];have i:∀Ed,(YT Ed n).length=n:=λEd=>by simp[YT]
  have c:∀a b,((λa b=>JI a b (KL (Kf l Ud) a b) (KL (Kf l Uc) a b)) a b).length<=2:=λa b=>ZnH _ _ _ _;have k:∀Ed a,a<n->idx (YT Ed n) (a:Int)=Ua ((Vr n).map λj=>KL Ed a j):=λEd a o=>by have h:=Zoc (Ed:=Ed) o;assumption
  have f:∀Ed a b,b<n->idx ((Vr n).map λj=>KL Ed a j) (b:Int)=Ua (KL Ed a b):=λEd a b y=>by rw[ZC (by grind)];simp
  refine XV (λst=>∃a,st=(WU (λa b=>JI a b (KL (Kf l Ud) a b) (KL (Kf l Uc) a b)) n a,(a:Int))/\a<=n) (λst=>n - st.2.toNat)
   (λr=>r=WU (λa b=>JI a b (KL (Kf l Ud) a b) (KL (Kf l Uc) a b)) n n) ⟨0,rfl,Vk _⟩ ?_ ?_
  .rintro st ⟨a,rfl,o⟩;by_cases p:a<n
   .have t:Va .i64 ((a:Int)+1)=((a+1:Nat):Int):=by rw[ZB (by omega) (by omega)];omega
    simp only[i,show Ue ((a:Int)<(n:Int))=Uc from (by grind),Zf,k _ a p,Za,t,Vbb,List.length_range];refine XV (λst=>∃b,st=(WU (λa b=>JI a b (KL (Kf l Ud) a b) (KL (Kf l Uc) a b)) n a++YC (λa b=>JI a b (KL (Kf l Ud) a b) (KL (Kf l Uc) a b)) a b,(b:Int))/\b<=n) (λst=>n - st.2.toNat)
     (λr=>r=WU (λa b=>JI a b (KL (Kf l Ud) a b) (KL (Kf l Uc) a b)) n (a+1)) ⟨0,by simp[YC],Vk _⟩ ?_ ?_
    .rintro st ⟨b,rfl,y⟩;by_cases d:b<n
     .have u:Va .i64 ((b:Int)+1)=((b+1:Nat):Int):=by rw[ZB (by omega) (by omega)];omega
      simp only[show Ue ((b:Int)<(n:Int))=Uc from (by grind),Zf,f _ a b d,Za,u];by_cases e:a=b;.subst e;simp only[decide_true,Zf];exact⟨_,rfl,⟨a+1,by rw[DP,Zn rfl,Vdb],d⟩,by omega⟩
      have A:(WU (λa b=>JI a b (KL (Kf l Ud) a b) (KL (Kf l Uc) a b)) n a++YC (λa b=>JI a b (KL (Kf l Ud) a b) (KL (Kf l Uc) a b)) a b).length<=10000:=by rw[Vq];have:=Zfd c m o;have:=ZgR c a b;omega
      simp[show Ue ((a:Int)=(b:Int))=Ud from (by grind),Ze];rw[Zmc (by omega)];simp only[Za];by_cases g:KL (Kf l Uc) a b=KL (Kf l Ud) a b;.simp only[g,decide_true,Vc,Ze];refine⟨_,rfl,⟨b+1,?_,d⟩,by omega⟩;rw[DP,Zg e,<-Vfa];congr 1;unfold JI;grind
      simp only[Zm g,Vo,Zf];rw[Zmc (by grind)];simp only[Za];refine⟨_,rfl,⟨b+1,?_,d⟩,by omega⟩;rw[DP,Zg e,Vfa,<-Vfa (WU _ _ _)];congr 1;unfold JI;grind
     have:b=n:=by omega
     subst this;simp only[show Ue ((b:Int)<(b:Int))=Ud from (by simp),Ze];exact⟨_,rfl,(Zdy _ _ _).symm⟩
    grind
   have:a=n:=by omega
   simp_all
  rintro r rfl;have B:Srt (WU (λa b=>JI a b (KL (Kf l Ud) a b) (KL (Kf l Uc) a b)) n n):=ZrS (λa b x C=>ZvV C) (λa b=>by
   unfold JI;have:=q a b;split;.grind
   split;.simp
   split<;>simp)
  rw[Zy6 B (by have:=Zfd c m (Vv n);omega)];simp
 grind
theorem Zwg{Ed}(f:∀u v w,Ed u v w->0<=w){s v}:∀k d,d.toNat=k->Wk Ed s v d->∃m,Least Ed s v m:=by
 intro k
 induction k using Vza with
 |ind k j=>
  intro d i h;by_cases c:∃b,Wk Ed s v b/\b<d;.have⟨b,e,g⟩:=c;have a:=e.nonneg f;grind
  exact⟨d,h,by grind⟩
theorem Zz0{Ed}(a:∀u v w,Ed u v w->1<=w){k i j d}(h:Wb Ed k i j d):1<=d:=by
 induction h with|one _|cons _ _ _ _=>grind
theorem ZfS{n l}(hF:Rz n l) free:∀u v w,Kf l free u v w->u<n/\v<n/\1<=w:=λu v w ⟨p,a,_,b,c,d⟩=>by have:=hF p a;omega
theorem ZfJ{n l}(hF:Rz n l) a b:KL (Kf l Uc) a b= -1\/(KL (Kf l Ud) a b≠ -1/\KL (Kf l Ud) a b<=KL (Kf l Uc) a b):=by
 by_cases h:∃d,Least (Kf l Uc) a b d
 .right;have⟨d,g⟩:=h;have i:∀u v w,Kf l Ud u v w->0<=w:=λu v w h=>by have:=ZfS hF Ud u v w h;omega
  have c:Wk (Kf l Ud) a b d:=by
   have key:∀{v}{d},Wk (Kf l Uc) a v d->Wk (Kf l Ud) a v d:=by
    intro v d h
    induction h with
    |nil=>exact .nil|snoc _ e o=>
     have⟨p,k,_,j⟩:=e;exact .snoc o ⟨p,k,(λh=>by cases h),j⟩
   exact key g.1
  have⟨m,f⟩:=Zwg i _ d rfl c;rw[Zbx f,Zbx g];have:=f.1.nonneg i;exact⟨by omega,f.2 d c⟩
 left;unfold KL;grind
theorem Zpq{n l}(hF:Rz n l){free m}(i:Yj (Kf l free) n n m){a b}(j:a<n)(k:b<n)(o:a≠b):Rel (KL (Kf l free) a b) (gm m a b):=by
 have p:∀u v w,Kf l free u v w->u<n/\v<n:=λu v w h=>⟨(ZfS hF free u v w h).1,(ZfS hF free u v w h).2.1⟩;have c:∀d,Wk (Kf l free) a b d->gm m a b<=d:=λd f=>by
  obtain⟨h,_⟩|h:=f.wb p;.omega
  exact i.all a b d j k h
 obtain h|⟨_,h⟩:=i.snd a b j k
 .right;refine⟨h,?_⟩;by_cases g:∃d,Least (Kf l free) a b d
  .have⟨d,f⟩:=g;rw[Zbx f];have:=c d f.1;omega
  left;unfold KL;grind
 left;have e:=Wb.wk (Wk.nil) h;rw[Int.zero_add]at e;rw[Zbx ⟨e,c⟩];exact⟨rfl,Zz0 (λu v w h=>(ZfS hF free u v w h).2.2) h⟩
theorem ZvW a b d f:(X9 a b d f).length<=2:=by unfold X9;grind
theorem ZtT{n}(q:n<=64){l}(hF:Rz n l)(v:l.length<=4096):
 ∃c d,Yj (Kf l Ud) n n c/\Yj (Kf l Uc) n n d/\F120 l (n:Int)=Ua (WU (λa b=>X9 a b (gm c a b) (gm d a b)) n n):=by
 have⟨c,C,j⟩:=Zp9 q hF v Ud;have⟨d,D,k⟩:=Zp9 q hF v Uc;refine⟨c,d,j,k,?_⟩;have key:∃z,F120 l (n:Int)=Ua z/\z=WU (λa b=>X9 a b (gm c a b) (gm d a b)) n n:=by
  unfold F120;rw[C];simp only[Za];rw[D];simp only[Za];have i:∀a b,((λa b=>X9 a b (gm c a b) (gm d a b)) a b).length<=2:=λa b=>ZvW _ _ _ _;refine XV (λst=>∃a,st=(WU (λa b=>X9 a b (gm c a b) (gm d a b)) n a,(a:Int))/\a<=n) (λst=>n - st.2.toNat)
   (λr=>r=WU (λa b=>X9 a b (gm c a b) (gm d a b)) n n) ⟨0,rfl,Vk _⟩ ?_ (by simp)
  rintro st ⟨a,rfl,E⟩;by_cases g:a<n
  .have A:Va .i64 ((a:Int)+1)=((a+1:Nat):Int):=by rw[ZB (by omega) (by omega)];omega
   have⟨w,s,J⟩:=j.shp.row g;have⟨u,t,K⟩:=k.shp.row g;have F:a<c.length:=by grind
   have H:a<d.length:=by grind
   have L:idx c (a:Int)=Ua w:=by assumption
   have M:idx d (a:Int)=Ua u:=by assumption
   simp only[show Ue ((a:Int)<(n:Int))=Uc from (by grind),Zf,A];refine XV (λst=>∃b,st=(WU (λa b=>X9 a b (gm c a b) (gm d a b)) n a++YC (λa b=>X9 a b (gm c a b) (gm d a b)) a b,(b:Int))/\b<=n) (λst=>n - st.2.toNat)
    (λr=>r=WU (λa b=>X9 a b (gm c a b) (gm d a b)) n (a+1)) ⟨0,by simp[YC],Vk _⟩ ?_ ?_
   .rintro st ⟨b,rfl,N⟩;by_cases e:b<n
    .have B:Va .i64 ((b:Int)+1)=((b+1:Nat):Int):=by rw[ZB (by omega) (by omega)];omega
     have I:b<u.length:=by omega
     have x:idx w (b:Int)=Ua (gm c a b):=by have:=Zc9 j.shp g e s;assumption
     have y:idx u (b:Int)=Ua (gm d a b):=by have:=Zc9 k.shp g e t;assumption
     simp only[show Ue ((b:Int)<(n:Int))=Uc from (by grind),Zf,L,M,x,y,Za,B];by_cases f:a=b;.subst f;simp only[decide_true,Zf,Za];exact⟨_,rfl,⟨a+1,by rw[DP,Zn rfl,Vdb],e⟩,by omega⟩
     have p:(WU (λa b=>X9 a b (gm c a b) (gm d a b)) n a++YC (λa b=>X9 a b (gm c a b) (gm d a b)) a b).length<=10000:=by rw[Vq];have:=Zfd i q E;have:=ZgR i a b;omega
     simp only[show Ue ((a:Int)=(b:Int))=Ud from (by grind),Ze,Za];by_cases h:14400<gm c a b;.simp only[Zi h,Zf];refine⟨_,rfl,⟨b+1,?_,e⟩,by omega⟩;rw[DP,Zg f];unfold X9;grind
     simp only[Zm h,Ze];rw[XM (by grind)];simp only[Za];by_cases o:gm c a b<gm d a b
     .simp only[Zi o,Zf,Za];by_cases m:gm d a b<=14400
      .simp only[Zi m,Zf];rw[XM (by grind)];simp only[Za];refine⟨_,rfl,⟨b+1,?_,e⟩,by omega⟩;rw[DP,Zg f];unfold X9;grind
      simp only[Zm m,Ze];refine⟨_,rfl,⟨b+1,?_,e⟩,by omega⟩;rw[DP,Zg f];unfold X9;grind
     simp only[Zm o,Ze,Za];refine⟨_,rfl,⟨b+1,?_,e⟩,by omega⟩;rw[DP,Zg f];unfold X9;grind
    have:b=n:=by omega
    subst this;simp only[show Ue ((b:Int)<(b:Int))=Ud from (by simp),Ze];exact⟨_,rfl,(Zdy _ _ _).symm⟩
   grind
  have:a=n:=by omega
  simp_all
 grind
theorem Zir{n}(g:n<=64){l}(hF:Rz n l)(k:l.length<=4096):∃c:V K5,F38 l (n:Int)=Ua c/\F120 l (n:Int)=Ua c/\c.length<=8192:=by have⟨m,o,e,f,h⟩:=ZtT g hF k;refine⟨_,Zis g hF k λa b=>(ZfJ hF a b).imp id λh=>h.2,?_,Zfd (λa b=>ZnH _ _ _ _) g (Vv n)⟩;rw[h];congr 1;refine(ZrQ (Vv n) λa b i j d=>?_).symm;exact ZvY (Zpq hF e i j d) (Zpq hF f i j d) (ZfJ hF a b)
end Q
namespace Q
open Tr Go
def Wu(n:Nat)(chk:Nat->Int):Option Nat:=(Vr n).find? λi=>Ue (chk i≠0)
theorem Zvc{n i:Nat}{chk:Nat->Int}(b:i<n)(h:∀j,j<i->chk j=0)(a:chk i≠0):Wu n chk=Ua i:=by unfold Wu;simp_all
theorem ZfZ{n:Nat}{chk:Nat->Int}(h:∀j,j<n->chk j=0):Wu n chk=none:=by unfold Wu;grind
theorem W0{n:Nat}{chk:Nat->Int}:Wu n chk=Ub↔∀j,j<n->chk j=0:=by refine⟨λh j a=>?_,ZfZ⟩;unfold Wu at h;grind
theorem Zbz{n i:Nat}{chk:Nat->Int}(h:Wu n chk=Ua i):i<n/\chk i≠0:=by unfold Wu at h;grind
def pick{τ:Type}(n:Nat)(chk:Nat->Int)(R:Nat->τ)(E:τ):τ:=match Wu n chk with|some i=>R i|none=>E
theorem JL{e τ:Type}{step:e->Option (e ⊕ τ)}{n:Nat}(a:Nat->e->Prop)(chk:Nat->Int)(R:Nat->τ)(E:τ)
 (h:∀i s,i<n->a i s->chk i=0->∃s',step s=Ua (.inl s')/\a (i+1) s')
 (b:∀i s,i<n->a i s->chk i≠0->step s=Ua (.inr (R i)))
 (c:∀s,a n s->step s=Ua (.inr E)):∀s,a 0 s->run step s=Ua (pick n chk R E):=by
 have key:∀(k i:Nat) (s:e),n - i=k->i<=n->a i s->(∀j,j<i->chk j=0)->run step s=Ua (pick n chk R E):=by
  intro k
  induction k with
  |zero=>
   intro i s o m d g;have:i=n:=by omega
   subst this;rw[J3 (c s d)];unfold pick
   rw[ZfZ g]|succ k q=>
   intro i s o m d g;by_cases f:chk i=0;.obtain⟨s',l,p⟩:=h i s (by omega) d f;rw[YX l];grind
   rw[J3 (b i s (by omega) d f)];unfold pick;rw[Zvc (by omega) g f]
 grind
theorem ZyL{τ:Type}{step:Int->Option (Int ⊕ τ)}{n:Nat}(chk:Nat->Int)(R:Nat->τ)(E:τ)
 (b:∀i:Nat,i<n->step (i:Int)=if chk i=0 then Ua (.inl ((i+1:Nat):Int)) else Ua (.inr (R i))) (a:step (n:Int)=Ua (.inr E)):run step (0:Int)=Ua (pick n chk R E):=by
 refine JL (λi st=>st=(i:Int)) _ _ _ ?_ ?_ ?_ _ rfl;all_goals grind
def W4{t:Ty}(key:Nat->El t)(i:Nat)(m:V (El t×Bool)):Prop:= ∀k,Ve (ZT (Zs t) k m) Ud=Uc↔∃j,j<i/\key j=k
theorem W4.nil{t:Ty}(key:Nat->El t):W4 key 0 []:=λk=>by simp[ZT]
theorem W4.add{t:Ty}(b:t.key=Uc){key:Nat->El t}{i:Nat}{m:V (El t×Bool)}(h:W4 key i m):W4 key (i+1) (Ky (Zs t) (key i) Uc m):=by
 classical
 intro k;rw[Zbq b];by_cases a:k=key i;.grind
 rw[Zg a,h k];grind
theorem ZU{i n:Nat}(h:i<n)(a:n<=9223372036854775807):Va .i64 ((i:Int)+1)=((i+1:Nat):Int):=by rw[ZB (by omega) (by omega)];omega
theorem ZL{i n:Nat}(h:i<n):Ue ((i:Int)<(n:Int))=true:=by grind
theorem JJ(n:Nat):Ue ((n:Int)<(n:Int))=false:=by simp
def okx(x:Int):Bool:=
 ((Ue (97<=x)&&Ue (x<=122)) || (Ue (65<=x)&&Ue (x<=90)) || (Ue (48<=x)&&Ue (x<=57))) || (Ue (x=45) ||decide (x=95) ||decide (x=46))
def Ht(c:UInt8):Bool:=okx (c.toNat:Int)
def Wy(s:V UInt8):Bool:=Ue (1<=s.length/\s.length<=32)&&s.all Ht
theorem ZlT(b:Bool)(x y:Bool):(bif b then Ua x else Ua y)=Ua (bif b then x else y):=by grind
def Dw(s:V UInt8)(i:Nat):Int:=if Ht ((s[i]?).getD 0) then 0 else 1
theorem Zfu(s:V UInt8):Wu s.length (Dw s)=Ub↔s.all Ht=true:=by
 rw[W0,List.all_eq_true];constructor;.intro h c b;obtain⟨i,a,rfl⟩:=Vj b;have:=h i a;unfold Dw at this;grind
 intro h i a;unfold Dw;grind
theorem Zbb(s:V UInt8)(f:s.length<=9223372036854775807):F51 s=Ua (Wy s):=by
 unfold F51;rw[JL (n:=s.length) (λi st=>st=(i:Int)) (Dw s) (λ_=>.inr Ud) (.inl ()) ?_ ?_ ?_ (0:Int) rfl]
 .unfold pick;simp only[Za]
  cases e:Wu s.length (Dw s) with
  |none=>
   have d:=(Zfu s).1 e;simp only[Vh];unfold Wy;rw[d,Bool.and_true];by_cases g:0<s.length;.rw[Zi (by omega)];simp only[Zf,Za];congr 1;grind
   grind|some i=>
   simp only[Sum.elim_inr];have d:s.all Ht=false:=by
    cases b:s.all Ht with|false=>rfl|true=>rw[(Zfu s).2 b]at e;grind
   unfold Wy;grind
 .rintro i _ a rfl b;refine⟨_,?_,rfl⟩;have c:Ht s[i]=true:=by unfold Dw at b;grind
  simp only[ZL a,Zf,ZC a,Za,ZlT,ZU a f];unfold Ht okx at c;grind
 .rintro i _ a rfl b;have c:Ht s[i]=false:=by unfold Dw at b;grind
  simp only[ZL a,Zf,ZC a,Za,ZlT,ZU a f];unfold Ht okx at c;grind
 simp
theorem Zb2(s:V UInt8):F125 s=Ua (Wy s):=by
 unfold F125;by_cases f:s.length<1;.rw[Zi (by omega)];simp only[Zf,Za];unfold Wy;grind
 rw[Zm (by omega)];simp only[Ze,Za];by_cases g:32<s.length;.rw[Zi (by omega)];simp only[Zf];unfold Wy;grind
 rw[Zm (by omega)];simp only[Ze];have e:s.length<=9223372036854775807:=by omega
 rw[JL (n:=s.length) (λi st=>st=(i:Int)) (Dw s) (λ_=>.inr Ud) (.inl ()) ?_ ?_ ?_ (0:Int) rfl]
 .unfold pick;simp only[Za];unfold Wy;rw[Zi (by omega),Vx]
  cases d:Wu s.length (Dw s) with
  |none=>rw[(Zfu s).1 d];rfl|some i=>
   have h:s.all Ht=false:=by
    cases b:s.all Ht with|false=>rfl|true=>rw[(Zfu s).2 b]at d;grind
   grind
 .rintro i _ a rfl b;refine⟨_,?_,rfl⟩;have c:Ht s[i]=true:=by unfold Dw at b;grind
  simp only[ZL a,Zf,ZC a,Za,ZU a e];unfold Ht okx at c;grind
 .rintro i _ a rfl b;have c:Ht s[i]=false:=by unfold Dw at b;grind
  simp only[ZL a,Zf,ZC a,Za,ZU a e];unfold Ht okx at c;grind
 simp
end Q
namespace Q
open Tr Go
open Classical in
def Hl(name dup num:Prop):Int:=if name then 12 else if dup then 6 else if num then 2 else 0
theorem Rf{a b c:Prop}:Hl a b c=0↔¬a/\ ¬b/\ ¬c:=by unfold Hl;grind
theorem ZcC{a b c:Prop}(h:a):Hl a b c=12:=by unfold Hl;grind
theorem ZcB{a b c:Prop}(h:¬a)(d:b):Hl a b c=6:=by unfold Hl;grind
theorem ZcE{a b c:Prop}(h:¬a)(d:¬b)(e:c):Hl a b c=2:=by unfold Hl;grind
theorem ZcD{a b c:Prop}(h:¬a)(d:¬b)(e:¬c):Hl a b c=0:=by unfold Hl;grind
theorem ZdQ{τ:Type}{step:Int->Option (Int ⊕ τ)}{i:Nat}{p:Nat->Prop}{R E:τ}(f:∀j:Nat,j<i->¬p j->step (j:Int)=Ua (.inl ((j+1:Nat):Int)))(c:∀j:Nat,j<i->p j->step (j:Int)=Ua (.inr R))
 (a:step (i:Int)=Ua (.inr E)):((∃j,j<i/\p j)->run step (0:Int)=Ua R)/\((¬∃j,j<i/\p j)->run step (0:Int)=Ua E):=by
 classical
 have key:=JL (n:=i) (step:=step) (λj st=>st=(j:Int)) (λj=>if p j then 1 else 0) (λ_=>R) E (by grind) (by grind) (by grind) (0:Int) rfl;constructor
 .rintro ⟨j,e,g⟩;rw[key];unfold pick
  cases d:Wu i (λj=>if p j then 1 else 0) with
  |some k=>rfl|none=>
   have:=W0.1 d j e;grind
 intro b;rw[key];unfold pick;rw[ZfZ (by grind)]
theorem HO(x a b:Int):F126 x a b=Ua (Ue (a<=x/\x<=b)):=by unfold F126;grind
theorem ZkS(x a b:Int):F86 x a b=Ua (Ue (a<=x/\x<=b)):=HO x a b
abbrev RJ:=V UInt8×Int×Bool×Int×Unit
abbrev Gb:=V UInt8×Int×Bool×Unit
def DT(l:V RJ)(i:Nat):Int:=
 let x:RJ:=(l[i]?).getD ([],0,Ud,0,())
 Hl (Wy x.1=Ud) (∃j,j<i/\((l[j]?).getD ([],0,Ud,0,())).1=x.1) (x.2.1<0\/16<=x.2.1\/x.2.2.2.1<0\/3600<x.2.2.2.1)
def Dd(l:V RJ):Int×Int:=if 64<l.length then(0,5) else pick l.length (DT l) (λi=>((i:Int),DT l i)) (0,0)
theorem Zzg(l:V RJ)(q:∀x∈l,x.1.length<=9223372036854775807):F201 l=Ua (Dd l):=by
 unfold F201 Dd;by_cases k:64<l.length;.grind
 rw[Zg k,Zm (by omega)];simp only[Ze];rw[JL (n:=l.length) (λi st=>∃m,st=(m,(i:Int))/\W4 (t:=Y9) (λj=>((l[j]?).getD ([],0,Ud,0,())).1) i m) (DT l) (λi=>.inr ((i:Int),DT l i)) (.inl ()) ?_ ?_ ?_ ([],(0:Int)) ⟨[],rfl,W4.nil _⟩];.unfold pick;grind
 .rintro i _ a ⟨m,rfl,f⟩ d;have p:(l[i]?).getD ([],0,Ud,0,())=l[i]:=by grind
  unfold DT at d;simp only[p]at d;obtain⟨e,b,g⟩:=Rf.1 d;have e:Wy (l[i]).1=true:=by grind
  have c:Ve (ZT (Zs Y9) (l[i]).1 m) Ud=false:=by
   cases o:Ve (ZT (Zs Y9) (l[i]).1 m) Ud with|false=>rfl|true=>exact absurd ((f _).1 o) b
  refine⟨(Ky (Zs Y9) (l[i]).1 Uc m,((i+1:Nat):Int)),?_,_,rfl,?_⟩
  .simp only[ZL a,Zf,ZC a,Za,Zbb _ (q _ (Vf a)),e,Vc,Ze,c,ZU a (by omega),
    show Ue ((l[i]).2.1<0)=Ud from (by grind),show Ue ((16:Int)<=(l[i]).2.1)=Ud from (by grind),show Ue ((l[i]).2.2.2.1<0)=Ud from (by grind),show Ue ((3600:Int)<(l[i]).2.2.2.1)=Ud from (by grind)]
  have:=W4.add (t:=Y9) rfl f;grind
 .rintro i _ a ⟨m,rfl,f⟩ d;have p:(l[i]?).getD ([],0,Ud,0,())=l[i]:=by grind
  simp only[ZL a,Zf,ZC a,Za,Zbb _ (q _ (Vf a))];unfold DT at d⊢;simp only[p]at d⊢;by_cases e:Wy (l[i]).1=Ud;.rw[ZcC e,e];rfl
  have h:Wy (l[i]).1=true:=by grind
  simp only[h,Vc,Ze];by_cases b:∃j,j<i/\((l[j]?).getD ([],0,Ud,0,())).1=(l[i]).1;.rw[ZcB (by simp) b,(f _).2 b];rfl
  have c:Ve (ZT (Zs Y9) (l[i]).1 m) Ud=false:=by
   cases o:Ve (ZT (Zs Y9) (l[i]).1 m) Ud with|false=>rfl|true=>exact absurd ((f _).1 o) b
  simp only[c,Ze];have g:(l[i]).2.1<0\/16<=(l[i]).2.1\/(l[i]).2.2.2.1<0\/3600<(l[i]).2.2.2.1:=by
   by_cases g:(l[i]).2.1<0\/16<=(l[i]).2.1\/(l[i]).2.2.2.1<0\/3600<(l[i]).2.2.2.1;.omega
   exact absurd (ZcD e b g) d
  rw[ZcE (by simp) b g];grind
 simp
theorem Zzh(l:V RJ):F132 l=Ua (Dd l):=by
 unfold F132 Dd;by_cases s:64<l.length;.grind
 rw[Zg s,Zm (by omega)];simp only[Ze];have a:∀i (b:i<l.length) (u:Type) (R E:u) (f:Int->u),f (i:Int)=R->((∃j,j<i/\((l[j]?).getD ([],0,Ud,0,())).1=(l[i]).1)->run (λh:Int=>
       bif decide (h<(i:Int)) then
        Vb (idx l h) λt=>
         bif decide (t.fst=(l[i]).fst) then Ua (Sum.inr (f (i:Int))) else Ua (Sum.inl (Va .i64 (h+(1:Int))))
       else Ua (Sum.inr E)) (0:Int)=Ua R)/\((¬∃j,j<i/\((l[j]?).getD ([],0,Ud,0,())).1=(l[i]).1)->run (λh:Int=>
       bif decide (h<(i:Int)) then
        Vb (idx l h) λt=>
         bif decide (t.fst=(l[i]).fst) then Ua (Sum.inr (f (i:Int))) else Ua (Sum.inl (Va .i64 (h+(1:Int))))
       else Ua (Sum.inr E)) (0:Int)=Ua E):=by
  intro i b u R E f v;refine ZdQ (p:=λj=>((l[j]?).getD ([],0,Ud,0,())).1=(l[i]).1) (λj q m=>?_) (λj q m=>?_) ?_
  .have e:j<l.length:=by omega
   have g:(l[j]?).getD ([],0,Ud,0,())=l[j]:=by grind
   rw[g]at m;simp only[ZL q,Zf,ZC e,Za,Zm m,Ze,ZU q (by omega)]
  .have e:j<l.length:=by omega
   have g:(l[j]?).getD ([],0,Ud,0,())=l[j]:=by grind
   rw[g]at m;simp only[ZL q,Zf,ZC e,Za,Zi m,v]
  simp
 rw[JL (n:=l.length) (λi st=>st=(i:Int)) (DT l) (λi=>.inr ((i:Int),DT l i)) (.inl ()) ?_ ?_ ?_ (0:Int) rfl];.unfold pick;grind
 .rintro i _ b rfl d;have g:(l[i]?).getD ([],0,Ud,0,())=l[i]:=by grind
  unfold DT at d;simp only[g]at d;obtain⟨k,c,o⟩:=Rf.1 d;have k:Wy (l[i]).1=true:=by grind
  refine⟨((i+1:Nat):Int),?_,rfl⟩;simp only[ZL b,Zf,ZC b,Za,Zb2,k,Vc,Ze];rw[(a i b _ _ (Sum.inl ()) (λx=>Sum.inr (x,(6:Int))) rfl).2 c];simp only[Za,Vh,HO,Zi (show (0:Int)<=(l[i]).2.1/\(l[i]).2.1<=15 by omega),Vc,Ze,Zi (show (0:Int)<=(l[i]).2.2.2.1/\(l[i]).2.2.2.1<=3600 by omega),ZU b (by omega)]
 .rintro i _ b rfl d;have g:(l[i]?).getD ([],0,Ud,0,())=l[i]:=by grind
  simp only[ZL b,Zf,ZC b,Za,Zb2];unfold DT at d⊢;simp only[g]at d⊢;by_cases k:Wy (l[i]).1=Ud;.rw[ZcC k,k];rfl
  have r:Wy (l[i]).1=true:=by grind
  simp only[r,Vc,Ze];by_cases c:∃j,j<i/\((l[j]?).getD ([],0,Ud,0,())).1=(l[i]).1;.rw[ZcB (by simp) c,(a i b _ _ (Sum.inl ()) (λx=>Sum.inr (x,(6:Int))) rfl).1 c];rfl
  rw[(a i b _ _ (Sum.inl ()) (λx=>Sum.inr (x,(6:Int))) rfl).2 c];have o:(l[i]).2.1<0\/16<=(l[i]).2.1\/(l[i]).2.2.2.1<0\/3600<(l[i]).2.2.2.1:=by
   by_cases o:(l[i]).2.1<0\/16<=(l[i]).2.1\/(l[i]).2.2.2.1<0\/3600<(l[i]).2.2.2.1;.omega
   exact absurd (ZcD k c o) d
  rw[ZcE (by simp) c o];simp only[Za,Vh,HO];grind
 simp
end Q
namespace Q
open Tr Go
theorem ZnO(x:Int):F176 x=Ua (Ue (0<=x/\x<=7)):=by unfold F176;grind
theorem Zcz{α:Type}{l:V α}{nm:α->V UInt8}{d:α}{i:Nat}(h:i<l.length)(k:l.length<=9223372036854775807){y:V UInt8}{τ:Type}(R E:τ):
 ((∃j,j<i/\nm ((l[j]?).getD d)=y)->run (λb:Int=>
        bif decide (b<(i:Int)) then
         Vb (idx l b) λg=>
          bif decide (nm g=y) then Ua (Sum.inr R) else Ua (Sum.inl (Va .i64 (b+(1:Int))))
        else Ua (Sum.inr E)) (0:Int)=Ua R)/\((¬∃j,j<i/\nm ((l[j]?).getD d)=y)->run (λb:Int=>
        bif decide (b<(i:Int)) then
         Vb (idx l b) λg=>
          bif decide (nm g=y) then Ua (Sum.inr R) else Ua (Sum.inl (Va .i64 (b+(1:Int))))
        else Ua (Sum.inr E)) (0:Int)=Ua E):=by
 refine ZdQ (p:=λj=>nm ((l[j]?).getD d)=y) (λj e c=>?_) (λj e c=>?_) ?_
 .have a:j<l.length:=by omega
  have f:(l[j]?).getD d=l[j]:=by grind
  rw[f]at c;simp only[ZL e,Zf,ZC a,Za,Zm c,Ze,ZU e (by omega)]
 .have a:j<l.length:=by omega
  have f:(l[j]?).getD d=l[j]:=by grind
  rw[f]at c;simp only[ZL e,Zf,ZC a,Za,Zi c]
 simp
def r0:Gb:=([],0,Ud,())
def DN(l:V Gb)(i:Nat):Int:=
 Hl (Wy ((l[i]?).getD r0).1=Ud) (∃j,j<i/\((l[j]?).getD r0).1=((l[i]?).getD r0).1) (¬(0<=((l[i]?).getD r0).2.1/\((l[i]?).getD r0).2.1<=7))
def DO(l:V Gb):Int×Int:=if 64<l.length then(0,5) else pick l.length (DN l) (λi=>((i:Int),DN l i)) (0,0)
theorem KE{α:Type}{l:V α}{i:Nat}(h:i<l.length)(d:α):(l[i]?).getD d=l[i]:=by grind
theorem Zak{t:Ty}{key:Nat->El t}{i:Nat}{m:V (El t×Bool)}(h:W4 key i m){k:El t}(b:¬∃j,j<i/\key j=k):Ve (ZT (Zs t) k m) Ud=false:=by
 cases a:Ve (ZT (Zs t) k m) Ud with|false=>rfl|true=>exact absurd ((h k).1 a) b
theorem Zyn(l:V Gb)(p:∀x∈l,x.1.length<=9223372036854775807):F175 l=Ua (DO l):=by
 unfold F175 DO;by_cases o:64<l.length;.grind
 rw[Zg o,Zm (by omega)];simp only[Ze];rw[JL (n:=l.length) (λi st=>∃m,st=(m,(i:Int))/\W4 (t:=Y9) (λj=>((l[j]?).getD r0).1) i m) (DN l) (λi=>.inr ((i:Int),DN l i)) (.inl ()) ?_ ?_ ?_ ([],(0:Int)) ⟨[],rfl,W4.nil _⟩];.unfold pick;grind
 .rintro i _ a ⟨m,rfl,f⟩ c;have g:=KE a r0;unfold DN at c;rw[g]at c;obtain⟨d,b,e⟩:=Rf.1 c;have d:Wy (l[i]).1=true:=by grind
  have k:=Zak f b;have e:0<=(l[i]).2.1/\(l[i]).2.1<=7:=by omega
  refine⟨(Ky (Zs Y9) (l[i]).1 Uc m,((i+1:Nat):Int)),?_,_,rfl,?_⟩;.simp only[ZL a,Zf,ZC a,Za,Zbb _ (p _ (Vf a)),d,Vc,Ze,k,ZU a (by omega),ZnO,Zi e]
  have:=W4.add (t:=Y9) rfl f;grind
 .rintro i _ a ⟨m,rfl,f⟩ c;have g:=KE a r0;simp only[ZL a,Zf,ZC a,Za,Zbb _ (p _ (Vf a))];unfold DN at c⊢;rw[g]at c;simp only[g];by_cases d:Wy (l[i]).1=Ud
  .rw[ZcC d,d];rfl
  have h:Wy (l[i]).1=true:=by grind
  simp only[h,Vc,Ze];by_cases b:∃j,j<i/\((l[j]?).getD r0).1=(l[i]).1;.rw[ZcB (by simp) b,(f _).2 b];rfl
  simp only[Zak f b,Ze];have e:¬(0<=(l[i]).2.1/\(l[i]).2.1<=7):=λe=>c (ZcD d b (by omega));rw[ZcE (by simp) b e,ZnO,Zm e];rfl
 simp
theorem Zyo(l:V Gb):F130 l=Ua (DO l):=by
 unfold F130 DO;by_cases m:64<l.length;.grind
 rw[Zg m,Zm (by omega)];simp only[Ze];have g:l.length<=9223372036854775807:=by omega
 rw[JL (n:=l.length) (λi st=>st=(i:Int)) (DN l) (λi=>.inr ((i:Int),DN l i)) (.inl ()) ?_ ?_ ?_ (0:Int) rfl];.unfold pick;grind
 .rintro i _ a rfl c;have h:=KE a r0;unfold DN at c;rw[h]at c;obtain⟨e,b,f⟩:=Rf.1 c;have e:Wy (l[i]).1=true:=by grind
  have f:0<=(l[i]).2.1/\(l[i]).2.1<=7:=by omega
  refine⟨((i+1:Nat):Int),?_,rfl⟩;simp only[ZL a,Zf,ZC a,Za,Zb2,e,Vc,Ze];rw[(Zcz (nm:=λx:Gb=>x.1) (d:=r0) a g (y:=(l[i]).1) _ _).2 b];simp only[Za,Vh,HO,Zi f,Vc,Ze,ZU a g]
 .rintro i _ a rfl c;have h:=KE a r0;simp only[ZL a,Zf,ZC a,Za,Zb2];unfold DN at c⊢;rw[h]at c;simp only[h];by_cases e:Wy (l[i]).1=Ud
  .rw[ZcC e,e];rfl
  have k:Wy (l[i]).1=true:=by grind
  simp only[k,Vc,Ze];by_cases b:∃j,j<i/\((l[j]?).getD r0).1=(l[i]).1;.rw[ZcB (by simp) b,(Zcz (nm:=λx:Gb=>x.1) (d:=r0) a g (y:=(l[i]).1) _ _).1 b];rfl
  rw[(Zcz (nm:=λx:Gb=>x.1) (d:=r0) a g (y:=(l[i]).1) _ _).2 b];have f:¬(0<=(l[i]).2.1/\(l[i]).2.1<=7):=λf=>c (ZcD e b (by omega));rw[ZcE (by simp) b f];simp only[Za,Vh,HO,Zm f];rfl
 simp
abbrev Xr:=V UInt8×Int×Int×Int×Int×Int×Unit
abbrev KD:=V Xr×Int×Int×Int×Unit
def p0:Xr:=([],0,0,0,0,0,())
def Hr(x:Xr):Bool:=Ue (0<=x.2.1/\x.2.1<=1000000)&&(Ue (1<=x.2.2.1/\x.2.2.1<=8)&&(Ue (1<=x.2.2.2.1/\x.2.2.2.1<=16)&&(Ue (0<=x.2.2.2.2.1/\x.2.2.2.2.1<=86400)&&Ue (1<=x.2.2.2.2.2.1/\x.2.2.2.2.2.1<=255))))
def Rm(l:V Xr)(i:Nat):Int:=
 Hl (Wy ((l[i]?).getD p0).1=Ud) (∃j,j<i/\((l[j]?).getD p0).1=((l[i]?).getD p0).1) (Hr ((l[i]?).getD p0)=Ud)
def GY(f:KD):Bool:=Ue (0<=f.2.1/\f.2.1<=1000000)&&(Ue (0<=f.2.2.1/\f.2.2.1<=86400)&&Ue (0<=f.2.2.2.1/\f.2.2.2.1<=1000000))
def Xg(f:KD):Int×Int:=
 if GY f=Ud then(-1,2) else if 16<f.1.length then(0,5) else pick f.1.length (Rm f.1) (λi=>((i:Int),Rm f.1 i)) (0,0)
theorem Zqv{w:Int->Int->Int->Option Bool}(c:∀x a b,w x a b=Ua (Ue (a<=x/\x<=b)))(f:KD):
 (Vb (w f.2.1 0 1000000) λx0=>bif !x0 then Ua Uc else Vb (w f.2.2.1 0 86400) λd=>bif !d then Ua Uc else Vb (w f.2.2.2.1 0 1000000) λe=>Ua !e)=Ua (!GY f):=by
 unfold GY;simp only[c,Za];grind
theorem Zf1{w:Int->Int->Int->Option Bool}(c:∀x a b,w x a b=Ua (Ue (a<=x/\x<=b)))(x:Xr):
 (Vb (w x.2.1 0 1000000) λx0=>bif !x0 then Ua Uc else Vb (w x.2.2.1 1 8) λd=>bif !d then Ua Uc else Vb (w x.2.2.2.1 1 16) λe=>bif !e then Ua Uc else
   Vb (w x.2.2.2.2.1 0 86400) λf=>bif !f then Ua Uc else Vb (w x.2.2.2.2.2.1 1 255) λg=>Ua !g)=Ua (!Hr x):=by
 unfold Hr;simp only[c,Za];grind
theorem Zi5(f:KD)(p:∀x∈f.1,x.1.length<=9223372036854775807):F82 f=Ua (Xg f):=by
 unfold F82 Xg;rw[Zqv (w:=F86) ZkS f];simp only[Za]
 cases r:GY f with
 |true=>
  rw[Zg (by simp)];simp only[Vc,Ze];by_cases l:16<f.1.length;.grind
  rw[Zg l,Zm (by omega)];simp only[Ze];rw[JL (n:=f.1.length) (λi st=>∃m,st=(m,(i:Int))/\W4 (t:=Y9) (λj=>((f.1[j]?).getD p0).1) i m) (Rm f.1) (λi=>.inr ((i:Int),Rm f.1 i)) (.inl ()) ?_ ?_ ?_ ([],(0:Int)) ⟨[],rfl,W4.nil _⟩];.unfold pick;grind
  .rintro i _ a ⟨m,rfl,g⟩ c;have h:=KE a p0;unfold Rm at c;rw[h]at c;obtain⟨d,b,e⟩:=Rf.1 c;have d:Wy (f.1[i]).1=true:=by grind
   have o:=Zak g b;have e:Hr f.1[i]=true:=by grind
   refine⟨(Ky (Zs Y9) (f.1[i]).1 Uc m,((i+1:Nat):Int)),?_,_,rfl,?_⟩;.simp only[ZL a,Zf,ZC a,Za,Zbb _ (p _ (Vf a)),d,Vc,Ze,o,ZU a (by omega)];rw[Zf1 (w:=F86) ZkS,e];rfl
   have:=W4.add (t:=Y9) rfl g;grind
  .rintro i _ a ⟨m,rfl,g⟩ c;have h:=KE a p0;simp only[ZL a,Zf,ZC a,Za,Zbb _ (p _ (Vf a))];unfold Rm at c⊢;rw[h]at c;simp only[h];by_cases d:Wy (f.1[i]).1=Ud
   .rw[ZcC d,d];rfl
   have k:Wy (f.1[i]).1=true:=by grind
   simp only[k,Vc,Ze];by_cases b:∃j,j<i/\((f.1[j]?).getD p0).1=(f.1[i]).1;.rw[ZcB (by simp) b,(g _).2 b];rfl
   simp only[Zak g b,Ze];have e:Hr f.1[i]=false:=by
    cases q:Hr f.1[i] with|false=>rfl|true=>exact absurd (ZcD d b (by grind)) c
   rw[ZcE (by simp) b e,Zf1 (w:=F86) ZkS,e];rfl
  simp
 |false=>rfl
theorem Zu5(f:KD):F121 f=Ua (Xg f):=by
 unfold F121 Xg;rw[Zqv (w:=F126) HO f];simp only[Za]
 cases p:GY f with
 |true=>
  rw[Zg (by simp)];simp only[Vc,Ze];by_cases m:16<f.1.length;.grind
  rw[Zg m,Zm (by omega)];simp only[Ze];have h:f.1.length<=9223372036854775807:=by omega
  rw[JL (n:=f.1.length) (λi st=>st=(i:Int)) (Rm f.1) (λi=>.inr ((i:Int),Rm f.1 i)) (.inl ()) ?_ ?_ ?_ (0:Int) rfl];.unfold pick;grind
  .rintro i _ a rfl c;have k:=KE a p0;unfold Rm at c;rw[k]at c;obtain⟨e,b,g⟩:=Rf.1 c;have e:Wy (f.1[i]).1=true:=by grind
   have g:Hr f.1[i]=true:=by grind
   refine⟨((i+1:Nat):Int),?_,rfl⟩;simp only[ZL a,Zf,ZC a,Za,Zb2,e,Vc,Ze];rw[(Zcz (nm:=λx:Xr=>x.1) (d:=p0) a h (y:=(f.1[i]).1) _ _).2 b];simp only[Za,Vh];rw[Zf1 (w:=F126) HO,g];simp only[Vc,Za,Ze,ZU a h]
  .rintro i _ a rfl c;have k:=KE a p0;simp only[ZL a,Zf,ZC a,Za,Zb2];unfold Rm at c⊢;rw[k]at c;simp only[k];by_cases e:Wy (f.1[i]).1=Ud
   .rw[ZcC e,e];rfl
   have l:Wy (f.1[i]).1=true:=by grind
   simp only[l,Vc,Ze];by_cases b:∃j,j<i/\((f.1[j]?).getD p0).1=(f.1[i]).1;.rw[ZcB (by simp) b,(Zcz (nm:=λx:Xr=>x.1) (d:=p0) a h (y:=(f.1[i]).1) _ _).1 b];rfl
   rw[(Zcz (nm:=λx:Xr=>x.1) (d:=p0) a h (y:=(f.1[i]).1) _ _).2 b];have g:Hr f.1[i]=false:=by
    cases o:Hr f.1[i] with|false=>rfl|true=>exact absurd (ZcD e b (by grind)) c
   rw[ZcE (by simp) b g];simp only[Za,Vh];rw[Zf1 (w:=F126) HO,g];rfl
  simp
 |false=>rfl
abbrev Jj:=Int×Int×Int×Bool×Bool×Unit
def c0:Jj:=(0,0,0,Ud,Ud,())
def ZdG(l:V Jj)(i:Nat)(n:Int):Bool:=Ue (((l[i]?).getD c0).1<0) ||decide (n<=((l[i]?).getD c0).1)
def ZdH(l:V Jj)(i:Nat):Bool:=Ue (0<i)&&Ue (((l[i - 1]?).getD c0).1=((l[i]?).getD c0).1)
def ZdI(l:V Jj)(i:Nat)(b a:Int):Bool:=Ue (((l[i]?).getD c0).2.1<b) || (Ue (((l[i]?).getD c0).2.2.1<((l[i]?).getD c0).2.1) || (Ue (a<((l[i]?).getD c0).2.2.1) || (Ue (0<i)&&Ue (((l[i]?).getD c0).2.1<((l[i - 1]?).getD c0).2.2.1))))
def XS(l:V Jj)(n b a:Int)(i:Nat):Int:=if ZdG l i n then 9 else if ZdH l i then 13 else if ZdI l i b a then 10 else 0
theorem ZnC(i:Nat):Ue ((0:Int)<(i:Int))=Ue (0<i):=by simp
theorem Zo3{l:V Jj}{i:Nat}(b:i<l.length)(c:l.length<=9223372036854775807)(a:0<i):idx l (Va .i64 ((i:Int) - 1))=Ua ((l[i - 1]?).getD c0):=by
 have e:Va .i64 ((i:Int) - 1)=((i - 1:Nat):Int):=by rw[ZB (by omega) (by omega)];omega
 rw[e,ZC (by omega),KE (by omega)]
theorem ZoF{l:V Jj}{i:Nat}(b:i<l.length)(e:l.length<=9223372036854775807)(n d a:Int):F7 l (i:Int) n d a=Ua (XS l n d a i):=by
 unfold F7 XS ZdG ZdH ZdI;rw[KE b,ZC b];simp only[Za,ZnC];by_cases c:0<i;.simp only[Zo3 b e c,Za,Zi c,Zf,Vx];grind
 grind
def XL(l:V Jj)(n b a:Int):Int:=if l.length<2\/32<l.length then 5 else pick l.length (XS l n b a) (XS l n b a) 0
theorem ZlY(l:V Jj)(n c b:Int):∃i,F6 l n c b=Ua (i,XL l n c b):=by
 unfold F6 XL;by_cases f:l.length<2;.rw[Zi (by omega),Zn (.inl f)];simp
 rw[Zm (by omega)];by_cases g:32<l.length;.rw[Zn (.inr g)];simp only[Ze,Za,Zi (show (32:Int)<(l.length:Int) by omega),Zf];simp
 rw[Zg (by omega)];simp only[Ze,Za,Zm (show¬(32:Int)<(l.length:Int) by omega)];have e:l.length<=9223372036854775807:=by omega
 rw[JL (n:=l.length) (λi st=>st=(i:Int)) (XS l n c b) (λi=>.inr ((i:Int),XS l n c b i)) (.inl ()) ?_ ?_ ?_ (0:Int) rfl];.unfold pick;cases Wu l.length (XS l n c b)<;>exact⟨_,rfl⟩
 .rintro i _ a rfl d;refine⟨((i+1:Nat):Int),?_,rfl⟩;simp only[ZL a,Zf,ZoF a e,Za,d,decide_true,Vc,Ze,ZU a e]
 .rintro i _ a rfl d;simp only[ZL a,Zf,ZoF a e,Za,Zm d,Vo]
 simp
theorem Zs7(l:V Jj)(n c b:Int):F118 l n c b=Ua (XL l n c b):=by
 unfold F118 XL;by_cases f:l.length<2;.grind
 rw[Zm (by omega)];by_cases g:32<l.length;.grind
 rw[Zg (by omega)];simp only[Ze,Za];have e:l.length<=9223372036854775807:=by omega
 rw[ZyL (n:=l.length) (XS l n c b) (λi=>.inr (XS l n c b i)) (.inl ()) ?_ (by simp)];.unfold pick;grind
 intro i a;simp only[ZL a,Zf,ZC a,Za,ZnC,ZU a e];unfold XS ZdG ZdH ZdI;rw[KE a];by_cases d:0<i;.simp only[Zo3 a e d,Za,Zi d,Zf,Vx];grind
 grind
abbrev RG:=Int×Int×Int×V UInt8×Int×Bool×Bool×V Jj×Unit
abbrev Dj:=Int×Int×Int×Int×Bool×Unit
abbrev Zh:=V RJ×V Gb×V RG×V Dj×V K5×KD×Unit
def u0:RG:=(0,0,0,[],0,Ud,Ud,[],())
abbrev Zrj:=V UInt8×Int×Int×Unit
def runK(x:RG):Zrj:=(x.2.2.2.1,x.2.1,x.2.2.1,())
open Classical in
def Yd(n:Zh)(i:Nat):Int:=
 let x:=(n.2.2.1[i]?).getD u0
 if Wy x.2.2.2.1=Ud then 12 else if (Ue (x.1< -1) ||decide (x.2.2.1<0))=Uc then 2 else if (Ue (x.2.1<0) ||decide (36524<x.2.1))=Uc then 11
 else if (Ue (x.2.2.2.2.1<0) ||decide ((n.2.1.length:Int)<=x.2.2.2.2.1))=Uc then 9
 else if XL x.2.2.2.2.2.2.2.1 (n.1.length:Int) 0 3155932800≠0 then XL x.2.2.2.2.2.2.2.1 (n.1.length:Int) 0 3155932800
 else if∃j,j<i/\runK ((n.2.2.1[j]?).getD u0)=runK x then 6 else 0
def ZgY(n:Zh):Int×Int×Int×Unit:=if 1024<n.2.2.1.length then(2,0,5,()) else pick n.2.2.1.length (Yd n) (λi=>(2,(i:Int),Yd n i,())) (0,0,0,())
theorem ZyG(n:Zh)(q:∀x∈n.2.2.1,x.2.2.2.1.length<=9223372036854775807):F69 n=Ua (ZgY n):=by
 unfold F69 ZgY F79;by_cases r:1024<n.2.2.1.length;.grind
 rw[Zg r,Zm (by omega)];simp only[Ze];have s:n.2.2.1.length<=9223372036854775807:=by omega
 rw[JL (n:=n.2.2.1.length) (λi st=>∃m,st=((0,0,0,()),m,(i:Int))/\W4 (t:=D7) (λj=>runK ((n.2.2.1[j]?).getD u0)) i m) (Yd n) (λi=>.inr (2,(i:Int),Yd n i,())) (.inl (0,0,0,())) ?_ ?_ ?_ _ ⟨[],rfl,W4.nil _⟩];.unfold pick;grind
 .rintro i _ b ⟨m,rfl,k⟩ a;have p:=KE b u0;unfold Yd at a;simp only[p]at a;obtain⟨ci,g⟩:=ZlY (n.2.2.1[i]).2.2.2.2.2.2.2.1 (n.1.length:Int) 0 3155932800;by_cases l:Wy (n.2.2.1[i]).2.2.2.1=Ud
  .grind
  rw[Zg l]at a;by_cases c:(Ue ((n.2.2.1[i]).1< -1) ||decide ((n.2.2.1[i]).2.2.1<0))=Uc;.grind
  rw[Zg c]at a;by_cases d:(Ue ((n.2.2.1[i]).2.1<0) ||decide (36524<(n.2.2.1[i]).2.1))=Uc;.grind
  rw[Zg d]at a;by_cases e:(Ue ((n.2.2.1[i]).2.2.2.2.1<0) ||decide ((n.2.1.length:Int)<=(n.2.2.1[i]).2.2.2.2.1))=Uc;.grind
  rw[Zg e]at a;by_cases o:XL (n.2.2.1[i]).2.2.2.2.2.2.2.1 (n.1.length:Int) 0 3155932800=0
  .rw[Zg (by omega)]at a;by_cases h:∃j,j<i/\runK ((n.2.2.1[j]?).getD u0)=runK n.2.2.1[i]
   .simp_all
   have f:Wy (n.2.2.1[i]).2.2.2.1=true:=by grind
   have u:=Zak k h;refine⟨((0,0,0,()),Ky (Zs D7) (runK n.2.2.1[i]) Uc m,((i+1:Nat):Int)),?_,_,rfl,?_⟩;.simp only[ZL b,Zf,ZC b,Za,Zbb _ (q _ (Vf b)),f,Vc,Ze,g,o,decide_true,ZU b s];simp only[Vl,Vi]at c d e;simp only[c.1,c.2,d.1,d.2,e.1,e.2,Ze,Za];rw[show Ve (ZT (Zs D7) ((n.2.2.1[i]).2.2.2.1,(n.2.2.1[i]).2.1,(n.2.2.1[i]).2.2.1,()) m) Ud=Ud from u];rfl
   have:=W4.add (t:=D7) rfl k;grind
  omega
 .rintro i _ b ⟨m,rfl,k⟩ a;have p:=KE b u0;obtain⟨ci,g⟩:=ZlY (n.2.2.1[i]).2.2.2.2.2.2.2.1 (n.1.length:Int) 0 3155932800;simp only[ZL b,Zf,ZC b,Za,Zbb _ (q _ (Vf b))];unfold Yd at a⊢;simp only[p]at a⊢;by_cases l:Wy (n.2.2.1[i]).2.2.2.1=Ud
  .grind
  have f:Wy (n.2.2.1[i]).2.2.2.1=true:=by grind
  rw[Zg l]at a⊢;simp only[f,Vc,Ze];by_cases c:(Ue ((n.2.2.1[i]).1< -1) ||decide ((n.2.2.1[i]).2.2.1<0))=Uc;.grind
  rw[Zg c]at a⊢;by_cases d:(Ue ((n.2.2.1[i]).2.1<0) ||decide (36524<(n.2.2.1[i]).2.1))=Uc;.grind
  rw[Zg d]at a⊢;simp only[Vl,Vi]at c d;simp only[c.1,c.2,d.1,d.2,Ze,Za];by_cases e:(Ue ((n.2.2.1[i]).2.2.2.2.1<0) ||decide ((n.2.1.length:Int)<=(n.2.2.1[i]).2.2.2.2.1))=Uc;.grind
  rw[Zg e]at a⊢;simp only[Vl,Vi]at e;simp only[e.1,e.2,Ze,Za,g];by_cases o:XL (n.2.2.1[i]).2.2.2.2.2.2.2.1 (n.1.length:Int) 0 3155932800=0
  .rw[Zg (by omega)]at a⊢;simp only[o,decide_true,Vc,Ze];by_cases h:∃j,j<i/\runK ((n.2.2.1[j]?).getD u0)=runK n.2.2.1[i]
   .rw[Zn h];rw[show Ve (ZT (Zs D7) ((n.2.2.1[i]).2.2.2.1,(n.2.2.1[i]).2.1,(n.2.2.1[i]).2.2.1,()) m) Ud=Uc from (k _).2 h];rfl
   grind
  grind
 grind
theorem ZpW(n:Zh){i:Nat}(l:i<n.2.2.1.length)(y:n.2.2.1.length<=9223372036854775807):F131 n (i:Int)=Ua (Yd n i):=by
 unfold F131 Yd;have v:=KE l u0;simp only[v,ZC l,Za,Zb2,Zs7,HO];by_cases m:Wy (n.2.2.1[i]).2.2.2.1=Ud;.grind
 have f:Wy (n.2.2.1[i]).2.2.2.1=true:=by grind
 rw[Zg m];simp only[f,Vc,Ze];by_cases c:(Ue ((n.2.2.1[i]).1< -1) ||decide ((n.2.2.1[i]).2.2.1<0))=Uc;.grind
 rw[Zg c];simp only[Vl,Vi]at c;simp only[c.1,c.2,Ze,Za];by_cases o:(Ue ((n.2.2.1[i]).2.1<0) ||decide (36524<(n.2.2.1[i]).2.1))=Uc;.grind
 rw[Zg o];have u:0<=(n.2.2.1[i]).2.1/\(n.2.2.1[i]).2.1<=36524:=by grind
 simp only[Zi u,Vc,Ze];by_cases d:(Ue ((n.2.2.1[i]).2.2.2.2.1<0) ||decide ((n.2.1.length:Int)<=(n.2.2.1[i]).2.2.2.2.1))=Uc;.grind
 rw[Zg d];simp only[Vl,Vi]at d;simp only[d.1,d.2,Ze,Za];by_cases q:XL (n.2.2.1[i]).2.2.2.2.2.2.2.1 (n.1.length:Int) 0 3155932800=0
 .rw[Zg (by omega)];simp only[q,decide_true,Vc,Ze];have k:=ZdQ (i:=i) (p:=λj=>runK ((n.2.2.1[j]?).getD u0)=runK n.2.2.1[i]) (τ:=Unit ⊕ Int) (R:=.inr 6) (E:=.inl ()) (step:=λg:Int=>
   bif decide (g<(i:Int)) then
    Vb (idx n.2.2.1 g) λh=>
     Vb
      (bif decide (h.snd.snd.snd.fst=(n.2.2.1[i]).snd.snd.snd.fst) then
        bif decide (h.snd.fst=(n.2.2.1[i]).snd.fst) then Ua (decide (h.snd.snd.fst=(n.2.2.1[i]).snd.snd.fst)) else Ua Ud
      else Ua Ud)
      λw=>bif w then Ua (Sum.inr (Sum.inr (6:Int))) else Ua (Sum.inl (Va .i64 (g+(1:Int))))
   else Ua (Sum.inr (Sum.inl ()))) (λj e a=>?_) (λj e a=>?_) (by simp)
  .by_cases x:∃j,j<i/\runK ((n.2.2.1[j]?).getD u0)=runK n.2.2.1[i];all_goals simp_all
  .have b:j<n.2.2.1.length:=by omega
   have a:¬runK n.2.2.1[j]=runK n.2.2.1[i]:=by grind
   simp only[ZL e,Zf,ZC b,Za,ZU e (by omega)];by_cases r:(n.2.2.1[j]).2.2.2.1=(n.2.2.1[i]).2.2.2.1
   .rw[Zi r];by_cases s:(n.2.2.1[j]).2.1=(n.2.2.1[i]).2.1
    .rw[Zi s];have t:¬(n.2.2.1[j]).2.2.1=(n.2.2.1[i]).2.2.1:=λt=>a (by unfold runK;grind);grind
    grind
   grind
  have b:j<n.2.2.1.length:=by omega
  have a:runK n.2.2.1[j]=runK n.2.2.1[i]:=by grind
  unfold runK at a;simp only[Vta,and_true]at a;simp only[ZL e,Zf,ZC b,Za,Zi a.1,Zi a.2.1,Zi a.2.2]
 grind
end Q
namespace Q
open Tr Go Gr
def f0:K5:=(0,0,0,Ud,())
def J2(p:K5):K5:=(p.1,p.2.1,0,p.2.2.2.1,())
def Hu(n:Nat)(p:K5):Bool:= !Ue (0<=p.1/\p.1<(n:Int)) || (!Ue (0<=p.2.1/\p.2.1<(n:Int)) ||decide (p.1=p.2.1))
def Hv(p:K5):Bool:=Ue (p.2.2.1<1) ||decide (14400<p.2.2.1)
open Classical in
def Wo(n:Nat)(l:V K5)(i:Nat):Int:=
 if Hu n ((l[i]?).getD f0)=Uc then 9 else if Hv ((l[i]?).getD f0)=Uc then 2 else if∃j,j<i/\J2 ((l[j]?).getD f0)=J2 ((l[i]?).getD f0) then 6 else 0
theorem ZbT{n:Nat}{l:V K5}{i:Nat}(h:Wo n l i=0):Hu n ((l[i]?).getD f0)=Ud/\Hv ((l[i]?).getD f0)=Ud/\ ¬∃j,j<i/\J2 ((l[j]?).getD f0)=J2 ((l[i]?).getD f0):=by
 unfold Wo at h;by_cases a:Hu n ((l[i]?).getD f0)=Uc;.grind
 rw[Zg a]at h;by_cases b:Hv ((l[i]?).getD f0)=Uc;all_goals simp_all
theorem ZoV{n:Nat}{p:K5}(h:Hu n p=Ud):(0<=p.1/\p.1<n)/\(0<=p.2.1/\p.2.1<n)/\p.1≠p.2.1:=by unfold Hu at h;grind
theorem ZoW{p:K5}(h:Hv p=Ud):1<=p.2.2.1/\p.2.2.1<=14400:=by unfold Hv at h;grind
theorem Zjd{n:Nat}{l:V K5}(h:∀i,i<l.length->Wo n l i=0):Rz n l:=by intro p d;obtain⟨i,c,rfl⟩:=Vj d;obtain⟨a,b,_⟩:=ZbT (h i c);rw[KE c]at a b;have:=ZoV a;have:=ZoW b;omega
theorem Zz7(x:Int)(n:Nat):F80 x (n:Int)=Ua (Ue (0<=x/\x<(n:Int))):=by unfold F80;grind
theorem ZlJ(n:Nat)(p:K5):(Vb (F80 p.1 (n:Int)) λa=>bif !a then Ua Uc else Vb (F80 p.2.1 (n:Int)) λb=>bif !b then Ua Uc else Ua (decide (p.1=p.2.1)))=Ua (Hu n p):=by unfold Hu;simp only[Zz7,Za];grind
theorem ZsN{n:Nat}(c:n<=9223372036854775807)(p:K5):(Vb (F126 p.1 0 (Va .i64 ((n:Int) - 1))) λa=>bif !a then Ua Uc else Vb (F126 p.2.1 0 (Va .i64 ((n:Int) - 1))) λb=>bif !b then Ua Uc else Ua (decide (p.1=p.2.1)))=Ua (Hu n p):=by
 have e:Va .i64 ((n:Int) - 1)=(n:Int) - 1:=ZB (by omega) (by omega);have h:∀x:Int,Ue (0<=x/\x<=(n:Int) - 1)=Ue (0<=x/\x<(n:Int)):=by grind
 unfold Hu;simp only[e,HO,Za,h];grind
theorem ZlK(p:K5):(bif decide (p.2.2.1<(1:Int)) then Ua Uc else Ua (decide ((14400:Int)<p.2.2.1)))=Ua (Hv p):=by unfold Hv;grind
theorem ZsO(p:K5):Ue ((1:Int)<=p.2.2.1/\p.2.2.1<=14400)= !Hv p:=by unfold Hv;grind
def sameF(a b:K5):Bool:=Ue (a.1=b.1)&&(Ue (a.2.1=b.2.1)&&(Ue (a.2.2.1=b.2.2.1)&&a.2.2.2.1==b.2.2.2.1))
def eqF(c l:V K5)(i:Nat):Int:=if sameF ((c[i]?).getD f0) ((l[i]?).getD f0) then 0 else 1
def X7(c l:V K5):Bool:=Ue (c.length=l.length)&&(Wu c.length (eqF c l)).isNone
theorem Zmr{τ:Type}{c l:V K5}(j:c.length=l.length)(k:c.length<=9223372036854775807)(R E:τ):run (λf:Int=>
              bif decide (f<(↑(Vs c):Int)) then
               Vb (idx c f) λg=>
                Vb (idx l f) λh=>
                 bif !(decide (g.fst=h.fst)&&(decide (g.snd.fst=h.snd.fst)&&(decide (g.snd.snd.fst=h.snd.snd.fst)&&g.snd.snd.snd.fst==h.snd.snd.snd.fst))) then
                  Ua (Sum.inr R)
                 else Ua (Sum.inl (Va .i64 (f+(1:Int))))
              else Ua (Sum.inr E)) (0:Int)=Ua (if (Wu c.length (eqF c l)).isNone then E else R):=by
 rw[JL (n:=c.length) (λi st=>st=(i:Int)) (eqF c l) (λ_=>R) E ?_ ?_ ?_ (0:Int) rfl];.unfold pick;grind
 .rintro i _ b rfl d;have a:i<l.length:=by omega
  refine⟨((i+1:Nat):Int),?_,rfl⟩;unfold eqF at d;rw[KE b,KE a]at d;have e:sameF c[i] l[i]=true:=by grind
  unfold sameF at e;simp only[ZL b,Zf,ZC b,ZC a,Za,e,Vc,Ze,ZU b k]
 .rintro i _ b rfl d;have a:i<l.length:=by omega
  unfold eqF at d;rw[KE b,KE a]at d;have e:sameF c[i] l[i]=false:=by grind
  unfold sameF at e;simp only[ZL b,Zf,ZC b,ZC a,Za,e,Vo]
 simp
theorem Zy8{n:Nat}{l:V K5}(u:l.length<=4096)(h:∀i,i<l.length->Wo n l i=0):F42 l (n:Int)=Ua (0,0):=by
 unfold F42;have b:∀i (_:i<l.length),¬∃j,j<i/\(λj=>(((l[j]?).getD f0).1,((l[j]?).getD f0).2.1,((l[j]?).getD f0).2.2.2.1,())) j=(((l[i]?).getD f0).1,((l[i]?).getD f0).2.1,((l[i]?).getD f0).2.2.2.1,()):=by rintro i a ⟨j,o,k⟩;refine(ZbT (h i a)).2.2 ⟨j,o,?_⟩;simp only[Vta,and_true]at k;unfold J2;grind
 rw[JL (n:=l.length) (λi st=>∃m,st=(m,(i:Int))/\W4 (t:=YH) (λj=>(((l[j]?).getD f0).1,((l[j]?).getD f0).2.1,((l[j]?).getD f0).2.2.2.1,())) i m) (Wo n l) (λi=>.inr ((i:Int),Wo n l i)) (.inl ()) ?_ ?_ ?_ ([],(0:Int)) ⟨[],rfl,W4.nil _⟩];.unfold pick;rw[ZfZ h];rfl
 .rintro i _ a ⟨m,rfl,e⟩ g;have p:=KE a f0;have v:=Zak e (b i a);obtain⟨c,d,_⟩:=ZbT g;rw[p]at c d;obtain⟨q,r,f⟩:=ZoV c;have s:=ZoW d;refine⟨(Ky (Zs YH) ((l[i]).1,(l[i]).2.1,(l[i]).2.2.2.1,()) Uc m,((i+1:Nat):Int)),?_,_,rfl,?_⟩
  .simp only[ZL a,Zf,ZC a,Za,show Ue ((l[i]).1<0)=Ud from (by grind),show Ue ((n:Int)<=(l[i]).1)=Ud from (by grind),show Ue ((l[i]).2.1<0)=Ud from (by grind),
    show Ue ((n:Int)<=(l[i]).2.1)=Ud from (by grind),Zm f,Ze,show Ue ((l[i]).2.2.1<1)=Ud from (by grind),show Ue ((14400:Int)<(l[i]).2.2.1)=Ud from (by grind),ZU a (by omega)]
   grind
  have:=W4.add (t:=YH) rfl e;grind
 all_goals grind
theorem ZvS{n:Nat}(g:n<=64){l:V K5}(b:l.length<=4096)(h:∀i,i<l.length->Wo n l i=0):∃c,F120 l (n:Int)=Ua c/\c.length<=8192/\F37 l (n:Int)=Ua (X7 c l):=by
 obtain⟨c,d,e,f⟩:=Zir g (Zjd h) b;refine⟨c,e,f,?_⟩;unfold F37 X7;rw[Zy8 b h];have em:Tr.imax (n:Int) 0=(n:Int):=by rfl
 simp only[show Ue ((64:Int)<(n:Int))=Ud from (by grind),Ze,Za,decide_true,Vc,em];rw[d];simp only[Za];by_cases a:c.length=l.length;.rw[Zi (by omega),Zi a];simp only[Vc,Ze,Vx];rw[Zmr a (by omega) _ _];grind
 grind
theorem Zxr(n:Zh)(K:n.1.length<=64)(J:n.2.2.2.2.1.length<=4096):∃c,((∀i,i<n.2.2.2.2.1.length->Wo n.1.length n.2.2.2.2.1 i=0)->F120 n.2.2.2.2.1 (n.1.length:Int)=Ua c)/\F68 n=Ua (match Wu n.2.2.2.2.1.length (Wo n.1.length n.2.2.2.2.1) with|some i=>(4,(i:Int),Wo n.1.length n.2.2.2.2.1 i,())|none=>if X7 c n.2.2.2.2.1 then(0,0,0,()) else(4,0,18,()))/\
 F129 n=Ua (match Wu n.2.2.2.2.1.length (Wo n.1.length n.2.2.2.2.1) with
  |some i=>((i:Int),Wo n.1.length n.2.2.2.2.1 i)|none=>if X7 c n.2.2.2.2.1 then(0,0) else(0,18)):=by
 have w:n.2.2.2.2.1.length<=9223372036854775807:=by omega
 have B:∀i (a:i<n.2.2.2.2.1.length) (D:Type) (R E:D),((∃j,j<i/\J2 ((n.2.2.2.2.1[j]?).getD f0)=J2 n.2.2.2.2.1[i])->run (λq:Int=>
               bif decide (q<(i:Int)) then
                Vb (idx n.snd.snd.snd.snd.fst q) λr=>
                 Vb
                  (bif decide (r.fst=(n.2.2.2.2.1[i]).fst) then
                    bif decide (r.snd.fst=(n.2.2.2.2.1[i]).snd.fst) then Ua (r.snd.snd.snd.fst== (n.2.2.2.2.1[i]).snd.snd.snd.fst) else Ua Ud
                  else Ua Ud)
                  λA=>bif A then Ua (Sum.inr R) else Ua (Sum.inl (Va .i64 (q+(1:Int))))
               else Ua (Sum.inr E)) (0:Int)=Ua R)/\((¬∃j,j<i/\J2 ((n.2.2.2.2.1[j]?).getD f0)=J2 n.2.2.2.2.1[i])->run (λq:Int=>
               bif decide (q<(i:Int)) then
                Vb (idx n.snd.snd.snd.snd.fst q) λr=>
                 Vb
                  (bif decide (r.fst=(n.2.2.2.2.1[i]).fst) then
                    bif decide (r.snd.fst=(n.2.2.2.2.1[i]).snd.fst) then Ua (r.snd.snd.snd.fst== (n.2.2.2.2.1[i]).snd.snd.snd.fst) else Ua Ud
                  else Ua Ud)
                  λA=>bif A then Ua (Sum.inr R) else Ua (Sum.inl (Va .i64 (q+(1:Int))))
               else Ua (Sum.inr E)) (0:Int)=Ua E):=by
  intro i a D R E;refine ZdQ (p:=λj=>J2 ((n.2.2.2.2.1[j]?).getD f0)=J2 n.2.2.2.2.1[i]) (λj z h=>?_) (λj z h=>?_) (by simp)
  .have f:j<n.2.2.2.2.1.length:=by omega
   rw[KE f f0]at h;simp only[ZL z,Zf,ZC f,Za,ZU z (by omega)];by_cases F:(n.2.2.2.2.1[j]).1=(n.2.2.2.2.1[i]).1
   .rw[Zi F];by_cases H:(n.2.2.2.2.1[j]).2.1=(n.2.2.2.2.1[i]).2.1
    .rw[Zi H];have I:((n.2.2.2.2.1[j]).2.2.2.1== (n.2.2.2.2.1[i]).2.2.2.1)=false:=by
      cases y:((n.2.2.2.2.1[j]).2.2.2.1== (n.2.2.2.2.1[i]).2.2.2.1) with|false=>rfl|true=>exact absurd (by unfold J2;grind) h
     grind
    grind
   grind
  have f:j<n.2.2.2.2.1.length:=by omega
  rw[KE f f0]at h;unfold J2 at h;simp only[Vta,and_true,true_and]at h;have I:((n.2.2.2.2.1[j]).2.2.2.1== (n.2.2.2.2.1[i]).2.2.2.1)=true:=beq_iff_eq.2 h.2.2;simp only[ZL z,Zf,ZC f,Za,Zi h.1,Zi h.2.1];grind
 have b:∀(step:Int->Option (Int ⊕ (Unit ⊕ (Int×Int)))),(∀i,i<n.2.2.2.2.1.length->step (i:Int)=if Wo n.1.length n.2.2.2.2.1 i=0 then Ua (.inl ((i+1:Nat):Int)) else Ua (.inr (.inr ((i:Int),Wo n.1.length n.2.2.2.2.1 i))))->step (n.2.2.2.2.1.length:Int)=Ua (.inr (.inl ()))->
  run step (0:Int)=Ua (pick n.2.2.2.2.1.length (Wo n.1.length n.2.2.2.2.1) (λi=>.inr ((i:Int),Wo n.1.length n.2.2.2.2.1 i)) (.inl ())):=by
  intro step d e;refine JL (λi st=>st=(i:Int)) _ _ _ ?_ ?_ ?_ _ rfl;all_goals grind
 have key:∀c,(∀(_:∀i,i<n.2.2.2.2.1.length->Wo n.1.length n.2.2.2.2.1 i=0),F120 n.2.2.2.2.1 (n.1.length:Int)=Ua c/\c.length<=8192/\F37 n.2.2.2.2.1 (n.1.length:Int)=Ua (X7 c n.2.2.2.2.1))->
  F68 n=Ua (match Wu n.2.2.2.2.1.length (Wo n.1.length n.2.2.2.2.1) with|some i=>(4,(i:Int),Wo n.1.length n.2.2.2.2.1 i,())|none=>if X7 c n.2.2.2.2.1 then(0,0,0,()) else(4,0,18,()))/\
  F129 n=Ua (match Wu n.2.2.2.2.1.length (Wo n.1.length n.2.2.2.2.1) with
   |some i=>((i:Int),Wo n.1.length n.2.2.2.2.1 i)|none=>if X7 c n.2.2.2.2.1 then(0,0) else(0,18)):=by
  intro c g;constructor
  .unfold F68;rw[JL (n:=n.2.2.2.2.1.length) (λi st=>∃m,st=((0,0,0,()),m,(i:Int))/\W4 (t:=Wg) (λj=>J2 ((n.2.2.2.2.1[j]?).getD f0)) i m) (Wo n.1.length n.2.2.2.2.1) (λi=>.inr (4,(i:Int),Wo n.1.length n.2.2.2.2.1 i,())) (.inl (0,0,0,())) ?c1 ?c2 ?c3 _ ⟨[],rfl,W4.nil _⟩];case c1=>
    rintro i _ a ⟨m,rfl,x⟩ g;have s:=KE a f0;obtain⟨d,e,k⟩:=ZbT g;have C:=Zak x k;rw[s]at d e C;refine⟨((0,0,0,()),Ky (Zs Wg) (J2 n.2.2.2.2.1[i]) Uc m,((i+1:Nat):Int)),?_,_,rfl,?_⟩;.simp only[ZL a,Zf,ZC a,Za,ZU a w];rw[ZlJ,ZlK];simp only[Za,d,e,Ze];rw[show Ve (ZT (Zs Wg) ((n.2.2.2.2.1[i]).1,(n.2.2.2.2.1[i]).2.1,(0:Int),(n.2.2.2.2.1[i]).2.2.2.1,()) m) Ud=Ud from C];rfl
    have:=W4.add (t:=Wg) rfl x;grind
   case c2=>
    rintro i _ a ⟨m,rfl,x⟩ g;have s:=KE a f0;simp only[ZL a,Zf,ZC a,Za];rw[ZlJ,ZlK];simp only[Za];unfold Wo at g⊢;rw[s]at g;simp only[s];by_cases d:Hu n.1.length n.2.2.2.2.1[i]=Uc;.rw[Zn d,d];rfl
    rw[Zg d]at g⊢;have l:Hu n.1.length n.2.2.2.2.1[i]=false:=by grind
    simp only[l,Ze];by_cases e:Hv n.2.2.2.2.1[i]=Uc;.rw[Zn e,e];rfl
    rw[Zg e]at g⊢;have o:Hv n.2.2.2.2.1[i]=false:=by grind
    simp only[o,Ze];by_cases k:∃j,j<i/\J2 ((n.2.2.2.2.1[j]?).getD f0)=J2 n.2.2.2.2.1[i];.rw[Zn k];rw[show Ve (ZT (Zs Wg) ((n.2.2.2.2.1[i]).1,(n.2.2.2.2.1[i]).2.1,(0:Int),(n.2.2.2.2.1[i]).2.2.2.1,()) m) Ud=Uc from (x _).2 k];rfl
    grind
   case c3=>grind
   unfold pick;simp only[Za]
   cases y:Wu n.2.2.2.2.1.length (Wo n.1.length n.2.2.2.2.1) with
   |some i=>rfl|none=>
    obtain⟨_,_,k⟩:=g (W0.1 y);simp only[Vh];rw[k];cases X7 c n.2.2.2.2.1<;>rfl
  unfold F129;rw[b _ (λi a=>?_) (by simp)]
  .unfold pick;simp only[Za]
   cases y:Wu n.2.2.2.2.1.length (Wo n.1.length n.2.2.2.2.1) with
   |some i=>rfl|none=>
    obtain⟨d,e,_⟩:=g (W0.1 y);simp only[Vh];rw[d];simp only[Za];unfold X7;by_cases v:c.length=n.2.2.2.2.1.length;.rw[Zi (by omega),Zi v];simp only[Vc,Ze,Vx];rw[Zmr v (by omega) _ _];grind
    grind
  have s:=KE a f0;simp only[ZL a,Zf,ZC a,Za,ZU a w];rw[ZsN (by omega),HO,ZsO];simp only[Za];unfold Wo;rw[s];by_cases d:Hu n.1.length n.2.2.2.2.1[i]=Uc;.grind
  have l:Hu n.1.length n.2.2.2.2.1[i]=false:=by grind
  rw[Zg d,l];simp only[Ze];by_cases e:Hv n.2.2.2.2.1[i]=Uc;.grind
  have o:Hv n.2.2.2.2.1[i]=false:=by grind
  rw[Zg e,o];simp only[Vo,Vc,Ze];by_cases k:∃j,j<i/\J2 ((n.2.2.2.2.1[j]?).getD f0)=J2 n.2.2.2.2.1[i];all_goals simp[*]
 by_cases u:∀i,i<n.2.2.2.2.1.length->Wo n.1.length n.2.2.2.2.1 i=0;.obtain⟨c,d,e,k⟩:=ZvS K J u;grind
 grind
end Q
namespace Q
open Tr Go
def KI(f:Int->Option Int)(a:Int):Nat->Option Int|0=>Ua a|k+1=>(f a).bind λb=>KI f b k
inductive Xo (f:Int->Option Int):Int->Prop
 |stop {a:Int}:f a=Ub->Xo f a
 |step {a b:Int}:f a=Ua b->Xo f b->Xo f a
theorem Xo.next{f:Int->Option Int}{a b:Int}(h:Xo f a)(e:f a=Ua b):Xo f b:=by
 cases h with|stop _|step _ _=>grind
theorem ZoJ(f:Int->Option Int):∀(k:Nat) (a:Int),KI f a (k+1)=(KI f a k).bind f
 |0,a=>by
  show (f a).bind (λb=>Ua b)=f a
  simp|k+1,a=>by
  show (f a).bind (λb=>KI f b (k+1))=((f a).bind λb=>KI f b k).bind f
  cases h:f a with|none=>rfl|some b=>exact ZoJ f k b
theorem Zov{f:Int->Option Int}{a:Int}(h:Xo f a):∀k,KI f a (k+1)≠Ua a:=by
 induction h with
 |stop c=>intro k d;simp[KI,c]at d| @step a b c i g=>
   intro k d;have e:KI f b k=Ua a:=by simpa[KI,c] using d
   refine g k ?_;rw[ZoJ,e];grind
theorem few:∀(i:Nat) (l:V Nat),l.Nodup->(∀j∈l,j<i)->l.length<=i
 |0,l,_,h=>by
  cases l with|nil=>simp|cons a t=>exact absurd (h a (by simp)) (by omega)
 |i+1,l,b,h=>by have c:=few i (l.erase i) (b.erase i) (by grind);grind
def nx(from_ to_:Nat->Int)(st:Nat->Bool):Nat->Int->Option Int|0,_=>Ub|i+1,a=>if st i=Uc/\from_ i=a then Ua (to_ i) else nx from_ to_ st i a
variable {from_ to_:Nat->Int}{st:Nat->Bool}
theorem Zel:∀{i:Nat}{a b:Int},nx from_ to_ st i a=Ua b->∃j,j<i/\st j=Uc/\from_ j=a/\to_ j=b
 |0,a,b,h=>by cases h|i+1,a,b,h=>by
  unfold nx at h;split at h;.grind
  obtain⟨j,c,d⟩:=Zel h;grind
theorem ZjS:∀{i:Nat}{a:Int},nx from_ to_ st i a=Ub->∀j,j<i->st j=Uc->from_ j≠a
 |0,a,_,j,b,_=>by omega|i+1,a,h,j,b,d=>by
  unfold nx at h;split at h;.cases h
  next e=>
  by_cases c:j=i;.grind
  exact ZjS h j (by omega) d
theorem ZoX{i:Nat}:∀(k:Nat) (a c:Int),Xo (nx from_ to_ st i) a->KI (nx from_ to_ st i) a k=Ua c->
 ∃l:V Nat,l.length=k/\l.Nodup/\∀j∈l,j<i/\∃t,KI (nx from_ to_ st i) a t=Ua (from_ j)
 |0,_,_,_,_=>⟨[],rfl,List.nodup_nil,by simp⟩|k+1,a,c,p,h=>by
  cases d:nx from_ to_ st i a with
  |none=>simp[KI,d]at h|some b=>
   have q:KI (nx from_ to_ st i) b k=Ua c:=by simpa[KI,d] using h
   obtain⟨l,y,r,o⟩:=ZoX k b c (p.next d) q
   obtain⟨j,g,u,e,v⟩:=Zel d;refine⟨j::l,by grind,List.nodup_cons.2 ⟨λw=>?_,r⟩,λx m=>?_⟩;.obtain⟨_,t,f⟩:=o j w;rw[e]at f;refine Zov p t ?_;simpa[KI,d] using f
   obtain rfl|m:=Vra.1 m;.exact⟨g,0,by rw[e];rfl⟩
   obtain⟨s,t,f⟩:=o x m;exact⟨s,t+1,by simpa[KI,d] using f⟩
theorem Zxq{i k:Nat}{a c:Int}(d:Xo (nx from_ to_ st i) a)(h:KI (nx from_ to_ st i) a k=Ua c):k<=i:=by obtain⟨l,e,b,f⟩:=ZoX k a c d h;have:=few i l b (by grind);omega
theorem ZuQ{f g:Int->Option Int}{fr:Int}(m:∀a,a≠fr->g a=f a){a:Int}(h:Xo f a)(c:∀k,KI f a k≠Ua fr):Xo g a:=by
 induction h with
 | @stop a d=>
   have:a≠fr:=λe=>c 0 (by rw[e];rfl)
   exact .stop (by grind)| @step a b d l j=>
   have:a≠fr:=λe=>c 0 (by rw[e];rfl);refine .step (by grind) (j λk i=>c (k+1) ?_);simpa[KI,d] using i
theorem ZuP{f g:Int->Option Int}{fr to:Int}(l:∀a,a≠fr->g a=f a)(c:g fr=Ua to)(d:Xo g to){a:Int}(h:Xo f a):Xo g a:=by
 induction h with
 | @stop a i=>
   by_cases e:a=fr;.subst e;exact .step c d
   exact .stop (by grind)| @step a b i k j=>
   by_cases e:a=fr;.subst e;exact .step c d
   exact .step (by grind) j
theorem ZuR{i:Nat}(h:∀a,Xo (nx from_ to_ st i) a)(f:st i=Uc->to_ i≠from_ i/\∀k,KI (nx from_ to_ st i) (to_ i) (k+1)≠Ua (from_ i))(a:Int):Xo (nx from_ to_ st (i+1)) a:=by
 by_cases c:st i=Uc
 .obtain⟨d,g⟩:=f c;have b:∀a,a≠from_ i->nx from_ to_ st (i+1) a=nx from_ to_ st i a:=λa j=>Zg (by omega);refine ZuP b (Zn ⟨c,rfl⟩) (ZuQ b (h _) λk=>?_) (h a)
  cases k with|zero=>exact λe=>d (Kx e)|succ k=>grind
 have:nx from_ to_ st (i+1)=nx from_ to_ st i:=funext λa=>Zg (by grind);grind
theorem ZuS(a:Int):Xo (nx from_ to_ st 0) a:=.stop rfl
theorem Zwf{f:Int->Option Int}{m:V (Int×Int)}(j:∀a,ZT (Zs Y3) a m=f a){a fr:Int}(e:Xo f a):F78 m a fr=Ua (m, @decide (∃k,KI f a (k+1)=Ua fr) (Classical.propDecidable _)):=by
 classical
 unfold F78;have key:∀a,Xo f a->run (λs0:Int×Bool=>
       bif s0.snd then
        bif decide (s0.fst=fr) then Ua (Sum.inr (Sum.inr Uc))
        else Ua (Sum.inl (Ve (ZT (Zs Y3) s0.fst m) ((0:Int)),Vea (ZT (Zs Y3) s0.fst m)))
       else Ua (Sum.inr (Sum.inl ())))
  (Ve (ZT (Zs Y3) a m) ((0:Int)),Vea (ZT (Zs Y3) a m))=Ua (if∃k,KI f a (k+1)=Ua fr then Sum.inr Uc else Sum.inl ()):=by
  intro a e
  induction e with
  | @stop a c=>
    rw[j a,c,Zg (by rintro ⟨k,d⟩;simp[KI,c]at d)]
    rfl| @step a b c o l=>
    rw[j a,c];by_cases g:b=fr;.rw[Zn ⟨0,by simp[KI,c,g]⟩];exact J3 (by grind)
    rw[YX (s' :=(Ve (ZT (Zs Y3) b m) ((0:Int)),Vea (ZT (Zs Y3) b m))) (by grind),l];have i:(∃k,KI f b (k+1)=Ua fr)↔∃k,KI f a (k+1)=Ua fr:=by
     refine⟨λ⟨k,d⟩=>⟨k+1,by simpa[KI,c] using d⟩,λ⟨k,d⟩=>?_⟩
     cases k with|zero=>exact absurd (by simpa[KI,c] using d) g|succ k=>exact⟨k,by simpa[KI,c] using d⟩
    simp_all
 refine(congrArg (Vb · _) (key a e)).trans ?_;by_cases h:∃k,KI f a (k+1)=Ua fr;all_goals grind
theorem Zp5{b τ:Type}{step:b->Option (b ⊕ τ)}{n:Nat}(a:Nat->b->Prop)(chk:Nat->Int)(R:Nat->τ)(E:τ)
 (c:∀i s,i<n->(∀j,j<i->chk j=0)->a i s->(chk i=0/\∃s',step s=Ua (.inl s')/\a (i+1) s')\/(chk i≠0/\step s=Ua (.inr (R i))))
 (d:∀s,a n s->step s=Ua (.inr E)) (s:b) (e:a 0 s):run step s=Ua (pick n chk R E):=by
 refine JL (λi s=>a i s/\∀j,j<i->chk j=0) chk R E ?_ ?_ (by grind) s (by grind);all_goals grind
def l0:Dj:=(0,0,0,0,Ud,())
def lk(n:Zh)(j:Nat):Dj:=(n.2.2.2.1[j]?).getD l0
def rn(n:Zh)(a:Int):RG:=(n.2.2.1[a.toNat]?).getD u0
def cl(l:V Jj)(a:Int):Jj:=(l[a.toNat]?).getD c0
def Z9(x:Int)(m:Nat):Bool:=Ue (0<=x)&&Ue (x<(m:Int))
def Wj(n:Zh)(i:Nat):Int->Option Int:=nx (λj=>(lk n j).1) (λj=>(lk n j).2.2.1) (λj=>(lk n j).2.2.2.2.1) i
abbrev Zk3:=V Int
def Xj(x:Dj):Zk3:=[x.1,x.2.1,x.2.2.1,x.2.2.2.1]
theorem Zz6(x:Int)(m:Nat):F80 x (m:Int)=Ua (Z9 x m):=by unfold F80 Z9;grind
theorem Jh{α:Type}{l:V α}{x:Int}(h:Z9 x l.length=Uc)(d:α):idx l x=Ua ((l[x.toNat]?).getD d):=by
 unfold Z9 at h;simp only[Vn,KJ]at h;have e:x=(x.toNat:Int):=by omega
 have a:x.toNat<l.length:=by omega
 rw[e,ZC a,Vp,KE a]
def HH(n:Zh)(x:Dj):Bool:= !Z9 x.1 n.2.2.1.length|| (!Z9 x.2.2.1 n.2.2.1.length||decide (x.1=x.2.2.1))
def GS(n:Zh)(x:Dj):Bool:= !Z9 x.2.1 (rn n x.1).2.2.2.2.2.2.2.1.length|| !Z9 x.2.2.2.1 (rn n x.2.2.1).2.2.2.2.2.2.2.1.length
open Classical in
def W1(n:Zh)(i:Nat):Int:=
 let x:=lk n i
 if HH n x=Uc then 9 else if GS n x=Uc then 9
 else if¬(cl (rn n x.1).2.2.2.2.2.2.2.1 x.2.1).1=(cl (rn n x.2.2.1).2.2.2.2.2.2.2.1 x.2.2.2.1).1 then 13
 else if x.2.2.2.2.1=Uc/\ ¬x.2.1+1=((rn n x.1).2.2.2.2.2.2.2.1.length:Int) then 19
 else if x.2.2.2.2.1=Uc/\ ¬x.2.2.2.1=0 then 19
 else if x.2.2.2.2.1=Uc/\∃j,j<i/\(lk n j).2.2.2.2.1=Uc/\((lk n j).1=x.1\/(lk n j).2.2.1=x.2.2.1) then 19
 else if x.2.2.2.2.1=Uc/\∃k,KI (Wj n i) x.2.2.1 (k+1)=Ua x.1 then 19
 else if∃j,j<i/\Xj (lk n j)=Xj x then 6 else 0
theorem ZbN{n:Zh}{i:Nat}(h:W1 n i=0):HH n (lk n i)=Ud/\GS n (lk n i)=Ud/\((lk n i).2.2.2.2.1=Uc->
 (¬∃j,j<i/\(lk n j).2.2.2.2.1=Uc/\((lk n j).1=(lk n i).1\/(lk n j).2.2.1=(lk n i).2.2.1))/\ ¬∃k,KI (Wj n i) (lk n i).2.2.1 (k+1)=Ua (lk n i).1):=by
 unfold W1 at h;simp only at h;by_cases a:HH n (lk n i)=Uc;.grind
 rw[Zg a]at h;by_cases b:GS n (lk n i)=Uc;.grind
 rw[Zg b]at h;refine⟨by grind,by grind,λc=>?_⟩
 repeat (split at h; · omega)
 grind
theorem ZfT{n:Zh}:∀{i:Nat},(∀j,j<i->W1 n j=0)->∀a,Xo (Wj n i) a|0,_,a=>ZuS a|i+1,h,a=>by obtain⟨b,_,c⟩:=ZbN (h i (by omega));refine ZuR (ZfT (by grind)) (λf=>⟨λe=>?_,λk d=>(c f).2 ⟨k,d⟩⟩) a;unfold HH at b;grind
theorem ZvC{n:Zh}{j:Nat}(h:W1 n j=0):0<=(lk n j).1:=by obtain⟨a,_⟩:=ZbN h;unfold HH Z9 at a;grind
def Zgp(n:Zh):Int×Int×Int×Unit:=if 1024<n.2.2.2.1.length then(3,0,5,()) else pick n.2.2.2.1.length (W1 n) (λi=>(3,(i:Int),W1 n i,())) (0,0,0,())
theorem Zaa{n:Zh}{a:Int}(h:Z9 a n.2.2.1.length=Uc):rn n a∈n.2.2.1:=by
 unfold Z9 at h;simp only[Vn,KJ]at h;have b:a.toNat<n.2.2.1.length:=by omega
 unfold rn;grind
def LSt(n:Zh)(i:Nat)(s:(Int×Int×Int×Unit)×V (Int×Int)×V (Int×Bool)×V (Zk3×Bool)×Int):Prop:=
 ∃d c e,s=((0,0,0,()),d,c,e,(i:Int))/\(∀a,ZT (Zs Y3) a d=Wj n i a)/\(∀b,Ve (ZT (Zs Y3) b c) Ud=Uc↔∃j,j<i/\(lk n j).2.2.2.2.1=Uc/\(lk n j).2.2.1=b)
  /\W4 (t:=X2) (λj=>Xj (lk n j)) i e
theorem ZoA{n:Zh}{i:Nat}{a:Int}:(Wj n i a).isSome=Uc↔∃j,j<i/\(lk n j).2.2.2.2.1=Uc/\(lk n j).1=a:=by
 cases h:Wj n i a with
 |none=>
  refine⟨by simp,λ⟨j,c,d,e⟩=>absurd e (ZjS h j c d)⟩|some b=>
  obtain⟨j,c,d,e,_⟩:=Zel h;grind
theorem ZwA(n:Zh)(Q:∀x∈n.2.2.1,x.2.2.2.2.2.2.2.1.length<=9223372036854775807):F67 n=Ua (Zgp n):=by
 unfold F67 Zgp F79;by_cases u:1024<n.2.2.2.1.length;.grind
 rw[Zg u,Zm (by omega)];simp only[Ze];have C:n.2.2.2.1.length<=9223372036854775807:=by omega
 rw[Zp5 (n:=n.2.2.2.1.length) (LSt n) (W1 n) (λi=>.inr (3,(i:Int),W1 n i,())) (.inl (0,0,0,())) ?_ ?_ ((0,0,0,()),[],[],[],(0:Int))
  ⟨[],[],[],rfl,λ_=>rfl,λb=>⟨λh=>(nomatch h),by omega⟩,W4.nil _⟩]
 .unfold pick;grind
 .rintro i _ q S ⟨A,s,f,rfl,v,hI,m⟩;have W:n.2.2.2.1[i]=lk n i:=(KE q l0).symm;simp only[ZL q,Zf,ZC q,Za,W,Zz6];have c:W1 n i=W1 n i:=rfl
  conv at c=>rhs;unfold W1
  simp only at c;generalize E:lk n i=x at c⊢;by_cases g:HH n x=Uc;.rw[Zn g]at c;refine .inr ⟨by omega,?_⟩;rw[c];unfold HH at g;grind
  rw[Zg g]at c;unfold HH at g;simp only[Vl,Vi,Vw]at g;obtain⟨B,F,p3⟩:=g;have M:idx n.2.2.1 x.1=Ua (rn n x.1):=Jh B u0;have N:idx n.2.2.1 x.2.2.1=Ua (rn n x.2.2.1):=Jh F u0;simp only[B,F,p3,Vc,Ze,Za,M,N];by_cases l:GS n x=Uc;.rw[Zn l]at c;refine .inr ⟨by omega,?_⟩;rw[c];unfold GS at l;grind
  rw[Zg l]at c;unfold GS at l;simp only[Vl,Vi,Vw]at l;obtain⟨w,H⟩:=l;have O:idx (rn n x.1).2.2.2.2.2.2.2.1 x.2.1=Ua (cl (rn n x.1).2.2.2.2.2.2.2.1 x.2.1):=Jh w c0;have P:idx (rn n x.2.2.1).2.2.2.2.2.2.2.1 x.2.2.2.1=Ua (cl (rn n x.2.2.1).2.2.2.2.2.2.2.1 x.2.2.2.1):=Jh H c0;simp only[w,H,Vc,Ze,Za,O,P];by_cases I:(cl (rn n x.1).2.2.2.2.2.2.2.1 x.2.1).1=(cl (rn n x.2.2.1).2.2.2.2.2.2.2.1 x.2.2.2.1).1;case neg=>
   grind
  rw[Zg (by omega)]at c;simp only[Zi I,Vc,Ze];by_cases D:x.2.2.2.2.1=Uc
  .simp only[D,true_and,Zf]at c⊢;have U:Va .i64 (x.2.1+1)=x.2.1+1:=by have z:=Q _ (Zaa B);unfold Z9 at w;simp only[Vn,KJ]at w;exact ZB (by omega) (by omega)
   rw[U];by_cases J:x.2.1+1=((rn n x.1).2.2.2.2.2.2.2.1.length:Int);case neg=>
    grind
   rw[Zg (by omega)]at c;simp only[Zi J,Vc,Ze];by_cases K:x.2.2.2.1=0;case neg=>
    grind
   rw[Zg (by omega)]at c;simp only[Zi K,Vc,Ze,v,Zwf v (ZfT S x.2.2.1),Za];by_cases y:∃j,j<i/\(lk n j).2.2.2.2.1=Uc/\((lk n j).1=x.1\/(lk n j).2.2.1=x.2.2.1)
   .rw[Zn y]at c;refine .inr ⟨by omega,?_⟩;rw[c];by_cases e:(Wj n i x.1).isSome=Uc
    .grind
    have o:Ve (ZT (Zs Y3) x.2.2.1 s) Ud=true:=by
     obtain⟨j,u,z,p⟩:=y;obtain p|p:=p;.exact absurd (ZoA.2 ⟨j,u,z,p⟩) e
     grind
    grind
   rw[Zg y]at c;have e:(Wj n i x.1).isSome=false:=by
    cases T:(Wj n i x.1).isSome with|false=>rfl|true=>obtain⟨j,u,z,p⟩:=ZoA.1 T;grind
   have o:Ve (ZT (Zs Y3) x.2.2.1 s) Ud=false:=by grind
   simp only[e,o,Ze];by_cases L:∃k,KI (Wj n i) x.2.2.1 (k+1)=Ua x.1;.grind
   rw[Zg (by grind)]at c;simp only[@decide_eq_false _ (Classical.propDecidable _) L,Ze];by_cases d:∃j,j<i/\Xj (lk n j)=Xj x;.rw[Zn d]at c;refine .inr ⟨by omega,?_⟩;rw[c];rw[show Ve (ZT (Zs X2) [x.1,x.2.1,x.2.2.1,x.2.2.2.1] f) Ud=Uc from (m _).2 d];rfl
   rw[Zg d]at c;refine .inl ⟨c,_,?_,Ky (Zs Y3) x.1 x.2.2.1 A,Ky (Zs Y3) x.2.2.1 Uc s,Ky (Zs X2) (Xj x) Uc f,rfl,?_,?_,?_⟩;.rw[show Ve (ZT (Zs X2) [x.1,x.2.1,x.2.2.1,x.2.2.2.1] f) Ud=Ud from Zak m d];simp only[Ze,ZU q C];rfl
   .intro a;rw[Zbq rfl,v];show _=nx _ _ _ (i+1) a;unfold nx;simp only[E,D,true_and];by_cases R:a=x.1
    .grind
    rw[Zg R,Zg (by grind)];rfl
   .intro b;rw[Zbq rfl];grind
   have:=W4.add (t:=X2) rfl m;grind
  have r:x.2.2.2.2.1=false:=by grind
  simp only[r,Vba,false_and,if_false,Ze]at c⊢;by_cases d:∃j,j<i/\Xj (lk n j)=Xj x;.rw[Zn d]at c;refine .inr ⟨by omega,?_⟩;rw[c];rw[show Ve (ZT (Zs X2) [x.1,x.2.1,x.2.2.1,x.2.2.2.1] f) Ud=Uc from (m _).2 d];rfl
  rw[Zg d]at c;refine .inl ⟨c,_,?_,A,s,Ky (Zs X2) (Xj x) Uc f,rfl,?_,?_,?_⟩;.rw[show Ve (ZT (Zs X2) [x.1,x.2.1,x.2.2.1,x.2.2.2.1] f) Ud=Ud from Zak m d];simp only[Ze,ZU q C];rfl
  .intro a;rw[v];show _=nx _ _ _ (i+1) a;unfold nx;simp only[E,r,Vba,false_and,if_false];rfl
  .grind
  have:=W4.add (t:=X2) rfl m;grind
 rintro _ ⟨A,s,f,rfl,_⟩;simp
theorem Zgd(x:Int){m:Nat}(b:m<=9223372036854775807):F126 x 0 (Va .i64 ((m:Int) - 1))=Ua (Z9 x m):=by
 rw[HO,ZB (by omega) (by omega)];unfold Z9;by_cases a:0<=x;all_goals grind
theorem Zwa(n:Zh){i:Nat}(o:i<=n.2.2.2.1.length)(l:n.2.2.2.1.length<=9223372036854775807)(a:Int):
 run (λb:Int×Int=>
       bif decide (b.snd<(i:Int)) then
        Vb
         (Vb (idx n.snd.snd.snd.fst b.snd) λd=>
           bif d.snd.snd.snd.snd.fst then Vb (idx n.snd.snd.snd.fst b.snd) λe=>Ua (decide (e.fst=a)) else Ua Ud)
         λf=>
         bif f then Vb (idx n.snd.snd.snd.fst b.snd) λg=>Ua (Sum.inl (g.snd.snd.fst,Va .i64 (b.snd+(1:Int))))
         else Ua (Sum.inl (b.fst,Va .i64 (b.snd+(1:Int))))
       else Ua (Sum.inr b.fst))
       ((-1:Int),(0:Int))=Ua ((Wj n i a).getD (-1)):=by
 have h:=JL (n:=i) (λj (st:Int×Int)=>st=((Wj n j a).getD (-1),(j:Int))) (λ_=>0) (λ_=>(Wj n i a).getD (-1)) ((Wj n i a).getD (-1)) (step:=λb:Int×Int=>
          bif decide (b.snd<(i:Int)) then
           Vb
            (Vb (idx n.snd.snd.snd.fst b.snd) λd=>
              bif d.snd.snd.snd.snd.fst then Vb (idx n.snd.snd.snd.fst b.snd) λe=>Ua (decide (e.fst=a)) else Ua Ud)
            λf=>
            bif f then Vb (idx n.snd.snd.snd.fst b.snd) λg=>Ua (Sum.inl (g.snd.snd.fst,Va .i64 (b.snd+(1:Int))))
            else Ua (Sum.inl (b.fst,Va .i64 (b.snd+(1:Int))))
          else Ua (Sum.inr b.fst)) ?_ ?_ ?_ ((-1:Int),(0:Int)) rfl
 .rw[h];unfold pick;grind
 .rintro j _ k rfl _;have c:j<n.2.2.2.1.length:=by omega
  have m:n.2.2.2.1[j]=lk n j:=(KE c l0).symm;refine⟨((Wj n (j+1) a).getD (-1),((j+1:Nat):Int)),?_,rfl⟩;simp only[ZL k,Zf,ZC c,Za,m,ZU c l];have p:Wj n (j+1) a=if (lk n j).2.2.2.2.1=Uc/\(lk n j).1=a then Ua (lk n j).2.2.1 else Wj n j a:=rfl;grind
 all_goals simp
theorem Zwe(n:Zh){i:Nat}(u:i<=n.2.2.2.1.length)(E:n.2.2.2.1.length<=9223372036854775806)(p:∀j,j<i->W1 n j=0)(to fr:Int)(s:0<=fr):
 F127 n (i:Int) to fr=Ua (@decide (∃k,KI (Wj n i) to (k+1)=Ua fr) (Classical.propDecidable _)):=by
 classical
 unfold F127;have f:Wj n i (-1)=none:=by
  cases h:Wj n i (-1) with
  |none=>rfl|some b=>
   obtain⟨j,l,C,D,_⟩:=Zel h;have:=ZvC (p j l);omega
 have m:=Zwa n u (by omega);have key:∀(r k:Nat) (a:Int),i+1 - k=r->k<=i+1->run (λs0:Int×Int=>
       bif decide (s0.snd<=(i:Int)) then
        Vb
         (run
           (λc=>
             bif decide (c.snd<(i:Int)) then
              Vb
               (Vb (idx n.snd.snd.snd.fst c.snd) λy=>
                 bif y.snd.snd.snd.snd.fst then Vb (idx n.snd.snd.snd.fst c.snd) λz=>Ua (decide (z.fst=s0.fst)) else Ua Ud)
               λA=>
               bif A then Vb (idx n.snd.snd.snd.fst c.snd) λB=>Ua (Sum.inl (B.snd.snd.fst,Va .i64 (c.snd+(1:Int))))
               else Ua (Sum.inl (c.fst,Va .i64 (c.snd+(1:Int))))
             else Ua (Sum.inr c.fst))
           ((-1:Int),(0:Int)))
         λq=>bif decide (q=fr) then Ua (Sum.inr (Sum.inr Uc)) else Ua (Sum.inl (q,Va .i64 (s0.snd+(1:Int))))
       else Ua (Sum.inr (Sum.inl ())))
  (a,(k:Int))=Ua (if∃t,k+t<=i/\KI (Wj n i) a (t+1)=Ua fr then Sum.inr Uc else Sum.inl ()):=by
  intro r
  induction r with
  |zero=>
   intro k a w v;rw[Zg (by omega)]
   exact J3 (by grind)|succ r x=>
   intro k a w v;have F:Va .i64 ((k:Int)+1)=((k+1:Nat):Int):=by rw[ZB (by omega) (by omega)];omega
   by_cases o:(Wj n i a).getD (-1)=fr
   .have:Wj n i a=Ua fr:=by
     cases h:Wj n i a with|none|some _=>grind
    rw[Zn ⟨0,by omega,by simp[KI,this]⟩];refine J3 ?_;grind
   rw[YX (s' :=((Wj n i a).getD (-1),((k+1:Nat):Int))) (by grind),x (k+1) _ (by omega) (by omega)];have e:(∃t,k+1+t<=i/\KI (Wj n i) ((Wj n i a).getD (-1)) (t+1)=Ua fr)↔∃t,k+t<=i/\KI (Wj n i) a (t+1)=Ua fr:=by
    cases h:Wj n i a with
    |none=>
     refine⟨λ⟨t,_,d⟩=>?_,λ⟨t,_,d⟩=>?_⟩;.simp[KI,f]at d
     simp[KI,h]at d|some b=>
     refine⟨λ⟨t,l,d⟩=>⟨t+1,by omega,?_⟩,λ⟨t,l,d⟩=>?_⟩;.show (Wj n i a).bind (λb=>KI (Wj n i) b (t+1))=_;grind
     have g:(Wj n i a).bind (λb=>KI (Wj n i) b t)=Ua fr:=d;rw[h]at g
     cases t with|zero=>rw[h]at o;exact absurd (Kx g) o|succ t=>grind
   simp_all
 refine(congrArg (Vb · _) (key _ 0 to rfl (by omega))).trans ?_;have e:(∃t,0+t<=i/\KI (Wj n i) to (t+1)=Ua fr)↔∃k,KI (Wj n i) to (k+1)=Ua fr:=by refine⟨by grind,λ⟨t,h⟩=>⟨t,?_,h⟩⟩;have:=Zxq (ZfT p to) h;omega
 by_cases h:∃k,KI (Wj n i) to (k+1)=Ua fr;all_goals grind
theorem ZiR{τ:Type}{step:Int->Option (Int ⊕ τ)}{i:Nat}{p:Nat->Prop}{R E:τ}(c:∀j:Nat,j<i->¬p j->step (j:Int)=Ua (.inl ((j+1:Nat):Int)))(b:∀j:Nat,j<i->p j->step (j:Int)=Ua (.inr R))
 (a:step (i:Int)=Ua (.inr E)):run step (0:Int)=Ua (@ite _ (∃j,j<i/\p j) (Classical.propDecidable _) R E):=by
 classical
 obtain⟨d,e⟩:=ZdQ c b a;by_cases h:∃j,j<i/\p j;all_goals grind
theorem Zwy(n:Zh){i:Nat}(w:i<n.2.2.2.1.length)(hl:n.2.2.2.1.length<=9223372036854775806)(hr:n.2.2.1.length<=9223372036854775807)
 (D:∀x∈n.2.2.1,x.2.2.2.2.2.2.2.1.length<=9223372036854775807) (hj:∀j,j<i->W1 n j=0):F128 n (i:Int)=Ua (W1 n i):=by
 classical
 unfold F128;have hx:n.2.2.2.1[i]=lk n i:=(KE w l0).symm;have a0:n.2.2.2.1.length<=9223372036854775807:=by omega
 simp only[ZC w,Za,hx,Zgd _ hr];have c:W1 n i=W1 n i:=rfl
 conv at c=>rhs;unfold W1
 simp only at c;generalize hy:lk n i=x at c⊢;by_cases s:HH n x=Uc;.rw[Zn s]at c;rw[c];unfold HH at s;grind
 rw[Zg s]at c;unfold HH at s;simp only[Vl,Vi,Vw]at s;obtain⟨u,z,p3⟩:=s;have S:idx n.2.2.1 x.1=Ua (rn n x.1):=Jh u u0;have T:idx n.2.2.1 x.2.2.1=Ua (rn n x.2.2.1):=Jh z u0;have L:=D _ (Zaa u);have M:=D _ (Zaa z);simp only[u,z,p3,Vc,Ze,Za,S,T,Zgd _ L,Zgd _ M];by_cases t:GS n x=Uc;.rw[Zn t]at c;rw[c];unfold GS at t;grind
 rw[Zg t]at c;unfold GS at t;simp only[Vl,Vi,Vw]at t;obtain⟨F,H⟩:=t;have U:idx (rn n x.1).2.2.2.2.2.2.2.1 x.2.1=Ua (cl (rn n x.1).2.2.2.2.2.2.2.1 x.2.1):=Jh F c0;have W:idx (rn n x.2.2.1).2.2.2.2.2.2.2.1 x.2.2.2.1=Ua (cl (rn n x.2.2.1).2.2.2.2.2.2.2.1 x.2.2.2.1):=Jh H c0;simp only[F,H,Vc,Ze,Za,U,W];by_cases I:(cl (rn n x.1).2.2.2.2.2.2.2.1 x.2.1).1=(cl (rn n x.2.2.1).2.2.2.2.2.2.2.1 x.2.2.2.1).1;case neg=>
  grind
 rw[Zg (by omega)]at c;simp only[Zi I,Vc,Ze];have hw:Va .i64 (((rn n x.1).2.2.2.2.2.2.2.1.length:Int) - 1)=((rn n x.1).2.2.2.2.2.2.2.1.length:Int) - 1:=ZB (by omega) (by omega);have f:=ZiR (i:=i) (p:=λj=>Xj (lk n j)=Xj x) (τ:=Unit ⊕ Int) (R:=.inr 6) (E:=.inl ()) (step:=λo:Int=>
                         bif decide (o<(i:Int)) then
                             Vb (idx n.snd.snd.snd.fst o) λm=>
                              Vb
                               (bif decide (m.fst=x.fst) then
                                 bif decide (m.snd.fst=x.snd.fst) then
                                  bif decide (m.snd.snd.fst=x.snd.snd.fst) then Ua (decide (m.snd.snd.snd.fst=x.snd.snd.snd.fst))
                                  else Ua Ud
                                 else Ua Ud
                               else Ua Ud)
                               λA=>bif A then Ua (Sum.inr (Sum.inr (6:Int))) else Ua (Sum.inl (Va .i64 (o+(1:Int))))
                          else Ua (Sum.inr (Sum.inl ()))) (λj b g=>by
  have a:j<n.2.2.2.1.length:=by omega
  have d:n.2.2.2.1[j]=lk n j:=(KE a l0).symm;simp only[ZL b,Zf,ZC a,Za,d,ZU b (by omega)];by_cases N:(lk n j).1=x.1
  .rw[Zi N];by_cases O:(lk n j).2.1=x.2.1
   .rw[Zi O];by_cases P:(lk n j).2.2.1=x.2.2.1
    .rw[Zi P];have Q:¬(lk n j).2.2.2.1=x.2.2.2.1:=λQ=>g (by unfold Xj;grind);grind
    grind
   grind
  grind) (λj b g=>by
  have a:j<n.2.2.2.1.length:=by omega
  have d:n.2.2.2.1[j]=lk n j:=(KE a l0).symm;unfold Xj at g;simp only[Hf,and_true]at g;simp only[ZL b,Zf,ZC a,Za,d,Zi g.1,Zi g.2.1,Zi g.2.2.1,Zi g.2.2.2]) (by simp)
 by_cases hs:x.2.2.2.2.1=Uc
 .simp only[hs,true_and,Zf,hw]at c f⊢;by_cases b4:x.2.1+1=((rn n x.1).2.2.2.2.2.2.2.1.length:Int);case neg=>
   grind
  rw[Zg (by omega)]at c;simp only[Zi (show x.2.1=((rn n x.1).2.2.2.2.2.2.2.1.length:Int) - 1 by omega),Vc,Ze,Za];by_cases J:x.2.2.2.1=0;case neg=>
   grind
  rw[Zg (by omega)]at c;have v:0<=x.1:=by unfold Z9 at u;grind
  have l:=ZiR (i:=i) (p:=λj=>(lk n j).2.2.2.2.1=Uc/\((lk n j).1=x.1\/(lk n j).2.2.1=x.2.2.1)) (τ:=Unit ⊕ Int) (R:=.inr 19) (E:=.inl ()) (step:=λe:Int=>
                  bif decide (e<(i:Int)) then
                   Vb (idx n.snd.snd.snd.fst e) λq=>
                    Vb
                     (
                      bif q.snd.snd.snd.snd.fst then
                       bif decide (q.fst=x.fst) then Ua Uc else Ua (decide (q.snd.snd.fst=x.snd.snd.fst))
                      else Ua Ud)
                     λr=>bif r then Ua (Sum.inr (Sum.inr (19:Int))) else Ua (Sum.inl (Va .i64 (e+(1:Int))))
                  else Ua (Sum.inr (Sum.inl ()))) (λj b g=>by
   have a:j<n.2.2.2.1.length:=by omega
   have d:n.2.2.2.1[j]=lk n j:=(KE a l0).symm;simp only[ZL b,Zf,ZC a,Za,d,ZU b (by omega)];grind) (λj b g=>by
   have a:j<n.2.2.2.1.length:=by omega
   have d:n.2.2.2.1[j]=lk n j:=(KE a l0).symm;simp only[ZL b,Zf,ZC a,Za,d,g.1];grind) (by simp)
  simp only[Zi J,Vc,Ze];refine(congrArg (Vb · _) l).trans ?_;simp only[Za];by_cases B:∃j,j<i/\(lk n j).2.2.2.2.1=Uc/\((lk n j).1=x.1\/(lk n j).2.2.1=x.2.2.1);.grind
  rw[Zg B]at c;rw[Zg B];simp only[Vh,Zwe n (Nat.le_of_lt w) hl hj x.2.2.1 x.1 v,Za];by_cases C:∃k,KI (Wj n i) x.2.2.1 (k+1)=Ua x.1;.grind
  rw[Zg C]at c;rw[Zm C];simp only[Ze];refine(congrArg (Vb · _) f).trans ?_;rw[c];by_cases K:∃j,j<i/\Xj (lk n j)=Xj x;all_goals grind
 have y:x.2.2.2.2.1=false:=by grind
 have h:=ZiR (i:=i) (p:=λ_=>False) (τ:=Unit ⊕ Int) (R:=.inr 19) (E:=.inl ()) (step:=λe:Int=>
                   bif decide (e<(i:Int)) then
                    Vb (idx n.snd.snd.snd.fst e) λ_=>
                     Vb
                      (Ua Ud)
                      λr=>bif r then Ua (Sum.inr (Sum.inr (19:Int))) else Ua (Sum.inl (Va .i64 (e+(1:Int))))
                   else Ua (Sum.inr (Sum.inl ()))) (λj b _=>by
  have a:j<n.2.2.2.1.length:=by omega
  simp only[ZL b,Zf,ZC a,Za,Ze,ZU b (by omega)]) (by simp) (by simp)
 rw[Zg (by simp)]at h;simp only[y,Vba,false_and,if_false,Ze,Za]at c h f⊢;refine(congrArg (Vb · _) h).trans ?_;simp only[Za,Vh];refine(congrArg (Vb · _) f).trans ?_;rw[c];by_cases K:∃j,j<i/\Xj (lk n j)=Xj x;all_goals grind
abbrev ZhG:=Int×Int×Int×Unit
def ZbR(a b:ZhG):ZhG:=if a.2.2.1=0 then b else a
theorem Zna(a b:El KZ):F70 [a,b]=Ua (ZbR a (ZbR b (0,0,0,()))):=by
 revert a b
 show∀a b:ZhG,F70 [a,b]=Ua (ZbR a (ZbR b (0,0,0,())));intro a b;unfold F70 ZbR;by_cases c:a.2.2.1=0
 .rw[Zn c];by_cases d:b.2.2.1=0
  .rw[Zn d,YX (s' :=((0,0,0,()),(1:Int))) (by simp[idx,c,Va,Vaa,Vz]),YX (s' :=((0,0,0,()),(2:Int))) (by simp[idx,d,Va,Vaa,Vz]),J3 (r:=.inl (0,0,0,())) (by simp)];rfl
  rw[Zg d,YX (s' :=((0,0,0,()),(1:Int))) (by simp[idx,c,Va,Vaa,Vz]),J3 (r:=.inr b) (by simp[idx,d])];rfl
 rw[Zg c,J3 (r:=.inr a) (by simp[idx,c])];rfl
structure X0 (n:Zh):Prop where
 stops:∀x∈n.1,x.1.length<=9223372036854775807
 routes:∀x∈n.2.1,x.1.length<=9223372036854775807
 runs:∀x∈n.2.2.1,x.2.2.2.1.length<=9223372036854775807
 calls:∀x∈n.2.2.1,x.2.2.2.2.2.2.2.1.length<=9223372036854775807
 paths:n.2.2.2.2.1.length<=4096
 prods:∀x∈n.2.2.2.2.2.1.1,x.1.length<=9223372036854775807
def Zk9(l:V Jj):Prop:= ∀i (a:i<l.length),0<=l[i].2.1/\l[i].2.1<=l[i].2.2.1/\l[i].2.2.1<=3155932800/\(0<i->(l[i - 1]'(by omega)).1≠l[i].1/\(l[i - 1]'(by omega)).2.2.1<=l[i].2.1)
structure WI (n:Zh):Prop where
 stops:n.1.length<=64
 runs:n.2.2.1.length<=1024
 links:n.2.2.2.1.length<=1024
 zone:∀x∈n.1,0<=x.2.1/\x.2.1<16
 mode:∀x∈n.2.1,0<=x.2.1/\x.2.1<=7
 route:∀x∈n.2.2.1,0<=x.2.2.2.2.1/\x.2.2.2.2.1<(n.2.1.length:Int)
 many:∀x∈n.2.2.1,2<=x.2.2.2.2.2.2.2.1.length/\x.2.2.2.2.2.2.2.1.length<=32
 call:∀x∈n.2.2.1,∀c∈x.2.2.2.2.2.2.2.1,0<=c.1/\c.1<(n.1.length:Int)
 time:∀x∈n.2.2.1,Zk9 x.2.2.2.2.2.2.2.1
 base:∀x∈n.2.2.1, -1<=x.1/\0<=x.2.2.1/\0<=x.2.1/\x.2.1<=36524
 fare:(Xg n.2.2.2.2.2.1).2=0
theorem Zc0{n:Nat}{chk:Nat->Int}{E:Int×Int}(h:(pick n chk (λi=>((i:Int),chk i)) E).2=0):∀j,j<n->chk j=0:=by
 unfold pick at h
 cases a:Wu n chk with|none=>exact W0.1 a|some i=>rw[a]at h;exact absurd h (Zbz a).2
theorem Zs5{l:V Jj}{n:Int}(h:XL l n 0 3155932800=0):Zk9 l:=by
 unfold XL at h;split at h;.omega
 intro i e;have a:XS l n 0 3155932800 i=0:=by
  unfold pick at h
  cases b:Wu l.length (XS l n 0 3155932800) with|none=>exact W0.1 b i e|some i=>rw[b]at h;exact absurd h (Zbz b).2
 unfold XS at a;split at a;.omega
 split at a;.omega
 next c=>
  split at a;.omega
  next d=>
   unfold ZdH at c;unfold ZdI at d;grind
theorem ZlZ{l:V Jj}{n d b:Int}(h:XL l n d b=0):(2<=l.length/\l.length<=32)/\∀c∈l,0<=c.1/\c.1<n:=by
 unfold XL at h;split at h;.omega
 refine⟨by omega,λc g=>?_⟩;obtain⟨j,k,rfl⟩:=Vj g;have e:XS l n d b j=0:=by
  unfold pick at h
  cases a:Wu l.length (XS l n d b) with|none=>exact W0.1 a j k|some i=>rw[a]at h;exact absurd h (Zbz a).2
 unfold XS at e;split at e;.omega
 next f=>
 unfold ZdG at f;grind
theorem Zy7{n:Zh}(s:(Dd n.1).2=0)(t:(DO n.2.1).2=0)(u:n.2.2.1.length<=1024)(c:Wu n.2.2.1.length (Yd n)=Ub)(v:n.2.2.2.1.length<=1024)(z:(Xg n.2.2.2.2.2.1).2=0):WI n:=by
 unfold Dd at s;unfold DO at t;split at s;.omega
 split at t;.omega
 have e:=Zc0 s;have f:=Zc0 t;have d:=W0.1 c;have key:∀x∈n.2.2.1,((0<=x.2.2.2.2.1/\x.2.2.2.2.1<(n.2.1.length:Int))/\ -1<=x.1/\0<=x.2.2.1/\0<=x.2.1/\x.2.1<=36524)/\XL x.2.2.2.2.2.2.2.1 (n.1.length:Int) 0 3155932800=0:=by intro x a;obtain⟨j,b,rfl⟩:=Vj a;have h:=d j b;unfold Yd at h;grind
 refine⟨by omega,u,v,λx a=>?_,λx a=>?_,by grind,λx a=>(ZlZ (key x a).2).1,λx a=>(ZlZ (key x a).2).2,λx a=>Zs5 (key x a).2,by grind,z⟩
 .obtain⟨j,b,rfl⟩:=Vj a;have h:=e j b;unfold DT Hl at h;simp only[KE b]at h;split at h
  .omega
  split at h;all_goals omega
 obtain⟨j,b,rfl⟩:=Vj a;have h:=f j b;unfold DN Hl at h;simp only[KE b]at h;split at h;.omega
 split at h;all_goals omega
structure Whole (n:Zh):Prop where
 s:(Dd n.1).2=0
 t:(DO n.2.1).2=0
 u:n.2.2.1.length<=1024
 f:Wu n.2.2.1.length (Yd n)=Ub
 v:n.2.2.2.1.length<=1024
 g:Wu n.2.2.2.1.length (W1 n)=Ub
 q:Wu n.2.2.2.2.1.length (Wo n.1.length n.2.2.2.2.1)=Ub
 w:∀c,F120 n.2.2.2.2.1 (n.1.length:Int)=Ua c->X7 c n.2.2.2.2.1=Uc
 z:(Xg n.2.2.2.2.2.1).2=0
theorem Whole.sound{n:Zh}(h:Whole n):WI n:=Zy7 h.s h.t h.u h.f h.v h.z
theorem Zin(n:Zh)(h:X0 n):∃r:Int×Int×Int,F65 n=Ua r/\F119 n=Ua r/\(r.2.2=0↔Whole n):=by
 unfold F65 F119;rw[Zzg n.1 h.stops,Zyn n.2.1 h.routes,Zzh n.1,Zyo n.2.1,ZyG n h.runs,ZwA n h.calls,Zi5 _ h.prods,Zu5];simp only[Za,F79];erw[Zna];simp only[Za];by_cases s:(Dd n.1).2=0;case neg=>
  refine⟨(0,(Dd n.1).1,(Dd n.1).2),?_,?_,⟨by grind,λW=>absurd W.s s⟩⟩;.simp only[ZbR,Zg s,Zm s,Ze,Za]
  grind
 have y:n.1.length<=64:=by unfold Dd at s;grind
 obtain⟨c,d,e,j⟩:=Zxr n y h.paths;rw[e,j];clear e j;simp only[Za];erw[Zna];simp only[ZbR,Zn s,Zi s,Vc,Ze,Za];by_cases t:(DO n.2.1).2=0;case neg=>
  refine⟨(1,(DO n.2.1).1,(DO n.2.1).2),?_,?_,⟨by grind,λW=>absurd W.t t⟩⟩;all_goals grind
 simp only[Zn t,Zi t,Vc,Ze];by_cases u:1024<n.2.2.1.length
 .refine⟨(2,0,5),?_,?_,⟨by simp,λW=>absurd W.u (by omega)⟩⟩
  .simp[ZgY,u]
  grind
 rw[Zm (show¬(1024:Int)<(n.2.2.1.length:Int) by omega)];simp only[Ze];rw[JL (n:=n.2.2.1.length) (λi (st:Int)=>st=(i:Int)) (Yd n) (λi=>.inr ((2:Int),(i:Int),Yd n i)) (.inl ()) ?_ ?_ ?_ (0:Int) rfl]
 rotate_left
 .rintro i _ a rfl b;refine⟨((i+1:Nat):Int),?_,rfl⟩;simp only[ZL a,Zf,ZpW n a (by omega),Za,b,decide_true,Vc,Ze,ZU a (by omega)]
 .rintro i _ a rfl b;simp only[ZL a,Zf,ZpW n a (by omega),Za,Zm b,Vo]
 .simp
 unfold ZgY;rw[Zg u];unfold pick
 cases l:Wu n.2.2.1.length (Yd n) with
 |some i=>
  have o:=(Zbz l).2;refine⟨(2,(i:Int),Yd n i),?_,?_,⟨by grind,λW=>by rw[W.f]at l;grind⟩⟩
  all_goals grind|none=>
 simp only[Za,Vh,decide_true,Zf];by_cases v:1024<n.2.2.2.1.length
 .refine⟨(3,0,5),?_,?_,⟨by simp,λW=>absurd W.v (by omega)⟩⟩
  .simp[Zgp,v]
  grind
 rw[Zm (show¬(1024:Int)<(n.2.2.2.1.length:Int) by omega)];simp only[Ze];rw[Zp5 (n:=n.2.2.2.1.length) (λi (st:Int)=>st=(i:Int)) (W1 n) (λi=>.inr ((3:Int),(i:Int),W1 n i)) (.inl ()) ?_ ?_ (0:Int) rfl]
 rotate_left
 .rintro i _ a x rfl;have A:=Zwy n a (by omega) (by omega) h.calls x;by_cases b:W1 n i=0
  .refine .inl ⟨b,((i+1:Nat):Int),?_,rfl⟩;simp only[ZL a,Zf,A,Za,b,decide_true,Vc,Ze,ZU a (by omega)]
  grind
 .simp
 unfold Zgp;rw[Zg v];unfold pick
 cases m:Wu n.2.2.2.1.length (W1 n) with
 |some i=>
  have o:=(Zbz m).2;refine⟨(3,(i:Int),W1 n i),?_,?_,⟨by grind,λW=>by rw[W.g]at m;grind⟩⟩
  all_goals grind|none=>
 simp only[Za,Vh,decide_true,Zf]
 cases k:Wu n.2.2.2.2.1.length (Wo n.1.length n.2.2.2.2.1) with
 |some i=>
  have o:=(Zbz k).2;refine⟨(4,(i:Int),Wo n.1.length n.2.2.2.2.1 i),?_,?_,⟨by grind,λW=>by rw[W.q]at k;grind⟩⟩
  all_goals grind|none=>
 by_cases w:X7 c n.2.2.2.2.1=Uc;case neg=>
  refine⟨(4,0,18),?_,?_,⟨by simp,λW=>absurd (W.w c (d (W0.1 k))) w⟩⟩;all_goals grind
 simp only[Zn w,if_true,decide_true,Vc,Ze];by_cases z:(Xg n.2.2.2.2.2.1).2=0
 .refine⟨(0,0,0),?_,?_,⟨λ_=>⟨s,t,by omega,l,by omega,m,k,λB p=>by rw[d (W0.1 k)]at p;grind,z⟩,λ_=>rfl⟩⟩;all_goals grind
 refine⟨(5,(Xg n.2.2.2.2.2.1).1,(Xg n.2.2.2.2.2.1).2),?_,?_,⟨by grind,λW=>absurd W.z z⟩⟩;all_goals grind
theorem Zl5(n:Zh)(h:X0 n):∃r:Int×Int×Int,F65 n=Ua r/\F119 n=Ua r/\(r.2.2=0->WI n):=by obtain⟨r,a,b,c⟩:=Zin n h;exact⟨r,a,b,λh=>(c.1 h).sound⟩
theorem G6{a b:Nat}(e:a<65536)(f:b<65536):Wc .i64 a b=((a ||| b:Nat)):=by
 have d:a ||| b<2 ^ 16:=Vga (by omega) (by omega);unfold Wc;have c:(Vha Vfb.bits a ||| Vha Vfb.bits b).toNat=a ||| b:=by show a % 2 ^ 64 ||| b % 2 ^ 64=a ||| b;grind
 rw[c,ZB (by omega) (by omega)]
theorem ZcX{a b:Nat}(e:a<65536)(f:b<65536):Wc .u64 a b=((a ||| b:Nat)):=by
 have d:a ||| b<2 ^ 16:=Vga (by omega) (by omega);unfold Wc;have c:(Vha Vgb.bits a ||| Vha Vgb.bits b).toNat=a ||| b:=by show a % 2 ^ 64 ||| b % 2 ^ 64=a ||| b;grind
 rw[c];simp[Va,Vz];omega
theorem Zaf{z}(a:0<=z)(b:z<16):G8 .i64 1 z=Ua ((2 ^ z.toNat:Nat):Int):=by
 have:z=0\/z=1\/z=2\/z=3\/z=4\/z=5\/z=6\/z=7\/z=8\/z=9\/z=10\/z=11\/z=12\/z=13\/z=14\/z=15:=by omega
 obtain rfl|rfl|rfl|rfl|rfl|rfl|rfl|rfl|rfl|rfl|rfl|rfl|rfl|rfl|rfl|rfl:=this<;>decide
theorem ZyS{z}(a:0<=z)(b:z<16):G8 .u64 1 z=Ua ((2 ^ z.toNat:Nat):Int):=by
 have:z=0\/z=1\/z=2\/z=3\/z=4\/z=5\/z=6\/z=7\/z=8\/z=9\/z=10\/z=11\/z=12\/z=13\/z=14\/z=15:=by omega
 obtain rfl|rfl|rfl|rfl|rfl|rfl|rfl|rfl|rfl|rfl|rfl|rfl|rfl|rfl|rfl|rfl:=this<;>decide
theorem HU{z:Int}(a:z<16):2 ^ z.toNat<65536:=Nat.pow_lt_pow_right (by omega) (show z.toNat<16 by omega)
theorem ZoD{z:Int}(a:0<=z)(b:z<16):F5 z=Ua ((2 ^ z.toNat:Nat):Int):=by unfold F5;rw[Zm (show¬z<0 by omega),Zm (by omega)];simp[ZyS a b]
theorem Zz5{m:Nat}(c:m<65536){z:Int}(b:0<=z)(a:z<16):F3 (m:Int) z=Ua ((m ||| 2 ^ z.toNat:Nat):Int):=by unfold F3;rw[ZoD b a];simp only[Za];rw[ZcX c (HU a)]
theorem ZoB{z:Int}(c:0<=z)(b:z<16):F0 [z]=Ua ((2 ^ z.toNat:Nat):Int):=by
 unfold F0;rw[YX (s' :=(((2 ^ z.toNat):Int),1)) ?_,J3 ?_];.rfl
 .simp
 have:=ZcX (a:=0) (by omega) (HU b);simp[Nat.zero_or]at this;show (bif Ue (0<((1:Nat))) then _ else _)=_;rw[show idx [z] 0=Ua z from rfl];simp only[Za,ZoD c b];rw[show Wc .u64 0 ((2 ^ z.toNat:Nat))=((2 ^ z.toNat:Nat)) from this];rfl
abbrev Zx:=Bool×Int×Int×Int×Int×Int×Int×Int×Bool×Unit
abbrev Z8:=Int×Int×Int×Int×Unit
abbrev Zb8:=V Zx×Unit
def K6(n:Zh)(x:Zx):V Jj:=(rn n x.2.1).2.2.2.2.2.2.2.1
def KM(n:Zh)(x:Zx):Bool:=Z9 x.2.1 n.2.2.1.length&&(Ue (0<=x.2.2.1)&&(Ue (x.2.2.1<x.2.2.2.1)&&Ue (x.2.2.2.1<((K6 n x).length))))
theorem ZmV(n:Zh)(x:Zx):F56 n x=Ua (KM n x):=by
 unfold F56 KM;by_cases h:Z9 x.2.1 n.2.2.1.length=Uc;.have e:idx n.2.2.1 x.2.1=Ua (rn n x.2.1):=Jh h u0;simp[e,h];unfold Z9 at h;unfold K6;grind
 have a:Z9 x.2.1 n.2.2.1.length=false:=by grind
 unfold Z9 at a;grind
theorem ZiV(n:Zh)(x:Zx):F136 n x=Ua (KM n x):=by
 unfold F136 KM;by_cases h:Z9 x.2.1 n.2.2.1.length=Uc;.have e:idx n.2.2.1 x.2.1=Ua (rn n x.2.1):=Jh h u0;simp[e,h];unfold Z9 at h;unfold K6;grind
 have a:Z9 x.2.1 n.2.2.1.length=false:=by grind
 unfold Z9 at h;grind
def s0:RJ:=([],0,Ud,0,())
def Dc(n:Zh)(a:Int):RJ:=(n.1[a.toNat]?).getD s0
def zn(n:Zh)(l:V Jj)(j:Nat):Nat:=2 ^ (Dc n ((l[j]?).getD c0).1).2.1.toNat
def zN(n:Zh)(l:V Jj)(a:Nat):Nat->Nat|0=>0|k+1=>zN n l a k ||| zn n l (a+k)
theorem ZeH{n}(h:WI n){a}(d:0<=a)(e:a<(n.1.length:Int)):idx n.1 a=Ua (Dc n a)/\0<=(Dc n a).2.1/\(Dc n a).2.1<16:=by
 have c:Z9 a n.1.length=true:=by unfold Z9;grind
 refine⟨Jh c s0,?_⟩;have b:a.toNat<n.1.length:=by omega
 unfold Dc;rw[KE b];exact h.zone _ (Vf b)
theorem Zdm{n}(h:WI n){l}(d:∀c∈l,0<=c.1/\c.1<(n.1.length:Int)){a}:∀k,a+k<=l.length->zN n l a k<65536
 |0,_=>by unfold zN;omega|k+1,i=>by
  have g:=Zdm h d (a:=a) k (by omega);have e:a+k<l.length:=by omega
  have b:=d _ (Vf e);have f:=(ZeH h b.1 b.2).2;have:zn n l (a+k)<65536:=by unfold zn;rw[KE e];exact HU f.2
  exact Vga (n:=16) g this
theorem Zrf{n}(h:WI n){x}(p:KM n x=Uc):F57 n x=Ua ((zN n (K6 n x) x.2.2.1.toNat (x.2.2.2.1.toNat+1 - x.2.2.1.toNat)):Int):=by
 unfold KM at p;simp[Vn,KJ]at p;have⟨t,A,B,C⟩:=p;have s:=Zaa t;have f:=(h.many _ s).2;have q:∀c∈K6 n x,0<=c.1/\c.1<n.1.length:=h.call _ s;have e:idx n.2.2.1 x.2.1=Ua (rn n x.2.1):=Jh t u0;unfold F57;rw[e];simp[Za];have d:(rn n x.2.1).2.2.2.2.2.2.2.1=K6 n x:=rfl;simp[d]at f⊢;generalize K6 n x=l at*;have⟨a,u⟩:∃a:Nat,x.2.2.1=a:=⟨x.2.2.1.toNat,by omega⟩;have⟨b,v⟩:∃b:Nat,x.2.2.2.1=b:=⟨x.2.2.2.1.toNat,by omega⟩;rw[u,v];have z:Va .i64 (b+1)=((b+1:Nat)):=by rw[ZB (by omega) (by omega)];omega
 have o:sliceB l.length l.length (Ua a) (Ua ((b+1:Nat)))=Ua (a,b+1):=by unfold sliceB;grind
 rw[z,o];simp[Za,Vp];have r:(Vla (b+1 - a) (List.drop a l)).length=b+1 - a:=by grind
 rw[JL (n:=b+1 - a) (λi st=>st=(((zN n l a i):Int),(i:Int))) (λ_=>0) (λ_=>((zN n l a (b+1 - a)):Int)) ((zN n l a (b+1 - a):Nat)) ?_ ?_ ?_ (0,0) rfl];.unfold pick;grind
 .rintro i _ w rfl _;have y:a+i<l.length:=by omega
  have g:=q _ (Vf y);have⟨j,k,m⟩:=ZeH h g.1 g.2;refine⟨(((zN n l a (i+1):Nat)),((i+1:Nat))),?_,rfl⟩;rw[ZC (by omega)];simp[List.getElem_take,List.getElem_drop,Za,j,Zz5 (Zdm h q (a:=a) i (by omega)) k m,ZU w (by omega)];have:zN n l a (i+1)=zN n l a i ||| 2 ^ (Dc n l[a+i].1).2.1.toNat:=by show zN n l a i ||| zn n l (a+i)=_;unfold zn;grind
  grind
 all_goals grind
theorem Zre{n}(h:WI n){x}(o:KM n x=Uc):F143 n x=Ua ((zN n (K6 n x) x.2.2.1.toNat (x.2.2.2.1.toNat+1 - x.2.2.1.toNat)):Int):=by
 unfold KM at o;simp[Vn,KJ]at o;have⟨s,w,y,z⟩:=o;have r:=Zaa s;have f:=(h.many _ r).2;have p:∀c∈K6 n x,0<=c.1/\c.1<n.1.length:=h.call _ r;have e:idx n.2.2.1 x.2.1=Ua (rn n x.2.1):=Jh s u0;unfold F143;rw[e];simp[Za];have d:(rn n x.2.1).2.2.2.2.2.2.2.1=K6 n x:=rfl;simp[d]at f⊢;generalize K6 n x=l at*;have⟨a,t⟩:∃a:Nat,x.2.2.1=a:=⟨x.2.2.1.toNat,by omega⟩;have⟨b,u⟩:∃b:Nat,x.2.2.2.1=b:=⟨x.2.2.2.1.toNat,by omega⟩;rw[t,u];rw[JL (n:=b+1 - a) (λi st=>st=(((zN n l a i):Int),((a+i:Nat):Int))) (λ_=>0) (λ_=>((zN n l a (b+1 - a)):Int)) ((zN n l a (b+1 - a):Nat)) ?_ ?_ ?_ (0,a) rfl];.unfold pick;grind
 .rintro i _ A rfl _;have q:a+i<l.length:=by omega
  have g:=p _ (Vf q);have⟨k,m,j⟩:=ZeH h g.1 g.2;refine⟨(((zN n l a (i+1):Nat)),((a+(i+1):Nat))),?_,rfl⟩;have v:Va .i64 (((a+i:Nat))+1)=((a+(i+1):Nat)):=by rw[ZB (by omega) (by omega)];omega
  simp only[Zf,ZC q,Za,k,Zaf m j,v];rw[G6 (Zdm h p (a:=a) i (by omega)) (HU j)];have:zN n l a (i+1)=zN n l a i ||| 2 ^ (Dc n l[a+i].1).2.1.toNat:=by show zN n l a i ||| zn n l (a+i)=_;unfold zn;grind
  grind
 all_goals grind
theorem ZyB{o ρ τ}{f g n}(P:τ->Prop)(R:Nat->o->ρ->Prop)
 (a:∀i s t,i<n->R i s t->(∃s' j,f s=Ua (.inl s')/\g t=Ua (.inl j)/\R (i+1) s' j)\/∃r,f s=Ua (.inr r)/\g t=Ua (.inr r)/\P r)
 (d:∀s t,R n s t->∃r,f s=Ua (.inr r)/\g t=Ua (.inr r)/\P r) s t (p:R 0 s t):∃r,run f s=Ua r/\run g t=Ua r/\P r:=by
 have key:∀k i s t,n - i=k->i<=n->R i s t->∃r,run f s=Ua r/\run g t=Ua r/\P r:=by
  intro k
  induction k with
  |zero=>
   intro i s t m l h;have:i=n:=by omega
   subst this;have⟨r,b,c,e⟩:=d s t h
   exact⟨r,J3 b,J3 c,e⟩|succ k q=>
   intro i s t m l h;rcases a i s t (by omega) h with ⟨s',j,b,c,e⟩|⟨r,b,c,e⟩;.rw[YX b,YX c];grind
   exact⟨r,J3 b,J3 c,e⟩
 grind
theorem Zzy{α τ:Type}{o a F G}{P:τ->Prop}{Q:α->Prop}(h:∃r,o=Ua r/\a=Ua r/\P r)(k:∀r,P r->∃z,F r=Ua z/\G r=Ua z/\Q z):∃z,Vb o F=Ua z/\Vb a G=Ua z/\Q z:=by grind
theorem Zjl{k:Nat}(h:0<k)(a:k<=9223372036854775807):Zo (Va .i64 (k - 1)) k=Ua (k - 1):=by
 have e:Va .i64 (k - 1)=((k - 1:Nat)):=by rw[ZB (by omega) (by omega)];omega
 rw[e,Kz (by omega)]
theorem ZbZ{α:Type}{l:V α}{k}(h:k<l.length) w:(l.set k w)[k]? =Ua w:=by grind
theorem Zhw{m:Nat}(h:m<65536):Va .i64 m=m:=ZB (by omega) (by omega)
def GJ(n:Zh)(x:Zx):Nat:=zN n (K6 n x) x.2.2.1.toNat (x.2.2.2.1.toNat+1 - x.2.2.1.toNat)
theorem ZeT{n}(h:WI n){x}(a:KM n x=Uc):GJ n x<65536:=by unfold KM at a;simp[KJ]at a;have⟨c,d,e,b⟩:=a;exact Zdm h (h.call _ (Zaa c)) _ (by unfold K6 at b;omega)
def r00:Gb:=([],0,Ud,())
def GG(n:Zh)(x:Zx):Gb:=(n.2.1[(rn n x.2.1).2.2.2.2.1.toNat]?).getD r00
theorem ZbW{n}(h:WI n){x}(a:KM n x=Uc):idx n.2.2.1 x.2.1=Ua (rn n x.2.1)/\idx n.2.1 (rn n x.2.1).2.2.2.2.1=Ua (GG n x)/\0<=(GG n x).2.1/\(GG n x).2.1<16:=by
 unfold KM at a;simp[Vn]at a;have d:=Zaa a.1;have e:=h.route _ d;have c:Z9 (rn n x.2.1).2.2.2.2.1 n.2.1.length=true:=by unfold Z9;grind
 refine⟨Jh a.1 u0,Jh c r00,?_⟩;have b:(rn n x.2.1).2.2.2.2.1.toNat<n.2.1.length:=by omega
 unfold GG;rw[KE b];have:=h.mode _ (Vf b);omega
def XQ(n:Zh)(x:Zx):Z8:=(x.2.2.2.2.2.2.1,x.2.2.2.2.2.2.2.1,((GJ n x:Nat)),((2 ^ (GG n x).2.1.toNat:Nat)),())
def He(n:Zh)(x:Zx)(l:V Z8)(v:Z8):V Z8:=
 l.set (l.length - 1) (v.1,x.2.2.2.2.2.2.2.1,Wc .i64 v.2.2.1 ((GJ n x:Nat)),Wc .i64 v.2.2.2.1 ((2 ^ (GG n x).2.1.toNat:Nat)),())
theorem Zpz{n}(h:WI n){x}(a:KM n x=Uc)(g:x.2.2.2.2.2.2.2.2.1=Ud){l:V Z8}(i:l.length<=100):F54 x n l=Ua (l++[XQ n x]):=by have⟨c,d,e,b⟩:=ZbW h a;unfold F54;rw[Zrf h a];simp only[Za,c,d,ZoB e b,g];rw[show Va .i64 ((zN n (K6 n x) x.2.2.1.toNat (x.2.2.2.1.toNat+1 - x.2.2.1.toNat):Nat))=((GJ n x:Nat)) from Zhw (ZeT h a),Zhw (HU b)];have f:(Ue (l.length+ [XQ n x].length<=Zt))=true:=Zi (by simp[Zt];omega);show (Zw (Ue (l.length+ [XQ n x].length<=Zt))).bind (λ_=>Ua (l++[XQ n x]))=_;rw[f];rfl
theorem ZpA{n}(h:WI n){x}(a:KM n x=Uc)(i:x.2.2.2.2.2.2.2.2.1=Uc){l:V Z8}(k:l.length<=100){v}(g:0<l.length)(j:l[l.length - 1]? =Ua v):F54 x n l=Ua (He n x l v):=by
 have⟨d,e,f,b⟩:=ZbW h a;unfold F54;rw[Zrf h a];simp only[Za,d,e,ZoB f b,i];rw[show Va .i64 ((zN n (K6 n x) x.2.2.1.toNat (x.2.2.2.1.toNat+1 - x.2.2.1.toNat):Nat))=((GJ n x:Nat)) from Zhw (ZeT h a),Zhw (HU b)];have c:l.length - 1<l.length:=by omega
 simp[Zjl g (by omega)];erw[j];simp[Za];erw[ZbZ c];simp[Za];erw[ZbZ c];rfl
theorem Zyj n(j:Zb8)(J:X0 n)(P:j.1.length<=40):∃r:V Z8×Int,F53 n j=Ua r/\F138 n j=Ua r/\r.1.length<=40:=by
 have⟨c,k,m,o⟩:=Zl5 n J;unfold F53 F138 F124;rw[k,m];simp only[Za];by_cases F:c.2.2=0;case neg=>
  simp_all
 have h:=o F;rw[Zi F];refine Zzy (ZyB (n:=j.1.length) (λr=>Via (λl=>l.length<=40) (λy=>y.1.length<=40) r)
  (λi (s:V Z8×Bool×Int) (t:V Z8×Int)=>∃l w,s=(l,w,(i:Int))/\t=(l,(i:Int))/\l.length<=i/\(w=Uc->0<l.length)/\w=(if i=0 then Ud else((j.1[i - 1]?).getD (Ud,0,0,0,0,0,0,0,Ud,())).1))
  ?_ ?_ _ _ ⟨[],Ud,rfl,rfl,by simp,by simp,rfl⟩) ?_
 rotate_left 2
 .intro r O;refine⟨Via (λl=>(l,(0:Int))) id r,?_,?_,?_⟩;all_goals grind
 .rintro i _ _ p ⟨l,w,rfl,rfl,L,M,f⟩;have q:j.1.length<=9223372036854775807:=by omega
  simp only[ZL p,Zf,ZC p,Za,ZU p q];have u:∀b,b=(j.1[i]).1->b=(if i+1=0 then Ud else((j.1[i+1 - 1]?).getD (Ud,0,0,0,0,0,0,0,Ud,())).1):=by grind
  have d:0<i->idx j.1 (Va .i64 ((i:Int) - 1))=Ua ((j.1[i - 1]?).getD (Ud,0,0,0,0,0,0,0,Ud,())):=by
   intro E;have e:Va .i64 ((i:Int) - 1)=((i - 1:Nat):Int):=by rw[ZB (by omega) (by omega)];omega
   rw[e,ZC (by omega),KE (by omega)]
  generalize j.1[i]=x at*
  cases N:x.1 with
  |false=>
   cases z:x.2.2.2.2.2.2.2.2.1 with|true=>simp|false=>exact .inl ⟨(l,Ud,((i+1:Nat):Int)),(l,((i+1:Nat):Int)),rfl,rfl,l,Ud,rfl,rfl,by omega,by simp,by grind⟩
  |true=>
   simp only[Zf,Za,Vc,Ze,ZmV,ZiV]
   cases g:KM n x with
   |false=>simp|true=>
    have⟨A,B,C,D⟩:=ZbW h g
    cases z:x.2.2.2.2.2.2.2.2.1 with
    |false=>
     simp only[Ze,Za,Zpz h g z (show l.length<=100 by omega),A,B,Zaf C D,Zre h g];refine .inl ⟨(l++[XQ n x],Uc,((i+1:Nat):Int)),(l++[XQ n x],((i+1:Nat):Int)),rfl,?_,l++[XQ n x],Uc,rfl,rfl,by grind,by simp,by grind⟩;have K:(Ue (l.length+ [XQ n x].length<=Zt))=true:=Zi (by simp[Zt];omega);show (Zw (Ue (l.length+ [XQ n x].length<=Zt))).bind (λ_=>Ua (Sum.inl (l++[XQ n x],((i+1:Nat):Int))))=_;rw[K]
     rfl|true=>
     simp only[Zf]
     cases w with
     |false=>
      refine .inr ⟨.inr ([],19),rfl,?_,by simp⟩
      grind|true=>
      have E:i≠0:=by grind
      rw[Zg E]at f;have a:=M rfl;have H:l.length - 1<l.length:=by omega
      obtain⟨v,I⟩:∃v,l[l.length - 1]? =Ua v:=by simp_all
      refine .inl ⟨(He n x l v,Uc,((i+1:Nat):Int)),(He n x l v,((i+1:Nat):Int)),?_,?_,He n x l v,Uc,rfl,rfl,by unfold He;grind,λ_=>by unfold He;grind,by grind⟩;.simp only[Vc,Za,Ze,ZpA h g z (by omega) a I]
      rw[Zm (by omega)];simp only[Ze,d (by omega),Za,<-f,Vc,A,B,Zaf C D,Zre h g,Zjl a (by omega),Vu];erw[I];simp only[Za,List.set_set];erw[ZbZ H];simp only[Za];erw[ZbZ H];rfl
 rintro _ _ ⟨l,w,rfl,rfl,L,_⟩;grind
abbrev Kq(x:Zx):Bool:=x.2.2.2.2.2.2.2.2.1
def Yo(n:Zh)(x:Zx)(out:V Z8):V Z8:=match out[out.length - 1]? with|some v=>He n x out v|none=>out
def Wd(n:Zh):V Zx->Bool->V Z8->V Z8×Int
 |[],_,out=>(out,0)|x::l,rode,out=>
  if x.1=Uc/\KM n x=Ud then([],9)
  else if Kq x=Uc/\(x.1=Ud\/rode=Ud) then([],19)
  else if x.1=Uc then Wd n l Uc (if Kq x=Uc then Yo n x out else out++[XQ n x])
  else Wd n l Ud out
theorem Db n x l rode out:Wd n (x::l) rode out=if x.1=Uc/\KM n x=Ud then([],9)
 else if Kq x=Uc/\(x.1=Ud\/rode=Ud) then([],19)
 else if x.1=Uc then Wd n l Uc (if Kq x=Uc then Yo n x out else out++[XQ n x])
 else Wd n l Ud out:=rfl
theorem Zfb n x out:(Yo n x out).length=out.length:=by
 unfold Yo;split;.unfold He;simp
 rfl
theorem ZgO n(j:Zb8)(A:X0 n)(D:j.1.length<=90):(F53 n j=Ua ([],21)/\F124 n=Ua Ud)\/(WI n/\F124 n=Ua Uc/\F53 n j=Ua (Wd n j.1 Ud [])):=by
 have⟨c,k,m,o⟩:=Zl5 n A;unfold F53 F124;rw[k,m];simp only[Za];by_cases u:c.2.2=0;case neg=>
  grind
 have h:=o u;rw[Zi u];refine .inr ⟨h,by simp,?_⟩;refine KK (λr=>Wd n j.1 Ud []=Via (λl=>(l,(0:Int))) (λy=>y) r) ?_ ?_
 .refine Kg j.1.length _ (λi (s:V Z8×Bool×Int)=>∃l w,s=(l,w,(i:Int))/\l.length<=i/\(w=Uc->0<l.length)/\Wd n j.1 Ud []=Wd n (j.1.drop i) w l) ?_ ?_ _ ⟨[],Ud,rfl,by simp,by simp,rfl⟩
  .rintro i _ g ⟨l,w,rfl,B,z,a⟩;have p:j.1.length<=9223372036854775807:=by omega
   rw[Vda g]at a;simp only[ZL g,Zf,ZC g,Za,ZU g p];generalize j.1[i]=x at*;rw[Db]at a
   cases f:x.1 with
   |false=>
    rw[f]at a
    cases e:Kq x with
    |true=>
     simp_all|false=>
     grind
   |true=>
    rw[f]at a;simp only[Zf,Za,Vc,Ze,ZmV]
    cases q:KM n x with
    |false=>
     simp_all|true=>
     rw[q]at a
     cases e:Kq x with
     |false=>
      left;rw[e]at a;have b:=e;unfold Kq at b;rw[b];simp[Ze,Za,Zpz h q b (show l.length<=100 by omega)]
      grind|true=>
      rw[e]at a;have b:=e;unfold Kq at b;rw[b];simp only[Zf]
      cases w with
      |false=>
       simp_all|true=>
       left;have d:=z rfl;obtain⟨v,C⟩:∃v,l[l.length - 1]? =Ua v:=⟨_,Vd (by omega)⟩;simp only[Vc,Za,Ze,ZpA h q b (by omega) d C];have t:Yo n x l=He n x l v:=by unfold Yo;grind
       refine⟨_,rfl,He n x l v,Uc,rfl,by rw[<-t,Zfb];omega,λ_=>by rw[<-t,Zfb];omega,?_⟩;grind
  rintro _ ⟨l,w,rfl,B,z,a⟩;simp only[JJ,Ze];refine⟨_,rfl,?_⟩;rw[a,List.drop_length];rfl
 grind
end Q
namespace Dv
abbrev Tk:=Int×Int×Int×Int×Unit
structure Law where
 n:Nat
 np:Nat
 cov:Nat->Nat->Nat->Bool
 pr:Nat->Nat->Int
abbrev Jk:=Option (Int×V Tk)
def ZaF(cur:Jk)(s:Int)(c:Nat):Bool:=match cur with|none=>Uc|some (cs,a)=>Ue (s<cs) || (Ue (s=cs)&&Ue (c<a.length))
def Du(L:Law)(nx:Jk)(i k p:Nat)(cur:Jk):Jk:=match nx with|none=>cur|some (s,t)=>if L.cov p i k=Uc then(if ZaF cur (L.pr p i+s) (1+t.length)=Uc then Ua (L.pr p i+s,(p,i,k,L.pr p i,())::t) else cur) else cur
def DQ(L:Law)(nx:Jk)(i k:Nat)(cur:Jk):Nat->Jk|0=>cur|m+1=>Du L nx i k m (DQ L nx i k cur m)
def rowK(L:Law)(B:Nat->Jk)(i:Nat):Nat->Jk|0=>Ub|m+1=>DQ L (B (i+m+1)) i (i+m) (rowK L B i m) L.np
def Ke(L:Law):Nat->Nat->Jk|0,j=>if j=L.n then Ua (0,[]) else Ub|d+1,j=>if j=L.n - (d+1) then rowK L (Ke L d) j (L.n - j) else Ke L d j
inductive Div (L:Law):Nat->Int->Prop
 |nil:Div L L.n 0
 |cons {i k p:Nat}{s:Int} (hik:i<=k) (hk:k<L.n) (hp:p<L.np) (hc:L.cov p i k=Uc) (h:Div L (k+1) s):Div L i (L.pr p i+s)
def XF(c:Jk)(S:Int->Prop):Prop:=match c with|none=>∀s,¬S s|some (s,_)=>S s/\∀a,S a->s<=a
theorem Zs9{L nx cur i k p S N}(d:XF cur S)(f:XF nx N):XF (Du L nx i k p cur) λs=>S s\/(L.cov p i k=Uc/\∃s',N s' /\s=L.pr p i+s'):=by
 unfold Du
 cases nx with
 |none=>
  have:(λs=>S s\/(L.cov p i k=Uc/\∃s',N s' /\s=L.pr p i+s'))=S:=by
   funext s;refine propext ⟨λh=>?_,.inl⟩;obtain h|⟨_,s',h,_⟩:=h;.exact h
   exact absurd h (f s')
  grind|some x=>
  have⟨s,t⟩:=x;have⟨m,j⟩:=f;simp;by_cases c:L.cov p i k=Uc
  .rw[if_pos c];by_cases b:ZaF cur (L.pr p i+s) (1+t.length)=Uc
   .rw[if_pos b];refine⟨by grind,λs' a=>?_⟩;obtain a|⟨_,g,e,rfl⟩:=a
    .cases cur with
     |none=>exact absurd a (d s')|some y=>
      have⟨cs,l⟩:=y;have:=d.2 s' a;simp[ZaF,decide_eq_true_eq]at b;omega
    grind
   rw[if_neg b]
   cases cur with
   |none=>exact absurd rfl b|some y=>
    refine⟨.inl d.1,λs' a=>?_⟩;obtain a|⟨_,g,e,rfl⟩:=a;.exact d.2 s' a
    have:=j g e;simp[ZaF,Vn]at b;omega
  simp_all
theorem ZpO{L nx cur i k S N}(b:XF cur S)(a:XF nx N):∀m,XF (DQ L nx i k cur m) λs=>S s\/∃p,p<m/\L.cov p i k=Uc/\∃s',N s' /\s=L.pr p i+s'
 |0=>by
  have:(λs=>S s\/∃p,p<0/\L.cov p i k=Uc/\∃s',N s' /\s=L.pr p i+s')=S:=by simp
  rw[this];assumption|m+1=>by
  have h:=Zs9 (p:=m) (i:=i) (k:=k) (L:=L) (ZpO (i:=i) (k:=k) (L:=L) b a m) a;have e:(λs=>(S s\/∃p,p<m/\L.cov p i k=Uc/\∃s',N s' /\s=L.pr p i+s')\/(L.cov m i k=Uc/\∃s',N s' /\s=L.pr m i+s'))=λs=>S s\/∃p,p<m+1/\L.cov p i k=Uc/\∃s',N s' /\s=L.pr p i+s' :=by grind
  rw[e]at h;exact h
theorem ZpL{L B i}{N:Nat->Int->Prop}:∀m,(∀j,i<j->j<=i+m->XF (B j) (N j))->XF (rowK L B i m) λs=>∃k,i<=k/\k<i+m/\∃p,p<L.np/\L.cov p i k=Uc/\∃s',N (k+1) s' /\s=L.pr p i+s'
 |0,_=>by
  intro s h
  omega|m+1,a=>by
  have h:=ZpO (L:=L) (i:=i) (k:=i+m) (ZpL (L:=L) (B:=B) (i:=i) (N:=N) m (by grind)) (a (i+m+1) (by omega) (by omega)) L.np;have e:(λs=>(∃k,i<=k/\k<i+m/\∃p,p<L.np/\L.cov p i k=Uc/\∃s',N (k+1) s' /\s=L.pr p i+s')\/∃p,p<L.np/\L.cov p i (i+m)=Uc/\∃s',N (i+m+1) s' /\s=L.pr p i+s')=λs=>∃k,i<=k/\k<i+(m+1)/\∃p,p<L.np/\L.cov p i k=Uc/\∃s',N (k+1) s' /\s=L.pr p i+s' :=by grind
  rw[e]at h;exact h
theorem Zux{L s}(h:Div L L.n s):s=0:=by
 cases h with|nil=>rfl|cons a b _ _ _=>omega
theorem Zuy{L i}(f:i<L.n){s}:Div L i s↔∃k,i<=k/\k<i+(L.n - i)/\∃p,p<L.np/\L.cov p i k=Uc/\∃s',Div L (k+1) s' /\s=L.pr p i+s' :=by
 constructor
 .intro h
  cases h with|nil=>omega|cons a e b c d=>grind
 rintro ⟨k,a,e,p,b,c,s',d,rfl⟩;exact .cons a (by omega) b c d
theorem tab_best L:∀d,d<=L.n->∀j,L.n - d<=j->j<=L.n->XF (Ke L d j) (Div L j)
 |0,_,j,c,b=>by
  have:j=L.n:=by omega
  subst this;rw[Ke,if_pos rfl]
  exact⟨.nil,λa h=>by have:=Zux h;omega⟩|d+1,o,j,c,b=>by
  rw[Ke];by_cases f:j=L.n - (d+1)
  .have h:=ZpL (L:=L) (i:=j) (L.n - j) λg l m=>tab_best L d (by omega) g (by omega) (by omega);have e:(λs=>∃k,j<=k/\k<j+(L.n - j)/\∃p,p<L.np/\L.cov p j k=Uc/\∃a,Div L (k+1) a/\s=L.pr p j+a)=Div L j:=by funext s;exact propext (Zuy (by omega)).symm
   grind
  rw[if_neg f];exact tab_best L d (by omega) j (by omega) b
def Zb6(B:Nat->Jk)(n i:Nat)(c:Jk):Prop:= ∀s t,c=Ua (s,t)->∃p k q b a,t=(p,(i:Int),((k:Nat):Int),q,())::a/\i<=k/\k<n/\B (k+1)=Ua (b,a)
theorem Zta{L B n i k p cur}(a:i<=k)(c:k<n)(h:Zb6 B n i cur):Zb6 B n i (Du L (B (k+1)) i k p cur):=by
 unfold Du
 cases d:B (k+1) with
 |none=>exact h|some x=>
  simp;split
  .split
   .intro e f b;grind
   omega
  omega
theorem ZpP{L B n i k cur}(a:i<=k)(b:k<n)(h:Zb6 B n i cur):∀m,Zb6 B n i (DQ L (B (k+1)) i k cur m)|0=>h|m+1=>Zta a b (ZpP a b h m)
theorem ZpM{L B n i}:∀m,i+m<=n->Zb6 B n i (rowK L B i m)|0,_=>λs t h=>by simp[rowK]at h|m+1,h=>ZpP (by omega) (by omega) (ZpM m (by omega)) L.np
theorem ZkC L:∀d e j,L.n - d<=j->d<=e->e<=L.n->Ke L e j=Ke L d j
 |d,e,j,a,b,c=>by
  induction e with
  |zero=>grind|succ e g=>
   by_cases f:d=e+1;.grind
   rw[Ke,if_neg (by omega)];grind
theorem Zzq L{j}(r:j<L.n):Zb6 (Ke L L.n) L.n j (Ke L L.n j):=by
 have b:Ke L L.n j=rowK L (Ke L (L.n - j - 1)) j (L.n - j):=by rw[ZkC L (L.n - j) L.n j (by omega) (by omega) (Vv _)];obtain⟨d,a⟩:∃d,L.n - j=d+1:=⟨L.n - j - 1,by omega⟩;rw[show L.n - j - 1=d by omega,a,Ke,if_pos (by omega),a]
 have h:=ZpM (L:=L) (B:=Ke L (L.n - j - 1)) (n:=L.n) (i:=j) (L.n - j) (by omega);rw[b];intro s t g;have⟨p,k,q,l,m,c,e,f,o⟩:=h s t g;exact⟨p,k,q,l,m,c,e,f,by rw[ZkC L (L.n - j - 1) L.n (k+1) (by omega) (by omega) (Vv _)];omega⟩
end Dv
namespace Q
open Tr Go Dv
abbrev Zau:=Bool×Int×Int×Tk×Unit
theorem Zpf a b:0<=Wc .u64 a b/\Wc .u64 a b<18446744073709551616:=by
 have c:∀x,0<=Va .u64 x/\Va .u64 x<18446744073709551616:=λx=>by simp[Va,Vz,Vaa];omega
 unfold Wc;grind
theorem Zwb(a b d:Int):∃z:Bool,F85 a b d=Ua z:=by
 unfold F85;by_cases h:a<=b
 .by_cases c:d<0;all_goals simp[*]
 by_cases c:d<0;all_goals simp[*]
theorem Zuj(p:Xr)(s:V Z8)(v:s.length<=100):∃z:Bool,F83 p s=Ua z/\(s=[]->z=Ud):=by
 unfold F83;by_cases d:s=[];.simp_all
 have h:0<s.length:=Vqa.2 d;rw[Zm (by omega)];have el:Va .i64 (s.length - 1)=((s.length - 1:Nat)):=by rw[ZB (by omega) (by omega)];omega
 have m:idx s 0=Ua s[0]:=ZC h;have⟨lt,b⟩:=Zwb (s[0]).1 (s[s.length - 1]).1 p.2.2.2.2.1;simp only[el,ZC (show s.length - 1<s.length by omega),m,Za,b];have e:∃c,(bif Ue (p.2.2.1<s.length) then Ua Uc else Ua lt)=Ua c:=by grind
 have⟨c,f⟩:=e;rw[f]
 cases c with
 |true=>simp|false=>
  have key:∀o k,(∃r,o=Ua r/\(0<=r.1/\r.1<18446744073709551616))->(∀r:Int×Int,0<=r.1->r.1<18446744073709551616->∃z,k r=Ua z)->∃z,Vb o k=Ua z/\(s=[]->z=Ud):=by simp_all
  refine key _ _ ?_ ?_
  .refine Kg s.length _ (λi (t:Int×Int×Int)=>∃x y,t=(x,y,(i:Int))/\0<=x/\x<18446744073709551616) ?_ ?_ _ ⟨0,0,rfl,by omega,by omega⟩
   .rintro i _ a ⟨x,y,rfl,j,l⟩;left;simp only[ZL a,ZC a,ZU a (by omega),F2];exact⟨_,rfl,_,_,rfl,(Zpf _ _).1,(Zpf _ _).2⟩
   simp_all
  intro r q u;have g:F1 r.1=Ua ((Jz 64 r.1.toNat:Nat):Int):=by show lenF r.1=_;unfold lenF;grind
  simp only[g,F4];grind
def covB(p:Xr)(s:V Z8):Bool:=(F83 p s).getD Ud
theorem Zul(p:Xr)(s:V Z8)(a:s.length<=100):F83 p s=Ua (covB p s):=by have⟨z,h,_⟩:=Zuj p s a;unfold covB;grind
def D0(a b d:Int):Bool:=bif Ue (b<=a) then Uc else Ue (Va .u64 (Va .u64 b - Va .u64 a)<=Va .u64 d)
theorem Zz9(a b d:Int):F18 a b d=Ua (D0 a b d):=by unfold F18 D0;grind
def R7:Z8:=(0,0,0,0,())
def G7(F:KD)(p:Xr)(l:V Z8)(i:Nat):Int:=
 if 0<i/\D0 ((l[i - 1]?).getD R7).2.1 ((l[i]?).getD R7).1 F.2.2.1=Uc then(if 0<p.2.1 - F.2.1 then p.2.1 - F.2.1 else 0) else p.2.1
theorem ZxH(F:KD)(p:Xr)(l:V Z8) i(b:i<l.length)(g:l.length<=100)(e:0<=p.2.1/\p.2.1<=1000000)(f:0<=F.2.1/\F.2.1<=1000000):F16 F p l (i:Int)=Ua (G7 F p l i):=by
 unfold F16 G7;have c:Va .i64 (p.2.1 - F.2.1)=p.2.1 - F.2.1:=ZB (by omega) (by omega);have em:Tr.imax 0 (p.2.1 - F.2.1)=if 0<p.2.1 - F.2.1 then p.2.1 - F.2.1 else 0:=rfl;by_cases d:0<i
 .have a:Va .i64 (i - 1)=((i - 1:Nat)):=by rw[ZB (by omega) (by omega)];omega
  simp[a,ZC (show i - 1<l.length by omega),ZC b,Zz9];grind
 grind
structure Zbi (F:KD):Prop where
 disc:0<=F.2.1/\F.2.1<=1000000
 cap:0<=F.2.2.2.1
 price:∀p∈F.1,0<=p.2.1/\p.2.1<=1000000
 many:F.1.length<=16
theorem ZfV{F}(h:(Xg F).2=0):Zbi F:=by
 unfold Xg at h;by_cases a:GY F=Ud;.grind
 rw[Zg a]at h;by_cases b:16<F.1.length;.grind
 rw[Zg b]at h;have g:=Zc0 h;have a:GY F=true:=by grind
 unfold GY at a;simp[Vn]at a;refine⟨a.1,a.2.2.1,λp f=>?_,by omega⟩;obtain⟨i,e,rfl⟩:=Vj f;have d:=g i e;have⟨_,_,c⟩:=Rf.1 d;have c:Hr F.1[i]=true:=by grind
 unfold Hr at c;grind
def ZQ(F:KD)(l:V Z8):Law where
 n:=l.length
 np:=F.1.length
 cov:=λp i k=>covB ((F.1[p]?).getD p0) ((l.drop i).take (k+1 - i))
 pr:=λp i=>G7 F ((F.1[p]?).getD p0) l i
theorem Zew{F}(hF:Zbi F){l p i}(a:p<(ZQ F l).np):0<=(ZQ F l).pr p i/\(ZQ F l).pr p i<=1000000:=by have h:=hF.price _ (Vf (show p<F.1.length from a));have b:=hF.disc;show 0<=G7 F ((F.1[p]?).getD p0) l i/\G7 F ((F.1[p]?).getD p0) l i<=1000000;rw[KE (by grind)];unfold G7;omega
def Bd(n:Nat)(f:Nat->Jk):Prop:= ∀j s t,j<=n->f j=Ua (s,t)->0<=s/\s<=1000000* (n - j)/\t.length<=n - j
def D5(c:Jk)(r:Zau):Prop:=match c with|none=>r.1=Ud|some (s,t)=>r.1=Uc/\r.2.1=s/\r.2.2.1=t.length/\∀x a,t=x::a->r.2.2.2.1=x
def Yk(f:Nat->Jk)(T:V Zau):Prop:=T.length=9/\∀j,j<=8->∃r,T[j]? =Ua r/\D5 (f j) r
theorem Yk.congr{f g T}(h:Yk f T)(e:∀j,j<=8->g j=f j):Yk g T:=
 ⟨h.1,λj a=>by rw[e j a];exact h.2 j a⟩
def JC(f:Nat->Jk)(i:Nat)(c:Jk):Nat->Jk:=λj=>if j=i then c else f j
theorem Yk.set{f T}(h:Yk f T){i}(d:i<=8){c r}(e:D5 c r):Yk (JC f i c) (T.set i r):=by
 refine⟨by rw[Vu];exact h.1,λj b=>?_⟩;unfold JC;by_cases a:j=i;.subst a;rw[Zn rfl,Vka (by rw[h.1];omega)];grind
 rw[Zg a,Vy (Ne.symm a)];exact h.2 j b
theorem D5.ok{s t r}(h:D5 (Ua (s,t)) r):r.1=Uc/\r.2.1=s/\r.2.2.1=t.length/\∀x a,t=x::a->r.2.2.2.1=x:=h
theorem ZsV{cur r}(h:D5 cur r)(s:Int)(c:Nat):F15 r s (c:Int)=Ua (ZaF cur s c):=by
 cases cur with
 |none=>
  unfold F15
  rw[h];rfl|some x=>
  have⟨cs,a⟩:=x;have⟨b,d,f,_⟩:=D5.ok h;unfold F15;have e:Ue (c<(a.length:Int))=Ue (c<a.length):=by simp
  show _=Ua (Ue (s<cs) || (Ue (s=cs)&&Ue (c<a.length)));grind
theorem Zzx{F}(hF:Zbi F){l:V Z8}(Q:l.length<=8){f T}(b:Yk f T)(A:Bd l.length f){i k p}(C:i<=k)(P:k<l.length)(x:p<F.1.length){s t}(m:f (k+1)=Ua (s,t)):
 ∃v,F14 (i:Int) (k:Int) (p:Int) F l T=Ua v/\Yk (JC f i (Du (ZQ F l) (f (k+1)) i k p (f i))) v:=by
 unfold F14;have a:=hF.price _ (Vf x);have⟨K,L,M⟩:=A (k+1) s t (by omega) m;have z:Va .i64 (k+1)=((k+1:Nat)):=by rw[ZB (by omega) (by omega)];omega
 have H:sliceB l.length l.length (Ua i) (Ua ((k+1:Nat)))=Ua (i,k+1):=by unfold sliceB;grind
 have u:((l.drop i).take (k+1 - i)).length<=100:=by grind
 have⟨S,r,c⟩:=b.2 (k+1) (by omega);have⟨R,q,e⟩:=b.2 i (by omega);rw[m]at c;have⟨N,y,c3,O⟩:=D5.ok c;have d:Zo ((k+1:Nat)) 9=Ua (k+1):=Kz (by omega);have h:Zo i 9=Ua i:=Kz (by omega);have o:F16 F F.1[p] l i=Ua ((ZQ F l).pr p i):=by rw[ZxH F F.1[p] l i (by omega) (by omega) a hF.disc];show _=Ua (G7 F ((F.1[p]?).getD p0) l i);grind
 have E:=Zew hF (l:=l) (i:=i) (by assumption);have g:covB F.1[p] ((l.drop i).take (k+1 - i))=(ZQ F l).cov p i k:=by show _=covB ((F.1[p]?).getD p0) ((l.drop i).take (k+1 - i));grind
 have I:Va .i64 ((ZQ F l).pr p i+s)=(ZQ F l).pr p i+s:=ZB (by omega) (by omega);have J:Va .i64 (t.length+1)=((1+t.length:Nat)):=by rw[ZB (by omega) (by omega)];omega
 simp only[ZC x,Za,z,H,Zul F.1[p] _ u,g,o,d,h,r,q,y,c3,I,J];rw[m];unfold Du
 cases w:(ZQ F l).cov p i k with
 |false=>
  refine⟨T,rfl,b.congr λj D=>?_⟩;unfold JC
  grind|true=>
  simp only[Vc,Ze,ZsV e,Za,if_true]
  cases B:ZaF (f i) ((ZQ F l).pr p i+s) (1+t.length) with
  |false=>
   refine⟨T,rfl,b.congr λj D=>?_⟩;unfold JC
   grind|true=>
   refine⟨_,rfl,b.set (by omega) ⟨rfl,rfl,?_,by simp⟩⟩;all_goals grind
def Rw(n i:Nat)(c:Jk):Prop:= ∀s t,c=Ua (s,t)->0<=s/\s<=1000000* (n - i)/\t.length<=n - i
theorem Zs8{L n i k p nx cur}(c:0<=L.pr p i/\L.pr p i<=1000000)(a:i<=k)(j:k<n)(b:Rw n (k+1) nx)(h:Rw n i cur):Rw n i (Du L nx i k p cur):=by
 unfold Du
 cases nx with
 |none=>omega|some x=>
  have⟨s,t⟩:=x;have⟨d,f,g⟩:=b s t rfl;simp;split
  .split
   .intro l m e;grind
   omega
  omega
theorem ZgS{L n i k nx cur}(b:∀p,p<L.np->0<=L.pr p i/\L.pr p i<=1000000)(a:i<=k)(d:k<n)(e:Rw n (k+1) nx)(c:Rw n i cur):∀m,m<=L.np->Rw n i (DQ L nx i k cur m)|0,_=>c|m+1,h=>Zs8 (by grind) a d e (ZgS b a d e c m (by omega))
theorem ZgQ{L n i B}(a:∀p,p<L.np->0<=L.pr p i/\L.pr p i<=1000000)(b:∀j,Rw n j (B j)):∀m,i+m<=n->Rw n i (rowK L B i m)|0,_=>λs t h=>by simp[Dv.rowK]at h|m+1,h=>ZgS a (by omega) (by omega) (by grind) (ZgQ a b m (by omega)) L.np (Vv _)
theorem ZeK{L}(a:∀p i,p<L.np->0<=L.pr p i/\L.pr p i<=1000000):∀d,d<=L.n->∀j,Rw L.n j (Ke L d j)
 |0,_,j=>by
  intro s t h;rw[Ke]at h
  grind|d+1,b,j=>by
  rw[Ke];split;.next c=>exact ZgQ (by grind) (ZeK a d (by omega)) _ (by omega)
  exact ZeK a d (by omega) j
theorem ZkB L:∀d,d<=L.n->∀j,j<L.n - d->Ke L d j=Ub|0,_,j,h=>by rw[Ke,Zg (by omega)]|d+1,a,j,h=>by rw[Ke,Zg (by omega)];exact ZkB L d (by omega) j (by omega)
theorem ZqI f i c a:JC (JC f i c) i a=JC f i a:=by funext j;unfold JC;grind
theorem Zba f i c:JC f i c i=c:=Zn rfl
theorem De f{i j} c(h:j≠i):JC f i c j=f j:=Zg h
def rz:Zau:=(Ud,0,0,(0,0,0,0,()),())
theorem ZuA{F}(hF:Zbi F){l:V Z8}(O:l.length<=8):∃T,F13 F l=Ua T/\Yk (Ke (ZQ F l) l.length) T:=by
 have D:∀p i,p<(ZQ F l).np->0<=(ZQ F l).pr p i/\(ZQ F l).pr p i<=1000000:=λp i u=>Zew hF u;have y:(ZQ F l).n=l.length:=rfl;unfold F13;have U:(Tr.zeroEl JH:V Zau)=Vg 9 rz:=rfl;have B:Zo (l.length:Int) 9=Ua l.length:=Kz (by omega);have E:(Tr.zeroEl JH:V Zau)[l.length]? =Ua rz:=by grind
 rw[B];simp only[Za];erw[E];simp only[Za];have key:∀o,(∃T,o=Ua T/\Yk (Ke (ZQ F l) l.length) T)->∃T,(Vb o λH=>Ua H)=Ua T/\Yk (Ke (ZQ F l) l.length) T:=by simp
 refine key _ (Kg l.length _ (λc (s:V Zau×Int)=>∃T,s=(T,(l.length:Int) - 1 - (c:Int))/\Yk (Ke (ZQ F l) c) T) ?_ ?_ _ ?_)
 .rintro c _ R ⟨T,rfl,b⟩;left;obtain⟨i,N⟩:∃i:Nat,(l.length:Int) - 1 - (c:Int)=(i:Int):=by grind
  rw[N];rw[Zi (by omega)];simp only[Zf];refine Gn (λg=>Yk (Ke (ZQ F l) (c+1)) g) ?_ ?_
  .refine Kg (l.length - i) _ (λm (s:V Zau×Int)=>∃T,s=(T,((i+m:Nat):Int))/\Yk (JC (Ke (ZQ F l) c) i (rowK (ZQ F l) (Ke (ZQ F l) c) i m)) T) ?_ ?_ _ ⟨T,rfl,b.congr λj C=>?_⟩
   .rintro m _ S ⟨T,rfl,b⟩;left;have J:i+m<l.length:=by omega
    simp only[ZL J,Zf];refine Gn (λg=>Yk (JC (Ke (ZQ F l) c) i (rowK (ZQ F l) (Ke (ZQ F l) c) i (m+1))) g) ?_ ?_
    .refine Kg F.1.length _ (λp (s:V Zau×Int)=>∃T,s=(T,(p:Int))/\Yk (JC (Ke (ZQ F l) c) i (DQ (ZQ F l) (Ke (ZQ F l) c (i+m+1)) i (i+m) (rowK (ZQ F l) (Ke (ZQ F l) c) i m) p)) T) ?_ ?_ _ ⟨T,rfl,b⟩
     .rintro p _ u ⟨T,rfl,b⟩;left;have v:Va .i64 (((i+m:Nat):Int)+1)=((i+m+1:Nat):Int):=by rw[ZB (by omega) (by omega)];omega
      have A:Zo ((i+m+1:Nat):Int) 9=Ua (i+m+1):=Kz (by omega);have⟨r,P,d⟩:=b.2 (i+m+1) (by omega);rw[De _ _ (by omega)]at d;simp only[ZL u,Zf,v,A,P,Za,ZU u (show F.1.length<=9223372036854775807 by have:=hF.many;omega)]
      cases f:Ke (ZQ F l) c (i+m+1) with
      |none=>
       rw[f]at d;rw[show r.1=Ud from d];refine⟨_,rfl,T,rfl,?_⟩;rw[f]at b
       assumption|some x=>
       have⟨s,t⟩:=x;rw[f]at d;have⟨Q,_⟩:=D5.ok d;rw[Q];simp only[Zf];have w:Bd l.length (JC (Ke (ZQ F l) c) i (DQ (ZQ F l) (Ke (ZQ F l) c (i+m+1)) i (i+m) (rowK (ZQ F l) (Ke (ZQ F l) c) i m) p)):=by
        intro j K L C e;have h:=ZeK D c (by omega);by_cases a:j=i;.subst a;rw[Zba]at e;exact ZgS (n:=l.length) (by grind) (by omega) (by omega) (h _) (ZgQ (by grind) h m (by omega)) p (show p<=F.1.length by omega) K L e
        rw[De _ _ a]at e;exact h j K L e
       have⟨g,M,I⟩:=Zzx hF O b w (i:=i) (k:=i+m) (p:=p) (by omega) J u (s:=s) (t:=t) (by rw[De _ _ (by omega)];omega);rw[M];refine⟨_,rfl,g,rfl,?_⟩;rw[ZqI,Zba,De _ _ (by omega)]at I;rw[f]at I;assumption
     rintro _ ⟨T,rfl,b⟩;simp only[JJ,Ze];exact⟨_,rfl,b⟩
    intro g z;have v:Va .i64 (((i+m:Nat):Int)+1)=((i+(m+1):Nat):Int):=by rw[ZB (by omega) (by omega)];omega
    grind
   .rintro _ ⟨T,rfl,b⟩;rw[show i+(l.length - i)=l.length by omega];simp only[JJ,Ze];refine⟨_,rfl,b.congr λj C=>?_⟩;rw[Ke];by_cases a:j=i
    .subst a;rw[Zn (by omega),Zba];rfl
    rw[Zg (by omega),De _ _ a]
   by_cases a:j=i;.subst a;rw[Zba,ZkB (ZQ F l) c (by omega) j (by omega)];rfl
   rw[De _ _ a]
  intro g z;have v:Va .i64 ((i:Int) - 1)=(l.length:Int) - 1 - ((c+1:Nat):Int):=by rw[ZB (by omega) (by omega)];omega
  grind
 .grind
 refine⟨(Vg 9 rz).set l.length (Uc,rz.2),?_,by simp,λj C=>?_⟩;.rw[ZB (by omega) (by omega)];grind
 rw[Ke];by_cases q:j=l.length;.subst q;rw[Zn y.symm,Vka (by grind)];exact⟨_,rfl,rfl,rfl,rfl,by simp⟩
 rw[Zg (by omega),Vy (Ne.symm q),List.getElem?_replicate,Zn (by omega)];exact⟨_,rfl,rfl⟩
def YM(F:KD)(s:Int):Int:=if 0<F.2.2.2.1/\F.2.2.2.1<s then F.2.2.2.1 else s
theorem Ztf(F:KD)(s:Int):F12 F s=Ua (YM F s):=by unfold F12 YM;grind
def Rs(x:Zx):Int:=if x.1=Uc\/x.2.2.2.2.2.2.1<0\/x.2.2.2.2.2.2.2.1<x.2.2.2.2.2.2.1\/14400<x.2.2.2.2.2.2.2.1 - x.2.2.2.2.2.2.1 then 0 else x.2.2.2.2.2.2.2.1 - x.2.2.2.2.2.2.1
def WE(l:V Zx):Int:=(l.map Rs).sum
theorem ZzT x:0<=Rs x/\Rs x<=14400:=by unfold Rs;omega
theorem ZeM a b:WE (a++b)=WE a+WE b:=by unfold WE;simp
theorem ZkL:∀l,0<=WE l/\WE l<=14400*l.length|[]=>by simp[WE]|x::l=>by have a:=ZzT x;have b:=ZkL l;unfold WE at*;grind
def D3(x:Zx):Prop:=x.2.2.2.2.2.2.2.1<=9223372036854775807
theorem Zht(j:Zb8)(l:j.1.length<=1000)(f:∀x∈j.1,D3 x):F55 j=Ua (WE j.1):=by
 refine KK (λr=>r=WE j.1) ?_ (by simp);refine Kg j.1.length _ (λi s=>s=(WE (j.1.take i),(i:Int))) ?_ ?_ _ rfl
 .rintro i _ a rfl;left;have h:=f _ (Vf a);have g:=ZkL (j.1.take i);rw[List.length_take]at g;refine⟨_,?_,rfl⟩;rw[Vm a,ZeM];simp only[ZL a,ZC a,Za,ZU a (by omega)];generalize j.1[i]=x at*;unfold D3 at h;have e0:WE [x]=Rs x:=by simp[WE]
  rw[e0];unfold Rs
  cases k:x.1 with
  |true=>
   simp|false=>
   by_cases c:x.2.2.2.2.2.2.1<0;.grind
   rw[Zm c];by_cases d:x.2.2.2.2.2.2.2.1<x.2.2.2.2.2.2.1;.grind
   rw[Zm d];have b:Va .i64 (x.2.2.2.2.2.2.2.1 - x.2.2.2.2.2.2.1)=x.2.2.2.2.2.2.2.1 - x.2.2.2.2.2.2.1:=ZB (by omega) (by omega);simp[b];by_cases e:14400<x.2.2.2.2.2.2.2.1 - x.2.2.2.2.2.2.1;.grind
   rw[Zm e,Zg (by grind),ZB (by omega) (by omega)];rfl
 simp
end Q
end
