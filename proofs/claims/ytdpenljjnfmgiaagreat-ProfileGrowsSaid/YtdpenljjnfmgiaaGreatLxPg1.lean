/- Chapter 45: ProfileGrows in plain Lean: the same moments offer the same labels. Conditions: texts and lists as a machine can hold them. -/
import Derived.Test.YtdpenljjnfmgiaaGreatJLxFiltP
open Bool renaming not_true ->Vb,not_false ->Vh
open Go.IntKind renaming wrap ->Vd
open List renaming take_succ_eq_append_getElem ->Vc,idxOf_lt_length_iff ->Ve,getElem_mem ->Vf,length_map ->Vg,mem_singleton ->Vi,length ->Vj,take_length ->Vl,mem_append ->Vm,map_cons ->Vn
open Option renaming bind ->Va
open Prod.mk renaming inj ->Vk
namespace Q
open Tr Go
variable {n:Zg}{q:Zw}{u d:Int}
theorem Zkt{α:Type} :∀{a b:List α},a.map some=b.map some->a=b
 |[],[],_=>rfl
 |[],_::_,h=>by cases h
 |_::_,[],h=>by cases h
 |x::a,y::b,h=>by rw[Vn,Vn]at h;obtain⟨c,e⟩:=List.cons.inj h;rw[Option.some.inj c,Zkt e]
theorem Zrm(h:Zbn n q d){l:ZB}(f:PfL n q d l):∃r:Jc×List (Int×Int×Int×Int×Unit) ×Int,F52 (mA n q) q (l.2.2.2.2.2.1,())=some r/\(r.2.2=0->r.1.1=d/\0<r.1.2.2.1/\r.1.2.2.1<=3):=by
 have m:=Ziy h.ask h.mom.1 h.mom.2;have e:=ZpI (n:=mA n q) q (qD q d) f.ne
 have a:((l.2.2.2.2.2.1[0]?).map fun x=>x.2.2.2.2.2.2.1).getD (qD q d).2.2.1=d:=by obtain⟨y,L,i,j⟩:=f.head;rw[i];exact j
 have b:=h.cx.li f.rc;have k:l.2.2.1<=q.2.2.2.2.1:=b.val.rides.2;have o:=h.ask.max;rcases ZrD (Zqr h.ask.fit) h.ask.wholeM h.cx.qi b with ⟨s,z,t,g⟩|⟨c,g⟩
 ·exact⟨_,by rw[<-e,g],fun _=>⟨a,f.rides,by show l.2.2.1<=3;omega⟩⟩
 ·exact⟨_,by rw[<-e,g],fun h=>absurd (show (34:Int)=0 from h) (by decide)⟩
theorem ZrU(h:Zbn n q d):∃f:List ZW,DL (mA n q) q (Kt (mA n q) q) d=some (f.map some)/\f.length<=549755813888/\ ∀y∈f,∃l,PfL n q d l/\y=Kw (mA n q) l:=by
 have g:=h.ask.qnum
 obtain⟨x,N,j,k,i,m,o⟩:=ZpR h.cx (fun y a=>h.ask.fit.prods y a) g.2.2.2.1 (by have e:(mA n q).1.length=n.1.length:=rfl;rw[e];exact g.1)
 refine⟨Xc x,j,k,fun y a=>?_⟩;obtain⟨l,c,b,rfl⟩:=i.snd.2.2 y a;exact⟨l,⟨c.rc,⟨b,i.fin.to _ a⟩,c.nz,c.head⟩,rfl⟩
def ZcQ(n:Zg)(q:Zw)(d:Int)(c:Jc):Prop:= ∃(a:List ZW) (y:ZW) (t:List (Int×Int×Int×Int×Unit)),DL (mA n q) q (Kt (mA n q) q) d=some (a.map some)/\y∈a/\F52 (mA n q) q (y.2.2.2.2.2.2.2.1,())=some (c,t,0)
def Rb(n:Zg)(q:Zw)(ds:List Int)(x:Wp):Prop:= ∃d∈ds,ZcQ n q d x.2.1/\x.2.1.1=d/\0<x.2.1.2.2.1/\x.2.1.2.2.1<=3
theorem Zsc{ds:List Int}{l:List Wp}(o:GS l)(p:∀x∈l,Rb n q ds x):l.length<=ds.length*4:=by
 have b:∀x∈l,x.2.1.1∈ds/\0<x.2.1.2.2.1/\x.2.1.2.2.1<=3:=fun x c=>by obtain⟨d,i,_,j,k⟩:=p x c;exact⟨j▸i,k⟩
 have g:(l.map fun x:Wp=>ds.idxOf x.2.1.1*4+x.2.1.2.2.1.toNat).Nodup:=by
  rw[List.Nodup,List.pairwise_map];refine List.Pairwise.imp_of_mem ?_ o;intro x y c r h e;obtain⟨f,s⟩:=b x c;obtain⟨t,B⟩:=b y r;have v:ds.idxOf x.2.1.1=ds.idxOf y.2.1.1:=by omega
  have w:x.2.1.2.2.1=y.2.1.2.2.1:=by omega
  have z:x.2.1.1=y.2.1.1:=by
   have A:=List.getElem_idxOf (Ve.2 f)
   grind
  unfold Wi at h;omega
 have:=ZgW (ds.length*4) _ g fun a m=>by obtain⟨x,c,rfl⟩:=List.mem_map.1 m;obtain⟨f,s⟩:=b x c;have:=Ve.2 f;omega
 rw[Vg]at this;exact this
theorem ZmJ(h:ZcF n q u):∃(R:List Wp) (ds:List Int),F92 n q u=some (R,0)/\R.length<=10248/\F113 (mA n q) q (Kt (mA n q) q) u=some ds/\(∀x∈R,Rb n q ds x)/\ ∀d∈ds,∀c,ZcQ n q d c->∃x∈R,W1 x.2.1 c:=by
 have a:=h.ask;obtain⟨ds,d1,d2,d3,_⟩:=ZgV a.wholeM a.tinM q u;unfold F92;rw[ZiX a.fit,a.chk];simp only[Za,decide_true,Vb,Ze,h.nback,h.nch];rw[Zv (show¬u<q.2.2.1 by have:=h.until_;omega),Zv (show¬(3155932800:Int)<u by have:=h.until_;omega)];simp only[Ze,Za];rw[Znw a.whole.sound a.few q (by rw[ZiX a.fit,a.chk])];simp only[Za,decide_true,Vb,Ze];have a0:F96 (KS n q) q=some (Kt (KS n q) q):=Zoe a.tinM q;rw[a0];simp only[Za];have a6:F113 (KS n q) q (Kt (KS n q) q) u=some ds:=d1;rw[a6];simp only[Za]
 have bound:∀out:List Wp,GS out->(∀x∈out,Rb n q ds x)->out.length<=10248:=fun out h1 h2=>by have:=Zsc h1 h2;omega
 obtain⟨out,e1,k1,k2,k3⟩:=Wa ds.length (fun out:List Wp=>GS out/\(∀x∈out,Rb n q ds x)/\ ∀d∈ds,∀c,ZcQ n q d c->∃x∈out,W1 x.2.1 c)
  (fun k (s:List Wp×Int)=>s.2=(k:Int)/\GS s.1/\(∀x∈s.1,Rb n q ds x)/\ ∀d∈ds.take k,∀c,ZcQ n q d c->∃x∈s.1,W1 x.2.1 c)
  (step:=fun(U:List Wp×Int)=>
   bif decide (U.2<(↑(Vj ds):Int)) then
   Va (idx ds U.2) fun x7=>
   Va (F98 (KS n q) q (Kt (KS n q) q) x7) fun x8=>
   Va
   (run
   (fun(f:List Wp×Int)=>
   bif decide (f.2<(↑(Vj x8):Int)) then
   Va (idx x8 f.2) fun p=>
   Va p fun _=>
   Va p fun v=>
   Va (F52 (KS n q) q v.2.2.2.2.2.2.2) fun g=>
   bif decide (g.2.2=(0:Int)) then
   Va (F94 f.1 (v.2.2.2.2.2.2.2,g.1,g.2.1,())) fun G=>
   some (.inl (G,Vd .i64 (f.2+(1:Int))))
   else some (.inl (f.1,Vd .i64 (f.2+(1:Int))))
   else some (.inr f.1))
   (U.1,(0:Int)))
   fun b2=>some (.inl (b2,Vd .i64 (U.2+(1:Int))))
   else some (.inr U.1)) (by
  rintro k ⟨out,_⟩ O ⟨rfl,X,Y,T⟩;left;simp only at X Y T;have m:idx ds (k:Int)=some ds[k]:=ZI O;have N:=Vf O;have S:=d3 _ N;have a7:∀w,w∈ds.take (k+1)↔w∈ds.take k\/w=ds[k]:=fun w=>by rw[Vc O,Vm,Vi]
  generalize ds[k]=d at*;have B:=h.at S.1 S.2.2.1;obtain⟨i,y1,y2,y3⟩:=ZrU B;have b3:F98 (KS n q) q (Kt (KS n q) q) d=some (i.map some):=y1;simp only[ZV O,Zc,m,Za,b3,Ka O (by omega),Vg]
  obtain⟨b,f1,f3,f4,f5,f6⟩:=Wa i.length (fun b:List Wp=>GS b/\(∀x∈b,Rb n q ds x)/\(∀x∈out,∃W∈b,W1 W.2.1 x.2.1)/\ ∀y∈i,∀c t,F52 (mA n q) q (y.2.2.2.2.2.2.2.1,())=some (c,t,0)->∃x∈b,W1 x.2.1 c)
   (fun r (s:List Wp×Int)=>s.2=(r:Int)/\GS s.1/\(∀x∈s.1,Rb n q ds x)/\(∀x∈out,∃W∈s.1,W1 W.2.1 x.2.1)/\ ∀y∈i.take r,∀c t,F52 (mA n q) q (y.2.2.2.2.2.2.2.1,())=some (c,t,0)->∃x∈s.1,W1 x.2.1 c)
   (step:=fun(f:List Wp×Int)=>
    bif decide (f.2<(↑(Vj i):Int)) then
    Va (idx (i.map some) f.2) fun p=>
    Va p fun _=>
    Va p fun v=>
    Va (F52 (KS n q) q v.2.2.2.2.2.2.2) fun g=>
    bif decide (g.2.2=(0:Int)) then
    Va (F94 f.1 (v.2.2.2.2.2.2.2,g.1,g.2.1,())) fun G=>
    some (.inl (G,Vd .i64 (f.2+(1:Int))))
    else some (.inl (f.1,Vd .i64 (f.2+(1:Int))))
    else some (.inr f.1)) (by
   rintro r ⟨cur,_⟩ Q ⟨rfl,I,J,c3,K⟩;left;simp only at I J c3 K;have hy:idx (i.map some) (r:Int)=some (some i[r]):=by rw[ZI (by rw[Vg];exact Q),List.getElem_map]
   have o:=Vf Q;have D:∀w,w∈i.take (r+1)↔w∈i.take r\/w=i[r]:=fun w=>by rw[Vc Q,Vm,Vi]
   generalize i[r]=y at*;obtain⟨l,hl,rfl⟩:=y3 y o;obtain⟨⟨c,t,e⟩,Z,s3⟩:=Zrm B hl;have b1:F52 (KS n q) q (Kw (mA n q) l).2.2.2.2.2.2.2=some (c,t,e):=Z;simp only[ZV Q,Zc,hy,Za,Ka Q (by omega),b1];by_cases he:e=0
   ·subst he;rw[Zi rfl];have hb:=bound cur I J;obtain⟨l',a1,a2,a3,a4,a5⟩:=Zsk (l:=cur) ((Kw (mA n q) l).2.2.2.2.2.2.2,c,t,()) (by omega) I;refine⟨(l',((r+1:Nat):Int)),?_,rfl,a5,fun x m=>?_,fun x m=>?_,fun w B L V A=>?_⟩
    ·simp only[Zc,a1,Za]
    ·rcases a2 x m with m|rfl
     ·exact J x m
     ·exact⟨d,N,⟨i,_,t,y1,o,Z⟩,s3 rfl⟩
    ·obtain⟨W,z,C⟩:=c3 x m;obtain⟨H,E,M⟩:=a4 W z;exact⟨H,E,M.trans C⟩
    ·rcases (D w).1 B with B|rfl
     ·obtain⟨x,z,C⟩:=K w B L V A;obtain⟨H,E,M⟩:=a4 x z;exact⟨H,E,M.trans C⟩
     ·obtain⟨x,z,C⟩:=a3;have j:F52 (mA n q) q (l.2.2.2.2.2.1,())=some (L,V,0):=A;rw[Z]at j;obtain⟨rfl,_⟩:=Vk (Option.some.inj j);exact⟨x,z,C⟩
   ·rw[Zv he];refine⟨(cur,((r+1:Nat):Int)),rfl,rfl,I,J,c3,fun w B L V A=>?_⟩;rcases (D w).1 B with B|rfl
    ·exact K w B L V A
    ·have j:F52 (mA n q) q (l.2.2.2.2.2.1,())=some (L,V,0):=A;rw[Z]at j
     exact absurd (Vk (Vk (Option.some.inj j)).2).2 he) (by
   rintro ⟨cur,_⟩ ⟨rfl,I,J,c3,K⟩;rw[Vl]at K;exact⟨cur,by simp only[J1,Ze],I,J,c3,K⟩) (out,(0:Int)) ⟨rfl,X,Y,fun x m=>⟨x,m,W1.refl _⟩,by simp⟩
  refine⟨(b,((k+1:Nat):Int)),?_,rfl,f3,f4,fun d' F c A=>?_⟩
  ·rw[f1];rfl
  ·rcases (a7 d').1 F with F|rfl
   ·obtain⟨x,z,C⟩:=T d' F c A;obtain⟨H,E,M⟩:=f5 x z;exact⟨H,E,M.trans C⟩
   ·obtain⟨b4,y,t,z,C,E⟩:=A;rw[y1]at z;have a9:b4=i:=(Zkt (Option.some.inj z)).symm;subst a9
    exact f6 y C c t E) (by
  rintro ⟨out,_⟩ ⟨rfl,X,Y,T⟩;rw[Vl]at T;exact⟨out,by simp only[J1,Ze],X,Y,T⟩) ([],(0:Int)) ⟨rfl,List.Pairwise.nil,by simp,by simp⟩
 have P:=bound out k1 k2
 obtain⟨R,r1,r2,_⟩:=Zl1 (cmp:=F93) H5 out (by omega) (fun x _ y _=>Zus x y) (fun x _=>ZrO x) (fun _ _ _ _ _ _=>ZrP) (k1.imp fun {x y} a8=>by unfold Wi at a8;unfold H5;omega)
 refine⟨R,ds,?_,by rw[r2.length_eq];exact P,rfl,fun x m=>k2 x (r2.mem_iff.1 m),fun d hd c A=>?_⟩
 ·rw[e1];simp only[Za];have b0:F161 out ()=some R:=r1;rw[b0];rfl
 ·obtain⟨x,x1,H⟩:=k3 d hd c A;exact⟨x,r2.mem_iff.2 x1,H⟩
theorem Zq1(n:Zg)(D:Yj Zh n)(q:Zw)(x:Int×Int×Unit):F58 n q x=some true:=by
 obtain⟨u,v,⟨⟩⟩:=x;unfold F58;obtain⟨b,m,o⟩:=Ztu D q;rw[m]
 cases b with
 |false=>simp only[Za,Vh,Zc,ZdI]
 |true=>
  obtain⟨i,a,c⟩:=o rfl;simp only[Za,Vb,Ze];by_cases g:v<u
  ·rw[Zi g];simp only[Zc,Za,ZdI]
  rw[Zv g];simp only[Ze];obtain⟨e,w,y⟩:=Zlr i a c u;obtain⟨f,A,B⟩:=Zlr i a c v;rw[w,A];simp only[Za];by_cases t:e=0
  case neg=>
   rw[Zv t];simp only[Vh,Zc,Za,ZdI]
  rw[Zi t];simp only[Vb,Ze];by_cases z:f=0
  case neg=>
   rw[Zv z];simp only[Za,Vh,Zc,ZdI]
  rw[Zi z];have F:=y t;have G:=B z;obtain⟨R,ds,I,T,J,K,_⟩:=ZmJ F;obtain⟨S,l,L,M,N,_,O⟩:=ZmJ G;simp only[Vb,Ze,Za,I,L,decide_true];refine WE (fun r:Unit ⊕ Bool=>r=.inl ()) ?_ (fun r h=>by rw[h];rfl);refine Wa R.length _ (fun k (s:Int)=>s=(k:Int)) ?_ ?_ _ rfl
  ·rintro k _ j rfl;left;refine⟨_,?_,rfl⟩;have H:idx R (k:Int)=some R[k]:=ZI j;obtain⟨d,C,E,_⟩:=K _ (Vf j);have p:d∈l:=ZrV i.wholeM i.tinM (by omega) J N d C;obtain⟨U,P,Q⟩:=O d p _ E;simp only[ZV j,Zc,H,Za,Ka j (by omega),ZpJ M P Q.1,Vb,Ze]
  ·rintro _ rfl;exact⟨.inl (),by simp only[J1,Ze],rfl⟩
theorem growsGP(x:Kn F58A)(h:Zbr F58A x):F58 x.1 x.2.1 x.2.2.1=some true:=Zq1 _ h.1 _ _
end Q
