/- From the reading of the arguments in the form of the claims to data of the machine. Conditions: the types are data. -/
import Derived.OpenShut
import Derived.Carry
import Derived.ProofKit
import Derived.Lay
import Derived.LaidLaws
import Derived.SevenTiedAt
import Derived.Stop.LaidErr
import Derived.MakeChecks
import Derived.Shelf.SlSortCmp.NoneTotal
import Derived.Shelf.Sort.Plain
import Derived.Shelf.Slices.CompactI
import Derived.Shelf.Slices.In.SortNone
import Derived.Test.YtdpenljjnfmgiaaGreatETsB
open Array renaming getElem?_toList ->Vb,getElem?_append_left ->Vf,getElem?_eq_getElem ->Vg,getElem?_modify ->Vh,getD_eq_getD_getElem? ->Vo,replicate ->Vfa,getElem?_mapIdx ->Vha,length_toList ->Vja
open Bool renaming and_eq_true ->Ve,false_eq_true ->Vx
open Go.IntKind renaming wrap ->Vza
open List renaming getElem?_eq_getElem ->Va,pairwise_cons ->Vd,pairwise_iff_getElem ->Vj,getElem_mem ->Vl,getElem?_eq_none ->Vn,mem_cons ->Vp,getElem?_eq_some_iff ->Vq,getElem?_append_left ->Vr,all_eq_true ->Vs,range ->Vv,attach_map_subtype_val ->Vw,getElem?_take ->Vy,ext_getElem? ->Vba,getElem?_map ->Vca,length_cons ->Vda,prefix_iff_eq_take ->Vea,getLast?_cons ->Vla,map_map ->Vma,mem_map ->Vna,flatten_cons ->Vpa,nodup_append ->Vqa,cons_append ->Vsa,append_nil ->Vta,map_append ->Vua,drop_drop ->Vva,replicate ->Vwa,map_cons ->Vxa,perm_nil ->Vya
open Nat renaming le_refl ->Vk,add_zero ->Vt,add_sub_cancel ->Vz,zero_le ->Vaa,zero_add ->Voa
open Option renaming bind_eq_some_iff ->Vc,bind ->Vga,isSome_none ->Vka
open Sum renaming elim ->Vab
open Go.Value renaming int ->Vi,cells ->Vm,okWide ->Vu
open Go.World renaming frozen? ->Via,cell? ->Vra
open Option renaming some ->Ua,none ->Ub
open Bool renaming true ->Uc,false ->Ud
open Decidable renaming decide ->Ue
section
namespace Tr
open Go
def YD:(t:Ty)->El t->Prop
 |.int k,x=>k.min<=x/\x<=k.max
 |.bool,_=>True
 |.str,x=>x.length<=Go.maxLen
 |.sl t,x=>x.length<=Go.maxLen/\∀y∈x,YD t y
 |.unit,_=>True
 |.prod a b,x=>YD a x.1/\YD b x.2
 |.arr n t,x=>x.length=n/\∀y∈x,YD t y
 |.ref,_=>True
 |.pt _,_=>True
 |.lk _ _,_=>True
 |.pn _,_=>True
def Ty.firm:Ty->Bool
 |.ref=>Ud
 |.pt _=>Ud
 |.lk _ _=>Ud
 |.pn _=>Ud
 |.sl t=>t.firm&& !(Nat.beq t.size 0)
 |.prod a b=>a.firm&&b.firm
 |.arr _ t=>t.firm
 |_=>Uc
theorem ZhJ{α:Type}{β:Type}{r:α->β->Prop}{q:α->Prop}:∀(m:List β),(∀b∈m,∃a,r a b/\q a)->∃l,Fa r l m/\∀a∈l,q a
 |[],_=>⟨[],trivial,by simp⟩
 |b::m,h=>by obtain⟨a,e,i⟩:=h b (by simp);obtain⟨l,f,g⟩:=ZhJ (α:=α) (β:=β) m λd c=>h d (by simp [c]);refine⟨a::l,⟨e,f⟩,λx j=>?_⟩;grind
theorem KB.append{w:World}{b off:Nat}{l m:List Value}(c:KB w b off l)(d:KB w b (off+l.length) m):KB w b off (l++m):=by
 intro j e;by_cases a:j<l.length
 ·rw[List.getElem_append_left a];exact c j a
 ·rw[List.getElem_append_right (by omega)];have:=d (j - l.length) (by grind);grind
theorem KB.flat{w:World}{b n:Nat}:∀{css:List (List Value)}{off:Nat},(∀i c,css[i]? =Ua c->c.length=n/\KB w b (off+i*n) c)->KB w b off css.flatten
 |[],off,_=>by intro j l;grind
 |c::css,off,h=>by rw[Vpa];obtain⟨a,e⟩:=h 0 c (by simp);refine KB.append (by grind) (KB.flat (n:=n) λi d k=>?_);obtain⟨f,g⟩:=h (i+1) d (by grind);grind
section
variable {H:Type}{enc:TypeId×Value->H}{P:Program}{w:World}{sp:Nat->Bool}{held:Bool}
theorem Zkv{a:Addr}{n:Nat}{c:List Value}(h:w.cells? 0 a n=Ua c):c.length=n/\(∀j,(b:j<c.length)->w.cell? (a.add j)=Ua c[j]):=by
 unfold World.cells? at h;rw[Zn (Vaa _)]at h;have d:c.length=n:=by have:=mapM_some_length h;grind
 refine⟨d,λj b=>?_⟩;have:=mapM_some_get h j j (by grind);grind
theorem Zq5{a:Addr}{v:Value}(h:w.cell? a=Ua v):a.spot=Ub/\a.block<w.heap.size:=by
 unfold Vra at h;split at h
 ·rename_i c t f b;refine⟨?_,?_⟩
  ·simp_all
  grind
 grind
theorem Zkw{I:Nat->Prop}{fuel:Nat}{θ:TypeId->Option Ty}(F:∀T t,θ T=Ua t->Jo P θ T t)
 (G:∀(t:Ty) (T:TypeId) (cs:List Value) (x:DataW H×List MemPlace),θ T=Ua t->t.firm=Uc->DataW.trod enc P w 0 sp held fuel T cs=Ua x->∃y,Rd w I t y cs/\YD t y) (cs:List Value) (xs:List (DataW H×List MemPlace)):
 ∀(t:Ty) (e:List Field) (base:Nat),t.chain=Uc->t.firm=Uc->cs.length=base+t.size->
  (∀i fd,e[i]? =Ua fd->∃o d,ZX t [i]=Ua (o,d)/\fd.offset=base+o/\θ fd.type=Ua d)->ZX t [e.length]=Ub->
  (∀(i:Nat) (f:Field),e[i]? =Ua f->∃x,DataW.trod enc P w 0 sp held fuel f.type ((cs.drop f.offset).take (P.cellsOf f.type))=Ua x)->
  ∃y,Rd w I t y (cs.drop base)/\YD t y
 |.unit,e,base,_,_,h,_,_,_=>⟨(),by simp only[Rd,Ty.size]at h⊢;grind,trivial⟩
 |.prod a b,[],base,c,g,h,l,m,n=>by simp [ZX]at m
 |.prod a b,fd::e,base,c,g,h,l,m,n=>by
  simp only[Ty.chain]at c;simp only[Ty.firm,Ve]at g;obtain⟨o,d,j,J,C⟩:=l 0 fd (by simp);have K:o=0/\d=a:=by
   cases a<;>simp [ZX]at j<;>exact⟨j.1.symm,j.2.symm⟩
  obtain⟨rfl,rfl⟩:=K;obtain⟨x,N⟩:=n 0 fd (by simp);obtain⟨Q,v,p⟩:=G _ _ _ _ C g.1 N;have s:P.cellsOf fd.type=d.size:=by obtain⟨i,z,k,D,_⟩:=(F _ _ C).info;simp [Program.cellsOf,k,D]
  have r:cs.length=base+d.size+b.size:=by rw[h];simp only[Ty.size];omega
  obtain⟨R,A,q⟩:=Zkw F G cs xs b e (base+d.size) c g.2 r (λi L M=>by obtain⟨o,O,k,D,S⟩:=l (i+1) L (by grind);simp only[ZX,Option.map_eq_some_iff]at k;grind) (by simpa [ZX] using m) (λi f g=>n (i+1) f (by grind))
  refine⟨(Q,R),?_,p,q⟩;simp only[Rd];refine⟨_,_,?_,v,A⟩
  rw[s,J,Vt,<-Vva,List.take_append_drop]
 |.int _,_,_,c,_,_,_,_,_=>by simp [Ty.chain]at c
 |.bool,_,_,c,_,_,_,_,_=>by simp [Ty.chain]at c
 |.str,_,_,c,_,_,_,_,_=>by simp [Ty.chain]at c
 |.sl _,_,_,c,_,_,_,_,_=>by simp [Ty.chain]at c
 |.arr _ _,_,_,c,_,_,_,_,_=>by simp [Ty.chain]at c
 |.ref,_,_,c,_,_,_,_,_=>by simp [Ty.chain]at c
 |.pt _,_,_,c,_,_,_,_,_=>by simp [Ty.chain]at c
 |.lk _ _,_,_,c,_,_,_,_,_=>by simp [Ty.chain]at c
 |.pn _,_,_,c,_,_,_,_,_=>by simp [Ty.chain]at c
theorem Zog{n:Nat}:∀(m:Nat) (cs:List Value),cs.length=m*n->cs=((Vv m).map λi=>(cs.drop (i*n)).take n).flatten
 |0,cs,h=>by grind
 |m+1,cs,h=>by
  rw[List.range_succ_eq_map,Vxa,Vpa,Vma];have a:(cs.drop n).length=m*n:=by grind
  have b:=Zog m (cs.drop n) a;have e:((Vv m).map ((λi=>(cs.drop (i*n)).take n) ∘Nat.succ))=((Vv m).map λi=>((cs.drop n).drop (i*n)).take n):=by apply List.map_congr_left;intro i _;simp only[Function.comp,Vva];grind
  rw[e,<-b];simp
theorem Zf3{θ:TypeId->Option Ty}(J:∀T t,θ T=Ua t->Jo P θ T t):∀(fuel:Nat) (t:Ty) (T:TypeId) (cs:List Value) (x:DataW H×List MemPlace),θ T=Ua t->t.firm=Uc->
 DataW.trod enc P w 0 sp held fuel T cs=Ua x->∃y,Rd w (λb=>b<w.heap.size) t y cs/\YD t y
 |0,t,T,cs,x,_,_,h=>by simp [DataW.trod]at h
 |fuel+1,t,T,cs,x,G,A,h=>by
  have hk:=J _ _ G;have f:=hk.shape;have p:∀{T t},θ T=Ua t->P.cellsOf T=t.size:=by intro T t G;obtain⟨i,z,g1,g2,_⟩:=(J _ _ G).info;simp [Program.cellsOf,g1,g2]
  cases t with
  |int k=>
   cases g:P.underlying T with
   |none=>rw[g]at f;simp [Ke]at f
   |some d=>
    rw[g]at f;cases d<;>simp [Ke]at f
    subst f;obtain⟨n,l,_,M⟩:=DataW.trod_int g h
    exact⟨n,l,by simpa [Lit.wf,YD] using M⟩
  |bool=>
   cases g:P.underlying T with
   |none=>rw[g]at f;simp [Ke]at f
   |some d=>
    rw[g]at f;cases d<;>simp [Ke]at f
    obtain⟨n,l,_⟩:=DataW.trod_bool g h
    exact⟨n,l,trivial⟩
  |str=>
   cases g:P.underlying T with
   |none=>rw[g]at f;simp [Ke]at f
   |some d=>
    rw[g]at f;cases d<;>simp [Ke]at f
    obtain⟨s,l,_,M⟩:=DataW.trod_string g h;refine⟨s.data.toList,?_,?_⟩
    all_goals assumption
  |sl e=>
   cases g:P.underlying T with
   |none=>rw[g]at f;simp [Ke]at f
   |some d=>
    rw[g]at f;cases d<;>simp [Ke]at f
    rename_i E;simp only[Ty.firm,Ve,Bool.not_eq_true']at A;have a2:e.size≠0:=by intro v;simp_all
    rcases DataW.trod_slice g h with ⟨l,_⟩|⟨a,len,cap,elems,rest,n,v,l,_,_,M,S,h4,h5,_⟩
    ·exact⟨[],⟨Ub,0,[],l,trivial,by simp,Vk _⟩,Vaa _,by simp⟩
    ·have Q:n=fuel:=by omega
     subst Q;rw[p f]at h5;have D:∀i,i<len->∃c x,w.cells? 0 (a.add (i*e.size)) e.size=Ua c/\DataW.trod enc P w 0 sp held n E c=Ua x:=by intro i O;have:=h5 i O;rw[Va (by omega)]at this;obtain⟨c,h6,Y⟩:=Vc.1 this;grind
     have C:∀i c,((Vv len).map λi=>(w.cells? 0 (a.add (i*e.size)) e.size).getD [])[i]? =Ua c->i<len/\w.cells? 0 (a.add (i*e.size)) e.size=Ua c/\∃x,DataW.trod enc P w 0 sp held n E c=Ua x:=by grind
     obtain⟨y,F,U⟩:=ZhJ (r:=Rd w (λb=>b<w.heap.size) e) (q:=YD e) ((Vv len).map λi=>(w.cells? 0 (a.add (i*e.size)) e.size).getD []) (by intro c N;obtain⟨i,O⟩:=List.getElem?_of_mem N;obtain⟨_,_,x,Y⟩:=C i c O;exact Zf3 J n e E c x f A.1 Y)
     have a1:y.length=len:=by rw[F.length];simp
     refine⟨y,⟨Ua a,cap,_,by grind,F,λa3=>?_,by omega⟩,by omega,U⟩;have R:0<len:=by grind
     obtain⟨c0,x0,h6,_⟩:=D 0 R;obtain⟨Y,h8⟩:=Zkv h6;have h9:=h8 0 (by omega);simp only[Nat.zero_mul,Addr.add,if_true]at h9;obtain⟨K,L⟩:=Zq5 h9;obtain⟨b,off,spot⟩:=a;simp only at K L;subst K;refine⟨b,off,rfl,L,KB.flat (n:=e.size) λi c N=>?_⟩;obtain⟨O,V,_⟩:=C i c N;obtain⟨W,X⟩:=Zkv V;refine⟨W,λj hj=>?_⟩;rw[<-X j hj];congr 1;by_cases v:i*e.size=0
     ·by_cases o:j=0
      ·simp only[Addr.add,v,o,if_true,Vt]
      ·simp only[Addr.add,v,o,if_true,if_false,Vt]
     ·by_cases o:j=0
      ·simp only[Addr.add,v,o,if_true,if_false,Vt]
      ·simp only[Addr.add,v,o,if_false]
  |unit=>
   cases g:P.underlying T with
   |none=>rw[g]at f;simp [Ke]at f
   |some d=>
    rw[g]at f;cases d<;>simp [Ke]at f
    obtain⟨xs,n,_,_,l,_⟩:=DataW.trod_struct g h;rw[p G]at l
    exact⟨(),by simpa [Rd,Ty.size] using l,trivial⟩
  |prod a b=>
   cases g:P.underlying T with
   |none=>rw[g]at f;simp [Ke]at f
   |some d=>
    rw[g]at f;cases d<;>simp only[Ke,Vx]at f
    rename_i fs;simp only[Ve,Vs]at f;obtain⟨⟨a4,a5⟩,a0⟩:=f;obtain⟨xs,n,v,_,l,M,S⟩:=DataW.trod_struct g h;have Q:n=fuel:=by omega
    subst Q;rw[p G]at l;obtain⟨y,F,U⟩:=Zkw (enc:=enc) (sp:=sp) (held:=held) (fuel:=n) (I:=λb=>b<w.heap.size) J (λt T cs x=>Zf3 J n t T cs x) cs xs (.prod a b) fs.toList 0 a0 A (by omega) (by
     grind) (by simp_all) (by
     grind)
    grind
  |arr m e=>
   cases g:P.underlying T with
   |none=>rw[g]at f;simp [Ke]at f
   |some d=>
    rw[g]at f;cases d<;>simp [Ke]at f
    obtain⟨rfl,f⟩:=f;obtain⟨xs,n,v,_,l,M,S⟩:=DataW.trod_array g h;have Q:n=fuel:=by omega
    subst Q;rw[p f]at S;rw[p G]at l;obtain⟨y,F,U⟩:=ZhJ (r:=Rd w (λb=>b<w.heap.size) e) (q:=YD e) ((Vv m).map λi=>(cs.drop (i*e.size)).take e.size) (by
     intro c N;obtain⟨i,O,rfl⟩:=Vna.1 N;have Z:i<m:=by grind
     have:=S i Z;rw[Va (by omega)]at this;exact Zf3 J n e _ _ _ f A this)
    refine⟨y,⟨?_,_,Zog m cs l,F⟩,?_,U⟩
    ·rw[F.length];simp
    ·rw[F.length];simp
  |ref=>simp [Ty.firm]at A
  |pt t=>simp [Ty.firm]at A
  |lk a b=>simp [Ty.firm]at A
  |pn t=>simp [Ty.firm]at A
def Zbk(θ:TypeId->Option Ty):Pats->List TypeId->Bool
 |.nil,[]=>Uc
 |.cons (.pd t) l,T::a=>θ T==Ua t&&t.firm&&Zbk θ l a
 |_,_=>Ud
def Zcq:(l:Pats)->Kw l->Prop
 |.nil,_=>True
 |.cons (.pd t) l,x=>YD t x.1/\Zcq l x.2
 |.cons _ l,x=>Zcq l x.2
theorem ZtH{θ:TypeId->Option Ty}{T:TypeId}{t:Ty}(h:Jo P θ T t)(f:t.firm=Uc){v:Value}{b:Nat}(a:Vu P w .any b T v):Kd v=t.agg:=by
 have c:=h.shape;unfold Vu at a
 cases e:P.underlying T with
 |none=>rw[e]at c;cases t<;>simp [Ke]at c
 |some d=>
  rw[e]at c;simp only[e]at a;cases t<;>cases d<;>simp [Ke,Ty.firm]at c f<;>simp only[Cell.okWide,e,Cell.ok]at a
  all_goals first
   |(obtain⟨cs,rfl,_⟩:=a;rfl)
   |(cases v<;>first|rfl|grind|exact a.elim)
theorem Znk{θ:TypeId->Option Ty}(g:∀T t,θ T=Ua t->Jo P θ T t):∀(l:Pats) (a:List TypeId) (vs:List Value) (ds:List (DataW H)) (e:List MemPlace),Zbk θ l a=Uc->
 DataW.TrodAll enc P w 0 sp held a vs ds e->(∀(j:Nat) t v,a[j]? =Ua t->vs[j]? =Ua v->∃b,Vu P w .any b t v)->∃x,JA w (λb=>b<w.heap.size) l x [] vs/\Zcq l x
 |.nil,[],vs,ds,e,_,h,_=>by
  cases vs with
  |nil=>exact⟨(),by simp [JA],trivial⟩
  |cons v vs=>simp [DataW.TrodAll]at h
 |.nil,T::a,vs,ds,e,c,h,_=>by simp [Zbk]at c
 |.cons p l,[],vs,ds,e,c,h,_=>by cases p<;>simp [Zbk]at c
 |.cons p l,T::a,vs,ds,e,c,h,m=>by
  cases p<;>simp [Zbk]at c
  rename_i t;obtain⟨⟨i,k⟩,n⟩:=c
  cases vs with
  |nil=>simp [DataW.TrodAll]at h
  |cons v vs=>
   cases ds with
   |nil=>simp [DataW.TrodAll]at h
   |cons d ds=>
    simp only[DataW.TrodAll]at h;obtain⟨G,D,⟨fuel,o⟩,q,_⟩:=h;obtain⟨y,C,s⟩:=Zf3 g fuel t T _ _ i k o;obtain⟨x,A,f⟩:=Znk g l a vs ds D n q λj t v F z=>m (j+1) t v (by grind) (by grind);obtain⟨b,r⟩:=m 0 T v (by simp) (by simp);refine⟨(y,x),?_,s,f⟩;simp only[JA];refine⟨[],[],v,vs,rfl,rfl,⟨⟨rfl,C⟩,.inr ?_⟩,A⟩;exact ZtH (g _ _ i) k r
end
theorem rv_bool{w:World}{I:Nat->Prop}{x:Bool×Unit}{js:List Nat}{v:Value}(h:RV w I (.cons (.pd .bool) .nil) x js v):v=.bool x.1:=by
 obtain⟨vs,a,rfl⟩:=h;simp only[JA]at a;obtain⟨f,g,u,r,_,rfl,⟨b,c⟩,_,rfl⟩:=a;simp only[PC]at b;have d:Kd u=false:=by rcases c with h|h<;>simp [Pat.isAgg,Ty.agg]at h<;>exact h
 have e:u.cells.toList=[.bool x.1]:=b.2;show u=_;cases u<;>simp_all [Kd,Vm]
end Tr
end
section
namespace Tr
open Go Go.RowKit Go.ChangeShapes
section
variable {H:Type}{enc:TypeId×Value->H}{P:Program}
theorem Zox(j:laidOutB P=Uc){W g:World}(i:Below W.heap.size W g)(sp:Nat->Bool):∀(c:List TypeId) (vs:List Value) (ds:List (DataW H)) (b:List MemPlace),
 (∀t∈c,P.readableRec t=Uc/\t<P.types.size)->DataW.TrodAll enc P W 0 (λ_=>Uc) Uc c vs ds b->(∀x∈b,x.block<W.heap.size)->(∀p∈b,sp p.block=Uc)->DataW.TrodAll enc P g 0 sp Uc c vs ds b
 |[],[],[],b,_,h,_,_=>h
 |T::c,v::vs,d::ds,b,f,h,e,k=>by
  simp only[DataW.TrodAll]at h⊢;obtain⟨p,q,l,m,rfl⟩:=h;exact⟨p,q,WideElems.Trod_stays j (f T (by simp)).1 (f T (by simp)).2 l (λx a=>i.same (e x (by simp [a]))) (λx a=>k x (by simp [a])),
   Zox j i sp c vs ds q (λt n=>f t (by simp [n])) m (λx a=>e x (by simp [a])) (λx a=>k x (by simp [a])),rfl⟩
 |[],_::_,_,_,_,h,_,_=>by simp [DataW.TrodAll]at h
 |[],[],_::_,_,_,h,_,_=>by simp [DataW.TrodAll]at h
 |_::_,[],_,_,_,h,_,_=>by simp [DataW.TrodAll]at h
 |_::_,_::_,[],_,_,h,_,_=>by simp [DataW.TrodAll]at h
theorem Zoy{W:World}{base:Nat}{sp:Nat->Bool}{held:Bool}:∀(a:List TypeId) (vs:List Value) (ds:List (DataW H)) (c:List MemPlace),DataW.TrodAll enc P W base sp held a vs ds c->ds.length=a.length
 |[],[],[],_,_=>rfl
 |_::a,_::vs,_::ds,_,h=>by
  simp only[DataW.TrodAll]at h;obtain⟨_,q,_,b,_⟩:=h
  simp [Zoy a vs ds q b]
 |[],_::_,_,_,h=>by simp [DataW.TrodAll]at h
 |[],[],_::_,_,h=>by simp [DataW.TrodAll]at h
 |_::_,[],_,_,h=>by simp [DataW.TrodAll]at h
 |_::_,_::_,[],_,h=>by simp [DataW.TrodAll]at h
theorem Zvk{f:Func}{s:ChangeSpec}{apart YT handsOn again:Bool}{W h:World}{args:Array Value}{v:Value}{ds gs:List (DataW H)}{before pa pv:List MemPlace}
 (k:DataW.Whole enc P f.params.toList s.vars apart W args.toList ds gs before)
 (e:∀(b:Nat) (sp:Nat->Bool) (y:Bool),DataW.TrodAll enc P h b sp y f.resultTypes.toList (v.resultList f.resultTypes.size) (s.fn H (ds++gs)).results [])
 (a:∀sp:Nat->Bool,(∀p∈before,sp p.block=Uc)->DataW.TrodAll enc P h 0 sp Uc f.params.toList args.toList (s.fn H (ds++gs)).args pa)
 (c:∀sp:Nat->Bool,(∀p∈before,sp p.block=Uc)->DataW.TrodVars enc P h sp s.vars (s.fn H (ds++gs)).vars pv)
 (g:before=pa++pv) (o:Below W.heap.size W h)
 (n:∀(j:Nat) (t:TypeId) (r:Value),f.resultTypes[j]? =Ua t->(v.resultList f.resultTypes.size)[j]? =Ua r->Vu P h .any 0 t r):
 s.post enc P f apart YT handsOn again W args v h:=by
 have d:∀p∈before,(λb=>Ue (b<W.heap.size)) p.block=true:=λp i=>by simpa using k.lt p i
 refine⟨ds,gs,before,[],pa,pv,k,e _ _ _,a _ d,c _ d,o.frame _,λ_=>?_⟩;have m:=k.lt;obtain⟨_,_,_,_,_,A,z⟩:=k;refine⟨n,_,_,([]++pa)++pv,⟨[]++pa,pv,trodAll_append (a _ (λ_ _=>rfl)) (e _ _ _),c _ (λ_ _=>rfl),rfl,?_,?_⟩,?_⟩
 ·intro b off i;have q:MemPlace.cell b off∈before:=by rw[g];simpa using i
  have l:=o.block b (m _ q);have:=A b off q;unfold Via at this⊢;rw[l];exact this
 ·intro x;have:=z x;rw[g]at this;simpa using this
 ·intro p i _;rw[g];simpa using i
theorem law_lifted{C:Checked}{os:Os}{f:FuncId}{fn:Func}{s:ChangeSpec}{apart:Bool}{S:Spec}{θ:TypeId->Option Ty}{tb:TypeId}
 (own:ownKnob C.prog.godebug=Ub) (started:os.Started) (d:C.prog.inits.idxOf? f=Ub) (X:C.prog.funcs[f]? =Ua fn)
 (witness:∃(w:World) (tape:Tape) (i:Input),w.os=os/\(w.forCall tape i).Shaped C.prog/\i.vars=[]/\Input.okWide C.prog (w.forCall tape i) .any w.heap.size f i/\
   s.pre6 enc C.prog fn [] apart (w.forCall tape i).memory i.args/\Assume.holds {} C.prog (lone (Frame.enter C.prog f i.args .normal) [] (w.forCall tape i)))
 (hl:laidOutB C.prog=Uc) (y:(fn.params.toList.all λt=>C.prog.readableRec t&&Ue (t<C.prog.types.size))=Uc)
 (c:s.vars=[]) (F:∀ds:List (DataW H),ds.length=fn.params.toList.length->s.fn H ds={results:=[.lit (.bool Uc)],args:=ds})
 (l:fn.resultTypes= #[tb]) (N:C.prog.underlying tb=Ua .bool)
 (hF:ZT C.prog f S) (hθ:∀T t,θ T=Ua t->Jo C.prog θ T t) (m:Zbk θ S.args fn.params.toList=Uc)
 (a1:S.pl=Uc) (J:∀x,Zcq S.args x->∃z,S.f x=Ua z/\∀w I js rv,RV w I S.res (S.unp z).2 js rv->rv=.bool Uc):
 ReturnsInHanded {} C os f .any (s.pre6 enc C.prog fn [] apart) (s.post enc C.prog fn apart Uc Ud Ud):=by
 refine returnsInHanded_of_change (C:=C) own started d X witness ?_;intro W base args ds gs before O U a4 _;have V:=U;have Z:=U.lt;obtain⟨p,q,Q,R,rfl,a5,a6⟩:=U;have Y:gs=[]/\q=[]:=by
  rw[c]at R
  cases gs with
  |nil=>exact⟨rfl,R⟩
  |cons g gs=>simp [DataW.TrodVars]at R
 obtain⟨rfl,rfl⟩:=Y;obtain⟨x,hx,hg⟩:=Znk (enc:=enc) hθ S.args fn.params.toList args.toList ds p m Q (λj t v ht hv=>⟨base,O j t v (by simpa using ht) (by simpa using hv)⟩);obtain⟨z,hz,a3⟩:=J x hg;have a:=hF.run W (λb=>b<W.heap.size) args.toList [] x z hx .nil (by simp) (λ_ h=>h) (λh=>by rw[a1]at h;cases h) hz;simp only[Array.toArray_toList]at a;refine a.mono λe W' h=>?_;obtain⟨rv,rfl,I',jo,jr,_,hR,_,_,_,_,a0,G,K,A,o⟩:=h;have M:=a3 _ _ _ _ hR;subst M;have hb:Below W.heap.size W W' :=⟨a0,G,K.out,A,λk hk=>o k hk (by simp)⟩;have D:=F (ds++[]) (by rw[Vta];exact Zoy _ _ _ _ Q);have a2:∀t∈fn.params.toList,C.prog.readableRec t=Uc/\t<C.prog.types.size:=by intro t ht;have:=Vs.1 y t ht;simpa using this
 refine⟨_,rfl,Zvk (pa:=p) (pv:=[]) V (λb sp hd=>?_) (λsp hs=>?_) (λsp hs=>?_) rfl hb ?_⟩
 ·rw[D,l];exact trodAll_cons_mk (p:=[]) (p' :=[]) ⟨1,by simp [DataW.trod,N,Vm]⟩ rfl
 ·rw[D];simp only[Vta]at hs⊢;exact Zox hl hb sp _ _ _ _ a2 Q (by simpa using Z) hs
 ·rw[D,c];rfl
 ·intro j t r n L;rw[l]at n L
  match j,n,L with
  |0,n,L=>
   simp [Value.resultList]at n L;subst n;subst L
   simp [Vu,N,Cell.okWide,Cell.ok]
  |j+1,n,_=>simp at n
end
end Tr
end
section
namespace Tr
open Go
section
variable {σ τ:Type}{step:σ->Option (σ ⊕ τ)}
theorem ZaI(n:Nat)(s:σ):Jq step (n+1) s=(step s).bind λo=>Vab (Jq step n) Ua o:=by
 show (match step s with|some (.inl a)=>Jq step n a|some (.inr r)=>Ua r|none=>Ub)=_
 cases step s with
 |none=>rfl
 |some o=>cases o<;>rfl
theorem Zh1:∀(n m:Nat) (s:σ) (r:τ),Jq step n s=Ua r->Jq step (n+m) s=Ua r
 |0,_,_,_,h=>by simp [Jq]at h
 |n+1,m,s,r,h=>by
  rw[show n+1+m=(n+m)+1 by omega,ZaI];rw[ZaI]at h
  cases a:step s with
  |none=>rw[a]at h;simp at h
  |some o=>
   rw[a]at h
   cases o with
   |inl b=>exact Zh1 n m b r h
   |inr c=>exact h
theorem ZlU{n m:Nat}{s:σ}{r c:τ}(h:Jq step n s=Ua r)(d:Jq step m s=Ua c):r=c:=by have a:=Zh1 n m s r h;have b:=Zh1 m n s c d;rw[Nat.add_comm]at b;exact KO (a.symm.trans b)
theorem Zwe{n:Nat}{s:σ}{r:τ}(h:Jq step n s=Ua r):run step s=Ua r:=by
 unfold run;split
 ·rename_i d c;exact congrArg Ua (ZlU c h)
 ·rw[dif_pos ⟨r,n,h⟩];have a:∃r n,Jq step n s=Ua r:=⟨r,n,h⟩;obtain⟨m,b⟩:=a.choose_spec;exact congrArg Ua (ZlU b h)
theorem ZnV{s:σ}{r:τ}:run step s=Ua r↔∃n,Jq step n s=Ua r:=⟨ZiW,λ⟨_,h⟩=>Zwe h⟩
theorem ZdB(s:σ):run step s=(step s).bind λo=>Vab (run step) Ua o:=by
 apply Option.ext;intro r;rw[ZnV]
 cases a:step s with
 |none=>
  simp only[Option.bind_none,reduceCtorEq,iff_false];rintro ⟨n,h⟩
  cases n with
  |zero=>simp [Jq]at h
  |succ n=>rw[ZaI,a]at h;simp at h
 |some o=>
  simp only[Za]
  cases o with
  |inl c=>
   simp only[Sum.elim_inl];rw[ZnV];constructor
   ·rintro ⟨n,h⟩
    cases n with
    |zero=>simp [Jq]at h
    |succ n=>rw[ZaI,a]at h;exact⟨n,h⟩
   ·rintro ⟨n,h⟩
    exact⟨n+1,by rw[ZaI,a];exact h⟩
  |inr b=>
   simp only[Sum.elim_inr];constructor
   ·rintro ⟨n,h⟩
    cases n with
    |zero=>simp [Jq]at h
    |succ n=>rw[ZaI,a]at h;exact h
   ·intro h;exact⟨1,by rw[ZaI,a];exact h⟩
theorem H4{s s' :σ}(h:step s=Ua (.inl s')):run step s=run step s' :=by rw[ZdB,h];rfl
theorem Y0{s:σ}{r:τ}(h:step s=Ua (.inr r)):run step s=Ua r:=by rw[ZdB,h];rfl
theorem Zn1{Inv:σ->Prop}{μ:σ->Nat}{Wz:τ->Prop}(a:∀s,Inv s->(∃s',step s=Ua (.inl s')/\Inv s' /\μ s' <μ s)\/∃r,step s=Ua (.inr r)/\Wz r):
 ∀s,Inv s->∃r,run step s=Ua r/\Wz r:=by
 intro s;generalize h:μ s=m
 induction m using Nat.strongRecOn generalizing s with
 |ind m i=>
  intro g;rcases a s g with ⟨s',b,c,d⟩|⟨r,b,c⟩
  ·obtain⟨r,e,f⟩:=i (μ s') (h▸d) s' rfl c;exact⟨r,(H4 b).trans e,f⟩
  ·exact⟨r,Y0 b,c⟩
theorem XJ{ρ:Type}{s:σ}{f:τ->Option ρ}{Q:ρ->Prop}(Inv:σ->Prop)(μ:σ->Nat)(Wz:τ->Prop)(e:Inv s)
 (b:∀s,Inv s->∃z,step s=Ua z/\Vab (λs' =>Inv s' /\μ s' <μ s) Wz z)
 (a:∀r,Wz r->∃z,f r=Ua z/\Q z):∃z,Vga (run step s) f=Ua z/\Q z:=by
 obtain⟨r,c,d⟩:=Zn1 (Inv:=Inv) (μ:=μ) (Wz:=Wz) (λs g=>by
  obtain⟨z,c,d⟩:=b s g
  cases z with
  |inl s' =>exact .inl ⟨s',c,d⟩
  |inr r=>exact .inr ⟨r,c,d⟩) s e
 rw[c];exact a r d
theorem run_bind{ρ:Type}{s:σ}{f:τ->Option ρ}{Q:ρ->Prop}(Inv:σ->Prop)(μ:σ->Nat)(Wz:τ->Prop)(c:Inv s)
 (b:∀s,Inv s->(∃s',step s=Ua (.inl s')/\Inv s' /\μ s' <μ s)\/∃r,step s=Ua (.inr r)/\Wz r)
 (a:∀r,Wz r->∃z,f r=Ua z/\Q z):∃z,Vga (run step s) f=Ua z/\Q z:=by
 obtain⟨r,d,e⟩:=Zn1 b s c;rw[d];exact a r e
end
theorem DE{α:Type}{l m:List α}(h:l.length+m.length<=4294967296):ZD (Ue (l.length+m.length<=ZI))=Ua ():=by rw[Zi (show l.length+m.length<=ZI from Nat.le_trans h (by decide))];rfl
theorem ZN{x:Int}(a: -9223372036854775808<=x)(b:x<=9223372036854775807):Vza .i64 x=x:=by
 simp [Vza,IntKind.signed,IntKind.bits];split<;>omega
theorem ZJ{α:Type}{xs:List α}{i:Nat}(h:i<xs.length):idx xs (i:Int)=Ua xs[i]:=by unfold idx;rw[Zn (by omega)];simp [h]
theorem Jl{α:Type}{xs:List α}{i:Int}(a:0<=i)(h:i.toNat<xs.length):idx xs i=Ua xs[i.toNat]:=by unfold idx;rw[Zn a];simp [h]
theorem KS{i:Nat}{n:Nat}(h:i<n):Zv (i:Int) n=Ua i:=by unfold Zv;rw[Zn (by omega)];simp
end Tr
end
section
namespace Tr
open Go Go.RowKit Go.ChangeShapes
section
variable {H:Type}{enc:TypeId×Value->H}
end
end Tr
end
section
namespace Tr
open Go
noncomputable def Zo.len:Zo->Nat
 |.nil=>0
 |.cons _ l=>l.len+1
section
variable {P:Program}{E:Z9}{B:Z1}{H:AH}
end
def ZdV(P:Program):List (Nat×Func)->Prop
 |[]=>True
 |p::l=>(P.funcs[p.1]? =some p.2∧p.2.body=some (K2 p.2)∧(p.2.name== "runtime.NumGoroutine")=false)∧ZdV P l
section
variable {P:Program}{E:Z9}{B:Z1}
theorem ZdV.mem:∀{l:List (Nat×Func)},ZdV P l→∀p∈l,P.funcs[p.1]? =some p.2∧p.2.body=some (K2 p.2)∧(p.2.name== "runtime.NumGoroutine")=false
 |[],_,p,a=>by simp at a
 |q::l,h,p,a=>by
  rcases Vp.1 a with rfl|a
  ·exact h.1
  ·exact ZdV.mem h.2 p a
theorem Z4.put(a:Z4 P E)(s:Nat)(i:FuncId->Option (Nat->Zo->Zy (AV×KF))):Z4 P {E with st:=s,inl:=i}:=⟨a.ty,a.mty,a.pk,a.pz,a.bd⟩
def J8:(t:Ty)->El t->El t->Bool
 |.int _,x,y=>Ue (x=y)
 |.bool,x,y=>x==y
 |.str,x,y=>Ue (x=y)
 |.sl t,x,y=>eqDs (J8 t) x y
 |.unit,_,_=>Uc
 |.prod a b,x,y=>J8 a x.1 y.1&&J8 b x.2 y.2
 |.arr _ t,x,y=>eqDs (J8 t) x y
 |.ref,_,_=>Uc
 |.pt _,_,_=>Ud
 |.lk _ _,_,_=>Ud
 |.pn _,_,_=>Ud
where eqDs {α:Type} (f:α->α->Bool):List α->List α->Bool
 |[],[]=>Uc
 |a::l,b::m=>f a b&&eqDs f l m
 |_,_=>Ud
theorem ZcV:∀(t:Ty) (x y:El t),J8 t x y=Uc->x=y
 |.int _,x,y,h=>Xy h
 |.bool,x,y,h=>beq_iff_eq.1 h
 |.str,x,y,h=>Xy h
 |.sl t,x,y,h=>eqDs_eq (ZcV t) x y h
 |.unit,_,_,_=>rfl
 |.prod a b,x,y,h=>by
  simp only[J8,Ve]at h
  exact Prod.ext (ZcV a _ _ h.1) (ZcV b _ _ h.2)
 |.arr _ t,x,y,h=>eqDs_eq (ZcV t) x y h
 |.ref,_,_,_=>rfl
 |.pt _,_,_,h=>by simp [J8]at h
 |.lk _ _,_,_,h=>by simp [J8]at h
 |.pn _,_,_,h=>by simp [J8]at h
where eqDs_eq {α:Type}{f:α->α->Bool} (c:∀x y,f x y=Uc->x=y):∀(x y:List α),J8.eqDs f x y=Uc->x=y
 |[],[],_=>rfl
 |a::l,b::m,h=>by
  simp only[J8.eqDs,Ve]at h
  rw[c a b h.1,eqDs_eq c l m h.2]
 |[],_::_,h=>by simp [J8.eqDs]at h
 |_::_,[],h=>by simp [J8.eqDs]at h
end
end Tr
end
section
namespace Tr
universe u
variable {α:Type u}
def ZaF(cmp:α->α->Option Int)(x:α):List α->Option (List α)
 |[]=>Ua [x]
 |y::l=>(cmp x y).bind λc=>bif Ue (c<0) then Ua (x::y::l) else(ZaF cmp x l).bind λm=>Ua (y::m)
def ZaH(cmp:α->α->Option Int):List α->Option (List α)
 |[]=>Ua []
 |x::l=>(ZaH cmp l).bind λm=>ZaF cmp x m
def ltB(cmp:α->α->Option Int)(x y:α):Bool:=match cmp x y,cmp y x with
 |some a,Ua b=>Ue (a<0)&&Ue (0<b)
 |_,_=>Ud
def ZfJ(cmp:α->α->Option Int)(x:α):Bool:=match cmp x x with
 |some a=> !Ue (a<0)
 |none=>Ud
def Rn(cmp:α->α->Option Int):List α->Bool
 |[]=>Uc
 |x::l=>ZfJ cmp x&&l.all (ltB cmp x)&&Rn cmp l
def sortF(cmp:α->α->Option Int)(xs:List α):Option (List α):=
 bif Ue (xs.length<4294967296) then(ZaH cmp xs).bind λa=>bif Rn cmp a then Ua a else Ub else Ub
theorem ZhW{cmp:α->α->Option Int}{x:α}:∀{l m:List α},ZaF cmp x l=Ua m->m.Perm (x::l)
 |[],m,h=>by simp only[ZaF,Option.some.injEq]at h;subst h;exact .refl _
 |y::l,m,h=>by
  simp only[ZaF,Vc]at h;obtain⟨c,_,h⟩:=h
  cases a:Ue (c<0) with
  |true=>rw[a]at h;simp only[cond_true,Option.some.injEq]at h;subst h;exact .refl _
  |false=>
   rw[a]at h;simp only[cond_false,Vc,Option.some.injEq]at h;obtain⟨d,b,rfl⟩:=h;exact((ZhW b).cons y).trans (.swap _ _ _)
theorem Zfc{cmp:α->α->Option Int}:∀{l m:List α},ZaH cmp l=Ua m->m.Perm l
 |[],m,h=>by simp only[ZaH,Option.some.injEq]at h;subst h;exact .refl _
 |x::l,m,h=>by simp only[ZaH,Vc]at h;obtain⟨c,a,b⟩:=h;exact(ZhW b).trans ((Zfc a).cons x)
theorem Zoa{cmp:α->α->Option Int}{xs d:List α}(h:sortF cmp xs=Ua d):xs.length<4294967296/\d.Perm xs/\Rn cmp d=true:=by
 unfold sortF at h
 cases b:Ue (xs.length<4294967296) with
 |false=>rw[b]at h;simp at h
 |true=>
  rw[b]at h;simp only[cond_true,Vc]at h;obtain⟨m,e,a⟩:=h
  cases c:Rn cmp m with
  |false=>rw[c]at a;simp at a
  |true=>rw[c]at a;simp only[cond_true,Option.some.injEq]at a;subst a;exact⟨of_decide_eq_true b,Zfc e,c⟩
theorem Zmh{cmp:α->α->Option Int}{x y:α}(h:ltB cmp x y=Uc):∃a b,cmp x y=Ua a/\cmp y x=Ua b/\a<0/\0<b:=by
 unfold ltB at h;split at h
 ·rename_i a b c d;simp only[Ve,decide_eq_true_eq]at h;exact⟨a,b,c,d,h.1,h.2⟩
 ·simp at h
theorem Zws{cmp:α->α->Option Int}{x:α}(h:ZfJ cmp x=Uc):∃a,cmp x x=Ua a/\ ¬a<0:=by
 unfold ZfJ at h;split at h
 ·rename_i a b;exact⟨a,b,by simpa using h⟩
 ·simp at h
theorem Zi3{cmp:α->α->Option Int}:∀{l:List α},Rn cmp l=Uc->∀(i j:Nat) (d:i<l.length) (e:j<l.length),∃c,cmp l[i] l[j]=Ua c/\(c<0↔i<j)
 |[],_,i,j,d,_=>by simp at d
 |x::l,h,i,j,d,e=>by
  simp only[Rn,Ve,Vs]at h;obtain⟨⟨m,k⟩,n⟩:=h
  match i,j,d,e with
  |0,0,_,_=>obtain⟨a,f,g⟩:=Zws m;exact⟨a,f,by omega⟩
  |0,j+1,_,e=>obtain⟨a,b,f,_,g,_⟩:=Zmh (k _ (Vl (by simpa using e:j<l.length)));exact⟨a,by simpa using f,by omega⟩
  |i+1,0,d,_=>obtain⟨a,b,_,o,_,g⟩:=Zmh (k _ (Vl (by simpa using d:i<l.length)));exact⟨b,by simpa using o,by omega⟩
  |i+1,j+1,d,e=>
   obtain⟨c,p,g⟩:=Zi3 n i j (by simpa using d) (by simpa using e);exact⟨c,by simpa using p,by omega⟩
theorem ZlL{cmp:α->α->Option Int}(lt:α->α->Prop)(x:α):∀(l:List α),(∀y∈l,∃c,cmp x y=Ua c/\(c<0↔lt x y))->(∀y∈l,lt x y\/lt y x)->(∀a∈l,∀b∈l,lt x a->lt a b->lt x b)->l.Pairwise lt->
 ∃m,ZaF cmp x l=Ua m/\m.Pairwise lt
 |[],_,_,_,_=>⟨[x],rfl,by simp⟩
 |y::l,n,d,o,i=>by
  obtain⟨c,p,j⟩:=n y (by simp);rw[Vd]at i;simp only[ZaF,p,Option.bind_some];by_cases g:c<0
  ·rw[decide_eq_true g];refine⟨_,rfl,Vd.2 ⟨λz e=>?_,Vd.2 i⟩⟩;rcases Vp.1 e with rfl|f
   ·exact j.1 g
   ·exact o y (by simp) z e (j.1 g) (i.1 z f)
  ·rw[decide_eq_false g];obtain⟨m,k,q⟩:=ZlL lt x l (λz e=>n z (by simp [e])) (λz e=>d z (by simp [e])) (λa r b s=>o a (by simp [r]) b (by simp [s])) i.2;refine⟨y::m,by simp [k],Vd.2 ⟨λz e=>?_,q⟩⟩;rcases Vp.1 ((ZhW k).mem_iff.1 e) with rfl|f
   ·exact(d y (by simp)).resolve_left λh=>g (j.2 h)
   ·exact i.1 z f
theorem Zok{cmp:α->α->Option Int}(lt:α->α->Prop):∀(l:List α),(∀x∈l,∀y∈l,∃c,cmp x y=Ua c/\(c<0↔lt x y)/\(0<c↔lt y x))->(∀x∈l,¬lt x x)->l.Pairwise lt->Rn cmp l=Uc
 |[],_,_,_=>rfl
 |x::l,h,k,e=>by
  rw[Vd]at e;simp only[Rn,Ve,Vs];refine⟨⟨?_,λy f=>?_⟩,Zok lt l (λa j b o=>h a (by simp [j]) b (by simp [o])) (λa j=>k a (by simp [j])) e.2⟩
  ·obtain⟨c,g,i,_⟩:=h x (by simp) x (by simp);unfold ZfJ;rw[g];show (!Ue (c<0))=Uc;rw[decide_eq_false λp=>k x (by simp) (i.1 p)];rfl
  ·obtain⟨c,g,i,_⟩:=h x (by simp) y (by simp [f]);obtain⟨d,m,_,n⟩:=h y (by simp [f]) x (by simp);unfold ltB;rw[g,m];simp only[Ve,decide_eq_true_eq];exact⟨i.2 (e.1 y f),n.2 (e.1 y f)⟩
theorem Zob{cmp:α->α->Option Int}(lt:α->α->Prop)(xs:List α)(A:xs.length<4294967296)(h:∀x∈xs,∀y∈xs,∃c,cmp x y=Ua c/\(c<0↔lt x y)/\(0<c↔lt y x))(j:∀x∈xs,¬lt x x)
 (D:∀a∈xs,∀b∈xs,∀c∈xs,lt a b->lt b c->lt a c) (o:xs.Pairwise λa b=>lt a b\/lt b a):∃q,sortF cmp xs=Ua q/\q.Perm xs/\q.Pairwise lt:=by
 have key:∀l:List α,(∀x∈l,x∈xs)->(l.Pairwise λa b=>lt a b\/lt b a)->∃m,ZaH cmp l=Ua m/\m.Pairwise lt:=by
  intro l
  induction l with
  |nil=>exact λ_ _=>⟨[],rfl,.nil⟩
  |cons x l F=>
   intro p e;rw[Vd]at e;obtain⟨m,i,n⟩:=F (λy d=>p y (by simp [d])) e.2;have k:∀y∈m,y∈l:=λy d=>(Zfc i).mem_iff.1 d;have g:=p x (by simp);have f:∀y∈m,y∈xs:=λy d=>p y (by simp [k y d]);obtain⟨G,s,t⟩:=ZlL lt x m (λy d=>(h x g y (f y d)).imp λc r=>⟨r.1,r.2.1⟩) (λy d=>e.1 y (k y d)) (λa v b z=>D x g a (f a v) b (f b z)) n;exact⟨G,by simp [ZaH,i,s],t⟩
 obtain⟨m,i,n⟩:=key xs (λ_ h=>h) o;have e:=Zfc i;have C:=Zok lt m (λx g y d=>h x (e.mem_iff.1 g) y (e.mem_iff.1 d)) (λx g=>j x (e.mem_iff.1 g)) n;exact⟨m,by unfold sortF;rw[decide_eq_true A];simp [i,C],e,n⟩
theorem sortF_sorted{cmp:α->α->Option Int}(lt:α->α->Prop)(xs:List α)(o:xs.length<4294967296)(h:∀x∈xs,∀y∈xs,∃c,cmp x y=Ua c/\(c<0↔lt x y)/\(0<c↔lt y x))(d:∀x∈xs,¬lt x x)
 (i:∀a∈xs,∀b∈xs,∀c∈xs,lt a b->lt b c->lt a c) (g:xs.Pairwise lt):sortF cmp xs=Ua xs:=by
 obtain⟨p,j,e,k⟩:=Zob lt xs o h d i (g.imp λh=>.inl h);rw[j];congr 1;refine List.Perm.eq_of_pairwise (le:=lt) (λa b f n l m=>?_) k g e;exact absurd (i a (e.mem_iff.1 f) b n a (e.mem_iff.1 f) l m) (d a (e.mem_iff.1 f))
def ZdZ(cmp:α->α->Option Int)(z:List α):Prop:= ∃d:α->Nat,(∀a∈z,∀b∈z,∃c,cmp a b=Ua c/\(c<0↔d a<d b))/\(∀a∈z,∀b∈z,d a=d b->a=b)/\z.Pairwise λa b=>d a<=d b
theorem Zol{cmp:α->α->Option Int}{z:List α}(h:Rn cmp z=Uc):ZdZ cmp z:=by
 have s:∃n:α->Nat,∀a,a∈z->z[n a]? =Ua a:=by
  refine Classical.axiomOfChoice (r:=λ(a:α) (i:Nat)=>a∈z->z[i]? =Ua a) λa=>?_;by_cases g:a∈z
  ·obtain⟨i,k,l⟩:=List.getElem_of_mem g;exact⟨i,λ_=>by rw[Va k,l]⟩
  ·exact⟨0,λh=>absurd h g⟩
 obtain⟨n,d⟩:=s;have m:∀a∈z,∀b∈z,∃c,cmp a b=Ua c/\(c<0↔n a<n b):=λa g b p=>by obtain⟨k,f⟩:=Vq.1 (d a g);obtain⟨o,l⟩:=Vq.1 (d b p);have:=Zi3 h _ _ k o;rwa [f,l]at this
 refine⟨n,m,λa g b p e=>?_,?_⟩
 ·have f:=d a g;rw[e,d b p]at f;exact(Option.some.inj f).symm
 ·rw[Vj];intro i j k o q;obtain⟨c,f,l⟩:=Zi3 h i j k o;obtain⟨x,t,v⟩:=m _ (Vl k) _ (Vl o);rw[f]at t;cases t;exact Nat.le_of_lt (v.1 (l.2 q))
open Classical in
noncomputable def sortX(cmp:α->α->Option Int)(xs:List α):Option (List α):=match sortF cmp xs with
 |some z=>Ua z
 |none=>if h:xs.length<4294967296/\∃z:List α,z.Perm xs/\ZdZ cmp z then Ua (choose h.2) else Ub
theorem ZwG{cmp:α->α->Option Int}{xs z:List α}(h:sortX cmp xs=Ua z):xs.length<4294967296/\z.Perm xs/\ZdZ cmp z:=by
 unfold sortX at h;split at h
 ·rename_i y e;cases h;obtain⟨b,c,d⟩:=Zoa e;exact⟨b,c,Zol d⟩
 ·split at h
  ·rename_i a;cases h;exact⟨a.1,(Classical.choose_spec a.2).1,(Classical.choose_spec a.2).2⟩
  ·cases h
end Tr
end
section
namespace Tr
open Go Go.Proofs Go.Shelf
abbrev ZrU(T:Ty):Pats:=.cons (.pd T) (.cons (.pd T) .nil)
abbrev ZrV:Pats:=.cons (.pd (.int .i64)) .nil
def ZeE(T:Ty)(cmp:El T->El T->Option Int):Spec:={args:=ZrU T,res:=ZrV,fns:=[],α:=Int,f:=λx=>cmp x.1 x.2.1,unp:=λz=>(((),(),()),(z,()))}
def ZdE(T:Ty)(g:FuncId)(f:List (El T)->Option (List (El T))):Spec:={args:=.cons (.own T Uc) (.cons (.fn g .nil) .nil),res:=.nil,fns:=[g],α:=List (El T),f:=λx=>f x.1,unp:=λz=>((z,(),()),())}
def ZwE(T:Ty)(g:FuncId)(cmp:El T->El T->Option Int):Spec:=ZdE T g (sortF cmp)
noncomputable def ZwF(T:Ty)(g:FuncId)(cmp:El T->El T->Option Int):Spec:=ZdE T g (sortX cmp)
theorem ZxB{w w' :World}(e:w'.os=w.os)(c:w'.tape=w.tape)(f:YF w' w)(g:w.heap.size<=w'.heap.size)(a:∀b,b<w.heap.size->w'.heap[b]? =w.heap[b]?):
 w' =Sort.grow (w.drewN (w'.drawn - w.drawn)) (w'.heap.extract w.heap.size w'.heap.size):=by
 obtain⟨j,m⟩:=f;obtain⟨h,t,d,o,p⟩:=w;obtain⟨l,v,q,r,s⟩:=w';simp only at e c g a j m;subst e c j;unfold Sort.grow World.drewN;simp only[World.mk.injEq,true_and,and_true];refine⟨?_,by omega⟩;apply Array.ext_getElem?;intro k;rw[Array.getElem?_append];split
 ·rename_i i;exact a k i
 ·rename_i i;rw[Array.getElem?_extract];by_cases n:k<l.size
  ·rw[Zn (by omega),show h.size+(k - h.size)=k by omega]
  ·rw[Zg (by omega)];simp;omega
theorem Zls{α:Type}[Inhabited α]{enc:α->List Value}{k:Nat}(f:∀x,(enc x).length=k)(d:Array α):(Sort.flatK enc k d).toList=(d.toList.map enc).flatten:=by
 apply Vba;intro t;have l:∀c∈d.toList.map enc,c.length=k:=by intro c g;obtain⟨x,_,rfl⟩:=Vna.1 g;exact f x
 have i:=Yt l;simp only[List.length_map,Vja]at i;by_cases a:t<d.size*k
 ·have b:0<k:=Nat.pos_of_ne_zero λh=>by subst h;simp at a
  have m:t / k<d.size:=by rw[Nat.div_lt_iff_lt_mul b];exact a
  have j:t % k<k:=Nat.mod_lt _ b;have g:(d.toList.map enc)[t / k]? =Ua (enc d[t / k]!):=by rw[Vca,Vb,Vg m,getElem!_pos d _ m];rfl
  obtain⟨n,o,_⟩:=RT g k l;have e:t=((d.toList.map enc).take (t / k)).flatten.length+t % k:=by rw[o];have:=Nat.div_add_mod t k;rw[Nat.mul_comm]at this;omega
  rw[Vb,Vg (by simpa using a),<-getElem!_pos (Sort.flatK enc k d) t (by simpa using a),Sort.get_flatK _ _ _ _ a,n,List.append_assoc];rw[List.getElem?_append_right (by omega),show t - ((d.toList.map enc).take (t / k)).flatten.length=t % k by omega,Vr (by rw[f];exact j)];rw[Va (by rw[f];exact j),getElem!_pos _ _ (by rw[f];exact j)]
 ·rw[Vn (by simpa using a),Vn (by omega)]
theorem Zlj{w:World}{I:Nat->Prop}{T:Ty}{α:Type}{f:α->El T}{e:α->List Value}(h:∀p,Rd w I T (f p) (e p)):∀l:List α,Fa (Rd w I T) (l.map f) (l.map e)
 |[]=>trivial
 |p::l=>⟨h p,Zlj h l⟩
theorem Zo0{w:World}{I:Nat->Prop}{T:Ty}:∀{xs:List (El T)}{css:List (List Value)},Fa (Rd w I T) xs css->∀p∈xs.zip css,Rd w I T p.1 p.2
 |[],[],_,p,h=>by simp at h
 |x::xs,c::css,⟨a,b⟩,p,h=>by
  rw[List.zip_cons_cons]at h;rcases Vp.1 h with rfl|h
  ·exact a
  ·exact Zo0 b p h
section
variable {P:Program}{ρ:Ren}
theorem Zoc(L:SlLaysF0.n6 P ρ)(p:Option Addr)(cap:Nat)(a:Value)(w:World):Calls P (ρ.f 6) #[.slice p 0 cap,a] w λe w' =>e=.returned (.tuple #[])/\w' =w:=AnyF.slices_SortFunc_none L p cap a w
theorem ZrW{T:Ty}{g:FuncId}{cmp:El T->El T->Option Int}(m:T.agg=Uc)(C:ZT P g (ZeE T cmp)){w:World}{I:Nat->Prop}(p:∀b,I b->b<w.heap.size){x y:El T}{cx f:List Value}(D:Rd w I T x cx)(F:Rd w I T y f){z:Int}(G:cmp x y=Ua z):
 Calls P g #[.agg cx.toArray,.agg f.toArray] w λe w' =>e=.returned (.int .i64 z)/\∃q l,w' =Sort.grow (w.drewN q) l:=by
 refine(C.run w I [.agg cx.toArray,.agg f.toArray] [] (x,y,()) z ⟨[],[],_,_,rfl,rfl,⟨⟨rfl,by simpa [Vm] using D⟩,.inr (by rw[show (Pat.pd T).isAgg=T.agg from rfl,m];rfl)⟩,[],[],_,_,rfl,rfl,⟨⟨rfl,by simpa [Vm] using F⟩,.inr (by rw[show (Pat.pd T).isAgg=T.agg from rfl,m];rfl)⟩,rfl,rfl⟩ .nil (by simp) p (λh=>by cases h) G).mono ?_;rintro e w' ⟨O,rfl,J,M,N,_,⟨vs,j,rfl⟩,_,_,_,_,i,d,a,k,c⟩;obtain⟨K,L,v,r,_,rfl,⟨A,s⟩,_,rfl⟩:=j;refine⟨?_,_,_,ZxB i d ⟨a.out,a.drawn rfl⟩ k λb t=>c b t (by simp)⟩;have n:v.cells.toList=[.int .i64 z]:=A.2;have o:Kd v=false:=s.resolve_left λh=>by cases h
 rw[KY n o];rfl
theorem Zn9{T:Ty}{g:FuncId}{cmp:El T->El T->Option Int}{f:List (El T)->Option (List (El T))}(hf:∀xs z,f xs=Ua z->xs.length<4294967296/\z.Perm xs/\ZdZ cmp z)(L:SlLaysF0.n6 P ρ)(hT:T.agg=Uc)(aE:∀w,(isAgg (ρ.t 24)).run P w=.ok Uc w)(zE:∀w,(Go.sizeOf (ρ.t 24)).run P w=.ok T.size w)(hg:ZT P g (ZeE T cmp))(e9:Nat.blt g WQ=true:=by rfl):
 ZT P (ρ.f 6) (ZdE T g f) where
 wf:=rfl
 fn:=by obtain⟨nm,W,J⟩:=L.f6;exact⟨_,J,rfl,W⟩
 run:=by
  intro w I g9 js x (z:List (El T)) f9 f5 G hI _ hz;obtain⟨j1,j2,v,r,rfl,rfl,⟨f8,e4⟩,j3,j4,v2,r2,rfl,rfl,⟨d5,N⟩,rfl,rfl⟩:=f9;obtain⟨cc,c9,rfl,rfl⟩:=d5;have d1:Xa g []=.func (.func g) #[] #[]:=by unfold Xa;rw[e9];rfl
  rw[d1]at c9;have g3:v2=.func (.func g) #[] #[]:=KY c9 (N.resolve_left λh=>by cases h);subst g3;have a2:Kd v=false:=e4.resolve_left λh=>by cases h
  obtain⟨g8,o,rk,a0,d2,d8⟩:=hf x.1 z hz;have back:∀{w' :World}{rv:Value},rv=.tuple #[]->PC w' I (.own T Uc) z j1 v.cells.toList->(∀b,I b->b<w'.heap.size)->w'.os=w.os->w'.tape=w.tape->YF w' w->w.heap.size<=w'.heap.size->(∀b,b<w.heap.size->b ∉ j1->w'.heap[b]? =w.heap[b]?)->
   DT (ZdE T g f) w I (j1++[]) [v,.func (.func g) #[] #[]] ((ZdE T g f).unp z) rv w' :=by
   intro w' rv g1 d4 e3 W J X h4 h5;refine⟨I,j1++[],[],⟨j1,[],_,_,rfl,rfl,d4,[],[],_,_,rfl,rfl,⟨[],by simp [Vm,d1],rfl⟩,rfl⟩,⟨[],⟨rfl,rfl⟩,g1⟩,by simpa using f5,λb U=>?_,λ_ h=>h,λb U=>⟨e3 b U,.inl U⟩,W,J,⟨X.out,λ_=>X.drawn⟩,h4,λb U V=>h5 b U (by simpa using V)⟩;have l:b∈j1++[]:=by simpa using U
   exact⟨(G b (by simpa using l)).1,by have:=(G b (by simpa using l)).2;omega,.inl (by simpa using l)⟩
  rcases f8 with ⟨rfl,hx,hc⟩|⟨b,cap,cells,e,k,rfl,hc,hh,a4,c4,b2,rest,b9⟩
  ·have hv:v=.slice Ub 0 0:=KY hc a2;have S:z=[]:=by rw[hx]at o;exact Vya.1 o
   subst hv;refine(Zoc L Ub 0 _ w).mono ?_;rintro e w' ⟨rfl,rfl⟩;exact⟨_,rfl,back rfl (.inl ⟨rfl,S,rfl⟩) hI rfl rfl .rfl (Vk _) λ_ _ _=>rfl⟩
  have hv:v=.slice (Ua ⟨b,0,Ub⟩) x.1.length cap:=KY hc a2;subst hv;by_cases b7:x.1=[]
  ·have S:z=[]:=by rw[b7]at o;exact Vya.1 o
   have h0:x.1.length=0:=by rw[b7];rfl
   rw[h0];refine(Zoc L _ cap _ w).mono ?_;rintro e' w' ⟨rfl,rfl⟩;refine⟨_,rfl,?_⟩;have:=back (w' :=w') (rv:=.tuple #[]) rfl (.inr ⟨b,cap,cells,e,[],rfl,by rw[S];simp [Vm,h0],hh,by rw[S];exact Vaa _,c4,by rw[S];trivial,List.nil_prefix⟩) hI rfl rfl .rfl (Vk _) λ_ _ _=>rfl;rw[h0]at this;exact this
  have U:=G b (by simp);have b5:x.1.length=k.length:=b2.length;have C:(x.1.zip k).map Prod.fst=x.1:=List.map_fst_zip (by omega);have c6:(x.1.zip k).map Prod.snd=k:=List.map_snd_zip (by omega);have R:=Zo0 b2;have a7:∀p∈x.1.zip k,p.1∈z:=λp hp=>o.mem_iff.2 (by rw[<-C];exact Vna.2 ⟨p,hp,rfl⟩)
  let α:={p:El T×List Value // p∈x.1.zip k}
  have d3:x.1.zip k≠ []:=by intro h0;rw[h0]at C;exact b7 C.symm
  obtain⟨p0,f7⟩:=List.exists_mem_of_ne_nil _ d3
  letI:Inhabited α:=⟨⟨p0,f7⟩⟩
  let enc:α->List Value:=λp=>p.1.2
  let cf:α->α->Int:=λp q=>(cmp p.1.1 q.1.1).getD 0
  let ix:α->Nat:=λp=>rk p.1.1
  have c7:∀p q:α,∃c,cmp p.1.1 q.1.1=Ua c/\(c<0↔ix p<ix q):=λp q=>a0 _ (a7 p.1 p.2) _ (a7 q.1 q.2);have b6:∀p q:α,ltOf cf p q=Ue (ix p<ix q):=λp q=>by
   obtain⟨c,W,J⟩:=c7 p q;show Ue ((cmp p.1.1 q.1.1).getD 0<0)=_;rw[W];show Ue (c<0)=_;by_cases h:c<0
   ·rw[Zi h,Zi (J.1 h)]
   ·rw[Zt h,Zt λX=>h (J.2 X)]
  have hO:Go.Sort.SWO (ltOf cf):=by
   refine⟨λp=>?_,λp q r W J=>?_,λp q r W J=>?_⟩
   ·rw[b6];simp
   ·rw[b6]at*;simp at*;omega
   ·rw[b6]at*;simp at*;omega
  have hk:∀p:α,(enc p).length=T.size:=λp=>Rd.length T _ _ (R p.1 p.2);have W:∀p:α,∀v∈enc p,v.oneCell' =true:=λp=>Rd.oneCell T _ _ (R p.1 p.2)
  let d:Array α:=((x.1.zip k).attach).toArray
  have b1:d.toList=(x.1.zip k).attach:=by simp [d]
  have M:d.size=x.1.length:=by
   have:d.toList.length=x.1.length:=by rw[b1,List.length_attach,List.length_zip];omega
   simpa using this
  have e7:d.toList.map enc=k:=by
   rw[b1];have:(x.1.zip k).attach.map enc=((x.1.zip k).attach.map Subtype.val).map Prod.snd:=by rw[Vma];rfl
   rw[this,Vw,c6]
  have e5:cells.toList=k.flatten++rest:=b9.symm;have Q:(Go.Sort.flatK enc T.size d).toList=k.flatten:=by rw[Zls hk,e7]
  have g7:k.flatten.length=x.1.length*T.size:=by rw[Yt (Rd.all_length b2),b5]
  have a3:b<w.heap.size:=U.2;have hH:Go.Sort.HoldsK enc T.size w b 0 d:=by
   intro j V;rw[Go.Sort.size_flatK,M]at V;have b4:j<k.flatten.length:=by omega
   constructor
   ·have J:(Go.Sort.flatK enc T.size d)[j]! =k.flatten[j]:=by
     rw[getElem!_pos _ j (by rw[Go.Sort.size_flatK,M];exact V)];have X:(Go.Sort.flatK enc T.size d).toList[j]'(by rw[Q];exact b4)=k.flatten[j]:=by simp only[Q]
     simpa using X
    rw[J];have h4:cells[j]? =Ua k.flatten[j]:=by rw[<-Vb,e5,Vr b4,Va b4]
    simp only[Vra,hh,Voa,Vka,Vx,if_false,h4,id]
   ·simp [Via,hh]
  have d0:CmpLays P g #[] enc T.size cf b 0 d.size w:=by
   intro m os dk h8 p q;obtain⟨c,c8,_⟩:=c7 p q;have b8:∀A,I A->(sortWorldK enc T.size w b 0 m dk os).heap[A]? =w.heap[A]? :=by intro A l;have F:A≠b:=λh=>U.1 (h▸l);have D:=hI A l;unfold sortWorldK Go.Sort.putRowK Go.Sort.putRow Go.Sort.mapBlock Go.Sort.grow;simp only;rw[Vf (by simp;exact D),Vh,Zg (Ne.symm F)];rfl
   have a1:Kq I w (sortWorldK enc T.size w b 0 m dk os):=λA l=>b8 A l;have a8:w.heap.size<=(sortWorldK enc T.size w b 0 m dk os).heap.size:=size_sortWorldK_c enc T.size w b 0 m dk os;have:=ZrW hT hg (w:=sortWorldK enc T.size w b 0 m dk os) (I:=I) (λA l=>by have:=hI A l;omega) (Rd.mono a1 (λ_ h=>h) _ _ _ (R p.1 p.2)) (Rd.mono a1 (λ_ h=>h) _ _ _ (R q.1 q.2)) c8;have e6:cf p q=c:=by show (cmp p.1.1 q.1.1).getD 0=c;rw[c8];rfl
   rw[e6];exact this
  have a5:=AnyQ.slices_SortFunc L T.size aE zE enc hk W cf hO g #[] b 0 cap d w (ZiT hg · ·) d0 hH a3 (by rw[M];omega);rw[M]at a5;refine a5.mono ?_;rintro ex w' ⟨rfl,s,n,os,hp,hs,rfl⟩;have a6:s.size=x.1.length:=hp.1.trans M;have Z:s.toList.Perm d.toList:=by
   have J:=hp.2.2;rw[<-M]at J;have e1:d.extract 0 d.size=d:=by simp
   have e2:s.extract 0 d.size=s:=by rw[<-hp.1];simp
   rw[e1,e2]at J;exact J
  have d7:(s.toList.map λp=>p.1.1).Perm z:=by
   refine(Z.map _).trans ?_;rw[b1];have:(x.1.zip k).attach.map (λp:α=>p.1.1)=((x.1.zip k).attach.map Subtype.val).map Prod.fst:=by rw[Vma];rfl
   rw[this,Vw,C];exact o.symm
  have g4:(s.toList.map λp=>p.1.1)=z:=by
   refine List.Perm.eq_of_pairwise (le:=λa c=>¬((cmp c a).getD 0<0)) (λa c ha hc X h4=>?_) ?_ ?_ d7
   ·have a9:=d7.mem_iff.1 ha;obtain⟨c1,e1,f1⟩:=a0 a a9 c hc;obtain⟨c2,e2,f2⟩:=a0 c hc a a9;rw[e2]at X;rw[e1]at h4;refine d2 a a9 c hc ?_;simp only[Option.getD_some]at X h4;omega
   ·rw[List.pairwise_map,Vj];intro i j hi V b3;have h5:j<s.size:=by simpa using V
    have:=hs i j (Vaa _) b3 (by omega);have f3:i<s.size:=by simpa using hi
    have f4:j<s.size:=by simpa using V
    rw[getElem!_pos s j f4,getElem!_pos s i f3]at this;have h6:¬cf s[j] s[i]<0:=of_decide_eq_false this;simpa using h6
   ·rw[Vj];intro i j hi V b3;obtain⟨c2,e2,f2⟩:=a0 _ (Vl V) _ (Vl hi);have h7:=Vj.1 d8 i j hi V b3;rw[e2];show¬c2<0;omega
  have O:=Zlj (w:=w) (I:=I) (T:=T) (f:=λp:α=>p.1.1) (e:=enc) (λp=>R p.1 p.2) s.toList;rw[g4]at O;have N:Kq I w (sortWorldK enc T.size w b 0 n s os):=by intro A l;have F:A≠b:=λh=>U.1 (h▸l);have D:=hI A l;unfold sortWorldK Go.Sort.putRowK Go.Sort.putRow Go.Sort.mapBlock Go.Sort.grow;simp only;rw[Vf (by simp;exact D),Vh,Zg (Ne.symm F)];rfl
  have a8:w.heap.size<=(sortWorldK enc T.size w b 0 n s os).heap.size:=size_sortWorldK_c enc T.size w b 0 n s os;have Y:∀A,A<w.heap.size->A ∉ [b]->(sortWorldK enc T.size w b 0 n s os).heap[A]? =w.heap[A]? :=by
   intro A D l;have F:A≠b:=by simpa using l
   unfold sortWorldK Go.Sort.putRowK Go.Sort.putRow Go.Sort.mapBlock Go.Sort.grow;simp only;rw[Vf (by simp;exact D),Vh,Zg (Ne.symm F)];rfl
  have b0:(sortWorldK enc T.size w b 0 n s os).heap[b]? =Ua (.cells (Go.Sort.putCells id 0 (Go.Sort.flatK enc T.size s) cells) e (0,0)):=by unfold sortWorldK Go.Sort.putRowK Go.Sort.putRow Go.Sort.mapBlock Go.Sort.grow;simp only;rw[Vf (by simp;exact a3),Vh,Zn rfl];show (w.heap[b]?).map _=_;rw[hh];rfl
  have d9:z.length=x.1.length:=o.length_eq;have K:(Go.Sort.flatK enc T.size s).toList=(s.toList.map enc).flatten:=Zls hk s;have g6:(s.toList.map enc).flatten.length=x.1.length*T.size:=by rw[<-K,Vja,Go.Sort.size_flatK,a6]
  have d6:(s.toList.map enc).flatten<+:(Go.Sort.putCells id 0 (Go.Sort.flatK enc T.size s) cells).toList:=by
   have g5:x.1.length*T.size<=cells.size:=Nat.le_trans (Nat.mul_le_mul_right _ a4) c4;rw[Vea];apply Vba;intro t;rw[Vy];by_cases ht:t<x.1.length*T.size
   ·rw[Zn (by omega)];have g2:t<cells.size:=by omega
    have c5:t<(Go.Sort.flatK enc T.size s).size:=by rw[Go.Sort.size_flatK,a6];exact ht
    have hR:(Go.Sort.putCells id 0 (Go.Sort.flatK enc T.size s) cells)[t]? =Ua (Go.Sort.flatK enc T.size s)[t]! :=by unfold Go.Sort.putCells;rw[Vha,Vg g2];simp only[Option.map_some,Vaa,Voa,true_and,c5,if_true,Nat.sub_zero,id]
    rw[<-Vb]at hR;rw[hR,getElem!_pos _ t c5,<-K];rw[Vb,Vg c5]
   ·rw[Zg (by omega),Vn (by omega)]
  refine⟨_,rfl,back rfl (.inr ⟨b,cap,_,e,s.toList.map enc,rfl,by rw[d9];simp [Vm],b0,by rw[d9];exact a4,by unfold Go.Sort.putCells;simpa using c4,O.mono λy c hy=>Rd.mono N (λ_ h=>h) T y c hy,d6⟩) (λA l=>by have:=hI A l;omega) rfl rfl ⟨rfl,?_⟩ a8 Y⟩;show w.drawn<=w.drawn+n;omega
theorem sortFunc_ok{T:Ty}{g:FuncId}{cmp:El T->El T->Option Int}(L:SlLaysF0.n6 P ρ)(i:T.agg=Uc)(b:∀w,(isAgg (ρ.t 24)).run P w=.ok Uc w)(k:∀w,(Go.sizeOf (ρ.t 24)).run P w=.ok T.size w)(j:ZT P g (ZeE T cmp))(a:Nat.blt g WQ=true:=by rfl):
 ZT P (ρ.f 6) (ZwE T g cmp):=Zn9 (cmp:=cmp) (λ_ _ h=>by obtain⟨c,d,e⟩:=Zoa h;exact⟨c,d,Zol e⟩) L i b k j a
theorem sortFuncX_ok{T:Ty}{g:FuncId}{cmp:El T->El T->Option Int}(L:SlLaysF0.n6 P ρ)(c:T.agg=Uc)(b:∀w,(isAgg (ρ.t 24)).run P w=.ok Uc w)(e:∀w,(Go.sizeOf (ρ.t 24)).run P w=.ok T.size w)(d:ZT P g (ZeE T cmp))(a:Nat.blt g WQ=true:=by rfl):
 ZT P (ρ.f 6) (ZwF T g cmp):=Zn9 (cmp:=cmp) (λ_ _ h=>ZwG h) L c b e d a
end
end Tr
end
section
namespace Tr
open Go Go.Proofs Go.Shelf
def ZaG(x:Int):List Int->List Int
 |[]=>[x]
 |y::l=>bif Ue (x<=y) then x::y::l else y::ZaG x l
def Yw:List Int->List Int
 |[]=>[]
 |x::l=>ZaG x (Yw l)
def sortI(l:List Int):Option (List Int):=bif Ue (l.length<4294967296) then Ua (Yw l) else Ub
def YR(x:Int):List Int->List Int
 |[]=>[]
 |y::l=>bif Ue (y=x) then YR x l else y::YR y l
def Jt:List Int->List Int
 |[]=>[]
 |x::l=>x::YR x l
def compactI(l:List Int):Option (List Int):=bif Ue (l.length<4294967296) then Ua (Jt l) else Ub
theorem ZhX(x:Int):∀l,(ZaG x l).Perm (x::l)
 |[]=>.refl _
 |y::l=>by
  simp only[ZaG]
  cases Ue (x<=y) with
  |true=>exact .refl _
  |false=>exact((ZhX x l).cons y).trans (.swap _ _ _)
theorem ZbO:∀l,(Yw l).Perm l
 |[]=>.refl _
 |x::l=>(ZhX x _).trans ((ZbO l).cons x)
theorem ZlM(x:Int):∀{l:List Int},l.Pairwise (· <= ·)->(ZaG x l).Pairwise (· <= ·)
 |[],_=>by simp [ZaG]
 |y::l,h=>by
  simp only[ZaG];obtain⟨c,d⟩:=Vd.1 h;by_cases a:x<=y
  ·rw[Zi a];refine Vd.2 ⟨λz b=>?_,h⟩;rcases Vp.1 b with rfl|b
   ·exact a
   ·exact Int.le_trans a (c z b)
  ·rw[Zt a];refine Vd.2 ⟨λz b=>?_,ZlM x d⟩;rcases Vp.1 ((ZhX x l).mem_iff.1 b) with rfl|b
   ·omega
   ·exact c z b
theorem ZlS:∀l,(Yw l).Pairwise (· <= ·)
 |[]=>.nil
 |x::l=>ZlM x (ZlS l)
theorem ZtK(l:List Int):(l.mergeSort λx y=>Ue (x<=y))=Yw l:=by refine List.Perm.eq_of_pairwise (le:=λa b=>a<=b) (λa b _ _ d e=>Int.le_antisymm d e) ?_ (ZlS l) ((List.mergeSort_perm l _).trans (ZbO l).symm);have:=List.pairwise_mergeSort (le:=λx y:Int=>Ue (x<=y)) (λa b c d e=>by simp at*;omega) (λa b=>by simp;omega) l;exact this.imp λh=>by simpa using h
theorem Zhi(y:Int):∀(l:List Int) (x:Int),YR x (l++[y])=YR x l++if y=(l.getLast?).getD x then [] else [y]
 |[],x=>by
  simp only[List.nil_append,YR];by_cases h:y=x
  ·rw[Zi h];simp [h]
  ·rw[Zt h];simp [h]
 |z::l,x=>by
  simp only[Vsa,YR];have e:∀a,((z::l).getLast?).getD a=(l.getLast?).getD z:=λa=>by rw[Vla];rfl
  by_cases h:z=x
  ·rw[Zi h];simp only[Zd];rw[Zhi y l x,e,h]
  ·rw[Zt h];simp only[Ze];rw[Zhi y l z,e];simp
theorem ZrZ(y:Int)(l:List Int):Jt (l++[y])=Jt l++if l.getLast? =Ua y then [] else [y]:=by
 cases l with
 |nil=>simp [Jt,YR]
 |cons x l=>
  simp only[Vsa,Jt,Zhi];rw[Vla];by_cases h:y=(l.getLast?).getD x
  ·rw[Zn h,Zn (by rw[h])]
  ·rw[Zg h,Zg (λa=>h (by simpa using a.symm))]
theorem Zr0(l:List Int):Go.Lib.compact l=Jt l:=by
 have:∀m,m<=l.length->Go.Lib.compactUpTo l.toArray m=Jt (l.take m):=by
  intro m
  induction m with
  |zero=>intro _;rfl
  |succ m i=>
   intro g;have a:m<l.length:=g;have b:l.toArray[m]! =l[m]:=by simp [a]
   have d:l.take (m+1)=l.take m++[l[m]]:=by rw[List.take_add_one,Va a];rfl
   rw[d,ZrZ,<-i (by omega)];unfold Go.Lib.compactUpTo;rw[List.range_succ,List.filter_append,Vua];congr 1
   cases m with
   |zero=>simp [Go.Lib.keeps,a]
   |succ m=>
    have c:l.toArray[m]! =l[m]:=by simp [show m<l.length by omega]
    have e:(l.take (m+1)).getLast?=Ua l[m]:=by rw[List.getLast?_eq_getElem?,List.length_take,Nat.min_eq_left (by omega),Vy,Zn (by omega),Vz,Va (by omega)]
    rw[e];by_cases h:l[m+1]=l[m]
    ·rw[Zn (by rw[h]),List.filter_cons_of_neg (by simp only[Go.Lib.keeps,Vz,b,c];simp [h])];rfl
    ·rw[Zg (λf=>h (by simpa using f.symm)),List.filter_cons_of_pos (by simp only[Go.Lib.keeps,Vz,b,c];simp [h])];simp [a]
 have h:=this l.length (Vk _);rw[List.take_length]at h;exact h
theorem Zhg:∀(l:List Int) (x:Int),(YR x l).length<=l.length
 |[],_=>Vk _
 |y::l,x=>by
  simp only[YR]
  cases Ue (y=x) with
  |true=>have:=Zhg l x;simp only[Zd,Vda];omega
  |false=>have:=Zhg l y;simp only[Ze,Vda];omega
theorem ZkP(l:List Int):(Jt l).length<=l.length:=by
 cases l with
 |nil=>exact Vk _
 |cons x l=>simp only[Jt,Vda];have:=Zhg l x;omega
abbrev Rv:Ty:=.int .i64
def ZiX:Spec:={args:=.cons (.own Rv Uc) .nil,res:=.nil,fns:=[],α:=List Int,f:=λx=>sortI x.1,unp:=λz=>((z,()),())}
def Zhj:Spec:={args:=.cons (.own Rv Ud) .nil,res:=.cons (.own Rv Ud) .nil,fns:=[],α:=List Int,f:=λx=>compactI x.1,unp:=λz=>(((),()),(z,()))}
theorem ZhI{w:World}{I:Nat->Prop}:∀{xs:List Int}{css:List (List Value)},Fa (Rd w I Rv) xs css->css=xs.map λx=>[.int .i64 x]
 |[],[],_=>rfl
 |x::xs,c::css,⟨b,a⟩=>by rw[ZhI a,Vxa];congr 1
theorem ZhY{w:World}{I:Nat->Prop}:∀xs:List Int,Fa (Rd w I Rv) xs (xs.map λx=>[Vi .i64 x])
 |[]=>trivial
 |_::xs=>⟨rfl,ZhY xs⟩
theorem ZeY(xs:List Int):(xs.map λx=>[Vi .i64 x]).flatten=xs.map (Vi .i64):=by
 induction xs with
 |nil=>rfl
 |cons x xs a=>simp [a]
theorem ZlD{w:World}{b:Nat}{cells:Array Value}{e:TypeId}{xs:List Int}(c:w.heap[b]? =Ua (.cells cells e (0,0)))(g:xs.map (Vi .i64)<+:cells.toList):Go.Sort.Holds (Vi .i64) w b 0 xs.toArray:=by
 intro j f;have a:j<xs.length:=by simpa using f
 constructor
 ·have d:cells[j]? =Ua (Vi .i64 xs[j]):=by obtain⟨r,h⟩:=g;rw[<-Vb,<-h,Vr (by simpa using a),Vca,Va a];rfl
  simp only[Vra,c,Voa,Vka,Vx,if_false,d];simp [a]
 ·simp [Via,c]
theorem Znj{cells:Array Value}{a:List Int}(h:a.length<=cells.size):a.map (Vi .i64)<+:(Go.Sort.putCells (Vi .i64) 0 a.toArray cells).toList:=by
 rw[Vea];apply Vba;intro t;rw[Vy];by_cases b:t<a.length
 ·rw[Zn (by simpa using b)];have c:(Go.Sort.putCells (Vi .i64) 0 a.toArray cells)[t]? =Ua (Vi .i64 a[t]):=by unfold Go.Sort.putCells;rw[Vha,Vg (by omega)];simp [b]
  rw[<-Vb]at c;rw[c,Vca,Va b];rfl
 ·rw[Zg (by simpa using b),Vn (by simp;omega)]
theorem ZlB{w:World}{enc:Int->Value}{b n:Nat}{d:Array Int}{os:Array Obj}{a:Nat}(h:a<w.heap.size)(c:a≠b):(Go.Sort.grow (Go.Sort.putRow enc (Go.Sort.ahead w n) b 0 d) os).heap[a]? =w.heap[a]? :=by unfold Go.Sort.putRow Go.Sort.mapBlock Go.Sort.grow Go.Sort.ahead;simp only;rw[Vf (by simp;exact h),Vh,Zg (Ne.symm c)]
theorem ZlC{w:World}{enc:Int->Value}{b n:Nat}{d:Array Int}{os:Array Obj}{cells:Array Value}{e:TypeId}(h:b<w.heap.size)(a:w.heap[b]? =Ua (.cells cells e (0,0))):(Go.Sort.grow (Go.Sort.putRow enc (Go.Sort.ahead w n) b 0 d) os).heap[b]? =Ua (.cells (Go.Sort.putCells enc 0 d cells) e (0,0)):=by unfold Go.Sort.putRow Go.Sort.mapBlock Go.Sort.grow Go.Sort.ahead;simp only;rw[Vf (by simp;exact h),Vh,Zn rfl];show (w.heap[b]?).map _=_;rw[a];rfl
section
variable {P:Program}{ρ:Ren}
theorem sortInt_ok (L:Lays.n189 P ρ) (hf:∃fn,P.funcs[ρ.f 189]? =some fn∧fn.body.isNone=false∧(fn.name== "runtime.NumGoroutine")=false):ZT P (ρ.f 189) ZiX where
 wf:=rfl
 fn:=hf
 run:=by
  intro w I Y js x (z:List Int) K G c V _ k;obtain⟨m,j2,v,r,rfl,rfl,⟨J,t⟩,rfl,rfl⟩:=K;have j:Kd v=false:=t.resolve_left λh=>by cases h
  have Q:x.1.length<4294967296/\Yw x.1=z:=by
   have k:sortI x.1=Ua z:=k;unfold sortI at k
   cases A:Ue (x.1.length<4294967296) with
   |false=>rw[A]at k;simp at k
   |true=>rw[A]at k;simp only[Zd,ZL]at k;exact⟨Xy A,k⟩
  obtain⟨X,rfl⟩:=Q;have l:=ZbO x.1;have back:∀{g:World}{S:Value},S=.tuple #[]->PC g I (.own Rv Uc) (Yw x.1) m v.cells.toList->(∀b,I b->b<g.heap.size)->g.os=w.os->g.tape=w.tape->YF g w->w.heap.size<=g.heap.size->(∀b,b<w.heap.size->b ∉ m->g.heap[b]? =w.heap[b]?)->
   DT ZiX w I (m++[]) [v] (ZiX.unp (Yw x.1)) S g:=by
   intro g S M p s h1 h2 U h4 h5;refine⟨I,m++[],[],⟨m,[],_,_,rfl,rfl,p,rfl⟩,⟨[],⟨rfl,rfl⟩,M⟩,by simpa using G,λb i=>?_,λ_ h=>h,λb i=>⟨s b i,.inl i⟩,h1,h2,⟨U.out,λ_=>U.drawn⟩,h4,λb i hj=>h5 b i (by simpa using hj)⟩;have a:b∈m++[]:=by simpa using i
   exact⟨(c b (by simpa using a)).1,by have:=(c b (by simpa using a)).2;omega,.inl (by simpa using a)⟩
  rcases J with ⟨rfl,hx,y⟩|⟨b,cap,cells,e,Z,rfl,y,W,o,N,C,d⟩
  ·have O:v=.slice Ub 0 0:=KY y j;have R:Yw x.1=[]:=by rw[hx];rfl
   subst O;refine(Any.slices_Sort_int_none L Ub 0 w).mono ?_;rintro e g ⟨rfl,rfl⟩;exact⟨_,rfl,back rfl (.inl ⟨rfl,R,rfl⟩) V rfl rfl .rfl (Vk _) λ_ _ _=>rfl⟩
  have O:v=.slice (Ua ⟨b,0,Ub⟩) x.1.length cap:=KY y j;subst O;have i:=c b (by simp);rw[ZhI C,ZeY]at d;have q:x.1.length<=cells.size:=by have:=d.length_le;simpa using this
  refine(Any.slices_Sort_int L b 0 cap x.1 w (ZlD W d) i.2 (by omega)).mono ?_;rintro ex g ⟨rfl,n,os,rfl⟩;rw[ZtK];have D:(Yw x.1).length=x.1.length:=l.length_eq;refine⟨_,rfl,back rfl (.inr ⟨b,cap,_,e,_,rfl,by rw[D];simp [Vm],ZlC i.2 W,by rw[D];exact o,by unfold Go.Sort.putCells;simpa using N,ZhY _,by rw[ZeY];exact Znj (by rw[D];exact q)⟩) (λT a=>?_) rfl rfl ⟨rfl,?_⟩ ?_ λT F a=>ZlB F (by simpa using a)⟩
  ·have:=V T a;unfold Go.Sort.putRow Go.Sort.mapBlock Go.Sort.grow Go.Sort.ahead;simp;omega
  ·show w.drawn<=w.drawn+n;omega
  ·unfold Go.Sort.putRow Go.Sort.mapBlock Go.Sort.grow Go.Sort.ahead;simp
theorem compactInt_ok (L:Lays2.n20 P ρ) (hf:∃fn,P.funcs[ρ.f 20]? =some fn∧fn.body.isNone=false∧(fn.name== "runtime.NumGoroutine")=false):ZT P (ρ.f 20) Zhj where
 wf:=rfl
 fn:=hf
 run:=by
  intro w I W js x (z:List Int) G F c T _ l;obtain⟨q,j2,v,r,rfl,rfl,⟨m,t⟩,rfl,rfl⟩:=G;have j:Kd v=false:=t.resolve_left λh=>by cases h
  have N:x.1.length<4294967296/\Jt x.1=z:=by
   have l:compactI x.1=Ua z:=l;unfold compactI at l
   cases A:Ue (x.1.length<4294967296) with
   |false=>rw[A]at l;simp at l
   |true=>rw[A]at l;simp only[Zd,ZL]at l;exact⟨Xy A,l⟩
  obtain⟨V,rfl⟩:=N;have a0:=ZkP x.1;have back:∀{i:World}{Q:Value},RV i I (.cons (.own Rv Ud) .nil) (Jt x.1,()) q Q->(∀b,I b->b<i.heap.size)->i.os=w.os->i.tape=w.tape->YF i w->w.heap.size<=i.heap.size->(∀b,b<w.heap.size->b ∉ q->i.heap[b]? =w.heap[b]?)->
   DT Zhj w I (q++[]) [v] (Zhj.unp (Jt x.1)) Q i:=by
   intro i Q J s Y Z S h4 h5;refine⟨I,[],q,⟨[],[],_,_,rfl,rfl,rfl,rfl⟩,J,by simpa using F,λb k=>?_,λ_ h=>h,λb k=>⟨s b k,.inl k⟩,Y,Z,⟨S.out,λ_=>S.drawn⟩,h4,λb k hj=>h5 b k (by simpa using hj)⟩;have a:b∈q++[]:=by simpa using k
   exact⟨(c b a).1,by have:=(c b a).2;omega,.inl a⟩
  rcases m with ⟨rfl,hx,y⟩|⟨b,cap,cells,e,X,rfl,y,U,o,K,C,g⟩
  ·have M:v=.slice Ub 0 0:=KY y j;subst M;refine(Any.slices_Compact_int_empty L Ub 0 w).mono ?_;rintro e i ⟨rfl,rfl⟩;have O:Jt x.1=[]:=by rw[hx];rfl
   exact⟨_,rfl,back ⟨[.slice Ub 0 0],⟨[],[],_,_,rfl,rfl,⟨.inl ⟨rfl,O,rfl⟩,.inr rfl⟩,rfl,rfl⟩,rfl⟩ T rfl rfl .rfl (Vk _) λ_ _ _=>rfl⟩
  have M:v=.slice (Ua ⟨b,0,Ub⟩) x.1.length cap:=KY y j;subst M;have k:=c b (by simp);rw[ZhI C,ZeY]at g;have p:x.1.length<=cells.size:=by have:=g.length_le;simpa using this
  refine(Any.slices_Compact_int L b 0 cap x.1 w (ZlD U g) (by omega) o).mono ?_;rintro ex i ⟨rfl,n,rfl⟩;rw[Zr0];have hl:(Jt x.1++Vwa (x.1.length - (Jt x.1).length) (0:Int)).length=x.1.length:=by simp;omega
  have e0:∀d:Array Int,Go.Sort.putRow (Vi .i64) (Go.Sort.ahead w n) b 0 d=Go.Sort.grow (Go.Sort.putRow (Vi .i64) (Go.Sort.ahead w n) b 0 d) #[]:=λd=>by generalize Go.Sort.putRow (Vi .i64) (Go.Sort.ahead w n) b 0 d=w2;cases w2;simp [Go.Sort.grow]
  rw[e0];have m:PC (Go.Sort.grow (Go.Sort.putRow (Vi .i64) (Go.Sort.ahead w n) b 0 (Jt x.1++Vwa (x.1.length - (Jt x.1).length) (0:Int)).toArray) #[]) I (.own Rv Ud) (Jt x.1) [b] [.slice (Ua ⟨b,0,Ub⟩) (Jt x.1).length cap]:=
   .inr ⟨b,cap,_,e,_,rfl,rfl,ZlC k.2 U,by omega,by unfold Go.Sort.putCells;simpa using K,ZhY _,by rw[ZeY];exact(by rw[Vua];exact List.prefix_append _ _:List.map (Vi .i64) (Jt x.1)<+:_).trans (Znj (by rw[hl];exact p))⟩
  refine⟨_,rfl,back ⟨[.slice (Ua ⟨b,0,Ub⟩) (Jt x.1).length cap],⟨[b],[],_,_,rfl,rfl,⟨m,.inr rfl⟩,rfl,rfl⟩,rfl⟩ (λR a=>?_) rfl rfl ⟨rfl,?_⟩ ?_ λR D a=>ZlB D (by simpa using a)⟩
  ·have:=T R a;unfold Go.Sort.putRow Go.Sort.mapBlock Go.Sort.grow Go.Sort.ahead;simp;omega
  ·show w.drawn<=w.drawn+n;omega
  ·unfold Go.Sort.putRow Go.Sort.mapBlock Go.Sort.grow Go.Sort.ahead;simp
end
end Tr
end
section
namespace Tr
open Go Go.Proofs Go.Shelf
section
variable {P:Program}{ρ:Ren}
end
end Tr
end
section
namespace Q
open Tr Go
theorem KP{σ τ:Type}{step:σ->Option (σ ⊕ τ)}(n:Nat)(P:τ->Prop)(Inv:Nat->σ->Prop)
 (a:∀i s,i<n->Inv i s->(∃s',step s=Ua (.inl s')/\Inv (i+1) s')\/∃r,step s=Ua (.inr r)/\P r)
 (c:∀s,Inv n s->∃r,step s=Ua (.inr r)/\P r) (s:σ) (h:Inv 0 s):∃r,run step s=Ua r/\P r:=by
 have key:∀(k i:Nat) (s:σ),n - i=k->i<=n->Inv i s->∃r,run step s=Ua r/\P r:=by
  intro k
  induction k with
  |zero=>
   intro i s g f e;have:i=n:=by omega
   subst this;obtain⟨r,b,d⟩:=c s e
   exact⟨r,Y0 b,d⟩
  |succ k j=>
   intro i s g f e;rcases a i s (by omega) e with ⟨s',b,d⟩|⟨r,b,d⟩
   ·rw[H4 b];grind
   ·exact⟨r,Y0 b,d⟩
 grind
theorem Wj{α β:Type}{o:Option α}{f:α->Option β}{z:Option β}(P:α->Prop)(h:∃r,o=Ua r/\P r)(k:∀r,P r->f r=z):Vga o f=z:=by grind
theorem ZcG{α β γ:Type}{o:Option α}{f:α->Option (β ⊕ γ)}{Q:β->Prop}(P:α->Prop)(h:∃r,o=Ua r/\P r)(k:∀r,P r->∃s,f r=Ua (.inl s)/\Q s):∃s,Vga o f=Ua (.inl s)/\Q s:=by grind
end Q
end
section
namespace Tr
open Go
section
variable {P:Program}{E:Z9}
theorem Zk7(hT:Z4 P E)(hS:∀f,∀S∈E.specs f,ZT P f S)(hI:∀B:Z1,(B.pl=Ud->Ga P B.w0 B.own0)->(B.pl=Uc->∀f,∀T∈E.specs f,T.pl=Uc)->∀f h,E.inl f=Ua h->ZdW P B E.stp f h){f:FuncId}{fn:Func}{body:Code}(hf:P.funcs[f]? =Ua fn)(l:fn.body=Ua body)(c5:E.nt=fn.ntmps)
 {S:Spec} (b6:S.args.wf=Uc) (W:Nat.ble S.args.len E.nt=Uc) {pack:Wi S.args×Kw S.res->S.α} (b2:∀y,S.unp (pack y)=y) (a0:S.pl=Uc->∀f,∀T∈E.specs f,T.pl=Uc)
 (J:∀x z,S.f x=Ua z->∀{B:Z1}{w:World}{g:Gh}{ow:Nat->Nat->Prop}{a:Act},JI P {E with ks:=XR S.args 0} B->SR {E with ks:=XR S.args 0} B ⟨(Kb S.args x 0).1.toF,WM (Kb S.args x 0).2.1,(Kb S.args x 0).2.2,[]⟩ w g ow a->body.wp P (Wz {E with ks:=XR S.args 0} B ⟨(Kb S.args x 0).1.toF,WM (Kb S.args x 0).2.1,(Kb S.args x 0).2.2,[]⟩ w g a (λe s=>(Ys E fn.results S.args S.res [] e s).bind λy=>bif G1 (XR S.args 0) (Kb S.args x 0).1 (WM (Kb S.args x 0).2.1) s S.kp then Ua (pack y) else Ub) z) a w):Zba P f S:=by
 intro w I c js x z O a7 c2 a4 amb hz;have c8:=Zgt O;have c4:=Nat.le_of_ble_eq_true W;refine calls_of_wp hf l ?_;have J:= @J x z hz
 let B:Z1:={w0:=w,own0:=(· ∈js),I0:=I,pl:=S.pl}
 let g0:Gh:={I:=I,K:=λ_=>False,ty:=λ_=>.unit,blk:=λ_=>Ub,slv:=λ_=>undef,ver:=λ_=>0,row:=λ_ _ _=>undef}
 have a5:RH B (λ_=>Ub) w g0 (λ_ _=>False):={
  objs:=by simp
  dist:=by simp
  sep:=by simp
  ilt:=a4
  inew:=by grind
  os:=rfl
  tape:=rfl
  output:=.rfl
  size:=Vk _
  kept:=(by grind)}
 have L:W5 B (λ_=>Ub) w g0 (λ_ _=>False) js:=⟨a7,by grind⟩;obtain⟨g1,b7,l1,i1,r1,c1,k1,_⟩:=Ze9 S.args a5 x js c 0 O L (by grind);have b9:WM (Kb S.args x 0).2.1=Zs (λ_=>Ub) (Wh (Kb S.args x 0).2.1):=by funext id;rw[Zdd _ _ _ (Zc9 _ _ _)];grind
 have hs:SR {E with ks:=XR S.args 0} B ⟨(Kb S.args x 0).1.toF,WM (Kb S.args x 0).2.1,(Kb S.args x 0).2.2,[]⟩ w g1 b7 {tmps:=c.toArray++Vfa (fn.ntmps - c.toArray.size) undef,defers:=[] }:={
  rh:=by grind
  fr:=λt=>by have:=ZfZ c1 (fn.ntmps - c.length) t;simpa [Vo,List.getD_eq_getElem?_getD,<-Vb] using this
  nt:=by grind
  df:=rfl
  ids:=by grind
  fz:=(by simp)}
 refine wp_mono (J (B:=B) ⟨hS,amb,a0,hI B amb a0⟩ hs) ?_;rintro e a' w' ⟨ex,D,g',m,rfl,d,p,M⟩;rw[Vc]at M;obtain⟨y,hy,a3⟩:=M
 cases V:G1 (XR S.args 0) (Kb S.args x 0).1 (WM (Kb S.args x 0).2.1) D S.kp with
 |false=>grind
 |true=>
 rw[V]at a3;simp only[Zd,ZL]at a3;have a8:DY S.kp c w w' :=Zh6 hs.rh d.rh c1 p.lk.le (λk M v hv=>by
  have G:=d.fr k;rw[p.lk.ks k M]at G;have r:(c.toArray++Vfa (fn.ntmps - c.toArray.size) undef).getD k undef=v:=by obtain⟨a9,_⟩:=Vq.1 hv;simp only[Vo,<-Vb];grind
  grind) S.kp V
 have key:∀(j:Ys E fn.results S.args S.res [] .normal D=Ua y),a'.defers=[]/\∃v,(results fn a'.tmps).run P w' =.ok v w' /\∃rv,Ending.returned v=.returned rv/\DT S w I js c (S.unp z) rv w' /\DY S.kp c w w' :=by
  intro j;refine⟨d.df,?_⟩;simp only[Ys,Zy.runK_eq]at j;rw[Vc]at j;obtain⟨⟨⟨yv,ids⟩,rd⟩,C,j⟩:=j;simp only[Z2,Zj,Prod.mk.injEq]at C;obtain⟨vs,m1,a2,⟨xr,o⟩,m2,U,⟨yo,io⟩,m3,Z,⟨rfl,rfl⟩,_⟩:=C;simp only at j
  cases hc:((ZE.app io o).ok [] &&J7 (ZE.app io o).br []) with
  |false=>grind
  |true=>
   rw[hc]at j;simp only[Zd,ZL]at j;subst j;simp only[Ve]at hc;obtain⟨b0,b8,_⟩:=ZE.ok_iff hc.1;have X:(io.tk++o.tk).Nodup:=b0;obtain⟨n1,n2,n3⟩:=Vqa.1 X;obtain⟨q,b3,b4⟩:=Zdu hT d.rh d.fr fn.results.toList vs [] m1 a2;have Q:∀b,g'.I b->g'.I b\/ZP D.H m (ZE.app io o).br b:=by grind
   have R:∀(i:ZE),(∀n∈i.br,n∈(ZE.app io o).br)->∀b,ZP D.H m i.br b->g'.I b\/ZP D.H m (ZE.app io o).br b:=λi hi b l=>.inr (Ww hi l);obtain⟨jr,c7,b5,a1⟩:=ZhC d.rh Q S.res vs q xr o m1 m2 U b4 (R o λn N=>by simp [ZE.app,N]) n2;obtain⟨jo,c6,b1,Y⟩:=Zfv (F:=D.F) d.rh Q (w0:=w) (I0:=I) S.args 0 c x js yo io m2 m3 Z b6 O (λk v M hv=>by
    rw[Vt]at M⊢;have G:=d.fr k;rw[p.lk.ks k M]at G;have a9:k<c.length:=by grind
    have r:(c.toArray++Vfa (fn.ntmps - c.toArray.size) undef).getD k undef=v:=by simp only[Vo,<-Vb];grind
    grind) (R io λn N=>by simp [ZE.app,N]) n1
   refine⟨Rp q,ZiV b3,Rp q,rfl,⟨(λb=>g'.I b\/ZP D.H m (ZE.app io o).br b),jo,jr,?_,⟨q,?_,rfl⟩,?_,?_,?_,?_,d.rh.os,d.rh.tape,d.rh.output,d.rh.size,λb G r=>d.rh.kept b G r⟩,a8⟩
   ·grind
   ·grind
   ·refine Vqa.2 ⟨b1,b5,λb l b' a6 e=>?_⟩;subst e;obtain⟨id,G,r⟩:=Ht d.rh (Y b l) (a1 b a6);grind
   ·intro b l;have A:ZP D.H m (ZE.app io o).tk b:=by
     rcases List.mem_append.1 l with h|h
     ·exact Ww (λn N=>by simp [ZE.app,N]) (Y b h)
     ·exact Ww (λn N=>by simp [ZE.app,N]) (a1 b h)
    obtain⟨id,G,r,h3⟩:=id A;obtain⟨h4,h5,h6⟩:=d.rh.sep id b r h3;refine⟨λh=>?_,h5,h6⟩;rcases h with h|h
    ·grind
    ·obtain⟨k,h7,h8⟩:=Ht d.rh h A;grind
   ·intro b l;refine .inl (p.lk.le.I b ?_);rw[i1.I];omega
   ·intro b l;rcases l with l|⟨id,_,r,h3⟩
    ·refine⟨d.rh.ilt b l,?_⟩;rcases d.rh.inew b l with h|h|h
     all_goals grind
    ·obtain⟨_,h5,h6⟩:=d.rh.sep id b r h3;grind
 cases ex with
 |normal=>exact key hy
 |exit id=>simp [Ys]at hy
 |jump id=>simp [Ys]at hy
 |ret=>exact key (by assumption)
end
end Tr
end
