/- From the reading of the arguments in the form of the claims to data of the machine. Conditions: the types are data. -/
import Derived.OpenShut
import Derived.Carry
import Derived.ProofKit
import Derived.Lay
import Derived.LaidLaws
import Derived.SevenTiedAt
import Derived.Stop.LaidErr
import Derived.MakeChecks
import Derived.Shelf.SlSortCmp.NoneTotal
import Derived.Shelf.Sort.Plain
import Derived.Shelf.Slices.CompactI
import Derived.Shelf.Slices.In.SortNone
import Derived.Test.YtbjejlpejjnpnaaGreatETsC
open Array renaming getElem?_append_left ->Va,getElem?_toList ->Vc,getElem?_modify ->Vd,getElem?_eq_getElem ->Vf,getElem?_mapIdx ->Vx,length_toList ->Vca
open Bool renaming and_eq_true ->Vh,false_eq_true ->Vs
open Go.IntKind renaming wrap ->Vjb
open List renaming getElem?_eq_getElem ->Vb,pairwise_iff_getElem ->Ve,pairwise_cons ->Vg,getElem_mem ->Vj,attach_map_subtype_val ->Vm,getElem?_eq_none ->Vo,getElem?_append_left ->Vp,mem_cons ->Vr,getElem?_take ->Vt,prefix_iff_eq_take ->Vu,ext_getElem? ->Vv,all_eq_true ->Vw,map_map ->Vy,range ->Vba,getElem?_eq_some_iff ->Vha,getElem?_map ->Via,perm_nil ->Vja,exists_mem_of_ne_nil ->Vka,length_cons ->Vla,mem_map ->Vna,length_attach ->Vqa,getLast?_cons ->Vra,flatten_cons ->Vta,pairwise_map ->Vua,map_fst_zip ->Vva,map_snd_zip ->Vwa,cons_append ->Vya,append_nil ->Vza,nil_prefix ->Vab,length_zip ->Vdb,map_append ->Vfb,drop_drop ->Vgb,replicate ->Vhb,map_cons ->Vib
open Nat renaming le_refl ->Vn,zero_le ->Vq,zero_add ->Vaa,add_sub_cancel ->Vea,add_zero ->Vma,mul_le_mul_right ->Vpa,le_trans ->Vsa
open Option renaming bind_eq_some_iff ->Vl,isSome_none ->Vda,bind ->Vfa,getD_some ->Vxa,map_some ->Veb
open Prod renaming fst ->Vbb,snd ->Vcb
open Sum renaming elim ->Vkb
open Go.Value renaming cells ->Vi,int ->Vk,okWide ->Vz
open Go.World renaming frozen? ->Vga,cell? ->Voa
section
namespace Tr
open Go
def Xz:(t:Ty)->El t->Prop
 |.int k,x=>k.min<=x/\x<=k.max
 |.bool,_=>True
 |.str,x=>x.length<=Go.maxLen
 |.sl t,x=>x.length<=Go.maxLen/\ ∀y∈x,Xz t y
 |.unit,_=>True
 |.prod a b,x=>Xz a x.1/\Xz b x.2
 |.arr n t,x=>x.length=n/\ ∀y∈x,Xz t y
 |.ref,_=>True
 |.pt _,_=>True
 |.lk _ _,_=>True
 |.pn _,_=>True
def Ty.firm:Ty->Bool
 |.ref=>false
 |.pt _=>false
 |.lk _ _=>false
 |.pn _=>false
 |.sl t=>t.firm&& !(Nat.beq t.size 0)
 |.prod a b=>a.firm&&b.firm
 |.arr _ t=>t.firm
 |_=>true
theorem Zge{α:Type}{β:Type}{r:α->β->Prop}{q:α->Prop} :∀(m:List β),(∀b∈m,∃a,r a b/\q a)->∃l,Fa r l m/\ ∀a∈l,q a
 |[],_=>⟨[],trivial,by simp⟩
 |b::m,h=>by
  obtain⟨a,e,i⟩:=h b (by simp);obtain⟨l,f,g⟩:=Zge (α:=α) (β:=β) m fun d c=>h d (by simp [c]);refine⟨a::l,⟨e,f⟩,fun x j=>?_⟩
  grind
theorem KH.append{w:World}{b off:Nat}{l m:List Value}(c:KH w b off l)(d:KH w b (off+l.length) m):KH w b off (l++m):=by
 intro j e;by_cases a:j<l.length
 ·rw[List.getElem_append_left a];exact c j a
 ·rw[List.getElem_append_right (by omega)];have:=d (j - l.length) (by grind)
  grind
theorem KH.flat{w:World}{b n:Nat} :∀{css:List (List Value)}{off:Nat},(∀i c,css[i]? =some c->c.length=n/\KH w b (off+i*n) c)->KH w b off css.flatten
 |[],off,_=>by intro j l;grind
 |c::css,off,h=>by
  rw[Vta];obtain⟨a,e⟩:=h 0 c (by simp);refine KH.append (by grind) (KH.flat (n:=n) fun i d k=>?_);obtain⟨f,g⟩:=h (i+1) d (by grind)
  grind
section
variable {H:Type}{enc:TypeId×Value->H}{P:Program}{w:World}{sp:Nat->Bool}{held:Bool}
theorem Zje{a:Addr}{n:Nat}{c:List Value}(h:w.cells? 0 a n=some c):c.length=n/\(∀j,(b:j<c.length)->w.cell? (a.add j)=some c[j]):=by
 unfold World.cells? at h;rw[Zp (Vq _)]at h;have d:c.length=n:=by have:=mapM_some_length h;grind
 refine⟨d,fun j b=>?_⟩;have:=mapM_some_get h j j (by grind)
 grind
theorem Zpy{a:Addr}{v:Value}(h:w.cell? a=some v):a.spot=none/\a.block<w.heap.size:=by
 unfold Voa at h;split at h
 ·rename_i c t f b;refine⟨?_,?_⟩
  ·simp_all
  grind
 grind
theorem Zjf{I:Nat->Prop}{fuel:Nat}{θ:TypeId->Option Ty}(F:∀T t,θ T=some t->W7 P θ T t)
 (G:∀(t:Ty) (T:TypeId) (cs:List Value) (x:DataW H×List MemPlace),θ T=some t->t.firm=true->DataW.trod enc P w 0 sp held fuel T cs=some x->∃y,Rd w I t y cs/\Xz t y) (cs:List Value) (xs:List (DataW H×List MemPlace)):
 ∀(t:Ty) (e:List Field) (base:Nat),t.chain=true->t.firm=true->cs.length=base+t.size->
  (∀i fd,e[i]? =some fd->∃o d,Z0 t [i]=some (o,d)/\fd.offset=base+o/\θ fd.type=some d)->Z0 t [e.length]=none->
  (∀(i:Nat) (f:Field),e[i]? =some f->∃x,DataW.trod enc P w 0 sp held fuel f.type ((cs.drop f.offset).take (P.cellsOf f.type))=some x)->
  ∃y,Rd w I t y (cs.drop base)/\Xz t y
 |.unit,e,base,_,_,h,_,_,_=>⟨(),by simp only[Rd,Ty.size]at h⊢;grind,trivial⟩
 |.prod a b,[],base,c,g,h,l,m,n=>by simp [Z0]at m
 |.prod a b,fd::e,base,c,g,h,l,m,n=>by
  simp only[Ty.chain]at c;simp only[Ty.firm,Vh]at g;obtain⟨o,d,j,J,C⟩:=l 0 fd (by simp)
  have K:o=0/\d=a:=by
   cases a<;>simp [Z0]at j<;>exact⟨j.1.symm,j.2.symm⟩
  obtain⟨rfl,rfl⟩:=K;obtain⟨x,N⟩:=n 0 fd (by simp);obtain⟨Q,v,p⟩:=G _ _ _ _ C g.1 N
  have s:P.cellsOf fd.type=d.size:=by obtain⟨i,z,k,D,_⟩:=(F _ _ C).info;simp [Program.cellsOf,k,D]
  have r:cs.length=base+d.size+b.size:=by rw[h];simp only[Ty.size];omega
  obtain⟨R,A,q⟩:=Zjf F G cs xs b e (base+d.size) c g.2 r (fun i L M=>by
   obtain⟨o,O,k,D,S⟩:=l (i+1) L (by grind);simp only[Z0,Option.map_eq_some_iff]at k
   grind) (by simpa [Z0] using m) (fun i f g=>n (i+1) f (by grind))
  refine⟨(Q,R),?_,p,q⟩;simp only[Rd];refine⟨_,_,?_,v,A⟩
  rw[s,J,Vma, <-Vgb,List.take_append_drop]
 |.int _,_,_,c,_,_,_,_,_=>by simp [Ty.chain]at c
 |.bool,_,_,c,_,_,_,_,_=>by simp [Ty.chain]at c
 |.str,_,_,c,_,_,_,_,_=>by simp [Ty.chain]at c
 |.sl _,_,_,c,_,_,_,_,_=>by simp [Ty.chain]at c
 |.arr _ _,_,_,c,_,_,_,_,_=>by simp [Ty.chain]at c
 |.ref,_,_,c,_,_,_,_,_=>by simp [Ty.chain]at c
 |.pt _,_,_,c,_,_,_,_,_=>by simp [Ty.chain]at c
 |.lk _ _,_,_,c,_,_,_,_,_=>by simp [Ty.chain]at c
 |.pn _,_,_,c,_,_,_,_,_=>by simp [Ty.chain]at c
theorem ZmA{n:Nat} :∀(m:Nat) (cs:List Value),cs.length=m*n->cs=((Vba m).map fun i=>(cs.drop (i*n)).take n).flatten
 |0,cs,h=>by grind
 |m+1,cs,h=>by
  rw[List.range_succ_eq_map,Vib,Vta,Vy];have a:(cs.drop n).length=m*n:=by grind
  have b:=ZmA m (cs.drop n) a
  have e:((Vba m).map ((fun i=>(cs.drop (i*n)).take n) ∘Nat.succ))=((Vba m).map fun i=>((cs.drop n).drop (i*n)).take n):=by
   apply List.map_congr_left;intro i _;simp only[Function.comp,Vgb]
   grind
  rw[e, <-b];simp
theorem ZeO{θ:TypeId->Option Ty}(J:∀T t,θ T=some t->W7 P θ T t):∀(fuel:Nat) (t:Ty) (T:TypeId) (cs:List Value) (x:DataW H×List MemPlace),θ T=some t->t.firm=true->
 DataW.trod enc P w 0 sp held fuel T cs=some x->∃y,Rd w (fun b=>b<w.heap.size) t y cs/\Xz t y
 |0,t,T,cs,x,_,_,h=>by simp [DataW.trod]at h
 |fuel+1,t,T,cs,x,G,A,h=>by
  have hk:=J _ _ G;have f:=hk.shape
  have p:∀{T t},θ T=some t->P.cellsOf T=t.size:=by intro T t G;obtain⟨i,z,g1,g2,_⟩:=(J _ _ G).info;simp [Program.cellsOf,g1,g2]
  cases t with
  |int k=>
   cases g:P.underlying T with
   |none=>rw[g]at f;simp [Kb]at f
   |some d=>
    rw[g]at f
    cases d<;>simp [Kb]at f
    subst f;obtain⟨n,l,_,M⟩:=DataW.trod_int g h
    exact⟨n,l,by simpa [Lit.wf,Xz] using M⟩
  |bool=>
   cases g:P.underlying T with
   |none=>rw[g]at f;simp [Kb]at f
   |some d=>
    rw[g]at f
    cases d<;>simp [Kb]at f
    obtain⟨n,l,_⟩:=DataW.trod_bool g h
    exact⟨n,l,trivial⟩
  |str=>
   cases g:P.underlying T with
   |none=>rw[g]at f;simp [Kb]at f
   |some d=>
    rw[g]at f
    cases d<;>simp [Kb]at f
    obtain⟨s,l,_,M⟩:=DataW.trod_string g h;refine⟨s.data.toList,?_,?_⟩
    all_goals assumption
  |sl e=>
   cases g:P.underlying T with
   |none=>rw[g]at f;simp [Kb]at f
   |some d=>
    rw[g]at f
    cases d<;>simp [Kb]at f
    rename_i E;simp only[Ty.firm,Vh,Bool.not_eq_true']at A
    have a2:e.size≠0:=by
     intro v
     simp_all
    rcases DataW.trod_slice g h with ⟨l,_⟩|⟨a,len,cap,elems,rest,n,v,l,_,_,M,S,h4,h5,_⟩
    ·exact⟨[],⟨none,0,[],l,trivial,by simp,Vn _⟩,Vq _,by simp⟩
    ·have Q:n=fuel:=by omega
     subst Q;rw[p f]at h5
     have D:∀i,i<len->∃c x,w.cells? 0 (a.add (i*e.size)) e.size=some c/\DataW.trod enc P w 0 sp held n E c=some x:=by
      intro i O;have:=h5 i O;rw[Vb (by omega)]at this;obtain⟨c,h6,Y⟩:=Vl.1 this
      grind
     have C:∀i c,((Vba len).map fun i=>(w.cells? 0 (a.add (i*e.size)) e.size).getD [])[i]? =some c->i<len/\w.cells? 0 (a.add (i*e.size)) e.size=some c/\ ∃x,DataW.trod enc P w 0 sp held n E c=some x:=by
      grind
     obtain⟨y,F,U⟩:=Zge (r:=Rd w (fun b=>b<w.heap.size) e) (q:=Xz e) ((Vba len).map fun i=>(w.cells? 0 (a.add (i*e.size)) e.size).getD []) (by intro c N;obtain⟨i,O⟩:=List.getElem?_of_mem N;obtain⟨_,_,x,Y⟩:=C i c O;exact ZeO J n e E c x f A.1 Y)
     have a1:y.length=len:=by rw[F.length];simp
     refine⟨y,⟨some a,cap,_,by grind,F,fun a3=>?_,by omega⟩,by omega,U⟩
     have R:0<len:=by
      grind
     obtain⟨c0,x0,h6,_⟩:=D 0 R;obtain⟨Y,h8⟩:=Zje h6;have h9:=h8 0 (by omega);simp only[Nat.zero_mul,Addr.add,if_true]at h9;obtain⟨K,L⟩:=Zpy h9;obtain⟨b,off,spot⟩:=a;simp only at K L;subst K;refine⟨b,off,rfl,L,KH.flat (n:=e.size) fun i c N=>?_⟩;obtain⟨O,V,_⟩:=C i c N;obtain⟨W,X⟩:=Zje V;refine⟨W,fun j hj=>?_⟩;rw[<-X j hj];congr 1;by_cases v:i*e.size=0
     ·by_cases o:j=0
      ·simp only[Addr.add,v,o,if_true,Vma]
      ·simp only[Addr.add,v,o,if_true,if_false,Vma]
     ·by_cases o:j=0
      ·simp only[Addr.add,v,o,if_true,if_false,Vma]
      ·simp only[Addr.add,v,o,if_false]
  |unit=>
   cases g:P.underlying T with
   |none=>rw[g]at f;simp [Kb]at f
   |some d=>
    rw[g]at f
    cases d<;>simp [Kb]at f
    obtain⟨xs,n,_,_,l,_⟩:=DataW.trod_struct g h;rw[p G]at l
    exact⟨(),by simpa [Rd,Ty.size] using l,trivial⟩
  |prod a b=>
   cases g:P.underlying T with
   |none=>rw[g]at f;simp [Kb]at f
   |some d=>
    rw[g]at f
    cases d<;>simp only[Kb,Vs]at f
    rename_i fs;simp only[Vh,Vw]at f;obtain⟨⟨a4,a5⟩,a0⟩:=f;obtain⟨xs,n,v,_,l,M,S⟩:=DataW.trod_struct g h;have Q:n=fuel:=by omega
    subst Q;rw[p G]at l
    obtain⟨y,F,U⟩:=Zjf (enc:=enc) (sp:=sp) (held:=held) (fuel:=n) (I:=fun b=>b<w.heap.size) J (fun t T cs x=>ZeO J n t T cs x) cs xs (.prod a b) fs.toList 0 a0 A (by omega) (by
     grind) (by simp_all) (by
     grind)
    grind
  |arr m e=>
   cases g:P.underlying T with
   |none=>rw[g]at f;simp [Kb]at f
   |some d=>
    rw[g]at f
    cases d<;>simp [Kb]at f
    obtain⟨rfl,f⟩:=f;obtain⟨xs,n,v,_,l,M,S⟩:=DataW.trod_array g h;have Q:n=fuel:=by omega
    subst Q;rw[p f]at S;rw[p G]at l
    obtain⟨y,F,U⟩:=Zge (r:=Rd w (fun b=>b<w.heap.size) e) (q:=Xz e) ((Vba m).map fun i=>(cs.drop (i*e.size)).take e.size) (by
     intro c N;obtain⟨i,O,rfl⟩:=Vna.1 N;have Z:i<m:=by grind
     have:=S i Z;rw[Vb (by omega)]at this;exact ZeO J n e _ _ _ f A this)
    refine⟨y,⟨?_,_,ZmA m cs l,F⟩,?_,U⟩
    ·rw[F.length];simp
    ·rw[F.length];simp
  |ref=>simp [Ty.firm]at A
  |pt t=>simp [Ty.firm]at A
  |lk a b=>simp [Ty.firm]at A
  |pn t=>simp [Ty.firm]at A
def ZaA(θ:TypeId->Option Ty):Pats->List TypeId->Bool
 |.nil,[]=>true
 |.cons (.pd t) l,T::a=>θ T==some t&&t.firm&&ZaA θ l a
 |_,_=>false
def ZbA:(l:Pats)->KJ l->Prop
 |.nil,_=>True
 |.cons (.pd t) l,x=>Xz t x.1/\ZbA l x.2
 |.cons _ l,x=>ZbA l x.2
theorem Zrb{θ:TypeId->Option Ty}{T:TypeId}{t:Ty}(h:W7 P θ T t)(f:t.firm=true){v:Value}{b:Nat}(a:Vz P w .any b T v):Ka v=t.agg:=by
 have c:=h.shape;unfold Vz at a
 cases e:P.underlying T with
 |none=>rw[e]at c;cases t<;>simp [Kb]at c
 |some d=>
  rw[e]at c;simp only[e]at a
  cases t<;>cases d<;>simp [Kb,Ty.firm]at c f<;>simp only[Cell.okWide,e,Cell.ok]at a
  all_goals first
   |(obtain⟨cs,rfl,_⟩:=a;rfl)
   |(cases v<;>first|rfl|grind|exact a.elim)
theorem ZlJ{θ:TypeId->Option Ty}(g:∀T t,θ T=some t->W7 P θ T t):∀(l:Pats) (a:List TypeId) (vs:List Value) (ds:List (DataW H)) (e:List MemPlace),ZaA θ l a=true->
 DataW.TrodAll enc P w 0 sp held a vs ds e->(∀(j:Nat) t v,a[j]? =some t->vs[j]? =some v->∃b,Vz P w .any b t v)->∃x,Jc w (fun b=>b<w.heap.size) l x [] vs/\ZbA l x
 |.nil,[],vs,ds,e,_,h,_=>by
  cases vs with
  |nil=>exact⟨(),by simp [Jc],trivial⟩
  |cons v vs=>simp [DataW.TrodAll]at h
 |.nil,T::a,vs,ds,e,c,h,_=>by simp [ZaA]at c
 |.cons p l,[],vs,ds,e,c,h,_=>by cases p<;>simp [ZaA]at c
 |.cons p l,T::a,vs,ds,e,c,h,m=>by
  cases p<;>simp [ZaA]at c
  rename_i t;obtain⟨⟨i,k⟩,n⟩:=c
  cases vs with
  |nil=>simp [DataW.TrodAll]at h
  |cons v vs=>
   cases ds with
   |nil=>simp [DataW.TrodAll]at h
   |cons d ds=>
    simp only[DataW.TrodAll]at h;obtain⟨G,D,⟨fuel,o⟩,q,_⟩:=h;obtain⟨y,C,s⟩:=ZeO g fuel t T _ _ i k o;obtain⟨x,A,f⟩:=ZlJ g l a vs ds D n q fun j t v F z=>m (j+1) t v (by grind) (by grind);obtain⟨b,r⟩:=m 0 T v (by simp) (by simp);refine⟨(y,x),?_,s,f⟩;simp only[Jc];refine⟨[],[],v,vs,rfl,rfl,⟨⟨rfl,C⟩,.inr ?_⟩,A⟩;exact Zrb (g _ _ i) k r
end
theorem rv_bool{w:World}{I:Nat->Prop}{x:Bool×Unit}{js:List Nat}{v:Value}(h:RV w I (.cons (.pd .bool) .nil) x js v):v=.bool x.1:=by
 obtain⟨vs,a,rfl⟩:=h;simp only[Jc]at a;obtain⟨f,g,u,r,_,rfl,⟨b,c⟩,_,rfl⟩:=a;simp only[PC]at b
 have d:Ka u=false:=by rcases c with h|h<;>simp [Zy.isAgg,Ty.agg]at h<;>exact h
 have e:u.cells.toList=[.bool x.1]:=b.2;show u=_
 cases u<;>simp_all [Ka,Vi]
end Tr
end
section
namespace Tr
open Go Go.RowKit Go.ChangeShapes
section
variable {H:Type}{enc:TypeId×Value->H}{P:Program}
theorem ZmR(j:laidOutB P=true){W g:World}(i:Below W.heap.size W g)(sp:Nat->Bool):∀(c:List TypeId) (vs:List Value) (ds:List (DataW H)) (b:List MemPlace),
 (∀t∈c,P.readableRec t=true/\t<P.types.size)->DataW.TrodAll enc P W 0 (fun _=>true) true c vs ds b->(∀x∈b,x.block<W.heap.size)->(∀p∈b,sp p.block=true)->DataW.TrodAll enc P g 0 sp true c vs ds b
 |[],[],[],b,_,h,_,_=>h
 |T::c,v::vs,d::ds,b,f,h,e,k=>by
  simp only[DataW.TrodAll]at h⊢;obtain⟨p,q,l,m,rfl⟩:=h
  exact⟨p,q,WideElems.Trod_stays j (f T (by simp)).1 (f T (by simp)).2 l (fun x a=>i.same (e x (by simp [a]))) (fun x a=>k x (by simp [a])),
   ZmR j i sp c vs ds q (fun t n=>f t (by simp [n])) m (fun x a=>e x (by simp [a])) (fun x a=>k x (by simp [a])),rfl⟩
 |[],_::_,_,_,_,h,_,_=>by simp [DataW.TrodAll]at h
 |[],[],_::_,_,_,h,_,_=>by simp [DataW.TrodAll]at h
 |_::_,[],_,_,_,h,_,_=>by simp [DataW.TrodAll]at h
 |_::_,_::_,[],_,_,h,_,_=>by simp [DataW.TrodAll]at h
theorem ZmS{W:World}{base:Nat}{sp:Nat->Bool}{held:Bool} :∀(a:List TypeId) (vs:List Value) (ds:List (DataW H)) (c:List MemPlace),DataW.TrodAll enc P W base sp held a vs ds c->ds.length=a.length
 |[],[],[],_,_=>rfl
 |_::a,_::vs,_::ds,_,h=>by
  simp only[DataW.TrodAll]at h;obtain⟨_,q,_,b,_⟩:=h
  simp [ZmS a vs ds q b]
 |[],_::_,_,_,h=>by simp [DataW.TrodAll]at h
 |[],[],_::_,_,h=>by simp [DataW.TrodAll]at h
 |_::_,[],_,_,h=>by simp [DataW.TrodAll]at h
 |_::_,_::_,[],_,h=>by simp [DataW.TrodAll]at h
theorem ZsA{f:Func}{s:ChangeSpec}{apart Hb handsOn again:Bool}{W h:World}{args:Array Value}{v:Value}{ds gs:List (DataW H)}{before pa pv:List MemPlace}
 (k:DataW.Whole enc P f.params.toList s.vars apart W args.toList ds gs before)
 (e:∀(b:Nat) (sp:Nat->Bool) (y:Bool),DataW.TrodAll enc P h b sp y f.resultTypes.toList (v.resultList f.resultTypes.size) (s.fn H (ds++gs)).results [])
 (a:∀sp:Nat->Bool,(∀p∈before,sp p.block=true)->DataW.TrodAll enc P h 0 sp true f.params.toList args.toList (s.fn H (ds++gs)).args pa)
 (c:∀sp:Nat->Bool,(∀p∈before,sp p.block=true)->DataW.TrodVars enc P h sp s.vars (s.fn H (ds++gs)).vars pv)
 (g:before=pa++pv) (o:Below W.heap.size W h)
 (n:∀(j:Nat) (t:TypeId) (r:Value),f.resultTypes[j]? =some t->(v.resultList f.resultTypes.size)[j]? =some r->Vz P h .any 0 t r):
 s.post enc P f apart Hb handsOn again W args v h:=by
 have d:∀p∈before,(fun b=>decide (b<W.heap.size)) p.block=true:=fun p i=>by simpa using k.lt p i
 refine⟨ds,gs,before,[],pa,pv,k,e _ _ _,a _ d,c _ d,o.frame _,fun _=>?_⟩;have m:=k.lt;obtain⟨_,_,_,_,_,A,z⟩:=k;refine⟨n,_,_,([]++pa)++pv,⟨[]++pa,pv,trodAll_append (a _ (fun _ _=>rfl)) (e _ _ _),c _ (fun _ _=>rfl),rfl,?_,?_⟩,?_⟩
 ·intro b off i;have q:MemPlace.cell b off∈before:=by rw[g];simpa using i
  have l:=o.block b (m _ q);have:=A b off q;unfold Vga at this⊢;rw[l];exact this
 ·intro x;have:=z x;rw[g]at this;simpa using this
 ·intro p i _;rw[g];simpa using i
theorem law_lifted{C:Checked}{os:Os}{f:FuncId}{fn:Func}{s:ChangeSpec}{apart:Bool}{S:Spec}{θ:TypeId->Option Ty}{tb:TypeId}
 (own:ownKnob C.prog.godebug=none) (started:os.Started) (d:C.prog.inits.idxOf? f=none) (X:C.prog.funcs[f]? =some fn)
 (witness:∃(w:World) (tape:Tape) (i:Input),w.os=os/\(w.forCall tape i).Shaped C.prog/\i.vars=[]/\Input.okWide C.prog (w.forCall tape i) .any w.heap.size f i/\
   s.pre6 enc C.prog fn [] apart (w.forCall tape i).memory i.args/\Assume.holds {} C.prog (lone (Frame.enter C.prog f i.args .normal) [] (w.forCall tape i)))
 (hl:laidOutB C.prog=true) (y:(fn.params.toList.all fun t=>C.prog.readableRec t&&decide (t<C.prog.types.size))=true)
 (c:s.vars=[]) (F:∀ds:List (DataW H),ds.length=fn.params.toList.length->s.fn H ds={results:=[.lit (.bool true)],args:=ds})
 (l:fn.resultTypes= #[tb]) (N:C.prog.underlying tb=some .bool)
 (hF:ZX C.prog f S) (hθ:∀T t,θ T=some t->W7 C.prog θ T t) (m:ZaA θ S.args fn.params.toList=true)
 (a1:S.pl=true) (J:∀x,ZbA S.args x->∃z,S.f x=some z/\ ∀w I js rv,RV w I S.res (S.unp z).2 js rv->rv=.bool true):
 ReturnsInHanded {} C os f .any (s.pre6 enc C.prog fn [] apart) (s.post enc C.prog fn apart true false false):=by
 refine returnsInHanded_of_change (C:=C) own started d X witness ?_;intro W base args ds gs before O U a4 _;have V:=U;have Z:=U.lt;obtain⟨p,q,Q,R,rfl,a5,a6⟩:=U
 have Y:gs=[]/\q=[]:=by
  rw[c]at R
  cases gs with
  |nil=>exact⟨rfl,R⟩
  |cons g gs=>simp [DataW.TrodVars]at R
 obtain⟨rfl,rfl⟩:=Y;obtain⟨x,hx,hg⟩:=ZlJ (enc:=enc) hθ S.args fn.params.toList args.toList ds p m Q (fun j t v ht hv=>⟨base,O j t v (by simpa using ht) (by simpa using hv)⟩);obtain⟨z,hz,a3⟩:=J x hg;have a:=hF.run W (fun b=>b<W.heap.size) args.toList [] x z hx .nil (by simp) (fun _ h=>h) (fun h=>by rw[a1]at h;cases h) hz;simp only[Array.toArray_toList]at a;refine a.mono fun e W' h=>?_;obtain⟨rv,rfl,I',jo,jr,_,hR,_,_,_,_,a0,G,K,A,o⟩:=h;have M:=a3 _ _ _ _ hR;subst M;have hb:Below W.heap.size W W' :=⟨a0,G,K.out,A,fun k hk=>o k hk (by simp)⟩;have D:=F (ds++[]) (by rw[Vza];exact ZmS _ _ _ _ Q)
 have a2:∀t∈fn.params.toList,C.prog.readableRec t=true/\t<C.prog.types.size:=by intro t ht;have:=Vw.1 y t ht;simpa using this
 refine⟨_,rfl,ZsA (pa:=p) (pv:=[]) V (fun b sp hd=>?_) (fun sp hs=>?_) (fun sp hs=>?_) rfl hb ?_⟩
 ·rw[D,l];exact trodAll_cons_mk (p:=[]) (p' :=[]) ⟨1,by simp [DataW.trod,N,Vi]⟩ rfl
 ·rw[D];simp only[Vza]at hs⊢;exact ZmR hl hb sp _ _ _ _ a2 Q (by simpa using Z) hs
 ·rw[D,c];rfl
 ·intro j t r n L;rw[l]at n L
  match j,n,L with
  |0,n,L=>
   simp [Value.resultList]at n L;subst n;subst L
   simp [Vz,N,Cell.okWide,Cell.ok]
  |j+1,n,_=>simp at n
end
end Tr
end
section
namespace Tr
open Go
section
variable {σ τ:Type}{step:σ->Option (σ ⊕ τ)}
theorem R4(n:Nat)(s:σ):JY step (n+1) s=(step s).bind fun o=>Vkb (JY step n) some o:=by
 show (match step s with|some (.inl a)=>JY step n a|some (.inr r)=>some r|none=>none)=_
 cases step s with
 |none=>rfl
 |some o=>cases o<;>rfl
theorem Zgt:∀(n m:Nat) (s:σ) (r:τ),JY step n s=some r->JY step (n+m) s=some r
 |0,_,_,_,h=>by simp [JY]at h
 |n+1,m,s,r,h=>by
  rw[show n+1+m=(n+m)+1 by omega,R4];rw[R4]at h
  cases a:step s with
  |none=>rw[a]at h;simp at h
  |some o=>
   rw[a]at h
   cases o with
   |inl b=>exact Zgt n m b r h
   |inr c=>exact h
theorem Zkp{n m:Nat}{s:σ}{r c:τ}(h:JY step n s=some r)(d:JY step m s=some c):r=c:=by have a:=Zgt n m s r h;have b:=Zgt m n s c d;rw[Nat.add_comm]at b;exact Option.some.inj (a.symm.trans b)
theorem Ztn{n:Nat}{s:σ}{r:τ}(h:JY step n s=some r):run step s=some r:=by
 unfold run;split
 ·rename_i d c;exact congrArg some (Zkp c h)
 ·rw[dif_pos ⟨r,n,h⟩];have a:∃r n,JY step n s=some r:=⟨r,n,h⟩;obtain⟨m,b⟩:=a.choose_spec;exact congrArg some (Zkp b h)
theorem Zmj{s:σ}{r:τ} :run step s=some r↔∃n,JY step n s=some r:=⟨Zmp,fun⟨_,h⟩=>Ztn h⟩
theorem ZcL(s:σ):run step s=(step s).bind fun o=>Vkb (run step) some o:=by
 apply Option.ext;intro r;rw[Zmj]
 cases a:step s with
 |none=>
  simp only[Option.bind_none,reduceCtorEq,iff_false];rintro ⟨n,h⟩
  cases n with
  |zero=>simp [JY]at h
  |succ n=>rw[R4,a]at h;simp at h
 |some o=>
  simp only[Za]
  cases o with
  |inl c=>
   simp only[Sum.elim_inl];rw[Zmj];constructor
   ·rintro ⟨n,h⟩
    cases n with
    |zero=>simp [JY]at h
    |succ n=>rw[R4,a]at h;exact⟨n,h⟩
   ·rintro ⟨n,h⟩
    exact⟨n+1,by rw[R4,a];exact h⟩
  |inr b=>
   simp only[Sum.elim_inr];constructor
   ·rintro ⟨n,h⟩
    cases n with
    |zero=>simp [JY]at h
    |succ n=>rw[R4,a]at h;exact h
   ·intro h;exact⟨1,by rw[R4,a];exact h⟩
theorem HT{s s' :σ}(h:step s=some (.inl s')):run step s=run step s' :=by rw[ZcL,h];rfl
theorem Ym{s:σ}{r:τ}(h:step s=some (.inr r)):run step s=some r:=by rw[ZcL,h];rfl
theorem Zbi{Inv:σ->Prop}{μ:σ->Nat}{JQ:τ->Prop}(a:∀s,Inv s->(∃s',step s=some (.inl s')/\Inv s' /\μ s' <μ s)\/ ∃r,step s=some (.inr r)/\JQ r):
 ∀s,Inv s->∃r,run step s=some r/\JQ r:=by
 intro s;generalize h:μ s=m
 induction m using Nat.strongRecOn generalizing s with
 |ind m i=>
  intro g;rcases a s g with ⟨s',b,c,d⟩|⟨r,b,c⟩
  ·obtain⟨r,e,f⟩:=i (μ s') (h▸d) s' rfl c;exact⟨r,(HT b).trans e,f⟩
  ·exact⟨r,Ym b,c⟩
theorem Xx{ρ:Type}{s:σ}{f:τ->Option ρ}{Q:ρ->Prop}(Inv:σ->Prop)(μ:σ->Nat)(JQ:τ->Prop)(e:Inv s)
 (b:∀s,Inv s->∃z,step s=some z/\Vkb (fun s' =>Inv s' /\μ s' <μ s) JQ z)
 (a:∀r,JQ r->∃z,f r=some z/\Q z):∃z,Vfa (run step s) f=some z/\Q z:=by
 obtain⟨r,c,d⟩:=Zbi (Inv:=Inv) (μ:=μ) (JQ:=JQ) (fun s g=>by
  obtain⟨z,c,d⟩:=b s g
  cases z with
  |inl s' =>exact .inl ⟨s',c,d⟩
  |inr r=>exact .inr ⟨r,c,d⟩) s e
 rw[c];exact a r d
theorem run_bind{ρ:Type}{s:σ}{f:τ->Option ρ}{Q:ρ->Prop}(Inv:σ->Prop)(μ:σ->Nat)(JQ:τ->Prop)(c:Inv s)
 (b:∀s,Inv s->(∃s',step s=some (.inl s')/\Inv s' /\μ s' <μ s)\/ ∃r,step s=some (.inr r)/\JQ r)
 (a:∀r,JQ r->∃z,f r=some z/\Q z):∃z,Vfa (run step s) f=some z/\Q z:=by
 obtain⟨r,d,e⟩:=Zbi b s c;rw[d];exact a r e
end
theorem Hr{α β:Type}{x:Option α}{f:α->Option β}{Q:β->Prop}(P:α->Prop)(h:∃a,x=some a/\P a)(k:∀a,P a->∃z,f a=some z/\Q z):∃z,Vfa x f=some z/\Q z:=by obtain⟨a,rfl,b⟩:=h;exact k a b
theorem Dk{α:Type}{l m:List α}(h:l.length+m.length<=4294967296):ZD (decide (l.length+m.length<=ZE))=some ():=by rw[Zd (show l.length+m.length<=ZE from Vsa h (by decide))];rfl
theorem Zs{x:Int}(a: -9223372036854775808<=x)(b:x<=9223372036854775807):Vjb .i64 x=x:=by
 simp [Vjb,IntKind.signed,IntKind.bits]
 split<;>omega
theorem ZH{α:Type}{xs:List α}{i:Nat}(h:i<xs.length):idx xs (i:Int)=some xs[i]:=by unfold idx;rw[Zp (by omega)];simp [h]
theorem J9{α:Type}{xs:List α}{i:Int}(a:0<=i)(h:i.toNat<xs.length):idx xs i=some xs[i.toNat]:=by unfold idx;rw[Zp a];simp [h]
theorem Ke{i:Nat}{n:Nat}(h:i<n):Zo (i:Int) n=some i:=by unfold Zo;rw[Zp (by omega)];simp
end Tr
end
section
namespace Tr
open Go Go.RowKit Go.ChangeShapes
section
variable {H:Type}{enc:TypeId×Value->H}
end
end Tr
end
section
namespace Tr
open Go
def Zq.len:Zq->Nat
 |.nil=>0
 |.cons _ l=>l.len+1
section
variable {P:Program}{E:Km}{B:Kd}{H:AH}
end
def Zc2(P:Program):List (Nat×Func)->Prop
 |[]=>True
 |p::l=>(P.funcs[p.1]? =some p.2∧p.2.body=some (HK p.2)∧(p.2.name== "runtime.NumGoroutine")=false)∧Zc2 P l
section
variable {P:Program}{E:Km}{B:Kd}
theorem Zc2.mem:∀{l:List (Nat×Func)},Zc2 P l→∀p∈l,P.funcs[p.1]? =some p.2∧p.2.body=some (HK p.2)∧(p.2.name== "runtime.NumGoroutine")=false
 |[],_,p,a=>by simp at a
 |q::l,h,p,a=>by
  rcases Vr.1 a with rfl|a
  ·exact h.1
  ·exact Zc2.mem h.2 p a
theorem Z9.put(a:Z9 P E)(s:Nat)(i:FuncId->Option (Nat->Zq->Zw (AV×KB))):Z9 P {E with st:=s,inl:=i} :=⟨a.ty,a.mty,a.pk,a.pz,a.bd⟩
def JU:(t:Ty)->El t->El t->Bool
 |.int _,x,y=>decide (x=y)
 |.bool,x,y=>x==y
 |.str,x,y=>decide (x=y)
 |.sl t,x,y=>eqDs (JU t) x y
 |.unit,_,_=>true
 |.prod a b,x,y=>JU a x.1 y.1&&JU b x.2 y.2
 |.arr _ t,x,y=>eqDs (JU t) x y
 |.ref,_,_=>true
 |.pt _,_,_=>false
 |.lk _ _,_,_=>false
 |.pn _,_,_=>false
where eqDs {α:Type} (f:α->α->Bool):List α->List α->Bool
 |[],[]=>true
 |a::l,b::m=>f a b&&eqDs f l m
 |_,_=>false
theorem Zb1:∀(t:Ty) (x y:El t),JU t x y=true->x=y
 |.int _,x,y,h=>X8 h
 |.bool,x,y,h=>beq_iff_eq.1 h
 |.str,x,y,h=>X8 h
 |.sl t,x,y,h=>eqDs_eq (Zb1 t) x y h
 |.unit,_,_,_=>rfl
 |.prod a b,x,y,h=>by
  simp only[JU,Vh]at h
  exact Prod.ext (Zb1 a _ _ h.1) (Zb1 b _ _ h.2)
 |.arr _ t,x,y,h=>eqDs_eq (Zb1 t) x y h
 |.ref,_,_,_=>rfl
 |.pt _,_,_,h=>by simp [JU]at h
 |.lk _ _,_,_,h=>by simp [JU]at h
 |.pn _,_,_,h=>by simp [JU]at h
where eqDs_eq {α:Type}{f:α->α->Bool} (c:∀x y,f x y=true->x=y):∀(x y:List α),JU.eqDs f x y=true->x=y
 |[],[],_=>rfl
 |a::l,b::m,h=>by
  simp only[JU.eqDs,Vh]at h
  rw[c a b h.1,eqDs_eq c l m h.2]
 |[],_::_,h=>by simp [JU.eqDs]at h
 |_::_,[],h=>by simp [JU.eqDs]at h
end
end Tr
end
section
namespace Tr
universe u
variable {α:Type u}
def R1(cmp:α->α->Option Int)(x:α):List α->Option (List α)
 |[]=>some [x]
 |y::l=>(cmp x y).bind fun c=>bif decide (c<0) then some (x::y::l) else(R1 cmp x l).bind fun m=>some (y::m)
def R3(cmp:α->α->Option Int):List α->Option (List α)
 |[]=>some []
 |x::l=>(R3 cmp l).bind fun m=>R1 cmp x m
def ltB(cmp:α->α->Option Int)(x y:α):Bool:=match cmp x y,cmp y x with
 |some a,some b=>decide (a<0) &&decide (0<b)
 |_,_=>false
def ZeD(cmp:α->α->Option Int)(x:α):Bool:=match cmp x x with
 |some a=> !decide (a<0)
 |none=>false
def Dz(cmp:α->α->Option Int):List α->Bool
 |[]=>true
 |x::l=>ZeD cmp x&&l.all (ltB cmp x) &&Dz cmp l
def sortF(cmp:α->α->Option Int)(xs:List α):Option (List α):=
 bif decide (xs.length<4294967296) then(R3 cmp xs).bind fun a=>bif Dz cmp a then some a else none else none
theorem Zgo{cmp:α->α->Option Int}{x:α} :∀{l m:List α},R1 cmp x l=some m->m.Perm (x::l)
 |[],m,h=>by simp only[R1,Option.some.injEq]at h;subst h;exact .refl _
 |y::l,m,h=>by
  simp only[R1,Vl]at h;obtain⟨c,_,h⟩:=h
  cases a:decide (c<0) with
  |true=>rw[a]at h;simp only[cond_true,Option.some.injEq]at h;subst h;exact .refl _
  |false=>
   rw[a]at h;simp only[cond_false,Vl,Option.some.injEq]at h;obtain⟨d,b,rfl⟩:=h;exact((Zgo b).cons y).trans (.swap _ _ _)
theorem Zd3{cmp:α->α->Option Int} :∀{l m:List α},R3 cmp l=some m->m.Perm l
 |[],m,h=>by simp only[R3,Option.some.injEq]at h;subst h;exact .refl _
 |x::l,m,h=>by simp only[R3,Vl]at h;obtain⟨c,a,b⟩:=h;exact(Zgo b).trans ((Zd3 a).cons x)
theorem Zmy{cmp:α->α->Option Int}{xs d:List α}(h:sortF cmp xs=some d):xs.length<4294967296/\d.Perm xs/\Dz cmp d=true:=by
 unfold sortF at h
 cases b:decide (xs.length<4294967296) with
 |false=>rw[b]at h;simp at h
 |true=>
  rw[b]at h;simp only[cond_true,Vl]at h;obtain⟨m,e,a⟩:=h
  cases c:Dz cmp m with
  |false=>rw[c]at a;simp at a
  |true=>rw[c]at a;simp only[cond_true,Option.some.injEq]at a;subst a;exact⟨of_decide_eq_true b,Zd3 e,c⟩
theorem ZkO{cmp:α->α->Option Int}{x y:α}(h:ltB cmp x y=true):∃a b,cmp x y=some a/\cmp y x=some b/\a<0/\0<b:=by
 unfold ltB at h;split at h
 ·rename_i a b c d;simp only[Vh,decide_eq_true_eq]at h;exact⟨a,b,c,d,h.1,h.2⟩
 ·simp at h
theorem ZtC{cmp:α->α->Option Int}{x:α}(h:ZeD cmp x=true):∃a,cmp x x=some a/\ ¬a<0:=by
 unfold ZeD at h;split at h
 ·rename_i a b;exact⟨a,b,by simpa using h⟩
 ·simp at h
theorem ZhD{cmp:α->α->Option Int} :∀{l:List α},Dz cmp l=true->∀(i j:Nat) (d:i<l.length) (e:j<l.length),∃c,cmp l[i] l[j]=some c/\(c<0↔i<j)
 |[],_,i,j,d,_=>by simp at d
 |x::l,h,i,j,d,e=>by
  simp only[Dz,Vh,Vw]at h;obtain⟨⟨m,k⟩,n⟩:=h
  match i,j,d,e with
  |0,0,_,_=>obtain⟨a,f,g⟩:=ZtC m;exact⟨a,f,by omega⟩
  |0,j+1,_,e=>obtain⟨a,b,f,_,g,_⟩:=ZkO (k _ (Vj (by simpa using e:j<l.length)));exact⟨a,by simpa using f,by omega⟩
  |i+1,0,d,_=>obtain⟨a,b,_,o,_,g⟩:=ZkO (k _ (Vj (by simpa using d:i<l.length)));exact⟨b,by simpa using o,by omega⟩
  |i+1,j+1,d,e=>
   obtain⟨c,p,g⟩:=ZhD n i j (by simpa using d) (by simpa using e);exact⟨c,by simpa using p,by omega⟩
theorem Zkd{cmp:α->α->Option Int}(lt:α->α->Prop)(x:α):∀(l:List α),(∀y∈l,∃c,cmp x y=some c/\(c<0↔lt x y))->(∀y∈l,lt x y\/lt y x)->(∀a∈l,∀b∈l,lt x a->lt a b->lt x b)->l.Pairwise lt->
 ∃m,R1 cmp x l=some m/\m.Pairwise lt
 |[],_,_,_,_=>⟨[x],rfl,by simp⟩
 |y::l,n,d,o,i=>by
  obtain⟨c,p,j⟩:=n y (by simp);rw[Vg]at i;simp only[R1,p,Option.bind_some];by_cases g:c<0
  ·rw[decide_eq_true g];refine⟨_,rfl,Vg.2 ⟨fun z e=>?_,Vg.2 i⟩⟩;rcases Vr.1 e with rfl|f
   ·exact j.1 g
   ·exact o y (by simp) z e (j.1 g) (i.1 z f)
  ·rw[decide_eq_false g];obtain⟨m,k,q⟩:=Zkd lt x l (fun z e=>n z (by simp [e])) (fun z e=>d z (by simp [e])) (fun a r b s=>o a (by simp [r]) b (by simp [s])) i.2;refine⟨y::m,by simp [k],Vg.2 ⟨fun z e=>?_,q⟩⟩;rcases Vr.1 ((Zgo k).mem_iff.1 e) with rfl|f
   ·exact(d y (by simp)).resolve_left fun h=>g (j.2 h)
   ·exact i.1 z f
theorem ZmD{cmp:α->α->Option Int}(lt:α->α->Prop):∀(l:List α),(∀x∈l,∀y∈l,∃c,cmp x y=some c/\(c<0↔lt x y)/\(0<c↔lt y x))->(∀x∈l,¬lt x x)->l.Pairwise lt->Dz cmp l=true
 |[],_,_,_=>rfl
 |x::l,h,k,e=>by
  rw[Vg]at e;simp only[Dz,Vh,Vw];refine⟨⟨?_,fun y f=>?_⟩,ZmD lt l (fun a j b o=>h a (by simp [j]) b (by simp [o])) (fun a j=>k a (by simp [j])) e.2⟩
  ·obtain⟨c,g,i,_⟩:=h x (by simp) x (by simp);unfold ZeD;rw[g];show (!decide (c<0))=true;rw[decide_eq_false fun p=>k x (by simp) (i.1 p)];rfl
  ·obtain⟨c,g,i,_⟩:=h x (by simp) y (by simp [f]);obtain⟨d,m,_,n⟩:=h y (by simp [f]) x (by simp);unfold ltB;rw[g,m];simp only[Vh,decide_eq_true_eq];exact⟨i.2 (e.1 y f),n.2 (e.1 y f)⟩
theorem Zmz{cmp:α->α->Option Int}(lt:α->α->Prop)(xs:List α)(A:xs.length<4294967296)(h:∀x∈xs,∀y∈xs,∃c,cmp x y=some c/\(c<0↔lt x y)/\(0<c↔lt y x))(j:∀x∈xs,¬lt x x)
 (D:∀a∈xs,∀b∈xs,∀c∈xs,lt a b->lt b c->lt a c) (o:xs.Pairwise fun a b=>lt a b\/lt b a):∃q,sortF cmp xs=some q/\q.Perm xs/\q.Pairwise lt:=by
 have key:∀l:List α,(∀x∈l,x∈xs)->(l.Pairwise fun a b=>lt a b\/lt b a)->∃m,R3 cmp l=some m/\m.Pairwise lt:=by
  intro l
  induction l with
  |nil=>exact fun _ _=>⟨[],rfl,.nil⟩
  |cons x l F=>
   intro p e;rw[Vg]at e;obtain⟨m,i,n⟩:=F (fun y d=>p y (by simp [d])) e.2;have k:∀y∈m,y∈l:=fun y d=>(Zd3 i).mem_iff.1 d;have g:=p x (by simp);have f:∀y∈m,y∈xs:=fun y d=>p y (by simp [k y d]);obtain⟨G,s,t⟩:=Zkd lt x m (fun y d=>(h x g y (f y d)).imp fun c r=>⟨r.1,r.2.1⟩) (fun y d=>e.1 y (k y d)) (fun a v b z=>D x g a (f a v) b (f b z)) n;exact⟨G,by simp [R3,i,s],t⟩
 obtain⟨m,i,n⟩:=key xs (fun _ h=>h) o;have e:=Zd3 i;have C:=ZmD lt m (fun x g y d=>h x (e.mem_iff.1 g) y (e.mem_iff.1 d)) (fun x g=>j x (e.mem_iff.1 g)) n;exact⟨m,by unfold sortF;rw[decide_eq_true A];simp [i,C],e,n⟩
theorem sortF_sorted{cmp:α->α->Option Int}(lt:α->α->Prop)(xs:List α)(o:xs.length<4294967296)(h:∀x∈xs,∀y∈xs,∃c,cmp x y=some c/\(c<0↔lt x y)/\(0<c↔lt y x))(d:∀x∈xs,¬lt x x)
 (i:∀a∈xs,∀b∈xs,∀c∈xs,lt a b->lt b c->lt a c) (g:xs.Pairwise lt):sortF cmp xs=some xs:=by
 obtain⟨p,j,e,k⟩:=Zmz lt xs o h d i (g.imp fun h=>.inl h);rw[j];congr 1;refine List.Perm.eq_of_pairwise (le:=lt) (fun a b f n l m=>?_) k g e;exact absurd (i a (e.mem_iff.1 f) b n a (e.mem_iff.1 f) l m) (d a (e.mem_iff.1 f))
def Zfg(cmp:α->α->Option Int)(z:List α):Prop:= ∃d:α->Nat,(∀a∈z,∀b∈z,∃c,cmp a b=some c/\(c<0↔d a<d b))/\(∀a∈z,∀b∈z,d a=d b->a=b)/\z.Pairwise fun a b=>d a<=d b
theorem ZmE{cmp:α->α->Option Int}{z:List α}(h:Dz cmp z=true):Zfg cmp z:=by
 have s:∃n:α->Nat,∀a,a∈z->z[n a]? =some a:=by
  refine Classical.axiomOfChoice (r:=fun(a:α) (i:Nat)=>a∈z->z[i]? =some a) fun a=>?_;by_cases g:a∈z
  ·obtain⟨i,k,l⟩:=List.getElem_of_mem g;exact⟨i,fun _=>by rw[Vb k,l]⟩
  ·exact⟨0,fun h=>absurd h g⟩
 obtain⟨n,d⟩:=s
 have m:∀a∈z,∀b∈z,∃c,cmp a b=some c/\(c<0↔n a<n b):=fun a g b p=>by
  obtain⟨k,f⟩:=Vha.1 (d a g);obtain⟨o,l⟩:=Vha.1 (d b p);have:=ZhD h _ _ k o
  rwa [f,l]at this
 refine⟨n,m,fun a g b p e=>?_,?_⟩
 ·have f:=d a g;rw[e,d b p]at f;exact(Option.some.inj f).symm
 ·rw[Ve];intro i j k o q;obtain⟨c,f,l⟩:=ZhD h i j k o;obtain⟨x,t,v⟩:=m _ (Vj k) _ (Vj o);rw[f]at t;cases t;exact Nat.le_of_lt (v.1 (l.2 q))
end Tr
end
section
namespace Tr
open Go Go.Proofs Go.Shelf
abbrev ZpX(T:Ty):Pats:=.cons (.pd T) (.cons (.pd T) .nil)
abbrev Zjl:Pats:=.cons (.pd (.int .i64)) .nil
def ZfT(T:Ty)(cmp:El T->El T->Option Int):Spec:= {args:=ZpX T,res:=Zjl,fns:=[],α:=Int,f:=fun x=>cmp x.1 x.2.1,unp:=fun z=>(((),(),()),(z,()))}
def ZeJ(T:Ty)(g:FuncId)(f:List (El T)->Option (List (El T))):Spec:= {args:=.cons (.own T true) (.cons (.fn g .nil) .nil),res:=.nil,fns:=[g],α:=List (El T),f:=fun x=>f x.1,unp:=fun z=>((z,(),()),())}
def ZtV(T:Ty)(g:FuncId)(cmp:El T->El T->Option Int):Spec:=ZeJ T g (sortF cmp)
theorem Znl{w w' :World}(e:w'.os=w.os)(c:w'.tape=w.tape)(f:X2 w' w)(g:w.heap.size<=w'.heap.size)(a:∀b,b<w.heap.size->w'.heap[b]? =w.heap[b]?):
 w' =Sort.grow (w.drewN (w'.drawn - w.drawn)) (w'.heap.extract w.heap.size w'.heap.size):=by
 obtain⟨j,m⟩:=f;obtain⟨h,t,d,o,p⟩:=w;obtain⟨l,v,q,r,s⟩:=w';simp only at e c g a j m;subst e c j;unfold Sort.grow World.drewN;simp only[World.mk.injEq,true_and,and_true];refine⟨?_,by omega⟩;apply Array.ext_getElem?;intro k;rw[Array.getElem?_append];split
 ·rename_i i;exact a k i
 ·rename_i i;rw[Array.getElem?_extract];by_cases n:k<l.size
  ·rw[Zp (by omega),show h.size+(k - h.size)=k by omega]
  ·rw[Zf (by omega)];simp;omega
theorem ZdQ{α:Type}[Inhabited α]{enc:α->List Value}{k:Nat}(f:∀x,(enc x).length=k)(d:Array α):(Sort.flatK enc k d).toList=(d.toList.map enc).flatten:=by
 apply Vv;intro t
 have l:∀c∈d.toList.map enc,c.length=k:=by intro c g;obtain⟨x,_,rfl⟩:=Vna.1 g;exact f x
 have i:=JV l;simp only[List.length_map,Vca]at i;by_cases a:t<d.size*k
 ·have b:0<k:=Nat.pos_of_ne_zero fun h=>by subst h;simp at a
  have m:t / k<d.size:=by rw[Nat.div_lt_iff_lt_mul b];exact a
  have j:t % k<k:=Nat.mod_lt _ b
  have g:(d.toList.map enc)[t / k]? =some (enc d[t / k]!):=by rw[Via,Vc,Vf m,getElem!_pos d _ m];rfl
  obtain⟨n,o,_⟩:=D9 g k l
  have e:t=((d.toList.map enc).take (t / k)).flatten.length+t % k:=by rw[o];have:=Nat.div_add_mod t k;rw[Nat.mul_comm]at this;omega
  rw[Vc,Vf (by simpa using a), <-getElem!_pos (Sort.flatK enc k d) t (by simpa using a),Sort.get_flatK _ _ _ _ a,n,List.append_assoc];rw[List.getElem?_append_right (by omega),show t - ((d.toList.map enc).take (t / k)).flatten.length=t % k by omega,Vp (by rw[f];exact j)];rw[Vb (by rw[f];exact j),getElem!_pos _ _ (by rw[f];exact j)]
 ·rw[Vo (by simpa using a),Vo (by omega)]
theorem Zgd{w:World}{I:Nat->Prop}{T:Ty}{α:Type}{f:α->El T}{e:α->List Value}(h:∀p,Rd w I T (f p) (e p)):∀l:List α,Fa (Rd w I T) (l.map f) (l.map e)
 |[]=>trivial
 |p::l=>⟨h p,Zgd h l⟩
theorem Zh0{w:World}{I:Nat->Prop}{T:Ty} :∀{xs:List (El T)}{css:List (List Value)},Fa (Rd w I T) xs css->∀p∈xs.zip css,Rd w I T p.1 p.2
 |[],[],_,p,h=>by simp at h
 |x::xs,c::css,⟨a,b⟩,p,h=>by
  rw[List.zip_cons_cons]at h;rcases Vr.1 h with rfl|h
  ·exact a
  ·exact Zh0 b p h
section
variable {P:Program}{ρ:Ren}
theorem ZeK(L:SlLaysF0.n6 P ρ)(p:Option Addr)(cap:Nat)(a:Value)(w:World):Calls P (ρ.f 6) #[.slice p 0 cap,a] w fun e w' =>e=.returned (.tuple #[])/\w' =w:=AnyF.slices_SortFunc_none L p cap a w
theorem ZpZ{T:Ty}{g:FuncId}{cmp:El T->El T->Option Int}(n:T.agg=true)(D:ZX P g (ZfT T cmp)){w:World}{I:Nat->Prop}(s:∀b,I b->b<w.heap.size){x y:El T}{f i:List Value}(F:Rd w I T x f)(G:Rd w I T y i){z:Int}(J:cmp x y=some z):
 Calls P g #[.agg f.toArray,.agg i.toArray] w fun e w' =>e=.returned (.int .i64 z)/\ ∃q m,w' =Sort.grow (w.drewN q) m:=by
 refine(D.run w I [.agg f.toArray,.agg i.toArray] [] (x,y,()) z ⟨[],[],_,_,rfl,rfl,⟨⟨rfl,by simpa [Vi] using F⟩,.inr (by rw[show (Zy.pd T).isAgg=T.agg from rfl,n];rfl)⟩,[],[],_,_,rfl,rfl,⟨⟨rfl,by simpa [Vi] using G⟩,.inr (by rw[show (Zy.pd T).isAgg=T.agg from rfl,n];rfl)⟩,rfl,rfl⟩ .nil (by simp) s (fun h=>by cases h) J).mono ?_;rintro e w' ⟨Q,rfl,K,N,O,_,⟨vs,k,rfl⟩,_,_,_,_,j,d,a,l,c⟩;obtain⟨L,M,v,r,_,rfl,⟨C,t⟩,_,rfl⟩:=k;refine⟨?_,_,_,Znl j d ⟨a.out,a.drawn rfl⟩ l fun b A=>c b A (by simp)⟩;have o:v.cells.toList=[.int .i64 z]:=C.2;have p:Ka v=false:=t.resolve_left fun h=>by cases h
 rw[KU o p];rfl
theorem ZtU{T:Ty}{g:FuncId}{cmp:El T->El T->Option Int}{f:List (El T)->Option (List (El T))}(hf:∀xs z,f xs=some z->xs.length<4294967296/\z.Perm xs/\Zfg cmp z)(L:SlLaysF0.n6 P ρ)(hT:T.agg=true)(aE:∀w,(isAgg (ρ.t 24)).run P w=.ok true w)(zE:∀w,(Go.sizeOf (ρ.t 24)).run P w=.ok T.size w)(hg:ZX P g (ZfT T cmp)):
 ZX P (ρ.f 6) (ZeJ T g f) where
 wf:=rfl
 fn:=by obtain⟨nm,W,J⟩:=L.f6;exact⟨_,J,rfl,W⟩
 run:=by
  intro w I g6 js x (z:List (El T)) f5 e9 G hI _ hz;obtain⟨j1,j2,v,r,rfl,rfl,⟨f4,d9⟩,j3,j4,v2,r2,rfl,rfl,⟨d3,N⟩,rfl,rfl⟩:=f5;obtain⟨cc,e3,rfl,rfl⟩:=d3;have f9:v2=.func (.func g) #[] #[]:=KU e3 (N.resolve_left fun h=>by cases h);subst f9;have a2:Ka v=false:=d9.resolve_left fun h=>by cases h
  obtain⟨g5,o,rk,a0,d0,d6⟩:=hf x.1 z hz
  have back:∀{w' :World}{rv:Value},rv=.tuple #[]->PC w' I (.own T true) z j1 v.cells.toList->(∀b,I b->b<w'.heap.size)->w'.os=w.os->w'.tape=w.tape->X2 w' w->w.heap.size<=w'.heap.size->(∀b,b<w.heap.size->b ∉ j1->w'.heap[b]? =w.heap[b]?)->
   Rz (ZeJ T g f) w I (j1++[]) [v,.func (.func g) #[] #[]] ((ZeJ T g f).unp z) rv w' :=by
   intro w' rv f7 d2 d8 W J X h4 h5;refine⟨I,j1++[],[],⟨j1,[],_,_,rfl,rfl,d2,[],[],_,_,rfl,rfl,⟨[],by simp [Vi],rfl⟩,rfl⟩,⟨[],⟨rfl,rfl⟩,f7⟩,by simpa using e9,fun b U=>?_,fun _ h=>h,fun b U=>⟨d8 b U,.inl U⟩,W,J,⟨X.out,fun _=>X.drawn⟩,h4,fun b U V=>h5 b U (by simpa using V)⟩;have l:b∈j1++[]:=by simpa using U
   exact⟨(G b (by simpa using l)).1,by have:=(G b (by simpa using l)).2;omega,.inl (by simpa using l)⟩
  rcases f4 with ⟨rfl,hx,hc⟩|⟨b,cap,cells,e,k,rfl,hc,hh,a4,c4,b2,rest,b9⟩
  ·have hv:v=.slice none 0 0:=KU hc a2;have S:z=[]:=by rw[hx]at o;exact Vja.1 o
   subst hv;refine(ZeK L none 0 _ w).mono ?_;rintro e w' ⟨rfl,rfl⟩;exact⟨_,rfl,back rfl (.inl ⟨rfl,S,rfl⟩) hI rfl rfl .rfl (Vn _) fun _ _ _=>rfl⟩
  have hv:v=.slice (some ⟨b,0,none⟩) x.1.length cap:=KU hc a2;subst hv;by_cases b7:x.1=[]
  ·have S:z=[]:=by rw[b7]at o;exact Vja.1 o
   have h0:x.1.length=0:=by rw[b7];rfl
   rw[h0];refine(ZeK L _ cap _ w).mono ?_;rintro e' w' ⟨rfl,rfl⟩;refine⟨_,rfl,?_⟩;have:=back (w' :=w') (rv:=.tuple #[]) rfl (.inr ⟨b,cap,cells,e,[],rfl,by rw[S];simp [Vi,h0],hh,by rw[S];exact Vq _,c4,by rw[S];trivial,Vab⟩) hI rfl rfl .rfl (Vn _) fun _ _ _=>rfl;rw[h0]at this;exact this
  have U:=G b (by simp);have b5:x.1.length=k.length:=b2.length;have C:(x.1.zip k).map Vbb=x.1:=Vva (by omega);have c6:(x.1.zip k).map Vcb=k:=Vwa (by omega);have R:=Zh0 b2;have a7:∀p∈x.1.zip k,p.1∈z:=fun p hp=>o.mem_iff.2 (by rw[<-C];exact Vna.2 ⟨p,hp,rfl⟩)
  let α:= {p:El T×List Value // p∈x.1.zip k}
  have d1:x.1.zip k≠ []:=by intro h0;rw[h0]at C;exact b7 C.symm
  obtain⟨p0,f3⟩:=Vka _ d1
  letI:Inhabited α:=⟨⟨p0,f3⟩⟩
  let enc:α->List Value:=fun p=>p.1.2
  let cf:α->α->Int:=fun p q=>(cmp p.1.1 q.1.1).getD 0
  let ix:α->Nat:=fun p=>rk p.1.1
  have c7:∀p q:α,∃c,cmp p.1.1 q.1.1=some c/\(c<0↔ix p<ix q):=fun p q=>a0 _ (a7 p.1 p.2) _ (a7 q.1 q.2)
  have b6:∀p q:α,ltOf cf p q=decide (ix p<ix q):=fun p q=>by
   obtain⟨c,W,J⟩:=c7 p q;show decide ((cmp p.1.1 q.1.1).getD 0<0)=_;rw[W];show decide (c<0)=_;by_cases h:c<0
   ·rw[Zd h,Zd (J.1 h)]
   ·rw[Zk h,Zk fun X=>h (J.2 X)]
  have hO:Go.Sort.SWO (ltOf cf):=by
   refine⟨fun p=>?_,fun p q r W J=>?_,fun p q r W J=>?_⟩
   ·rw[b6];simp
   ·rw[b6]at*;simp at*;omega
   ·rw[b6]at*;simp at*;omega
  have hk:∀p:α,(enc p).length=T.size:=fun p=>Rd.length T _ _ (R p.1 p.2);have W:∀p:α,∀v∈enc p,v.oneCell' =true:=fun p=>Rd.oneCell T _ _ (R p.1 p.2)
  let d:Array α:=((x.1.zip k).attach).toArray
  have b1:d.toList=(x.1.zip k).attach:=by simp [d]
  have M:d.size=x.1.length:=by
   have:d.toList.length=x.1.length:=by rw[b1,Vqa,Vdb];omega
   simpa using this
  have e6:d.toList.map enc=k:=by
   rw[b1];have:(x.1.zip k).attach.map enc=((x.1.zip k).attach.map Subtype.val).map Vcb:=by rw[Vy];rfl
   rw[this,Vm,c6]
  have e4:cells.toList=k.flatten++rest:=b9.symm;have Q:(Go.Sort.flatK enc T.size d).toList=k.flatten:=by rw[ZdQ hk,e6]
  have g4:k.flatten.length=x.1.length*T.size:=by rw[JV (Rd.all_length b2),b5]
  have a3:b<w.heap.size:=U.2
  have hH:Go.Sort.HoldsK enc T.size w b 0 d:=by
   intro j V;rw[Go.Sort.size_flatK,M]at V;have b4:j<k.flatten.length:=by omega
   constructor
   ·have J:(Go.Sort.flatK enc T.size d)[j]! =k.flatten[j]:=by
     rw[getElem!_pos _ j (by rw[Go.Sort.size_flatK,M];exact V)];have X:(Go.Sort.flatK enc T.size d).toList[j]'(by rw[Q];exact b4)=k.flatten[j]:=by simp only[Q]
     simpa using X
    rw[J]
    have h4:cells[j]? =some k.flatten[j]:=by rw[<-Vc,e4,Vp b4,Vb b4]
    simp only[Voa,hh,Vaa,Vda,Vs,if_false,h4,id]
   ·simp [Vga,hh]
  have c9:CmpLays P g #[] enc T.size cf b 0 d.size w:=by
   intro m os dk g7 p q;obtain⟨c,c8,_⟩:=c7 p q
   have b8:∀A,I A->(sortWorldK enc T.size w b 0 m dk os).heap[A]? =w.heap[A]? :=by intro A l;have F:A≠b:=fun h=>U.1 (h▸l);have D:=hI A l;unfold sortWorldK Go.Sort.putRowK Go.Sort.putRow Go.Sort.mapBlock Go.Sort.grow;simp only;rw[Va (by simp;exact D),Vd,Zf (Ne.symm F)];rfl
   have a1:Kj I w (sortWorldK enc T.size w b 0 m dk os):=fun A l=>b8 A l;have a8:w.heap.size<=(sortWorldK enc T.size w b 0 m dk os).heap.size:=size_sortWorldK_c enc T.size w b 0 m dk os;have:=ZpZ hT hg (w:=sortWorldK enc T.size w b 0 m dk os) (I:=I) (fun A l=>by have:=hI A l;omega) (Rd.mono a1 (fun _ h=>h) _ _ _ (R p.1 p.2)) (Rd.mono a1 (fun _ h=>h) _ _ _ (R q.1 q.2)) c8;have e5:cf p q=c:=by show (cmp p.1.1 q.1.1).getD 0=c;rw[c8];rfl
   rw[e5];exact this
  have a5:=AnyQ.slices_SortFunc L T.size aE zE enc hk W cf hO g #[] b 0 cap d w (ZeA hg · ·) c9 hH a3 (by rw[M];omega);rw[M]at a5;refine a5.mono ?_;rintro ex w' ⟨rfl,s,n,os,hp,hs,rfl⟩;have a6:s.size=x.1.length:=hp.1.trans M
  have Z:s.toList.Perm d.toList:=by
   have J:=hp.2.2;rw[<-M]at J;have e1:d.extract 0 d.size=d:=by simp
   have e2:s.extract 0 d.size=s:=by rw[<-hp.1];simp
   rw[e1,e2]at J;exact J
  have d5:(s.toList.map fun p=>p.1.1).Perm z:=by
   refine(Z.map _).trans ?_;rw[b1];have:(x.1.zip k).attach.map (fun p:α=>p.1.1)=((x.1.zip k).attach.map Subtype.val).map Vbb:=by rw[Vy];rfl
   rw[this,Vm,C];exact o.symm
  have g1:(s.toList.map fun p=>p.1.1)=z:=by
   refine List.Perm.eq_of_pairwise (le:=fun a c=>¬((cmp c a).getD 0<0)) (fun a c ha hc X h4=>?_) ?_ ?_ d5
   ·have a9:=d5.mem_iff.1 ha;obtain⟨c1,e1,f1⟩:=a0 a a9 c hc;obtain⟨c2,e2,f2⟩:=a0 c hc a a9;rw[e2]at X;rw[e1]at h4;refine d0 a a9 c hc ?_;simp only[Vxa]at X h4;omega
   ·rw[Vua,Ve];intro i j hi V b3;have h5:j<s.size:=by simpa using V
    have:=hs i j (Vq _) b3 (by omega);have e7:i<s.size:=by simpa using hi
    have e8:j<s.size:=by simpa using V
    rw[getElem!_pos s j e8,getElem!_pos s i e7]at this;have h6:¬cf s[j] s[i]<0:=of_decide_eq_false this;simpa using h6
   ·rw[Ve];intro i j hi V b3;obtain⟨c2,e2,f2⟩:=a0 _ (Vj V) _ (Vj hi);have h7:=Ve.1 d6 i j hi V b3;rw[e2];show¬c2<0;omega
  have O:=Zgd (w:=w) (I:=I) (T:=T) (f:=fun p:α=>p.1.1) (e:=enc) (fun p=>R p.1 p.2) s.toList;rw[g1]at O
  have N:Kj I w (sortWorldK enc T.size w b 0 n s os):=by intro A l;have F:A≠b:=fun h=>U.1 (h▸l);have D:=hI A l;unfold sortWorldK Go.Sort.putRowK Go.Sort.putRow Go.Sort.mapBlock Go.Sort.grow;simp only;rw[Va (by simp;exact D),Vd,Zf (Ne.symm F)];rfl
  have a8:w.heap.size<=(sortWorldK enc T.size w b 0 n s os).heap.size:=size_sortWorldK_c enc T.size w b 0 n s os
  have Y:∀A,A<w.heap.size->A ∉ [b]->(sortWorldK enc T.size w b 0 n s os).heap[A]? =w.heap[A]? :=by
   intro A D l;have F:A≠b:=by simpa using l
   unfold sortWorldK Go.Sort.putRowK Go.Sort.putRow Go.Sort.mapBlock Go.Sort.grow;simp only;rw[Va (by simp;exact D),Vd,Zf (Ne.symm F)];rfl
  have b0:(sortWorldK enc T.size w b 0 n s os).heap[b]? =some (.cells (Go.Sort.putCells id 0 (Go.Sort.flatK enc T.size s) cells) e (0,0)):=by unfold sortWorldK Go.Sort.putRowK Go.Sort.putRow Go.Sort.mapBlock Go.Sort.grow;simp only;rw[Va (by simp;exact a3),Vd,Zp rfl];show (w.heap[b]?).map _=_;rw[hh];rfl
  have d7:z.length=x.1.length:=o.length_eq;have K:(Go.Sort.flatK enc T.size s).toList=(s.toList.map enc).flatten:=ZdQ hk s
  have g3:(s.toList.map enc).flatten.length=x.1.length*T.size:=by rw[<-K,Vca,Go.Sort.size_flatK,a6]
  have d4:(s.toList.map enc).flatten<+:(Go.Sort.putCells id 0 (Go.Sort.flatK enc T.size s) cells).toList:=by
   have g2:x.1.length*T.size<=cells.size:=Vsa (Vpa _ a4) c4;rw[Vu];apply Vv;intro t;rw[Vt];by_cases ht:t<x.1.length*T.size
   ·rw[Zp (by omega)];have f8:t<cells.size:=by omega
    have c5:t<(Go.Sort.flatK enc T.size s).size:=by rw[Go.Sort.size_flatK,a6];exact ht
    have hR:(Go.Sort.putCells id 0 (Go.Sort.flatK enc T.size s) cells)[t]? =some (Go.Sort.flatK enc T.size s)[t]! :=by unfold Go.Sort.putCells;rw[Vx,Vf f8];simp only[Veb,Vq,Vaa,true_and,c5,if_true,Nat.sub_zero,id]
    rw[<-Vc]at hR;rw[hR,getElem!_pos _ t c5, <-K];rw[Vc,Vf c5]
   ·rw[Zf (by omega),Vo (by omega)]
  refine⟨_,rfl,back rfl (.inr ⟨b,cap,_,e,s.toList.map enc,rfl,by rw[d7];simp [Vi],b0,by rw[d7];exact a4,by unfold Go.Sort.putCells;simpa using c4,O.mono fun y c hy=>Rd.mono N (fun _ h=>h) T y c hy,d4⟩) (fun A l=>by have:=hI A l;omega) rfl rfl ⟨rfl,?_⟩ a8 Y⟩;show w.drawn<=w.drawn+n;omega
theorem sortFunc_ok{T:Ty}{g:FuncId}{cmp:El T->El T->Option Int}(L:SlLaysF0.n6 P ρ)(e:T.agg=true)(a:∀w,(isAgg (ρ.t 24)).run P w=.ok true w)(j:∀w,(Go.sizeOf (ρ.t 24)).run P w=.ok T.size w)(i:ZX P g (ZfT T cmp)):
 ZX P (ρ.f 6) (ZtV T g cmp):=ZtU (cmp:=cmp) (fun _ _ h=>by obtain⟨b,c,d⟩:=Zmy h;exact⟨b,c,ZmE d⟩) L e a j i
end
end Tr
end
section
namespace Tr
open Go Go.Proofs Go.Shelf
def R2(x:Int):List Int->List Int
 |[]=>[x]
 |y::l=>bif decide (x<=y) then x::y::l else y::R2 x l
def Yf:List Int->List Int
 |[]=>[]
 |x::l=>R2 x (Yf l)
def sortI(l:List Int):Option (List Int):=bif decide (l.length<4294967296) then some (Yf l) else none
def YF(x:Int):List Int->List Int
 |[]=>[]
 |y::l=>bif decide (y=x) then YF x l else y::YF y l
def Jh:List Int->List Int
 |[]=>[]
 |x::l=>x::YF x l
def compactI(l:List Int):Option (List Int):=bif decide (l.length<4294967296) then some (Jh l) else none
theorem Zgp(x:Int):∀l,(R2 x l).Perm (x::l)
 |[]=>.refl _
 |y::l=>by
  simp only[R2]
  cases decide (x<=y) with
  |true=>exact .refl _
  |false=>exact((Zgp x l).cons y).trans (.swap _ _ _)
theorem Zd4:∀l,(Yf l).Perm l
 |[]=>.refl _
 |x::l=>(Zgp x _).trans ((Zd4 l).cons x)
theorem Zke(x:Int):∀{l:List Int},l.Pairwise (· <= ·)->(R2 x l).Pairwise (· <= ·)
 |[],_=>by simp [R2]
 |y::l,h=>by
  simp only[R2];obtain⟨c,d⟩:=Vg.1 h;by_cases a:x<=y
  ·rw[Zd a];refine Vg.2 ⟨fun z b=>?_,h⟩;rcases Vr.1 b with rfl|b
   ·exact a
   ·exact Int.le_trans a (c z b)
  ·rw[Zk a];refine Vg.2 ⟨fun z b=>?_,Zke x d⟩;rcases Vr.1 ((Zgp x l).mem_iff.1 b) with rfl|b
   ·omega
   ·exact c z b
theorem Zkl:∀l,(Yf l).Pairwise (· <= ·)
 |[]=>.nil
 |x::l=>Zke x (Zkl l)
theorem Zre(l:List Int):(l.mergeSort fun x y=>decide (x<=y))=Yf l:=by refine List.Perm.eq_of_pairwise (le:=fun a b=>a<=b) (fun a b _ _ d e=>Int.le_antisymm d e) ?_ (Zkl l) ((List.mergeSort_perm l _).trans (Zd4 l).symm);have:=List.pairwise_mergeSort (le:=fun x y:Int=>decide (x<=y)) (fun a b c d e=>by simp at*;omega) (fun a b=>by simp;omega) l;exact this.imp fun h=>by simpa using h
theorem ZfY(y:Int):∀(l:List Int) (x:Int),YF x (l++[y])=YF x l++if y=(l.getLast?).getD x then [] else [y]
 |[],x=>by
  simp only[List.nil_append,YF];by_cases h:y=x
  ·rw[Zd h];simp [h]
  ·rw[Zk h];simp [h]
 |z::l,x=>by
  simp only[Vya,YF]
  have e:∀a,((z::l).getLast?).getD a=(l.getLast?).getD z:=fun a=>by rw[Vra];rfl
  by_cases h:z=x
  ·rw[Zd h];simp only[Zc];rw[ZfY y l x,e,h]
  ·rw[Zk h];simp only[Ze];rw[ZfY y l z,e];simp
theorem Zp2(y:Int)(l:List Int):Jh (l++[y])=Jh l++if l.getLast? =some y then [] else [y]:=by
 cases l with
 |nil=>simp [Jh,YF]
 |cons x l=>
  simp only[Vya,Jh,ZfY];rw[Vra];by_cases h:y=(l.getLast?).getD x
  ·rw[Zp h,Zp (by rw[h])]
  ·rw[Zf h,Zf (fun a=>h (by simpa using a.symm))]
theorem Zp3(l:List Int):Go.Lib.compact l=Jh l:=by
 have:∀m,m<=l.length->Go.Lib.compactUpTo l.toArray m=Jh (l.take m):=by
  intro m
  induction m with
  |zero=>intro _;rfl
  |succ m i=>
   intro g;have a:m<l.length:=g;have b:l.toArray[m]! =l[m]:=by simp [a]
   have d:l.take (m+1)=l.take m++[l[m]]:=by rw[List.take_add_one,Vb a];rfl
   rw[d,Zp2, <-i (by omega)];unfold Go.Lib.compactUpTo;rw[List.range_succ,List.filter_append,Vfb];congr 1
   cases m with
   |zero=>simp [Go.Lib.keeps,a]
   |succ m=>
    have c:l.toArray[m]! =l[m]:=by simp [show m<l.length by omega]
    have e:(l.take (m+1)).getLast?=some l[m]:=by rw[List.getLast?_eq_getElem?,List.length_take,Nat.min_eq_left (by omega),Vt,Zp (by omega),Vea,Vb (by omega)]
    rw[e];by_cases h:l[m+1]=l[m]
    ·rw[Zp (by rw[h]),List.filter_cons_of_neg (by simp only[Go.Lib.keeps,Vea,b,c];simp [h])];rfl
    ·rw[Zf (fun f=>h (by simpa using f.symm)),List.filter_cons_of_pos (by simp only[Go.Lib.keeps,Vea,b,c];simp [h])];simp [a]
 have h:=this l.length (Vn _);rw[List.take_length]at h;exact h
theorem ZfW:∀(l:List Int) (x:Int),(YF x l).length<=l.length
 |[],_=>Vn _
 |y::l,x=>by
  simp only[YF]
  cases decide (y=x) with
  |true=>have:=ZfW l x;simp only[Zc,Vla];omega
  |false=>have:=ZfW l y;simp only[Ze,Vla];omega
theorem Zjo(l:List Int):(Jh l).length<=l.length:=by
 cases l with
 |nil=>exact Vn _
 |cons x l=>simp only[Jh,Vla];have:=ZfW l x;omega
abbrev DG:Ty:=.int .i64
def Zhz:Spec:= {args:=.cons (.own DG true) .nil,res:=.nil,fns:=[],α:=List Int,f:=fun x=>sortI x.1,unp:=fun z=>((z,()),())}
def ZfZ:Spec:= {args:=.cons (.own DG false) .nil,res:=.cons (.own DG false) .nil,fns:=[],α:=List Int,f:=fun x=>compactI x.1,unp:=fun z=>(((),()),(z,()))}
theorem Zgc{w:World}{I:Nat->Prop} :∀{xs:List Int}{css:List (List Value)},Fa (Rd w I DG) xs css->css=xs.map fun x=>[.int .i64 x]
 |[],[],_=>rfl
 |x::xs,c::css,⟨b,a⟩=>by rw[Zgc a,Vib];congr 1
theorem Zgq{w:World}{I:Nat->Prop} :∀xs:List Int,Fa (Rd w I DG) xs (xs.map fun x=>[Vk .i64 x])
 |[]=>trivial
 |_::xs=>⟨rfl,Zgq xs⟩
theorem ZdR(xs:List Int):(xs.map fun x=>[Vk .i64 x]).flatten=xs.map (Vk .i64):=by
 induction xs with
 |nil=>rfl
 |cons x xs a=>simp [a]
theorem Zj5{w:World}{b:Nat}{cells:Array Value}{e:TypeId}{xs:List Int}(c:w.heap[b]? =some (.cells cells e (0,0)))(g:xs.map (Vk .i64)<+:cells.toList):Go.Sort.Holds (Vk .i64) w b 0 xs.toArray:=by
 intro j f;have a:j<xs.length:=by simpa using f
 constructor
 ·have d:cells[j]? =some (Vk .i64 xs[j]):=by obtain⟨r,h⟩:=g;rw[<-Vc, <-h,Vp (by simpa using a),Via,Vb a];rfl
  simp only[Voa,c,Vaa,Vda,Vs,if_false,d];simp [a]
 ·simp [Vga,c]
theorem ZlI{cells:Array Value}{a:List Int}(h:a.length<=cells.size):a.map (Vk .i64)<+:(Go.Sort.putCells (Vk .i64) 0 a.toArray cells).toList:=by
 rw[Vu];apply Vv;intro t;rw[Vt];by_cases b:t<a.length
 ·rw[Zp (by simpa using b)]
  have c:(Go.Sort.putCells (Vk .i64) 0 a.toArray cells)[t]? =some (Vk .i64 a[t]):=by unfold Go.Sort.putCells;rw[Vx,Vf (by omega)];simp [b]
  rw[<-Vc]at c;rw[c,Via,Vb b];rfl
 ·rw[Zf (by simpa using b),Vo (by simp;omega)]
theorem Zj3{w:World}{enc:Int->Value}{b n:Nat}{d:Array Int}{os:Array Obj}{a:Nat}(h:a<w.heap.size)(c:a≠b):(Go.Sort.grow (Go.Sort.putRow enc (Go.Sort.ahead w n) b 0 d) os).heap[a]? =w.heap[a]? :=by unfold Go.Sort.putRow Go.Sort.mapBlock Go.Sort.grow Go.Sort.ahead;simp only;rw[Va (by simp;exact h),Vd,Zf (Ne.symm c)]
theorem Zj4{w:World}{enc:Int->Value}{b n:Nat}{d:Array Int}{os:Array Obj}{cells:Array Value}{e:TypeId}(h:b<w.heap.size)(a:w.heap[b]? =some (.cells cells e (0,0))):(Go.Sort.grow (Go.Sort.putRow enc (Go.Sort.ahead w n) b 0 d) os).heap[b]? =some (.cells (Go.Sort.putCells enc 0 d cells) e (0,0)):=by unfold Go.Sort.putRow Go.Sort.mapBlock Go.Sort.grow Go.Sort.ahead;simp only;rw[Va (by simp;exact h),Vd,Zp rfl];show (w.heap[b]?).map _=_;rw[a];rfl
section
variable {P:Program}{ρ:Ren}
theorem sortInt_ok (L:Lays.n189 P ρ) (hf:∃fn,P.funcs[ρ.f 189]? =some fn∧fn.body.isNone=false∧(fn.name== "runtime.NumGoroutine")=false):ZX P (ρ.f 189) Zhz where
 wf:=rfl
 fn:=hf
 run:=by
  intro w I Y js x (z:List Int) K G c V _ k;obtain⟨m,j2,v,r,rfl,rfl,⟨J,t⟩,rfl,rfl⟩:=K;have j:Ka v=false:=t.resolve_left fun h=>by cases h
  have Q:x.1.length<4294967296/\Yf x.1=z:=by
   have k:sortI x.1=some z:=k;unfold sortI at k
   cases A:decide (x.1.length<4294967296) with
   |false=>rw[A]at k;simp at k
   |true=>rw[A]at k;simp only[Zc,Option.some.injEq]at k;exact⟨X8 A,k⟩
  obtain⟨X,rfl⟩:=Q;have l:=Zd4 x.1
  have back:∀{g:World}{S:Value},S=.tuple #[]->PC g I (.own DG true) (Yf x.1) m v.cells.toList->(∀b,I b->b<g.heap.size)->g.os=w.os->g.tape=w.tape->X2 g w->w.heap.size<=g.heap.size->(∀b,b<w.heap.size->b ∉ m->g.heap[b]? =w.heap[b]?)->
   Rz Zhz w I (m++[]) [v] (Zhz.unp (Yf x.1)) S g:=by
   intro g S M p s h1 h2 U h4 h5;refine⟨I,m++[],[],⟨m,[],_,_,rfl,rfl,p,rfl⟩,⟨[],⟨rfl,rfl⟩,M⟩,by simpa using G,fun b i=>?_,fun _ h=>h,fun b i=>⟨s b i,.inl i⟩,h1,h2,⟨U.out,fun _=>U.drawn⟩,h4,fun b i hj=>h5 b i (by simpa using hj)⟩;have a:b∈m++[]:=by simpa using i
   exact⟨(c b (by simpa using a)).1,by have:=(c b (by simpa using a)).2;omega,.inl (by simpa using a)⟩
  rcases J with ⟨rfl,hx,y⟩|⟨b,cap,cells,e,Z,rfl,y,W,o,N,C,d⟩
  ·have O:v=.slice none 0 0:=KU y j;have R:Yf x.1=[]:=by rw[hx];rfl
   subst O;refine(Any.slices_Sort_int_none L none 0 w).mono ?_;rintro e g ⟨rfl,rfl⟩;exact⟨_,rfl,back rfl (.inl ⟨rfl,R,rfl⟩) V rfl rfl .rfl (Vn _) fun _ _ _=>rfl⟩
  have O:v=.slice (some ⟨b,0,none⟩) x.1.length cap:=KU y j;subst O;have i:=c b (by simp);rw[Zgc C,ZdR]at d;have q:x.1.length<=cells.size:=by have:=d.length_le;simpa using this
  refine(Any.slices_Sort_int L b 0 cap x.1 w (Zj5 W d) i.2 (by omega)).mono ?_;rintro ex g ⟨rfl,n,os,rfl⟩;rw[Zre];have D:(Yf x.1).length=x.1.length:=l.length_eq;refine⟨_,rfl,back rfl (.inr ⟨b,cap,_,e,_,rfl,by rw[D];simp [Vi],Zj4 i.2 W,by rw[D];exact o,by unfold Go.Sort.putCells;simpa using N,Zgq _,by rw[ZdR];exact ZlI (by rw[D];exact q)⟩) (fun T a=>?_) rfl rfl ⟨rfl,?_⟩ ?_ fun T F a=>Zj3 F (by simpa using a)⟩
  ·have:=V T a;unfold Go.Sort.putRow Go.Sort.mapBlock Go.Sort.grow Go.Sort.ahead;simp;omega
  ·show w.drawn<=w.drawn+n;omega
  ·unfold Go.Sort.putRow Go.Sort.mapBlock Go.Sort.grow Go.Sort.ahead;simp
theorem compactInt_ok (L:Lays2.n20 P ρ) (hf:∃fn,P.funcs[ρ.f 20]? =some fn∧fn.body.isNone=false∧(fn.name== "runtime.NumGoroutine")=false):ZX P (ρ.f 20) ZfZ where
 wf:=rfl
 fn:=hf
 run:=by
  intro w I W js x (z:List Int) G F c T _ l;obtain⟨q,j2,v,r,rfl,rfl,⟨m,t⟩,rfl,rfl⟩:=G;have j:Ka v=false:=t.resolve_left fun h=>by cases h
  have N:x.1.length<4294967296/\Jh x.1=z:=by
   have l:compactI x.1=some z:=l;unfold compactI at l
   cases A:decide (x.1.length<4294967296) with
   |false=>rw[A]at l;simp at l
   |true=>rw[A]at l;simp only[Zc,Option.some.injEq]at l;exact⟨X8 A,l⟩
  obtain⟨V,rfl⟩:=N;have a0:=Zjo x.1
  have back:∀{i:World}{Q:Value},RV i I (.cons (.own DG false) .nil) (Jh x.1,()) q Q->(∀b,I b->b<i.heap.size)->i.os=w.os->i.tape=w.tape->X2 i w->w.heap.size<=i.heap.size->(∀b,b<w.heap.size->b ∉ q->i.heap[b]? =w.heap[b]?)->
   Rz ZfZ w I (q++[]) [v] (ZfZ.unp (Jh x.1)) Q i:=by
   intro i Q J s Y Z S h4 h5;refine⟨I,[],q,⟨[],[],_,_,rfl,rfl,rfl,rfl⟩,J,by simpa using F,fun b k=>?_,fun _ h=>h,fun b k=>⟨s b k,.inl k⟩,Y,Z,⟨S.out,fun _=>S.drawn⟩,h4,fun b k hj=>h5 b k (by simpa using hj)⟩;have a:b∈q++[]:=by simpa using k
   exact⟨(c b a).1,by have:=(c b a).2;omega,.inl a⟩
  rcases m with ⟨rfl,hx,y⟩|⟨b,cap,cells,e,X,rfl,y,U,o,K,C,g⟩
  ·have M:v=.slice none 0 0:=KU y j;subst M;refine(Any.slices_Compact_int_empty L none 0 w).mono ?_;rintro e i ⟨rfl,rfl⟩;have O:Jh x.1=[]:=by rw[hx];rfl
   exact⟨_,rfl,back ⟨[.slice none 0 0],⟨[],[],_,_,rfl,rfl,⟨.inl ⟨rfl,O,rfl⟩,.inr rfl⟩,rfl,rfl⟩,rfl⟩ T rfl rfl .rfl (Vn _) fun _ _ _=>rfl⟩
  have M:v=.slice (some ⟨b,0,none⟩) x.1.length cap:=KU y j;subst M;have k:=c b (by simp);rw[Zgc C,ZdR]at g;have p:x.1.length<=cells.size:=by have:=g.length_le;simpa using this
  refine(Any.slices_Compact_int L b 0 cap x.1 w (Zj5 U g) (by omega) o).mono ?_;rintro ex i ⟨rfl,n,rfl⟩;rw[Zp3];have hl:(Jh x.1++Vhb (x.1.length - (Jh x.1).length) (0:Int)).length=x.1.length:=by simp;omega
  have e0:∀d:Array Int,Go.Sort.putRow (Vk .i64) (Go.Sort.ahead w n) b 0 d=Go.Sort.grow (Go.Sort.putRow (Vk .i64) (Go.Sort.ahead w n) b 0 d) #[]:=fun d=>by generalize Go.Sort.putRow (Vk .i64) (Go.Sort.ahead w n) b 0 d=w2;cases w2;simp [Go.Sort.grow]
  rw[e0]
  have m:PC (Go.Sort.grow (Go.Sort.putRow (Vk .i64) (Go.Sort.ahead w n) b 0 (Jh x.1++Vhb (x.1.length - (Jh x.1).length) (0:Int)).toArray) #[]) I (.own DG false) (Jh x.1) [b] [.slice (some ⟨b,0,none⟩) (Jh x.1).length cap]:=
   .inr ⟨b,cap,_,e,_,rfl,rfl,Zj4 k.2 U,by omega,by unfold Go.Sort.putCells;simpa using K,Zgq _,by rw[ZdR];exact(by rw[Vfb];exact List.prefix_append _ _:List.map (Vk .i64) (Jh x.1)<+:_).trans (ZlI (by rw[hl];exact p))⟩
  refine⟨_,rfl,back ⟨[.slice (some ⟨b,0,none⟩) (Jh x.1).length cap],⟨[b],[],_,_,rfl,rfl,⟨m,.inr rfl⟩,rfl,rfl⟩,rfl⟩ (fun R a=>?_) rfl rfl ⟨rfl,?_⟩ ?_ fun R D a=>Zj3 D (by simpa using a)⟩
  ·have:=T R a;unfold Go.Sort.putRow Go.Sort.mapBlock Go.Sort.grow Go.Sort.ahead;simp;omega
  ·show w.drawn<=w.drawn+n;omega
  ·unfold Go.Sort.putRow Go.Sort.mapBlock Go.Sort.grow Go.Sort.ahead;simp
end
end Tr
end
section
namespace Tr
open Go Go.Proofs Go.Shelf
def ZfU(T Q:Ty)(cmp:El T->El T->El Q->Option Int):Spec:= {args:=.cons (.pd T) (.cons (.pd T) (.cons (.ro Q) .nil)),res:=Zjl,fns:=[],α:=Int,f:=fun x=>cmp x.1 x.2.1 x.2.2.1,unp:=fun z=>(((),(),(),()),(z,()))}
def ZeI(T Q:Ty)(g:FuncId)(f:El Q->List (El T)->Option (List (El T))):Spec:= {args:=.cons (.own T true) (.cons (.fn g (.cons (.ro Q) .nil)) .nil),res:=.nil,fns:=[g],α:=List (El T),f:=fun x=>f x.2.1.1 x.1,unp:=fun z=>((z,((),()),()),())}
section
variable {P:Program}{ρ:Ren}
theorem Zp0{T Q:Ty}{g:FuncId}{cmp:El T->El T->El Q->Option Int}(C:T.agg=true)(M:ZX P g (ZfU T Q cmp)){w:World}{I:Nat->Prop}(G:∀b,I b->b<w.heap.size){x y:El T}{k l:List Value}(N:Rd w I T x k)(O:Rd w I T y l){j:El Q}{i:Value}(D:PC w I (.ro Q) j [] [i]){z:Int}(R:cmp x y j=some z):
 Calls P g #[.agg k.toArray,.agg l.toArray,i] w fun e w' =>e=.returned (.int .i64 z)/\ ∃q A,w' =Sort.grow (w.drewN q) A:=by
 have n:PV w I (.ro Q) j [] i:=by have s:=D;obtain⟨_,b,off,c,m,_⟩:=s;cases m;exact⟨D,.inr rfl⟩
 refine(M.run w I [.agg k.toArray,.agg l.toArray,i] [] (x,y,j,()) z ⟨[],[],_,_,rfl,rfl,⟨⟨rfl,by simpa [Vi] using N⟩,.inr (by rw[show (Zy.pd T).isAgg=T.agg from rfl,C];rfl)⟩,[],[],_,_,rfl,rfl,⟨⟨rfl,by simpa [Vi] using O⟩,.inr (by rw[show (Zy.pd T).isAgg=T.agg from rfl,C];rfl)⟩,[],[],_,_,rfl,rfl,n,rfl,rfl⟩ .nil (by simp) G (fun h=>by cases h) R).mono ?_;rintro e w' ⟨Y,rfl,S,W,X,_,⟨vs,p,rfl⟩,_,_,_,_,o,f,a,t,d⟩;obtain⟨U,V,v,r,_,rfl,⟨L,J⟩,_,rfl⟩:=p;refine⟨?_,_,_,Znl o f ⟨a.out,a.drawn rfl⟩ t fun b K=>d b K (by simp)⟩;have m:v.cells.toList=[.int .i64 z]:=L.2;have F:Ka v=false:=J.resolve_left fun h=>by cases h
 rw[KU m F];rfl
theorem ZtT{T Q:Ty}{g:FuncId}{cmp:El T->El T->El Q->Option Int}{f:El Q->List (El T)->Option (List (El T))}(hf:∀q xs z,f q xs=some z->xs.length<4294967296/\z.Perm xs/\Zfg (fun x y=>cmp x y q) z)(L:SlLaysF0.n6 P ρ)(hT:T.agg=true)(aE:∀w,(isAgg (ρ.t 24)).run P w=.ok true w)(zE:∀w,(Go.sizeOf (ρ.t 24)).run P w=.ok T.size w)(hg:ZX P g (ZfU T Q cmp)):
 ZX P (ρ.f 6) (ZeI T Q g f) where
 wf:=rfl
 fn:=by obtain⟨nm,h1,K⟩:=L.f6;exact⟨_,K,rfl,h1⟩
 run:=by
  intro w I h9 js x (z:List (El T)) g2 f9 J hI _ hz;obtain⟨j1,j2,v,r,rfl,rfl,⟨d3,e8⟩,j3,j4,v2,r2,rfl,rfl,⟨d5,S⟩,rfl,rfl⟩:=g2;obtain⟨xs,⟨q0,⟨⟩⟩,⟨⟩⟩:=x;obtain⟨cc,e9,_,_,_,_,rfl,rfl,⟨rfl,bq,oq,e3,rfl,e5,e6,e7⟩,rfl,rfl⟩:=d5;have g5:v2=.func (.func g) #[] #[.pointer (some ⟨bq,oq,none⟩)]:=KU e9 (S.resolve_left fun h=>by cases h);subst g5;have c7:PC w I (.ro Q) q0 [] [.pointer (some ⟨bq,oq,none⟩)]:=⟨rfl,bq,oq,e3,rfl,e5,e6,e7⟩;generalize i0:Value.pointer (some ⟨bq,oq,none⟩)=cq at c7⊢
  let x:List (El T) ×Unit:=(xs,())
  change PC w I (.own T true) x.1 j1 v.cells.toList at d3
  have a2:Ka v=false:=e8.resolve_left fun h=>by cases h
  obtain⟨h8,s,rk,O,d1,d8⟩:=hf q0 x.1 z hz;have O:=fun a ha c hc=>(show∃k,cmp a c q0=some k/\(k<0↔rk a<rk c) from O a ha c hc)
  have back:∀{w' :World}{rv:Value},rv=.tuple #[]->PC w' I (.own T true) z j1 v.cells.toList->(∀b,I b->b<w'.heap.size)->w'.os=w.os->w'.tape=w.tape->X2 w' w->w.heap.size<=w'.heap.size->(∀b,b<w.heap.size->b ∉ j1->w'.heap[b]? =w.heap[b]?)->
   Rz (ZeI T Q g f) w I (j1++[]) [v,.func (.func g) #[] #[cq]] ((ZeI T Q g f).unp z) rv w' :=by
   intro w' rv g3 d4 e4 h1 K h3 h4 h5;refine⟨I,j1++[],[],⟨j1,[],_,_,rfl,rfl,d4,[],[],_,_,rfl,rfl,⟨[cq],by simp [Vi],[],[],rfl,rfl,rfl⟩,rfl⟩,⟨[],⟨rfl,rfl⟩,g3⟩,by simpa using f9,fun b Y=>?_,fun _ h=>h,fun b Y=>⟨e4 b Y,.inl Y⟩,h1,K,⟨h3.out,fun _=>h3.drawn⟩,h4,fun b Y Z=>h5 b Y (by simpa using Z)⟩;have o:b∈j1++[]:=by simpa using Y
   exact⟨(J b (by simpa using o)).1,by have:=(J b (by simpa using o)).2;omega,.inl (by simpa using o)⟩
  rcases d3 with ⟨rfl,hx,hc⟩|⟨b,cap,cells,e,l,rfl,hc,hh,a4,c4,b2,rest,b9⟩
  ·have hv:v=.slice none 0 0:=KU hc a2;have X:z=[]:=by rw[hx]at s;exact Vja.1 s
   subst hv;refine(ZeK L none 0 _ w).mono ?_;rintro e w' ⟨rfl,rfl⟩;exact⟨_,rfl,back rfl (.inl ⟨rfl,X,rfl⟩) hI rfl rfl .rfl (Vn _) fun _ _ _=>rfl⟩
  have hv:v=.slice (some ⟨b,0,none⟩) x.1.length cap:=KU hc a2;subst hv;by_cases b7:x.1=[]
  ·have X:z=[]:=by rw[b7]at s;exact Vja.1 s
   have h0:x.1.length=0:=by rw[b7];rfl
   rw[h0];refine(ZeK L _ cap _ w).mono ?_;rintro e' w' ⟨rfl,rfl⟩;refine⟨_,rfl,?_⟩;have:=back (w' :=w') (rv:=.tuple #[]) rfl (.inr ⟨b,cap,cells,e,[],rfl,by rw[X];simp [Vi,h0],hh,by rw[X];exact Vq _,c4,by rw[X];trivial,Vab⟩) hI rfl rfl .rfl (Vn _) fun _ _ _=>rfl;rw[h0]at this;exact this
  have Y:=J b (by simp);have b5:x.1.length=l.length:=b2.length;have D:(x.1.zip l).map Vbb=x.1:=Vva (by omega);have c6:(x.1.zip l).map Vcb=l:=Vwa (by omega);have W:=Zh0 b2;have a7:∀p∈x.1.zip l,p.1∈z:=fun p hp=>s.mem_iff.2 (by rw[<-D];exact Vna.2 ⟨p,hp,rfl⟩)
  let α:= {p:El T×List Value // p∈x.1.zip l}
  have d2:x.1.zip l≠ []:=by intro h0;rw[h0]at D;exact b7 D.symm
  obtain⟨p0,g1⟩:=Vka _ d2
  letI:Inhabited α:=⟨⟨p0,g1⟩⟩
  let enc:α->List Value:=fun p=>p.1.2
  let cf:α->α->Int:=fun p q=>(cmp p.1.1 q.1.1 q0).getD 0
  let ix:α->Nat:=fun p=>rk p.1.1
  have c8:∀p q:α,∃c,cmp p.1.1 q.1.1 q0=some c/\(c<0↔ix p<ix q):=fun p q=>O _ (a7 p.1 p.2) _ (a7 q.1 q.2)
  have b6:∀p q:α,ltOf cf p q=decide (ix p<ix q):=fun p q=>by
   obtain⟨c,h1,K⟩:=c8 p q;show decide ((cmp p.1.1 q.1.1 q0).getD 0<0)=_;rw[h1];show decide (c<0)=_;by_cases h:c<0
   ·rw[Zd h,Zd (K.1 h)]
   ·rw[Zk h,Zk fun h3=>h (K.2 h3)]
  have hO:Go.Sort.SWO (ltOf cf):=by
   refine⟨fun p=>?_,fun p q r h1 K=>?_,fun p q r h1 K=>?_⟩
   ·rw[b6];simp
   ·rw[b6]at*;simp at*;omega
   ·rw[b6]at*;simp at*;omega
  have hk:∀p:α,(enc p).length=T.size:=fun p=>Rd.length T _ _ (W p.1 p.2);have h1:∀p:α,∀v∈enc p,v.oneCell' =true:=fun p=>Rd.oneCell T _ _ (W p.1 p.2)
  let d:Array α:=((x.1.zip l).attach).toArray
  have b1:d.toList=(x.1.zip l).attach:=by simp [d]
  have N:d.size=x.1.length:=by
   have:d.toList.length=x.1.length:=by rw[b1,Vqa,Vdb];omega
   simpa using this
  have f5:d.toList.map enc=l:=by
   rw[b1];have:(x.1.zip l).attach.map enc=((x.1.zip l).attach.map Subtype.val).map Vcb:=by rw[Vy];rfl
   rw[this,Vm,c6]
  have f3:cells.toList=l.flatten++rest:=b9.symm;have V:(Go.Sort.flatK enc T.size d).toList=l.flatten:=by rw[ZdQ hk,f5]
  have g9:l.flatten.length=x.1.length*T.size:=by rw[JV (Rd.all_length b2),b5]
  have a3:b<w.heap.size:=Y.2
  have hH:Go.Sort.HoldsK enc T.size w b 0 d:=by
   intro j Z;rw[Go.Sort.size_flatK,N]at Z;have b4:j<l.flatten.length:=by omega
   constructor
   ·have K:(Go.Sort.flatK enc T.size d)[j]! =l.flatten[j]:=by
     rw[getElem!_pos _ j (by rw[Go.Sort.size_flatK,N];exact Z)];have h3:(Go.Sort.flatK enc T.size d).toList[j]'(by rw[V];exact b4)=l.flatten[j]:=by simp only[V]
     simpa using h3
    rw[K]
    have h4:cells[j]? =some l.flatten[j]:=by rw[<-Vc,f3,Vp b4,Vb b4]
    simp only[Voa,hh,Vaa,Vda,Vs,if_false,h4,id]
   ·simp [Vga,hh]
  have d0:CmpLays P g #[cq] enc T.size cf b 0 d.size w:=by
   intro m os dk i1 p q;obtain⟨c,c9,_⟩:=c8 p q
   have b8:∀C,I C->(sortWorldK enc T.size w b 0 m dk os).heap[C]? =w.heap[C]? :=by intro C o;have G:C≠b:=fun h=>Y.1 (h▸o);have F:=hI C o;unfold sortWorldK Go.Sort.putRowK Go.Sort.putRow Go.Sort.mapBlock Go.Sort.grow;simp only;rw[Va (by simp;exact F),Vd,Zf (Ne.symm G)];rfl
   have R:Kj I w (sortWorldK enc T.size w b 0 m dk os):=fun C o=>b8 C o;have a8:w.heap.size<=(sortWorldK enc T.size w b 0 m dk os).heap.size:=size_sortWorldK_c enc T.size w b 0 m dk os;have:=Zp0 hT hg (w:=sortWorldK enc T.size w b 0 m dk os) (I:=I) (fun C o=>by have:=hI C o;omega) (Rd.mono R (fun _ h=>h) _ _ _ (W p.1 p.2)) (Rd.mono R (fun _ h=>h) _ _ _ (W q.1 q.2)) (PC.mono R (fun _ h=>h) _ _ _ _ (by simp) c7) c9;have f4:cf p q=c:=by show (cmp p.1.1 q.1.1 q0).getD 0=c;rw[c9];rfl
   rw[f4];exact this
  have a5:=AnyQ.slices_SortFunc L T.size aE zE enc hk h1 cf hO g #[cq] b 0 cap d w (ZeA hg · ·) d0 hH a3 (by rw[N];omega);rw[N]at a5;refine a5.mono ?_;rintro ex w' ⟨rfl,A,n,os,hp,hs,rfl⟩;have a6:A.size=x.1.length:=hp.1.trans N
  have a1:A.toList.Perm d.toList:=by
   have K:=hp.2.2;rw[<-N]at K;have e1:d.extract 0 d.size=d:=by simp
   have e2:A.extract 0 d.size=A:=by rw[<-hp.1];simp
   rw[e1,e2]at K;exact K
  have d7:(A.toList.map fun p=>p.1.1).Perm z:=by
   refine(a1.map _).trans ?_;rw[b1];have:(x.1.zip l).attach.map (fun p:α=>p.1.1)=((x.1.zip l).attach.map Subtype.val).map Vbb:=by rw[Vy];rfl
   rw[this,Vm,D];exact s.symm
  have g6:(A.toList.map fun p=>p.1.1)=z:=by
   refine List.Perm.eq_of_pairwise (le:=fun a c=>¬((cmp c a q0).getD 0<0)) (fun a c ha hc h3 h4=>?_) ?_ ?_ d7
   ·have a9:=d7.mem_iff.1 ha;obtain⟨c1,e1,f1⟩:=O a a9 c hc;obtain⟨c2,e2,f2⟩:=O c hc a a9;rw[e2]at h3;rw[e1]at h4;refine d1 a a9 c hc ?_;simp only[Vxa]at h3 h4;omega
   ·rw[Vua,Ve];intro i j hi Z b3;have h5:j<A.size:=by simpa using Z
    have:=hs i j (Vq _) b3 (by omega);have f7:i<A.size:=by simpa using hi
    have f8:j<A.size:=by simpa using Z
    rw[getElem!_pos A j f8,getElem!_pos A i f7]at this;have h6:¬cf A[j] A[i]<0:=of_decide_eq_false this;simpa using h6
   ·rw[Ve];intro i j hi Z b3;obtain⟨c2,e2,f2⟩:=O _ (Vj Z) _ (Vj hi);have h7:=Ve.1 d8 i j hi Z b3;rw[e2];show¬c2<0;omega
  have U:=Zgd (w:=w) (I:=I) (T:=T) (f:=fun p:α=>p.1.1) (e:=enc) (fun p=>W p.1 p.2) A.toList;rw[g6]at U
  have S:Kj I w (sortWorldK enc T.size w b 0 n A os):=by intro C o;have G:C≠b:=fun h=>Y.1 (h▸o);have F:=hI C o;unfold sortWorldK Go.Sort.putRowK Go.Sort.putRow Go.Sort.mapBlock Go.Sort.grow;simp only;rw[Va (by simp;exact F),Vd,Zf (Ne.symm G)];rfl
  have a8:w.heap.size<=(sortWorldK enc T.size w b 0 n A os).heap.size:=size_sortWorldK_c enc T.size w b 0 n A os
  have a0:∀C,C<w.heap.size->C ∉ [b]->(sortWorldK enc T.size w b 0 n A os).heap[C]? =w.heap[C]? :=by
   intro C F o;have G:C≠b:=by simpa using o
   unfold sortWorldK Go.Sort.putRowK Go.Sort.putRow Go.Sort.mapBlock Go.Sort.grow;simp only;rw[Va (by simp;exact F),Vd,Zf (Ne.symm G)];rfl
  have b0:(sortWorldK enc T.size w b 0 n A os).heap[b]? =some (.cells (Go.Sort.putCells id 0 (Go.Sort.flatK enc T.size A) cells) e (0,0)):=by unfold sortWorldK Go.Sort.putRowK Go.Sort.putRow Go.Sort.mapBlock Go.Sort.grow;simp only;rw[Va (by simp;exact a3),Vd,Zp rfl];show (w.heap[b]?).map _=_;rw[hh];rfl
  have d9:z.length=x.1.length:=s.length_eq;have M:(Go.Sort.flatK enc T.size A).toList=(A.toList.map enc).flatten:=ZdQ hk A
  have g8:(A.toList.map enc).flatten.length=x.1.length*T.size:=by rw[<-M,Vca,Go.Sort.size_flatK,a6]
  have d6:(A.toList.map enc).flatten<+:(Go.Sort.putCells id 0 (Go.Sort.flatK enc T.size A) cells).toList:=by
   have g7:x.1.length*T.size<=cells.size:=Vsa (Vpa _ a4) c4;rw[Vu];apply Vv;intro t;rw[Vt];by_cases ht:t<x.1.length*T.size
   ·rw[Zp (by omega)];have g4:t<cells.size:=by omega
    have c5:t<(Go.Sort.flatK enc T.size A).size:=by rw[Go.Sort.size_flatK,a6];exact ht
    have hR:(Go.Sort.putCells id 0 (Go.Sort.flatK enc T.size A) cells)[t]? =some (Go.Sort.flatK enc T.size A)[t]! :=by unfold Go.Sort.putCells;rw[Vx,Vf g4];simp only[Veb,Vq,Vaa,true_and,c5,if_true,Nat.sub_zero,id]
    rw[<-Vc]at hR;rw[hR,getElem!_pos _ t c5, <-M];rw[Vc,Vf c5]
   ·rw[Zf (by omega),Vo (by omega)]
  refine⟨_,rfl,back rfl (.inr ⟨b,cap,_,e,A.toList.map enc,rfl,by rw[d9];simp [Vi],b0,by rw[d9];exact a4,by unfold Go.Sort.putCells;simpa using c4,U.mono fun y c hy=>Rd.mono S (fun _ h=>h) T y c hy,d6⟩) (fun C o=>by have:=hI C o;omega) rfl rfl ⟨rfl,?_⟩ a8 a0⟩;show w.drawn<=w.drawn+n;omega
theorem sortFuncC_ok{T Q:Ty}{g:FuncId}{cmp:El T->El T->El Q->Option Int}(L:SlLaysF0.n6 P ρ)(e:T.agg=true)(a:∀w,(isAgg (ρ.t 24)).run P w=.ok true w)(j:∀w,(Go.sizeOf (ρ.t 24)).run P w=.ok T.size w)(i:ZX P g (ZfU T Q cmp)):
 ZX P (ρ.f 6) (ZeI T Q g fun q=>sortF fun x y=>cmp x y q):=ZtT (cmp:=cmp) (fun _ _ _ h=>by obtain⟨b,c,d⟩:=Zmy h;exact⟨b,c,ZmE d⟩) L e a j i
end
end Tr
end
section
namespace Q
open Tr Go
theorem Kq{σ τ:Type}{step:σ->Option (σ ⊕ τ)}(n:Nat)(P:τ->Prop)(Inv:Nat->σ->Prop)
 (a:∀i s,i<n->Inv i s->(∃s',step s=some (.inl s')/\Inv (i+1) s')\/ ∃r,step s=some (.inr r)/\P r)
 (c:∀s,Inv n s->∃r,step s=some (.inr r)/\P r) (s:σ) (h:Inv 0 s):∃r,run step s=some r/\P r:=by
 have key:∀(k i:Nat) (s:σ),n - i=k->i<=n->Inv i s->∃r,run step s=some r/\P r:=by
  intro k
  induction k with
  |zero=>
   intro i s g f e;have:i=n:=by omega
   subst this;obtain⟨r,b,d⟩:=c s e
   exact⟨r,Ym b,d⟩
  |succ k j=>
   intro i s g f e;rcases a i s (by omega) e with ⟨s',b,d⟩|⟨r,b,d⟩
   ·rw[HT b]
    grind
   ·exact⟨r,Ym b,d⟩
 grind
theorem KF{α β:Type}{o:Option α}{f:α->Option β}{z:Option β}(P:α->Prop)(h:∃r,o=some r/\P r)(k:∀r,P r->f r=z):Vfa o f=z:=by
 grind
theorem XW{α β γ:Type}{o:Option α}{f:α->Option (β ⊕ γ)}{Q:β->Prop}(P:α->Prop)(h:∃r,o=some r/\P r)(k:∀r,P r->∃s,f r=some (.inl s)/\Q s):∃s,Vfa o f=some (.inl s)/\Q s:=by
 grind
end Q
end
