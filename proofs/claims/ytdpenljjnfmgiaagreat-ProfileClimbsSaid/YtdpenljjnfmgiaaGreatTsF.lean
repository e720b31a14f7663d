/- From the reading of the arguments in the form of the claims to data of the machine. Conditions: the types are data. -/
import Derived.OpenShut
import Derived.Test.YtdpenljjnfmgiaaGreatTsE
open Bool renaming and_eq_true ->Vc
open List renaming range ->Va,getElem?_eq_getElem ->Vb,flatten_cons ->Vf,drop_drop ->Vg
open Nat renaming add_zero ->Vd
open Go.Value renaming okWide ->Ve
namespace Tr
open Go
def Zkk: (t:Ty)->El t->Prop
 | .int k,x=>k.min<=x/\x<=k.max
 | .bool,_=>True
 | .str,x=>x.length<=Go.maxLen
 | .sl t,x=>x.length<=Go.maxLen/\ ∀y∈x,Zkk t y
 | .unit,_=>True
 | .prod a b,x=>Zkk a x.1/\Zkk b x.2
 | .arr n t,x=>x.length=n/\ ∀y∈x,Zkk t y
 | .ref,_=>True
def Ty.firm:Ty->Bool
 | .ref=>false
 | .sl t=>t.firm&& !(Nat.beq t.size 0)
 | .prod a b=>a.firm&&b.firm
 | .arr _ t=>t.firm
 |_=>true
theorem ZmN{α:Type}{β:Type}{r:α->β->Prop}{q:α->Prop} : ∀ (m:List β),(∀b∈m, ∃a,r a b/\q a)-> ∃l,Fa r l m/\ ∀a∈l,q a
 | [],_=>⟨[],trivial,by simp⟩
 |b::m,h=>by
  obtain⟨a,ha,hq⟩:=h b (by simp);obtain⟨l,hl,hql⟩:=ZmN (α:=α) (β:=β) m fun b' hb' =>h b' (by simp [hb']);refine⟨a::l,⟨ha,hl⟩,fun x hx=> ?_⟩
  grind
theorem Zca.append{w:World}{b off:Nat}{l m:List Value}(h1:Zca w b off l)(h2:Zca w b (off+l.length) m):Zca w b off (l++m):=by
 intro j hj;by_cases hl:j<l.length
 ·rw[List.getElem_append_left hl];exact h1 j hl
 ·rw[List.getElem_append_right (by omega)];have:=h2 (j - l.length) (by grind)
  grind
theorem Zca.flat{w:World}{b n:Nat} : ∀ {css:List (List Value)}{off:Nat},(∀i c,css[i]? =some c->c.length=n/\Zca w b (off+i*n) c)->Zca w b off css.flatten
 | [],off,_=>by intro j hj;grind
 |c::css,off,h=>by
  rw[Vf];obtain⟨h1,h2⟩:=h 0 c (by simp);refine Zca.append (by grind) (Zca.flat (n:=n) fun i d hd=> ?_);obtain⟨h3,h4⟩:=h (i+1) d (by grind)
  grind
section
variable {H:Type}{enc:TypeId×Value->H}{P:Program}{w:World}{sp:Nat->Bool}{held:Bool}
theorem Zge{a:Addr}{n:Nat}{c:List Value}(h:w.cells? 0 a n=some c):c.length=n/\(∀j,(hj:j<c.length)->w.cell? (a.add j)=some c[j]):=by
 unfold World.cells? at h;rw[if_pos (Nat.zero_le _)]at h;have hl:c.length=n:=by have:=mapM_some_length h;grind
 refine⟨hl,fun j hj=> ?_⟩;have:=mapM_some_get h j j (by grind)
 grind
theorem Zlk{a:Addr}{v:Value}(h:w.cell? a=some v):a.spot=none/\a.block<w.heap.size:=by
 unfold World.cell? at h;split at h
 ·rename_i c t f hh;refine⟨?_, ?_⟩
  ·simp_all
  grind
 grind
theorem Zjc{I:Nat->Prop}{fuel:Nat}{θ:TypeId->Option Ty}(hθ: ∀T t,θ T=some t->TOk P θ T t)
  (ih: ∀ (t:Ty) (T:TypeId) (cs:List Value) (x:DataW H×List MemPlace),θ T=some t->t.firm=true->DataW.trod enc P w 0 sp held fuel T cs=some x-> ∃y,Rd w I t y cs/\Zkk t y) (cs:List Value) (xs:List (DataW H×List MemPlace)):
  ∀ (t:Ty) (fs:List Field) (base:Nat),t.chain=true->t.firm=true->cs.length=base+t.size->
   (∀i fd,fs[i]? =some fd-> ∃o t',Za3 t [i]=some (o,t')/\fd.offset=base+o/\θ fd.type=some t')->Za3 t [fs.length]=none->
   (∀ (i:Nat) (f:Field),fs[i]? =some f-> ∃x,DataW.trod enc P w 0 sp held fuel f.type ((cs.drop f.offset).take (P.cellsOf f.type))=some x)->
   ∃y,Rd w I t y (cs.drop base)/\Zkk t y
 | .unit,fs,base,_,_,hl,_,_,_=>⟨(),by simp only[Rd,Ty.size]at hl ⊢;grind,trivial⟩
 | .prod a b,[],base,hc,hf,hl,h1,h2,h3=>by simp [Za3]at h2
 | .prod a b,fd::fs,base,hc,hf,hl,h1,h2,h3=>by
  simp only[Ty.chain]at hc;simp only[Ty.firm,Vc]at hf;obtain⟨o,t',e1,e2,e3⟩:=h1 0 fd (by simp)
  have ea:o=0/\t' =a:=by
   cases a<;>simp [Za3]at e1<;>exact⟨e1.1.symm,e1.2.symm⟩
  obtain⟨rfl,rfl⟩:=ea;obtain⟨x,hx⟩:=h3 0 fd (by simp);obtain⟨y1,hy1,hg1⟩:=ih _ _ _ _ e3 hf.1 hx
  have hsz:P.cellsOf fd.type=t'.size:=by obtain⟨i,z,g1,g2,_⟩:=(hθ _ _ e3).info;simp [Program.cellsOf,g1,g2]
  have hl' :cs.length=base+t'.size+b.size:=by rw[hl];simp only[Ty.size];omega
  obtain⟨y2,hy2,hg2⟩:=Zjc hθ ih cs xs b fs (base+t'.size) hc hf.2 hl' (fun i gd hgd=>by
    obtain⟨o,t'',g1,g2,g3⟩:=h1 (i+1) gd (by grind);simp only[Za3,Option.map_eq_some_iff]at g1
    grind) (by simpa [Za3] using h2) (fun i f hf=>h3 (i+1) f (by grind))
  refine⟨(y1,y2), ?_,hg1,hg2⟩;simp only[Rd];refine⟨_,_, ?_,hy1,hy2⟩
  rw[hsz,e2,Vd, <-Vg,List.take_append_drop]
 | .int _,_,_,hc,_,_,_,_,_=>by simp [Ty.chain]at hc
 | .bool,_,_,hc,_,_,_,_,_=>by simp [Ty.chain]at hc
 | .str,_,_,hc,_,_,_,_,_=>by simp [Ty.chain]at hc
 | .sl _,_,_,hc,_,_,_,_,_=>by simp [Ty.chain]at hc
 | .arr _ _,_,_,hc,_,_,_,_,_=>by simp [Ty.chain]at hc
 | .ref,_,_,hc,_,_,_,_,_=>by simp [Ty.chain]at hc
theorem Zf0{n:Nat} : ∀ (m:Nat) (cs:List Value),cs.length=m*n->cs=((Va m).map fun i=>(cs.drop (i*n)).take n).flatten
 |0,cs,h=>by grind
 |m+1,cs,h=>by
  rw[List.range_succ_eq_map,List.map_cons,Vf,List.map_map];have hd: (cs.drop n).length=m*n:=by grind
  have ih:=Zf0 m (cs.drop n) hd
  have e: ((Va m).map ((fun i=>(cs.drop (i*n)).take n) ∘Nat.succ))=((Va m).map fun i=>((cs.drop n).drop (i*n)).take n):=by
   apply List.map_congr_left;intro i _;simp only[Function.comp,Vg]
   grind
  rw[e, <-ih];simp
theorem Zg2{θ:TypeId->Option Ty}(hθ: ∀T t,θ T=some t->TOk P θ T t): ∀ (fuel:Nat) (t:Ty) (T:TypeId) (cs:List Value) (x:DataW H×List MemPlace),θ T=some t->t.firm=true->
  DataW.trod enc P w 0 sp held fuel T cs=some x-> ∃y,Rd w (fun b=>b<w.heap.size) t y cs/\Zkk t y
 |0,t,T,cs,x,_,_,h=>by simp [DataW.trod]at h
 |fuel+1,t,T,cs,x,hT,hf,h=>by
  have hk:=hθ _ _ hT;have hs:=hk.shape
  have hsz: ∀ {T t},θ T=some t->P.cellsOf T=t.size:=by intro T t hT;obtain⟨i,z,g1,g2,_⟩:=(hθ _ _ hT).info;simp [Program.cellsOf,g1,g2]
  cases t with
  |int k=>
   cases hu:P.underlying T with
   |none=>rw[hu]at hs;simp [Zaj]at hs
   |some d=>
    rw[hu]at hs
    cases d<;>simp [Zaj]at hs
    subst hs;obtain⟨n,h1,_,h2⟩:=DataW.trod_int hu h
    exact⟨n,h1,by simpa [Lit.wf,Zkk] using h2⟩
  |bool=>
   cases hu:P.underlying T with
   |none=>rw[hu]at hs;simp [Zaj]at hs
   |some d=>
    rw[hu]at hs
    cases d<;>simp [Zaj]at hs
    obtain⟨n,h1,_⟩:=DataW.trod_bool hu h
    exact⟨n,h1,trivial⟩
  |str=>
   cases hu:P.underlying T with
   |none=>rw[hu]at hs;simp [Zaj]at hs
   |some d=>
    rw[hu]at hs
    cases d<;>simp [Zaj]at hs
    obtain⟨s,h1,_,h2⟩:=DataW.trod_string hu h;refine⟨s.data.toList, ?_, ?_⟩
    all_goals assumption
  |sl e=>
   cases hu:P.underlying T with
   |none=>rw[hu]at hs;simp [Zaj]at hs
   |some d=>
    rw[hu]at hs
    cases d<;>simp [Zaj]at hs
    rename_i E;simp only[Ty.firm,Vc,Bool.not_eq_true']at hf
    have hf2:e.size≠0:=by
     intro h0
     simp_all
    rcases DataW.trod_slice hu h with ⟨h1,_⟩ | ⟨a,len,cap,elems,rest,n,h0,h1,_,_,h2,h3,h4,h5,_⟩
    ·exact⟨[],⟨none,0,[],h1,trivial,by simp,Nat.le_refl _⟩,Nat.zero_le _,by simp⟩
    ·have hn:n=fuel:=by omega
     subst hn;rw[hsz hs]at h5
     have hcell: ∀i,i<len-> ∃c x,w.cells? 0 (a.add (i*e.size)) e.size=some c/\DataW.trod enc P w 0 sp held n E c=some x:=by
      intro i hi;have:=h5 i hi;rw[Vb (by omega)]at this;obtain⟨c,h6,h7⟩:=Option.bind_eq_some_iff.1 this
      grind
     have hget: ∀i c,((Va len).map fun i=>(w.cells? 0 (a.add (i*e.size)) e.size).getD [])[i]? =some c->i<len/\w.cells? 0 (a.add (i*e.size)) e.size=some c/\ ∃x,DataW.trod enc P w 0 sp held n E c=some x:=by
      grind
     obtain⟨y,hy,hg⟩:=ZmN (r:=Rd w (fun b=>b<w.heap.size) e) (q:=Zkk e) ((Va len).map fun i=>(w.cells? 0 (a.add (i*e.size)) e.size).getD []) (by intro c hc;obtain⟨i,hi⟩:=List.getElem?_of_mem hc;obtain⟨_,_,x,h7⟩:=hget i c hi;exact Zg2 hθ n e E c x hs hf.1 h7)
     have hlen:y.length=len:=by rw[hy.length];simp
     refine⟨y,⟨some a,cap,_,by grind,hy,fun hne=> ?_,by omega⟩,by omega,hg⟩
     have hpos:0<len:=by
      grind
     obtain⟨c0,x0,h6,_⟩:=hcell 0 hpos;obtain⟨h7,h8⟩:=Zge h6;have h9:=h8 0 (by omega);simp only[Nat.zero_mul,Addr.add,if_true]at h9;obtain⟨h10,h11⟩:=Zlk h9;obtain⟨b,off,spot⟩:=a;simp only at h10 h11;subst h10;refine⟨b,off,rfl,h11,Zca.flat (n:=e.size) fun i c hc=> ?_⟩;obtain⟨hi,h12,_⟩:=hget i c hc;obtain⟨h13,h14⟩:=Zge h12;refine⟨h13,fun j hj=> ?_⟩;rw[<-h14 j hj];congr 1;by_cases h0:i*e.size=0
     ·by_cases hj0:j=0
      ·simp only[Addr.add,h0,hj0,if_true,Vd]
      ·simp only[Addr.add,h0,hj0,if_true,if_false,Vd]
     ·by_cases hj0:j=0
      ·simp only[Addr.add,h0,hj0,if_true,if_false,Vd]
      ·simp only[Addr.add,h0,hj0,if_false]
  |unit=>
   cases hu:P.underlying T with
   |none=>rw[hu]at hs;simp [Zaj]at hs
   |some d=>
    rw[hu]at hs
    cases d<;>simp [Zaj]at hs
    obtain⟨xs,n,_,_,h1,_⟩:=DataW.trod_struct hu h;rw[hsz hT]at h1
    exact⟨(),by simpa [Rd,Ty.size] using h1,trivial⟩
  |prod a b=>
   cases hu:P.underlying T with
   |none=>rw[hu]at hs;simp [Zaj]at hs
   |some d=>
    rw[hu]at hs
    cases d<;>simp only[Zaj,Bool.false_eq_true]at hs
    rename_i fs;simp only[Vc,List.all_eq_true]at hs;obtain⟨⟨hs1,hs2⟩,hs3⟩:=hs;obtain⟨xs,n,h0,_,h1,h2,h3⟩:=DataW.trod_struct hu h;have hn:n=fuel:=by omega
    subst hn;rw[hsz hT]at h1
    obtain⟨y,hy,hg⟩:=Zjc (enc:=enc) (sp:=sp) (held:=held) (fuel:=n) (I:=fun b=>b<w.heap.size) hθ (fun t T cs x=>Zg2 hθ n t T cs x) cs xs (.prod a b) fs.toList 0 hs3 hf (by omega) (by
     grind) (by simp_all) (by
     grind)
    grind
  |arr m e=>
   cases hu:P.underlying T with
   |none=>rw[hu]at hs;simp [Zaj]at hs
   |some d=>
    rw[hu]at hs
    cases d<;>simp [Zaj]at hs
    obtain⟨rfl,hs⟩:=hs;obtain⟨xs,n,h0,_,h1,h2,h3⟩:=DataW.trod_array hu h;have hn:n=fuel:=by omega
    subst hn;rw[hsz hs]at h3;rw[hsz hT]at h1
    obtain⟨y,hy,hg⟩:=ZmN (r:=Rd w (fun b=>b<w.heap.size) e) (q:=Zkk e) ((Va m).map fun i=>(cs.drop (i*e.size)).take e.size) (by
     intro c hc;obtain⟨i,hi,rfl⟩:=List.mem_map.1 hc;have hi' :i<m:=by grind
     have:=h3 i hi';rw[Vb (by omega)]at this;exact Zg2 hθ n e _ _ _ hs hf this)
    refine⟨y,⟨?_,_,Zf0 m cs h1,hy⟩, ?_,hg⟩
    ·rw[hy.length];simp
    ·rw[hy.length];simp
  |ref=>simp [Ty.firm]at hf
def ZfR(θ:TypeId->Option Ty):ZaS->List TypeId->Bool
 | .nil,[]=>true
 | .cons (.pd t) l,T::Ts=>θ T==some t&&t.firm&&ZfR θ l Ts
 |_,_=>false
def ZhR: (l:ZaS)->Zce l->Prop
 | .nil,_=>True
 | .cons (.pd t) l,x=>Zkk t x.1/\ZhR l x.2
 | .cons _ l,x=>ZhR l x.2
theorem Zmd{θ:TypeId->Option Ty}{T:TypeId}{t:Ty}(h:TOk P θ T t)(hf:t.firm=true){v:Value}{b:Nat}(hv:Ve P w .any b T v):Zas v=t.agg:=by
 have hs:=h.shape;unfold Ve at hv
 cases hu:P.underlying T with
 |none=>rw[hu]at hs;cases t<;>simp [Zaj]at hs
 |some d=>
  rw[hu]at hs;simp only[hu]at hv
  cases t<;>cases d<;>simp [Zaj,Ty.firm]at hs hf<;>simp only[Cell.okWide,hu,Cell.ok]at hv
  all_goals first
   | (obtain⟨cs,rfl,_⟩:=hv;rfl)
   | (cases v<;>first|rfl|grind|exact hv.elim)
theorem Zff{θ:TypeId->Option Ty}(hθ: ∀T t,θ T=some t->TOk P θ T t): ∀ (l:ZaS) (Ts:List TypeId) (vs:List Value) (ds:List (DataW H)) (ps:List MemPlace),ZfR θ l Ts=true->
  DataW.TrodAll enc P w 0 sp held Ts vs ds ps->(∀ (j:Nat) t v,Ts[j]? =some t->vs[j]? =some v-> ∃b,Ve P w .any b t v)-> ∃x,PVs w (fun b=>b<w.heap.size) l x [] vs/\ZhR l x
 | .nil,[],vs,ds,ps,_,h,_=>by
  cases vs with
  |nil=>exact⟨(),by simp [PVs],trivial⟩
  |cons v vs=>simp [DataW.TrodAll]at h
 | .nil,T::Ts,vs,ds,ps,ha,h,_=>by simp [ZfR]at ha
 | .cons p l,[],vs,ds,ps,ha,h,_=>by cases p<;>simp [ZfR]at ha
 | .cons p l,T::Ts,vs,ds,ps,ha,h,hv=>by
  cases p<;>simp [ZfR]at ha
  rename_i t;obtain⟨⟨h1,h2⟩,h3⟩:=ha
  cases vs with
  |nil=>simp [DataW.TrodAll]at h
  |cons v vs=>
   cases ds with
   |nil=>simp [DataW.TrodAll]at h
   |cons d ds=>
    simp only[DataW.TrodAll]at h;obtain⟨p1,p2,⟨fuel,h4⟩,h5,_⟩:=h;obtain⟨y,hy,hg⟩:=Zg2 hθ fuel t T _ _ h1 h2 h4;obtain⟨x,hx,hgx⟩:=Zff hθ l Ts vs ds p2 h3 h5 fun j t v ht hv' =>hv (j+1) t v (by grind) (by grind);obtain⟨b,hb⟩:=hv 0 T v (by simp) (by simp);refine⟨(y,x), ?_,hg,hgx⟩;simp only[PVs];refine⟨[],[],v,vs,rfl,rfl,⟨⟨rfl,hy⟩, .inr ?_⟩,hx⟩;exact Zmd (hθ _ _ h1) h2 hb
end
theorem rv_bool{w:World}{I:Nat->Prop}{x:Bool×Unit}{js:List Nat}{v:Value}(h:RV w I (.cons (.pd .bool) .nil) x js v):v= .bool x.1:=by
 obtain⟨vs,h1,rfl⟩:=h;simp only[PVs]at h1;obtain⟨j1,j2,u,r,_,rfl,⟨h2,h3⟩,_,rfl⟩:=h1;simp only[PC]at h2
 have h4:Zas u=false:=by rcases h3 with h|h<;>simp [Pat.isAgg,Ty.agg]at h<;>exact h
 have h5:u.cells.toList=[.bool x.1]:=h2.2;show u=_
 cases u<;>simp_all [Zas,Value.cells]
end Tr
