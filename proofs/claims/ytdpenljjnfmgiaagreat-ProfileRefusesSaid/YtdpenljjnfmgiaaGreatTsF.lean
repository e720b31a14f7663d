/- From the reading of the arguments in the form of the claims to data of the machine. Conditions: the types are data. -/
import Derived.OpenShut
import Derived.Test.YtdpenljjnfmgiaaGreatTsE
open Bool renaming and_eq_true ->Vc
open List renaming range ->Va,getElem?_eq_getElem ->Vb,flatten_cons ->Vf,drop_drop ->Vg
open Nat renaming add_zero ->Vd
open Go.Value renaming okWide ->Ve
namespace Tr
open Go
def Zly: (t:Ty)->El t->Prop
 | .int k,x=>k.min<=x/\x<=k.max
 | .bool,_=>True
 | .str,x=>x.length<=Go.maxLen
 | .sl t,x=>x.length<=Go.maxLen/\ ∀y∈x,Zly t y
 | .unit,_=>True
 | .prod a b,x=>Zly a x.1/\Zly b x.2
 | .arr n t,x=>x.length=n/\ ∀y∈x,Zly t y
 | .ref,_=>True
def Ty.firm:Ty->Bool
 | .ref=>false
 | .sl t=>t.firm&& !(Nat.beq t.size 0)
 | .prod a b=>a.firm&&b.firm
 | .arr _ t=>t.firm
 |_=>true
theorem Zpi{α:Type}{β:Type}{r:α->β->Prop}{q:α->Prop} : ∀ (m:List β),(∀b∈m, ∃a,r a b/\q a)-> ∃l,Fa r l m/\ ∀a∈l,q a
 | [],_=>⟨[],trivial,by simp⟩
 |b::m,h=>by
  obtain⟨a,ha,hq⟩:=h b (by simp);obtain⟨l,hl,hql⟩:=Zpi (α:=α) (β:=β) m fun b' hb' =>h b' (by simp [hb']);refine⟨a::l,⟨ha,hl⟩,fun x hx=> ?_⟩
  grind
theorem ZcC.append{w:World}{b off:Nat}{l m:List Value}(h1:ZcC w b off l)(h2:ZcC w b (off+l.length) m):ZcC w b off (l++m):=by
 intro j hj;by_cases hl:j<l.length
 ·rw[List.getElem_append_left hl];exact h1 j hl
 ·rw[List.getElem_append_right (by omega)];have:=h2 (j - l.length) (by grind)
  grind
theorem ZcC.flat{w:World}{b n:Nat} : ∀ {css:List (List Value)}{off:Nat},(∀i c,css[i]? =some c->c.length=n/\ZcC w b (off+i*n) c)->ZcC w b off css.flatten
 | [],off,_=>by intro j hj;grind
 |c::css,off,h=>by
  rw[Vf];obtain⟨h1,h2⟩:=h 0 c (by simp);refine ZcC.append (by grind) (ZcC.flat (n:=n) fun i d hd=> ?_);obtain⟨h3,h4⟩:=h (i+1) d (by grind)
  grind
section
variable {H:Type}{enc:TypeId×Value->H}{P:Program}{w:World}{sp:Nat->Bool}{held:Bool}
theorem Zho{a:Addr}{n:Nat}{c:List Value}(h:w.cells? 0 a n=some c):c.length=n/\(∀j,(hj:j<c.length)->w.cell? (a.add j)=some c[j]):=by
 unfold World.cells? at h;rw[if_pos (Nat.zero_le _)]at h;have hl:c.length=n:=by have:=mapM_some_length h;grind
 refine⟨hl,fun j hj=> ?_⟩;have:=mapM_some_get h j j (by grind)
 grind
theorem Zl0{a:Addr}{v:Value}(h:w.cell? a=some v):a.spot=none/\a.block<w.heap.size:=by
 unfold World.cell? at h;split at h
 ·rename_i c t f hh;refine⟨?_, ?_⟩
  ·simp_all
  grind
 grind
theorem Zke{I:Nat->Prop}{fuel:Nat}{θ:TypeId->Option Ty}(hθ: ∀T t,θ T=some t->TOk P θ T t)
  (ih: ∀ (t:Ty) (T:TypeId) (cs:List Value) (x:DataW H×List MemPlace),θ T=some t->t.firm=true->DataW.trod enc P w 0 sp held fuel T cs=some x-> ∃y,Rd w I t y cs/\Zly t y) (cs:List Value) (xs:List (DataW H×List MemPlace)):
  ∀ (t:Ty) (fs:List Field) (base:Nat),t.chain=true->t.firm=true->cs.length=base+t.size->
   (∀i fd,fs[i]? =some fd-> ∃o t',Zbh t [i]=some (o,t')/\fd.offset=base+o/\θ fd.type=some t')->Zbh t [fs.length]=none->
   (∀ (i:Nat) (f:Field),fs[i]? =some f-> ∃x,DataW.trod enc P w 0 sp held fuel f.type ((cs.drop f.offset).take (P.cellsOf f.type))=some x)->
   ∃y,Rd w I t y (cs.drop base)/\Zly t y
 | .unit,fs,base,_,_,hl,_,_,_=>⟨(),by simp only[Rd,Ty.size]at hl ⊢;grind,trivial⟩
 | .prod a b,[],base,hc,hf,hl,h1,h2,h3=>by simp [Zbh]at h2
 | .prod a b,fd::fs,base,hc,hf,hl,h1,h2,h3=>by
  simp only[Ty.chain]at hc;simp only[Ty.firm,Vc]at hf;obtain⟨o,t',e1,e2,e3⟩:=h1 0 fd (by simp)
  have ea:o=0/\t' =a:=by
   cases a<;>simp [Zbh]at e1<;>exact⟨e1.1.symm,e1.2.symm⟩
  obtain⟨rfl,rfl⟩:=ea;obtain⟨x,hx⟩:=h3 0 fd (by simp);obtain⟨y1,hy1,hg1⟩:=ih _ _ _ _ e3 hf.1 hx
  have hsz:P.cellsOf fd.type=t'.size:=by obtain⟨i,z,g1,g2,_⟩:=(hθ _ _ e3).info;simp [Program.cellsOf,g1,g2]
  have hl' :cs.length=base+t'.size+b.size:=by rw[hl];simp only[Ty.size];omega
  obtain⟨y2,hy2,hg2⟩:=Zke hθ ih cs xs b fs (base+t'.size) hc hf.2 hl' (fun i gd hgd=>by
    obtain⟨o,t'',g1,g2,g3⟩:=h1 (i+1) gd (by grind);simp only[Zbh,Option.map_eq_some_iff]at g1
    grind) (by simpa [Zbh] using h2) (fun i f hf=>h3 (i+1) f (by grind))
  refine⟨(y1,y2), ?_,hg1,hg2⟩;simp only[Rd];refine⟨_,_, ?_,hy1,hy2⟩
  rw[hsz,e2,Vd, <-Vg,List.take_append_drop]
 | .int _,_,_,hc,_,_,_,_,_=>by simp [Ty.chain]at hc
 | .bool,_,_,hc,_,_,_,_,_=>by simp [Ty.chain]at hc
 | .str,_,_,hc,_,_,_,_,_=>by simp [Ty.chain]at hc
 | .sl _,_,_,hc,_,_,_,_,_=>by simp [Ty.chain]at hc
 | .arr _ _,_,_,hc,_,_,_,_,_=>by simp [Ty.chain]at hc
 | .ref,_,_,hc,_,_,_,_,_=>by simp [Ty.chain]at hc
theorem ZgU{n:Nat} : ∀ (m:Nat) (cs:List Value),cs.length=m*n->cs=((Va m).map fun i=>(cs.drop (i*n)).take n).flatten
 |0,cs,h=>by grind
 |m+1,cs,h=>by
  rw[List.range_succ_eq_map,List.map_cons,Vf,List.map_map];have hd: (cs.drop n).length=m*n:=by grind
  have ih:=ZgU m (cs.drop n) hd
  have e: ((Va m).map ((fun i=>(cs.drop (i*n)).take n) ∘Nat.succ))=((Va m).map fun i=>((cs.drop n).drop (i*n)).take n):=by
   apply List.map_congr_left;intro i _;simp only[Function.comp,Vg]
   grind
  rw[e, <-ih];simp
theorem ZhH{θ:TypeId->Option Ty}(hθ: ∀T t,θ T=some t->TOk P θ T t): ∀ (fuel:Nat) (t:Ty) (T:TypeId) (cs:List Value) (x:DataW H×List MemPlace),θ T=some t->t.firm=true->
  DataW.trod enc P w 0 sp held fuel T cs=some x-> ∃y,Rd w (fun b=>b<w.heap.size) t y cs/\Zly t y
 |0,t,T,cs,x,_,_,h=>by simp [DataW.trod]at h
 |fuel+1,t,T,cs,x,hT,hf,h=>by
  have hk:=hθ _ _ hT;have hs:=hk.shape
  have hsz: ∀ {T t},θ T=some t->P.cellsOf T=t.size:=by intro T t hT;obtain⟨i,z,g1,g2,_⟩:=(hθ _ _ hT).info;simp [Program.cellsOf,g1,g2]
  cases t with
  |int k=>
   cases hu:P.underlying T with
   |none=>rw[hu]at hs;simp [Zak]at hs
   |some d=>
    rw[hu]at hs
    cases d<;>simp [Zak]at hs
    subst hs;obtain⟨n,h1,_,h2⟩:=DataW.trod_int hu h
    exact⟨n,h1,by simpa [Lit.wf,Zly] using h2⟩
  |bool=>
   cases hu:P.underlying T with
   |none=>rw[hu]at hs;simp [Zak]at hs
   |some d=>
    rw[hu]at hs
    cases d<;>simp [Zak]at hs
    obtain⟨n,h1,_⟩:=DataW.trod_bool hu h
    exact⟨n,h1,trivial⟩
  |str=>
   cases hu:P.underlying T with
   |none=>rw[hu]at hs;simp [Zak]at hs
   |some d=>
    rw[hu]at hs
    cases d<;>simp [Zak]at hs
    obtain⟨s,h1,_,h2⟩:=DataW.trod_string hu h;refine⟨s.data.toList, ?_, ?_⟩
    all_goals assumption
  |sl e=>
   cases hu:P.underlying T with
   |none=>rw[hu]at hs;simp [Zak]at hs
   |some d=>
    rw[hu]at hs
    cases d<;>simp [Zak]at hs
    rename_i E;simp only[Ty.firm,Vc,Bool.not_eq_true']at hf
    have hf2:e.size≠0:=by
     intro h0
     simp_all
    rcases DataW.trod_slice hu h with ⟨h1,_⟩ | ⟨a,len,cap,elems,rest,n,h0,h1,_,_,h2,h3,h4,h5,_⟩
    ·exact⟨[],⟨none,0,[],h1,trivial,by simp,Nat.le_refl _⟩,Nat.zero_le _,by simp⟩
    ·have hn:n=fuel:=by omega
     subst hn;rw[hsz hs]at h5
     have hcell: ∀i,i<len-> ∃c x,w.cells? 0 (a.add (i*e.size)) e.size=some c/\DataW.trod enc P w 0 sp held n E c=some x:=by
      intro i hi;have:=h5 i hi;rw[Vb (by omega)]at this;obtain⟨c,h6,h7⟩:=Option.bind_eq_some_iff.1 this
      grind
     have hget: ∀i c,((Va len).map fun i=>(w.cells? 0 (a.add (i*e.size)) e.size).getD [])[i]? =some c->i<len/\w.cells? 0 (a.add (i*e.size)) e.size=some c/\ ∃x,DataW.trod enc P w 0 sp held n E c=some x:=by
      grind
     obtain⟨y,hy,hg⟩:=Zpi (r:=Rd w (fun b=>b<w.heap.size) e) (q:=Zly e) ((Va len).map fun i=>(w.cells? 0 (a.add (i*e.size)) e.size).getD []) (by intro c hc;obtain⟨i,hi⟩:=List.getElem?_of_mem hc;obtain⟨_,_,x,h7⟩:=hget i c hi;exact ZhH hθ n e E c x hs hf.1 h7)
     have hlen:y.length=len:=by rw[hy.length];simp
     refine⟨y,⟨some a,cap,_,by grind,hy,fun hne=> ?_,by omega⟩,by omega,hg⟩
     have hpos:0<len:=by
      grind
     obtain⟨c0,x0,h6,_⟩:=hcell 0 hpos;obtain⟨h7,h8⟩:=Zho h6;have h9:=h8 0 (by omega);simp only[Nat.zero_mul,Addr.add,if_true]at h9;obtain⟨h10,h11⟩:=Zl0 h9;obtain⟨b,off,spot⟩:=a;simp only at h10 h11;subst h10;refine⟨b,off,rfl,h11,ZcC.flat (n:=e.size) fun i c hc=> ?_⟩;obtain⟨hi,h12,_⟩:=hget i c hc;obtain⟨h13,h14⟩:=Zho h12;refine⟨h13,fun j hj=> ?_⟩;rw[<-h14 j hj];congr 1;by_cases h0:i*e.size=0
     ·by_cases hj0:j=0
      ·simp only[Addr.add,h0,hj0,if_true,Vd]
      ·simp only[Addr.add,h0,hj0,if_true,if_false,Vd]
     ·by_cases hj0:j=0
      ·simp only[Addr.add,h0,hj0,if_true,if_false,Vd]
      ·simp only[Addr.add,h0,hj0,if_false]
  |unit=>
   cases hu:P.underlying T with
   |none=>rw[hu]at hs;simp [Zak]at hs
   |some d=>
    rw[hu]at hs
    cases d<;>simp [Zak]at hs
    obtain⟨xs,n,_,_,h1,_⟩:=DataW.trod_struct hu h;rw[hsz hT]at h1
    exact⟨(),by simpa [Rd,Ty.size] using h1,trivial⟩
  |prod a b=>
   cases hu:P.underlying T with
   |none=>rw[hu]at hs;simp [Zak]at hs
   |some d=>
    rw[hu]at hs
    cases d<;>simp only[Zak,Bool.false_eq_true]at hs
    rename_i fs;simp only[Vc,List.all_eq_true]at hs;obtain⟨⟨hs1,hs2⟩,hs3⟩:=hs;obtain⟨xs,n,h0,_,h1,h2,h3⟩:=DataW.trod_struct hu h;have hn:n=fuel:=by omega
    subst hn;rw[hsz hT]at h1
    obtain⟨y,hy,hg⟩:=Zke (enc:=enc) (sp:=sp) (held:=held) (fuel:=n) (I:=fun b=>b<w.heap.size) hθ (fun t T cs x=>ZhH hθ n t T cs x) cs xs (.prod a b) fs.toList 0 hs3 hf (by omega) (by
     grind) (by simp_all) (by
     grind)
    grind
  |arr m e=>
   cases hu:P.underlying T with
   |none=>rw[hu]at hs;simp [Zak]at hs
   |some d=>
    rw[hu]at hs
    cases d<;>simp [Zak]at hs
    obtain⟨rfl,hs⟩:=hs;obtain⟨xs,n,h0,_,h1,h2,h3⟩:=DataW.trod_array hu h;have hn:n=fuel:=by omega
    subst hn;rw[hsz hs]at h3;rw[hsz hT]at h1
    obtain⟨y,hy,hg⟩:=Zpi (r:=Rd w (fun b=>b<w.heap.size) e) (q:=Zly e) ((Va m).map fun i=>(cs.drop (i*e.size)).take e.size) (by
     intro c hc;obtain⟨i,hi,rfl⟩:=List.mem_map.1 hc;have hi' :i<m:=by grind
     have:=h3 i hi';rw[Vb (by omega)]at this;exact ZhH hθ n e _ _ _ hs hf this)
    refine⟨y,⟨?_,_,ZgU m cs h1,hy⟩, ?_,hg⟩
    ·rw[hy.length];simp
    ·rw[hy.length];simp
  |ref=>simp [Ty.firm]at hf
def ZgT(θ:TypeId->Option Ty):Za5->List TypeId->Bool
 | .nil,[]=>true
 | .cons (.pd t) l,T::Ts=>θ T==some t&&t.firm&&ZgT θ l Ts
 |_,_=>false
def ZiF: (l:Za5)->ZcJ l->Prop
 | .nil,_=>True
 | .cons (.pd t) l,x=>Zly t x.1/\ZiF l x.2
 | .cons _ l,x=>ZiF l x.2
theorem Zok{θ:TypeId->Option Ty}{T:TypeId}{t:Ty}(h:TOk P θ T t)(hf:t.firm=true){v:Value}{b:Nat}(hv:Ve P w .any b T v):Zav v=t.agg:=by
 have hs:=h.shape;unfold Ve at hv
 cases hu:P.underlying T with
 |none=>rw[hu]at hs;cases t<;>simp [Zak]at hs
 |some d=>
  rw[hu]at hs;simp only[hu]at hv
  cases t<;>cases d<;>simp [Zak,Ty.firm]at hs hf<;>simp only[Cell.okWide,hu,Cell.ok]at hv
  all_goals first
   | (obtain⟨cs,rfl,_⟩:=hv;rfl)
   | (cases v<;>first|rfl|grind|exact hv.elim)
theorem Zgc{θ:TypeId->Option Ty}(hθ: ∀T t,θ T=some t->TOk P θ T t): ∀ (l:Za5) (Ts:List TypeId) (vs:List Value) (ds:List (DataW H)) (ps:List MemPlace),ZgT θ l Ts=true->
  DataW.TrodAll enc P w 0 sp held Ts vs ds ps->(∀ (j:Nat) t v,Ts[j]? =some t->vs[j]? =some v-> ∃b,Ve P w .any b t v)-> ∃x,PVs w (fun b=>b<w.heap.size) l x [] vs/\ZiF l x
 | .nil,[],vs,ds,ps,_,h,_=>by
  cases vs with
  |nil=>exact⟨(),by simp [PVs],trivial⟩
  |cons v vs=>simp [DataW.TrodAll]at h
 | .nil,T::Ts,vs,ds,ps,ha,h,_=>by simp [ZgT]at ha
 | .cons p l,[],vs,ds,ps,ha,h,_=>by cases p<;>simp [ZgT]at ha
 | .cons p l,T::Ts,vs,ds,ps,ha,h,hv=>by
  cases p<;>simp [ZgT]at ha
  rename_i t;obtain⟨⟨h1,h2⟩,h3⟩:=ha
  cases vs with
  |nil=>simp [DataW.TrodAll]at h
  |cons v vs=>
   cases ds with
   |nil=>simp [DataW.TrodAll]at h
   |cons d ds=>
    simp only[DataW.TrodAll]at h;obtain⟨p1,p2,⟨fuel,h4⟩,h5,_⟩:=h;obtain⟨y,hy,hg⟩:=ZhH hθ fuel t T _ _ h1 h2 h4;obtain⟨x,hx,hgx⟩:=Zgc hθ l Ts vs ds p2 h3 h5 fun j t v ht hv' =>hv (j+1) t v (by grind) (by grind);obtain⟨b,hb⟩:=hv 0 T v (by simp) (by simp);refine⟨(y,x), ?_,hg,hgx⟩;simp only[PVs];refine⟨[],[],v,vs,rfl,rfl,⟨⟨rfl,hy⟩, .inr ?_⟩,hx⟩;exact Zok (hθ _ _ h1) h2 hb
end
theorem rv_bool{w:World}{I:Nat->Prop}{x:Bool×Unit}{js:List Nat}{v:Value}(h:RV w I (.cons (.pd .bool) .nil) x js v):v= .bool x.1:=by
 obtain⟨vs,h1,rfl⟩:=h;simp only[PVs]at h1;obtain⟨j1,j2,u,r,_,rfl,⟨h2,h3⟩,_,rfl⟩:=h1;simp only[PC]at h2
 have h4:Zav u=false:=by rcases h3 with h|h<;>simp [Pat.isAgg,Ty.agg]at h<;>exact h
 have h5:u.cells.toList=[.bool x.1]:=h2.2;show u=_
 cases u<;>simp_all [Zav,Value.cells]
end Tr
