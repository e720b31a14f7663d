/- The types of a program and their codes: what must hold of a table of type codes, a test for it, and reading and writing variables. Conditions: none. -/
import Derived.Test.YtdpenljjnfmgiaaGreatTrF
open Bool renaming and_eq_true ->Va,not_false ->Vh,false_and ->Vi,and_true ->Vj
open List renaming isEmpty_iff ->Vf,all_eq_true ->Vg
open Go.Result renaming andThen_ok ->Vb
open Go.Sem renaming run_bind ->Vc,run_pure ->Vd
open Go.Value renaming oneCell' ->Ve
namespace Tr
open Go
def ZgA(f:List Value->Bool)(size:Nat):Nat->List Value->Bool
 |0,cs=>cs.isEmpty
 |n+1,cs=>f (cs.take size) &&ZgA f size n (cs.drop size)
def ZdE:Ty->List Value->Bool
 | .int k,[.int k' n]=>k==k' &&n==0
 | .bool,[.bool b]=> !b
 | .str,[.string s]=>s.data.toList.isEmpty
 | .sl _,[.slice none 0 0]=>true
 | .unit,[]=>true
 | .prod a b,cs=>ZdE a (cs.take a.size) &&ZdE b (cs.drop a.size)
 | .arr n t,cs=>ZgA (ZdE t) t.size n cs
 |_,_=>false
def ZeV:List Value->Bool
 | [.pointer none]=>true
 | [.nilFunc]=>true
 | [.map none]=>true
 |_=>false
def Zer:List Value->Bool
 | [.slice none 0 0]=>true
 |_=>false
def ZgN:Ty->List Value->Bool
 | .prod a b,cs=>(bif a.data then ZdE a (cs.take a.size) else(match a with
   | .ref=>ZeV (cs.take 1)
   | .sl _=>Zer (cs.take 1)
   |a=>(cs.take a.size).length==a.size&& (cs.take a.size).all Ve)) &&ZgN b (cs.drop a.size)
 | .unit,cs=>cs.isEmpty
 |_,_=>false
def ZcY(t:Ty)(cs:List Value):Bool:=
 bif t.data then ZdE t cs else match t with
  | .ref=>ZeV cs
  | .sl _=>Zer cs
  | .prod a b=>ZgN (.prod a b) cs
  |t=>cs.length==t.size&&cs.all Ve
theorem Zd3{w:World}{I:Nat->Prop} : ∀ (t:Ty) (cs:List Value),ZdE t cs=true->Rd w I t (zeroEl t) cs:=by
 intro t
 induction t with
 |int k=>
  intro cs h
  match cs,h with
  | [.int k' n],h=>
   simp only[ZdE,Va,beq_iff_eq]at h
   obtain⟨rfl,rfl⟩:=h;rfl
 |bool=>
  intro cs h
  match cs,h with
  | [.bool b],h=>simp only[ZdE,Bool.not_eq_true']at h;subst h;rfl
 |str=>
  intro cs h
  match cs,h with
  | [.string s],h=>
   obtain⟨⟨l⟩⟩:=s;simp only[ZdE,Vf]at h
   subst h;rfl
 |sl t _=>
  intro cs h
  match cs,h with
  | [.slice none 0 0],_=>exact⟨none,0,[],rfl,trivial,fun h=>absurd rfl h,Nat.le_refl _⟩
 |unit=>
  intro cs h
  match cs,h with
  | [],_=>rfl
 |prod a b iha ihb=>
  intro cs h;simp only[ZdE,Va]at h
  exact⟨_,_,by simp,iha _ h.1,ihb _ h.2⟩
 |arr n t ih=>
  intro cs h;simp only[ZdE]at h;refine⟨by simp [zeroEl], ?_⟩
  induction n generalizing cs with
  |zero=>
   simp only[ZgA,Vf]at h;subst h
   exact⟨[],rfl,by simp [zeroEl,Fa]⟩
  |succ n ihn=>
   simp only[ZgA,Va]at h;obtain⟨css,h1,h2⟩:=ihn _ h.2;refine⟨cs.take t.size::css, ?_, ?_⟩
   ·rw[List.flatten_cons, <-h1,List.take_append_drop]
   ·simp only[zeroEl,List.replicate_succ]at h2 ⊢
    exact⟨ih _ h.1,h2⟩
 |ref=>
  intro cs h;simp [ZdE]at h
theorem Zet{w:World}{g:Gh}{cs:List Value}(h:ZeV cs=true):CV w g .nilr cs:=by
 simp only[CV]
 match cs,h with
 | [.pointer none],_=>simp
 | [.nilFunc],_=>simp
 | [.map none],_=>simp
theorem ZbQ{w:World}{g:Gh}{cs:List Value}(h:Zer cs=true):CV w g .nils cs:=by
 simp only[CV]
 match cs,h with
 | [.slice none 0 0],_=>rfl
theorem Zjj{w:World}{g:Gh}{t:Ty}{cs:List Value}(h:ZdE (.sl t) cs=true):CV w g .nils cs:=by
 simp only[CV]
 match cs,h with
 | [.slice none 0 0],_=>rfl
theorem ZeL{w:World}{g:Gh} : ∀ (t:Ty) (cs:List Value),ZgN t cs=true->CVs w g (Zb2 false t) cs/\(Zb2 false t).fits t=true:=by
 intro t
 induction t with
 |prod a b _ ihb=>
  intro cs h;simp only[ZgN,Va]at h;obtain⟨h1,h2⟩:=ihb _ h.2;simp only[Zb2,CVs,AVs.fits,Va];have h0:=h.1
  have key:CV w g (Zd7 false a) (cs.take a.size)/\(Zd7 false a).fits a=true:=by
   cases hsl:a.isSl with
   |true=>
    obtain⟨t,rfl⟩: ∃t,a= .sl t:=by cases a<;>simp [Ty.isSl]at hsl;simp
    have e1:Zd7 false (.sl t)= .nils:=by simp [Zd7,Ty.isSl,Zmi]
    rw[e1];refine⟨?_,rfl⟩
    cases hd: (Ty.sl t).data with
    |true=>rw[hd]at h0;simp only[cond_true]at h0;exact Zjj h0
    |false=>rw[hd]at h0;simp only[cond_false]at h0;exact ZbQ h0
   |false=>
   unfold Zd7
   cases hd:a.data with
   |true=>
    rw[hd]at h0;simp only[hsl,Vh,Bool.or_true,Vj,cond_true]at h0 ⊢
    exact⟨by simpa only[CV] using Zd3 a _ h0,by simp [AV.fits]⟩
   |false=>
    rw[hd]at h0;simp only[Vi,cond_false]at h0 ⊢
    cases a with
    |ref=>exact⟨Zet h0,rfl⟩
    |sl t=>exact⟨ZbQ h0,rfl⟩
    |_=>
     simp only[Va,beq_iff_eq,Vg]at h0;exact⟨by assumption,by simp [Zmi,AV.fits]⟩
  exact⟨⟨_,_,by simp,key.1,h1⟩,key.2,h2⟩
 |unit=>
  intro cs h;simp only[ZgN,Vf]at h;subst h
  exact⟨rfl,rfl⟩
 |_=>intro cs h;simp [ZgN]at h
theorem Zc8{w:World}{g:Gh}{t:Ty}{cs:List Value}(h:ZcY t cs=true):CV w g (Zby t) cs/\(Zby t).fits t=true:=by
 unfold ZcY at h
 cases hsl:t.isSl with
 |true=>
  cases t<;>simp [Ty.isSl]at hsl
  rename_i t;have e1:Zby (.sl t)= .nils:=by simp [Zby,Ty.isSl]
  rw[e1];refine⟨?_,rfl⟩
  cases hd: (Ty.sl t).data with
  |true=>rw[hd]at h;simp only[cond_true]at h;exact Zjj h
  |false=>rw[hd]at h;simp only[cond_false]at h;exact ZbQ h
 |false=>
 unfold Zby
 cases hd:t.data with
 |true=>
  rw[hd]at h;simp only[hsl,Vh,Vj,cond_true]at h ⊢
  exact⟨by simpa only[CV] using Zd3 t _ h,by simp [AV.fits]⟩
 |false=>
  rw[hd]at h;simp only[Vi,cond_false]at h ⊢
  cases t with
  |ref=>exact⟨Zet h,rfl⟩
  |sl t=>exact⟨ZbQ h,rfl⟩
  |prod a b=>
   obtain⟨h1,h2⟩:=ZeL (w:=w) (g:=g) _ _ h
   exact⟨by assumption,by assumption⟩
  |_=>
   simp only[Va,beq_iff_eq,Vg]at h;exact⟨by assumption,by simp [AV.fits]⟩
theorem ZjG(t:Ty)(h:t.data=true\/(match t with| .arr _ _=>False|_=>True)): (Zby t).isAgg=t.agg:=by
 unfold Zby
 cases hsl:t.isSl with
 |true=>cases t<;>simp [Ty.isSl]at hsl;simp [AV.isAgg,Ty.agg]
 |false=>
 cases hd:t.data with
 |true=>rfl
 |false=>
  rw[hd]at h
  cases t<;>simp_all [AV.isAgg,Ty.agg,Ty.data]
theorem Zl4{w:World}{g:Gh}{t:Ty}{z:Value}(hd:t.data=true)(h:VR1 w g (Zby t) z):VR1 w g (.d t (zeroEl t)) z:=by
 cases hsl:t.isSl with
 |false=>
  have e1:Zby t= .d t (zeroEl t):=by simp [Zby,hd,hsl]
  grind
 |true=>
  cases t<;>simp [Ty.isSl]at hsl
  rename_i t;have e1:Zby (.sl t)= .nils:=by simp [Zby,Ty.isSl]
  rw[e1]at h;obtain⟨h1,h2⟩:=h;simp only[CV]at h1;refine⟨?_, .inr ?_⟩
  ·simp only[CV];rw[h1];exact⟨none,0,[],rfl,trivial,fun h=>absurd rfl h,Nat.le_refl _⟩
  ·exact h2.resolve_left (by simp)
def Ty.chain:Ty->Bool
 | .prod _ b=>b.chain
 | .unit=>true
 |_=>false
def Zaj(θ:TypeId->Option Ty)(t:Ty)(d:Option TypeDesc):Bool:=
 match t,d with
 | .int k,some (.int k')=>k==k'
 | .bool,some .bool=>true
 | .str,some .string=>true
 | .sl e,some (.slice E)=>θ E==some e
 | .arr n e,some (.array m E)=>n==m&&θ E==some e
 | .unit,some (.struct fs)=>fs.isEmpty
 | .prod a b,some (.struct fs)=>(List.range fs.size).all (fun f=>match fs[f]? with
   |some fd=>match Za3 (.prod a b) [f] with
    |some (o,t')=>fd.offset==o&&θ fd.type==some t' &&fd.name != "_"
    |none=>false
   |none=>true) && (Za3 (.prod a b) [fs.size]).isNone&&b.chain
 | .ref,some (.pointer _)=>true
 | .ref,some (.func _ _ _)=>true
 | .ref,some (.map _ _)=>true
 | .ref,some (.interface _)=>true
 |_,_=>false
def Zlr(P:Program)(T:TypeId):Bool:=match P.underlying T with
 |some (.slice Et)=>(match P.info? Et with
  |some i=>Nat.ble i.bytes 256
  |none=>false)
 |_=>true
def Zoz(P:Program)(θ:TypeId->Option Ty)(T:TypeId)(t:Ty):Bool:=
 match P.info? T with
 |some i=>Zlr P T&&i.size==t.size&&Nat.ble i.bytes 4096&& (match i.zero with
   |some z=>ZcY t z.cells.toList&&Zas z==t.agg&& (t.data|| (match t with| .arr _ _=>false|_=>true))
   |none=>false) &&Zaj θ t (P.underlying T) && !P.stoodInHeld T&& !P.eqGuardType P.depth T
 |none=>false
structure TOk (P:Program) (θ:TypeId->Option Ty) (T:TypeId) (t:Ty):Prop where
 info: ∃i z,P.info? T=some i/\i.size=t.size/\i.bytes<=4096/\i.zero=some z/\ZcY t z.cells.toList=true/\Zas z=t.agg
 small: ∀Et i,P.underlying T=some (.slice Et)->P.info? Et=some i->i.bytes<=256
 zagg: (Zby t).isAgg=t.agg
 shape:Zaj θ t (P.underlying T)=true
 stood:P.stoodInHeld T=false
 guard:P.eqGuardType P.depth T=false
theorem Znq{P:Program}{θ:TypeId->Option Ty}{T:TypeId}{t:Ty}(h:Zoz P θ T t=true):TOk P θ T t:=by
 unfold Zoz at h;split at h
 ·rename_i i hi;simp only[Va,beq_iff_eq]at h;obtain⟨⟨⟨⟨⟨⟨h0,h1⟩,h2⟩,h3⟩,h4⟩,h5⟩,h6⟩:=h
  have hs: ∀Et i,P.underlying T=some (.slice Et)->P.info? Et=some i->i.bytes<=256:=fun Et i e1 e2=>by unfold Zlr at h0;simp_all
  split at h3
  ·rename_i z hz;simp only[Va,beq_iff_eq,Bool.or_eq_true]at h3;refine⟨⟨i,z,hi,h1,Nat.le_of_ble_eq_true h2,hz,h3.1.1,h3.1.2⟩,hs,ZjG t ?_,h4,by grind,by grind⟩
   grind
  grind
 grind
section
variable {P:Program}{θ:TypeId->Option Ty}{T:TypeId}{t:Ty}
theorem TOk.und(h:TOk P θ T t): ∃d,P.underlying T=some d:=by
 have:=h.shape
 cases hu:P.underlying T with
 |some d=>simp
 |none=>rw[hu]at this;cases t<;>simp [Zaj]at this
theorem TOk.run_isAgg(h:TOk P θ T t)(w:World): (isAgg T).run P w= .ok t.agg w:=by
 obtain⟨d,hd⟩:=h.und;have hs:=h.shape;rw[hd]at hs;simp only[isAgg,underlying,Vc,run_program,Vb,hd,Vd]
 cases t<;>cases d<;>simp_all [Zaj,Ty.agg]
theorem TOk.run_sizeOf(h:TOk P θ T t)(w:World): (Go.sizeOf T).run P w= .ok t.size w:=by obtain⟨i,z,h1,h2,_⟩:=h.info;simp only[Go.sizeOf,typeInfo,Vc,run_program,Vb,h1,Vd,h2]
theorem TOk.run_zero(h:TOk P θ T t)(w:World): ∃z,(zeroValue T).run P w= .ok z w/\ ∀w g,VR1 w g (Zby t) z/\(Zby t).fits t=true:=by
 obtain⟨i,z,h1,h2,h3,h4,h5,h6⟩:=h.info;refine⟨z, ?_,fun w g=>⟨⟨(Zc8 h5).1, .inr ?_⟩,(Zc8 (w:=w) (g:=g) h5).2⟩⟩
 ·simp only[zeroValue,typeInfo,Vc,run_program,Vb,h1,Vd,h4]
 ·rw[h.zagg,h6]
theorem ZnZ: ∀ (t:Ty) (cs:List Value),t.chain=true->t.data=true->ZdE t cs=true->ZgN t cs=true:=by
 intro t
 induction t with
 |prod a b _ ihb=>
  intro cs hc hd h;simp only[Ty.data,Va]at hd;simp only[ZdE,Va]at h;simp only[ZgN,hd.1,cond_true,Va]
  exact⟨h.1,ihb _ (by assumption) hd.2 h.2⟩
 |unit=>
  intro cs _ _ h
  cases cs with
  |nil=>rfl
  |cons v l=>assumption
 |_=>intro cs hc;simp [Ty.chain]at hc
theorem Zjb{a b:Ty}{cs:List Value}(hc:b.chain=true)(h:ZcY (.prod a b) cs=true):ZgN (.prod a b) cs=true:=by
 unfold ZcY at h
 cases hd: (Ty.prod a b).data with
 |true=>rw[hd]at h;exact ZnZ _ _ (by assumption) hd h
 |false=>grind
theorem TOk.chain{a b:Ty}(h:TOk P θ T (.prod a b)):b.chain=true:=by
 have hs:=h.shape;unfold Zaj at hs
 grind
theorem TOk.run_zerox(h:TOk P θ T t)(x:Bool)(w:World): ∃z,(zeroValue T).run P w= .ok z w/\ ∀w g,VR1 w g (Ze9 x t) z/\(Ze9 x t).fits t=true:=by
 have hd:Ze9 x t=Zby t\/ ∃a b,t= .prod a b/\Ze9 x t= .agg (Zb2 false (.prod a b)):=by
  cases x with
  |false=>exact .inl rfl
  |true=>cases t with
   |prod a b=>exact .inr ⟨a,b,rfl,rfl⟩
   |_=>exact .inl rfl
 rcases hd with hd| ⟨a,b,rfl,hd⟩
 ·rw[hd];exact h.run_zero w
 ·rw[hd];obtain⟨i,z,h1,h2,h3,h4,h5,h6⟩:=h.info;refine⟨z, ?_,fun w g=> ?_⟩
  ·simp only[zeroValue,typeInfo,Vc,run_program,Vb,h1,Vd,h4]
  ·obtain⟨h7,h8⟩:=ZeL (w:=w) (g:=g) _ _ (Zjb h.chain h5);exact⟨⟨by assumption, .inr (by assumption)⟩,by assumption⟩
def ZbD(w:World)(b o:Nat)(cs:List Value):Prop:= ∀j v,cs[j]? =some v->w.cell? ⟨b,o+j,none⟩=some v
theorem ZbD.add{w:World}{b o:Nat}{cs:List Value}(h:ZbD w b o cs): ∀j v,cs[j]? =some v->w.cell? ((⟨b,o,none⟩:Addr).add j)=some v:=by
 intro j v hj;unfold Addr.add;split
 ·rename_i h0;subst h0;exact h 0 v hj
 ·exact h j v hj
theorem Zca.at{w:World}{b o:Nat}{cs:List Value}(h:Zca w b o cs):ZbD w b o cs:=by intro j v hj;obtain⟨h1,rfl⟩:=List.getElem?_eq_some_iff.1 hj;exact h j h1
theorem ZbD.of_heap{w:World}{b:Nat}{cs:Array Value}{e:TypeId}{fr:Nat×Nat}(h:w.heap[b]? =some (.cells cs e fr)){pre c post:List Value}(hc:cs.toList=pre++c++post):ZbD w b pre.length c:=by
 intro j v hj;simp only[World.cell?,h,Option.isSome_none,Bool.false_eq_true,if_false];rw[<-Array.getElem?_toList,hc,List.append_assoc,List.getElem?_append_right (by omega)]
 grind
theorem ZdG(h:TOk P θ T t){w:World}{b o:Nat}{cs:List Value}(hc:ZbD w b o cs)(hl:cs.length=t.size)(h1:t.agg=false-> ∃v,cs=[v]):
  (loadVar T ⟨b,o,none⟩).run P w= .ok (mkV t.agg cs) w:=by
 simp only[loadVar,Vc,h.run_isAgg,Vb]
 cases ha:t.agg with
 |true=>
  simp only[if_true,Vc,h.run_sizeOf,Vb, <-hl,run_loadCells_list w _ cs hc.add,Vd,mkV]
 |false=>
  obtain⟨v,rfl⟩:=h1 ha;simp [mkV];have:=hc 0 v rfl
  grind
theorem Ze6{w:World}{g:Gh}{a:AV}{cs:List Value}(h:CV w g a cs)(hf:a.fits t=true)(ha:a.isAgg=t.agg):VR1 w g a (mkV t.agg cs)/\(t.agg=false-> ∃v,cs=[v]):=by
 have hne:a≠ .junk:=by rintro rfl;simp [AV.fits]at hf
 have hone:=CV.oneCell a cs hne h t hf;have hlen:=CV.length a t cs hf h
 cases hg:t.agg with
 |true=>exact⟨⟨by assumption, .inr (by rw[ha,hg];rfl)⟩,by simp⟩
 |false=>
  have hs:t.size=1:=by cases t<;>simp_all [Ty.agg,Ty.size]
  rw[hs]at hlen
  match cs,hlen with
  | [v],_=>
   have hv:=hone v (by simp);refine⟨⟨?_, .inr ?_⟩,by simp⟩
   ·have:v.cells= #[v]:=by cases v<;>simp_all [Value.cells,Ve]
    simpa [mkV,this] using h
   ·rw[ha,hg];cases v<;>simp_all [mkV,Zas,Ve]
end
theorem ZlJ{a:AV}{t:Ty}(h:a.fits t=true):a.isAgg=t.agg\/ ∃n,a= .jk n:=by
 cases a with
 |d t' x=>simp only[AV.fits,beq_iff_eq]at h;subst h;exact .inl rfl
 |agg l=>cases l<;>cases t<;>simp_all [AV.fits,AVs.fits,AV.isAgg,Ty.agg]
 |jk n=>simp
 |_=>cases t<;>simp_all [AV.fits,AV.isAgg,Ty.agg]
end Tr
