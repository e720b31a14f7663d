/- The types of a program and their codes: what must hold of a table of type codes, a test for it, and reading and writing variables. Conditions: none. -/
import Derived.Test.YtdpenljjnfmgiaaGreatTrF
open Bool renaming and_eq_true ->Va,not_false ->Vh,false_and ->Vi,and_true ->Vj
open List renaming isEmpty_iff ->Vf,all_eq_true ->Vg
open Go.Result renaming andThen_ok ->Vb
open Go.Sem renaming run_bind ->Vc,run_pure ->Vd
open Go.Value renaming oneCell' ->Ve
namespace Tr
open Go
def Zia(f:List Value->Bool)(size:Nat):Nat->List Value->Bool
 |0,cs=>cs.isEmpty
 |n+1,cs=>f (cs.take size) &&Zia f size n (cs.drop size)
def Zew:Ty->List Value->Bool
 | .int k,[.int k' n]=>k==k' &&n==0
 | .bool,[.bool b]=> !b
 | .str,[.string s]=>s.data.toList.isEmpty
 | .sl _,[.slice none 0 0]=>true
 | .unit,[]=>true
 | .prod a b,cs=>Zew a (cs.take a.size) &&Zew b (cs.drop a.size)
 | .arr n t,cs=>Zia (Zew t) t.size n cs
 |_,_=>false
def Zf4:List Value->Bool
 | [.pointer none]=>true
 | [.nilFunc]=>true
 | [.map none]=>true
 |_=>false
def Zfj:List Value->Bool
 | [.slice none 0 0]=>true
 |_=>false
def Zh2:Ty->List Value->Bool
 | .prod a b,cs=>(bif a.data then Zew a (cs.take a.size) else(match a with
   | .ref=>Zf4 (cs.take 1)
   | .sl _=>Zfj (cs.take 1)
   |a=>(cs.take a.size).length==a.size&& (cs.take a.size).all Ve)) &&Zh2 b (cs.drop a.size)
 | .unit,cs=>cs.isEmpty
 |_,_=>false
def ZdR(t:Ty)(cs:List Value):Bool:=
 bif t.data then Zew t cs else match t with
  | .ref=>Zf4 cs
  | .sl _=>Zfj cs
  | .prod a b=>Zh2 (.prod a b) cs
  |t=>cs.length==t.size&&cs.all Ve
theorem ZeI{w:World}{I:Nat->Prop} : ∀ (t:Ty) (cs:List Value),Zew t cs=true->Rd w I t (zeroEl t) cs:=by
 intro t
 induction t with
 |int k=>
  intro cs h
  match cs,h with
  | [.int k' n],h=>
   simp only[Zew,Va,beq_iff_eq]at h
   obtain⟨rfl,rfl⟩:=h;rfl
 |bool=>
  intro cs h
  match cs,h with
  | [.bool b],h=>simp only[Zew,Bool.not_eq_true']at h;subst h;rfl
 |str=>
  intro cs h
  match cs,h with
  | [.string s],h=>
   obtain⟨⟨l⟩⟩:=s;simp only[Zew,Vf]at h
   subst h;rfl
 |sl t _=>
  intro cs h
  match cs,h with
  | [.slice none 0 0],_=>exact⟨none,0,[],rfl,trivial,fun h=>absurd rfl h,Nat.le_refl _⟩
 |unit=>
  intro cs h
  match cs,h with
  | [],_=>rfl
 |prod a b iha ihb=>
  intro cs h;simp only[Zew,Va]at h
  exact⟨_,_,by simp,iha _ h.1,ihb _ h.2⟩
 |arr n t ih=>
  intro cs h;simp only[Zew]at h;refine⟨by simp [zeroEl], ?_⟩
  induction n generalizing cs with
  |zero=>
   simp only[Zia,Vf]at h;subst h
   exact⟨[],rfl,by simp [zeroEl,Fa]⟩
  |succ n ihn=>
   simp only[Zia,Va]at h;obtain⟨css,h1,h2⟩:=ihn _ h.2;refine⟨cs.take t.size::css, ?_, ?_⟩
   ·rw[List.flatten_cons, <-h1,List.take_append_drop]
   ·simp only[zeroEl,List.replicate_succ]at h2 ⊢
    exact⟨ih _ h.1,h2⟩
 |ref=>
  intro cs h;simp [Zew]at h
theorem ZfB{w:World}{g:Gh}{cs:List Value}(h:Zf4 cs=true):CV w g .nilr cs:=by
 simp only[CV]
 match cs,h with
 | [.pointer none],_=>simp
 | [.nilFunc],_=>simp
 | [.map none],_=>simp
theorem Zb8{w:World}{g:Gh}{cs:List Value}(h:Zfj cs=true):CV w g .nils cs:=by
 simp only[CV]
 match cs,h with
 | [.slice none 0 0],_=>rfl
theorem ZkR{w:World}{g:Gh}{t:Ty}{cs:List Value}(h:Zew (.sl t) cs=true):CV w g .nils cs:=by
 simp only[CV]
 match cs,h with
 | [.slice none 0 0],_=>rfl
theorem ZfR{w:World}{g:Gh} : ∀ (t:Ty) (cs:List Value),Zh2 t cs=true->CVs w g (Zcy false t) cs/\(Zcy false t).fits t=true:=by
 intro t
 induction t with
 |prod a b _ ihb=>
  intro cs h;simp only[Zh2,Va]at h;obtain⟨h1,h2⟩:=ihb _ h.2;simp only[Zcy,CVs,AVs.fits,Va];have h0:=h.1
  have key:CV w g (ZeG false a) (cs.take a.size)/\(ZeG false a).fits a=true:=by
   cases hsl:a.isSl with
   |true=>
    obtain⟨t,rfl⟩: ∃t,a= .sl t:=by cases a<;>simp [Ty.isSl]at hsl;simp
    have e1:ZeG false (.sl t)= .nils:=by simp [ZeG,Ty.isSl,Zol]
    rw[e1];refine⟨?_,rfl⟩
    cases hd: (Ty.sl t).data with
    |true=>rw[hd]at h0;simp only[cond_true]at h0;exact ZkR h0
    |false=>rw[hd]at h0;simp only[cond_false]at h0;exact Zb8 h0
   |false=>
   unfold ZeG
   cases hd:a.data with
   |true=>
    rw[hd]at h0;simp only[hsl,Vh,Bool.or_true,Vj,cond_true]at h0 ⊢
    exact⟨by simpa only[CV] using ZeI a _ h0,by simp [AV.fits]⟩
   |false=>
    rw[hd]at h0;simp only[Vi,cond_false]at h0 ⊢
    cases a with
    |ref=>exact⟨ZfB h0,rfl⟩
    |sl t=>exact⟨Zb8 h0,rfl⟩
    |_=>
     simp only[Va,beq_iff_eq,Vg]at h0;exact⟨by assumption,by simp [Zol,AV.fits]⟩
  exact⟨⟨_,_,by simp,key.1,h1⟩,key.2,h2⟩
 |unit=>
  intro cs h;simp only[Zh2,Vf]at h;subst h
  exact⟨rfl,rfl⟩
 |_=>intro cs h;simp [Zh2]at h
theorem ZdU{w:World}{g:Gh}{t:Ty}{cs:List Value}(h:ZdR t cs=true):CV w g (ZbK t) cs/\(ZbK t).fits t=true:=by
 unfold ZdR at h
 cases hsl:t.isSl with
 |true=>
  cases t<;>simp [Ty.isSl]at hsl
  rename_i t;have e1:ZbK (.sl t)= .nils:=by simp [ZbK,Ty.isSl]
  rw[e1];refine⟨?_,rfl⟩
  cases hd: (Ty.sl t).data with
  |true=>rw[hd]at h;simp only[cond_true]at h;exact ZkR h
  |false=>rw[hd]at h;simp only[cond_false]at h;exact Zb8 h
 |false=>
 unfold ZbK
 cases hd:t.data with
 |true=>
  rw[hd]at h;simp only[hsl,Vh,Vj,cond_true]at h ⊢
  exact⟨by simpa only[CV] using ZeI t _ h,by simp [AV.fits]⟩
 |false=>
  rw[hd]at h;simp only[Vi,cond_false]at h ⊢
  cases t with
  |ref=>exact⟨ZfB h,rfl⟩
  |sl t=>exact⟨Zb8 h,rfl⟩
  |prod a b=>
   obtain⟨h1,h2⟩:=ZfR (w:=w) (g:=g) _ _ h
   exact⟨by assumption,by assumption⟩
  |_=>
   simp only[Va,beq_iff_eq,Vg]at h;exact⟨by assumption,by simp [AV.fits]⟩
theorem Zk8(t:Ty)(h:t.data=true\/(match t with| .arr _ _=>False|_=>True)): (ZbK t).isAgg=t.agg:=by
 unfold ZbK
 cases hsl:t.isSl with
 |true=>cases t<;>simp [Ty.isSl]at hsl;simp [AV.isAgg,Ty.agg]
 |false=>
 cases hd:t.data with
 |true=>rfl
 |false=>
  rw[hd]at h
  cases t<;>simp_all [AV.isAgg,Ty.agg,Ty.data]
theorem ZoC{w:World}{g:Gh}{t:Ty}{z:Value}(hd:t.data=true)(h:VR1 w g (ZbK t) z):VR1 w g (.d t (zeroEl t)) z:=by
 cases hsl:t.isSl with
 |false=>
  have e1:ZbK t= .d t (zeroEl t):=by simp [ZbK,hd,hsl]
  grind
 |true=>
  cases t<;>simp [Ty.isSl]at hsl
  rename_i t;have e1:ZbK (.sl t)= .nils:=by simp [ZbK,Ty.isSl]
  rw[e1]at h;obtain⟨h1,h2⟩:=h;simp only[CV]at h1;refine⟨?_, .inr ?_⟩
  ·simp only[CV];rw[h1];exact⟨none,0,[],rfl,trivial,fun h=>absurd rfl h,Nat.le_refl _⟩
  ·exact h2.resolve_left (by simp)
def Ty.chain:Ty->Bool
 | .prod _ b=>b.chain
 | .unit=>true
 |_=>false
def Zak(θ:TypeId->Option Ty)(t:Ty)(d:Option TypeDesc):Bool:=
 match t,d with
 | .int k,some (.int k')=>k==k'
 | .bool,some .bool=>true
 | .str,some .string=>true
 | .sl e,some (.slice E)=>θ E==some e
 | .arr n e,some (.array m E)=>n==m&&θ E==some e
 | .unit,some (.struct fs)=>fs.isEmpty
 | .prod a b,some (.struct fs)=>(List.range fs.size).all (fun f=>match fs[f]? with
   |some fd=>match Zbh (.prod a b) [f] with
    |some (o,t')=>fd.offset==o&&θ fd.type==some t' &&fd.name != "_"
    |none=>false
   |none=>true) && (Zbh (.prod a b) [fs.size]).isNone&&b.chain
 | .ref,some (.pointer _)=>true
 | .ref,some (.func _ _ _)=>true
 | .ref,some (.map _ _)=>true
 | .ref,some (.interface _)=>true
 |_,_=>false
def Znv(P:Program)(T:TypeId):Bool:=match P.underlying T with
 |some (.slice Et)=>(match P.info? Et with
  |some i=>Nat.ble i.bytes 256
  |none=>false)
 |_=>true
def Zra(P:Program)(θ:TypeId->Option Ty)(T:TypeId)(t:Ty):Bool:=
 match P.info? T with
 |some i=>Znv P T&&i.size==t.size&&Nat.ble i.bytes 4096&& (match i.zero with
   |some z=>ZdR t z.cells.toList&&Zav z==t.agg&& (t.data|| (match t with| .arr _ _=>false|_=>true))
   |none=>false) &&Zak θ t (P.underlying T) && !P.stoodInHeld T&& !P.eqGuardType P.depth T
 |none=>false
structure TOk (P:Program) (θ:TypeId->Option Ty) (T:TypeId) (t:Ty):Prop where
 info: ∃i z,P.info? T=some i/\i.size=t.size/\i.bytes<=4096/\i.zero=some z/\ZdR t z.cells.toList=true/\Zav z=t.agg
 small: ∀Et i,P.underlying T=some (.slice Et)->P.info? Et=some i->i.bytes<=256
 zagg: (ZbK t).isAgg=t.agg
 shape:Zak θ t (P.underlying T)=true
 stood:P.stoodInHeld T=false
 guard:P.eqGuardType P.depth T=false
theorem ZpY{P:Program}{θ:TypeId->Option Ty}{T:TypeId}{t:Ty}(h:Zra P θ T t=true):TOk P θ T t:=by
 unfold Zra at h;split at h
 ·rename_i i hi;simp only[Va,beq_iff_eq]at h;obtain⟨⟨⟨⟨⟨⟨h0,h1⟩,h2⟩,h3⟩,h4⟩,h5⟩,h6⟩:=h
  have hs: ∀Et i,P.underlying T=some (.slice Et)->P.info? Et=some i->i.bytes<=256:=fun Et i e1 e2=>by unfold Znv at h0;simp_all
  split at h3
  ·rename_i z hz;simp only[Va,beq_iff_eq,Bool.or_eq_true]at h3;refine⟨⟨i,z,hi,h1,Nat.le_of_ble_eq_true h2,hz,h3.1.1,h3.1.2⟩,hs,Zk8 t ?_,h4,by grind,by grind⟩
   grind
  grind
 grind
section
variable {P:Program}{θ:TypeId->Option Ty}{T:TypeId}{t:Ty}
theorem TOk.und(h:TOk P θ T t): ∃d,P.underlying T=some d:=by
 have:=h.shape
 cases hu:P.underlying T with
 |some d=>simp
 |none=>rw[hu]at this;cases t<;>simp [Zak]at this
theorem TOk.run_isAgg(h:TOk P θ T t)(w:World): (isAgg T).run P w= .ok t.agg w:=by
 obtain⟨d,hd⟩:=h.und;have hs:=h.shape;rw[hd]at hs;simp only[isAgg,underlying,Vc,run_program,Vb,hd,Vd]
 cases t<;>cases d<;>simp_all [Zak,Ty.agg]
theorem TOk.run_sizeOf(h:TOk P θ T t)(w:World): (Go.sizeOf T).run P w= .ok t.size w:=by obtain⟨i,z,h1,h2,_⟩:=h.info;simp only[Go.sizeOf,typeInfo,Vc,run_program,Vb,h1,Vd,h2]
theorem TOk.run_zero(h:TOk P θ T t)(w:World): ∃z,(zeroValue T).run P w= .ok z w/\ ∀w g,VR1 w g (ZbK t) z/\(ZbK t).fits t=true:=by
 obtain⟨i,z,h1,h2,h3,h4,h5,h6⟩:=h.info;refine⟨z, ?_,fun w g=>⟨⟨(ZdU h5).1, .inr ?_⟩,(ZdU (w:=w) (g:=g) h5).2⟩⟩
 ·simp only[zeroValue,typeInfo,Vc,run_program,Vb,h1,Vd,h4]
 ·rw[h.zagg,h6]
theorem Zql: ∀ (t:Ty) (cs:List Value),t.chain=true->t.data=true->Zew t cs=true->Zh2 t cs=true:=by
 intro t
 induction t with
 |prod a b _ ihb=>
  intro cs hc hd h;simp only[Ty.data,Va]at hd;simp only[Zew,Va]at h;simp only[Zh2,hd.1,cond_true,Va]
  exact⟨h.1,ihb _ (by assumption) hd.2 h.2⟩
 |unit=>
  intro cs _ _ h
  cases cs with
  |nil=>rfl
  |cons v l=>assumption
 |_=>intro cs hc;simp [Ty.chain]at hc
theorem Zk4{a b:Ty}{cs:List Value}(hc:b.chain=true)(h:ZdR (.prod a b) cs=true):Zh2 (.prod a b) cs=true:=by
 unfold ZdR at h
 cases hd: (Ty.prod a b).data with
 |true=>rw[hd]at h;exact Zql _ _ (by assumption) hd h
 |false=>grind
theorem TOk.chain{a b:Ty}(h:TOk P θ T (.prod a b)):b.chain=true:=by
 have hs:=h.shape;unfold Zak at hs
 grind
theorem TOk.run_zerox(h:TOk P θ T t)(x:Bool)(w:World): ∃z,(zeroValue T).run P w= .ok z w/\ ∀w g,VR1 w g (Zga x t) z/\(Zga x t).fits t=true:=by
 have hd:Zga x t=ZbK t\/ ∃a b,t= .prod a b/\Zga x t= .agg (Zcy false (.prod a b)):=by
  cases x with
  |false=>exact .inl rfl
  |true=>cases t with
   |prod a b=>exact .inr ⟨a,b,rfl,rfl⟩
   |_=>exact .inl rfl
 rcases hd with hd| ⟨a,b,rfl,hd⟩
 ·rw[hd];exact h.run_zero w
 ·rw[hd];obtain⟨i,z,h1,h2,h3,h4,h5,h6⟩:=h.info;refine⟨z, ?_,fun w g=> ?_⟩
  ·simp only[zeroValue,typeInfo,Vc,run_program,Vb,h1,Vd,h4]
  ·obtain⟨h7,h8⟩:=ZfR (w:=w) (g:=g) _ _ (Zk4 h.chain h5);exact⟨⟨by assumption, .inr (by assumption)⟩,by assumption⟩
def ZbM(w:World)(b o:Nat)(cs:List Value):Prop:= ∀j v,cs[j]? =some v->w.cell? ⟨b,o+j,none⟩=some v
theorem ZbM.add{w:World}{b o:Nat}{cs:List Value}(h:ZbM w b o cs): ∀j v,cs[j]? =some v->w.cell? ((⟨b,o,none⟩:Addr).add j)=some v:=by
 intro j v hj;unfold Addr.add;split
 ·rename_i h0;subst h0;exact h 0 v hj
 ·exact h j v hj
theorem ZcC.at{w:World}{b o:Nat}{cs:List Value}(h:ZcC w b o cs):ZbM w b o cs:=by intro j v hj;obtain⟨h1,rfl⟩:=List.getElem?_eq_some_iff.1 hj;exact h j h1
theorem ZbM.of_heap{w:World}{b:Nat}{cs:Array Value}{e:TypeId}{fr:Nat×Nat}(h:w.heap[b]? =some (.cells cs e fr)){pre c post:List Value}(hc:cs.toList=pre++c++post):ZbM w b pre.length c:=by
 intro j v hj;simp only[World.cell?,h,Option.isSome_none,Bool.false_eq_true,if_false];rw[<-Array.getElem?_toList,hc,List.append_assoc,List.getElem?_append_right (by omega)]
 grind
theorem Zeq(h:TOk P θ T t){w:World}{b o:Nat}{cs:List Value}(hc:ZbM w b o cs)(hl:cs.length=t.size)(h1:t.agg=false-> ∃v,cs=[v]):
  (loadVar T ⟨b,o,none⟩).run P w= .ok (mkV t.agg cs) w:=by
 simp only[loadVar,Vc,h.run_isAgg,Vb]
 cases ha:t.agg with
 |true=>
  simp only[if_true,Vc,h.run_sizeOf,Vb, <-hl,run_loadCells_list w _ cs hc.add,Vd,mkV]
 |false=>
  obtain⟨v,rfl⟩:=h1 ha;simp [mkV];have:=hc 0 v rfl
  grind
theorem Zgk{w:World}{g:Gh}{a:AV}{cs:List Value}(h:CV w g a cs)(hf:a.fits t=true)(ha:a.isAgg=t.agg):VR1 w g a (mkV t.agg cs)/\(t.agg=false-> ∃v,cs=[v]):=by
 have hne:a≠ .junk:=by rintro rfl;simp [AV.fits]at hf
 have hone:=CV.oneCell a cs hne h t hf;have hlen:=CV.length a t cs hf h
 cases hg:t.agg with
 |true=>exact⟨⟨by assumption, .inr (by rw[ha,hg];rfl)⟩,by simp⟩
 |false=>
  have hs:t.size=1:=by cases t<;>simp_all [Ty.agg,Ty.size]
  rw[hs]at hlen
  match cs,hlen with
  | [v],_=>
   have hv:=hone v (by simp);refine⟨⟨?_, .inr ?_⟩,by simp⟩
   ·have:v.cells= #[v]:=by cases v<;>simp_all [Value.cells,Ve]
    simpa [mkV,this] using h
   ·rw[ha,hg];cases v<;>simp_all [mkV,Zav,Ve]
end
theorem Zn1{a:AV}{t:Ty}(h:a.fits t=true):a.isAgg=t.agg\/ ∃n,a= .jk n:=by
 cases a with
 |d t' x=>simp only[AV.fits,beq_iff_eq]at h;subst h;exact .inl rfl
 |agg l=>cases l<;>cases t<;>simp_all [AV.fits,AVs.fits,AV.isAgg,Ty.agg]
 |jk n=>simp
 |_=>cases t<;>simp_all [AV.fits,AV.isAgg,Ty.agg]
end Tr
