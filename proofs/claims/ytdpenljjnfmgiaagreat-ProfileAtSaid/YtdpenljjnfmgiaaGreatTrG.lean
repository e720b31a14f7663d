/- The types of a program and their codes: what must hold of a table of type codes, a test for it, and reading and writing variables. Conditions: none. -/
import Derived.Test.YtdpenljjnfmgiaaGreatTrF
open Bool renaming and_eq_true ->Va,not_false ->Vh,false_and ->Vi,and_true ->Vj
open List renaming isEmpty_iff ->Vf,all_eq_true ->Vg
open Go.Result renaming andThen_ok ->Vb
open Go.Sem renaming run_bind ->Vc,run_pure ->Vd
open Go.Value renaming oneCell' ->Ve
namespace Tr
open Go
def Zgj(f:List Value->Bool)(size:Nat):Nat->List Value->Bool
 |0,cs=>cs.isEmpty
 |n+1,cs=>f (cs.take size) &&Zgj f size n (cs.drop size)
def Zdv:Ty->List Value->Bool
 | .int k,[.int k' n]=>k==k' &&n==0
 | .bool,[.bool b]=> !b
 | .str,[.string s]=>s.data.toList.isEmpty
 | .sl _,[.slice none 0 0]=>true
 | .unit,[]=>true
 | .prod a b,cs=>Zdv a (cs.take a.size) &&Zdv b (cs.drop a.size)
 | .arr n t,cs=>Zgj (Zdv t) t.size n cs
 |_,_=>false
def ZeO:List Value->Bool
 | [.pointer none]=>true
 | [.nilFunc]=>true
 | [.map none]=>true
 |_=>false
def Zd5:List Value->Bool
 | [.slice none 0 0]=>true
 |_=>false
def Zf1:Ty->List Value->Bool
 | .prod a b,cs=>(bif a.data then Zdv a (cs.take a.size) else(match a with
   | .ref=>ZeO (cs.take 1)
   | .sl _=>Zd5 (cs.take 1)
   |a=>(cs.take a.size).length==a.size&& (cs.take a.size).all Ve)) &&Zf1 b (cs.drop a.size)
 | .unit,cs=>cs.isEmpty
 |_,_=>false
def ZcX(t:Ty)(cs:List Value):Bool:=
 bif t.data then Zdv t cs else match t with
  | .ref=>ZeO cs
  | .sl _=>Zd5 cs
  | .prod a b=>Zf1 (.prod a b) cs
  |t=>cs.length==t.size&&cs.all Ve
theorem ZdL{w:World}{I:Nat->Prop} : ∀ (t:Ty) (cs:List Value),Zdv t cs=true->Rd w I t (zeroEl t) cs:=by
 intro t
 induction t with
 |int k=>
  intro cs h
  match cs,h with
  | [.int k' n],h=>
   simp only[Zdv,Va,beq_iff_eq]at h
   obtain⟨rfl,rfl⟩:=h;rfl
 |bool=>
  intro cs h
  match cs,h with
  | [.bool b],h=>simp only[Zdv,Bool.not_eq_true']at h;subst h;rfl
 |str=>
  intro cs h
  match cs,h with
  | [.string s],h=>
   obtain⟨⟨l⟩⟩:=s;simp only[Zdv,Vf]at h
   subst h;rfl
 |sl t _=>
  intro cs h
  match cs,h with
  | [.slice none 0 0],_=>exact⟨none,0,[],rfl,trivial,fun h=>absurd rfl h,Nat.le_refl _⟩
 |unit=>
  intro cs h
  match cs,h with
  | [],_=>rfl
 |prod a b iha ihb=>
  intro cs h;simp only[Zdv,Va]at h
  exact⟨_,_,by simp,iha _ h.1,ihb _ h.2⟩
 |arr n t ih=>
  intro cs h;simp only[Zdv]at h;refine⟨by simp [zeroEl], ?_⟩
  induction n generalizing cs with
  |zero=>
   simp only[Zgj,Vf]at h;subst h
   exact⟨[],rfl,by simp [zeroEl,Fa]⟩
  |succ n ihn=>
   simp only[Zgj,Va]at h;obtain⟨css,h1,h2⟩:=ihn _ h.2;refine⟨cs.take t.size::css, ?_, ?_⟩
   ·rw[List.flatten_cons, <-h1,List.take_append_drop]
   ·simp only[zeroEl,List.replicate_succ]at h2 ⊢
    exact⟨ih _ h.1,h2⟩
 |ref=>
  intro cs h;simp [Zdv]at h
theorem Zeh{w:World}{g:Gh}{cs:List Value}(h:ZeO cs=true):CV w g .nilr cs:=by
 simp only[CV]
 match cs,h with
 | [.pointer none],_=>simp
 | [.nilFunc],_=>simp
 | [.map none],_=>simp
theorem ZbI{w:World}{g:Gh}{cs:List Value}(h:Zd5 cs=true):CV w g .nils cs:=by
 simp only[CV]
 match cs,h with
 | [.slice none 0 0],_=>rfl
theorem Zia{w:World}{g:Gh}{t:Ty}{cs:List Value}(h:Zdv (.sl t) cs=true):CV w g .nils cs:=by
 simp only[CV]
 match cs,h with
 | [.slice none 0 0],_=>rfl
theorem ZeA{w:World}{g:Gh} : ∀ (t:Ty) (cs:List Value),Zf1 t cs=true->CVs w g (ZbZ false t) cs/\(ZbZ false t).fits t=true:=by
 intro t
 induction t with
 |prod a b _ ihb=>
  intro cs h;simp only[Zf1,Va]at h;obtain⟨h1,h2⟩:=ihb _ h.2;simp only[ZbZ,CVs,AVs.fits,Va];have h0:=h.1
  have key:CV w g (ZdX false a) (cs.take a.size)/\(ZdX false a).fits a=true:=by
   cases hsl:a.isSl with
   |true=>
    obtain⟨t,rfl⟩: ∃t,a= .sl t:=by cases a<;>simp [Ty.isSl]at hsl;simp
    have e1:ZdX false (.sl t)= .nils:=by simp [ZdX,Ty.isSl,Zk3]
    rw[e1];refine⟨?_,rfl⟩
    cases hd: (Ty.sl t).data with
    |true=>rw[hd]at h0;simp only[cond_true]at h0;exact Zia h0
    |false=>rw[hd]at h0;simp only[cond_false]at h0;exact ZbI h0
   |false=>
   unfold ZdX
   cases hd:a.data with
   |true=>
    rw[hd]at h0;simp only[hsl,Vh,Bool.or_true,Vj,cond_true]at h0 ⊢
    exact⟨by simpa only[CV] using ZdL a _ h0,by simp [AV.fits]⟩
   |false=>
    rw[hd]at h0;simp only[Vi,cond_false]at h0 ⊢
    cases a with
    |ref=>exact⟨Zeh h0,rfl⟩
    |sl t=>exact⟨ZbI h0,rfl⟩
    |_=>
     simp only[Va,beq_iff_eq,Vg]at h0;exact⟨by assumption,by simp [Zk3,AV.fits]⟩
  exact⟨⟨_,_,by simp,key.1,h1⟩,key.2,h2⟩
 |unit=>
  intro cs h;simp only[Zf1,Vf]at h;subst h
  exact⟨rfl,rfl⟩
 |_=>intro cs h;simp [Zf1]at h
theorem ZcV{w:World}{g:Gh}{t:Ty}{cs:List Value}(h:ZcX t cs=true):CV w g (Zbt t) cs/\(Zbt t).fits t=true:=by
 unfold ZcX at h
 cases hsl:t.isSl with
 |true=>
  cases t<;>simp [Ty.isSl]at hsl
  rename_i t;have e1:Zbt (.sl t)= .nils:=by simp [Zbt,Ty.isSl]
  rw[e1];refine⟨?_,rfl⟩
  cases hd: (Ty.sl t).data with
  |true=>rw[hd]at h;simp only[cond_true]at h;exact Zia h
  |false=>rw[hd]at h;simp only[cond_false]at h;exact ZbI h
 |false=>
 unfold Zbt
 cases hd:t.data with
 |true=>
  rw[hd]at h;simp only[hsl,Vh,Vj,cond_true]at h ⊢
  exact⟨by simpa only[CV] using ZdL t _ h,by simp [AV.fits]⟩
 |false=>
  rw[hd]at h;simp only[Vi,cond_false]at h ⊢
  cases t with
  |ref=>exact⟨Zeh h,rfl⟩
  |sl t=>exact⟨ZbI h,rfl⟩
  |prod a b=>
   obtain⟨h1,h2⟩:=ZeA (w:=w) (g:=g) _ _ h
   exact⟨by assumption,by assumption⟩
  |_=>
   simp only[Va,beq_iff_eq,Vg]at h;exact⟨by assumption,by simp [AV.fits]⟩
theorem Zje(t:Ty)(h:t.data=true\/(match t with| .arr _ _=>False|_=>True)): (Zbt t).isAgg=t.agg:=by
 unfold Zbt
 cases hsl:t.isSl with
 |true=>cases t<;>simp [Ty.isSl]at hsl;simp [AV.isAgg,Ty.agg]
 |false=>
 cases hd:t.data with
 |true=>rfl
 |false=>
  rw[hd]at h
  cases t<;>simp_all [AV.isAgg,Ty.agg,Ty.data]
theorem Zk7{w:World}{g:Gh}{t:Ty}{z:Value}(hd:t.data=true)(h:VR1 w g (Zbt t) z):VR1 w g (.d t (zeroEl t)) z:=by
 cases hsl:t.isSl with
 |false=>
  have e1:Zbt t= .d t (zeroEl t):=by simp [Zbt,hd,hsl]
  grind
 |true=>
  cases t<;>simp [Ty.isSl]at hsl
  rename_i t;have e1:Zbt (.sl t)= .nils:=by simp [Zbt,Ty.isSl]
  rw[e1]at h;obtain⟨h1,h2⟩:=h;simp only[CV]at h1;refine⟨?_, .inr ?_⟩
  ·simp only[CV];rw[h1];exact⟨none,0,[],rfl,trivial,fun h=>absurd rfl h,Nat.le_refl _⟩
  ·exact h2.resolve_left (by simp)
def Ty.chain:Ty->Bool
 | .prod _ b=>b.chain
 | .unit=>true
 |_=>false
def Zaj(θ:TypeId->Option Ty)(t:Ty)(d:Option TypeDesc):Bool:=
 match t,d with
 | .int k,some (.int k')=>k==k'
 | .bool,some .bool=>true
 | .str,some .string=>true
 | .sl e,some (.slice E)=>θ E==some e
 | .arr n e,some (.array m E)=>n==m&&θ E==some e
 | .unit,some (.struct fs)=>fs.isEmpty
 | .prod a b,some (.struct fs)=>(List.range fs.size).all (fun f=>match fs[f]? with
   |some fd=>match Za7 (.prod a b) [f] with
    |some (o,t')=>fd.offset==o&&θ fd.type==some t' &&fd.name != "_"
    |none=>false
   |none=>true) && (Za7 (.prod a b) [fs.size]).isNone&&b.chain
 | .ref,some (.pointer _)=>true
 | .ref,some (.func _ _ _)=>true
 | .ref,some (.map _ _)=>true
 | .ref,some (.interface _)=>true
 |_,_=>false
def ZjT(P:Program)(T:TypeId):Bool:=match P.underlying T with
 |some (.slice Et)=>(match P.info? Et with
  |some i=>Nat.ble i.bytes 256
  |none=>false)
 |_=>true
def Znu(P:Program)(θ:TypeId->Option Ty)(T:TypeId)(t:Ty):Bool:=
 match P.info? T with
 |some i=>ZjT P T&&i.size==t.size&&Nat.ble i.bytes 4096&& (match i.zero with
   |some z=>ZcX t z.cells.toList&&Zar z==t.agg&& (t.data|| (match t with| .arr _ _=>false|_=>true))
   |none=>false) &&Zaj θ t (P.underlying T) && !P.stoodInHeld T&& !P.eqGuardType P.depth T
 |none=>false
structure TOk (P:Program) (θ:TypeId->Option Ty) (T:TypeId) (t:Ty):Prop where
 info: ∃i z,P.info? T=some i/\i.size=t.size/\i.bytes<=4096/\i.zero=some z/\ZcX t z.cells.toList=true/\Zar z=t.agg
 small: ∀Et i,P.underlying T=some (.slice Et)->P.info? Et=some i->i.bytes<=256
 zagg: (Zbt t).isAgg=t.agg
 shape:Zaj θ t (P.underlying T)=true
 stood:P.stoodInHeld T=false
 guard:P.eqGuardType P.depth T=false
theorem Zme{P:Program}{θ:TypeId->Option Ty}{T:TypeId}{t:Ty}(h:Znu P θ T t=true):TOk P θ T t:=by
 unfold Znu at h;split at h
 ·rename_i i hi;simp only[Va,beq_iff_eq]at h;obtain⟨⟨⟨⟨⟨⟨h0,h1⟩,h2⟩,h3⟩,h4⟩,h5⟩,h6⟩:=h
  have hs: ∀Et i,P.underlying T=some (.slice Et)->P.info? Et=some i->i.bytes<=256:=fun Et i e1 e2=>by unfold ZjT at h0;simp_all
  split at h3
  ·rename_i z hz;simp only[Va,beq_iff_eq,Bool.or_eq_true]at h3;refine⟨⟨i,z,hi,h1,Nat.le_of_ble_eq_true h2,hz,h3.1.1,h3.1.2⟩,hs,Zje t ?_,h4,by grind,by grind⟩
   grind
  grind
 grind
section
variable {P:Program}{θ:TypeId->Option Ty}{T:TypeId}{t:Ty}
theorem TOk.und(h:TOk P θ T t): ∃d,P.underlying T=some d:=by
 have:=h.shape
 cases hu:P.underlying T with
 |some d=>simp
 |none=>rw[hu]at this;cases t<;>simp [Zaj]at this
theorem TOk.run_isAgg(h:TOk P θ T t)(w:World): (isAgg T).run P w= .ok t.agg w:=by
 obtain⟨d,hd⟩:=h.und;have hs:=h.shape;rw[hd]at hs;simp only[isAgg,underlying,Vc,run_program,Vb,hd,Vd]
 cases t<;>cases d<;>simp_all [Zaj,Ty.agg]
theorem TOk.run_sizeOf(h:TOk P θ T t)(w:World): (Go.sizeOf T).run P w= .ok t.size w:=by obtain⟨i,z,h1,h2,_⟩:=h.info;simp only[Go.sizeOf,typeInfo,Vc,run_program,Vb,h1,Vd,h2]
theorem TOk.run_zero(h:TOk P θ T t)(w:World): ∃z,(zeroValue T).run P w= .ok z w/\ ∀w g,VR1 w g (Zbt t) z/\(Zbt t).fits t=true:=by
 obtain⟨i,z,h1,h2,h3,h4,h5,h6⟩:=h.info;refine⟨z, ?_,fun w g=>⟨⟨(ZcV h5).1, .inr ?_⟩,(ZcV (w:=w) (g:=g) h5).2⟩⟩
 ·simp only[zeroValue,typeInfo,Vc,run_program,Vb,h1,Vd,h4]
 ·rw[h.zagg,h6]
theorem ZmL: ∀ (t:Ty) (cs:List Value),t.chain=true->t.data=true->Zdv t cs=true->Zf1 t cs=true:=by
 intro t
 induction t with
 |prod a b _ ihb=>
  intro cs hc hd h;simp only[Ty.data,Va]at hd;simp only[Zdv,Va]at h;simp only[Zf1,hd.1,cond_true,Va]
  exact⟨h.1,ihb _ (by assumption) hd.2 h.2⟩
 |unit=>
  intro cs _ _ h
  cases cs with
  |nil=>rfl
  |cons v l=>assumption
 |_=>intro cs hc;simp [Ty.chain]at hc
theorem Ziz{a b:Ty}{cs:List Value}(hc:b.chain=true)(h:ZcX (.prod a b) cs=true):Zf1 (.prod a b) cs=true:=by
 unfold ZcX at h
 cases hd: (Ty.prod a b).data with
 |true=>rw[hd]at h;exact ZmL _ _ (by assumption) hd h
 |false=>grind
theorem TOk.chain{a b:Ty}(h:TOk P θ T (.prod a b)):b.chain=true:=by
 have hs:=h.shape;unfold Zaj at hs
 grind
theorem TOk.run_zerox(h:TOk P θ T t)(x:Bool)(w:World): ∃z,(zeroValue T).run P w= .ok z w/\ ∀w g,VR1 w g (ZeU x t) z/\(ZeU x t).fits t=true:=by
 have hd:ZeU x t=Zbt t\/ ∃a b,t= .prod a b/\ZeU x t= .agg (ZbZ false (.prod a b)):=by
  cases x with
  |false=>exact .inl rfl
  |true=>cases t with
   |prod a b=>exact .inr ⟨a,b,rfl,rfl⟩
   |_=>exact .inl rfl
 rcases hd with hd| ⟨a,b,rfl,hd⟩
 ·rw[hd];exact h.run_zero w
 ·rw[hd];obtain⟨i,z,h1,h2,h3,h4,h5,h6⟩:=h.info;refine⟨z, ?_,fun w g=> ?_⟩
  ·simp only[zeroValue,typeInfo,Vc,run_program,Vb,h1,Vd,h4]
  ·obtain⟨h7,h8⟩:=ZeA (w:=w) (g:=g) _ _ (Ziz h.chain h5);exact⟨⟨by assumption, .inr (by assumption)⟩,by assumption⟩
def Zby(w:World)(b o:Nat)(cs:List Value):Prop:= ∀j v,cs[j]? =some v->w.cell? ⟨b,o+j,none⟩=some v
theorem Zby.add{w:World}{b o:Nat}{cs:List Value}(h:Zby w b o cs): ∀j v,cs[j]? =some v->w.cell? ((⟨b,o,none⟩:Addr).add j)=some v:=by
 intro j v hj;unfold Addr.add;split
 ·rename_i h0;subst h0;exact h 0 v hj
 ·exact h j v hj
theorem Zb5.at{w:World}{b o:Nat}{cs:List Value}(h:Zb5 w b o cs):Zby w b o cs:=by intro j v hj;obtain⟨h1,rfl⟩:=List.getElem?_eq_some_iff.1 hj;exact h j h1
theorem Zby.of_heap{w:World}{b:Nat}{cs:Array Value}{e:TypeId}{fr:Nat×Nat}(h:w.heap[b]? =some (.cells cs e fr)){pre c post:List Value}(hc:cs.toList=pre++c++post):Zby w b pre.length c:=by
 intro j v hj;simp only[World.cell?,h,Option.isSome_none,Bool.false_eq_true,if_false];rw[<-Array.getElem?_toList,hc,List.append_assoc,List.getElem?_append_right (by omega)]
 grind
theorem Zds(h:TOk P θ T t){w:World}{b o:Nat}{cs:List Value}(hc:Zby w b o cs)(hl:cs.length=t.size)(h1:t.agg=false-> ∃v,cs=[v]):
  (loadVar T ⟨b,o,none⟩).run P w= .ok (mkV t.agg cs) w:=by
 simp only[loadVar,Vc,h.run_isAgg,Vb]
 cases ha:t.agg with
 |true=>
  simp only[if_true,Vc,h.run_sizeOf,Vb, <-hl,run_loadCells_list w _ cs hc.add,Vd,mkV]
 |false=>
  obtain⟨v,rfl⟩:=h1 ha;simp [mkV];have:=hc 0 v rfl
  grind
theorem ZeT{w:World}{g:Gh}{a:AV}{cs:List Value}(h:CV w g a cs)(hf:a.fits t=true)(ha:a.isAgg=t.agg):VR1 w g a (mkV t.agg cs)/\(t.agg=false-> ∃v,cs=[v]):=by
 have hne:a≠ .junk:=by rintro rfl;simp [AV.fits]at hf
 have hone:=CV.oneCell a cs hne h t hf;have hlen:=CV.length a t cs hf h
 cases hg:t.agg with
 |true=>exact⟨⟨by assumption, .inr (by rw[ha,hg];rfl)⟩,by simp⟩
 |false=>
  have hs:t.size=1:=by cases t<;>simp_all [Ty.agg,Ty.size]
  rw[hs]at hlen
  match cs,hlen with
  | [v],_=>
   have hv:=hone v (by simp);refine⟨⟨?_, .inr ?_⟩,by simp⟩
   ·have:v.cells= #[v]:=by cases v<;>simp_all [Value.cells,Ve]
    simpa [mkV,this] using h
   ·rw[ha,hg];cases v<;>simp_all [mkV,Zar,Ve]
end
theorem ZkY{a:AV}{t:Ty}(h:a.fits t=true):a.isAgg=t.agg\/ ∃n,a= .jk n:=by
 cases a with
 |d t' x=>simp only[AV.fits,beq_iff_eq]at h;subst h;exact .inl rfl
 |agg l=>cases l<;>cases t<;>simp_all [AV.fits,AVs.fits,AV.isAgg,Ty.agg]
 |jk n=>simp
 |_=>cases t<;>simp_all [AV.fits,AV.isAgg,Ty.agg]
end Tr
