/- The types of a program and their codes: what must hold of a table of type codes, a test for it, and reading and writing variables. Conditions: none. -/
import Derived.Test.YtibiblkamaajeaaGreatTrF
open Bool renaming and_eq_true ->Va,not_false ->Vk,false_and ->Vl,and_true ->Vm
open List renaming take_append_drop ->Vd,getElem?_eq_some_iff ->Vg,isEmpty_iff ->Vh,all_eq_true ->Vj
open Nat renaming le_of_ble_eq_true ->Vi
open Go.Result renaming andThen_ok ->Vb
open Go.Sem renaming run_bind ->Vc,run_pure ->Ve
open Go.Value renaming oneCell' ->Vf,cells ->Vn
namespace Tr
open Go
def Zlj(f:List Value->Bool)(size:Nat):Nat->List Value->Bool
 |0,cs=>cs.isEmpty
 |n+1,cs=>f (cs.take size) &&Zlj f size n (cs.drop size)
def Zgi:Ty->List Value->Bool
 | .int k,[.int k' n]=>k==k' &&n==0
 | .bool,[.bool b]=> !b
 | .str,[.string s]=>s.data.toList.isEmpty
 | .sl _,[.slice none 0 0]=>true
 | .unit,[]=>true
 | .prod a b,cs=>Zgi a (cs.take a.size) &&Zgi b (cs.drop a.size)
 | .arr n t,cs=>Zlj (Zgi t) t.size n cs
 |_,_=>false
def Zje:List Value->Bool
 | [.pointer none]=>true
 | [.nilFunc]=>true
 | [.map none]=>true
 |_=>false
def ZhH:List Value->Bool
 | [.slice none 0 0]=>true
 |_=>false
def Zk8:Ty->List Value->Bool
 | .prod a b,cs=>(bif a.data then Zgi a (cs.take a.size) else(match a with
   | .ref=>Zje (cs.take 1)
   | .sl _=>ZhH (cs.take 1)
   |a=>(cs.take a.size).length==a.size&& (cs.take a.size).all Vf)) &&Zk8 b (cs.drop a.size)
 | .unit,cs=>cs.isEmpty
 |_,_=>false
def Zfs(t:Ty)(cs:List Value):Bool:=
 bif t.data then Zgi t cs else match t with
  | .ref=>Zje cs
  | .sl _=>ZhH cs
  | .prod a b=>Zk8 (.prod a b) cs
  |t=>cs.length==t.size&&cs.all Vf
theorem Zhf{w:World}{I:Nat->Prop} : ∀ (t:Ty) (cs:List Value),Zgi t cs=true->Rd w I t (ZbC t) cs:=by
 intro t
 induction t with
 |int k=>
  intro cs h
  match cs,h with
  | [.int k' n],h=>
   simp only[Zgi,Va,beq_iff_eq]at h
   obtain⟨rfl,rfl⟩:=h;rfl
 |bool=>
  intro cs h
  match cs,h with
  | [.bool b],h=>simp only[Zgi,Bool.not_eq_true']at h;subst h;rfl
 |str=>
  intro cs h
  match cs,h with
  | [.string s],h=>
   obtain⟨⟨l⟩⟩:=s;simp only[Zgi,Vh]at h
   subst h;rfl
 |sl t _=>
  intro cs h
  match cs,h with
  | [.slice none 0 0],_=>exact⟨none,0,[],rfl,trivial,fun h=>absurd rfl h,Nat.le_refl _⟩
 |unit=>
  intro cs h
  match cs,h with
  | [],_=>rfl
 |prod a b iha ihb=>
  intro cs h;simp only[Zgi,Va]at h
  exact⟨_,_,(Vd a.size cs).symm,iha _ h.1,ihb _ h.2⟩
 |arr n t ih=>
  intro cs h;simp only[Zgi]at h;refine⟨by simp [ZbC], ?_⟩
  induction n generalizing cs with
  |zero=>
   simp only[Zlj,Vh]at h;subst h
   exact⟨[],rfl,by simp [ZbC,Fa]⟩
  |succ n ihn=>
   simp only[Zlj,Va]at h;obtain⟨css,h1,h2⟩:=ihn _ h.2;refine⟨cs.take t.size::css, ?_, ?_⟩
   ·rw[List.flatten_cons, <-h1,Vd]
   ·simp only[ZbC,List.replicate_succ]at h2 ⊢
    exact⟨ih _ h.1,h2⟩
 |ref=>
  intro cs h;simp [Zgi]at h
theorem Zh6{w:World}{g:Gh}{cs:List Value}(h:Zje cs=true):CV w g .nilr cs:=by
 simp only[CV]
 match cs,h with
 | [.pointer none],_=>exact .inl rfl
 | [.nilFunc],_=>exact .inr (.inl rfl)
 | [.map none],_=>exact .inr (.inr rfl)
theorem Zdc{w:World}{g:Gh}{cs:List Value}(h:ZhH cs=true):CV w g .nils cs:=by
 simp only[CV]
 match cs,h with
 | [.slice none 0 0],_=>rfl
theorem Zpz{w:World}{g:Gh}{t:Ty}{cs:List Value}(h:Zgi (.sl t) cs=true):CV w g .nils cs:=by
 simp only[CV]
 match cs,h with
 | [.slice none 0 0],_=>rfl
theorem Ziu{w:World}{g:Gh} : ∀ (t:Ty) (cs:List Value),Zk8 t cs=true->CVs w g (ZdB false t) cs/\(ZdB false t).fits t=true:=by
 intro t
 induction t with
 |prod a b _ ihb=>
  intro cs h;simp only[Zk8,Va]at h;obtain⟨h1,h2⟩:=ihb _ h.2;simp only[ZdB,CVs,AVs.fits,Va];have h0:=h.1
  have key:CV w g (Zg2 false a) (cs.take a.size)/\(Zg2 false a).fits a=true:=by
   cases hsl:a.isSl with
   |true=>
    obtain⟨t,rfl⟩: ∃t,a= .sl t:=by cases a<;>simp [Ty.isSl]at hsl;exact⟨_,rfl⟩
    have e1:Zg2 false (.sl t)= .nils:=by simp [Zg2,Ty.isSl,ZrG]
    rw[e1];refine⟨?_,rfl⟩
    cases hd: (Ty.sl t).data with
    |true=>rw[hd]at h0;simp only[cond_true]at h0;exact Zpz h0
    |false=>rw[hd]at h0;simp only[cond_false]at h0;exact Zdc h0
   |false=>
   unfold Zg2
   cases hd:a.data with
   |true=>
    rw[hd]at h0;simp only[hsl,Vk,Bool.or_true,Vm,cond_true]at h0 ⊢
    exact⟨by simpa only[CV] using Zhf a _ h0,by simp [AV.fits]⟩
   |false=>
    rw[hd]at h0;simp only[Vl,cond_false]at h0 ⊢
    cases a with
    |ref=>exact⟨Zh6 h0,rfl⟩
    |sl t=>exact⟨Zdc h0,rfl⟩
    |_=>
     simp only[Va,beq_iff_eq,Vj]at h0;exact⟨by simp only[ZrG,CV];exact h0,by simp [ZrG,AV.fits]⟩
  exact⟨⟨_,_,(Vd a.size cs).symm,key.1,h1⟩,key.2,h2⟩
 |unit=>
  intro cs h;simp only[Zk8,Vh]at h;subst h
  exact⟨rfl,rfl⟩
 |_=>intro cs h;simp [Zk8]at h
theorem ZjI{w:World}{g:Gh}{t:Ty}{cs:List Value}(h:Zfs t cs=true):CV w g (ZcC t) cs/\(ZcC t).fits t=true:=by
 unfold Zfs at h
 cases hsl:t.isSl with
 |true=>
  cases t<;>simp [Ty.isSl]at hsl
  rename_i t;have e1:ZcC (.sl t)= .nils:=by simp [ZcC,Ty.isSl]
  rw[e1];refine⟨?_,rfl⟩
  cases hd: (Ty.sl t).data with
  |true=>rw[hd]at h;simp only[cond_true]at h;exact Zpz h
  |false=>rw[hd]at h;simp only[cond_false]at h;exact Zdc h
 |false=>
 unfold ZcC
 cases hd:t.data with
 |true=>
  rw[hd]at h;simp only[hsl,Vk,Vm,cond_true]at h ⊢
  exact⟨by simpa only[CV] using Zhf t _ h,by simp [AV.fits]⟩
 |false=>
  rw[hd]at h;simp only[Vl,cond_false]at h ⊢
  cases t with
  |ref=>exact⟨Zh6 h,rfl⟩
  |sl t=>exact⟨Zdc h,rfl⟩
  |prod a b=>
   obtain⟨h1,h2⟩:=Ziu (w:=w) (g:=g) _ _ h
   exact⟨by simp only[CV];exact h1,by simp only[AV.fits];exact h2⟩
  |_=>
   simp only[Va,beq_iff_eq,Vj]at h;exact⟨by simp only[CV];exact h,by simp [AV.fits]⟩
theorem ZqA(t:Ty)(h:t.data=true\/(match t with| .arr _ _=>False|_=>True)): (ZcC t).isAgg=t.agg:=by
 unfold ZcC
 cases hsl:t.isSl with
 |true=>cases t<;>simp [Ty.isSl]at hsl;simp [AV.isAgg,Ty.agg]
 |false=>
 cases hd:t.data with
 |true=>rfl
 |false=>
  rw[hd]at h
  cases t<;>simp_all [AV.isAgg,Ty.agg,Ty.data]
theorem ZtN{w:World}{g:Gh}{t:Ty}{z:Value}(hd:t.data=true)(h:VR1 w g (ZcC t) z):VR1 w g (.d t (ZbC t)) z:=by
 cases hsl:t.isSl with
 |false=>
  have e1:ZcC t= .d t (ZbC t):=by simp [ZcC,hd,hsl]
  rw[e1]at h;exact h
 |true=>
  cases t<;>simp [Ty.isSl]at hsl
  rename_i t;have e1:ZcC (.sl t)= .nils:=by simp [ZcC,Ty.isSl]
  rw[e1]at h;obtain⟨h1,h2⟩:=h;simp only[CV]at h1;refine⟨?_, .inr ?_⟩
  ·simp only[CV];rw[h1];exact⟨none,0,[],rfl,trivial,fun h=>absurd rfl h,Nat.le_refl _⟩
  ·exact h2.resolve_left (by simp)
def Ty.chain:Ty->Bool
 | .prod _ b=>b.chain
 | .unit=>true
 |_=>false
def Zax(θ:TypeId->Option Ty)(t:Ty)(d:Option TypeDesc):Bool:=
 match t,d with
 | .int k,some (.int k')=>k==k'
 | .bool,some .bool=>true
 | .str,some .string=>true
 | .sl e,some (.slice E)=>θ E==some e
 | .arr n e,some (.array m E)=>n==m&&θ E==some e
 | .unit,some (.struct fs)=>fs.isEmpty
 | .prod a b,some (.struct fs)=>(List.range fs.size).all (fun f=>match fs[f]? with
   |some fd=>match ZbM (.prod a b) [f] with
    |some (o,t')=>fd.offset==o&&θ fd.type==some t' &&fd.name != "_"
    |none=>false
   |none=>true) && (ZbM (.prod a b) [fs.size]).isNone&&b.chain
 | .ref,some (.pointer _)=>true
 | .ref,some (.func _ _ _)=>true
 | .ref,some (.map _ _)=>true
 | .ref,some (.interface _)=>true
 |_,_=>false
def Zrd(P:Program)(T:TypeId):Bool:=match P.underlying T with
 |some (.slice Et)=>(match P.info? Et with
  |some i=>Nat.ble i.bytes 256
  |none=>false)
 |_=>true
def ZxK(P:Program)(θ:TypeId->Option Ty)(T:TypeId)(t:Ty):Bool:=
 match P.info? T with
 |some i=>Zrd P T&&i.size==t.size&&Nat.ble i.bytes 4096&& (match i.zero with
   |some z=>Zfs t z.cells.toList&&ZaP z==t.agg&& (t.data|| (match t with| .arr _ _=>false|_=>true))
   |none=>false) &&Zax θ t (P.underlying T) && !P.stoodInHeld T&& !P.eqGuardType P.depth T
 |none=>false
structure TOk (P:Program) (θ:TypeId->Option Ty) (T:TypeId) (t:Ty):Prop where
 info: ∃i z,P.info? T=some i/\i.size=t.size/\i.bytes<=4096/\i.zero=some z/\Zfs t z.cells.toList=true/\ZaP z=t.agg
 small: ∀Et i,P.underlying T=some (.slice Et)->P.info? Et=some i->i.bytes<=256
 zagg: (ZcC t).isAgg=t.agg
 shape:Zax θ t (P.underlying T)=true
 stood:P.stoodInHeld T=false
 guard:P.eqGuardType P.depth T=false
theorem Zv1{P:Program}{θ:TypeId->Option Ty}{T:TypeId}{t:Ty}(h:ZxK P θ T t=true):TOk P θ T t:=by
 unfold ZxK at h;split at h
 ·rename_i i hi;simp only[Va,beq_iff_eq]at h;obtain⟨⟨⟨⟨⟨⟨h0,h1⟩,h2⟩,h3⟩,h4⟩,h5⟩,h6⟩:=h
  have hs: ∀Et i,P.underlying T=some (.slice Et)->P.info? Et=some i->i.bytes<=256:=fun Et i e1 e2=>by unfold Zrd at h0;rw[e1]at h0;simp only[e2]at h0;exact Vi h0
  split at h3
  ·rename_i z hz;simp only[Va,beq_iff_eq,Bool.or_eq_true]at h3;refine⟨⟨i,z,hi,h1,Vi h2,hz,h3.1.1,h3.1.2⟩,hs,ZqA t ?_,h4,by simpa using h5,by simpa using h6⟩;rcases h3.2 with h|h
   ·exact .inl h
   ·right;cases t<;>simp_all
  ·simp at h3
 ·simp at h
section
variable {P:Program}{θ:TypeId->Option Ty}{T:TypeId}{t:Ty}
theorem TOk.und(h:TOk P θ T t): ∃d,P.underlying T=some d:=by
 have:=h.shape
 cases hu:P.underlying T with
 |some d=>exact⟨d,rfl⟩
 |none=>rw[hu]at this;cases t<;>simp [Zax]at this
theorem TOk.run_isAgg(h:TOk P θ T t)(w:World): (isAgg T).run P w= .ok t.agg w:=by
 obtain⟨d,hd⟩:=h.und;have hs:=h.shape;rw[hd]at hs;simp only[isAgg,underlying,Vc,run_program,Vb,hd,Ve]
 cases t<;>cases d<;>simp_all [Zax,Ty.agg]
theorem TOk.run_sizeOf(h:TOk P θ T t)(w:World): (Go.sizeOf T).run P w= .ok t.size w:=by obtain⟨i,z,h1,h2,_⟩:=h.info;simp only[Go.sizeOf,typeInfo,Vc,run_program,Vb,h1,Ve,h2]
theorem TOk.run_zero(h:TOk P θ T t)(w:World): ∃z,(zeroValue T).run P w= .ok z w/\ ∀w g,VR1 w g (ZcC t) z/\(ZcC t).fits t=true:=by
 obtain⟨i,z,h1,h2,h3,h4,h5,h6⟩:=h.info;refine⟨z, ?_,fun w g=>⟨⟨(ZjI h5).1, .inr ?_⟩,(ZjI (w:=w) (g:=g) h5).2⟩⟩
 ·simp only[zeroValue,typeInfo,Vc,run_program,Vb,h1,Ve,h4]
 ·rw[h.zagg,h6]
theorem Zw5: ∀ (t:Ty) (cs:List Value),t.chain=true->t.data=true->Zgi t cs=true->Zk8 t cs=true:=by
 intro t
 induction t with
 |prod a b _ ihb=>
  intro cs hc hd h;simp only[Ty.data,Va]at hd;simp only[Zgi,Va]at h;simp only[Zk8,hd.1,cond_true,Va]
  exact⟨h.1,ihb _ (by simpa [Ty.chain] using hc) hd.2 h.2⟩
 |unit=>
  intro cs _ _ h
  cases cs with
  |nil=>rfl
  |cons v l=>simp [Zgi]at h
 |_=>intro cs hc;simp [Ty.chain]at hc
theorem ZoL{a b:Ty}{cs:List Value}(hc:b.chain=true)(h:Zfs (.prod a b) cs=true):Zk8 (.prod a b) cs=true:=by
 unfold Zfs at h
 cases hd: (Ty.prod a b).data with
 |true=>rw[hd]at h;exact Zw5 _ _ (by simpa [Ty.chain] using hc) hd h
 |false=>rw[hd]at h;exact h
theorem TOk.chain{a b:Ty}(h:TOk P θ T (.prod a b)):b.chain=true:=by
 have hs:=h.shape;unfold Zax at hs
 split at hs<;>simp_all
theorem TOk.run_zerox(h:TOk P θ T t)(x:Bool)(w:World): ∃z,(zeroValue T).run P w= .ok z w/\ ∀w g,VR1 w g (Zi4 x t) z/\(Zi4 x t).fits t=true:=by
 have hd:Zi4 x t=ZcC t\/ ∃a b,t= .prod a b/\Zi4 x t= .agg (ZdB false (.prod a b)):=by
  cases x with
  |false=>exact .inl rfl
  |true=>cases t with
   |prod a b=>exact .inr ⟨a,b,rfl,rfl⟩
   |_=>exact .inl rfl
 rcases hd with hd| ⟨a,b,rfl,hd⟩
 ·rw[hd];exact h.run_zero w
 ·rw[hd];obtain⟨i,z,h1,h2,h3,h4,h5,h6⟩:=h.info;refine⟨z, ?_,fun w g=> ?_⟩
  ·simp only[zeroValue,typeInfo,Vc,run_program,Vb,h1,Ve,h4]
  ·obtain⟨h7,h8⟩:=Ziu (w:=w) (g:=g) _ _ (ZoL h.chain h5);exact⟨⟨by simp only[CV];exact h7, .inr (by rw[h6];rfl)⟩,by simp only[AV.fits];exact h8⟩
def Zc3(w:World)(b o:Nat)(cs:List Value):Prop:= ∀j v,cs[j]? =some v->w.cell? ⟨b,o+j,none⟩=some v
theorem Zc3.add{w:World}{b o:Nat}{cs:List Value}(h:Zc3 w b o cs): ∀j v,cs[j]? =some v->w.cell? ((⟨b,o,none⟩:Addr).add j)=some v:=by
 intro j v hj;unfold Addr.add;split
 ·rename_i h0;subst h0;exact h 0 v hj
 ·exact h j v hj
theorem Zec.at{w:World}{b o:Nat}{cs:List Value}(h:Zec w b o cs):Zc3 w b o cs:=by intro j v hj;obtain⟨h1,rfl⟩:=Vg.1 hj;exact h j h1
theorem Zc3.of_heap{w:World}{b:Nat}{cs:Array Value}{e:TypeId}{fr:Nat×Nat}(h:w.heap[b]? =some (.cells cs e fr)){pre c post:List Value}(hc:cs.toList=pre++c++post):Zc3 w b pre.length c:=by intro j v hj;simp only[World.cell?,h,Option.isSome_none,Bool.false_eq_true,if_false];rw[<-Array.getElem?_toList,hc,List.append_assoc,List.getElem?_append_right (by omega)];have hlt:j<c.length:=(Vg.1 hj).1;rw[show pre.length+j - pre.length=j by omega,List.getElem?_append_left hlt,hj]
theorem Zji(h:TOk P θ T t){w:World}{b o:Nat}{cs:List Value}(hc:Zc3 w b o cs)(hl:cs.length=t.size)(h1:t.agg=false-> ∃v,cs=[v]):
  (loadVar T ⟨b,o,none⟩).run P w= .ok (mkV t.agg cs) w:=by
 simp only[loadVar,Vc,h.run_isAgg,Vb]
 cases ha:t.agg with
 |true=>
  simp only[if_true,Vc,h.run_sizeOf,Vb, <-hl,run_loadCells_list w _ cs hc.add,Ve,mkV]
 |false=>
  obtain⟨v,rfl⟩:=h1 ha;simp [mkV];have:=hc 0 v rfl;simp only[Nat.add_zero]at this;simp [this]
theorem ZiH{w:World}{g:Gh}{a:AV}{cs:List Value}(h:CV w g a cs)(hf:a.fits t=true)(ha:a.isAgg=t.agg):VR1 w g a (mkV t.agg cs)/\(t.agg=false-> ∃v,cs=[v]):=by
 have hne:a≠ .junk:=by rintro rfl;simp [AV.fits]at hf
 have hone:=CV.oneCell a cs hne h t hf;have hlen:=CV.length a t cs hf h
 cases hg:t.agg with
 |true=>exact⟨⟨by simpa [mkV,Vn] using h, .inr (by rw[ha,hg];rfl)⟩,by simp⟩
 |false=>
  have hs:t.size=1:=by cases t<;>simp_all [Ty.agg,Ty.size]
  rw[hs]at hlen
  match cs,hlen with
  | [v],_=>
   have hv:=hone v (by simp);refine⟨⟨?_, .inr ?_⟩,fun _=>⟨v,rfl⟩⟩
   ·have:v.cells= #[v]:=by cases v<;>simp_all [Vn,Vf]
    simpa [mkV,this] using h
   ·rw[ha,hg];cases v<;>simp_all [mkV,ZaP,Vf]
end
theorem ZuH{a:AV}{t:Ty}(h:a.fits t=true):a.isAgg=t.agg\/ ∃n,a= .jk n:=by
 cases a with
 |d t' x=>simp only[AV.fits,beq_iff_eq]at h;subst h;exact .inl rfl
 |agg l=>cases l<;>cases t<;>simp_all [AV.fits,AVs.fits,AV.isAgg,Ty.agg]
 |jk n=>exact .inr ⟨n,rfl⟩
 |_=>cases t<;>simp_all [AV.fits,AV.isAgg,Ty.agg]
end Tr
