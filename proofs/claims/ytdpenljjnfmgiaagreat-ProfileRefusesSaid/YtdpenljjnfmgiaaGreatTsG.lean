/- From a function's spec to the statement's step: whatever the arguments, the call returns true and leaves them. Conditions: none beyond those of the theorems. -/
import Derived.Carry
import Derived.ProofKit
import Derived.Test.YtdpenljjnfmgiaaGreatTsF
open List renaming append_nil ->Va
open Go.Value renaming okWide ->Vb
namespace Tr
open Go Go.RowKit Go.ChangeShapes
section
variable {H:Type}{enc:TypeId×Value->H}{P:Program}
theorem ZeY(hl:laidOutB P=true){W W' :World}(hb:Below W.heap.size W W')(sp:Nat->Bool): ∀ (Ts:List TypeId) (vs:List Value) (ds:List (DataW H)) (ps:List MemPlace),
  (∀t∈Ts,P.readableRec t=true/\t<P.types.size)->DataW.TrodAll enc P W 0 (fun _=>true) true Ts vs ds ps->(∀x∈ps,x.block<W.heap.size)->(∀p∈ps,sp p.block=true)->DataW.TrodAll enc P W' 0 sp true Ts vs ds ps
 | [],[],[],ps,_,h,_,_=>h
 |T::Ts,v::vs,d::ds,ps,hr,h,hlt,hs=>by
  simp only[DataW.TrodAll]at h ⊢;obtain⟨p,q,h1,h2,rfl⟩:=h
  exact⟨p,q,WideElems.Trod_stays hl (hr T (by simp)).1 (hr T (by simp)).2 h1 (fun x hx=>hb.same (hlt x (by simp [hx]))) (fun x hx=>hs x (by simp [hx])),
   ZeY hl hb sp Ts vs ds q (fun t ht=>hr t (by simp [ht])) h2 (fun x hx=>hlt x (by simp [hx])) (fun x hx=>hs x (by simp [hx])),rfl⟩
 | [],_::_,_,_,_,h,_,_=>by simp [DataW.TrodAll]at h
 | [],[],_::_,_,_,h,_,_=>by simp [DataW.TrodAll]at h
 |_::_,[],_,_,_,h,_,_=>by simp [DataW.TrodAll]at h
 |_::_,_::_,[],_,_,h,_,_=>by simp [DataW.TrodAll]at h
theorem Zgq{W:World}{base:Nat}{sp:Nat->Bool}{held:Bool} : ∀ (Ts:List TypeId) (vs:List Value) (ds:List (DataW H)) (ps:List MemPlace),DataW.TrodAll enc P W base sp held Ts vs ds ps->ds.length=Ts.length
 | [],[],[],_,_=>rfl
 |_::Ts,_::vs,_::ds,_,h=>by
  simp only[DataW.TrodAll]at h;obtain⟨_,q,_,h2,_⟩:=h
  simp [Zgq Ts vs ds q h2]
 | [],_::_,_,_,h=>by simp [DataW.TrodAll]at h
 | [],[],_::_,_,h=>by simp [DataW.TrodAll]at h
 |_::_,[],_,_,h=>by simp [DataW.TrodAll]at h
 |_::_,_::_,[],_,h=>by simp [DataW.TrodAll]at h
theorem Zhv{f:Func}{s:ChangeSpec}{apart ZdF handsOn again:Bool}{W W' :World}{args:Array Value}{v:Value}{ds gs:List (DataW H)}{before pa pv:List MemPlace}
  (hW:DataW.Whole enc P f.params.toList s.vars apart W args.toList ds gs before)
  (hres: ∀ (b:Nat) (sp:Nat->Bool) (hd:Bool),DataW.TrodAll enc P W' b sp hd f.resultTypes.toList (v.resultList f.resultTypes.size) (s.fn H (ds++gs)).results [])
  (hargs: ∀sp:Nat->Bool,(∀p∈before,sp p.block=true)->DataW.TrodAll enc P W' 0 sp true f.params.toList args.toList (s.fn H (ds++gs)).args pa)
  (hvars: ∀sp:Nat->Bool,(∀p∈before,sp p.block=true)->DataW.TrodVars enc P W' sp s.vars (s.fn H (ds++gs)).vars pv)
  (hps:before=pa++pv) (hb:Below W.heap.size W W')
  (hok: ∀ (j:Nat) (t:TypeId) (r:Value),f.resultTypes[j]? =some t->(v.resultList f.resultTypes.size)[j]? =some r->Vb P W' .any 0 t r):
  s.post enc P f apart ZdF handsOn again W args v W' :=by
 have hold: ∀p∈before,(fun b=>decide (b<W.heap.size)) p.block=true:=fun p hp=>by simpa using hW.lt p hp
 refine⟨ds,gs,before,[],pa,pv,hW,hres _ _ _,hargs _ hold,hvars _ hold,hb.frame _,fun _=> ?_⟩;have hlt:=hW.lt;obtain⟨_,_,_,_,_,hz,hn⟩:=hW;refine⟨hok,_,_,([]++pa)++pv,⟨[]++pa,pv,trodAll_append (hargs _ (fun _ _=>rfl)) (hres _ _ _),hvars _ (fun _ _=>rfl),rfl, ?_, ?_⟩, ?_⟩
 ·intro b off hp;have hm:MemPlace.cell b off∈before:=by rw[hps];simpa using hp
  have hbk:=hb.block b (hlt _ hm);have:=hz b off hm;unfold World.frozen? at this ⊢;rw[hbk];exact this
 ·intro ha;have:=hn ha;rw[hps]at this;simpa using this
 ·intro p hp _;rw[hps];simpa using hp
theorem law_lifted{C:Checked}{os:Os}{f:FuncId}{fn:Func}{s:ChangeSpec}{apart:Bool}{S:Spec}{θ:TypeId->Option Ty}{tb:TypeId}
  (own:ownKnob C.prog.godebug=none) (started:os.Started) (noInit:C.prog.inits.idxOf? f=none) (hfn:C.prog.funcs[f]? =some fn)
  (witness: ∃ (w:World) (tape:Tape) (i:Input),w.os=os/\(w.forCall tape i).Shaped C.prog/\i.vars=[]/\Input.okWide C.prog (w.forCall tape i) .any w.heap.size f i/\
   s.pre6 enc C.prog fn [] apart (w.forCall tape i).memory i.args/\Assume.holds {} C.prog (lone (Frame.enter C.prog f i.args .normal) [] (w.forCall tape i)))
  (hl:laidOutB C.prog=true) (hread: (fn.params.toList.all fun t=>C.prog.readableRec t&&decide (t<C.prog.types.size))=true)
  (hvars:s.vars=[]) (hspec: ∀ds:List (DataW H),ds.length=fn.params.toList.length->s.fn H ds= {results:=[.lit (.bool true)],args:=ds})
  (hres:fn.resultTypes= #[tb]) (htb:C.prog.underlying tb=some .bool)
  (hF:ZaF C.prog f S) (hθ: ∀T t,θ T=some t->TOk C.prog θ T t) (hargs:ZgT θ S.args fn.params.toList=true)
  (hpl:S.pl=true) (hlaw: ∀x,ZiF S.args x-> ∃z,S.f x=some z/\ ∀w I js rv,RV w I S.res (S.unp z).2 js rv->rv= .bool true):
  ReturnsInHanded {} C os f .any (s.pre6 enc C.prog fn [] apart) (s.post enc C.prog fn apart true false false):=by
 refine returnsInHanded_of_change (C:=C) own started noInit hfn witness ?_;intro W base args ds gs before hval hW hcnd _;have hW' :=hW;have hlt:=hW.lt;obtain⟨p,q,hA,hV,rfl,hfz,hnd⟩:=hW
 have hgs:gs=[]/\q=[]:=by
  rw[hvars]at hV
  cases gs with
  |nil=>exact⟨rfl,hV⟩
  |cons g gs=>simp [DataW.TrodVars]at hV
 obtain⟨rfl,rfl⟩:=hgs;obtain⟨x,hx,hg⟩:=Zgc (enc:=enc) hθ S.args fn.params.toList args.toList ds p hargs hA (fun j t v ht hv=>⟨base,hval j t v (by simpa using ht) (by simpa using hv)⟩);obtain⟨z,hz,hrv⟩:=hlaw x hg;have hcall:=hF.run W (fun b=>b<W.heap.size) args.toList [] x z hx .nil (by simp) (fun _ h=>h) (fun h=>by rw[hpl]at h;cases h) hz;simp only[Array.toArray_toList]at hcall;refine hcall.mono fun e W' h=> ?_;obtain⟨rv,rfl,I',jo,jr,_,hR,_,_,_,_,hos,htape,hout,hsize,hkept⟩:=h;have hrv' :=hrv _ _ _ _ hR;subst hrv';have hb:Below W.heap.size W W' :=⟨hos,htape,hout.out,hsize,fun k hk=>hkept k hk (by simp)⟩
 have hsp:=hspec (ds++[]) (by rw[Va];exact Zgq _ _ _ _ hA)
 have hrd: ∀t∈fn.params.toList,C.prog.readableRec t=true/\t<C.prog.types.size:=by intro t ht;have:=List.all_eq_true.1 hread t ht;simpa using this
 refine⟨_,rfl,Zhv (pa:=p) (pv:=[]) hW' (fun b sp hd=> ?_) (fun sp hs=> ?_) (fun sp hs=> ?_) rfl hb ?_⟩
 ·rw[hsp,hres];exact trodAll_cons_mk (p:=[]) (p' :=[]) ⟨1,by simp [DataW.trod,htb,Value.cells]⟩ rfl
 ·rw[hsp];simp only[Va]at hs ⊢;exact ZeY hl hb sp _ _ _ _ hrd hA (by simpa using hlt) hs
 ·rw[hsp,hvars];rfl
 ·intro j t r hj hr;rw[hres]at hj hr
  match j,hj,hr with
  |0,hj,hr=>
   simp [Value.resultList]at hj hr;subst hj;subst hr
   simp [Vb,htb,Cell.okWide,Cell.ok]
  |j+1,hj,_=>simp at hj
end
end Tr
