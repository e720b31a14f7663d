/- What evalF_run says, for a code that is walked by hand. Conditions: those of the theorem. -/
import Derived.Test.YtdpenljjnfmgiaaGreatTsJ
open Array renaming getD_eq_getD_getElem? ->Va,getElem?_toList ->Vb,replicate ->Vd
open List renaming nodup_append ->Ve
open Option renaming bind_eq_some_iff ->Vc
namespace Tr
open Go
section
variable {P:Program}{E:Env}
theorem Zko(hT:Zah P E)(hS: ∀f, ∀S∈E.specs f,ZaC P f S)(hI: ∀B:Za4,(B.pl=false->Amb P B.w0 B.own0)->(B.pl=true-> ∀f, ∀T∈E.specs f,T.pl=true)-> ∀f h,E.inl f=some h->Zkg P B E.stp f h){f:FuncId}{fn:Func}{body:Code}(hf:P.funcs[f]? =some fn)(hb:fn.body=some body)(hnt:E.nt=fn.ntmps)
  {S:Spec} (hwf:S.args.wf=true) (hlen:Nat.ble S.args.len E.nt=true) {pack:Zbx S.args×Zce S.res->S.α} (hpack: ∀y,S.unp (pack y)=y) (hpl:S.pl=true-> ∀f, ∀T∈E.specs f,T.pl=true)
  (hev: ∀x z,S.f x=some z-> ∀ {B:Za4}{w:World}{g:Gh}{ow:Nat->Nat->Prop}{a:Act},ZaU P {E with ks:=ZaP S.args 0} B->SR {E with ks:=ZaP S.args 0} B ⟨(Zbj S.args x 0).1.toF,Zbw (Zbj S.args x 0).2.1,(Zbj S.args x 0).2.2,[]⟩ w g ow a->body.wp P (Zhe {E with ks:=ZaP S.args 0} B ⟨(Zbj S.args x 0).1.toF,Zbw (Zbj S.args x 0).2.1,(Zbj S.args x 0).2.2,[]⟩ w g a (fun e s=>(Zeg E fn.results S.args S.res [] e s).bind fun y=>bif Zgk (ZaP S.args 0) (Zbj S.args x 0).1 (Zbw (Zbj S.args x 0).2.1) s S.kp then some (pack y) else none) z) a w):ZeR P f S:=by
  intro w I vals js x z hpv hjn hjs hI' amb hz;have hvl:=Zir hpv;have hle:=Nat.le_of_ble_eq_true hlen;refine calls_of_wp hf hb ?_;have hev:= @hev x z hz
  let B:Za4:= {w0:=w,own0:=(· ∈js),I0:=I,pl:=S.pl}
  let g0:Gh:= {I:=I,K:=fun _=>False,ty:=fun _=> .unit,blk:=fun _=>none,slv:=fun _=>undef,ver:=fun _=>0,row:=fun _ _ _=>undef}
  have hR0:RH B (fun _=>none) w g0 (fun _ _=>False):= {
   objs:=by simp
   dist:=by simp
   sep:=by simp
   ilt:=hI'
   inew:=by grind
   os:=rfl
   tape:=rfl
   output:= .rfl
   size:=Nat.le_refl _
   kept:=(by grind) }
  have hfree:Zer B (fun _=>none) w g0 (fun _ _=>False) js:=⟨hjn,by grind⟩;obtain⟨g1,ow1,l1,i1,r1,c1,k1,_⟩:=ZeL S.args hR0 x js vals 0 hpv hfree (by grind)
  have hHH:Zbw (Zbj S.args x 0).2.1=Zad (fun _=>none) (Zbg (Zbj S.args x 0).2.1):=by
   funext id;rw[ZcT _ _ _ (ZcD _ _ _)]
   grind
  have hs:SR {E with ks:=ZaP S.args 0} B ⟨(Zbj S.args x 0).1.toF,Zbw (Zbj S.args x 0).2.1,(Zbj S.args x 0).2.2,[]⟩ w g1 ow1 {tmps:=vals.toArray++Vd (fn.ntmps - vals.toArray.size) undef,defers:=[] } := {
   rh:=by grind
   fr:=fun t=>by have:=ZhL c1 (fn.ntmps - vals.length) t;simpa [Va,List.getD_eq_getElem?_getD, <-Vb] using this
   nt:=by
    grind
   df:=rfl
   ids:=by grind
   fz:=(by simp) }
  refine wp_mono (hev (B:=B) ⟨hS,amb,hpl,hI B amb hpl⟩ hs) ?_;rintro e a' w' ⟨ex,s',g',ow',rfl,hs',hln,hk⟩;rw[Vc]at hk;obtain⟨y,hy,hz'⟩:=hk
  cases hkx:Zgk (ZaP S.args 0) (Zbj S.args x 0).1 (Zbw (Zbj S.args x 0).2.1) s' S.kp with
  |false=>grind
  |true=>
  rw[hkx]at hz';simp only[cond_true,Option.some.injEq]at hz'
  have hkc:Zgl S.kp vals w w' :=Zgn hs.rh hs'.rh c1 hln.lk.le (fun k hk v hv=>by
   have h1:=hs'.fr k;rw[hln.lk.ks k hk]at h1
   have h2: (vals.toArray++Vd (fn.ntmps - vals.toArray.size) undef).getD k undef=v:=by
    obtain⟨hkl,_⟩:=List.getElem?_eq_some_iff.1 hv;simp only[Va, <-Vb]
    grind
   grind) S.kp hkx
  have key: ∀ (hex:Zeg E fn.results S.args S.res [] .normal s' =some y),a'.defers=[]/\ ∃v,(results fn a'.tmps).run P w' = .ok v w' /\ ∃rv,Ending.returned v= .returned rv/\Zl4 S w I js vals (S.unp z) rv w' /\Zgl S.kp vals w w' :=by
   intro hex;refine⟨hs'.df, ?_⟩;simp only[Zeg,Acc.runK_eq]at hex;rw[Vc]at hex;obtain⟨⟨⟨yv,ids⟩,rd⟩,hrun,hex⟩:=hex;simp only[Zai,Zab,Prod.mk.injEq]at hrun;obtain⟨vs,m1,hres,⟨xr,ir⟩,m2,hext,⟨yo,io⟩,m3,hout,⟨rfl,rfl⟩,_⟩:=hrun;simp only at hex
   cases hc: ((Ids.app io ir).ok [] &&Zb7 (Ids.app io ir).br []) with
   |false=>grind
   |true=>
    rw[hc]at hex;simp only[cond_true,Option.some.injEq]at hex;subst hex;simp only[Bool.and_eq_true]at hc;obtain⟨hnd,hdis,_⟩:=Ids.ok_iff hc.1;have hnd' : (io.tk++ir.tk).Nodup:=hnd;obtain⟨n1,n2,n3⟩:=Ve.1 hnd';obtain⟨rvs,hr1,hr2⟩:=Zdl hT hs'.rh hs'.fr fn.results.toList vs [] m1 hres;have hII: ∀b,g'.I b->g'.I b\/Zav s'.H ow' (Ids.app io ir).br b:=by grind
    have hIO: ∀ (i:Ids),(∀n∈i.br,n∈(Ids.app io ir).br)-> ∀b,Zav s'.H ow' i.br b->g'.I b\/Zav s'.H ow' (Ids.app io ir).br b:=fun i hi b hb=> .inr (Zaw hi hb);obtain⟨jr,hr3,hr4,hr5⟩:=ZgV hs'.rh hII S.res vs rvs xr ir m1 m2 hext hr2 (hIO ir fun n hn=>by simp [Ids.app,hn]) n2
    obtain⟨jo,ho1,ho2,ho3⟩:=ZdX (F:=s'.F) hs'.rh hII (w0:=w) (I0:=I) S.args 0 vals x js yo io m2 m3 hout hwf hpv (fun k v hk hv=>by
      rw[Nat.add_zero]at hk ⊢;have h1:=hs'.fr k;rw[hln.lk.ks k hk]at h1
      have hkl:k<vals.length:=by
       grind
      have h2: (vals.toArray++Vd (fn.ntmps - vals.toArray.size) undef).getD k undef=v:=by
       simp only[Va, <-Vb]
       grind
      grind) (hIO io fun n hn=>by simp [Ids.app,hn]) n1
    refine⟨Zkc rvs,ZcK hr1,Zkc rvs,rfl,⟨(fun b=>g'.I b\/Zav s'.H ow' (Ids.app io ir).br b),jo,jr, ?_,⟨rvs, ?_,rfl⟩, ?_, ?_, ?_, ?_,hs'.rh.os,hs'.rh.tape,hs'.rh.output,hs'.rh.size,fun b h1 h2=>hs'.rh.kept b h1 h2⟩,hkc⟩
    ·grind
    ·grind
    ·refine Ve.2 ⟨ho2,hr4,fun b hb b' hb' e=> ?_⟩;subst e;obtain⟨id,h1,h2⟩:=ZbF hs'.rh (ho3 b hb) (hr5 b hb')
     grind
    ·intro b hb
     have hown:Zav s'.H ow' (Ids.app io ir).tk b:=by
      rcases List.mem_append.1 hb with h|h
      ·exact Zaw (fun n hn=>by simp [Ids.app,hn]) (ho3 b h)
      ·exact Zaw (fun n hn=>by simp [Ids.app,hn]) (hr5 b h)
     obtain⟨id,h1,h2,h3⟩:=id hown;obtain⟨h4,h5,h6⟩:=hs'.rh.sep id b h2 h3;refine⟨fun h=> ?_,h5,h6⟩;rcases h with h|h
     ·grind
     ·obtain⟨k,h7,h8⟩:=ZbF hs'.rh h hown
      grind
    ·intro b hb;refine .inl (hln.lk.le.I b ?_);rw[i1.I];omega
    ·intro b hb;rcases hb with hb| ⟨id,_,h2,h3⟩
     ·refine⟨hs'.rh.ilt b hb, ?_⟩;rcases hs'.rh.inew b hb with h|h|h
      all_goals grind
     ·obtain⟨_,h5,h6⟩:=hs'.rh.sep id b h2 h3
      grind
  cases ex with
  |normal=>exact key hy
  |exit id=>simp [Zeg]at hy
  |jump id=>simp [Zeg]at hy
  |ret=>exact key (by assumption)
end
end Tr
