/- A function's code, run by the abstract machine, keeps what its spec promises. Conditions: the table of types is the program's, the specs of its callees are true, the program draws mixed orders. -/
import Derived.Test.YtdpenljjnfmgiaaGreatTsC
open Array renaming getElem?_toList ->Va,getD_eq_getD_getElem? ->Vb,replicate ->Vg
open Bool renaming and_eq_true ->Vd
open List renaming nodup_append ->Vc,mem_append ->Vl,mapM_cons ->Vm,replicate ->Vn
open Nat renaming eq_of_beq_eq_true ->Vh
open Option renaming bind_eq_some_iff ->Vf
open Prod.mk renaming injEq ->Vi
open Go.Result renaming andThen_ok ->Ve
open Go.Sem renaming run_bind ->Vj,run_pure ->Vk
open Go.Value renaming pointer ->Vo
namespace Tr
open Go
def VLs(w:World)(g:Gh):AVs->List Value->Prop
 | .nil,vs=>vs=[]
 | .cons a l,vs=> ∃v r,vs=v::r/\VR w g a v/\VLs w g l r
section
variable {P:Program}{E:Env}{B:Zbr}{H:AH}{w:World}{g:Gh}{ow:Nat->Nat->Prop}{I:Nat->Prop}
theorem Zku(hR:RH B H w g ow)(hI: ∀b,g.I b->I b): ∀ (pl:Za5) (v:AVs) (vals:List Value) (x:ZcJ pl) (ids:Ids) (l l' :List Nat),(Zef pl v).run H l=some ((x,ids),l')->VLs w g v vals->(∀b,ZaC H ow ids.br b->I b)->
  ids.tk.Nodup-> ∃js,PVs w I pl x js vals/\js.Nodup/\ ∀b∈js,ZaC H ow ids.tk b
 | .nil, .nil,vals,x,ids,l,l',h,hc,hO,_=>by
  simp only[Zef,Zab,Vi]at h;obtain⟨⟨_,rfl⟩,_⟩:=h
  exact⟨[],⟨rfl,hc⟩, .nil,by simp⟩
 | .cons p pl, .cons v vs,vals,x,ids,l,l',h,hc,hO,hn=>by
  simp only[Zef,Zaj,Zab,Vi]at h;obtain⟨⟨x1,i1⟩,m1,h1,⟨x2,i2⟩,m2,h2,⟨rfl,rfl⟩,_⟩:=h;obtain⟨u,r,rfl,h3,h4⟩:=hc;have hn' : (i1.tk++i2.tk).Nodup:=hn;obtain⟨n1,n2,n3⟩:=Vc.1 hn';obtain⟨j1,h5,h6,h7⟩:=Zm6 hR hI h1 h3 (fun b hb=>hO b (ZaG (fun _ h=>by simp [Ids.app,h]) hb)) n1;obtain⟨j2,h8,h9,h10⟩:=Zku hR hI pl vs r x2 i2 _ _ h2 h4 (fun b hb=>hO b (ZaG (fun _ h=>by simp [Ids.app,h]) hb)) n2;refine⟨j1++j2,⟨j1,j2,u,r,rfl,rfl,h5,h8⟩,Vc.2 ⟨h6,h9,fun b hb b' hb' e=> ?_⟩,fun b hb=> ?_⟩
  ·subst e;obtain⟨id,h11,h12⟩:=Zcn hR (h7 b hb) (h10 b hb')
   grind
  ·rcases Vl.1 hb with hb|hb
   ·exact ZaG (fun _ h=>by simp [Ids.app,h]) (h7 b hb)
   ·exact ZaG (fun _ h=>by simp [Ids.app,h]) (h10 b hb)
 | .nil, .cons _ _,_,_,_,_,_,h,_,_,_=>by simp [Zef,Zaa]at h
 | .cons _ _, .nil,_,_,_,_,_,h,_,_,_=>by simp [Zef,Zaa]at h
def Zjf(tmps:Array Value):ResultVar->Sem Value
 | .tmp t=>pure (tmps.getD t undef)
 | .cell c t=>do loadVar t (<-asAddr (tmps.getD c undef))
theorem ZeP(hT:Zah P E){s:AS}{a:Act}(hR:RH B s.H w g ow)(hF:Fr w g s.F a.tmps): ∀ (l:List ResultVar) (vs:AVs) (k k' :List Nat),(ZeO E s l).run s.H k=some (vs,k')->
  ∃rvs,(l.mapM (Zjf a.tmps)).run P w= .ok rvs w/\VLs w g vs rvs
 | [],vs,k,k',h=>by
  simp only[ZeO,Zab]at h;obtain⟨rfl,_⟩:=h
  exact⟨[],rfl,rfl⟩
 | .tmp t::l,vs,k,k',h=>by
  simp only[ZeO,Zaj,Zab]at h;obtain⟨ws,m,h1,rfl,_⟩:=h;obtain⟨rvs,h2,h3⟩:=ZeP hT hR hF l ws k m h1;refine⟨a.tmps.getD t undef::rvs, ?_,_,_,rfl,hF t,h3⟩;rw[Vm]
  simp only[Zjf,Vj,Vk,Ve,h2]
 | .cell c T::l,vs,k,k',h=>by
  simp only[ZeO,Zac]at h;obtain⟨t,ht,h⟩:=h;split at h
  ·rename_i id p hc;rw[Zag]at h;split at h
   ·rename_i t0 ct hH;simp only[Zaj,Zae,Zab,Zaa,and_false,or_false,Vd]at h;obtain⟨v,m,h1,⟨h2,h2s⟩,ws,m2,h3,rfl,_⟩:=h;obtain⟨rvs,h4,h5⟩:=ZeP hT hR hF l ws m m2 h3;have hv:=hF c;rw[hc]at hv;obtain⟨hk,o',t1,b,h6,h7,h8⟩:=hv.ptr;obtain⟨_,hty,hf,b',cs,e,h9,h10,h11,h12,h13⟩:=hR.objs id _ hH;obtain⟨_,t2,c1,⟨o2,pre,post,h14,h15,h16⟩,h17,h18⟩:=Zf2 h1 hf h13;rw[hty,h14]at h6;obtain⟨rfl,rfl⟩:=Prod.mk.inj (Option.some.inj h6);rw[h7]at h9;cases h9;obtain⟨h19,h20⟩:=Zgk h18 h2 (Zd0 h2 h2s);have hcell:ZbM w b o2 c1:=by rw[<-h16];exact ZbM.of_heap h11 h15
    refine⟨_::rvs, ?_,_,_,rfl, .of1 h19,h5⟩;rw[Vm];simp only[Zjf,Vj,Vk,Ve,h8,asAddr,Zeq (hT.ty T t ht) hcell (CV.length v t c1 h2 h18) h20,h4]
   ·simp [Zaa]at h
  ·simp [Zaa]at h
theorem Zex{fn:Func}{tmps:Array Value}{rvs:List Value}(h: (fn.results.toList.mapM (Zjf tmps)).run P w= .ok rvs w):
  (results fn tmps).run P w= .ok (Zoi rvs) w:=by
 have e1:results fn tmps=(do let vs<-fn.results.mapM (Zjf tmps);pure (if h:vs.size=1 then vs[0] else .tuple vs)):=by rfl
 rw[e1,Array.mapM_eq_mapM_toList];simp only[Vj,map_eq_pure_bind,Vk,h,Ve];congr 1
 cases rvs with
 |nil=>rfl
 |cons v l=>cases l with
  |nil=>rfl
  |cons u l=>rfl
theorem ZkI{vals:List Value} : ∀ {l:AVs},VRs w g l vals-> ∀ (n:Nat) t,VR w g (l.toF t) ((vals++Vn n undef).getD t undef)
 | .nil,h,n,t=>by
  simp only[VRs]at h;subst h
  have: ([]++Vn n undef).getD t undef=undef:=by
   grind
  rw[this]
  exact⟨[],rfl,rfl⟩
 | .cons a l,h,n,t=>by
  obtain⟨v,r,rfl,h1,h2⟩:=h
  cases t with
  |zero=>exact .of1 h1
  |succ t=>simpa [AVs.toF] using ZkI h2 n t
theorem Zno: ∀ {pl:Za5}{x:ZcJ pl}{js:List Nat}{vals:List Value},PVs w I pl x js vals->vals.length=pl.len
 | .nil,_,_,_,h=>by obtain⟨_,rfl⟩:=h;rfl
 | .cons _ _,_,_,_,h=>by obtain⟨_,_,v,r,_,rfl,_,h2⟩:=h;simp [Za5.len,Zno h2]
theorem Zkf{B0:Zbr}{H0:AH}{s:AS}{ks:List Nat}{w0 w:World}{g0 g:Gh}{ow0 ow:Nat->Nat->Prop}{B:Zbr}(hR0:RH B0 H0 w0 g0 ow0)(hR:RH B s.H w g ow){av:AVs}{vals:List Value}(hv:VRs w0 g0 av vals)(hle:g0.Le g)(hF: ∀n∈ks, ∀v,vals[n]? =some v->VR w g (s.F n) v): ∀ (kp:List (Nat×Nat×Nat)),Znr ks av H0 s kp=true->ZjY kp vals w0 w
 | [],_=>fun k hk=>by grind
 |k::kp,h=>by
  simp only[Znr,Vd]at h;obtain⟨h1,h2⟩:=h;intro i hi;rcases List.mem_cons.1 hi with rfl|hi
  ·intro b hb cs e hcs;split at h1
   case h_2=>grind
   rename_i id id' hs hs';split at h1
   case h_2=>grind
   rename_i T c T' c' hH0 hH;split at h1
   case h_2=>grind
   rename_i a a' ho hn;simp only[Vd,beq_iff_eq]at h1;obtain⟨⟨⟨h3,rfl⟩,h4⟩,h5⟩:=h1;obtain rfl:=Vh h3;have h4:=Vh h4;obtain⟨hKs,_,hf1,b1,cs1,e1,hb1,_,hh1,_,hcv1⟩:=hR0.objs id _ hH0;obtain⟨_,_,hf2,b2,cs2,e2,hb2,_,hh2,_,hcv2⟩:=hR.objs id' _ hH;obtain⟨u,hu1,hu2⟩:=Zjs _ _ _ _ hv hs;obtain⟨_,b3,hb3,rfl⟩:=ZmH hu2;rw[hu1]at hb;have hb:=Option.some.inj hb;simp only[Vo.injEq,Option.some.injEq,Addr.mk.injEq,and_true]at hb;subst hb;rw[hb1]at hb3;obtain rfl:=Option.some.inj hb3;have hv2:=hF _ (ZaQ.1 h5) _ hu1;rw[hs']at hv2;obtain⟨_,o2,t2,b4,h6,h7,h8⟩:=hv2.ptr;simp only[Vo.injEq,Option.some.injEq,Addr.mk.injEq]at h8
   rw[hb2]at h7;obtain rfl:=Option.some.inj h7;obtain rfl:=h8.1;rw[hcs]at hh1;have hh1:=Option.some.inj hh1;cases hh1;simp only[AV.fits]at hf1 hf2;simp only[CV]at hcv1 hcv2;obtain⟨hKo,hco⟩:=Zeb c _ _ _ _ hf1 hcv1 ho;obtain⟨_,hcn⟩:=Zeb c' _ _ _ _ hf2 hcv2 hn;rw[Va,h4]at hco hcn;exact⟨cs2,e2,hh2,by rw[hco,hcn,hle.slv _ hKo]⟩
  ·exact Zkf hR0 hR hv hle hF kp h2 i hi
theorem Znz(hm:P.follows .mixedOrders=true)(hT:Zah P E)(hS: ∀f, ∀S∈E.specs f,ZaF P f S)(hI: ∀B:Zbr,(B.pl=false->Amb P B.w0 B.own0)->(B.pl=true-> ∀f, ∀T∈E.specs f,T.pl=true)-> ∀f h,E.inl f=some h->ZoS P B E.stp f h){f:FuncId}{fn:Func}{body:Code}(hf:P.funcs[f]? =some fn)(hb:fn.body=some body)(hnt:E.nt=fn.ntmps)
  {S:Spec} (hwf:S.args.wf=true) (hlen:Nat.ble S.args.len E.nt=true) {hint:ZfT}{pack:ZbQ S.args×ZcJ S.res->S.α} (hpack: ∀y,S.unp (pack y)=y) (hpl:S.pl=true-> ∀f, ∀T∈E.specs f,T.pl=true)
  (hev: ∀x z,S.f x=some z->Zh5 E body fn.results hint S.args S.res pack x S.kp=some z):Zjp P f S:=by
  intro w I vals js x z hpv hjn hjs hI' amb hz;have hvl:=Zno hpv;have hle:=Nat.le_of_ble_eq_true hlen;refine calls_of_wp hf hb ?_;have hev:=hev x z hz;unfold Zh5 at hev
  let B:Zbr:= {w0:=w,own0:=(· ∈js),I0:=I,pl:=S.pl}
  let g0:Gh:= {I:=I,K:=fun _=>False,ty:=fun _=> .unit,blk:=fun _=>none,slv:=fun _=>undef,ver:=fun _=>0,row:=fun _ _ _=>undef}
  have hR0:RH B (fun _=>none) w g0 (fun _ _=>False):= {
   objs:=by simp
   dist:=by simp
   sep:=by simp
   ilt:=hI'
   inew:=by grind
   os:=rfl
   tape:=rfl
   output:= .rfl
   size:=Nat.le_refl _
   kept:=(by grind) }
  have hfree:ZfC B (fun _=>none) w g0 (fun _ _=>False) js:=⟨hjn,by grind⟩;obtain⟨g1,ow1,l1,i1,r1,c1,k1,_⟩:=ZhT S.args hR0 x js vals 0 hpv hfree (by grind)
  have hHH:Zdl (Zcz S.args x 0).2.1=Zad (fun _=>none) (Zbu (Zcz S.args x 0).2.1):=by
   funext id;rw[Zev _ _ _ (Zd7 _ _ _)]
   grind
  have hs:SR {E with ks:=ZbB S.args 0} B ⟨(Zcz S.args x 0).1.toF,Zdl (Zcz S.args x 0).2.1,(Zcz S.args x 0).2.2,[]⟩ w g1 ow1 {tmps:=vals.toArray++Vg (fn.ntmps - vals.toArray.size) undef,defers:=[] } := {
   rh:=by grind
   fr:=fun t=>by have:=ZkI c1 (fn.ntmps - vals.length) t;simpa [Vb,List.getD_eq_getElem?_getD, <-Va] using this
   nt:=by
    grind
   df:=rfl
   ids:=by grind
   fz:=(by simp) }
  refine wp_mono (Zbb hm body hint {E with ks:=ZbB S.args 0} S.α _ _ z ⟨hT.ty,hT.mty,hT.pk,hT.pz,hT.bd⟩ ⟨hS,amb,hpl,hI B amb hpl⟩ hev hs) ?_;rintro e a' w' ⟨ex,s',g',ow',rfl,hs',hln,hk⟩;rw[Vf]at hk;obtain⟨y,hy,hz'⟩:=hk
  cases hkx:Znr (ZbB S.args 0) (Zcz S.args x 0).1 (Zdl (Zcz S.args x 0).2.1) s' S.kp with
  |false=>grind
  |true=>
  rw[hkx]at hz';simp only[cond_true,Option.some.injEq]at hz'
  have hkc:ZjY S.kp vals w w' :=Zkf hs.rh hs'.rh c1 hln.lk.le (fun k hk v hv=>by
   have h1:=hs'.fr k;rw[hln.lk.ks k hk]at h1
   have h2: (vals.toArray++Vg (fn.ntmps - vals.toArray.size) undef).getD k undef=v:=by
    obtain⟨hkl,_⟩:=List.getElem?_eq_some_iff.1 hv;simp only[Vb, <-Va]
    grind
   grind) S.kp hkx
  have key: ∀ (hex:ZlX E fn.results S.args S.res [] .normal s' =some y),a'.defers=[]/\ ∃v,(results fn a'.tmps).run P w' = .ok v w' /\ ∃rv,Ending.returned v= .returned rv/\Zpc S w I js vals (S.unp z) rv w' /\ZjY S.kp vals w w' :=by
   intro hex;refine⟨hs'.df, ?_⟩;simp only[ZlX,Acc.runK_eq]at hex;rw[Vf]at hex;obtain⟨⟨⟨yv,ids⟩,rd⟩,hrun,hex⟩:=hex;simp only[Zaj,Zab,Vi]at hrun;obtain⟨vs,m1,hres,⟨xr,ir⟩,m2,hext,⟨yo,io⟩,m3,hout,⟨rfl,rfl⟩,_⟩:=hrun;simp only at hex
   cases hc: ((Ids.app io ir).ok [] &&ZcA (Ids.app io ir).br []) with
   |false=>grind
   |true=>
    rw[hc]at hex;simp only[cond_true,Option.some.injEq]at hex;subst hex;simp only[Vd]at hc;obtain⟨hnd,hdis,_⟩:=Ids.ok_iff hc.1;have hnd' : (io.tk++ir.tk).Nodup:=hnd;obtain⟨n1,n2,n3⟩:=Vc.1 hnd';obtain⟨rvs,hr1,hr2⟩:=ZeP hT hs'.rh hs'.fr fn.results.toList vs [] m1 hres;have hII: ∀b,g'.I b->g'.I b\/ZaC s'.H ow' (Ids.app io ir).br b:=by grind
    have hIO: ∀ (i:Ids),(∀n∈i.br,n∈(Ids.app io ir).br)-> ∀b,ZaC s'.H ow' i.br b->g'.I b\/ZaC s'.H ow' (Ids.app io ir).br b:=fun i hi b hb=> .inr (ZaG hi hb);obtain⟨jr,hr3,hr4,hr5⟩:=Zku hs'.rh hII S.res vs rvs xr ir m1 m2 hext hr2 (hIO ir fun n hn=>by simp [Ids.app,hn]) n2
    obtain⟨jo,ho1,ho2,ho3⟩:=Zf9 (F:=s'.F) hs'.rh hII (w0:=w) (I0:=I) S.args 0 vals x js yo io m2 m3 hout hwf hpv (fun k v hk hv=>by
      rw[Nat.add_zero]at hk ⊢;have h1:=hs'.fr k;rw[hln.lk.ks k hk]at h1
      have hkl:k<vals.length:=by
       grind
      have h2: (vals.toArray++Vg (fn.ntmps - vals.toArray.size) undef).getD k undef=v:=by
       simp only[Vb, <-Va]
       grind
      grind) (hIO io fun n hn=>by simp [Ids.app,hn]) n1
    refine⟨Zoi rvs,Zex hr1,Zoi rvs,rfl,⟨(fun b=>g'.I b\/ZaC s'.H ow' (Ids.app io ir).br b),jo,jr, ?_,⟨rvs, ?_,rfl⟩, ?_, ?_, ?_, ?_,hs'.rh.os,hs'.rh.tape,hs'.rh.output,hs'.rh.size,fun b h1 h2=>hs'.rh.kept b h1 h2⟩,hkc⟩
    ·grind
    ·grind
    ·refine Vc.2 ⟨ho2,hr4,fun b hb b' hb' e=> ?_⟩;subst e;obtain⟨id,h1,h2⟩:=Zcn hs'.rh (ho3 b hb) (hr5 b hb')
     grind
    ·intro b hb
     have hown:ZaC s'.H ow' (Ids.app io ir).tk b:=by
      rcases Vl.1 hb with h|h
      ·exact ZaG (fun n hn=>by simp [Ids.app,hn]) (ho3 b h)
      ·exact ZaG (fun n hn=>by simp [Ids.app,hn]) (hr5 b h)
     obtain⟨id,h1,h2,h3⟩:=id hown;obtain⟨h4,h5,h6⟩:=hs'.rh.sep id b h2 h3;refine⟨fun h=> ?_,h5,h6⟩;rcases h with h|h
     ·grind
     ·obtain⟨k,h7,h8⟩:=Zcn hs'.rh h hown
      grind
    ·intro b hb;refine .inl (hln.lk.le.I b ?_);rw[i1.I];omega
    ·intro b hb;rcases hb with hb| ⟨id,_,h2,h3⟩
     ·refine⟨hs'.rh.ilt b hb, ?_⟩;rcases hs'.rh.inew b hb with h|h|h
      all_goals grind
     ·obtain⟨_,h5,h6⟩:=hs'.rh.sep id b h2 h3
      grind
  cases ex with
  |normal=>exact key hy
  |exit id=>simp [ZlX]at hy
  |jump id=>simp [ZlX]at hy
  |ret=>exact key (by assumption)
theorem Zkq (hm:P.follows .mixedOrders=true) (hT:Zah P E) (hS: ∀f, ∀S∈E.specs f,ZaF P f S) (hI: ∀B:Zbr,(B.pl=false→Amb P B.w0 B.own0)→(B.pl=true→ ∀f, ∀T∈E.specs f,T.pl=true)→ ∀f h,E.inl f=some h→ZoS P B E.stp f h) {f:FuncId} {fn:Func} {body:Code} (hf:P.funcs[f]? =some fn) (hb:fn.body=some body) (hnt:E.nt=fn.ntmps) (hname: (fn.name== "runtime.NumGoroutine")=false)
  {S:Spec} (hwf:S.args.wf=true) (hlen:Nat.ble S.args.len E.nt=true) {hint:ZfT}{pack:ZbQ S.args×ZcJ S.res->S.α} (hpack: ∀y,S.unp (pack y)=y) (hpl:S.pl=true-> ∀f, ∀T∈E.specs f,T.pl=true)
  (hev: ∀x z,S.f x=some z->Zh5 E body fn.results hint S.args S.res pack x S.kp=some z):ZaF P f S:=
 have key:=Znz hm hT hS hI hf hb hnt hwf hlen hpack hpl hev
 {wf:=hwf
  fn:=⟨fn,hf,by grind,hname⟩
  run:=fun w I vals js x z h1 h2 h3 h4 h5 h6=>(key w I vals js x z h1 h2 h3 h4 h5 h6).mono (by grind)
  kept:= .inr key}
end
end Tr
