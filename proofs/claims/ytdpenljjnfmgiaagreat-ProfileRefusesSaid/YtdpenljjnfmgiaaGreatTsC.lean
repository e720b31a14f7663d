/- The code of the abstract machine is the code of the model. Conditions: the table of types is the program's, the specs are true, the program draws mixed orders. -/
import Derived.Scope
import Derived.Test.YtdpenljjnfmgiaaGreatTsB
open Bool renaming and_eq_true ->Vb,not_eq_true' ->Vl
open List renaming mem_append_left ->Vc,mem_append_right ->Vd,mem_append ->Vf,mem_cons ->Vk,nodup_range ->Vm
open Nat renaming eq_of_beq_eq_true ->Ve,beq ->Vg,lt_succ_self ->Vi
open Option renaming bind_eq_some_iff ->Va
open Prod renaming snd ->Vj
open Sum.inl renaming injEq ->Vn
open Sum.inr renaming injEq ->Vh
namespace Tr
open Go
theorem Zik{s:AS}{l m:List Nat}(h: ∀n∈l,n∈m): ∀id∈Zcu s l,id∈Zcu s m:=by
 have key: ∀ (m:List Nat) n,n∈m-> ∀id∈(match s.F n with| .ptr id []=>[id] | .vw id=>[id] | .nw id _ _ _=>[id] | .mp id=>[id] | .fn _ caps=>AV.boxes caps|_=>[]),id∈Zcu s m:=by
  intro m
  induction m with
  |nil=>simp
  |cons k m ih=>
   intro n hn id hid;simp only[Zcu,Vf]
   grind
 induction l with
 |nil=>intro id hid;simp [Zcu]at hid
 |cons n l ih=>
  intro id hid;simp only[Zcu,Vf]at hid;rcases hid with hid|hid
  ·exact key m n (by grind) id hid
  grind
theorem ZiL{H:AH} : ∀ {l:AVs},Zkn H l=true-> ∀id∈AV.boxes l,Zih H id=true
 | .nil,_,id,hid=>by simp [AV.boxes]at hid
 | .cons v l,h,id,hid=>by
  simp only[Zkn,Vb]at h;simp only[AV.boxes,Vf,Option.mem_toList]at hid;rcases hid with hid|hid
  ·cases v with
   |ptr k p=>
    cases p with
    |nil=>
     simp only[AV.box?,Option.some.injEq]at hid
     grind
    |cons a p=>grind
   |_=>simp [AV.box?]at hid
  ·exact ZiL h.2 id hid
theorem ZiM{s:AS} : ∀ {l:List Nat},ZdA s l=true-> ∀id∈Zcu s l,Zih s.H id=true
 | [],_,id,hid=>by simp [Zcu]at hid
 |n::l,h,id,hid=>by
  simp only[ZdA,Vb]at h;simp only[Zcu,Vf]at hid;rcases hid with hid|hid
  ·split at hid
   ·grind
   ·grind
   ·grind
   ·grind
   ·rename_i f caps hk;have:=h.1;rw[hk]at this;exact ZiL this id hid
   grind
  ·exact ZiM h.2 id hid
theorem ZeJ{s:AS}{e:ZfQ}(h:ZdA s e.kept=true)(hf: ∀id∈s.fz,Zih s.H id=true): ∀id∈Zao s e,Zih s.H id=true:=by
 intro id hid;rcases Vf.1 hid with hid|hid
 ·exact ZiM h id hid
 grind
theorem Zmb{w:World}{g g1:Gh}{J:Nat->Prop}{id:Nat}{o:Zc0}{H:AH}(hH:H id=some o)(hd:Zih H id=true)(hI: ∀b,g.I b->g1.I b)(ht:g1.ty id=g.ty id)(hb:g1.blk id=g.blk id)(hs:g1.slv id=g.slv id)(hv:g1.ver id=g.ver id)(hr:g1.row id=g.row id)
  (h:ZeB w g J id o):ZeB w g1 J id o:=by
 unfold Zih at hd;rw[hH]at hd
 cases o with
 |var t c=>
  cases c with
  |d t' x=>
   obtain⟨h0,hf,b,cs,e,h1,h2,h3,h4,h5⟩:=h
   exact⟨ht.trans h0,hf,b,cs,e,hb.trans h1,h2,h3,h4,by simp only[CV]at h5 ⊢;exact Rd.mono (fun _ _=>rfl) hI _ _ _ h5⟩
  |_=>grind
 |vec t xs=>
  obtain⟨h0,h⟩:=h;refine⟨ht.trans h0, ?_⟩;rcases h with ⟨h1,h2,h3⟩ | ⟨b,cap,cs,e,css,h1,h2,h3,h4,h5,h6,h7,h8⟩
  ·grind
  ·exact .inr ⟨b,cap,cs,e,css,hb.trans h1,h2,hs.trans h3,h4,h5,h6,h7.mono fun x c hx=>Rd.mono (fun _ _=>rfl) hI t x c hx,h8⟩
 |map kt vt m=>
  obtain⟨b,es,clock,h1,h2,h3,hbn,h4⟩:=h
  exact⟨b,es,clock,hb.trans h1,h2,h3,hbn,h4.mono fun kv e hx=>⟨⟨by have:=hx.1.1;simp only[CV]at this ⊢;exact Rd.mono (fun _ _=>rfl) hI _ _ _ this,hx.1.2⟩,⟨by have:=hx.2.1;simp only[CV]at this ⊢;exact Rd.mono (fun _ _=>rfl) hI _ _ _ this,hx.2.2⟩⟩⟩
 |rows t xs v hole=>
  obtain⟨h0,h1,h2,h3⟩:=h;refine⟨ht.trans h0,hv.trans h1, ?_, ?_⟩
  ·rw[hb,hr];exact⟨fun k x a b=>(h2.rd k x a b).mono (fun _ _=>rfl) hI (by simp) (by simp),h2.ds,h2.tp⟩
  grind
 |mrows kt t m v hole=>
  obtain⟨h0,h1,h2,h3,h4,b,es,clock,h5,h6,h7,h8⟩:=h;refine⟨ht.trans h0,hv.trans h1, ?_,h3, ?_,b,es,clock,hb.trans h5,h6,h7, ?_⟩
  ·rw[hb,hr];exact⟨fun k x a b=>(h2.rd k x a b).mono (fun _ _=>rfl) hI (by simp) (by simp),h2.ds,h2.tp⟩
  ·grind
  ·rw[hr];exact h8.mono fun kv e hx=>⟨⟨by have:=hx.1.1;simp only[CV]at this ⊢;exact Rd.mono (fun _ _=>rfl) hI _ _ _ this,hx.1.2⟩,hx.2⟩
 |rng kt vt rest cur=>
  obtain⟨b,mb,es,clock,since,seen,h0,h1,h2,h3,h4,h5,h6,h7,h8⟩:=h;refine⟨b,mb,es,clock,since,seen,ht.trans h0,hb.trans h1,h2,h3,h4,h5,h6,h7.mono fun kv e hx=>⟨⟨by have:=hx.1.1;simp only[CV]at this ⊢;exact Rd.mono (fun _ _=>rfl) hI _ _ _ this,hx.1.2⟩,⟨by have:=hx.2.1;simp only[CV]at this ⊢;exact Rd.mono (fun _ _=>rfl) hI _ _ _ this,hx.2.2⟩⟩,fun kv hkv=> ?_⟩;obtain⟨e,h9,seen',h10,h12,h13⟩:=h8 kv hkv
  exact⟨e,h9,seen',h10,⟨by have:=h12.1;simp only[CV]at this ⊢;exact Rd.mono (fun _ _=>rfl) hI _ _ _ this,h12.2⟩,⟨by have:=h13.1;simp only[CV]at this ⊢;exact Rd.mono (fun _ _=>rfl) hI _ _ _ this,h13.2⟩⟩
 |dat t xs=>exact⟨ht.trans h.1,by rw[hs];exact Rd.mono (fun _ _=>rfl) hI _ _ _ h.2⟩
 |cel t l=>simp at hd
 |bld T e bs=>
  obtain⟨b,h1,h2⟩:=h;exact⟨b,hb.trans h1,h2⟩
theorem Zko{w:World}{g:Gh}{tmps:Array Value} : ∀ (l:List (Nat×AV)),(∀q∈l,VR1 w g q.2 (tmps.getD q.1 undef))-> ∀k,VR1 w g (Zii l k) (tmps.getD k undef)
 | [],_,k=>⟨by simp [CV,Zii], .inl rfl⟩
 |q::l,h,k=>by
  simp only[Zii]
  cases hb:Vg k q.1 with
  |true=>simp_all
  |false=>exact Zko l (by grind) k
section
variable {P:Program}{E E' :Env}{B:Zbr}
theorem ZgX{w w1:World}{g g1:Gh}{F F1:Nat->AV}{tmps:Array Value}(hF:Fr w g F tmps)(hF1: ∀k,(∀m,F1 k≠ .tup m)->VR1 w1 g1 (F1 k) (tmps.getD k undef)): ∀ (caps:AVs) (l:List Nat) (cc:List Value),Zdp F caps l=true->CVs w g caps cc->
  (∀n∈l, ∀m,F1 n≠ .tup m)->CVs w1 g1 (AVs.ofList (l.map F1)) cc
 | .nil,[],cc,_,hc,_=>by assumption
 | .nil,n::l,_,h,_,_=>by simp [Zdp]at h
 | .cons v vs,[],_,h,_,_=>by simp [Zdp]at h
 | .cons v vs,n::l,cc,h,hc,hnt=>by
  simp only[Zdp,Vb]at h;simp only[CVs]at hc;obtain⟨c1,c2,rfl,h1,h2⟩:=hc;simp only[List.map_cons,AVs.ofList,CVs];refine⟨c1,c2,rfl, ?_,ZgX hF hF1 vs l c2 h.2 h2 (by grind)⟩;have hb:=h.1
  cases v with
  |ptr id p=>
   cases p with
   |nil=>
    simp only[AV.box?]at hb
    cases hFn:F n with
    |ptr id' p' =>
     cases p' with
     |nil=>
      rw[hFn]at hb;simp only at hb;have:=Ve hb;subst this;have hv:=hF n;rw[hFn]at hv;obtain⟨_,o,t,b,h3,h4,h5⟩:=hv.ptr;simp only[CV]at h1;obtain⟨_,o',t',b',h6,h7,h8⟩:=h1;rw[h3]at h6;cases h6;rw[h4]at h7;cases h7;have h9:=(hF1 n (by grind)).1;rw[h5]at h9;rw[h8]
      assumption
     |cons a p' =>grind
    |_=>grind
   |cons a p=>simp [AV.box?]at hb
  |_=>simp [AV.box?]at hb
theorem Zis{w w1:World}{g g1:Gh}{F F1:Nat->AV}{tmps:Array Value}(hF:Fr w g F tmps)(hF1:Fr w1 g1 F1 tmps)(hnt: ∀k m,F1 k= .tup m-> ∀id,F k≠ .ptr id []): ∀ (l:List (Nat×FuncId×List Nat)),ZlW F l=true->Fr w1 g1 (ZkS F1 l) tmps
 | [],_=>hF1
 | (n,f,l)::m,h=>by
  simp only[ZlW,Vb]at h;simp only[ZkS];refine(Zis hF hF1 hnt m h.2).upd ?_;have hb:=h.1;have hv:=hF n;split at hb
  ·rename_i f' caps hFn;simp only[Vb]at hb;have:=Ve hb.1;subst this;rw[hFn]at hv;obtain⟨cc,h1,h2⟩:=hv.fn;rw[h1];refine⟨?_, .inr rfl⟩;simp only[CV]
   have hboxes: ∀ (caps:AVs) (l:List Nat),Zdp F caps l=true-> ∀n∈l, ∃id,F n= .ptr id []:=by
    intro caps l
    induction l generalizing caps with
    |nil=>simp
    |cons k l ih=>
     intro h n hn
     cases caps with
     |nil=>simp [Zdp]at h
     |cons v vs=>
      simp only[Zdp,Vb]at h;rcases Vk.1 hn with rfl|hn
      ·have hb:=h.1
       cases hFn:F n with
       |ptr id p=>
        cases p with
        |nil=>simp
        |cons a p=>rw[hFn]at hb;cases hv:v.box? <;>simp [AV.box?]at hb
       |_=>rw[hFn]at hb;cases hv:v.box? <;>simp [AV.box?]at hb
      grind
   exact⟨cc,by rfl,ZgX hF (fun k hk=>(hF1 k).to1 hk) caps l cc hb.2 h2 (by grind)⟩
  grind
theorem ZnH{w:World}{g:Gh}{x y:AV}{u v:Value}(hx:VR w g x u)(hy:VR w g y v)(h:ZmU x y=true):u=v:=by
 unfold ZmU at h;split at h
 ·have:=Ve h;subst this;rw[hx.vw.2,hy.vw.2]
 ·have:=Ve h;subst this;obtain⟨_,b,h1,rfl⟩:=hx.mp;obtain⟨_,b',h2,rfl⟩:=hy.mp
  grind
 ·have:=Ve h;subst this;obtain⟨_,o,t,b,h1,h2,rfl⟩:=hx.ptr;obtain⟨_,o',t',b',h3,h4,rfl⟩:=hy.ptr
  grind
 ·rw[hx.nils,hy.nils]
 grind
theorem Zi1{w w1:World}{g g1:Gh}{F F1:Nat->AV}{tmps:Array Value}(hF:Fr w g F tmps)(hF1:Fr w1 g1 F1 tmps): ∀ (l:List (Nat×Nat)),ZmW F l=true->Fr w1 g1 (Zkp F1 l) tmps
 | [],_=>hF1
 |p::l,h=>by simp only[ZmW,Vb]at h;simp only[Zkp];refine(Zi1 hF hF1 l h.2).upd ?_;rw[ZnH (hF p.1) (hF p.2) h.1];exact hF1 p.2
theorem ZoE{s s' :AS}{w w' :World}{g g' :Gh}{ow ow' :Nat->Nat->Prop}{a a' :Act}(hs:SR E B s w g ow a)(hs' :SR E' B s' w' g' ow' a')(hnt:E'.nt=E.nt){e:ZfQ}{fz0 fzN:List Nat}{x:ElR e.roots}
  (hk:Lk E' w g a w' g' a') (hks: ∀n∈e.kept,n∈E'.ks) (hH: ∀id∈Zao s e,s'.H id=s.H id) (hD: ∀id∈Zao s e,Zih s.H id=true) (hfz: ∀id∈Zao s e,id∈fz0) (hfN: ∀id∈fzN,id∈Zao s e)
  (h:Zl8 fz0 e s' =some x): ∃g2 ow2,SR E B (Zlr s fzN e x) w' g2 ow2 a' /\g.Le g2/\ZaV g.I w w' /\(∀id∈Zao s e,(Zlr s fzN e x).H id=s.H id)/\ ∀id,g.K id->g2.slv id=g'.slv id:=by
 unfold Zl8 at h;rw[Acc.runK_eq]at h
 cases hx: (Zpm s'.F e.roots).run s'.H [] with
 |none=>grind
 |some y=>
  obtain⟨⟨x1,ids⟩,rd⟩:=y;rw[hx]at h;simp only[Option.bind_some]at h
  cases hc: (ids.ok fz0&&ZcA ids.br fz0&&ZlW s'.F e.fns&&ZmW s'.F e.als) with
  |false=>grind
  |true=>
   rw[hc]at h;simp only[cond_true,Option.some.injEq]at h;subst h;simp only[Vb]at hc;obtain⟨⟨⟨hok,hbr⟩,hfns⟩,hals⟩:=hc;obtain⟨hnd,hdis,htkf⟩:=Ids.ok_iff hok;have hbrf:=ZbW.1 hbr;obtain⟨js,hpr,hjn,hjo⟩:=Zmp hs'.rh (I:=fun b=>g'.I b\/ZaC s'.H ow' ids.br b) (by grind) hs'.fr e.roots x1 ids [] rd hx (by grind) hnd
   let g1:Gh:= {I:=fun b=>g'.I b\/ZaC s'.H ow' ids.br b,K:=g.K,ty:=g'.ty,blk:=g'.blk,slv:=g'.slv,ver:=g'.ver,row:=g'.row}
   let H1:AH:=fun id=>bif Zdb id (Zao s e) then s.H id else none
   have hH1: ∀id,H1 id≠none->id∈Zao s e/\s'.H id≠none/\H1 id=s.H id/\s'.H id=s.H id:=by
    intro id hid
    have e1:H1 id=bif Zdb id (Zao s e) then s.H id else none:=rfl
    cases hm:Zdb id (Zao s e) with
    |false=>grind
    |true=>
     have hmem:=ZaQ.1 hm
     grind
   have hg1:g.Le g1:=⟨fun b hb=> .inl (hk.le.I b hb),fun _ h=>h,fun id hid=>hk.le.ty id hid,fun id hid=>hk.le.blk id hid,fun id hid=>hk.le.slv id hid,fun id hid=>hk.le.ver id hid,fun id hid=>hk.le.row id hid⟩
   have hR1:RH B H1 w' g1 ow' := {
    objs:=fun id o ho=>by obtain⟨hmem,hne,h1,h2⟩:=hH1 id (by grind);have hso:s.H id=some o:=h1.symm.trans ho;have hso' :s'.H id=some o:=h2.trans hso;exact⟨(hs.rh.objs id o hso).1,Zmb hso (hD id hmem) (fun b hb=> .inl hb) rfl rfl rfl rfl rfl (hs'.rh.objs id o hso').2⟩
    dist:=fun id id' b h1 h2 h3 h4=>hs'.rh.dist id id' b (by grind) (by grind) h3 h4
    sep:=fun id b h1 h2=>by
     obtain⟨hmem,hne,_⟩:=hH1 id h1;obtain⟨h3,h4,h5⟩:=hs'.rh.sep id b hne h2;refine⟨fun hI=> ?_,h4,h5⟩;rcases hI with hI| ⟨id',h6,h7,h8⟩
     ·grind
     ·have:=hs'.rh.dist id id' b hne h7 h2 h8
      grind
    ilt:=fun b hb=>by
     rcases hb with hb| ⟨id,_,h1,h2⟩
     ·exact hs'.rh.ilt b hb
     ·exact(hs'.rh.sep id b h1 h2).2.1
    inew:=fun b hb=>by
     rcases hb with hb| ⟨id,_,h1,h2⟩
     ·exact hs'.rh.inew b hb
     ·exact .inr (hs'.rh.sep id b h1 h2).2.2
    os:=hs'.rh.os
    tape:=hs'.rh.tape
    output:=hs'.rh.output
    size:=hs'.rh.size
    kept:=hs'.rh.kept}
   have hfree:ZfC B H1 w' g1 ow' js:=⟨hjn,fun b hb=>by
    obtain⟨id,h1,h2,h3⟩:=hjo b hb;obtain⟨h4,h5,h6⟩:=hs'.rh.sep id b h2 h3;refine⟨fun hI=> ?_,h5,h6,fun id' h7 h8=> ?_⟩
    ·rcases hI with hI|hI
     ·grind
     ·obtain⟨k,h9,h10⟩:=Zcn hs'.rh hI (hjo b hb)
      grind
    ·obtain⟨hmem,hne,_⟩:=hH1 id' h7;have:=hs'.rh.dist id' id b hne h2 h8 h3
     grind⟩
   obtain⟨g2,ow2,l2,i2,r2,c2,k2,_⟩:=Znq e.roots hR1 x1 js s.nx hpr hfree fun id h1 h2 hK=>by have:=hs.ids id hK;omega
   have hHH: (Zlr s fzN e x1).H=Zad H1 (Zbu (Zek e.roots x1 s.nx).2.1):=by
    funext id;rw[Zev _ _ _ (Zhi _ _ _)]
    show (bif Zdb id (Zao s e) then s.H id else Zdl (Zek e.roots x1 s.nx).2.1 id)=_
    cases hm:Zdb id (Zao s e) with
    |true=>
     have hlt:id<s.nx:=by
      have hd:=hD id (ZaQ.1 hm)
      cases ho:s.H id with
      |none=>unfold Zih at hd;grind
      |some o=>exact hs.ids id (hs.rh.objs id o ho).1
     have hl:Zdl (Zek e.roots x1 s.nx).2.1 id=none:=by
      have hids:=(ZeE e.roots x1 s.nx).2
      have key: ∀l:List (Nat×Zc0),(∀o∈l,s.nx<=o.1)->Zdl l id=none:=by
       intro l
       induction l with
       |nil=>intro _;rfl
       |cons q l ih=>
        intro h;simp only[Zdl]
        have:Vg id q.1=false:=by
         cases hb:Vg id q.1
         ·rfl
         ·have:=Ve hb
          grind
        grind
      grind
     grind
    |false=>
     grind
   have hle:g.Le g2:=hg1.trans l2;have hagr:ZaV g.I w w' :=hk.ag
   have hF0:Fr w' g2 (fun k=>bif Zdb k e.kept then s.F k else Zii (Zek e.roots x1 s.nx).1 k) a'.tmps:=by
    intro k
    show VR w' g2 (bif Zdb k e.kept then s.F k else Zii (Zek e.roots x1 s.nx).1 k) _
    cases hm:Zdb k e.kept with
    |true=>
     simp only[cond_true];rw[hk.ks k (hks k (ZaQ.1 hm))]
     exact(hs.fr k).mono hagr hle
    |false=>
     simp only[cond_false];exact .of1 (Zko _ c2 k)
   refine⟨g2,ow2,⟨by grind, ?_,by rw[hs'.nt,hnt],hs'.df,fun id hid=> ?_,fun id hid=> ?_⟩,hle,hagr,fun id hid=> ?_,fun id hid=>l2.slv id hid⟩
   ·refine Zi1 hs'.fr (Zis hs'.fr hF0 (fun k m hkm id hid=> ?_) e.fns hfns) e.als hals;have hv:=hF0 k
    rw[show (fun k=>bif Zdb k e.kept then s.F k else Zii (Zek e.roots x1 s.nx).1 k) k= .tup m from hkm]at hv
    have hv' :=hs'.fr k;rw[hid]at hv';obtain⟨vs,h1,_⟩:=hv;obtain⟨_,_,_,_,_,_,h2⟩:=hv'.ptr
    grind
   ·show id< (Zek e.roots x1 s.nx).2.2;have:=(ZeE e.roots x1 s.nx).1;rcases k2 id hid with h1|h1
    ·have:=hs.ids id h1;omega
    omega
   ·have hmem:=hfN id hid
    have e1: (Zlr s fzN e x1).H id=s.H id:=by
     show (bif Zdb id (Zao s e) then s.H id else Zdl (Zek e.roots x1 s.nx).2.1 id)=_
     rw[ZaQ.2 hmem];rfl
    exact(ZdX e1).trans (hD id hmem)
   ·show (bif Zdb id (Zao s e) then s.H id else Zdl (Zek e.roots x1 s.nx).2.1 id)=_
    rw[ZaQ.2 hid];rfl
theorem Zka{s:AS}{w:World}{g:Gh}{ow:Nat->Nat->Prop}{tmps:Array Value}(hR:RH B s.H w g ow)(hF:Fr w g s.F tmps){k:Nat×Nat×Nat}{x:Nat}(h:ZlF s k=some x):
  g.K x/\ ∃b cs e,tmps.getD k.1 undef= .pointer (some ⟨b,0,none⟩)/\w.heap[b]? =some (.cells cs e (0,0))/\cs[k.2.2]? =some (g.slv x):=by
 unfold ZlF at h;split at h
 case h_2=>grind
 rename_i id hid;split at h
 case h_2=>grind
 rename_i T c hH;split at h
 case h_2=>grind
 rename_i y hy
 cases hb:Vg (ZoZ T k.2.1) k.2.2 with
 |false=>grind
 |true=>
  rw[hb]at h;simp only[cond_true,Option.some.injEq]at h;subst h;have hoff:=Ve hb;obtain⟨_,_,hf,b,cs,e,hb1,_,hh,_,hcv⟩:=hR.objs id _ hH;simp only[AV.fits]at hf;simp only[CV]at hcv;obtain⟨h1,h2⟩:=Zeb c _ _ _ _ hf hcv hy;have hv:=hF k.1;rw[hid]at hv;obtain⟨_,o,t,b',h3,h4,h5⟩:=hv.ptr;simp only[Zbh,Option.some.injEq,Prod.mk.injEq]at h3
  grind
theorem ZpO{s' s2:AS}{w' :World}{g' g2:Gh}{ow' ow2:Nat->Nat->Prop}{B' :Zbr}{tmps:Array Value}(hR' :RH B' s'.H w' g' ow')(hF' :Fr w' g' s'.F tmps)(hR2:RH B s2.H w' g2 ow2)(hF2:Fr w' g2 s2.F tmps){k:Nat×Nat×Nat}{x y:Nat}(h' :ZlF s' k=some x)(h2:ZlF s2 k=some y):
  g2.slv y=g'.slv x:=by
 obtain⟨_,b,cs,e,h3,h4,h5⟩:=Zka hR' hF' h';obtain⟨_,b2,cs2,e2,h6,h7,h8⟩:=Zka hR2 hF2 h2
 grind
theorem ZqO{b:AS}{fz:List Nat}{k:Nat×Nat×Nat}{s:AS}{i:Nat}(hi:i∈fz): (ZoT b fz k s).H i=s.H i:=by
 unfold ZoT;split
 case h_2=>rfl
 rename_i x y id hx hy hid;split
 case h_2=>rfl
 rename_i T c t xs t0 xs0 hH hHy hHx;generalize hc: (t0==t&& !Vg y id&& !Vg x id&& !Zdb x fz&& !Zdb y fz&& !Zdb id fz)=cc
 cases cc with
 |false=>rfl
 |true=>
  simp only[Vb,Vl]at hc;obtain⟨⟨⟨_,h3⟩,h4⟩,h5⟩:=hc;have m3:i≠x:=fun e=>by rw[<-e,ZaQ.2 hi]at h3;grind
  have m4:i≠y:=fun e=>by rw[<-e,ZaQ.2 hi]at h4;grind
  have m5:i≠id:=fun e=>by rw[<-e,ZaQ.2 hi]at h5;grind
  show Zbl (Zbl (Zbl (Zbl s.H y none) id none) x _) id _ i=s.H i;rw[Zat m5,Zat m3,Zat m5,Zat m4]
theorem ZoV{b:AS}{fz:List Nat}{i:Nat}(hi:i∈fz): ∀ (l:List (Nat×Nat×Nat)) (s:AS),(Zpe b fz l s).H i=s.H i
 | [],_=>rfl
 |_::l,_=>(ZoV hi l _).trans (ZqO hi)
theorem Zk2{b:AS}{fz:List Nat}{e:ZfQ}{x:ElR e.roots}{id:Nat}(hid:id∈Zao b e): (Zjg b fz e x).H id=b.H id:=by
 refine(ZoV hid e.kf _).trans ?_
 show (bif Zdb id (Zao b e) then b.H id else _)=_
 rw[ZaQ.2 hid];rfl
theorem Zp8{s s' s2:AS}{w w' :World}{g g' g2:Gh}{ow ow' ow2:Nat->Nat->Prop}{B0 B' :Zbr}{tmps0 tmps:Array Value}(hR:RH B0 s.H w g ow)(hF:Fr w g s.F tmps0)(hR' :RH B' s'.H w' g' ow')(hF' :Fr w' g' s'.F tmps)(hle:g.Le g2)(hsl: ∀id,g.K id->g2.slv id=g'.slv id)
  {k:Nat×Nat×Nat} (hk: (match ZlF s k,ZlF s' k with|some x,some y=>Vg x y|_,_=>false)=true) {fz:List Nat} (hR2:RH B s2.H w' g2 ow2) (hF2:Fr w' g2 s2.F tmps):
  (∃ow3,RH B (ZoT s fz k s2).H w' g2 ow3)/\(ZoT s fz k s2).F=s2.F/\(ZoT s fz k s2).fz=s2.fz/\(ZoT s fz k s2).nx=s2.nx:=by
 have same: (∃ow3,RH B s2.H w' g2 ow3)/\s2.F=s2.F/\s2.fz=s2.fz/\s2.nx=s2.nx:=⟨⟨ow2,hR2⟩,rfl,rfl,rfl⟩;unfold ZoT;split
 case h_2=>omega
 rename_i x y id hx hy hid;split
 case h_2=>omega
 rename_i T c t xs t0 xs0 hH hHy hHx;generalize hc: (t0==t&& !Vg y id&& !Vg x id&& !Zdb x fz&& !Zdb y fz&& !Zdb id fz)=cc
 cases cc with
 |false=>grind
 |true=>
  simp only[cond_true];simp only[Vb,Vl,beq_iff_eq]at hc;obtain⟨⟨⟨⟨⟨rfl,h1⟩,h2⟩,h3⟩,h4⟩,h5⟩:=hc;have n1:y≠id:=by grind
  have n2:x≠id:=fun e=>by simp_all
  have m3:x ∉ fz:=fun h=>by rw[ZaQ.2 h]at h3;grind
  have m4:y ∉ fz:=fun h=>by rw[ZaQ.2 h]at h4;grind
  have m5:id ∉ fz:=fun h=>by rw[ZaQ.2 h]at h5;grind
  have hn:c.nth k.2.1=some (.vw y):=by
   have hy' :=hy;unfold ZlF at hy'
   grind
  have hx' :ZlF s' k=some x:=by
   rw[hx]at hk
   cases hz:ZlF s' k with
   |none=>grind
   |some z=>simp_all
  have hKx:=(Zka hR hF hx).1;have hslv:g2.slv x=g2.slv y:=by rw[ZpO hR' hF' hR2 hF2 hx' hy,hsl x hKx]
  obtain⟨_,hty,hvec0⟩:=hR.objs x _ hHx
  obtain⟨ow3,h6⟩:=Zf7 hR2 hH hn hHy (hle.K x hKx) hslv ((hle.ty x hKx).trans hty) (by
   rw[hle.blk x hKx,hle.slv x hKx]
   grind) n1 n2
  grind
theorem ZmS{s s' :AS}{w w' :World}{g g' g2:Gh}{ow ow' :Nat->Nat->Prop}{B0 B' :Zbr}{tmps0 tmps:Array Value}(hR:RH B0 s.H w g ow)(hF:Fr w g s.F tmps0)(hR' :RH B' s'.H w' g' ow')(hF' :Fr w' g' s'.F tmps)(hle:g.Le g2)(hsl: ∀id,g.K id->g2.slv id=g'.slv id){fz:List Nat} :
  ∀ (l:List (Nat×Nat×Nat)) {s2:AS}{ow2:Nat->Nat->Prop},ZqT s s' l=true->RH B s2.H w' g2 ow2->Fr w' g2 s2.F tmps->
  (∃ow3,RH B (Zpe s fz l s2).H w' g2 ow3)/\(Zpe s fz l s2).F=s2.F/\(Zpe s fz l s2).fz=s2.fz/\(Zpe s fz l s2).nx=s2.nx
 | [],s2,ow2,_,hR2,_=>⟨⟨ow2,hR2⟩,rfl,rfl,rfl⟩
 |k::l,s2,ow2,h,hR2,hF2=>by simp only[ZqT,Vb]at h;obtain⟨⟨ow3,h1⟩,h2,h3,h4⟩:=Zp8 (k:=k) (fz:=fz) hR hF hR' hF' hle hsl h.1 hR2 hF2;obtain⟨h6,h7,h8,h9⟩:=ZmS hR hF hR' hF' hle hsl l (s2:=ZoT s fz k s2) h.2 h1 (by grind);exact⟨h6,h7.trans h2,h8.trans h3,h9.trans h4⟩
theorem Zkd{b:AS}{w:World}{g:Gh}{tmps:Array Value} : ∀ (l:List Nat) {F:Nat->AV},(∀n∈l,VR w g (b.F n) (tmps.getD n undef))->Fr w g F tmps->Fr w g (ZpT b l F) tmps
 | [],_,_,h=>h
 |n::l,F,hv,h=>Zkd l (by grind) (h.upd (by grind))
theorem Zgt{s s' :AS}{w w' :World}{g g' :Gh}{ow ow' :Nat->Nat->Prop}{a a' :Act}(hs:SR E B s w g ow a)(hs' :SR E' B s' w' g' ow' a')(hnt:E'.nt=E.nt){e:ZfQ}{fz0 fzN:List Nat}{x:ElR e.roots}
  (hk:Lk E' w g a w' g' a') (hks: ∀n∈e.kept,n∈E'.ks) (hkv: ∀n∈e.kv,n∈E'.ks) (hH: ∀id∈Zao s e,s'.H id=s.H id) (hD: ∀id∈Zao s e,Zih s.H id=true) (hfz: ∀id∈Zao s e,id∈fz0) (hfN: ∀id∈fzN,id∈Zao s e)
  (h:ZfH s fz0 e s' =some x): ∃g2 ow2,SR E B (Zjg s fzN e x) w' g2 ow2 a' /\g.Le g2/\ZaV g.I w w' /\ ∀id∈Zao s e,(Zjg s fzN e x).H id=s.H id:=by
 unfold ZfH at h
 cases hkf:ZqT s s' e.kf with
 |false=>grind
 |true=>
  rw[hkf]at h;simp only[cond_true]at h;obtain⟨g2,ow2,hs2,h1,h2,h3,h4⟩:=ZoE hs hs' hnt hk hks hH hD hfz hfN h;obtain⟨⟨ow3,r1⟩,r2,r3,r4⟩:=ZmS (fz:=Zao s e) hs.rh hs.fr hs'.rh hs'.fr h1 h4 e.kf hkf hs2.rh hs2.fr;refine⟨g2,ow3,⟨r1, ?_,hs2.nt,hs2.df,fun id hid=> ?_,fun id hid=> ?_⟩,h1,h2,fun id hid=>Zk2 hid⟩
  ·refine Zkd e.kv (fun n hn=> ?_) (by rw[r2];exact hs2.fr);rw[hk.ks n (hkv n hn)];exact(hs.fr n).mono h2 h1
  ·show id< (Zpe s (Zao s e) e.kf (Zlr s fzN e x)).nx;rw[r4];exact hs2.ids id hid
  ·have hm:=hfN id hid;exact(ZdX (Zk2 hm)).trans (hD id hm)
def Zo8:Ex->Exit
 | .normal=> .normal
 | .exit id=> .exit id
 | .ret=> .ret
 | .jump l=> .goto l
theorem Ex.beq_eq{x y:Ex}(h:x.beq y=true):x=y:=by
 cases x<;>cases y<;>simp [Ex.beq]at h
 all_goals grind
theorem ZfX{ρ:Type}{b s' :AS}{fz:List Nat}{k:Ex->AS->Option ρ}{r:ρ}{x:Ex} : ∀ (J:ZfI) (o:Zei J),Zeg b fz J x s' =some o->Zel b J o k=some r-> ∃f∈J,x=f.1/\ ∃y,ZfH b fz f.2 s' =some y/\k x (Zjg b b.fz f.2 y)=some r
 | [],o,h,_=>by grind
 | [f],o,h,hu=>by
  simp only[Zeg]at h
  cases hb:x.beq f.1 with
  |false=>grind
  |true=>
   rw[hb]at h;have:=Ex.beq_eq hb;simp only[Zel]at hu
   grind
 |f::f2::l,o,h,hu=>by
  simp only[Zeg]at h
  cases hb:x.beq f.1 with
  |true=>
   rw[hb]at h;simp only[cond_true,Va,Option.some.injEq]at h;obtain⟨y,hy,rfl⟩:=h;have:=Ex.beq_eq hb;simp only[Zel]at hu
   grind
  |false=>
   rw[hb]at h;simp only[cond_false,Va,Option.some.injEq]at h;obtain⟨y,hy,rfl⟩:=h;simp only[Zel]at hu;obtain⟨f',h1,h2⟩:=ZfX (f2::l) y hy hu
   grind
theorem Zff{e:ZfQ} : ∀ {J:ZfI},Zb0 e J=true-> ∀f∈J, ∀n∈f.2.kept,n∈e.kept
 | [],_,f,hf=>by grind
 |q::l,h,f,hf=>by
  simp only[Zb0,Vb]at h;rcases Vk.1 hf with rfl|hf
  ·exact fun n hn=>ZaQ.1 (by grind)
  ·exact Zff h.2 f hf
theorem ZgY{e:ZfQ} : ∀ {J:ZfI},Zb0 e J=true-> ∀f∈J, ∀n∈f.2.kv,n∈e.kv
 | [],_,f,hf=>by grind
 |q::l,h,f,hf=>by
  simp only[Zb0,Vb]at h;rcases Vk.1 hf with rfl|hf
  ·exact fun n hn=>ZaQ.1 (by grind)
  ·exact ZgY h.2 f hf
def ZgL(E:Env)(B:Zbr)(s:AS)(w:World)(g:Gh)(a:Act){ρ:Type}(k:Ex->AS->Option ρ)(r:ρ):Exit->Act->World->Prop:=fun e a' w' =>
 ∃x s' g' ow',Zo8 x=e/\SR E B s' w' g' ow' a' /\Ln E s w g a s' w' g' a' /\k x s' =some r
theorem ZgL.out{s s1:AS}{w w1:World}{g g1:Gh}{ow ow1:Nat->Nat->Prop}{a a1:Act}{en:ZfQ}{J:ZfI}{ρ:Type}{k:Ex->AS->Option ρ}{r:ρ}(hs:SR E B s w g ow a)(hkept:ZdA s en.kept=true)(hJ:Zb0 en J=true)
  (hl:Lk (Zbn E en) w g a w1 g1 a1) (hs1:SR (Zbn E en) B s1 w1 g1 ow1 a1) (hH: ∀id∈Zao s en,s1.H id=s.H id) {x:Ex}{o:Zei J} (ho:Zeg s (Zao s en) J x s1=some o) (hu:Zel s J o k=some r):ZgL E B s w g a k r (Zo8 x) a1 w1:=by
 obtain⟨f,hf,hx,y,hy,hk⟩:=ZfX J o ho hu
 have hsub: ∀id∈Zao s f.2,id∈Zao s en:=fun id hid=>by
  rcases Vf.1 hid with h|h
  ·exact Vc _ (Zik (Zff hJ f hf) id h)
  ·exact Vd _ h
 have hks: ∀n∈f.2.kept,n∈(Zbn E en).ks:=fun n hn=>Vc _ (Zff hJ f hf n hn);obtain⟨g2,ow2,h1,h2,h3,h4⟩:=Zgt (E' :=Zbn E en) hs hs1 rfl (fzN:=s.fz) hl hks (fun n hn=>Vd _ (Vc _ (ZgY hJ f hf n hn))) (by grind) (fun id hid=>ZeJ hkept hs.fz id (hsub id hid)) hsub (fun id hid=>Vd _ hid) hy;exact⟨x,_,g2,ow2,rfl,h1,⟨⟨h2,h3,fun t ht=>hl.ks t (Vd _ (Vd _ ht))⟩,rfl,fun id hid=>h4 id (Vd _ hid)⟩,hk⟩
theorem SR.kept{s:AS}{w:World}{g:Gh}{ow:Nat->Nat->Prop}{a:Act}(hs:SR E B s w g ow a){e:ZfQ}(hk:ZdA s e.kept=true):SR (Zbn E e) B {s with fz:=Zao s e} w g ow a:=
 ⟨hs.rh,hs.fr,hs.nt,hs.df,hs.ids,fun id hid=>ZeJ hk hs.fz id hid⟩
theorem Zah.kept(h:Zah P E)(e:ZfQ):Zah P (Zbn E e):=⟨h.ty,h.mty,h.pk,h.pz,h.bd⟩
theorem Zbg.kept(h:Zbg P E B)(e:ZfQ):Zbg P (Zbn E e) B:=⟨h.ok,h.amb,h.pl,h.inl⟩
theorem ZeX{c:Code}{Q:Exit->Act->World->Prop}(Inv:Nat->Act->World->Prop){n:Nat}{a:Act}{w:World}(h0:Inv n a w)
  (round: ∀n a w,Inv n a w->c.wp P (Exit.then (fun a' w' => ∃m,m<n/\Inv m a' w') Q) a w): (Code.loop c).wp P Q a w:=by
 classical
 have hex: ∀a w,(∃n,Inv n a w)-> ∃n,Inv n a w/\ ∀m,Inv m a w->n<=m:=by
  intro a w ⟨n,hn⟩
  induction n using Nat.strongRecOn with
  |_ n ih=>
   grind
 refine wp_loop (fun a w=> ∃n,Inv n a w) (fun a w=>if h: ∃n,Inv n a w then(hex a w h).choose else 0) ⟨n,h0⟩ fun a w hI=> ?_
 have hsp:=(hex a w hI).choose_spec;refine wp_mono (round _ a w hsp.1) fun e a' w' hq=> ?_
 cases e with
 |normal=>
  obtain⟨m,hm,hi⟩:=hq;refine⟨⟨m,hi⟩, ?_⟩;simp only[dif_pos hI,dif_pos (show∃n,Inv n a' w' from ⟨m,hi⟩)]
  grind
 |_=>assumption
theorem ZkF{σ τ:Type}{step:σ->Option (σ ⊕ τ)}{s:σ}{r:τ}(h:run step s=some r): ∃n,ZgN step n s=some r:=by
 unfold run at h;split at h
 ·grind
 split at h
 all_goals grind
theorem ZjI{it id:Nat}{s:AS}{kt vt:Ty}{rest:List (El kt×El vt)}{cur:Option (El kt×El vt)}(h1:s.F it= .ptr id [])(h2:s.H id=some (.rng kt vt rest cur)):ZeK it s=bif rest.isEmpty then 1 else rest.length:=by unfold ZeK;grind
theorem Zg9(it:Nat)(s:AS):0<ZeK it s:=by
 unfold ZeK
 grind
theorem Zn8(hT:Zah P E)(hS:Zbg P E B){ops:Array Oper}{s:AS}{w:World}{g:Gh}{ow:Nat->Nat->Prop}{a:Act}(hs:SR E B s w g ow a){id it:Nat}{ρ:Type}{k:AS->Option ρ}
  (h: ∀i,i<ZeK it s-> ∃r,Zj4 E ops it i ρ s k=some r):
  (Code.region id ops false).wp P (fun e a' w' => ∃i s' g' ow' r,i<ZeK it s/\e= .normal/\SR E B s' w' g' ow' a' /\Ln E s w g a s' w' g' a' /\Zj4 E ops it i ρ s k=some r/\k s' =some r) a w:=by
 obtain⟨r0,hr0⟩:=h 0 (Zg9 it s);have hr0' :=hr0;unfold Zj4 at hr0;split at hr0
 ·grind
 ·rename_i o i0 l hz
  have hops:ops[0]? =some o/\i0=0:=by
   have:ops.toList.zipIdx[0]? =some (o,i0):=by grind
   grind
  obtain⟨ho0,rfl⟩:=hops;split at hr0
  ·rename_i it' d hop hgd hdst
   cases hc: (Vg it' it&&ZdG E (some d)) with
   |false=>grind
   |true=>
    rw[hc]at hr0;simp only[cond_true]at hr0;simp only[Vb]at hc;obtain⟨hit,hdk⟩:=hc;have hit:=Ve hit;subst hit;split at hr0
    ·rename_i rid hF;split at hr0
     ·rename_i kt vt rest cur hH
      have step: ∃i v val w' H1,i<ZeK it' s/\(execOp a.eval o).run P w= .ok (.value val) w' /\RH B H1 w' g ow/\ZaV g.I w w' /\VR w' g v val/\(∀id∈s.fz,H1 id=s.H id)/\
        Zj4 E ops it' i ρ s k=Zep E ops s.nx s.fz ρ l (ZeA s.F (some d) v) H1 [] fun F H _=>k ⟨F,H,s.nx+ops.size*E.stp,s.fz⟩:=by
       have hm:Zdb rid s.fz=false:=by
        grind
       cases rest with
       |nil=>
        obtain⟨h1,h2⟩:=Zkz (P:=P) hs.rh hs.fr hop hF hH;refine⟨0,_,_,w,s.H,Zg9 _ _,h1,hs.rh,fun _ _=>rfl,h2,by simp, ?_⟩
        grind
       |cons e0 r0=>
        obtain⟨i,kv,val,w',h1,h2,h3,h4,h5,h6⟩:=Zot hs.rh hs.fr hop hF hH (by simp);refine⟨i,_,val,w',_,by rw[ZjI hF hH];grind,h3,h4,h5,h6, ?_, ?_⟩
        ·intro id hid;refine Zat fun e=> ?_;subst e;rw[ZaQ.2 hid]at hm
         grind
        ·unfold Zj4
         grind
      obtain⟨i,v,val,w',H1,hi,hrun,hR1,hag,hv,hfz,hK⟩:=step;obtain⟨r,hr⟩:=h i hi;rw[hK]at hr;obtain⟨F',H',tr',hae,hk⟩:=Zd3 hr
      have hnd: (l.map Vj).Nodup/\(∀p∈l,ops[p.2]? =some p.1)/\List.range ops.size=0::l.map Vj:=by
       have h1:ops.toList.zipIdx.map Vj=0::l.map Vj:=by grind
       rw[ZjP]at h1;refine⟨?_,fun p hp=> ?_,h1⟩
       ·have:=Vm (n:=ops.size)
        grind
       grind
      have hex:=hae.ex hnd.1 hnd.2.1 (fun _ _=>rfl)
      have h0l:0 ∉ l.map Vj:=by
       have:=Vm (n:=ops.size)
       grind
      refine wp_region ?_;rw[hnd.2.2,wpOps_cons];unfold wpOp;rw[ho0];simp only;rw[Zfm (ops:=ops) (b:=true) hs.fr (by simp [Zbz,hgd])];simp only[if_true];refine .inl ?_;unfold Oper.wp;rw[hrun]
      have hdlt: ∀e,o.dst=some e->e<a.tmps.size:=fun e he=>by rw[hdst]at he;cases he;rw[hs.nt];exact(Zd6 hdk).1
      have hI:RI E B s.nx (fun _=>False) (ZeA s.F (some d) v) H1 w' (a.put o.dst val) g ow (fun j=>j=0):=⟨hR1,by
       have:=(hs.fr.mono hag (.refl g)).put (d:=o.dst) hv hdlt
       grind,Zh3.trans hs.nt,Zfe.trans hs.df,fun id hid=> .inl (.inl (hs.ids id hid))⟩
      show wpOps P ops _ (l.map Vj) (a.put o.dst val) w';refine ZhA hT hS hex hnd.1 (by grind) (fun _ h=>h.elim) hI fun a' w2 g' ow' hI' hl=> ?_;refine⟨i,⟨F',H',s.nx+ops.size*E.stp,s.fz⟩,g',ow',r,hi,rfl,⟨hI'.rh,hI'.fr,hI'.nt,hI'.df,fun id hid=> ?_,fun id hid=> ?_⟩,⟨⟨hl.le,hag.trans hl.ag fun _ h=>h,fun t ht=> ?_⟩,rfl,fun id hid=> ?_⟩,hK.trans hr,hk⟩
      ·have hpos:0<ops.size:=by grind
       rcases hI'.ids id hid with (h1|h1) | ⟨j,h1,h2,h3⟩
       ·exact Nat.lt_of_lt_of_le h1 (Nat.le_add_right _ _)
       ·exact h1.elim
       ·have hj:j<ops.size:=by
         grind
        show id<s.nx+ops.size*E.stp;exact ZkU hj h3
      ·exact(ZdX ((hae.keptH id hid).trans (hfz id hid))).trans (hs.fz id hid)
      ·rw[hl.ks t ht,hdst];refine Zhw fun e he hte=> ?_;cases he;exact(Zd6 hdk).2 (hte▸ht)
      ·exact(hae.keptH id hid).trans (hfz id hid)
     grind
    grind
  grind
theorem ZiZ{σ τ ρ:Type}{cnt:σ->Nat}{step:σ->Nat->Option (σ ⊕ τ)}{k:τ->Option ρ}{s:σ}{z:ρ}(h:drun cnt step k s=some z): ∃n,Zlb cnt step k z n s:=by
 have hfix: ∀ (n:Nat) (s:σ) (z:ρ),ZqC cnt step k n s=some z->Zlb cnt step k z n s:=by
  intro n
  induction n with
  |zero=>intro s z h;simp [ZqC]at h
  |succ n ih=>
   intro s z h i hi;simp only[ZqC]at h
   cases hb:Nat.ble (cnt s) 1 with
   |false=>grind
   |true=>
    have hb' :=Nat.le_of_ble_eq_true hb
    grind
 unfold drun at h;split at h
 ·grind
 split at h
 all_goals grind
theorem Zbb(hm:P.follows .mixedOrders=true): ∀ (c:Code) (h:ZfT) (E:Env) (ρ:Type) (s:AS) (k:Ex->AS->Option ρ) (r:ρ),Zah P E->Zbg P E B->Zbd c h E ρ s k=some r->
  ∀ {w:World}{g:Gh}{ow:Nat->Nat->Prop}{a:Act},SR E B s w g ow a->c.wp P (ZgL E B s w g a k r) a w
 | .skip,_,E,ρ,s,k,r,_,_,h,w,g,ow,a,hs=>by
  simp only[Zbd]at h
  exact wp_skip ⟨.normal,s,g,ow,rfl,hs, .refl s w g a,h⟩
 | .region id ops draw,hint,E,ρ,s,k,r,hT,hS,h,w,g,ow,a,hs=>by
  simp only[Zbd]at h;refine wp_mono (ZlO hm hT hS hs h) ?_;rintro e a' w' ⟨s',g',ow',rfl,h1,h2,h3⟩
  exact⟨.normal,s',g',ow',rfl,h1,h2,h3⟩
 | .seq x y,hint,E,ρ,s,k,r,hT,hS,h,w,g,ow,a,hs=>by
  simp only[Zbd]at h;refine wp_seq (wp_mono (Zbb hm x hint.l E ρ s _ r hT hS h hs) ?_);rintro e a' w' ⟨ex,s',g',ow',rfl,h1,h2,h3⟩
  cases ex with
  |normal=>
   refine wp_mono (Zbb hm y hint.r E ρ s' k r hT hS h3 h1) ?_;rintro e a2 w2 ⟨ex2,s2,g2,ow2,rfl,h4,h5,h6⟩
   exact⟨ex2,s2,g2,ow2,rfl,h4,h2.trans h5,h6⟩
  |exit id=>exact⟨.exit id,s',g',ow',rfl,h1,h2,h3⟩
  |ret=>exact⟨.ret,s',g',ow',rfl,h1,h2,h3⟩
  |jump l=>exact⟨.jump l,s',g',ow',rfl,h1,h2,h3⟩
 | .cond c x y,hint,E,ρ,s,k,r,hT,hS,h,w,g,ow,a,hs=>by
  simp only[Zbd]at h;split at h
  ·rename_i t ht;have hv:=hs.fr.eval c;rw[ht]at hv;refine wp_cond hv.bool ?_
   cases hj:hint.join with
   |none=>
    rw[hj]at h
    cases t with
    |true=>exact Zbb hm x hint.l E ρ s k r hT hS h hs
    |false=>exact Zbb hm y hint.r E ρ s k r hT hS h hs
   |some eJ=>
    obtain⟨e,J⟩:=eJ;rw[hj]at h;simp only at h
    cases hc: (ZdA s e.kept&&Zb0 e J) with
    |false=>grind
    |true=>
     rw[hc]at h;simp only[cond_true]at h;simp only[Vb]at hc;rw[Va]at h;obtain⟨o,ho,hu⟩:=h
     have fin: ∀ (z:Code) (hz:ZfT),Zbd z hz (Zbn E e) (Zei J) {s with fz:=Zao s e} (Zeg s (Zao s e) J)=some o->(∀ {w:World}{g:Gh}{ow:Nat->Nat->Prop}{a:Act},SR (Zbn E e) B {s with fz:=Zao s e} w g ow a->z.wp P (ZgL (Zbn E e) B {s with fz:=Zao s e} w g a (Zeg s (Zao s e) J) o) a w)->z.wp P (ZgL E B s w g a k r) a w:=by intro z hz _ ih;refine wp_mono (ih (hs.kept hc.1)) ?_;rintro e' a' w' ⟨ex,s',g',ow',rfl,h1,h2,h3⟩;exact ZgL.out hs hc.1 hc.2 h2.lk h1 h2.hz h3 hu
     cases t with
     |true=>exact fin x hint.l ho (Zbb hm x hint.l (Zbn E e) _ _ _ o (hT.kept e) (hS.kept e) ho)
     |false=>exact fin y hint.r ho (Zbb hm y hint.r (Zbn E e) _ _ _ o (hT.kept e) (hS.kept e) ho)
  grind
 | .block id c,hint,E,ρ,s,k,r,hT,hS,h,w,g,ow,a,hs=>by
  simp only[Zbd]at h;refine wp_block (wp_mono (Zbb hm c hint E ρ s _ r hT hS h hs) ?_);rintro e a' w' ⟨ex,s',g',ow',rfl,h1,h2,h3⟩
  cases ex with
  |normal=>exact⟨.normal,s',g',ow',rfl,h1,h2,h3⟩
  |exit i=>
   simp only at h3;simp only[Zo8,Exit.inBlock]
   cases hb:Vg i id with
   |true=>
    rw[hb]at h3;rw[if_pos (Ve hb)]
    exact⟨.normal,s',g',ow',rfl,h1,h2,h3⟩
   |false=>
    rw[hb]at h3;rw[if_neg fun e=>by simp_all]
    exact⟨.exit i,s',g',ow',rfl,h1,h2,h3⟩
  |ret=>exact⟨.ret,s',g',ow',rfl,h1,h2,h3⟩
  |jump l=>exact⟨.jump l,s',g',ow',rfl,h1,h2,h3⟩
 | .loop c,hint,E,ρ,s,k,r,hT,hS,h,w,g,ow,a,hs=>by
  cases hint with
  |all n=>
   simp only[Zbd]at h;refine ZeX (fun m a' w' => ∃s' g' ow',Zqr (fun s k=>Zbd c (.all n) E ρ s k) k m s' =some r/\SR E B s' w' g' ow' a' /\Ln E s w g a s' w' g' a') (n:=n) ⟨s,g,ow,h,hs, .refl s w g a⟩ ?_;rintro m a' w' ⟨s',g',ow',hit,hsr,hln⟩
   cases m with
   |zero=>simp [Zqr]at hit
   |succ m=>
    simp only[Zqr]at hit;refine wp_mono (Zbb hm c (.all n) E ρ s' _ r hT hS hit hsr) ?_;rintro e a2 w2 ⟨ex,s2,g2,ow2,rfl,h1,h2,h3⟩
    cases ex with
    |normal=>exact⟨m,Vi m,s2,g2,ow2,h3,h1,hln.trans h2⟩
    |exit i=>exact⟨.exit i,s2,g2,ow2,rfl,h1,hln.trans h2,h3⟩
    |ret=>exact⟨.ret,s2,g2,ow2,rfl,h1,hln.trans h2,h3⟩
    |jump l=>exact⟨.jump l,s2,g2,ow2,rfl,h1,hln.trans h2,h3⟩
  |lp en J hb=>
   simp only[Zbd]at h
   cases hc: (ZdA s en.kept&&Zb0 en J&&Zdc en.slots) with
   |false=>grind
   |true=>
    rw[hc]at h;simp only[cond_true,Va]at h;simp only[Vb]at hc;obtain⟨x,hx,o,hrun,hu⟩:=h;obtain⟨n,hn⟩:=ZkF hrun;have hsub: ∀id∈Zao s en,id∈Zao s en:=fun _ h=>h;have hDk:=ZeJ hc.1.1 hs.fz;have start:=Zgt (E:=Zbn E en) (E' :=Zbn E en) (s' :=s) (fz0:=Zao s en) (fzN:=Zao s en) ⟨hs.rh,hs.fr,hs.nt,hs.df,hs.ids,hs.fz⟩ ⟨hs.rh,hs.fr,hs.nt,hs.df,hs.ids,hs.fz⟩ rfl (.refl w g a) (fun n hn=>Vc _ hn) (fun n hn=>Vd _ (Vc _ hn)) (by simp) hDk hsub hsub hx;obtain⟨g1,ow1,s1,le1,_,hz1⟩:=start
    refine ZeX (fun n a' w' => ∃y g' ow',ZgN (fun y=>Zbd c hb (Zbn E en) (ElR en.roots ⊕ Zei J) (Zjg s (Zao s en) en y) fun e s' =>match e with
     | .normal=>(ZfH s (Zao s en) en s').bind fun z=>some (.inl z)
     |e=>(Zeg s (Zao s en) J e s').bind fun z=>some (.inr z)) n y=some o/\SR (Zbn E en) B (Zjg s (Zao s en) en y) w' g' ow' a' /\Lk (Zbn E en) w g a w' g' a') (n:=n) ⟨x,g1,ow1,hn,s1,⟨le1,by omega,by simp⟩⟩ ?_
    rintro n a' w' ⟨y,g',ow',hit,hsr,hlk⟩;have hHy: ∀id∈Zao s en,(Zjg s (Zao s en) en y).H id=s.H id:=fun id hid=>Zk2 hid
    cases n with
    |zero=>simp [ZgN]at hit
    |succ n=>
     simp only[ZgN]at hit;split at hit
     ·rename_i y' hst;refine wp_mono (Zbb hm c hb (Zbn E en) _ _ _ _ (hT.kept en) (hS.kept en) hst hsr) ?_;rintro e a2 w2 ⟨ex,s2,g2,ow2,rfl,h1,h2,h3⟩
      cases ex with
      |normal=>
       simp only[Va,Option.some.injEq,Vn]at h3;obtain⟨z,hz,rfl⟩:=h3;have hl2:=hlk.trans h2.lk;obtain⟨g3,ow3,s3,le3,ag3,_⟩:=Zgt (E:=Zbn E en) (E' :=Zbn E en) (s:=s) (fz0:=Zao s en) (fzN:=Zao s en) ⟨hs.rh,hs.fr,hs.nt,hs.df,hs.ids,hs.fz⟩ h1 rfl hl2 (fun n hn=>Vc _ hn) (fun n hn=>Vd _ (Vc _ hn)) (fun id hid=>(h2.hz id hid).trans (hHy id hid)) hDk hsub hsub hz
       exact⟨n,Vi n,z,g3,ow3,hit,s3,⟨le3,ag3,hl2.ks⟩⟩
      |exit i=>simp only[Va,Option.some.injEq,reduceCtorEq,and_false,exists_false]at h3
      |ret=>simp only[Va,Option.some.injEq,reduceCtorEq,and_false,exists_false]at h3
      |jump i=>simp only[Va,Option.some.injEq,reduceCtorEq,and_false,exists_false]at h3
     ·rename_i o' hst;simp only[Option.some.injEq]at hit;subst hit;refine wp_mono (Zbb hm c hb (Zbn E en) _ _ _ _ (hT.kept en) (hS.kept en) hst hsr) ?_;rintro e a2 w2 ⟨ex,s2,g2,ow2,rfl,h1,h2,h3⟩
      have fin: ∀x:Ex,x≠ .normal->Zeg s (Zao s en) J x s2=some o' ->ZgL E B s w g a k r (Zo8 x) a2 w2:=fun x _ ho=>
       ZgL.out hs hc.1.1 hc.1.2 (hlk.trans h2.lk) h1 (fun id hid=>(h2.hz id hid).trans (hHy id hid)) ho hu
      cases ex with
      |normal=>simp only[Va,Option.some.injEq,reduceCtorEq,and_false,exists_false]at h3
      |exit i=>
       simp only[Va,Option.some.injEq,Vh]at h3;obtain⟨z,hz,rfl⟩:=h3
       exact fin (.exit i) (by simp) hz
      |ret=>
       simp only[Va,Option.some.injEq,Vh]at h3;obtain⟨z,hz,rfl⟩:=h3
       exact fin .ret (by simp) hz
      |jump i=>
       simp only[Va,Option.some.injEq,Vh]at h3;obtain⟨z,hz,rfl⟩:=h3;exact fin (.jump i) (by simp) hz
     grind
  |lpd it en J hb=>
   cases c with
   |seq c1 c2=>
    cases c1 with
    |region id ops draw=>
     cases draw with
     |true=>simp [Zbd]at h
     |false=>
      simp only[Zbd]at h
      cases hc: (ZdA s en.kept&&Zb0 en J&&Zdc en.slots) with
      |false=>grind
      |true=>
       rw[hc]at h;simp only[cond_true,Va]at h;simp only[Vb]at hc;obtain⟨x,hx,hrun⟩:=h;obtain⟨n,hn⟩:=ZiZ hrun;have hsub: ∀id∈Zao s en,id∈Zao s en:=fun _ h=>h;have hDk:=ZeJ hc.1.1 hs.fz;have start:=Zgt (E:=Zbn E en) (E' :=Zbn E en) (s' :=s) (fz0:=Zao s en) (fzN:=Zao s en) ⟨hs.rh,hs.fr,hs.nt,hs.df,hs.ids,hs.fz⟩ ⟨hs.rh,hs.fr,hs.nt,hs.df,hs.ids,hs.fz⟩ rfl (.refl w g a) (fun n hn=>Vc _ hn) (fun n hn=>Vd _ (Vc _ hn)) (by simp) hDk hsub hsub hx;obtain⟨g1,ow1,s1,le1,_,hz1⟩:=start
       refine ZeX (fun n a' w' => ∃y g' ow',Zlb (fun y=>ZeK it (Zjg s (Zao s en) en y)) (fun y i=>Zj4 (Zbn E en) ops it i (ElR en.roots ⊕ Zei J) (Zjg s (Zao s en) en y) fun s1=>Zbd c2 hb (Zbn E en) (ElR en.roots ⊕ Zei J) s1 fun e s' =>match e with
        | .normal=>(ZfH s (Zao s en) en s').bind fun z=>some (.inl z)
        |e=>(Zeg s (Zao s en) J e s').bind fun z=>some (.inr z)) (fun o=>Zel s J o k) r n y/\SR (Zbn E en) B (Zjg s (Zao s en) en y) w' g' ow' a' /\Lk (Zbn E en) w g a w' g' a') (n:=n) ⟨x,g1,ow1,hn,s1,⟨le1,by omega,by simp⟩⟩ ?_
       rintro n a' w' ⟨y,g',ow',hit,hsr,hlk⟩;have hHy: ∀id∈Zao s en,(Zjg s (Zao s en) en y).H id=s.H id:=fun id hid=>Zk2 hid
       cases n with
       |zero=>exact hit.elim
       |succ n=>
        simp only[Zlb]at hit
        have hnk:=Zn8 (id:=id) (it:=it) (ops:=ops) (ρ:=ElR en.roots ⊕ Zei J) (k:=fun s1=>Zbd c2 hb (Zbn E en) (ElR en.roots ⊕ Zei J) s1 fun e s' =>match e with
         | .normal=>(ZfH s (Zao s en) en s').bind fun z=>some (.inl z)
         |e=>(Zeg s (Zao s en) J e s').bind fun z=>some (.inr z)) (hT.kept en) (hS.kept en) hsr (by grind)
        refine wp_seq (wp_mono hnk ?_);rintro e a2 w2 ⟨i,s2,g2,ow2,q,hi,rfl,hs2,hl2,hq,hk2⟩
        simp only[Exit.then]
        refine wp_mono (Zbb hm c2 hb (Zbn E en) _ _ _ _ (hT.kept en) (hS.kept en) hk2 hs2) ?_;rintro e a3 w3 ⟨ex,s3,g3,ow3,rfl,h1,h2,h3⟩;have hl3:=hlk.trans (hl2.lk.trans h2.lk);have hz3: ∀id∈Zao s en,s3.H id=s.H id:=fun id hid=>((hl2.trans h2).hz id hid).trans (hHy id hid)
        have fin: ∀x:Ex,x≠ .normal->(Zeg s (Zao s en) J x s3).bind (fun z=>some (.inr z))=some q->ZgL E B s w g a k r (Zo8 x) a3 w3:=fun x _ ho=>by
         rw[Va]at ho;obtain⟨z,ho,hq2⟩:=ho;simp only[Option.some.injEq]at hq2;subst hq2;rcases hit i hi with ⟨y',h4,_⟩ | ⟨t,h4,h5⟩
         ·grind
         ·rw[hq]at h4;simp only[Option.some.injEq,Vh]at h4;subst h4;exact ZgL.out hs hc.1.1 hc.1.2 hl3 h1 hz3 ho h5
        cases ex with
        |normal=>
         simp only[Va,Option.some.injEq]at h3;obtain⟨z,hz,rfl⟩:=h3;obtain⟨g4,ow4,s4,le4,ag4,_⟩:=Zgt (E:=Zbn E en) (E' :=Zbn E en) (s:=s) (fz0:=Zao s en) (fzN:=Zao s en) ⟨hs.rh,hs.fr,hs.nt,hs.df,hs.ids,hs.fz⟩ h1 rfl hl3 (fun n hn=>Vc _ hn) (fun n hn=>Vd _ (Vc _ hn)) hz3 hDk hsub hsub hz;rcases hit i hi with ⟨y',h4,h5⟩ | ⟨t,h4,_⟩
         ·rw[hq]at h4;simp only[Option.some.injEq,Vn]at h4;subst h4;exact⟨n,Vi n,z,g4,ow4,h5,s4,⟨le4,ag4,hl3.ks⟩⟩
         grind
        |exit i=>exact fin (.exit i) (by simp) h3
        |ret=>exact fin .ret (by simp) h3
        |jump i=>exact fin (.jump i) (by simp) h3
    |_=>simp [Zbd]at h
   |_=>simp [Zbd]at h
  |_=>simp [Zbd]at h
 | .exit id,_,E,ρ,s,k,r,_,_,h,w,g,ow,a,hs=>by
  simp only[Zbd]at h
  exact wp_exit ⟨.exit id,s,g,ow,rfl,hs, .refl s w g a,h⟩
 | .ret,_,E,ρ,s,k,r,_,_,h,w,g,ow,a,hs=>by
  simp only[Zbd]at h
  exact wp_ret ⟨.ret,s,g,ow,rfl,hs, .refl s w g a,h⟩
 | .label _,_,E,ρ,s,k,r,_,_,h,w,g,ow,a,hs=>by
  simp only[Zbd]at h
  exact wp_label ⟨.normal,s,g,ow,rfl,hs, .refl s w g a,h⟩
 | .goto l,_,E,ρ,s,k,r,_,_,h,w,g,ow,a,hs=>by
  simp only[Zbd]at h
  exact wp_goto ⟨.jump l,s,g,ow,rfl,hs, .refl s w g a,h⟩
 | .refuse _,_,_,_,_,_,_,_,_,h,_,_,_,_,_=>by simp [Zbd]at h
 | .scope c,hint,E,ρ,s,k,r,hT,hS,h,w,g,ow,a,hs=>by
  simp only[Zbd]at h;refine wp_scope_straight (wp_mono (Zbb hm c hint E ρ s _ r hT hS h hs) ?_);rintro e a' w' ⟨ex,s',g',ow',rfl,h1,h2,h3⟩
  cases ex with
  |jump l=>simp at h3
  |normal=>exact⟨.normal,s',g',ow',rfl,h1,h2,h3⟩
  |exit i=>exact⟨.exit i,s',g',ow',rfl,h1,h2,h3⟩
  |ret=>exact⟨.ret,s',g',ow',rfl,h1,h2,h3⟩
 | .rangeFunc ..,_,_,_,_,_,_,_,_,h,_,_,_,_,_=>by simp [Zbd]at h
end
end Tr
