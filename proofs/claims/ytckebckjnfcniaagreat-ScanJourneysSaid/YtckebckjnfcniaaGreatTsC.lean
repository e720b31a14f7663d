/- The code of the abstract machine is the code of the model. Conditions: the table of types is the program's, the specs are true, the program draws mixed orders. -/
import Derived.Scope
import Derived.Test.YtckebckjnfcniaaGreatTsB
namespace Tr
open Go
theorem Zk5{s:AS}{l m:List Nat}(h: ∀n∈l,n∈m): ∀id∈Zc5 s l,id∈Zc5 s m:=by
 have key: ∀ (m:List Nat) n,n∈m-> ∀id∈(match s.F n with| .ptr id []=>[id] | .vw id=>[id] | .nw id _ _ _=>[id] | .mp id=>[id] | .fn _ caps=>AV.boxes caps|_=>[]),id∈Zc5 s m:=by
  intro m
  induction m with
  |nil=>intro n hn;simp at hn
  |cons k m ih=>
   intro n hn id hid;simp only[Zc5,List.mem_append];rcases List.mem_cons.1 hn with rfl|hn
   ·exact .inl hid
   ·exact .inr (ih n hn id hid)
 induction l with
 |nil=>intro id hid;simp [Zc5]at hid
 |cons n l ih=>
  intro id hid;simp only[Zc5,List.mem_append]at hid;rcases hid with hid|hid
  ·exact key m n (h n (by simp)) id hid
  ·exact ih (fun n hn=>h n (by simp [hn])) id hid
theorem Zk8{H:AH} : ∀ {l:AVs},ZnN H l=true-> ∀id∈AV.boxes l,Zj2 H id=true
 | .nil,_,id,hid=>by simp [AV.boxes]at hid
 | .cons v l,h,id,hid=>by
  simp only[ZnN,Bool.and_eq_true]at h;simp only[AV.boxes,List.mem_append,Option.mem_toList]at hid;rcases hid with hid|hid
  ·cases v with
   |ptr k p=>
    cases p with
    |nil=>
     simp only[AV.box?,Option.some.injEq]at hid
     subst hid;exact h.1
    |cons a p=>simp [AV.box?]at hid
   |_=>simp [AV.box?]at hid
  ·exact Zk8 h.2 id hid
theorem ZkY{s:AS} : ∀ {l:List Nat},Zem s l=true-> ∀id∈Zc5 s l,Zj2 s.H id=true
 | [],_,id,hid=>by simp [Zc5]at hid
 |n::l,h,id,hid=>by
  simp only[Zem,Bool.and_eq_true]at h;simp only[Zc5,List.mem_append]at hid;rcases hid with hid|hid
  ·split at hid
   ·rename_i k hk;simp only[List.mem_singleton]at hid;subst hid;have:=h.1;rw[hk]at this;exact this
   ·rename_i k hk;simp only[List.mem_singleton]at hid;subst hid;have:=h.1;rw[hk]at this;exact this
   ·rename_i k _ _ _ hk;simp only[List.mem_singleton]at hid;subst hid;have:=h.1;rw[hk]at this;exact this
   ·rename_i k hk;simp only[List.mem_singleton]at hid;subst hid;have:=h.1;rw[hk]at this;exact this
   ·rename_i f caps hk;have:=h.1;rw[hk]at this;exact Zk8 this id hid
   ·simp at hid
  ·exact ZkY h.2 id hid
theorem Zf7{s:AS}{e:Zhb}(h:Zem s e.kept=true)(hf: ∀id∈s.fz,Zj2 s.H id=true): ∀id∈ZaC s e,Zj2 s.H id=true:=by
 intro id hid;rcases List.mem_append.1 hid with hid|hid
 ·exact ZkY h id hid
 ·exact hf id hid
theorem Zp0{w:World}{g g1:Gh}{J:Nat->Prop}{id:Nat}{o:ZdX}{H:AH}(hH:H id=some o)(hd:Zj2 H id=true)(hI: ∀b,g.I b->g1.I b)(ht:g1.ty id=g.ty id)(hb:g1.blk id=g.blk id)(hs:g1.slv id=g.slv id)(hv:g1.ver id=g.ver id)(hr:g1.row id=g.row id)
  (h:Zf5 w g J id o):Zf5 w g1 J id o:=by
 unfold Zj2 at hd;rw[hH]at hd
 cases o with
 |var t c=>
  cases c with
  |d t' x=>
   obtain⟨h0,hf,b,cs,e,h1,h2,h3,h4,h5⟩:=h
   exact⟨ht.trans h0,hf,b,cs,e,hb.trans h1,h2,h3,h4,by simp only[CV]at h5 ⊢;exact Rd.mono (fun _ _=>rfl) hI _ _ _ h5⟩
  |_=>simp at hd
 |vec t xs=>
  obtain⟨h0,h⟩:=h;refine⟨ht.trans h0, ?_⟩;rcases h with ⟨h1,h2,h3⟩ | ⟨b,cap,cs,e,css,h1,h2,h3,h4,h5,h6,h7,h8⟩
  ·exact .inl ⟨h1,hb.trans h2,hs.trans h3⟩
  ·exact .inr ⟨b,cap,cs,e,css,hb.trans h1,h2,hs.trans h3,h4,h5,h6,h7.mono fun x c hx=>Rd.mono (fun _ _=>rfl) hI t x c hx,h8⟩
 |map kt vt m=>
  obtain⟨b,es,clock,h1,h2,h3,hbn,h4⟩:=h
  exact⟨b,es,clock,hb.trans h1,h2,h3,hbn,h4.mono fun kv e hx=>⟨⟨by have:=hx.1.1;simp only[CV]at this ⊢;exact Rd.mono (fun _ _=>rfl) hI _ _ _ this,hx.1.2⟩,⟨by have:=hx.2.1;simp only[CV]at this ⊢;exact Rd.mono (fun _ _=>rfl) hI _ _ _ this,hx.2.2⟩⟩⟩
 |rows t xs v hole=>
  obtain⟨h0,h1,h2,h3⟩:=h;refine⟨ht.trans h0,hv.trans h1, ?_, ?_⟩
  ·rw[hb,hr];exact⟨fun k x a b=>(h2.rd k x a b).mono (fun _ _=>rfl) hI (fun _ _ h=>h) fun _ _ _=>rfl,h2.ds,h2.tp⟩
  ·rw[hb,hr,hs];exact h3
 |mrows kt t m v hole=>
  obtain⟨h0,h1,h2,h3,h4,b,es,clock,h5,h6,h7,h8⟩:=h;refine⟨ht.trans h0,hv.trans h1, ?_,h3, ?_,b,es,clock,hb.trans h5,h6,h7, ?_⟩
  ·rw[hb,hr];exact⟨fun k x a b=>(h2.rd k x a b).mono (fun _ _=>rfl) hI (fun _ _ h=>h) fun _ _ _=>rfl,h2.ds,h2.tp⟩
  ·rw[hr];exact h4
  ·rw[hr];exact h8.mono fun kv e hx=>⟨⟨by have:=hx.1.1;simp only[CV]at this ⊢;exact Rd.mono (fun _ _=>rfl) hI _ _ _ this,hx.1.2⟩,hx.2⟩
 |rng kt vt rest cur=>
  obtain⟨b,mb,es,clock,since,seen,h0,h1,h2,h3,h4,h5,h6,h7,h8⟩:=h;refine⟨b,mb,es,clock,since,seen,ht.trans h0,hb.trans h1,h2,h3,h4,h5,h6,h7.mono fun kv e hx=>⟨⟨by have:=hx.1.1;simp only[CV]at this ⊢;exact Rd.mono (fun _ _=>rfl) hI _ _ _ this,hx.1.2⟩,⟨by have:=hx.2.1;simp only[CV]at this ⊢;exact Rd.mono (fun _ _=>rfl) hI _ _ _ this,hx.2.2⟩⟩,fun kv hkv=> ?_⟩;obtain⟨e,h9,seen',h10,h12,h13⟩:=h8 kv hkv
  exact⟨e,h9,seen',h10,⟨by have:=h12.1;simp only[CV]at this ⊢;exact Rd.mono (fun _ _=>rfl) hI _ _ _ this,h12.2⟩,⟨by have:=h13.1;simp only[CV]at this ⊢;exact Rd.mono (fun _ _=>rfl) hI _ _ _ this,h13.2⟩⟩
 |dat t xs=>exact⟨ht.trans h.1,by rw[hs];exact Rd.mono (fun _ _=>rfl) hI _ _ _ h.2⟩
 |bld T e bs=>
  obtain⟨b,h1,h2⟩:=h;exact⟨b,hb.trans h1,h2⟩
theorem ZnE{w:World}{g:Gh}{tmps:Array Value} : ∀ (l:List (Nat×AV)),(∀q∈l,VR1 w g q.2 (tmps.getD q.1 undef))-> ∀k,VR1 w g (Zlm l k) (tmps.getD k undef)
 | [],_,k=>⟨by simp [CV,Zlm], .inl rfl⟩
 |q::l,h,k=>by
  simp only[Zlm]
  cases hb:Nat.beq k q.1 with
  |true=>have:=Nat.eq_of_beq_eq_true hb;subst this;exact h q (by simp)
  |false=>exact ZnE l (fun u hu=>h u (by simp [hu])) k
section
variable {P:Program}{E E' :Env}{B:Zb7}
theorem ZiR{w w1:World}{g g1:Gh}{F F1:Nat->AV}{tmps:Array Value}(hF:Fr w g F tmps)(hF1: ∀k,(∀m,F1 k≠ .tup m)->VR1 w1 g1 (F1 k) (tmps.getD k undef)): ∀ (caps:AVs) (l:List Nat) (cc:List Value),Zec F caps l=true->CVs w g caps cc->
  (∀n∈l, ∀m,F1 n≠ .tup m)->CVs w1 g1 (AVs.ofList (l.map F1)) cc
 | .nil,[],cc,_,hc,_=>by simpa only[CVs,AVs.ofList,List.map_nil] using hc
 | .nil,n::l,_,h,_,_=>by simp [Zec]at h
 | .cons v vs,[],_,h,_,_=>by simp [Zec]at h
 | .cons v vs,n::l,cc,h,hc,hnt=>by
  simp only[Zec,Bool.and_eq_true]at h;simp only[CVs]at hc;obtain⟨c1,c2,rfl,h1,h2⟩:=hc;simp only[List.map_cons,AVs.ofList,CVs];refine⟨c1,c2,rfl, ?_,ZiR hF hF1 vs l c2 h.2 h2 fun k hk=>hnt k (by simp [hk])⟩;have hb:=h.1
  cases v with
  |ptr id p=>
   cases p with
   |nil=>
    simp only[AV.box?]at hb
    cases hFn:F n with
    |ptr id' p' =>
     cases p' with
     |nil=>
      rw[hFn]at hb;simp only at hb;have:=Nat.eq_of_beq_eq_true hb;subst this;have hv:=hF n;rw[hFn]at hv;obtain⟨_,o,t,b,h3,h4,h5⟩:=hv.ptr;simp only[CV]at h1;obtain⟨_,o',t',b',h6,h7,h8⟩:=h1;rw[h3]at h6;cases h6;rw[h4]at h7;cases h7;have h9:=(hF1 n (hnt n (by simp))).1;rw[h5]at h9;rw[h8]
      simpa [Value.cells] using h9
     |cons a p' =>rw[hFn]at hb;simp at hb
    |_=>rw[hFn]at hb;simp at hb
   |cons a p=>simp [AV.box?]at hb
  |_=>simp [AV.box?]at hb
theorem Zkm{w w1:World}{g g1:Gh}{F F1:Nat->AV}{tmps:Array Value}(hF:Fr w g F tmps)(hF1:Fr w1 g1 F1 tmps)(hnt: ∀k m,F1 k= .tup m-> ∀id,F k≠ .ptr id []): ∀ (l:List (Nat×FuncId×List Nat)),Zrh F l=true->Fr w1 g1 (ZmJ F1 l) tmps
 | [],_=>hF1
 | (n,f,l)::m,h=>by
  simp only[Zrh,Bool.and_eq_true]at h;simp only[ZmJ];refine(Zkm hF hF1 hnt m h.2).upd ?_;have hb:=h.1;have hv:=hF n;split at hb
  ·rename_i f' caps hFn;simp only[Bool.and_eq_true]at hb;have:=Nat.eq_of_beq_eq_true hb.1;subst this;rw[hFn]at hv;obtain⟨cc,h1,h2⟩:=hv.fn;rw[h1];refine⟨?_, .inr rfl⟩;simp only[CV]
   have hboxes: ∀ (caps:AVs) (l:List Nat),Zec F caps l=true-> ∀n∈l, ∃id,F n= .ptr id []:=by
    intro caps l
    induction l generalizing caps with
    |nil=>intro _ n hn;simp at hn
    |cons k l ih=>
     intro h n hn
     cases caps with
     |nil=>simp [Zec]at h
     |cons v vs=>
      simp only[Zec,Bool.and_eq_true]at h;rcases List.mem_cons.1 hn with rfl|hn
      ·have hb:=h.1
       cases hFn:F n with
       |ptr id p=>
        cases p with
        |nil=>exact⟨id,rfl⟩
        |cons a p=>rw[hFn]at hb;cases hv:v.box? <;>simp [AV.box?]at hb
       |_=>rw[hFn]at hb;cases hv:v.box? <;>simp [AV.box?]at hb
      ·exact ih vs h.2 n hn
   exact⟨cc,by simp [Value.cells],ZiR hF (fun k hk=>(hF1 k).to1 hk) caps l cc hb.2 h2 fun k hk q hq=>by obtain⟨id,hid⟩:=hboxes caps l hb.2 k hk;exact hnt k q hq id hid⟩
  ·simp at hb
theorem ZpC{w:World}{g:Gh}{x y:AV}{u v:Value}(hx:VR w g x u)(hy:VR w g y v)(h:ZqV x y=true):u=v:=by
 unfold ZqV at h;split at h
 ·have:=Nat.eq_of_beq_eq_true h;subst this;rw[hx.vw.2,hy.vw.2]
 ·have:=Nat.eq_of_beq_eq_true h;subst this;obtain⟨_,b,h1,rfl⟩:=hx.mp;obtain⟨_,b',h2,rfl⟩:=hy.mp;rw[h1]at h2;cases h2;rfl
 ·have:=Nat.eq_of_beq_eq_true h;subst this;obtain⟨_,o,t,b,h1,h2,rfl⟩:=hx.ptr;obtain⟨_,o',t',b',h3,h4,rfl⟩:=hy.ptr;rw[h1]at h3;cases h3;rw[h2]at h4;cases h4;rfl
 ·rw[hx.nils,hy.nils]
 ·simp at h
theorem ZkL{w w1:World}{g g1:Gh}{F F1:Nat->AV}{tmps:Array Value}(hF:Fr w g F tmps)(hF1:Fr w1 g1 F1 tmps): ∀ (l:List (Nat×Nat)),ZpJ F l=true->Fr w1 g1 (Zne F1 l) tmps
 | [],_=>hF1
 |p::l,h=>by simp only[ZpJ,Bool.and_eq_true]at h;simp only[Zne];refine(ZkL hF hF1 l h.2).upd ?_;rw[ZpC (hF p.1) (hF p.2) h.1];exact hF1 p.2
theorem ZrU{s s' :AS}{w w' :World}{g g' :Gh}{ow ow' :Nat->Nat->Prop}{a a' :Act}(hs:SR E B s w g ow a)(hs' :SR E' B s' w' g' ow' a')(hnt:E'.nt=E.nt){e:Zhb}{fz0 fzN:List Nat}{x:ElR e.roots}
  (hk:Lk E' w g a w' g' a') (hks: ∀n∈e.kept,n∈E'.ks) (hH: ∀id∈ZaC s e,s'.H id=s.H id) (hD: ∀id∈ZaC s e,Zj2 s.H id=true) (hfz: ∀id∈ZaC s e,id∈fz0) (hfN: ∀id∈fzN,id∈ZaC s e)
  (h:Zpx fz0 e s' =some x): ∃g2 ow2,SR E B (Zom s fzN e x) w' g2 ow2 a' /\g.Le g2/\Zbe g.I w w' /\(∀id∈ZaC s e,(Zom s fzN e x).H id=s.H id)/\ ∀id,g.K id->g2.slv id=g'.slv id:=by
 unfold Zpx at h;rw[Acc.runK_eq]at h
 cases hx: (ZtB s'.F e.roots).run s'.H [] with
 |none=>rw[hx]at h;simp at h
 |some y=>
  obtain⟨⟨x1,ids⟩,rd⟩:=y;rw[hx]at h;simp only[Option.bind_some]at h
  cases hc: (ids.ok fz0&&ZdV ids.br fz0&&Zrh s'.F e.fns&&ZpJ s'.F e.als) with
  |false=>rw[hc]at h;simp at h
  |true=>
   rw[hc]at h;simp only[cond_true,Option.some.injEq]at h;subst h;simp only[Bool.and_eq_true]at hc;obtain⟨⟨⟨hok,hbr⟩,hfns⟩,hals⟩:=hc;obtain⟨hnd,hdis,htkf⟩:=Ids.ok_iff hok;have hbrf:=Zcw.1 hbr;obtain⟨js,hpr,hjn,hjo⟩:=Zrd hs'.rh (I:=fun b=>g'.I b\/ZaV s'.H ow' ids.br b) (fun _ h=> .inl h) hs'.fr e.roots x1 ids [] rd hx (fun _ h=> .inr h) hnd
   let g1:Gh:= {I:=fun b=>g'.I b\/ZaV s'.H ow' ids.br b,K:=g.K,ty:=g'.ty,blk:=g'.blk,slv:=g'.slv,ver:=g'.ver,row:=g'.row}
   let H1:AH:=fun id=>bif ZdN id (ZaC s e) then s.H id else none
   have hH1: ∀id,H1 id≠none->id∈ZaC s e/\s'.H id≠none/\H1 id=s.H id/\s'.H id=s.H id:=by
    intro id hid
    have e1:H1 id=bif ZdN id (ZaC s e) then s.H id else none:=rfl
    cases hm:ZdN id (ZaC s e) with
    |false=>rw[e1,hm]at hid;exact absurd rfl hid
    |true=>
     have hmem:=Za7.1 hm;rw[hm]at e1;exact⟨hmem,by rw[hH id hmem];rw[e1]at hid;exact hid,e1,hH id hmem⟩
   have hg1:g.Le g1:=⟨fun b hb=> .inl (hk.le.I b hb),fun _ h=>h,fun id hid=>hk.le.ty id hid,fun id hid=>hk.le.blk id hid,fun id hid=>hk.le.slv id hid,fun id hid=>hk.le.ver id hid,fun id hid=>hk.le.row id hid⟩
   have hR1:RH B H1 w' g1 ow' := {
    objs:=fun id o ho=>by obtain⟨hmem,hne,h1,h2⟩:=hH1 id (by rw[ho];simp);have hso:s.H id=some o:=h1.symm.trans ho;have hso' :s'.H id=some o:=h2.trans hso;exact⟨(hs.rh.objs id o hso).1,Zp0 hso (hD id hmem) (fun b hb=> .inl hb) rfl rfl rfl rfl rfl (hs'.rh.objs id o hso').2⟩
    dist:=fun id id' b h1 h2 h3 h4=>hs'.rh.dist id id' b (hH1 id h1).2.1 (hH1 id' h2).2.1 h3 h4
    sep:=fun id b h1 h2=>by
     obtain⟨hmem,hne,_⟩:=hH1 id h1;obtain⟨h3,h4,h5⟩:=hs'.rh.sep id b hne h2;refine⟨fun hI=> ?_,h4,h5⟩;rcases hI with hI| ⟨id',h6,h7,h8⟩
     ·exact h3 hI
     ·have:=hs'.rh.dist id id' b hne h7 h2 h8;exact hbrf id' h6 (this▸hfz id hmem)
    ilt:=fun b hb=>by
     rcases hb with hb| ⟨id,_,h1,h2⟩
     ·exact hs'.rh.ilt b hb
     ·exact(hs'.rh.sep id b h1 h2).2.1
    inew:=fun b hb=>by
     rcases hb with hb| ⟨id,_,h1,h2⟩
     ·exact hs'.rh.inew b hb
     ·exact .inr (hs'.rh.sep id b h1 h2).2.2
    os:=hs'.rh.os
    tape:=hs'.rh.tape
    output:=hs'.rh.output
    size:=hs'.rh.size
    kept:=hs'.rh.kept}
   have hfree:ZgU B H1 w' g1 ow' js:=⟨hjn,fun b hb=>by
    obtain⟨id,h1,h2,h3⟩:=hjo b hb;obtain⟨h4,h5,h6⟩:=hs'.rh.sep id b h2 h3;refine⟨fun hI=> ?_,h5,h6,fun id' h7 h8=> ?_⟩
    ·rcases hI with hI|hI
     ·exact h4 hI
     ·obtain⟨k,h9,h10⟩:=ZcT hs'.rh hI (hjo b hb);exact hdis k h9 h10
    ·obtain⟨hmem,hne,_⟩:=hH1 id' h7;have:=hs'.rh.dist id' id b hne h2 h8 h3;exact htkf id h1 (this▸hfz id' hmem)⟩
   obtain⟨g2,ow2,l2,i2,r2,c2,k2,_⟩:=Zo5 e.roots hR1 x1 js s.nx hpr hfree fun id h1 h2 hK=>by have:=hs.ids id hK;omega
   have hHH: (Zom s fzN e x1).H=Zaf H1 (ZbM (ZeG e.roots x1 s.nx).2.1):=by
    funext id;rw[Zfy _ _ _ (ZiY _ _ _)]
    show (bif ZdN id (ZaC s e) then s.H id else ZdC (ZeG e.roots x1 s.nx).2.1 id)=_
    cases hm:ZdN id (ZaC s e) with
    |true=>
     have hlt:id<s.nx:=by
      have hd:=hD id (Za7.1 hm)
      cases ho:s.H id with
      |none=>unfold Zj2 at hd;rw[ho]at hd;simp at hd
      |some o=>exact hs.ids id (hs.rh.objs id o ho).1
     have hl:ZdC (ZeG e.roots x1 s.nx).2.1 id=none:=by
      have hids:=(Zf1 e.roots x1 s.nx).2
      have key: ∀l:List (Nat×ZdX),(∀o∈l,s.nx<=o.1)->ZdC l id=none:=by
       intro l
       induction l with
       |nil=>intro _;rfl
       |cons q l ih=>
        intro h;simp only[ZdC]
        have:Nat.beq id q.1=false:=by
         cases hb:Nat.beq id q.1
         ·rfl
         ·have:=Nat.eq_of_beq_eq_true hb;have:=h q (by simp);omega
        rw[this];exact ih fun o ho=>h o (by simp [ho])
      exact key _ fun o ho=>(hids o ho).1
     rw[hl]
     simp only[cond_true,H1,hm]
    |false=>
     simp only[cond_false,H1,hm]
     cases ZdC (ZeG e.roots x1 s.nx).2.1 id<;>rfl
   have hle:g.Le g2:=hg1.trans l2;have hagr:Zbe g.I w w' :=hk.ag
   have hF0:Fr w' g2 (fun k=>bif ZdN k e.kept then s.F k else Zlm (ZeG e.roots x1 s.nx).1 k) a'.tmps:=by
    intro k
    show VR w' g2 (bif ZdN k e.kept then s.F k else Zlm (ZeG e.roots x1 s.nx).1 k) _
    cases hm:ZdN k e.kept with
    |true=>
     simp only[cond_true];rw[hk.ks k (hks k (Za7.1 hm))]
     exact(hs.fr k).mono hagr hle
    |false=>
     simp only[cond_false];exact .of1 (ZnE _ c2 k)
   refine⟨g2,ow2,⟨by rw[hHH];exact r2, ?_,by rw[hs'.nt,hnt],hs'.df,fun id hid=> ?_,fun id hid=> ?_⟩,hle,hagr,fun id hid=> ?_,fun id hid=>l2.slv id hid⟩
   ·refine ZkL hs'.fr (Zkm hs'.fr hF0 (fun k m hkm id hid=> ?_) e.fns hfns) e.als hals;have hv:=hF0 k
    rw[show (fun k=>bif ZdN k e.kept then s.F k else Zlm (ZeG e.roots x1 s.nx).1 k) k= .tup m from hkm]at hv
    have hv' :=hs'.fr k;rw[hid]at hv';obtain⟨vs,h1,_⟩:=hv;obtain⟨_,_,_,_,_,_,h2⟩:=hv'.ptr;rw[h1]at h2;cases h2
   ·show id< (ZeG e.roots x1 s.nx).2.2;have:=(Zf1 e.roots x1 s.nx).1;rcases k2 id hid with h1|h1
    ·have:=hs.ids id h1;omega
    ·exact h1.2
   ·have hmem:=hfN id hid
    have e1: (Zom s fzN e x1).H id=s.H id:=by
     show (bif ZdN id (ZaC s e) then s.H id else ZdC (ZeG e.roots x1 s.nx).2.1 id)=_
     rw[Za7.2 hmem];rfl
    exact(Ze3 e1).trans (hD id hmem)
   ·show (bif ZdN id (ZaC s e) then s.H id else ZdC (ZeG e.roots x1 s.nx).2.1 id)=_
    rw[Za7.2 hid];rfl
theorem ZlE{s:AS}{w:World}{g:Gh}{ow:Nat->Nat->Prop}{tmps:Array Value}(hR:RH B s.H w g ow)(hF:Fr w g s.F tmps){k:Nat×Nat×Nat}{x:Nat}(h:ZoG s k=some x):
  g.K x/\ ∃b cs e,tmps.getD k.1 undef= .pointer (some ⟨b,0,none⟩)/\w.heap[b]? =some (.cells cs e (0,0))/\cs[k.2.2]? =some (g.slv x):=by
 unfold ZoG at h;split at h
 case h_2=>simp at h
 rename_i id hid;split at h
 case h_2=>simp at h
 rename_i T c hH;split at h
 case h_2=>simp at h
 rename_i y hy
 cases hb:Nat.beq (Zsv T k.2.1) k.2.2 with
 |false=>rw[hb]at h;simp at h
 |true=>
  rw[hb]at h;simp only[cond_true,Option.some.injEq]at h;subst h;have hoff:=Nat.eq_of_beq_eq_true hb;obtain⟨_,_,hf,b,cs,e,hb1,_,hh,_,hcv⟩:=hR.objs id _ hH;simp only[AV.fits]at hf;simp only[CV]at hcv;obtain⟨h1,h2⟩:=ZeU c _ _ _ _ hf hcv hy;have hv:=hF k.1;rw[hid]at hv;obtain⟨_,o,t,b',h3,h4,h5⟩:=hv.ptr;simp only[Zbw,Option.some.injEq,Prod.mk.injEq]at h3;rw[hb1]at h4;obtain rfl:=Option.some.inj h4;rw[Array.getElem?_toList,hoff]at h2;refine⟨h1,b,cs,e, ?_,hh,h2⟩;rw[h5, <-h3.1]
theorem Zuc{s' s2:AS}{w' :World}{g' g2:Gh}{ow' ow2:Nat->Nat->Prop}{B' :Zb7}{tmps:Array Value}(hR' :RH B' s'.H w' g' ow')(hF' :Fr w' g' s'.F tmps)(hR2:RH B s2.H w' g2 ow2)(hF2:Fr w' g2 s2.F tmps){k:Nat×Nat×Nat}{x y:Nat}(h' :ZoG s' k=some x)(h2:ZoG s2 k=some y):
  g2.slv y=g'.slv x:=by
 obtain⟨_,b,cs,e,h3,h4,h5⟩:=ZlE hR' hF' h';obtain⟨_,b2,cs2,e2,h6,h7,h8⟩:=ZlE hR2 hF2 h2;rw[h3]at h6;simp only[Value.pointer.injEq,Option.some.injEq,Addr.mk.injEq,and_true]at h6;subst h6;rw[h4]at h7;cases h7;rw[h5]at h8;exact(Option.some.inj h8).symm
theorem ZuH{b:AS}{fz:List Nat}{k:Nat×Nat×Nat}{s:AS}{i:Nat}(hi:i∈fz): (Zr1 b fz k s).H i=s.H i:=by
 unfold Zr1;split
 case h_2=>rfl
 rename_i x y id hx hy hid;split
 case h_2=>rfl
 rename_i T c t xs t0 xs0 hH hHy hHx;generalize hc: (t0==t&& !Nat.beq y id&& !Nat.beq x id&& !ZdN x fz&& !ZdN y fz&& !ZdN id fz)=cc
 cases cc with
 |false=>rfl
 |true=>
  simp only[Bool.and_eq_true,Bool.not_eq_true']at hc;obtain⟨⟨⟨_,h3⟩,h4⟩,h5⟩:=hc;have m3:i≠x:=fun e=>by rw[<-e,Za7.2 hi]at h3;cases h3
  have m4:i≠y:=fun e=>by rw[<-e,Za7.2 hi]at h4;cases h4
  have m5:i≠id:=fun e=>by rw[<-e,Za7.2 hi]at h5;cases h5
  show ZbS (ZbS (ZbS (ZbS s.H y none) id none) x _) id _ i=s.H i;rw[ZaD m5,ZaD m3,ZaD m5,ZaD m4]
theorem ZsS{b:AS}{fz:List Nat}{i:Nat}(hi:i∈fz): ∀ (l:List (Nat×Nat×Nat)) (s:AS),(Zs8 b fz l s).H i=s.H i
 | [],_=>rfl
 |_::l,_=>(ZsS hi l _).trans (ZuH hi)
theorem Znu{b:AS}{fz:List Nat}{e:Zhb}{x:ElR e.roots}{id:Nat}(hid:id∈ZaC b e): (Zls b fz e x).H id=b.H id:=by
 refine(ZsS hid e.kf _).trans ?_
 show (bif ZdN id (ZaC b e) then b.H id else _)=_
 rw[Za7.2 hid];rfl
theorem ZtP{s s' s2:AS}{w w' :World}{g g' g2:Gh}{ow ow' ow2:Nat->Nat->Prop}{B0 B' :Zb7}{tmps0 tmps:Array Value}(hR:RH B0 s.H w g ow)(hF:Fr w g s.F tmps0)(hR' :RH B' s'.H w' g' ow')(hF' :Fr w' g' s'.F tmps)(hle:g.Le g2)(hsl: ∀id,g.K id->g2.slv id=g'.slv id)
  {k:Nat×Nat×Nat} (hk: (match ZoG s k,ZoG s' k with|some x,some y=>Nat.beq x y|_,_=>false)=true) {fz:List Nat} (hR2:RH B s2.H w' g2 ow2) (hF2:Fr w' g2 s2.F tmps):
  (∃ow3,RH B (Zr1 s fz k s2).H w' g2 ow3)/\(Zr1 s fz k s2).F=s2.F/\(Zr1 s fz k s2).fz=s2.fz/\(Zr1 s fz k s2).nx=s2.nx:=by
 have same: (∃ow3,RH B s2.H w' g2 ow3)/\s2.F=s2.F/\s2.fz=s2.fz/\s2.nx=s2.nx:=⟨⟨ow2,hR2⟩,rfl,rfl,rfl⟩;unfold Zr1;split
 case h_2=>exact same
 rename_i x y id hx hy hid;split
 case h_2=>exact same
 rename_i T c t xs t0 xs0 hH hHy hHx;generalize hc: (t0==t&& !Nat.beq y id&& !Nat.beq x id&& !ZdN x fz&& !ZdN y fz&& !ZdN id fz)=cc
 cases cc with
 |false=>exact same
 |true=>
  simp only[cond_true];simp only[Bool.and_eq_true,Bool.not_eq_true',beq_iff_eq]at hc;obtain⟨⟨⟨⟨⟨rfl,h1⟩,h2⟩,h3⟩,h4⟩,h5⟩:=hc;have n1:y≠id:=fun e=>by rw[e,Nat.beq_refl]at h1;cases h1
  have n2:x≠id:=fun e=>by rw[e,Nat.beq_refl]at h2;cases h2
  have m3:x ∉ fz:=fun h=>by rw[Za7.2 h]at h3;cases h3
  have m4:y ∉ fz:=fun h=>by rw[Za7.2 h]at h4;cases h4
  have m5:id ∉ fz:=fun h=>by rw[Za7.2 h]at h5;cases h5
  have hn:c.nth k.2.1=some (.vw y):=by
   have hy' :=hy;unfold ZoG at hy';rw[hid]at hy';simp only[hH]at hy'
   cases ha:c.nth k.2.1 with
   |none=>rw[ha]at hy';simp at hy'
   |some u=>
    rw[ha]at hy'
    cases u with
    |vw a=>
     cases hb:Nat.beq (Zsv T k.2.1) k.2.2 with
     |false=>rw[hb]at hy';simp at hy'
     |true=>
      rw[hb]at hy';simp only[cond_true,Option.some.injEq]at hy'
      rw[hy']
    |_=>simp at hy'
  have hx' :ZoG s' k=some x:=by
   rw[hx]at hk
   cases hz:ZoG s' k with
   |none=>rw[hz]at hk;simp at hk
   |some z=>rw[hz]at hk;rw[Nat.eq_of_beq_eq_true hk]
  have hKx:=(ZlE hR hF hx).1;have hslv:g2.slv x=g2.slv y:=by rw[Zuc hR' hF' hR2 hF2 hx' hy,hsl x hKx]
  obtain⟨_,hty,hvec0⟩:=hR.objs x _ hHx
  obtain⟨ow3,h6⟩:=Zhk hR2 hH hn hHy (hle.K x hKx) hslv ((hle.ty x hKx).trans hty) (by
   rw[hle.blk x hKx,hle.slv x hKx];rcases hvec0 with ⟨_,h7,h8⟩ | ⟨b4,cap4,cs4,e4,css4,h7,_,h8,_⟩
   ·exact .inl ⟨h7,h8⟩
   ·exact .inr ⟨b4,_,cap4,h7,h8⟩) n1 n2
  exact⟨⟨ow3,h6⟩,by first|rfl|trivial,by first|rfl|trivial,by first|rfl|trivial⟩
theorem Zpp{s s' :AS}{w w' :World}{g g' g2:Gh}{ow ow' :Nat->Nat->Prop}{B0 B' :Zb7}{tmps0 tmps:Array Value}(hR:RH B0 s.H w g ow)(hF:Fr w g s.F tmps0)(hR' :RH B' s'.H w' g' ow')(hF' :Fr w' g' s'.F tmps)(hle:g.Le g2)(hsl: ∀id,g.K id->g2.slv id=g'.slv id){fz:List Nat} :
  ∀ (l:List (Nat×Nat×Nat)) {s2:AS}{ow2:Nat->Nat->Prop},Zur s s' l=true->RH B s2.H w' g2 ow2->Fr w' g2 s2.F tmps->
  (∃ow3,RH B (Zs8 s fz l s2).H w' g2 ow3)/\(Zs8 s fz l s2).F=s2.F/\(Zs8 s fz l s2).fz=s2.fz/\(Zs8 s fz l s2).nx=s2.nx
 | [],s2,ow2,_,hR2,_=>⟨⟨ow2,hR2⟩,rfl,rfl,rfl⟩
 |k::l,s2,ow2,h,hR2,hF2=>by simp only[Zur,Bool.and_eq_true]at h;obtain⟨⟨ow3,h1⟩,h2,h3,h4⟩:=ZtP (k:=k) (fz:=fz) hR hF hR' hF' hle hsl h.1 hR2 hF2;obtain⟨h6,h7,h8,h9⟩:=Zpp hR hF hR' hF' hle hsl l (s2:=Zr1 s fz k s2) h.2 h1 (by rw[h2];exact hF2);exact⟨h6,h7.trans h2,h8.trans h3,h9.trans h4⟩
theorem Znr{b:AS}{w:World}{g:Gh}{tmps:Array Value} : ∀ (l:List Nat) {F:Nat->AV},(∀n∈l,VR w g (b.F n) (tmps.getD n undef))->Fr w g F tmps->Fr w g (Zt2 b l F) tmps
 | [],_,_,h=>h
 |n::l,F,hv,h=>Znr l (fun m hm=>hv m (by simp [hm])) (h.upd (hv n (by simp)))
theorem Zho{s s' :AS}{w w' :World}{g g' :Gh}{ow ow' :Nat->Nat->Prop}{a a' :Act}(hs:SR E B s w g ow a)(hs' :SR E' B s' w' g' ow' a')(hnt:E'.nt=E.nt){e:Zhb}{fz0 fzN:List Nat}{x:ElR e.roots}
  (hk:Lk E' w g a w' g' a') (hks: ∀n∈e.kept,n∈E'.ks) (hkv: ∀n∈e.kv,n∈E'.ks) (hH: ∀id∈ZaC s e,s'.H id=s.H id) (hD: ∀id∈ZaC s e,Zj2 s.H id=true) (hfz: ∀id∈ZaC s e,id∈fz0) (hfN: ∀id∈fzN,id∈ZaC s e)
  (h:ZgW s fz0 e s' =some x): ∃g2 ow2,SR E B (Zls s fzN e x) w' g2 ow2 a' /\g.Le g2/\Zbe g.I w w' /\ ∀id∈ZaC s e,(Zls s fzN e x).H id=s.H id:=by
 unfold ZgW at h
 cases hkf:Zur s s' e.kf with
 |false=>rw[hkf]at h;simp at h
 |true=>
  rw[hkf]at h;simp only[cond_true]at h;obtain⟨g2,ow2,hs2,h1,h2,h3,h4⟩:=ZrU hs hs' hnt hk hks hH hD hfz hfN h;obtain⟨⟨ow3,r1⟩,r2,r3,r4⟩:=Zpp (fz:=ZaC s e) hs.rh hs.fr hs'.rh hs'.fr h1 h4 e.kf hkf hs2.rh hs2.fr;refine⟨g2,ow3,⟨r1, ?_,hs2.nt,hs2.df,fun id hid=> ?_,fun id hid=> ?_⟩,h1,h2,fun id hid=>Znu hid⟩
  ·refine Znr e.kv (fun n hn=> ?_) (by rw[r2];exact hs2.fr);rw[hk.ks n (hkv n hn)];exact(hs.fr n).mono h2 h1
  ·show id< (Zs8 s (ZaC s e) e.kf (Zom s fzN e x)).nx;rw[r4];exact hs2.ids id hid
  ·have hm:=hfN id hid;exact(Ze3 (Znu hm)).trans (hD id hm)
def ZuQ:Ex->Exit
 | .normal=> .normal
 | .exit id=> .exit id
 | .ret=> .ret
theorem Ex.beq_eq{x y:Ex}(h:x.beq y=true):x=y:=by
 cases x<;>cases y<;>simp [Ex.beq]at h
 ·rfl
 ·rw[h]
 ·rfl
theorem Zie{ρ:Type}{b s' :AS}{fz:List Nat}{k:Ex->AS->Option ρ}{r:ρ}{x:Ex} : ∀ (J:ZgR) (o:Zfc J),ZeC b fz J x s' =some o->Zfg b J o k=some r-> ∃f∈J,x=f.1/\ ∃y,ZgW b fz f.2 s' =some y/\k x (Zls b b.fz f.2 y)=some r
 | [],o,h,_=>by simp [ZeC]at h
 | [f],o,h,hu=>by
  simp only[ZeC]at h
  cases hb:x.beq f.1 with
  |false=>rw[hb]at h;simp at h
  |true=>
   rw[hb]at h;have:=Ex.beq_eq hb;simp only[Zfg]at hu
   exact⟨f,by simp,this,o,h,this▸hu⟩
 |f::f2::l,o,h,hu=>by
  simp only[ZeC]at h
  cases hb:x.beq f.1 with
  |true=>
   rw[hb]at h;simp only[cond_true,Option.bind_eq_some_iff,Option.some.injEq]at h;obtain⟨y,hy,rfl⟩:=h;have:=Ex.beq_eq hb;simp only[Zfg]at hu
   exact⟨f,by simp,this,y,hy,this▸hu⟩
  |false=>
   rw[hb]at h;simp only[cond_false,Option.bind_eq_some_iff,Option.some.injEq]at h;obtain⟨y,hy,rfl⟩:=h;simp only[Zfg]at hu;obtain⟨f',h1,h2⟩:=Zie (f2::l) y hy hu;exact⟨f',by simp [h1],h2⟩
theorem Zgy{e:Zhb} : ∀ {J:ZgR},ZcC e J=true-> ∀f∈J, ∀n∈f.2.kept,n∈e.kept
 | [],_,f,hf=>by simp at hf
 |q::l,h,f,hf=>by
  simp only[ZcC,Bool.and_eq_true]at h;rcases List.mem_cons.1 hf with rfl|hf
  ·exact fun n hn=>Za7.1 (List.all_eq_true.1 h.1.1.1 n hn)
  ·exact Zgy h.2 f hf
theorem ZiA{e:Zhb} : ∀ {J:ZgR},ZcC e J=true-> ∀f∈J, ∀n∈f.2.kv,n∈e.kv
 | [],_,f,hf=>by simp at hf
 |q::l,h,f,hf=>by
  simp only[ZcC,Bool.and_eq_true]at h;rcases List.mem_cons.1 hf with rfl|hf
  ·exact fun n hn=>Za7.1 (List.all_eq_true.1 h.1.1.2 n hn)
  ·exact ZiA h.2 f hf
def Zik(E:Env)(B:Zb7)(s:AS)(w:World)(g:Gh)(a:Act){ρ:Type}(k:Ex->AS->Option ρ)(r:ρ):Exit->Act->World->Prop:=fun e a' w' =>
 ∃x s' g' ow',ZuQ x=e/\SR E B s' w' g' ow' a' /\Ln E s w g a s' w' g' a' /\k x s' =some r
theorem Zik.out{s s1:AS}{w w1:World}{g g1:Gh}{ow ow1:Nat->Nat->Prop}{a a1:Act}{en:Zhb}{J:ZgR}{ρ:Type}{k:Ex->AS->Option ρ}{r:ρ}(hs:SR E B s w g ow a)(hkept:Zem s en.kept=true)(hJ:ZcC en J=true)
  (hl:Lk (ZbC E en) w g a w1 g1 a1) (hs1:SR (ZbC E en) B s1 w1 g1 ow1 a1) (hH: ∀id∈ZaC s en,s1.H id=s.H id) {x:Ex}{o:Zfc J} (ho:ZeC s (ZaC s en) J x s1=some o) (hu:Zfg s J o k=some r):Zik E B s w g a k r (ZuQ x) a1 w1:=by
 obtain⟨f,hf,hx,y,hy,hk⟩:=Zie J o ho hu
 have hsub: ∀id∈ZaC s f.2,id∈ZaC s en:=fun id hid=>by
  rcases List.mem_append.1 hid with h|h
  ·exact List.mem_append_left _ (Zk5 (Zgy hJ f hf) id h)
  ·exact List.mem_append_right _ h
 have hks: ∀n∈f.2.kept,n∈(ZbC E en).ks:=fun n hn=>List.mem_append_left _ (Zgy hJ f hf n hn);obtain⟨g2,ow2,h1,h2,h3,h4⟩:=Zho (E' :=ZbC E en) hs hs1 rfl (fzN:=s.fz) hl hks (fun n hn=>List.mem_append_right _ (List.mem_append_left _ (ZiA hJ f hf n hn))) (fun id hid=>hH id (hsub id hid)) (fun id hid=>Zf7 hkept hs.fz id (hsub id hid)) hsub (fun id hid=>List.mem_append_right _ hid) hy;exact⟨x,_,g2,ow2,rfl,h1,⟨⟨h2,h3,fun t ht=>hl.ks t (List.mem_append_right _ (List.mem_append_right _ ht))⟩,rfl,fun id hid=>h4 id (List.mem_append_right _ hid)⟩,hk⟩
theorem SR.kept{s:AS}{w:World}{g:Gh}{ow:Nat->Nat->Prop}{a:Act}(hs:SR E B s w g ow a){e:Zhb}(hk:Zem s e.kept=true):SR (ZbC E e) B {s with fz:=ZaC s e} w g ow a:=
 ⟨hs.rh,hs.fr,hs.nt,hs.df,hs.ids,fun id hid=>Zf7 hk hs.fz id hid⟩
theorem ZaB.kept(h:ZaB P E)(e:Zhb):ZaB P (ZbC E e):=⟨h.ty,h.mty,h.pk,h.bd⟩
theorem Zcp.kept(h:Zcp P E B)(e:Zhb):Zcp P (ZbC E e) B:=⟨h.ok,h.amb,h.pl⟩
theorem ZkC{c:Code}{Q:Exit->Act->World->Prop}(Inv:Nat->Act->World->Prop){n:Nat}{a:Act}{w:World}(h0:Inv n a w)
  (round: ∀n a w,Inv n a w->c.wp P (Exit.then (fun a' w' => ∃m,m<n/\Inv m a' w') Q) a w): (Code.loop c).wp P Q a w:=by
 classical
 have hex: ∀a w,(∃n,Inv n a w)-> ∃n,Inv n a w/\ ∀m,Inv m a w->n<=m:=by
  intro a w ⟨n,hn⟩
  induction n using Nat.strongRecOn with
  |_ n ih=>
   by_cases h: ∃m,m<n/\Inv m a w
   ·obtain⟨m,h1,h2⟩:=h;exact ih m h1 h2
   ·exact⟨n,hn,fun m hm=>Nat.le_of_not_lt fun h' =>h ⟨m,h',hm⟩⟩
 refine wp_loop (fun a w=> ∃n,Inv n a w) (fun a w=>if h: ∃n,Inv n a w then(hex a w h).choose else 0) ⟨n,h0⟩ fun a w hI=> ?_
 have hsp:=(hex a w hI).choose_spec;refine wp_mono (round _ a w hsp.1) fun e a' w' hq=> ?_
 cases e with
 |normal=>
  obtain⟨m,hm,hi⟩:=hq;refine⟨⟨m,hi⟩, ?_⟩;simp only[dif_pos hI,dif_pos (show∃n,Inv n a' w' from ⟨m,hi⟩)];have:=(hex a' w' ⟨m,hi⟩).choose_spec.2 m hi
  omega
 |_=>exact hq
theorem Znq{σ τ:Type}{step:σ->Option (σ ⊕ τ)}{s:σ}{r:τ}(h:run step s=some r): ∃n,Ziw step n s=some r:=by
 unfold run at h;split at h
 ·rename_i r' hr;exact⟨100000,hr.trans h⟩
 split at h
 ·rename_i hex;simp only[Option.some.injEq]at h;obtain⟨n,hn⟩:=hex.choose_spec;exact⟨n,h▸hn⟩
 ·simp at h
theorem ZlI{it id:Nat}{s:AS}{kt vt:Ty}{rest:List (El kt×El vt)}{cur:Option (El kt×El vt)}(h1:s.F it= .ptr id [])(h2:s.H id=some (.rng kt vt rest cur)):ZfG it s=bif rest.isEmpty then 1 else rest.length:=by unfold ZfG;rw[h1];simp only;rw[h2]
theorem ZiC(it:Nat)(s:AS):0<ZfG it s:=by
 unfold ZfG;split
 ·split
  ·rename_i rest _ _
   cases rest<;>simp
  ·exact Nat.one_pos
 ·exact Nat.one_pos
theorem ZrW(hT:ZaB P E)(hS:Zcp P E B){ops:Array Oper}{s:AS}{w:World}{g:Gh}{ow:Nat->Nat->Prop}{a:Act}(hs:SR E B s w g ow a){id it:Nat}{ρ:Type}{k:AS->Option ρ}
  (h: ∀i,i<ZfG it s-> ∃r,Zka E ops it i ρ s k=some r):
  (Code.region id ops false).wp P (fun e a' w' => ∃i s' g' ow' r,i<ZfG it s/\e= .normal/\SR E B s' w' g' ow' a' /\Ln E s w g a s' w' g' a' /\Zka E ops it i ρ s k=some r/\k s' =some r) a w:=by
 obtain⟨r0,hr0⟩:=h 0 (ZiC it s);have hr0' :=hr0;unfold Zka at hr0;split at hr0
 ·simp at hr0
 ·rename_i o i0 l hz
  have hops:ops[0]? =some o/\i0=0:=by
   have:ops.toList.zipIdx[0]? =some (o,i0):=by rw[hz];rfl
   rw[List.getElem?_zipIdx]at this;simp only[Option.map_eq_some_iff,Nat.add_zero,Prod.mk.injEq]at this;obtain⟨o',h1,rfl,rfl⟩:=this;exact⟨by simpa using h1,rfl⟩
  obtain⟨ho0,rfl⟩:=hops;split at hr0
  ·rename_i it' d hop hgd hdst
   cases hc: (Nat.beq it' it&&Zfr E (some d)) with
   |false=>rw[hc]at hr0;simp at hr0
   |true=>
    rw[hc]at hr0;simp only[cond_true]at hr0;simp only[Bool.and_eq_true]at hc;obtain⟨hit,hdk⟩:=hc;have hit:=Nat.eq_of_beq_eq_true hit;subst hit;split at hr0
    ·rename_i rid hF;split at hr0
     ·rename_i kt vt rest cur hH
      have step: ∃i v val w' H1,i<ZfG it' s/\(execOp a.eval o).run P w= .ok (.value val) w' /\RH B H1 w' g ow/\Zbe g.I w w' /\VR w' g v val/\(∀id∈s.fz,H1 id=s.H id)/\
        Zka E ops it' i ρ s k=Zfa E ops s.nx s.fz ρ l (Zgd s.F (some d) v) H1 [] fun F H _=>k ⟨F,H,s.nx+ops.size*ZaG,s.fz⟩:=by
       have hm:ZdN rid s.fz=false:=by
        cases hm:ZdN rid s.fz with
        |false=>rfl
        |true=>rw[hm]at hr0;simp at hr0
       cases rest with
       |nil=>
        obtain⟨h1,h2⟩:=Znw (P:=P) hs.rh hs.fr hop hF hH;refine⟨0,_,_,w,s.H,ZiC _ _,h1,hs.rh,fun _ _=>rfl,h2,fun _ _=>rfl, ?_⟩;unfold Zka;rw[hz];simp only[hop,hgd,hdst];rw[hF];simp only;rw[hH]
        simp only[Nat.beq_refl,hdk,Bool.and_self,cond_true,hm,cond_false,List.isEmpty_nil]
       |cons e0 r0=>
        obtain⟨i,kv,val,w',h1,h2,h3,h4,h5,h6⟩:=Zst hs.rh hs.fr hop hF hH (by simp);refine⟨i,_,val,w',_,by rw[ZlI hF hH];exact h1,h3,h4,h5,h6, ?_, ?_⟩
        ·intro id hid;refine ZaD fun e=> ?_;subst e;rw[Za7.2 hid]at hm;simp at hm
        ·unfold Zka;rw[hz];simp only[hop,hgd,hdst];rw[hF];simp only;rw[hH];simp only[hm,cond_false,h2,Option.bind_some,Nat.beq_refl,hdk,Bool.and_self,cond_true,List.isEmpty_cons]
      obtain⟨i,v,val,w',H1,hi,hrun,hR1,hag,hv,hfz,hK⟩:=step;obtain⟨r,hr⟩:=h i hi;rw[hK]at hr;obtain⟨F',H',tr',hae,hk⟩:=ZeO hr
      have hnd: (l.map Prod.snd).Nodup/\(∀p∈l,ops[p.2]? =some p.1)/\List.range ops.size=0::l.map Prod.snd:=by
       have h1:ops.toList.zipIdx.map Prod.snd=0::l.map Prod.snd:=by rw[hz];rfl
       rw[Zmd]at h1;refine⟨?_,fun p hp=> ?_,h1⟩
       ·have:=List.nodup_range (n:=ops.size);rw[h1]at this;exact(List.nodup_cons.1 this).2
       ·have:p∈ops.toList.zipIdx:=by rw[hz];simp [hp]
        rw[List.mem_zipIdx_iff_getElem?]at this;simpa using this
      have hex:=hae.ex hnd.1 hnd.2.1 (fun _ _=>rfl)
      have h0l:0 ∉ l.map Prod.snd:=by have:=List.nodup_range (n:=ops.size);rw[hnd.2.2]at this;exact(List.nodup_cons.1 this).1
      refine wp_region ?_;rw[hnd.2.2,wpOps_cons];unfold wpOp;rw[ho0];simp only;rw[Zgi (ops:=ops) (b:=true) hs.fr (by simp [ZbY,hgd])];simp only[if_true];refine .inl ?_;unfold Oper.wp;rw[hrun]
      have hdlt: ∀e,o.dst=some e->e<a.tmps.size:=fun e he=>by rw[hdst]at he;cases he;rw[hs.nt];exact(Ze5 hdk).1
      have hI:RI E B s.nx (Zgd s.F (some d) v) H1 w' (a.put o.dst val) g ow (fun j=>j=0):=⟨hR1,by have:=(hs.fr.mono hag (.refl g)).put (d:=o.dst) hv hdlt;rw[hdst]at this ⊢;exact this,ZjE.trans hs.nt,Zgs.trans hs.df,fun id hid=> .inl (hs.ids id hid)⟩
      show wpOps P ops _ (l.map Prod.snd) (a.put o.dst val) w';refine ZjU hT hS hex hnd.1 (fun j hj (e:j=0)=>h0l (e▸hj)) hI fun a' w2 g' ow' hI' hl=> ?_;refine⟨i,⟨F',H',s.nx+ops.size*ZaG,s.fz⟩,g',ow',r,hi,rfl,⟨hI'.rh,hI'.fr,hI'.nt,hI'.df,fun id hid=> ?_,fun id hid=> ?_⟩,⟨⟨hl.le,hag.trans hl.ag fun _ h=>h,fun t ht=> ?_⟩,rfl,fun id hid=> ?_⟩,hK.trans hr,hk⟩
      ·have hpos:0<ops.size:=(Array.getElem?_eq_some_iff.1 ho0).1;rcases hI'.ids id hid with h1| ⟨j,h1,h2,h3⟩
       ·show id<s.nx+ops.size*ZaG;unfold ZaG;omega
       ·have hj:j<ops.size:=by
         have:j∈List.range ops.size:=by
          rw[hnd.2.2];rcases h1 with h1|rfl
          ·exact List.mem_cons_of_mem _ h1
          ·simp
         simpa using this
        show id<s.nx+ops.size*ZaG;unfold ZaG at*;omega
      ·exact(Ze3 ((hae.keptH id hid).trans (hfz id hid))).trans (hs.fz id hid)
      ·rw[hl.ks t ht,hdst];refine ZjZ fun e he hte=> ?_;cases he;exact(Ze5 hdk).2 (hte▸ht)
      ·exact(hae.keptH id hid).trans (hfz id hid)
     ·simp at hr0
    ·simp at hr0
  ·simp at hr0
theorem Zk6{σ τ ρ:Type}{cnt:σ->Nat}{step:σ->Nat->Option (σ ⊕ τ)}{k:τ->Option ρ}{s:σ}{z:ρ}(h:drun cnt step k s=some z): ∃n,Zoo cnt step k z n s:=by
 have hfix: ∀ (n:Nat) (s:σ) (z:ρ),Zul cnt step k n s=some z->Zoo cnt step k z n s:=by
  intro n
  induction n with
  |zero=>intro s z h;simp [Zul]at h
  |succ n ih=>
   intro s z h i hi;simp only[Zul]at h
   cases hb:Nat.ble (cnt s) 1 with
   |false=>rw[hb]at h;simp at h
   |true=>
    have hb' :=Nat.le_of_ble_eq_true hb;rw[hb]at h;simp only[cond_true]at h;have hi0:i=0:=by omega
    subst hi0;split at h
    ·rename_i s' hs;exact .inl ⟨s',hs,ih s' z h⟩
    ·rename_i t ht;exact .inr ⟨t,ht,h⟩
    ·simp at h
 unfold drun at h;split at h
 ·rename_i r hr;exact⟨1000,hfix 1000 s z (hr.trans h)⟩
 split at h
 ·rename_i hex;simp only[Option.some.injEq]at h;obtain⟨n,hn⟩:=hex.choose_spec;exact⟨n,h▸hn⟩
 ·simp at h
theorem ZbX(hm:P.follows .mixedOrders=true): ∀ (c:Code) (h:ZaT) (E:Env) (ρ:Type) (s:AS) (k:Ex->AS->Option ρ) (r:ρ),ZaB P E->Zcp P E B->ZbP c h E ρ s k=some r->
  ∀ {w:World}{g:Gh}{ow:Nat->Nat->Prop}{a:Act},SR E B s w g ow a->c.wp P (Zik E B s w g a k r) a w
 | .skip,_,E,ρ,s,k,r,_,_,h,w,g,ow,a,hs=>by
  simp only[ZbP]at h
  exact wp_skip ⟨.normal,s,g,ow,rfl,hs, .refl s w g a,h⟩
 | .region id ops draw,hint,E,ρ,s,k,r,hT,hS,h,w,g,ow,a,hs=>by
  simp only[ZbP]at h;refine wp_mono (Zof hm hT hS hs h) ?_;rintro e a' w' ⟨s',g',ow',rfl,h1,h2,h3⟩
  exact⟨.normal,s',g',ow',rfl,h1,h2,h3⟩
 | .seq x y,hint,E,ρ,s,k,r,hT,hS,h,w,g,ow,a,hs=>by
  simp only[ZbP]at h;refine wp_seq (wp_mono (ZbX hm x hint.l E ρ s _ r hT hS h hs) ?_);rintro e a' w' ⟨ex,s',g',ow',rfl,h1,h2,h3⟩
  cases ex with
  |normal=>
   refine wp_mono (ZbX hm y hint.r E ρ s' k r hT hS h3 h1) ?_;rintro e a2 w2 ⟨ex2,s2,g2,ow2,rfl,h4,h5,h6⟩
   exact⟨ex2,s2,g2,ow2,rfl,h4,h2.trans h5,h6⟩
  |exit id=>exact⟨.exit id,s',g',ow',rfl,h1,h2,h3⟩
  |ret=>exact⟨.ret,s',g',ow',rfl,h1,h2,h3⟩
 | .cond c x y,hint,E,ρ,s,k,r,hT,hS,h,w,g,ow,a,hs=>by
  simp only[ZbP]at h;split at h
  ·rename_i t ht;have hv:=hs.fr.eval c;rw[ht]at hv;refine wp_cond hv.bool ?_
   cases hj:hint.join with
   |none=>
    rw[hj]at h
    cases t with
    |true=>exact ZbX hm x hint.l E ρ s k r hT hS h hs
    |false=>exact ZbX hm y hint.r E ρ s k r hT hS h hs
   |some eJ=>
    obtain⟨e,J⟩:=eJ;rw[hj]at h;simp only at h
    cases hc: (Zem s e.kept&&ZcC e J) with
    |false=>rw[hc]at h;simp at h
    |true=>
     rw[hc]at h;simp only[cond_true]at h;simp only[Bool.and_eq_true]at hc;rw[Option.bind_eq_some_iff]at h;obtain⟨o,ho,hu⟩:=h
     have fin: ∀ (z:Code) (hz:ZaT),ZbP z hz (ZbC E e) (Zfc J) {s with fz:=ZaC s e} (ZeC s (ZaC s e) J)=some o->(∀ {w:World}{g:Gh}{ow:Nat->Nat->Prop}{a:Act},SR (ZbC E e) B {s with fz:=ZaC s e} w g ow a->z.wp P (Zik (ZbC E e) B {s with fz:=ZaC s e} w g a (ZeC s (ZaC s e) J) o) a w)->z.wp P (Zik E B s w g a k r) a w:=by intro z hz _ ih;refine wp_mono (ih (hs.kept hc.1)) ?_;rintro e' a' w' ⟨ex,s',g',ow',rfl,h1,h2,h3⟩;exact Zik.out hs hc.1 hc.2 h2.lk h1 h2.hz h3 hu
     cases t with
     |true=>exact fin x hint.l ho (ZbX hm x hint.l (ZbC E e) _ _ _ o (hT.kept e) (hS.kept e) ho)
     |false=>exact fin y hint.r ho (ZbX hm y hint.r (ZbC E e) _ _ _ o (hT.kept e) (hS.kept e) ho)
  ·simp at h
 | .block id c,hint,E,ρ,s,k,r,hT,hS,h,w,g,ow,a,hs=>by
  simp only[ZbP]at h;refine wp_block (wp_mono (ZbX hm c hint E ρ s _ r hT hS h hs) ?_);rintro e a' w' ⟨ex,s',g',ow',rfl,h1,h2,h3⟩
  cases ex with
  |normal=>exact⟨.normal,s',g',ow',rfl,h1,h2,h3⟩
  |exit i=>
   simp only at h3;simp only[ZuQ,Exit.inBlock]
   cases hb:Nat.beq i id with
   |true=>
    rw[hb]at h3;rw[if_pos (Nat.eq_of_beq_eq_true hb)]
    exact⟨.normal,s',g',ow',rfl,h1,h2,h3⟩
   |false=>
    rw[hb]at h3;rw[if_neg fun e=>by rw[e]at hb;simp at hb]
    exact⟨.exit i,s',g',ow',rfl,h1,h2,h3⟩
  |ret=>exact⟨.ret,s',g',ow',rfl,h1,h2,h3⟩
 | .loop c,hint,E,ρ,s,k,r,hT,hS,h,w,g,ow,a,hs=>by
  cases hint with
  |lp en J hb=>
   simp only[ZbP]at h
   cases hc: (Zem s en.kept&&ZcC en J&&Zeo en.slots) with
   |false=>rw[hc]at h;simp at h
   |true=>
    rw[hc]at h;simp only[cond_true,Option.bind_eq_some_iff]at h;simp only[Bool.and_eq_true]at hc;obtain⟨x,hx,o,hrun,hu⟩:=h;obtain⟨n,hn⟩:=Znq hrun;have hsub: ∀id∈ZaC s en,id∈ZaC s en:=fun _ h=>h;have hDk:=Zf7 hc.1.1 hs.fz;have start:=Zho (E:=ZbC E en) (E' :=ZbC E en) (s' :=s) (fz0:=ZaC s en) (fzN:=ZaC s en) ⟨hs.rh,hs.fr,hs.nt,hs.df,hs.ids,hs.fz⟩ ⟨hs.rh,hs.fr,hs.nt,hs.df,hs.ids,hs.fz⟩ rfl (.refl w g a) (fun n hn=>List.mem_append_left _ hn) (fun n hn=>List.mem_append_right _ (List.mem_append_left _ hn)) (fun _ _=>rfl) hDk hsub hsub hx;obtain⟨g1,ow1,s1,le1,_,hz1⟩:=start
    refine ZkC (fun n a' w' => ∃y g' ow',Ziw (fun y=>ZbP c hb (ZbC E en) (ElR en.roots ⊕ Zfc J) (Zls s (ZaC s en) en y) fun e s' =>match e with
     | .normal=>(ZgW s (ZaC s en) en s').bind fun z=>some (.inl z)
     |e=>(ZeC s (ZaC s en) J e s').bind fun z=>some (.inr z)) n y=some o/\SR (ZbC E en) B (Zls s (ZaC s en) en y) w' g' ow' a' /\Lk (ZbC E en) w g a w' g' a') (n:=n) ⟨x,g1,ow1,hn,s1,⟨le1,fun _ _=>rfl,fun _ _=>rfl⟩⟩ ?_
    rintro n a' w' ⟨y,g',ow',hit,hsr,hlk⟩;have hHy: ∀id∈ZaC s en,(Zls s (ZaC s en) en y).H id=s.H id:=fun id hid=>Znu hid
    cases n with
    |zero=>simp [Ziw]at hit
    |succ n=>
     simp only[Ziw]at hit;split at hit
     ·rename_i y' hst;refine wp_mono (ZbX hm c hb (ZbC E en) _ _ _ _ (hT.kept en) (hS.kept en) hst hsr) ?_;rintro e a2 w2 ⟨ex,s2,g2,ow2,rfl,h1,h2,h3⟩
      cases ex with
      |normal=>
       simp only[Option.bind_eq_some_iff,Option.some.injEq,Sum.inl.injEq]at h3;obtain⟨z,hz,rfl⟩:=h3;have hl2:=hlk.trans h2.lk;obtain⟨g3,ow3,s3,le3,ag3,_⟩:=Zho (E:=ZbC E en) (E' :=ZbC E en) (s:=s) (fz0:=ZaC s en) (fzN:=ZaC s en) ⟨hs.rh,hs.fr,hs.nt,hs.df,hs.ids,hs.fz⟩ h1 rfl hl2 (fun n hn=>List.mem_append_left _ hn) (fun n hn=>List.mem_append_right _ (List.mem_append_left _ hn)) (fun id hid=>(h2.hz id hid).trans (hHy id hid)) hDk hsub hsub hz
       exact⟨n,Nat.lt_succ_self n,z,g3,ow3,hit,s3,⟨le3,ag3,hl2.ks⟩⟩
      |exit i=>simp only[Option.bind_eq_some_iff,Option.some.injEq,reduceCtorEq,and_false,exists_false]at h3
      |ret=>simp only[Option.bind_eq_some_iff,Option.some.injEq,reduceCtorEq,and_false,exists_false]at h3
     ·rename_i o' hst;simp only[Option.some.injEq]at hit;subst hit;refine wp_mono (ZbX hm c hb (ZbC E en) _ _ _ _ (hT.kept en) (hS.kept en) hst hsr) ?_;rintro e a2 w2 ⟨ex,s2,g2,ow2,rfl,h1,h2,h3⟩
      have fin: ∀x:Ex,x≠ .normal->ZeC s (ZaC s en) J x s2=some o' ->Zik E B s w g a k r (ZuQ x) a2 w2:=fun x _ ho=>
       Zik.out hs hc.1.1 hc.1.2 (hlk.trans h2.lk) h1 (fun id hid=>(h2.hz id hid).trans (hHy id hid)) ho hu
      cases ex with
      |normal=>simp only[Option.bind_eq_some_iff,Option.some.injEq,reduceCtorEq,and_false,exists_false]at h3
      |exit i=>
       simp only[Option.bind_eq_some_iff,Option.some.injEq,Sum.inr.injEq]at h3;obtain⟨z,hz,rfl⟩:=h3
       exact fin (.exit i) (by simp) hz
      |ret=>
       simp only[Option.bind_eq_some_iff,Option.some.injEq,Sum.inr.injEq]at h3;obtain⟨z,hz,rfl⟩:=h3;exact fin .ret (by simp) hz
     ·simp at hit
  |lpd it en J hb=>
   cases c with
   |seq c1 c2=>
    cases c1 with
    |region id ops draw=>
     cases draw with
     |true=>simp [ZbP]at h
     |false=>
      simp only[ZbP]at h
      cases hc: (Zem s en.kept&&ZcC en J&&Zeo en.slots) with
      |false=>rw[hc]at h;simp at h
      |true=>
       rw[hc]at h;simp only[cond_true,Option.bind_eq_some_iff]at h;simp only[Bool.and_eq_true]at hc;obtain⟨x,hx,hrun⟩:=h;obtain⟨n,hn⟩:=Zk6 hrun;have hsub: ∀id∈ZaC s en,id∈ZaC s en:=fun _ h=>h;have hDk:=Zf7 hc.1.1 hs.fz;have start:=Zho (E:=ZbC E en) (E' :=ZbC E en) (s' :=s) (fz0:=ZaC s en) (fzN:=ZaC s en) ⟨hs.rh,hs.fr,hs.nt,hs.df,hs.ids,hs.fz⟩ ⟨hs.rh,hs.fr,hs.nt,hs.df,hs.ids,hs.fz⟩ rfl (.refl w g a) (fun n hn=>List.mem_append_left _ hn) (fun n hn=>List.mem_append_right _ (List.mem_append_left _ hn)) (fun _ _=>rfl) hDk hsub hsub hx;obtain⟨g1,ow1,s1,le1,_,hz1⟩:=start
       refine ZkC (fun n a' w' => ∃y g' ow',Zoo (fun y=>ZfG it (Zls s (ZaC s en) en y)) (fun y i=>Zka (ZbC E en) ops it i (ElR en.roots ⊕ Zfc J) (Zls s (ZaC s en) en y) fun s1=>ZbP c2 hb (ZbC E en) (ElR en.roots ⊕ Zfc J) s1 fun e s' =>match e with
        | .normal=>(ZgW s (ZaC s en) en s').bind fun z=>some (.inl z)
        |e=>(ZeC s (ZaC s en) J e s').bind fun z=>some (.inr z)) (fun o=>Zfg s J o k) r n y/\SR (ZbC E en) B (Zls s (ZaC s en) en y) w' g' ow' a' /\Lk (ZbC E en) w g a w' g' a') (n:=n) ⟨x,g1,ow1,hn,s1,⟨le1,fun _ _=>rfl,fun _ _=>rfl⟩⟩ ?_
       rintro n a' w' ⟨y,g',ow',hit,hsr,hlk⟩;have hHy: ∀id∈ZaC s en,(Zls s (ZaC s en) en y).H id=s.H id:=fun id hid=>Znu hid
       cases n with
       |zero=>exact hit.elim
       |succ n=>
        simp only[Zoo]at hit
        have hnk:=ZrW (id:=id) (it:=it) (ops:=ops) (ρ:=ElR en.roots ⊕ Zfc J) (k:=fun s1=>ZbP c2 hb (ZbC E en) (ElR en.roots ⊕ Zfc J) s1 fun e s' =>match e with
         | .normal=>(ZgW s (ZaC s en) en s').bind fun z=>some (.inl z)
         |e=>(ZeC s (ZaC s en) J e s').bind fun z=>some (.inr z)) (hT.kept en) (hS.kept en) hsr (fun i hi=>by
          rcases hit i hi with ⟨y',h1,_⟩ | ⟨t,h1,_⟩
          ·exact⟨_,h1⟩
          ·exact⟨_,h1⟩)
        refine wp_seq (wp_mono hnk ?_);rintro e a2 w2 ⟨i,s2,g2,ow2,q,hi,rfl,hs2,hl2,hq,hk2⟩
        simp only[Exit.then]
        refine wp_mono (ZbX hm c2 hb (ZbC E en) _ _ _ _ (hT.kept en) (hS.kept en) hk2 hs2) ?_;rintro e a3 w3 ⟨ex,s3,g3,ow3,rfl,h1,h2,h3⟩;have hl3:=hlk.trans (hl2.lk.trans h2.lk);have hz3: ∀id∈ZaC s en,s3.H id=s.H id:=fun id hid=>((hl2.trans h2).hz id hid).trans (hHy id hid)
        have fin: ∀x:Ex,x≠ .normal->(ZeC s (ZaC s en) J x s3).bind (fun z=>some (.inr z))=some q->Zik E B s w g a k r (ZuQ x) a3 w3:=fun x _ ho=>by
         rw[Option.bind_eq_some_iff]at ho;obtain⟨z,ho,hq2⟩:=ho;simp only[Option.some.injEq]at hq2;subst hq2;rcases hit i hi with ⟨y',h4,_⟩ | ⟨t,h4,h5⟩
         ·rw[hq]at h4;simp at h4
         ·rw[hq]at h4;simp only[Option.some.injEq,Sum.inr.injEq]at h4;subst h4;exact Zik.out hs hc.1.1 hc.1.2 hl3 h1 hz3 ho h5
        cases ex with
        |normal=>
         simp only[Option.bind_eq_some_iff,Option.some.injEq]at h3;obtain⟨z,hz,rfl⟩:=h3;obtain⟨g4,ow4,s4,le4,ag4,_⟩:=Zho (E:=ZbC E en) (E' :=ZbC E en) (s:=s) (fz0:=ZaC s en) (fzN:=ZaC s en) ⟨hs.rh,hs.fr,hs.nt,hs.df,hs.ids,hs.fz⟩ h1 rfl hl3 (fun n hn=>List.mem_append_left _ hn) (fun n hn=>List.mem_append_right _ (List.mem_append_left _ hn)) hz3 hDk hsub hsub hz;rcases hit i hi with ⟨y',h4,h5⟩ | ⟨t,h4,_⟩
         ·rw[hq]at h4;simp only[Option.some.injEq,Sum.inl.injEq]at h4;subst h4;exact⟨n,Nat.lt_succ_self n,z,g4,ow4,h5,s4,⟨le4,ag4,hl3.ks⟩⟩
         ·rw[hq]at h4;simp at h4
        |exit i=>exact fin (.exit i) (by simp) h3
        |ret=>exact fin .ret (by simp) h3
    |_=>simp [ZbP]at h
   |_=>simp [ZbP]at h
  |_=>simp [ZbP]at h
 | .exit id,_,E,ρ,s,k,r,_,_,h,w,g,ow,a,hs=>by
  simp only[ZbP]at h
  exact wp_exit ⟨.exit id,s,g,ow,rfl,hs, .refl s w g a,h⟩
 | .ret,_,E,ρ,s,k,r,_,_,h,w,g,ow,a,hs=>by
  simp only[ZbP]at h
  exact wp_ret ⟨.ret,s,g,ow,rfl,hs, .refl s w g a,h⟩
 | .label _,_,E,ρ,s,k,r,_,_,h,w,g,ow,a,hs=>by
  simp only[ZbP]at h
  exact wp_label ⟨.normal,s,g,ow,rfl,hs, .refl s w g a,h⟩
 | .goto _,_,_,_,_,_,_,_,_,h,_,_,_,_,_=>by simp [ZbP]at h
 | .refuse _,_,_,_,_,_,_,_,_,h,_,_,_,_,_=>by simp [ZbP]at h
 | .scope c,hint,E,ρ,s,k,r,hT,hS,h,w,g,ow,a,hs=>by
  simp only[ZbP]at h;refine wp_scope_straight (wp_mono (ZbX hm c hint E ρ s k r hT hS h hs) ?_);rintro e a' w' ⟨ex,s',g',ow',rfl,h1,h2,h3⟩
  cases ex<;>exact⟨_,s',g',ow',rfl,h1,h2,h3⟩
 | .rangeFunc ..,_,_,_,_,_,_,_,_,h,_,_,_,_,_=>by simp [ZbP]at h
end
end Tr
