/- The code of the abstract machine is the code of the model. Conditions: the table of types is the program's, the specs are true, the program draws mixed orders. -/
import Derived.Scope
import Derived.KernelRfl
import Derived.Test.YtdpenljjnfmgiaaGreatETrU
open Array renaming getElem?_toList ->Vg,getD_eq_getD_getElem? ->Vh,replicate ->Vo
open Bool renaming and_eq_true ->Ve
open List renaming mem_append_left ->Vc,mem_append_right ->Vd,mem_cons ->Vi,nodup_append ->Vj,mem_append ->Vl,mem_singleton ->Vm,nodup_range ->Vr,all_eq_true ->Vs,replicate ->Vt
open Nat renaming eq_of_beq_eq_true ->Vb,beq ->Vf,lt_succ_self ->Vk,le_of_ble_eq_true ->Vp,ble ->Vu
open Option renaming bind_eq_some_iff ->Va
open Prod renaming snd ->Vq
open Sum.inl renaming injEq ->Vv
open Sum.inr renaming injEq ->Vn
open Option renaming some ->Ua,none ->Ub
open Bool renaming true ->Uc,false ->Ud
section
namespace Tr
open Go
theorem Zv3{s l m}(h:∀n∈l,n∈m):∀id∈DE s l,id∈DE s m:=by
 have key:∀m n,n∈m->∀id∈(match s.F n with|.fn _ b=>AV.boxes b|v=>RX s.H 8 v),id∈DE s m:=by
  intro m
  induction m with
  |nil=>simp|cons k m c=>
   intro n d id a;simp[DE];grind
 induction l with
 |nil=>intro id a;simp[DE]at a|cons n l c=>
  intro id a;simp[DE]at a;obtain a|a:=a;.exact key m n (by grind) id a
  grind
theorem ZlS{H}:∀{l},Zfn H l=Uc->∀id∈AV.boxes l,XR H id=Uc
 |.nil,_,id,b=>by simp[AV.boxes]at b|.cons v l,h,id,b=>by
  simp[Zfn]at h;simp[AV.boxes]at b;obtain b|b:=b
  .cases v with
   |ptr k p=>
    cases p with
    |nil=>
     simp[AV.box?]at b
     grind|cons a p=>grind
   |_=>simp[AV.box?]at b
  exact ZlS h.2 id b
theorem ZnM{s}:∀{l},G0 s l=Uc->∀id∈DE s l,XR s.H id=Uc
 |[],_,id,a=>by simp[DE]at a|n::l,h,id,a=>by
  simp[G0,Ve]at h;simp[DE]at a;obtain a|a:=a
  .have c:=h.1
   cases d:s.F n with
   |fn f b=>rw[d]at c a;exact ZlS c id a|ptr i p=>
    grind|vw _|nw _ _ _ _|mp _=>simp[RX,Vm]at a;grind|agg l=>grind|_=>rw[d]at a;simp[RX]at a
  exact ZnM h.2 id a
theorem Zgj{s e}(h:G0 s e.kept=Uc)(b:∀id∈s.fz,XR s.H id=Uc):∀id∈Z2 s e,XR s.H id=true:=by
 intro id a;obtain a|a:=Vl.1 a;.exact ZnM h id a
 grind
mutual
theorem Zk0{w0 w:X}{g0 g e:Gh}(q:∀b,g.I b->e.I b)(m:∀id,g0.K id->e.K id)(o:e.ty=g.ty)(r:e.blk=g.blk)(s:e.slv=g.slv)(z:e.ver=g.ver)(y:e.row=g.row):∀(v:AV) (j cs:V Y),CV w0 g0 v j->CV w g v cs->CV w e v cs
 |.d t x,_,cs,_,h=>Rd.mono (λ_ _=>rfl) q t x cs h|.junk,_,_,_,_=>by simp[CV]|.tup _,_,_,_,h=>by simp[CV]at h|.agg l,j,cs,a,h=>by simp only[CV]at a h⊢;exact ZhE q m o r s z y l j cs a h|.dp t x,_,cs,_,h=>by
  simp only[CV]at h⊢;obtain⟨b,off,c,F,A,C,J⟩:=h
  exact⟨b,off,c,F,q _ A,C,Rd.mono (λ_ _=>rfl) q t x c J⟩|.ptr id p,_,cs,a,h=>by
  simp only[CV]at a h⊢
  rw[o,r];exact⟨m _ a.1,h.2⟩|.vw id,_,cs,a,h=>by
  simp only[CV]at a h⊢
  rw[s];exact⟨m _ a.1,h.2⟩|.vs id U n,_,cs,a,h=>by
  simp only[CV]at a h⊢
  rw[s,o];exact⟨m _ a.1,h.2⟩|.vp id i p,_,cs,a,h=>by
  simp only[CV]at a h⊢
  rw[o,r];exact⟨m _ a.1,h.2⟩|.op id i,_,cs,a,h=>by
  simp only[CV]at a h⊢
  rw[s];exact⟨m _ a.1,h.2⟩|.mp id,_,cs,a,h=>by
  simp only[CV]at a h⊢
  rw[r];exact⟨m _ a.1,h.2⟩|.fn f l,j,cs,a,h=>by
  simp only[CV]at a h⊢;obtain⟨D,_,A⟩:=a;obtain⟨N,F,C⟩:=h
  exact⟨N,F,ZhE q m o r s z y l D N A C⟩|.nilr _,_,_,_,h|.nils,_,_,_,h|.jk _,_,_,_,h=>by simpa only[CV] using h|.nw id ver T k,_,cs,a,h=>by
  simp only[CV]at a h⊢
  rw[z,y];exact⟨m _ a.1,h.2⟩|.np id ver T k i p,_,cs,a,h=>by simp only[CV]at a h⊢;rw[z,y,o];exact⟨m _ a.1,h.2⟩
theorem ZhE{w0 w:X}{g0 g e:Gh}(q:∀b,g.I b->e.I b)(m:∀id,g0.K id->e.K id)(o:e.ty=g.ty)(r:e.blk=g.blk)(s:e.slv=g.slv)(z:e.ver=g.ver)(y:e.row=g.row):∀(l:ZF) (j cs:V Y),Kk w0 g0 l j->Kk w g l cs->Kk w e l cs|.nil,_,_,_,h=>by simpa only[Kk] using h|.cons v l,j,cs,a,h=>by simp only[Kk]at a h⊢;obtain⟨O,Q,_,A,C⟩:=a;obtain⟨L,M,J,R,S⟩:=h;exact⟨L,M,J,Zk0 q m o r s z y v O L A R,ZhE q m o r s z y l Q M C S⟩
end
theorem Zrl{w g i J id o H}(hH:H id=Ua o)(hd:XR H id=Uc)(j:∀b,g.I b->i.I b){w0 g0 J0}(hK:∀id,g0.K id->i.K id)(a1:i.ty=g.ty)(Q:i.blk=g.blk)(a0:i.slv=g.slv)(a2:i.ver=g.ver)(W:i.row=g.row)(n:ORel w0 g0 J0 id o)
 (h:ORel w g J id o):ORel w i J id o:=by
 have z:i.ty id=g.ty id:=by grind
 have y:i.blk id=g.blk id:=by grind
 have hs:i.slv id=g.slv id:=by grind
 have hv:i.ver id=g.ver id:=by grind
 have U:i.row id=g.row id:=by grind
 unfold XR at hd
 cases o with
 |var t c=>
  have⟨_,_,_,a3,_,_,_,_,_,s⟩:=n;have⟨n,hf,b,cs,e,l,d,p,q,r⟩:=h
  exact⟨z.trans n,hf,b,cs,e,y.trans l,d,p,q,Zk0 j hK a1 Q a0 a2 W c _ _ s r⟩|vec t xs=>
  have⟨n,h⟩:=h;refine⟨z.trans n,?_⟩;obtain⟨l,d,p⟩|⟨b,cap,cs,e,N,l,d,p,q,r,s,F,L⟩:=h;.grind
  exact .inr ⟨b,cap,cs,e,N,y.trans l,d,hs.trans p,q,r,s,F.mono λx c f=>Rd.mono (λ_ _=>rfl) j t x c f,L⟩|map kt vt m=>
  have⟨b,es,clock,l,d,p,R,q⟩:=h
  exact⟨b,es,clock,y.trans l,d,p,R,q.mono λkv e f=>⟨⟨by have:=f.1.1;exact Rd.mono (λ_ _=>rfl) j _ _ _ this,f.1.2⟩,⟨by have:=f.2.1;exact Rd.mono (λ_ _=>rfl) j _ _ _ this,f.2.2⟩⟩⟩|rows t xs v M=>
  have⟨n,l,d,p⟩:=h;refine⟨z.trans n,hv.trans l,?_,?_⟩;.rw[y,U];exact⟨λk x a b=>(d.rd k x a b).mono (λ_ _=>rfl) j (by simp) (by simp),d.ds,d.tp⟩
  grind|mrows kt t m v M=>
  have⟨n,l,d,p,q,b,es,clock,r,s,F,S,L⟩:=h;refine⟨z.trans n,hv.trans l,?_,p,?_,b,es,clock,y.trans r,s,F,S,?_⟩;.rw[y,U];exact⟨λk x a b=>(d.rd k x a b).mono (λ_ _=>rfl) j (by simp) (by simp),d.ds,d.tp⟩
  .grind
  rw[U];exact L.mono λkv e f=>⟨⟨by have:=f.1.1;exact Rd.mono (λ_ _=>rfl) j _ _ _ this,f.1.2⟩,f.2⟩|rng kt vt rest cur=>
  have⟨b,mb,es,clock,since,seen,n,l,d,p,q,r,s,F,L⟩:=h;refine⟨b,mb,es,clock,since,seen,z.trans n,y.trans l,d,p,q,r,s,F.mono λkv e f=>⟨⟨by have:=f.1.1;exact Rd.mono (λ_ _=>rfl) j _ _ _ this,f.1.2⟩,⟨by have:=f.2.1;exact Rd.mono (λ_ _=>rfl) j _ _ _ this,f.2.2⟩⟩,λkv T=>?_⟩;have⟨e,h9,A,O,C,D⟩:=L kv T
  exact⟨e,h9,A,O,⟨by have:=C.1;exact Rd.mono (λ_ _=>rfl) j _ _ _ this,C.2⟩,⟨by have:=D.1;exact Rd.mono (λ_ _=>rfl) j _ _ _ this,D.2⟩⟩|dat t xs=>exact⟨z.trans h.1,by rw[hs];exact Rd.mono (λ_ _=>rfl) j _ _ _ h.2⟩|vco lb xs=>exact⟨z.trans h.1,by rw[hs];exact h.2.mono (λ_ _=>rfl) j (λ_ _ h=>h) λ_ _ _=>rfl⟩|fnd tn tq lt lb x=>grind
theorem Zn6{w g}{tmps:Array Y}:∀l,(∀q∈l,Kw w g q.2 (tmps.getD q.1 undef))->∀k,Kw w g (ZaZ l k) (tmps.getD k undef)
 |[],_,k=>⟨by simp[CV,ZaZ],.inl rfl⟩|q::l,h,k=>by
  simp only[ZaZ]
  cases a:Vf k q.1 with|true=>simp_all|false=>exact Zn6 l (by grind) k
section
variable {P:Program}{E E' :Kh}{B:KR}
theorem Zl2{w w1 g r F i tmps}(hF:Fr w g F tmps)(d:∀k,(∀m,i k≠ .tup m)->Kw w1 r (i k) (tmps.getD k undef)):∀c l j,RS F c l=Uc->Kk w g c j->
 (∀n∈l,∀m,i n≠ .tup m)->Kk w1 r (ZF.ofList (l.map i)) j
 |.nil,[],j,_,y,_=>by assumption|.nil,_::_,_,h,_,_|.cons _ _,[],_,h,_,_=>by simp[RS]at h|.cons v vs,n::l,j,h,y,Q=>by
  simp[RS]at h;obtain⟨C,q,rfl,D,J⟩:=y;refine⟨C,q,rfl,?_,Zl2 hF d vs l q h.2 J (by grind)⟩;have f:=h.1
  cases v with
  |ptr id p=>
   cases p with
   |nil=>
    simp[AV.box?]at f
    cases e:F n with
    |ptr R A=>
     cases A with
     |nil=>
      rw[e]at f;have:=Vb f;subst this;have z:=hF n;rw[e]at z;have⟨_,o,t,b,K,L,M⟩:=z.ptr;have⟨_,T,U,S,s,x,N⟩:=D;rw[K]at s;cases s;rw[L]at x;cases x;have O:=(d n (by grind)).1;rw[M]at O;rw[N]
      assumption|cons a A=>grind
    |_=>grind
   |cons a p=>simp[AV.box?]at f
  |_=>simp[AV.box?]at f
theorem Zlm{w w1 g s F o tmps}(hF:Fr w g F tmps)(e:Fr w1 s o tmps)(q:∀k m,o k=.tup m->∀id,F k≠ .ptr id []):∀l,Zd0 F l=Uc->Fr w1 s (Zh0 o l) tmps
 |[],_=>e|(n,f,l)::m,h=>by
  simp[Zd0]at h;refine(Zlm hF e q m h.2).upd ?_;have d:=h.1;have j:=hF n;split at d
  .rename_i A b c;simp only[Ve]at d;have:=Vb d.1;subst this;rw[c]at j;have⟨r,x,y⟩:=j.fn;rw[x];refine⟨?_,.inr (Zne _ _)⟩;simp[Zvt];have i:∀b l,RS F b l=Uc->∀n∈l,∃id,F n=.ptr id []:=by
    intro b l
    induction l generalizing b with
    |nil=>simp|cons k l C=>
     intro h n t
     cases b with
     |nil=>simp[RS]at h|cons v vs=>
      simp[RS]at h;obtain rfl|t:=Vi.1 t
      .have d:=h.1
       cases c:F n with
       |ptr id p=>
        cases p with|nil=>simp|cons a p=>rw[c]at d;cases j:v.box? <;>simp[AV.box?]at d
       |_=>rw[c]at d;cases j:v.box? <;>simp[AV.box?]at d
      grind
   exact⟨r,by rfl,Zl2 hF (λk z=>(e k).to1 z) b l r d.2 y (by grind)⟩
  grind
theorem ZrN{w g x y u v}(a:VR w g x u)(c:VR w g y v)(h:Zh7 x y=Uc):u=v:=by
 unfold Zh7 at h;split at h;.have:=Vb h;subst this;rw[a.vw.2,c.vw.2]
 .have:=Vb h;obtain⟨_,b,e,rfl⟩:=a.mp;obtain⟨_,d,f,rfl⟩:=c.mp;grind
 .have:=Vb h;obtain⟨_,o,t,b,e,f,rfl⟩:=a.ptr;obtain⟨_,k,l,d,i,j,rfl⟩:=c.ptr;grind
 .rw[a.nils,c.nils]
 grind
theorem Zll{w w1 g c F b tmps}(hF:Fr w g F tmps)(a:Fr w1 c b tmps):∀l,Zdz F l=Uc->Fr w1 c (ZhZ b l) tmps|[],_=>a|p::l,h=>by simp[Zdz]at h;refine(Zll hF a l h.2).upd ?_;rw[ZrN (hF p.1) (hF p.2) h.1];exact a p.2
theorem Zx7{s s' w w' g A ow z a a'}(Q:SR E B s w g ow a)(c:SR E' B s' w' A z a')(b2:E'.nt=E.nt){e fz0 fzN x}
 (L:Lk E' w g a w' A a') (b0:∀n∈e.kept,n∈E'.ks) (hH:∀id∈Z2 s e,s'.H id=s.H id) (hD:∀id∈Z2 s e,XR s.H id=Uc) (c4:∀id∈Z2 s e,id∈fz0) (a6:∀id∈fzN,id∈Z2 s e)
 (h:Zj0 fz0 e s' =Ua x):∃D R,SR E B (ZcK s fzN e x) w' D R a' /\g.Le D/\Kt g.I w w' /\(∀id∈Z2 s e,(ZcK s fzN e x).H id=s.H id)/\∀id,g.K id->D.slv id=A.slv id:=by
 unfold Zj0 at h;rw[ZE.runK_eq]at h
 cases hx:(ZdU s'.F e.roots).run s'.H [] with
 |none=>grind|some y=>
  have⟨⟨j,ids⟩,rd⟩:=y;rw[hx]at h;simp[Za]at h
  cases hc:(ids.ok fz0&&Xe ids.br fz0&&Zd0 s'.F e.fns&&Zdz s'.F e.als) with
  |false=>grind|true=>
   rw[hc]at h;simp[Zf,Z4]at h;subst h;simp[Ve]at hc;have⟨⟨⟨b3,a5⟩,W⟩,U⟩:=hc;have⟨b1,b6,b8⟩:=ZI.ok_iff b3;have b5:=ZaM.1 a5;have⟨js,b4,a8,a0⟩:=ZmY c.rh (I:=λb=>A.I b\/ZO s'.H z ids.br b) (by grind) c.fr e.roots j ids [] rd hx (by grind) b1
   let g1:Gh:={I:=λb=>A.I b\/ZO s'.H z ids.br b,K:=g.K,ty:=A.ty,blk:=A.blk,slv:=A.slv,ver:=A.ver,row:=A.row}
   let H1:AH:=λid=>bif KW id (Z2 s e) then s.H id else Ub
   have M:∀id,H1 id≠Ub->id∈Z2 s e/\s'.H id≠Ub/\H1 id=s.H id/\s'.H id=s.H id:=by
    intro id d;have e1:H1 id=bif KW id (Z2 s e) then s.H id else none:=rfl
    cases hm:KW id (Z2 s e) with
    |false=>grind|true=>
     have f:=JX.1 hm;grind
   have a7:g.Le g1:=⟨λb i=>.inl (L.le.I b i),λ_ h=>h,λid d=>L.le.ty id d,λid d=>L.le.blk id d,λid d=>L.le.slv id d,λid d=>L.le.ver id d,λid d=>L.le.row id d⟩;have a4:RH B H1 w' g1 z:={
    objs:=λid o ho=>by have⟨f,v,p,r⟩:=M id (by grind);have C:s.H id=Ua o:=p.symm.trans ho;have a2:s'.H id=Ua o:=r.trans C;exact⟨(Q.rh.objs id o C).1,Zrl (g0:=g) C (hD id f) (λb i=>.inl i) (by grind) rfl rfl rfl rfl rfl (Q.rh.objs id o C).2 (c.rh.objs id o a2).2⟩
    dist:=λid t b p r S h4=>c.rh.dist id t b (by grind) (by grind) S h4
    sep:=λid b p r=>by
     have⟨f,v,_⟩:=M id p;have⟨S,h4,h5⟩:=c.rh.sep id b v r;refine⟨λN=>?_,h4,h5⟩;obtain N|⟨t,h6,h7,h8⟩:=N;.grind
     have:=c.rh.dist id t b v h7 r h8;grind
    ilt:=λb i=>by
     obtain i|⟨id,_,p,r⟩:=i;.exact c.rh.ilt b i
     exact(c.rh.sep id b p r).2.1
    inew:=λb i=>by
     obtain i|⟨id,_,p,r⟩:=i;.exact c.rh.inew b i
     exact .inr (c.rh.sep id b p r).2.2
    os:=c.rh.os
    tape:=c.rh.tape
    output:=c.rh.output
    size:=c.rh.size
    kept:=c.rh.kept}
   have O:W3 B H1 w' g1 z js:=⟨a8,λb i=>by
    have⟨id,p,r,S⟩:=a0 b i;have⟨h4,h5,h6⟩:=c.rh.sep id b r S;refine⟨λN=>?_,h5,h6,λt h7 h8=>?_⟩
    .obtain N|N:=N
     .grind
     have⟨k,h9,b9⟩:=HT c.rh N (a0 b i);grind
    have⟨f,v,_⟩:=M t h7;have:=c.rh.dist t id b v r h8 S;grind⟩
   have⟨D,R,l2,i2,r2,c2,k2,_⟩:=Znw e.roots a4 j js s.nx b4 O λid p r hK=>by have:=Q.ids id hK;omega
   have c1:(ZcK s fzN e j).H=Zu H1 (Wl (WL e.roots j s.nx).2.1):=by
    funext id;rw[Zee _ _ _ (Znv _ _ _)];show (bif KW id (Z2 s e) then s.H id else WM (WL e.roots j s.nx).2.1 id)=_
    cases hm:KW id (Z2 s e) with
    |true=>
     have c5:id<s.nx:=by
      have hd:=hD id (JX.1 hm)
      cases ho:s.H id with|none=>unfold XR at hd;grind|some o=>exact Q.ids id (Q.rh.objs id o ho).1
     have hl:WM (WL e.roots j s.nx).2.1 id=none:=by
      have b7:=(Zd6 e.roots j s.nx).2;have key:∀l,(∀o∈l,s.nx<=o.1)->WM l id=none:=by
       intro l
       induction l with
       |nil=>intro _;rfl|cons q l ih=>
        intro h;simp[WM];have:Vf id q.1=false:=by
         cases i:Vf id q.1;.rfl
         have:=Vb i;grind
        grind
      grind
     grind
    |false=>
     grind
   have a1:g.Le D:=a7.trans l2;have J:Kt g.I w w' :=L.ag;have T:Fr w' D (λk=>bif KW k e.kept then s.F k else ZaZ (WL e.roots j s.nx).1 k) a'.tmps:=by
    intro k;show VR w' D (bif KW k e.kept then s.F k else ZaZ (WL e.roots j s.nx).1 k) _
    cases hm:KW k e.kept with
    |true=>
     simp only[Zf];rw[L.ks k (b0 k (JX.1 hm))]
     exact(Q.fr k).mono J a1|false=>
     simp only[Ze];exact .of1 (Zn6 _ c2 k)
   refine⟨D,R,⟨by grind,?_,by rw[c.nt,b2],c.df,λid d=>?_,λid d=>?_⟩,a1,J,λid d=>?_,λid d=>l2.slv id d⟩;.refine Zll c.fr (Zlm c.fr T (λk m a9 id d=>?_) e.fns W) e.als U;have hv:=T k;rw[show (λk=>bif KW k e.kept then s.F k else ZaZ (WL e.roots j s.nx).1 k) k=.tup m from a9]at hv;have a3:=c.fr k;rw[d]at a3;have⟨vs,p,_⟩:=hv;have⟨_,_,_,_,_,_,r⟩:=a3.ptr;grind
   .show id<(WL e.roots j s.nx).2.2;have:=(Zd6 e.roots j s.nx).1;obtain p|p:=k2 id d
    .have:=Q.ids id p;omega
    omega
   .have f:=a6 id d;have e1:(ZcK s fzN e j).H id=s.H id:=by show (bif KW id (Z2 s e) then s.H id else WM (WL e.roots j s.nx).2.1 id)=_;rw[JX.2 f];rfl
    exact(Zem e1).trans (hD id f)
   show (bif KW id (Z2 s e) then s.H id else WM (WL e.roots j s.nx).2.1 id)=_;rw[JX.2 d];rfl
theorem Zjz{s w g ow tmps}(m:RH B s.H w g ow)(hF:Fr w g s.F tmps){k x}(h:Gw s k=Ua x):
 g.K x/\∃b cs e,tmps.getD k.1 undef=.pointer (Ua ⟨b,0,Ub⟩)/\w.heap[b]? =Ua (.cells cs e (0,0))/\cs[k.2.2]? =Ua (g.slv x):=by
 unfold Gw at h;split at h;case h_2=>grind
 rename_i id d;split at h;case h_2=>grind
 rename_i T c l;split at h;case h_2=>grind
 rename_i y r
 cases n:Vf (Za1 T k.2.1) k.2.2 with
 |false=>grind|true=>
  have f:=Vb n;have⟨_,_,q,b,cs,e,p,_,J,_,a⟩:=m.objs id _ l;have⟨z,A⟩:=ZcV c _ _ _ _ q a r;have i:=hF k.1;rw[d]at i;have⟨_,o,t,v,j,C,D⟩:=i.ptr;simp[ZV]at j;grind
theorem Zv5{s' m w' a c j l n tmps}(h:RH n s'.H w' a j)(d:Fr w' a s'.F tmps)(i:RH B m.H w' c l)(f:Fr w' c m.F tmps){k x y}(p:Gw s' k=Ua x)(q:Gw m k=Ua y):
 c.slv y=a.slv x:=by
 have⟨_,b,cs,e,t,v,z⟩:=Zjz h d p;have⟨_,r,o,s,A,C,D⟩:=Zjz i f q;grind
theorem Zx8{b fz k s i}(a:i∈fz):(Za3 b fz k s).H i=s.H i:=by
 unfold Za3;split;case h_2=>rfl
 rename_i x y id C D p;split;case h_2=>rfl
 rename_i T c t xs v z A o n;generalize d:(v==t&& !Vf y id&& !Vf x id&& !KW x fz&& !KW y fz&& !KW id fz)=h
 cases h with
 |false=>rfl|true=>
  simp[Ve]at d;have⟨⟨⟨_,j⟩,l⟩,m⟩:=d;have q:i≠x:=λe=>by rw[<-e,JX.2 a]at j;grind
  have r:i≠y:=λe=>by rw[<-e,JX.2 a]at l;grind
  have f:i≠id:=λe=>by rw[<-e,JX.2 a]at m;grind
  show ZX (ZX (ZX (ZX s.H y Ub) id Ub) x _) id _ i=s.H i;rw[KB f,KB q,KB f,KB r]
theorem Zpr{b fz i}(a:i∈fz):∀l s,(Za4 b fz l s).H i=s.H i|[],_=>rfl|_::l,_=>(Zpr a l _).trans (Zx8 a)
theorem Zgc{b fz e x id}(a:id∈Z2 b e):(Xy b fz e x).H id=b.H id:=by refine(Zpr a e.kf _).trans ?_;show (bif KW id (Z2 b e) then b.H id else _)=_;rw[JX.2 a];rfl
theorem Zx9{s s' a w w' g n h ow M m S R j tmps}(N:RH S s.H w g ow)(hF:Fr w g s.F j)(v:RH R s'.H w' n M)(o:Fr w' n s'.F tmps)(d:g.Le h)(A:∀id,g.K id->h.slv id=n.slv id)
 {k} (hk:(match Gw s k,Gw s' k with|some x,Ua y=>Vf x y|_,_=>Ud)=Uc) {fz} (i:RH B a.H w' h m) (p:Fr w' h a.F tmps):
 (∃f,RH B (Za3 s fz k a).H w' h f)/\(Za3 s fz k a).F=a.F/\(Za3 s fz k a).fz=a.fz/\(Za3 s fz k a).nx=a.nx:=by
 have same:(∃f,RH B a.H w' h f)/\a.F=a.F/\a.fz=a.fz/\a.nx=a.nx:=⟨⟨m,i⟩,rfl,rfl,rfl⟩;unfold Za3;split;case h_2=>omega
 rename_i x y id hx Q a0;split;case h_2=>omega
 rename_i T c t xs t0 a1 W r q;generalize O:(t0==t&& !Vf y id&& !Vf x id&& !KW x fz&& !KW y fz&& !KW id fz)=U
 cases U with
 |false=>grind|true=>
  simp[Kp]at O;obtain⟨⟨⟨⟨⟨rfl,h1⟩,h2⟩,h3⟩,h4⟩,h5⟩:=O;have n1:y≠id:=by grind
  have n2:x≠id:=λe=>by simp_all
  have hn:c.nth k.2.1=Ua (.vw y):=by have L:=Q;unfold Gw at L;grind
  have J:Gw s' k=Ua x:=by
   cases hz:Gw s' k with|none=>grind|some z=>simp_all
  have b:=(Zjz N hF hx).1;have l:h.slv x=h.slv y:=by rw[Zv5 v o i p J Q,A x b]
  have⟨_,C,D⟩:=N.objs x _ q;have⟨f,h6⟩:=Zpv i W hn r (d.K x b) l ((d.ty x b).trans C) (by rw[d.blk x b,d.slv x b];grind) n1 n2;grind
theorem Zps{s s' w w' g o e ow q v t d tmps}(r:RH v s.H w g ow)(hF:Fr w g s.F d)(i:RH t s'.H w' o q)(f:Fr w' o s'.F tmps)(j:g.Le e)(m:∀id,g.K id->e.slv id=o.slv id){fz}:
 ∀l {a}{b},Zec s s' l=Uc->RH B a.H w' e b->Fr w' e a.F tmps->
 (∃n,RH B (Za4 s fz l a).H w' e n)/\(Za4 s fz l a).F=a.F/\(Za4 s fz l a).fz=a.fz/\(Za4 s fz l a).nx=a.nx
 |[],a,b,_,c,_=>⟨⟨b,c⟩,rfl,rfl,rfl⟩|k::l,a,b,h,c,p=>by simp[Zec]at h;obtain⟨⟨n,x⟩,y,z,A⟩:=Zx9 r hF i f j m h.1 c p;obtain⟨C,D,J,L⟩:=Zps r hF i f j m l h.2 x (by grind);exact⟨C,D.trans y,J.trans z,L.trans A⟩
theorem Zln{b w g tmps}:∀l {F},(∀n∈l,VR w g (b.F n) (tmps.getD n undef))->Fr w g F tmps->Fr w g (Zh1 b l F) tmps|[],_,_,h=>h|n::l,F,a,h=>Zln l (by grind) (h.upd (by grind))
theorem Zc2{s s' w w' g z ow v a m}(l:SR E B s w g ow a)(d:SR E' B s' w' z v m)(t:E'.nt=E.nt){e fz0 fzN x}
 (D:Lk E' w g a w' z m) (q:∀n∈e.kept,n∈E'.ks) (r:∀n∈e.kv,n∈E'.ks) (K:∀id∈Z2 s e,s'.H id=s.H id) (C:∀id∈Z2 s e,XR s.H id=Uc) (p:∀id∈Z2 s e,id∈fz0) (f:∀id∈fzN,id∈Z2 s e)
 (h:Yb s fz0 e s' =Ua x):∃k j,SR E B (Xy s fzN e x) w' k j m/\g.Le k/\Kt g.I w w' /\∀id∈Z2 s e,(Xy s fzN e x).H id=s.H id:=by
 unfold Yb at h
 cases i:Zec s s' e.kf with
 |false=>grind|true=>
  rw[i]at h;have⟨k,j,b,o,A,Q,J⟩:=Zx7 l d t D q K C p f h;obtain⟨⟨y,M⟩,N,R,O⟩:=Zps l.rh l.fr d.rh d.fr o J e.kf i b.rh b.fr;refine⟨k,y,⟨M,?_,b.nt,b.df,λid c=>?_,λid c=>?_⟩,o,A,λid c=>Zgc c⟩;.refine Zln e.kv (λn L=>?_) (by rw[N];exact b.fr);rw[D.ks n (r n L)];exact(l.fr n).mono A o
  .show id<(Za4 s (Z2 s e) e.kf (ZcK s fzN e x)).nx;rw[O];exact b.ids id c
  have F:=f id c;exact(Zem (Zgc F)).trans (C id F)
def ZcA:Ex->Exit|.normal=>.normal|.exit id=>.exit id|.ret=>.ret|.jump l=>.goto l
theorem Ex.beq_eq{x y:Ex}(h:x.beq y=Uc):x=y:=by
 cases x<;>cases y<;>simp[Ex.beq]at h;all_goals grind
theorem ZqK{ρ}{b s' fz k}{r:ρ}{x}:∀J o,YU b fz J x s' =Ua o->Zal b J o k=Ua r->∃f∈J,x=f.1/\∃y,Yb b fz f.2 s' =Ua y/\k x (Xy b b.fz f.2 y)=Ua r
 |[],o,h,_=>by grind|[f],o,h,c=>by
  simp[YU]at h
  cases a:x.beq f.1 with
  |false=>grind|true=>
   have:=Ex.beq_eq a;simp[Zal]at c
   grind
 |f::e::l,o,h,c=>by
  simp[YU]at h
  cases a:x.beq f.1 with
  |true=>
   rw[a]at h;simp[Va]at h;obtain⟨y,d,rfl⟩:=h;have:=Ex.beq_eq a;simp[Zal]at c
   grind|false=>
   rw[a]at h;simp[Va]at h;obtain⟨y,d,rfl⟩:=h;have⟨i,j,m⟩:=ZqK (e::l) y d c;grind
theorem Zjx{e}:∀{J},GZ e J=Uc->∀f∈J,∀n∈f.2.kept,n∈e.kept
 |[],_,f,a=>by grind|q::l,h,f,a=>by
  simp[GZ]at h;obtain rfl|a:=Vi.1 a;.exact λn b=>JX.1 (by grind)
  exact Zjx h.2 f a
theorem ZnL{e}:∀{J},GZ e J=Uc->∀f∈J,∀n∈f.2.kv,n∈e.kv
 |[],_,f,a=>by grind|q::l,h,f,a=>by
  simp[GZ]at h;obtain rfl|a:=Vi.1 a;.exact λn b=>JX.1 (by grind)
  exact ZnL h.2 f a
def WY(E:Kh)(B:KR)(s:AS)(w:X)(g:Gh)(a:Act){ρ:Type}(k:Ex->AS->Option ρ)(r:ρ):Exit->Act->X->Prop:=λe d h=>
 ∃x c f b,ZcA x=e/\SR E B c h f b d/\Ln E s w g a c h f d/\k x c=Ua r
theorem WY.out{s v w w1 g z ow p a e en J}{ρ}{k}{r:ρ}(C:SR E B s w g ow a)(d:G0 s en.kept=Uc)(hJ:GZ en J=Uc)
 (A:Lk (Ww E en) w g a w1 z e) (m:SR (Ww E en) B v w1 z p e) (T:∀id∈Z2 s en,v.H id=s.H id) {x}{o} (O:YU s (Z2 s en) J x v=Ua o) (R:Zal s J o k=Ua r):WY E B s w g a k r (ZcA x) e w1:=by
 have⟨f,i,U,y,S,N⟩:=ZqK J o O R;have c:∀id∈Z2 s f.2,id∈Z2 s en:=λid b=>by
  obtain h|h:=Vl.1 b;.exact Vc _ (Zv3 (Zjx hJ f i) id h)
  exact Vd _ h
 have j:∀n∈f.2.kept,n∈(Ww E en).ks:=λn l=>Vc _ (Zjx hJ f i n l);have⟨D,q,F,K,L,M⟩:=Zc2 C m rfl A j (λn l=>Vd _ (Vc _ (ZnL hJ f i n l))) (by grind) (λid b=>Zgj d C.fz id (c id b)) c (λid b=>Vd _ b) S;exact⟨x,_,D,q,rfl,F,⟨⟨K,L,λt Q=>A.ks t (Vd _ (Vd _ Q))⟩,rfl,λid b=>M id (Vd _ b)⟩,N⟩
theorem SR.kept{s w g ow a}(b:SR E B s w g ow a){e}(d:G0 s e.kept=Uc):SR (Ww E e) B {s with fz:=Z2 s e} w g ow a:=
 ⟨b.rh,b.fr,b.nt,b.df,b.ids,λid c=>Zgj d b.fz id c⟩
theorem Z0.kept(h:Z0 P E) e:Z0 P (Ww E e):=⟨h.ty,h.mty,h.pk,h.pz,h.bd⟩
theorem JO.kept(h:JO P E B) e:JO P (Ww E e) B:=⟨h.ok,h.amb,h.pl,h.inl⟩
theorem Zdl{c Q}(Inv:Nat->Act->X->Prop){n a w}(j:Inv n a w)
 (round:∀n a w,Inv n a w->c.wp P (Exit.then (λd w' =>∃m,m<n/\Inv m d w') Q) a w):(Code.loop c).wp P Q a w:=by
 classical
 have b:∀a w,(∃n,Inv n a w)->∃n,Inv n a w/\∀m,Inv m a w->n<=m:=by
  intro a w ⟨n,p⟩
  induction n using Nat.strongRecOn with
  |_ n q=>
   grind
 refine wp_loop (λa w=>∃n,Inv n a w) (λa w=>if h:∃n,Inv n a w then(b a w h).choose else 0) ⟨n,j⟩ λa w k=>?_;have f:=(b a w k).choose_spec;refine wp_mono (round _ a w f.1) λe d w' l=>?_
 cases e with
 |normal=>
  have⟨m,o,i⟩:=l;refine⟨⟨m,i⟩,?_⟩;simp[dif_pos (show∃n,Inv n d w' from ⟨m,i⟩)]
  grind|_=>assumption
theorem Zko{a τ}{step}{s:a}{r:τ}(h:run step s=Ua r):∃n,Js step n s=Ua r:=by
 unfold run at h;split at h;.grind
 split at h;all_goals grind
theorem Zyl{it id s a b rest cur}(c:s.F it=.ptr id [])(d:s.H id=Ua (.rng a b rest cur)):Zab it s=bif rest.isEmpty then 1 else rest.length:=by unfold Zab;grind
theorem ZpH it s:0<Zab it s:=by unfold Zab;grind
theorem ZwV(hT:Z0 P E)(hS:JO P E B){ops s w g ow a}(m:SR E B s w g ow a){id it}{ρ}{k}
 (h:∀i,i<Zab it s->∃r,ZbQ E ops it i ρ s k=Ua r):
 (Code.region id ops Ud).wp P (λe U w' =>∃i s' S J r,i<Zab it s/\e=.normal/\SR E B s' w' S J U/\Ln E s w g a s' w' S U/\ZbQ E ops it i ρ s k=Ua r/\k s' =Ua r) a w:=by
 have⟨r0,f⟩:=h 0 (ZpH it s);have a5:=f;unfold ZbQ at f;split at f;.grind
 rename_i o i0 l hz;have Q:ops[0]? =Ua o/\i0=0:=by
  have:ops.toList.zipIdx[0]? =Ua (o,i0):=by grind
  grind
 obtain⟨a3,rfl⟩:=Q;split at f
 .rename_i D d O a2 z
  cases hc:(Vf D it&&Hs E (Ua d)) with
  |false=>grind|true=>
   rw[hc]at f;simp only[Ve]at hc;have⟨C,L⟩:=hc;have C:=Vb C;subst C;split at f
   .rename_i rid hF;split at f
    .rename_i kt vt rest cur hH;have step:∃i v val w' H1,i<Zab D s/\(execOp a.eval o).run P w=.ok (.value val) w' /\RH B H1 w' g ow/\Kt g.I w w' /\VR w' g v val/\(∀id∈s.fz,H1 id=s.H id)/\
      ZbQ E ops D i ρ s k=Hg E ops s.nx s.fz ρ l (W9 s.F (Ua d) v) H1 [] λF H _=>k ⟨F,H,s.nx+ops.size*E.stp,s.fz⟩:=by
      have hm:KW rid s.fz=false:=by grind
      cases rest with
      |nil=>
       have⟨y,W⟩:=Zor (P:=P) m.rh m.fr O hF hH;refine⟨0,_,_,w,s.H,ZpH _ _,y,m.rh,λ_ _=>rfl,W,by simp,?_⟩
       grind|cons e0 r0=>
       obtain⟨i,kv,val,w',y,W,h3,h4,h5,h6⟩:=Zw0 m.rh m.fr O hF hH (by simp);refine⟨i,_,val,w',_,by rw[Zyl hF hH];grind,h3,h4,h5,h6,?_,?_⟩;.intro id c;refine KB λe=>?_;subst e;rw[JX.2 c]at hm;grind
       unfold ZbQ;grind
     have⟨i,v,val,w',H1,hi,R,a0,K,hv,N,hK⟩:=step;have⟨r,hr⟩:=h i hi;rw[hK]at hr;have⟨F',H',a7,A,hk⟩:=Zfg hr;have x:(l.map Vq).Nodup/\(∀p∈l,ops[p.2]? =Ua p.1)/\List.range ops.size=0::l.map Vq:=by
      have y:ops.toList.zipIdx.map Vq=0::l.map Vq:=by grind
      rw[ZkY]at y;refine⟨?_,λp hp=>?_,y⟩;.have:=Vr (n:=ops.size);grind
      grind
     have a1:=A.ex x.1 x.2.1 λ_ _=>rfl;have a6:0 ∉ l.map Vq:=by have:=Vr (n:=ops.size);grind
     refine wp_region ?_;rw[x.2.2,wpOps_cons];unfold wpOp;rw[a3];simp only;rw[ZkQ (ops:=ops) (b:=true) m.fr (by simp[Hy,a2])];simp only[if_true];refine .inl ?_;unfold Oper.wp;rw[R];have M:∀e,o.dst=Ua e->e<a.tmps.size:=λe T=>by rw[z]at T;cases T;rw[m.nt];exact(ZgC L).1
     have hI:RI E B s.nx (λ_=>False) (W9 s.F (Ua d) v) H1 w' (a.put o.dst val) g ow (λj=>j=0):=⟨a0,by have:=(m.fr.mono K (.refl g)).put (d:=o.dst) hv M;grind,Zj6.trans m.nt,Zj4.trans m.df,λid c=>.inl (.inl (m.ids id c))⟩;refine ZkT hT hS a1 x.1 (by grind) (by simp) hI λU w2 S J q hl=>?_;refine⟨i,⟨F',H',s.nx+ops.size*E.stp,s.fz⟩,S,J,r,hi,rfl,⟨q.rh,q.fr,q.nt,q.df,λid c=>?_,λid c=>?_⟩,⟨⟨hl.le,K.trans hl.ag λ_ h=>h,λt ht=>?_⟩,rfl,λid c=>?_⟩,hK.trans hr,hk⟩
     .rcases q.ids id c with (y|y) |⟨j,y,W,h3⟩
      .grind
      .grind
      have hj:j<ops.size:=by grind
      exact Zkg hj h3
     .exact(Zem ((A.keptH id c).trans (N id c))).trans (m.fz id c)
     .rw[hl.ks t ht,z];refine Zj5 λe T a4=>?_;cases T;exact(ZgC L).2 (a4▸ht)
     exact(A.keptH id c).trans (N id c)
    grind
   grind
 grind
theorem ZmM{d τ ρ}{cnt step}{k:τ->Option ρ}{s:d}{z}(h:drun cnt step k s=Ua z):∃n,H6 cnt step k z n s:=by
 have a:∀n s z,ZdP cnt step k n s=Ua z->H6 cnt step k z n s:=by
  intro n
  induction n with
  |zero=>intro s z h;simp[ZdP]at h|succ n f=>
   intro s z h i e;simp[ZdP]at h
   cases b:Vu (cnt s) 1 with
   |false=>grind|true=>
    have c:=Vp b;grind
 unfold drun at h;split at h;.grind
 split at h;all_goals grind
theorem Zus{n E}{ρ}{s go}{r:ρ}(h:ZiM n s go=Ua r){w g ow a}(d:SR E B s w g ow a):
 ∃z A x,go z=Ua r/\SR E B z w A x a/\Ln E s w g a z w A a:=by
 unfold ZiM at h;split at h
 .rename_i id ver W k R
  cases t:KW id s.fz with
  |true=>rw[t]at h;cases h|false=>
  rw[t]at h;simp[ZE.runK_eq]at h;rw[Va]at h;have⟨⟨F,l1⟩,L,h⟩:=h;rw[Va]at h;have⟨⟨o,l2⟩,M,h⟩:=h;have v:=d.fr n;rw[R]at v;have m:¬g.K s.nx:=λQ=>Nat.lt_irrefl _ (d.ids _ Q);have⟨J,y,C,l,U,O,T,S,q⟩:=Zqj d.rh v L M m;have j:∀i∈s.fz,i≠id/\i≠s.nx:=λi c=>by
   refine⟨λe=>?_,λe=>?_⟩;.subst e;rw[JX.2 c]at t;cases t
   subst e;have:=d.fz _ c;unfold XR at this
   cases D:s.H s.nx with|none=>rw[D]at this;cases this|some o=>exact m (d.rh.objs _ _ D).1
  have b:∀i∈s.fz,ZX (ZX s.H id (Ua o)) s.nx (Ua (.vec F.1 F.2)) i=s.H i:=λi c=>by rw[KB (j i c).2,KB (j i c).1]
  refine⟨_,J,y,h,⟨C,?_,d.nt,d.df,λi c=>?_,λi c=>?_⟩,⟨⟨l,λ_ _=>rfl,λ_ _=>rfl⟩,rfl,b⟩⟩;.have N:=d.fr.mono (λ_ _=>rfl) l;refine N.upd ?_;have f:(a.tmps.getD n undef).oneCell'=true:=v.nw.2.2.1;refine KT ?_ f rfl;have p:=(C.objs s.nx _ XY).1;exact⟨p,by rw[q],by rw[q];exact f⟩
  .obtain h|h:=O i c
   .exact Nat.lt_succ_of_lt (d.ids i h)
   subst h;exact Vk _
  rw[Zem (b i c)];exact d.fz i c
 cases h
theorem Zut{hint E}{ρ}{s go}{r:ρ}(h:ZiN hint s go=Ua r){w g ow a}(e:SR E B s w g ow a):
 ∃c d b,go c=Ua r/\SR E B c w d b a/\Ln E s w g a c w d a:=by
 unfold ZiN at h;split at h;.exact⟨s,g,ow,h,e,.refl s w g a⟩
 exact Zus h e
theorem WD(S:P.follows .mixedOrders=Uc):∀c h E ρ s k r,Z0 P E->JO P E B->Kr c h E ρ s k=Ua r->
 ∀{w}{g}{ow}{a},SR E B s w g ow a->c.wp P (WY E B s w g a k r) a w
 |.skip,_,E,ρ,s,k,r,_,_,h,w,g,ow,a,b=>by
  simp only[Kr]at h
  exact wp_skip ⟨.normal,s,g,ow,rfl,b,.refl s w g a,h⟩|.region id ops draw,d,E,ρ,s,k,r,L,K,h,w,g,ow,a,b=>by
  simp only[Kr]at h;refine wp_mono (Zx6 S L K b h) ?_;rintro e Q R ⟨s',D,f,rfl,v,p,j⟩
  exact⟨.normal,s',D,f,rfl,v,p,j⟩
 |.seq x y,d,E,ρ,s,k,r,L,K,h,w,g,ow,a,b=>by
  simp only[Kr]at h;have⟨s0,g0,c9,h,b,b9⟩:=Zut h b;refine wp_seq (wp_mono (WD S x d.l E ρ s0 _ r L K h b) ?_);rintro e Q R ⟨ex,s',D,f,rfl,v,p,j⟩;have p:=b9.trans p
  cases ex with
  |normal=>
   refine wp_mono (WD S y d.r E ρ s' k r L K j v) ?_;rintro e a2 w2 ⟨b7,s2,g2,N,rfl,W,h5,h6⟩
   exact⟨b7,s2,g2,N,rfl,W,p.trans h5,h6⟩
  |exit id=>exact⟨.exit id,s',D,f,rfl,v,p,j⟩|ret=>exact⟨.ret,s',D,f,rfl,v,p,j⟩|jump l=>exact⟨.jump l,s',D,f,rfl,v,p,j⟩
 |.cond c x y,d,E,ρ,s,k,r,L,K,h,w,g,ow,a,b=>by
  simp only[Kr]at h;split at h
  .rename_i t ht;have hv:=b.fr.eval c;rw[ht]at hv;refine wp_cond hv.bool ?_
   cases hj:d.join with
   |none=>
    rw[hj]at h
    cases t with|true=>exact WD S x d.l E ρ s k r L K h b|false=>exact WD S y d.r E ρ s k r L K h b
   |some eJ=>
    have⟨e,J⟩:=eJ;rw[hj]at h;simp only at h
    cases O:(G0 s e.kept&&GZ e J) with
    |false=>grind|true=>
     rw[O]at h;simp only[Zf]at h;simp only[Ve]at O;rw[Va]at h;have⟨o,ho,hu⟩:=h;have fin:∀(z:Code) (U:Wf),Kr z U (Ww E e) (H8 J) {s with fz:=Z2 s e} (YU s (Z2 s e) J)=Ua o->(∀{w:X}{g:Gh}{ow:Nat->Nat->Prop}{a:Act},SR (Ww E e) B {s with fz:=Z2 s e} w g ow a->z.wp P (WY (Ww E e) B {s with fz:=Z2 s e} w g a (YU s (Z2 s e) J) o) a w)->z.wp P (WY E B s w g a k r) a w:=by intro z U _ ih;refine wp_mono (ih (b.kept O.1)) ?_;rintro e' Q R ⟨ex,s',D,f,rfl,v,p,j⟩;exact WY.out b O.1 O.2 p.lk v p.hz j hu
     cases t with|true=>exact fin x d.l ho (WD S x d.l (Ww E e) _ _ _ o (L.kept e) (K.kept e) ho)|false=>exact fin y d.r ho (WD S y d.r (Ww E e) _ _ _ o (L.kept e) (K.kept e) ho)
  grind
 |.block id c,d,E,ρ,s,k,r,L,K,h,w,g,ow,a,b=>by
  simp only[Kr]at h;refine wp_block (wp_mono (WD S c d E ρ s _ r L K h b) ?_);rintro e Q R ⟨ex,s',D,f,rfl,v,p,j⟩
  cases ex with
  |normal=>exact⟨.normal,s',D,f,rfl,v,p,j⟩|exit i=>
   simp only at j;simp only[ZcA,Exit.inBlock]
   cases hb:Vf i id with
   |true=>
    rw[hb]at j;rw[Zn (Vb hb)]
    exact⟨.normal,s',D,f,rfl,v,p,j⟩|false=>
    rw[hb]at j;rw[Zg λe=>by simp_all]
    exact⟨.exit i,s',D,f,rfl,v,p,j⟩
  |ret=>exact⟨.ret,s',D,f,rfl,v,p,j⟩|jump l=>exact⟨.jump l,s',D,f,rfl,v,p,j⟩
 |.loop c,d,E,ρ,s,k,r,L,K,h,w,g,ow,a,b=>by
  cases d with
  |all n=>
   simp only[Kr]at h;refine Zdl (λm Q R=>∃s' D f,Zhj (λs k=>Kr c (.all n) E ρ s k) k m s' =Ua r/\SR E B s' R D f Q/\Ln E s w g a s' R D Q) (n:=n) ⟨s,g,ow,h,b,.refl s w g a⟩ ?_;rintro m Q R ⟨s',D,f,A,T,a7⟩
   cases m with
   |zero=>simp[Zhj]at A|succ m=>
    refine wp_mono (WD S c (.all n) E ρ s' _ r L K A T) ?_;rintro e a2 w2 ⟨ex,s2,g2,N,rfl,v,p,j⟩
    cases ex with|normal=>exact⟨m,Vk m,s2,g2,N,j,v,a7.trans p⟩|exit i=>exact⟨.exit i,s2,g2,N,rfl,v,a7.trans p,j⟩|ret=>exact⟨.ret,s2,g2,N,rfl,v,a7.trans p,j⟩|jump l=>exact⟨.jump l,s2,g2,N,rfl,v,a7.trans p,j⟩
  |lp en J hb=>
   simp only[Kr]at h
   cases O:(G0 s en.kept&&GZ en J&&G5 en.slots) with
   |false=>grind|true=>
    rw[O]at h;simp only[Zf,Va]at h;simp only[Ve]at O;have⟨x,hx,o,a4,hu⟩:=h;have⟨n,M⟩:=Zko a4;have C:∀id∈Z2 s en,id∈Z2 s en:=λ_ h=>h;have a0:=Zgj O.1.1 b.fz;have start:=Zc2 (E:=Ww E en) (E' :=Ww E en) (s' :=s) (fz0:=Z2 s en) (fzN:=Z2 s en) ⟨b.rh,b.fr,b.nt,b.df,b.ids,b.fz⟩ ⟨b.rh,b.fr,b.nt,b.df,b.ids,b.fz⟩ rfl (.refl w g a) (λn M=>Vc _ M) (λn M=>Vd _ (Vc _ M)) (by simp) a0 C C hx;have⟨g1,b1,s1,b0,_,c6⟩:=start
    refine Zdl (λn Q R=>∃y D f,Js (λy=>Kr c hb (Ww E en) (Yi en.roots ⊕ H8 J) (Xy s (Z2 s en) en y) λe s' =>match e with|.normal=>(Yb s (Z2 s en) en s').bind λz=>Ua (.inl z)|e=>(YU s (Z2 s en) J e s').bind λz=>Ua (.inr z)) n y=Ua o/\SR (Ww E en) B (Xy s (Z2 s en) en y) R D f Q/\Lk (Ww E en) w g a R D Q) (n:=n) ⟨x,g1,b1,M,s1,⟨b0,by omega,by simp⟩⟩ ?_
    rintro n Q R ⟨y,D,f,A,T,a6⟩;have a5:∀id∈Z2 s en,(Xy s (Z2 s en) en y).H id=s.H id:=λid F=>Zgc F
    cases n with
    |zero=>simp[Js]at A|succ n=>
     simp only[Js]at A;split at A
     .rename_i y' a9;refine wp_mono (WD S c hb (Ww E en) _ _ _ _ (L.kept en) (K.kept en) a9 T) ?_;rintro e a2 w2 ⟨ex,s2,g2,N,rfl,v,p,j⟩
      cases ex with
      |normal=>
       simp only[Va,Z4,Vv]at j;obtain⟨z,U,rfl⟩:=j;have a1:=a6.trans p.lk;have⟨g3,b4,s3,c7,b5,_⟩:=Zc2 (E:=Ww E en) (E' :=Ww E en) (s:=s) (fz0:=Z2 s en) (fzN:=Z2 s en) ⟨b.rh,b.fr,b.nt,b.df,b.ids,b.fz⟩ v rfl a1 (λn M=>Vc _ M) (λn M=>Vd _ (Vc _ M)) (λid F=>(p.hz id F).trans (a5 id F)) a0 C C U
       exact⟨n,Vk n,z,g3,b4,A,s3,⟨c7,b5,a1.ks⟩⟩|exit _|ret|jump _=>simp only[Va,Z4,reduceCtorEq,ZW,exists_false]at j
     .rename_i o' a9;simp only[Z4]at A;subst A;refine wp_mono (WD S c hb (Ww E en) _ _ _ _ (L.kept en) (K.kept en) a9 T) ?_;rintro e a2 w2 ⟨ex,s2,g2,N,rfl,v,p,j⟩;have fin:∀x:Ex,x≠ .normal->YU s (Z2 s en) J x s2=Ua o' ->WY E B s w g a k r (ZcA x) a2 w2:=λx _ ho=>
       WY.out b O.1.1 O.1.2 (a6.trans p.lk) v (λid F=>(p.hz id F).trans (a5 id F)) ho hu
      cases ex with
      |normal=>simp only[Va,Z4,reduceCtorEq,ZW,exists_false]at j|exit i=>
       simp only[Va,Z4,Vn]at j;obtain⟨z,U,rfl⟩:=j
       exact fin (.exit i) (by simp) U|ret=>
       simp only[Va,Z4,Vn]at j;obtain⟨z,U,rfl⟩:=j
       exact fin .ret (by simp) U|jump i=>
       simp only[Va,Z4,Vn]at j;obtain⟨z,U,rfl⟩:=j;exact fin (.jump i) (by simp) U
     grind
  |lpd it en J hb=>
   cases c with
   |seq c1 c2=>
    cases c1 with
    |region id ops draw=>
     cases draw with
     |true=>simp[Kr]at h|false=>
      simp only[Kr]at h
      cases O:(G0 s en.kept&&GZ en J&&G5 en.slots) with
      |false=>grind|true=>
       rw[O]at h;simp only[Zf,Va]at h;simp only[Ve]at O;have⟨x,hx,a4⟩:=h;have⟨n,M⟩:=ZmM a4;have C:∀id∈Z2 s en,id∈Z2 s en:=λ_ h=>h;have a0:=Zgj O.1.1 b.fz;have start:=Zc2 (E:=Ww E en) (E' :=Ww E en) (s' :=s) (fz0:=Z2 s en) (fzN:=Z2 s en) ⟨b.rh,b.fr,b.nt,b.df,b.ids,b.fz⟩ ⟨b.rh,b.fr,b.nt,b.df,b.ids,b.fz⟩ rfl (.refl w g a) (λn M=>Vc _ M) (λn M=>Vd _ (Vc _ M)) (by simp) a0 C C hx;have⟨g1,b1,s1,b0,_,c6⟩:=start
       refine Zdl (λn Q R=>∃y D f,H6 (λy=>Zab it (Xy s (Z2 s en) en y)) (λy i=>ZbQ (Ww E en) ops it i (Yi en.roots ⊕ H8 J) (Xy s (Z2 s en) en y) λs1=>Kr c2 hb (Ww E en) (Yi en.roots ⊕ H8 J) s1 λe s' =>match e with|.normal=>(Yb s (Z2 s en) en s').bind λz=>Ua (.inl z)|e=>(YU s (Z2 s en) J e s').bind λz=>Ua (.inr z)) (λo=>Zal s J o k) r n y/\SR (Ww E en) B (Xy s (Z2 s en) en y) R D f Q/\Lk (Ww E en) w g a R D Q) (n:=n) ⟨x,g1,b1,M,s1,⟨b0,by omega,by simp⟩⟩ ?_
       rintro n Q R ⟨y,D,f,A,T,a6⟩;have a5:∀id∈Z2 s en,(Xy s (Z2 s en) en y).H id=s.H id:=λid F=>Zgc F
       cases n with
       |zero=>exact A.elim|succ n=>
        simp only[H6]at A
        have c4:=ZwV (id:=id) (it:=it) (ops:=ops) (k:=λs1=>Kr c2 hb (Ww E en) (Yi en.roots ⊕ H8 J) s1 λe s' =>match e with|.normal=>(Yb s (Z2 s en) en s').bind λz=>Ua (.inl z)|e=>(YU s (Z2 s en) J e s').bind λz=>Ua (.inr z)) (L.kept en) (K.kept en) T (by grind)
        refine wp_seq (wp_mono c4 ?_);rintro e a2 w2 ⟨i,s2,g2,N,q,hi,rfl,c5,a1,hq,b8⟩;simp only[Exit.then];refine wp_mono (WD S c2 hb (Ww E en) _ _ _ _ (L.kept en) (K.kept en) b8 c5) ?_;rintro e a3 w3 ⟨ex,s3,g3,b4,rfl,v,p,j⟩;have a8:=a6.trans (a1.lk.trans p.lk);have b3:∀id∈Z2 s en,s3.H id=s.H id:=λid F=>((a1.trans p).hz id F).trans (a5 id F);have fin:∀x:Ex,x≠ .normal->(YU s (Z2 s en) J x s3).bind (λz=>Ua (.inr z))=Ua q->WY E B s w g a k r (ZcA x) a3 w3:=λx _ ho=>by
         rw[Va]at ho;obtain⟨z,ho,b2⟩:=ho;simp only[Z4]at b2;subst b2;obtain⟨y',W,_⟩|⟨t,W,h5⟩:=A i hi;.grind
         rw[hq]at W;simp only[Z4,Vn]at W;subst W;exact WY.out b O.1.1 O.1.2 a8 v b3 ho h5
        cases ex with
        |normal=>
         simp only[Va,Z4]at j;obtain⟨z,U,rfl⟩:=j;obtain⟨g4,c8,s4,le4,b6,_⟩:=Zc2 (E:=Ww E en) (E' :=Ww E en) (s:=s) (fz0:=Z2 s en) (fzN:=Z2 s en) ⟨b.rh,b.fr,b.nt,b.df,b.ids,b.fz⟩ v rfl a8 (λn M=>Vc _ M) (λn M=>Vd _ (Vc _ M)) b3 a0 C C U;obtain⟨y',W,h5⟩|⟨t,W,_⟩:=A i hi;.rw[hq]at W;simp only[Z4,Vv]at W;subst W;exact⟨n,Vk n,z,g4,c8,h5,s4,⟨le4,b6,a8.ks⟩⟩
         grind|exit i=>exact fin (.exit i) (by simp) j|ret=>exact fin .ret (by simp) j|jump i=>exact fin (.jump i) (by simp) j
    |_=>simp[Kr]at h
   |_=>simp[Kr]at h
  |_=>simp[Kr]at h
 |.exit id,_,E,ρ,s,k,r,_,_,h,w,g,ow,a,b=>by
  simp only[Kr]at h
  exact wp_exit ⟨.exit id,s,g,ow,rfl,b,.refl s w g a,h⟩|.ret,_,E,ρ,s,k,r,_,_,h,w,g,ow,a,b=>by
  simp only[Kr]at h
  exact wp_ret ⟨.ret,s,g,ow,rfl,b,.refl s w g a,h⟩|.label _,_,E,ρ,s,k,r,_,_,h,w,g,ow,a,b=>by
  simp only[Kr]at h
  exact wp_label ⟨.normal,s,g,ow,rfl,b,.refl s w g a,h⟩|.goto l,_,E,ρ,s,k,r,_,_,h,w,g,ow,a,b=>by
  simp only[Kr]at h
  exact wp_goto ⟨.jump l,s,g,ow,rfl,b,.refl s w g a,h⟩|.refuse _,_,_,_,_,_,_,_,_,h,_,_,_,_,_=>by simp[Kr]at h|.scope c,d,E,ρ,s,k,r,L,K,h,w,g,ow,a,b=>by
  simp only[Kr]at h;refine wp_scope_straight (wp_mono (WD S c d E ρ s _ r L K h b) ?_);rintro e Q R ⟨ex,s',D,f,rfl,v,p,j⟩
  cases ex with|jump l=>grind|normal=>exact⟨.normal,s',D,f,rfl,v,p,j⟩|exit i=>exact⟨.exit i,s',D,f,rfl,v,p,j⟩|ret=>exact⟨.ret,s',D,f,rfl,v,p,j⟩
 |.rangeFunc ..,_,_,_,_,_,_,_,_,h,_,_,_,_,_=>by simp[Kr]at h
end
def VLs(w:X)(g:Gh):ZF->V Y->Prop|.nil,vs=>vs=[]|.cons a l,vs=>∃v r,vs=v::r/\VR w g a v/\VLs w g l r
section
variable {P:Program}{E:Kh}{B:KR}{H:AH}{w:X}{g:Gh}{ow:Nat->Nat->Prop}{I:Nat->Prop}
theorem ZiW(i:RH B H w g ow)(q:∀b,g.I b->I b):∀pl v a x ids l n,(WP pl v).run H l=Ua ((x,ids),n)->VLs w g v a->(∀b,ZO H ow ids.br b->I b)->
 ids.tk.Nodup->∃js,J9 w I pl x js a/\js.Nodup/\∀b∈js,ZO H ow ids.tk b
 |.nil,.nil,a,x,ids,l,n,h,k,f,_=>by
  obtain⟨⟨_,rfl⟩,_⟩:=h
  exact⟨[],⟨rfl,k⟩,.nil,by simp⟩|.cons p pl,.cons v vs,a,x,ids,l,n,h,k,f,O=>by
  simp only[WP,ZY]at h;obtain⟨⟨x1,Q⟩,W,z,⟨T,s⟩,m2,D,⟨rfl,rfl⟩,_⟩:=h;obtain⟨u,r,rfl,F,J⟩:=k;have m:(Q.tk++s.tk).Nodup:=O;have⟨R,S,n3⟩:=Vj.1 m;have⟨t,K,L,o⟩:=ZiY i q z F (λb c=>f b (Wx (λ_ h=>by simp[ZI.app,h]) c)) R;have⟨y,M,N,d⟩:=ZiW i q pl vs r T s _ _ D J (λb c=>f b (Wx (λ_ h=>by simp[ZI.app,h]) c)) S;refine⟨t++y,⟨t,y,u,r,rfl,rfl,K,M⟩,Vj.2 ⟨L,N,λb c U j e=>?_⟩,λb c=>?_⟩;.subst e;have⟨id,A,C⟩:=HT i (o b c) (d b j);grind
  obtain c|c:=Vl.1 c;.exact Wx (λ_ h=>by simp[ZI.app,h]) (o b c)
  exact Wx (λ_ h=>by simp[ZI.app,h]) (d b c)|.nil,.cons _ _,_,_,_,_,_,h,_,_,_|.cons _ _,.nil,_,_,_,_,_,h,_,_,_=>by simp[WP,Zb]at h
def Zez(tmps:Array Y):ResultVar->Sem Y|.tmp t=>pure (tmps.getD t undef)|.cell c t=>do loadVar t (<-asAddr (tmps.getD c undef))
theorem Zey(L:Z0 P E){s}{a:Act}(K:RH B s.H w g ow)(hF:Fr w g s.F a.tmps):∀l vs k n,(Zc4 E s l).run s.H k=Ua (vs,n)->
 ∃d,(l.mapM (Zez a.tmps)).run P w=.ok d w/\VLs w g vs d
 |[],vs,k,n,h=>by
  obtain⟨rfl,_⟩:=h
  exact⟨[],rfl,rfl⟩|.tmp t::l,vs,k,n,h=>by
  simp only[Zc4,ZY,Zr]at h;obtain⟨ws,m,o,rfl,_⟩:=h;have⟨d,j,J⟩:=Zey L K hF l ws k m o;refine⟨a.tmps.getD t undef::d,?_,_,_,rfl,hF t,J⟩
  simp[Zez,j]|.cell c T::l,vs,k,n,h=>by
  simp[Zc4,ZD]at h;have⟨t,ht,h⟩:=h;split at h
  .rename_i id p hc;rw[ZZ]at h;split at h
   .rename_i t0 ct hH;simp only[ZY,ZN,Zr,Zb,ZW,Z7,Ve]at h;obtain⟨v,m,o,⟨j,D⟩,ws,m2,J,rfl,_⟩:=h;have⟨d,h4,h5⟩:=Zey L K hF l ws m m2 J;have R:=hF c;rw[hc]at R;have⟨hk,o',t1,b,O,h7,h8⟩:=R.ptr;have⟨_,M,hf,b',cs,e,Q,S,q,U,r⟩:=K.objs id _ hH;have⟨_,t2,N,⟨o2,pre,post,x,y,z⟩,W,i⟩:=Zf9 o hf r;rw[M,x]at O;obtain⟨rfl,rfl⟩:=Prod.mk.inj (Kx O);rw[h7]at Q;cases Q;have⟨A,C⟩:=Zdt i j (Zf0 j D);have f:HA w b o2 N:=by rw[<-z];exact HA.of_heap q y
    refine⟨_::d,?_,_,_,rfl,.of1 A,h5⟩;simp[Zez,h8,asAddr,Zkl (L.ty T t ht) f (CV.length v t N j i) C,h4]
   simp[Zb]at h
  simp[Zb]at h
theorem Zkm{fn tmps a}(h:(fn.results.toList.mapM (Zez tmps)).run P w=.ok a w):
 (results fn tmps).run P w=.ok (Zaj a) w:=by
 have b:results fn tmps=(do let vs<-fn.results.mapM (Zez tmps);pure (if h:vs.size=1 then vs[0] else .tuple vs)):=by rfl
 rw[b,Array.mapM_eq_mapM_toList];simp only[Sem.run_bind,map_eq_pure_bind,h];congr 1
 cases a with
 |nil=>rfl|cons v l=>cases l with|nil|cons _ _=>rfl
theorem Zhd{b}:∀{l},Jd w g l b->∀n t,VR w g (l.toF t) ((b++Vt n undef).getD t undef)
 |.nil,h,n,t=>by
  subst h;have:([]++Vt n undef).getD t undef=undef:=by grind
  rw[this]
  exact⟨[],rfl,rfl⟩|.cons a l,h,n,t=>by
  obtain⟨v,r,rfl,c,d⟩:=h
  cases t with|zero=>exact .of1 c|succ t=>simpa[ZF.toF] using Zhd d n t
theorem ZhO:∀{pl}{x}{js}{a},J9 w I pl x js a->a.length=pl.len|.nil,_,_,_,h=>by obtain⟨_,rfl⟩:=h;rfl|.cons _ _,_,_,_,h=>by obtain⟨_,_,v,r,_,rfl,_,b⟩:=h;simp[Pats.len,ZhO b]
theorem Zjy{B0 H0 s ks w0 w g0 g a0 ow B}(l:RH B0 H0 w0 g0 a0)(hR:RH B s.H w g ow){av d}(hv:Jd w0 g0 av d)(x:g0.Le g)(hF:∀n∈ks,∀v,d[n]? =Ua v->VR w g (s.F n) v):∀kp,DF ks av H0 s kp=Uc->RB kp d w0 w
 |[],_=>λk hk=>by grind|k::kp,h=>by
  simp[DF]at h;have⟨j,h2⟩:=h;intro i R;obtain rfl|R:=Vi.1 R
  .intro b m cs e M;split at j;case h_2=>grind
   rename_i id W hs S;split at j;case h_2=>grind
   rename_i T c T' c' D hH;split at j;case h_2=>grind
   rename_i a a' ho hn;simp only[Ve,Kp]at j;obtain⟨⟨⟨h3,rfl⟩,C⟩,h5⟩:=j;obtain rfl:=Vb h3;have C:=Vb C;have⟨a2,_,N,b1,a1,e1,K,_,f,_,r⟩:=l.objs id _ D;have⟨_,_,O,b2,A,e2,L,_,Q,_,t⟩:=hR.objs W _ hH;have⟨u,y,U⟩:=ZhU _ _ _ _ hv hs;obtain⟨_,b3,o,rfl⟩:=Zo8 U;rw[y]at m;have m:=Kx m;simp[and_true]at m;subst m;rw[K]at o;obtain rfl:=Kx o;have z:=hF _ (JX.1 h5) _ y;rw[S]at z;have⟨_,o2,t2,b4,h6,h7,h8⟩:=z.ptr;simp[Z4]at h8;rw[L]at h7;obtain rfl:=Kx h7;obtain rfl:=h8.1;rw[M]at f;have f:=Kx f;cases f;have⟨J,q⟩:=ZcV c _ _ _ _ N r ho;have⟨_,p⟩:=ZcV c' _ _ _ _ O t hn;rw[Vg,C]at q p;exact⟨A,e2,Q,by rw[q,p,x.slv _ J]⟩
  exact Zjy l hR hv x hF kp h2 i R
theorem ZuX(hm:P.follows .mixedOrders=Uc)(N:Z0 P E)(hS:∀f,∀S∈E.specs f,ZR P f S)(hI:∀B,(B.pl=Ud->GK P B.w0 B.own0)->(B.pl=Uc->∀f,∀T∈E.specs f,T.pl=Uc)->∀f h,E.inl f=Ua h->Ze1 P B E.stp f h){f fn body}(hf:P.funcs[f]? =Ua fn)(j:fn.body=Ua body)(c9:E.nt=fn.ntmps)
 {S} (b8:S.args.wf=Uc) (a0:Vu S.args.len E.nt=Uc) {hint}{pack} (b4:∀y,S.unp (pack y)=y) (a4:S.pl=Uc->∀f,∀T∈E.specs f,T.pl=Uc)
 (D:∀x z,S.f x=Ua z->Yu E body fn.results hint S.args S.res pack x S.kp=Ua z):Zb9 P f S:=by
 intro w I c js x z M b0 c6 a7 amb hz;have d2:=ZhO M;have c8:=Vp a0;refine calls_of_wp hf j ?_;have D:=D x z hz
 let B:KR:={w0:=w,own0:=(· ∈js),I0:=I,pl:=S.pl}
 let g0:Gh:={I:=I,K:=λ_=>False,ty:=λ_=>.unit,blk:=λ_=>Ub,slv:=λ_=>undef,ver:=λ_=>0,row:=λ_ _ _=>undef}
 have a8:RH B (λ_=>Ub) w g0 (λ_ _=>False):={
  objs:=by simp
  dist:=by simp
  sep:=by simp
  ilt:=a7
  inew:=by grind
  os:=rfl
  tape:=rfl
  output:=.rfl
  size:=Nat.le_refl _
  kept:=(by grind)}
 have J:W3 B (λ_=>Ub) w g0 (λ_ _=>False) js:=⟨b0,by grind⟩;have⟨g1,c2,l1,i1,r1,c1,k1,_⟩:=Zgf S.args a8 x js c 0 M J (by grind);have c5:WM (Z5 S.args x 0).2.1=Zu (λ_=>Ub) (Wl (Z5 S.args x 0).2.1):=by funext id;rw[Zee _ _ _ (Zd9 _ _ _)];grind
 have hs:SR {E with ks:=X4 S.args 0} B ⟨(Z5 S.args x 0).1.toF,WM (Z5 S.args x 0).2.1,(Z5 S.args x 0).2.2,[]⟩ w g1 c2 {tmps:=c.toArray++Vo (fn.ntmps - c.toArray.size) undef,defers:=[] }:={
  rh:=by grind
  fr:=λt=>by have:=Zhd c1 (fn.ntmps - c.length) t;simpa[Vh,List.getD_eq_getElem?_getD,<-Vg] using this
  nt:=by grind
  df:=rfl
  ids:=by grind
  fz:=(by simp)}
 refine wp_mono (WD hm body hint {E with ks:=X4 S.args 0} S.α _ _ z ⟨N.ty,N.mty,N.pk,N.pz,N.bd⟩ ⟨hS,amb,a4,hI B amb a4⟩ D hs) ?_;rintro e a' w' ⟨ex,A,g',l,rfl,a,o,O⟩;rw[Va]at O;have⟨y,hy,b9⟩:=O
 cases W:DF (X4 S.args 0) (Z5 S.args x 0).1 (WM (Z5 S.args x 0).2.1) A S.kp with
 |false=>grind|true=>
 rw[W]at b9;have b1:RB S.kp c w w' :=Zjy hs.rh a.rh c1 o.lk.le (λk O v hv=>by
  have C:=a.fr k;rw[o.lk.ks k O]at C;have q:(c.toArray++Vo (fn.ntmps - c.toArray.size) undef).getD k undef=v:=by have⟨c7,_⟩:=List.getElem?_eq_some_iff.1 hv;simp[Vh,<-Vg];grind
  grind) S.kp W
 have key:∀(d:YO E fn.results S.args S.res [] .normal A=Ua y),a'.defers=[]/\∃v,(results fn a'.tmps).run P w' =.ok v w' /\∃rv,Ending.returned v=.returned rv/\Rv S w I js c (S.unp z) rv w' /\RB S.kp c w w' :=by
  intro d;refine⟨a.df,?_⟩;simp only[YO,ZE.runK_eq]at d;rw[Va]at d;have⟨⟨⟨yv,ids⟩,rd⟩,s,d⟩:=d;simp only[ZY,Zr,Prod.mk.injEq]at s;obtain⟨vs,m1,a6,⟨xr,m⟩,m2,U,⟨yo,io⟩,m3,a3,⟨rfl,rfl⟩,_⟩:=s
  cases hc:((ZI.app io m).ok [] &&Xe (ZI.app io m).br []) with
  |false=>grind|true=>
   rw[hc]at d;simp only[Zf,Z4]at d;subst d;simp only[Ve]at hc;have⟨b2,c4,_⟩:=ZI.ok_iff hc.1;have a1:(io.tk++m.tk).Nodup:=b2;have⟨n1,n2,n3⟩:=Vj.1 a1;have⟨p,b5,b6⟩:=Zey N a.rh a.fr fn.results.toList vs [] m1 a6;have Q:∀b,g'.I b->g'.I b\/ZO A.H l (ZI.app io m).br b:=by grind
   have R:∀(i:ZI),(∀n∈i.br,n∈(ZI.app io m).br)->∀b,ZO A.H l i.br b->g'.I b\/ZO A.H l (ZI.app io m).br b:=λi hi b j=>.inr (Wx hi j);have⟨jr,d1,b7,a5⟩:=ZiW a.rh Q S.res vs p xr m m1 m2 U b6 (R m λn L=>by simp[ZI.app,L]) n2;have⟨jo,d0,b3,a2⟩:=ZgE (F:=A.F) a.rh Q (w0:=w) (I0:=I) S.args 0 c x js yo io m2 m3 a3 b8 M (λk v O hv=>by
    have C:=a.fr k;rw[o.lk.ks k O]at C;have q:(c.toArray++Vo (fn.ntmps - c.toArray.size) undef).getD k undef=v:=by simp only[Vh,<-Vg];grind
    grind) (R io λn L=>by simp[ZI.app,L]) n1
   refine⟨Zaj p,Zkm b5,Zaj p,rfl,⟨(λb=>g'.I b\/ZO A.H l (ZI.app io m).br b),jo,jr,?_,⟨p,?_,rfl⟩,?_,?_,?_,?_,a.rh.os,a.rh.tape,a.rh.output,a.rh.size,λb C q=>a.rh.kept b C q⟩,b1⟩;.grind
   .grind
   .refine Vj.2 ⟨b3,b7,λb j b' a9 e=>?_⟩;subst e;have⟨id,C,q⟩:=HT a.rh (a2 b j) (a5 b a9);grind
   .intro b j;have r:ZO A.H l (ZI.app io m).tk b:=by
     obtain h|h:=Vl.1 j;.exact Wx (λn L=>by simp[ZI.app,L]) (a2 b h)
     exact Wx (λn L=>by simp[ZI.app,L]) (a5 b h)
    have⟨id,C,q,h3⟩:=id r;have⟨h4,h5,h6⟩:=a.rh.sep id b q h3;refine⟨λh=>?_,h5,h6⟩;obtain h|h:=h;.grind
    have⟨k,h7,h8⟩:=HT a.rh h r;grind
   .intro b j;refine .inl (o.lk.le.I b ?_);rw[i1.I];omega
   intro b j;obtain j|⟨id,_,q,h3⟩:=j
   .refine⟨a.rh.ilt b j,?_⟩;obtain h|h|h:=a.rh.inew b j;all_goals grind
   have⟨_,h5,h6⟩:=a.rh.sep id b q h3;grind
 cases ex with|normal=>exact key hy|exit _|jump _=>simp[YO]at hy|ret=>exact key (by assumption)
theorem ZuW (C:P.follows .mixedOrders=true) (v:Z0 P E) (t:∀f,∀S∈E.specs f,ZR P f S) (s:∀B,(B.pl=false→GK P B.w0 B.own0)→(B.pl=true→∀f,∀T∈E.specs f,T.pl=true)→∀f h,E.inl f=some h→Ze1 P B E.stp f h) {f} {fn} {body} (l:P.funcs[f]? =some fn) (A:fn.body=some body) (j:E.nt=fn.ntmps) (a:(fn.name== "runtime.NumGoroutine")=false)
 {S} (d:S.args.wf=Uc) (c:Vu S.args.len E.nt=Uc) {hint}{pack} (b:∀y,S.unp (pack y)=y) (k:S.pl=Uc->∀f,∀T∈E.specs f,T.pl=Uc)
 (i:∀x z,S.f x=Ua z->Yu E body fn.results hint S.args S.res pack x S.kp=Ua z):ZR P f S:=
 have key:=ZuX C v t s l A j d c b k i
 {wf:=d
  fn:=⟨fn,l,by grind,a⟩
  run:=λw I e D x z m n o p q r=>(key w I e D x z m n o p q r).mono (by grind)
  kept:=.inr key}
end
end Tr
end
section
namespace Tr
universe u
open Go
def DW(P:Program)(a:List (Nat×Ty))(ms:List (Nat×Ty×Ty))(pks:List (Nat×Nat))(b:List (Nat×Nat):=[]):Bool:=
 (b.all λp=>match P.info? p.1 with
   |some i=>(match i.zero with
    |some z=>(match z.cells.toList with|[.pointer Ub,.slice Ub 0 0]=>Uc|_=>Ud)
    |none=>Ud)
   |none=>Ud)&&
 (a.all λp=>ZkG P (λn=>a.lookup n) p.1 p.2)&&
 (ms.all λp=>match P.underlying p.1 with|some (.map K V)=>a.lookup K==Ua p.2.1&&a.lookup V==Ua p.2.2|_=>Ud)&&
 (pks.all λp=>match P.underlying p.1 with|some (.pointer _)=>Vf p.2 1|some (.func ..)=>Vf p.2 2|some (.map _ _)=>Vf p.2 3|_=>Ud)
theorem Za0{α:Type u}{k x}:∀{l:V (Nat×α)},l.lookup k=Ua x->(k,x)∈l
 |[],h=>by simp at h|(i,y)::l,h=>by
  rw[List.lookup_cons]at h
  cases a:k==i with|true=>rw[a]at h;simp[Z4]at h;have:=beq_iff_eq.1 a;subst this;subst h;simp|false=>rw[a]at h;exact List.mem_cons_of_mem _ (Za0 h)
theorem typesOk_of{P d ms pks c}(h:DW P d ms pks c=Uc){E:Kh}(l:E.ty=λn=>d.lookup n)(o:E.mty=λn=>ms.lookup n)(p:E.pk=λn=>(pks.lookup n).getD 0)(q:E.bd=λn=>c.lookup n)(r:∀T,E.pz T=Uc->∃e,P.underlying T=Ua (.pointer e)/\∀w,∃n,(Go.sizeOf e).run P w=.ok n w/\n≠0):Z0 P E:=by
 simp only[DW,Ve,Vs]at h;have⟨⟨⟨f,F⟩,C⟩,D⟩:=h;refine⟨λT t a=>?_,λT m a=>?_,λT=>?_,r,λT e a=>?_⟩
 rotate_left 3
 .rw[q]at a;have:=f (T,e) (Za0 a);split at this
  .rename_i i v;split at this
   .rename_i z J;split at this
    .rename_i s;refine⟨z,λw=>?_,?_⟩
     .simp[zeroValue,typeInfo,v,J]
     rw[<-Array.toList_inj];exact s
    cases this
   cases this
  cases this
 .rw[l]at a⊢;exact ZzB (F (T,t) (Za0 a))
 .rw[o]at a;rw[l];have:=C (T,m) (Za0 a);split at this
  .rename_i K V b;simp[Kp]at this;exact⟨K,V,b,this.1,this.2⟩
  cases this
 have j:E.pk T=(pks.lookup T).getD 0:=by rw[p]
 rw[j]
 cases A:pks.lookup T with
 |none=>exact⟨λh=>(by simp at h),λh=>(by simp at h),λh=>(by simp at h)⟩|some k=>
  have:=D (T,k) (Za0 A);split at this;.rename_i e b;have:=Vb this;subst this;exact⟨λ_=>⟨e,b⟩,λh=>(by simp at h),λh=>(by simp at h)⟩
  .rename_i x y z b;have:=Vb this;subst this;exact⟨λh=>(by simp at h),λ_=>⟨x,y,z,b⟩,λh=>(by simp at h)⟩
  .rename_i x y b;have:=Vb this;subst this;exact⟨λh=>(by simp at h),λh=>(by simp at h),λ_=>⟨x,y,b⟩⟩
  cases this
def Zbf(P:Program)(f:FuncId):V Spec->Prop|[]=>True|S::l=>ZR P f S/\Zbf P f l
def Zbe(P:Program):V (Nat×V Spec)->Prop|[]=>True|p::m=>Zbf P p.1 p.2/\Zbe P m
theorem Zbf.mem{P f}:∀{l},Zbf P f l->∀S∈l,ZR P f S
 |[],_,S,h=>by simp at h|T::l,h,S,a=>by
  obtain rfl|a:=Vi.1 a;.exact h.1
  exact Zbf.mem h.2 S a
theorem Zbe.mem{P}:∀{m},Zbe P m->∀p∈m,Zbf P p.1 p.2
 |[],_,p,h=>by simp at h|q::m,h,p,a=>by
  obtain rfl|a:=Vi.1 a;.exact h.1
  exact Zbe.mem h.2 p a
theorem Zkq{P m}(h:Zbe P m){E:Kh}(c:E.specs=λn=>(m.lookup n).getD []):∀f,∀S∈E.specs f,ZR P f S:=by
 refine λf S a=>?_;have e:E.specs f=(m.lookup f).getD []:=by rw[c]
 rw[e]at a
 cases b:m.lookup f with|none=>rw[b]at a;simp at a|some l=>rw[b]at a;exact(h.mem (f,l) (Za0 b)).mem S a
theorem W6{P i ms pks a rws zxs m nt f fn S hint pack}
 (A:P.follows .mixedOrders=Uc) (C:DW P i ms pks a=Uc) (s:Zbe P m)
 (n:∀x z,S.f x=Ua z->Yu (mkE i ms pks rws zxs m nt a) (Wh fn) fn.results hint S.args S.res pack x S.kp=Ua z)
 (v:P.funcs[f]? =some fn:=by kernel_rfl) (t:fn.body=some (Wh fn):=by kernel_rfl) (q:nt=fn.ntmps:=by kernel_rfl) (b:(fn.name== "runtime.NumGoroutine")=false:=by kernel_rfl)
 (r:S.args.wf=true:=by kernel_rfl) (k:Vu S.args.len nt=true:=by kernel_rfl) (c:∀y,S.unp (pack y)=y:=by intro y;rfl) (d:(!S.pl||m.all λp=>p.2.all (·.pl))=true:=by kernel_rfl):ZR P f S:=
 ZuW A (typesOk_of C rfl rfl rfl rfl λ_ h=>absurd (show Ud=Uc from h) (by decide)) (Zkq s rfl) (λ_ _ _ _ h e=>absurd (show Ub=Ua h from e) (by simp)) v t q b r k c (λh g T j=>by
  rw[h]at d;simp only[Bool.not_true,Bool.false_or,Vs]at d;have e:(mkE i ms pks rws zxs m nt a).specs g=(m.lookup g).getD []:=rfl;rw[e]at j
  cases o:m.lookup g with|none=>rw[o]at j;simp at j|some l=>rw[o]at j;exact d (g,l) (Za0 o) T j) n
end Tr
end
