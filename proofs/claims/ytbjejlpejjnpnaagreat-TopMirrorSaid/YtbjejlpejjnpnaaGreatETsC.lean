/- The code of the abstract machine is the code of the model. Conditions: the table of types is the program's, the specs are true, the program draws mixed orders. -/
import Derived.Scope
import Derived.KernelRfl
import Derived.Test.YtbjejlpejjnpnaaGreatETrT
open Array renaming getElem?_toList ->Vh,getD_eq_getD_getElem? ->Vi,replicate ->Vt
open Bool renaming and_eq_true ->Vb,not_eq_true' ->Vv
open List renaming mem_append_left ->Vd,mem_append_right ->Ve,mem_append ->Vf,mem_cons ->Vj,nodup_append ->Vk,mem_singleton ->Vm,nodup_range ->Vw,all_eq_true ->Vx,mapM_cons ->Vy,replicate ->Vz
open Nat renaming eq_of_beq_eq_true ->Vc,beq ->Vg,lt_succ_self ->Vp,le_of_ble_eq_true ->Vu,ble ->Vaa
open Option renaming bind_eq_some_iff ->Va
open Prod renaming snd ->Vs
open Prod.mk renaming injEq ->Vn
open Go.Result renaming andThen_ok ->Vl
open Go.Sem renaming run_bind ->Vq,run_pure ->Vr
open Sum.inl renaming injEq ->Vba
open Sum.inr renaming injEq ->Vo
open Go.Value renaming pointer ->Vca
section
namespace Tr
open Go
theorem Zrl{s:AS}{l m:List Nat}(h:∀n∈l,n∈m):∀id∈H9 s l,id∈H9 s m:=by
 have key:∀(m:List Nat) n,n∈m->∀id∈(match s.F n with|.fn _ b=>AV.boxes b|v=>De s.H 8 v),id∈H9 s m:=by
  intro m
  induction m with
  |nil=>simp
  |cons k m c=>
   intro n d id a;simp only[H9,Vf]
   grind
 induction l with
 |nil=>intro id a;simp [H9]at a
 |cons n l c=>
  intro id a;simp only[H9,Vf]at a;rcases a with a|a
  ·exact key m n (by grind) id a
  grind
theorem Zi0{H:AH} :∀{l:Zq},Zdq H l=true->∀id∈AV.boxes l,XJ H id=true
 |.nil,_,id,b=>by simp [AV.boxes]at b
 |.cons v l,h,id,b=>by
  simp only[Zdq,Vb]at h;simp only[AV.boxes,Vf,Option.mem_toList]at b;rcases b with b|b
  ·cases v with
   |ptr k p=>
    cases p with
    |nil=>
     simp only[AV.box?,Option.some.injEq]at b
     grind
    |cons a p=>grind
   |_=>simp [AV.box?]at b
  ·exact Zi0 h.2 id b
theorem Zkx{s:AS} :∀{l:List Nat},HN s l=true->∀id∈H9 s l,XJ s.H id=true
 |[],_,id,a=>by simp [H9]at a
 |n::l,h,id,a=>by
  simp only[HN,Vb]at h;simp only[H9,Vf]at a;rcases a with a|a
  ·have b:=h.1
   cases c:s.F n with
   |fn f d=>rw[c]at b a;exact Zi0 b id a
   |ptr i p=>
    grind
   |vw i=>rw[c]at b a;simp only[De,Vm]at a;grind
   |nw i v e k=>rw[c]at b a;simp only[De,Vm]at a;grind
   |mp i=>rw[c]at b a;simp only[De,Vm]at a;grind
   |agg l=>grind
   |_=>rw[c]at a;simp [De]at a
  ·exact Zkx h.2 id a
theorem Zd6{s:AS}{e:WZ}(h:HN s e.kept=true)(b:∀id∈s.fz,XJ s.H id=true):∀id∈ZY s e,XJ s.H id=true:=by
 intro id a;rcases Vf.1 a with a|a
 ·exact Zkx h id a
 grind
mutual
theorem Zh2{w0 w:World}{g0 g e:Gh}(q:∀b,g.I b->e.I b)(m:∀id,g0.K id->e.K id)(o:e.ty=g.ty)(r:e.blk=g.blk)(y:e.slv=g.slv)(z:e.ver=g.ver)(s:e.row=g.row):∀(v:AV) (j cs:List Value),CV w0 g0 v j->CV w g v cs->CV w e v cs
 |.d t x,_,cs,_,h=>Rd.mono (fun _ _=>rfl) q t x cs h
 |.junk,_,_,_,_=>by simp [CV]
 |.tup _,_,_,_,h=>by simp [CV]at h
 |.agg l,j,cs,a,h=>by simp only[CV]at a h⊢;exact Ze6 q m o r y z s l j cs a h
 |.dp t x,_,cs,_,h=>by
  simp only[CV]at h⊢;obtain⟨b,off,c,F,A,C,G⟩:=h
  exact⟨b,off,c,F,q _ A,C,Rd.mono (fun _ _=>rfl) q t x c G⟩
 |.ptr id p,_,cs,a,h=>by
  simp only[CV]at a h⊢
  rw[o,r];exact⟨m _ a.1,h.2⟩
 |.vw id,_,cs,a,h=>by
  simp only[CV]at a h⊢
  rw[y];exact⟨m _ a.1,h.2⟩
 |.vs id lo n,_,cs,a,h=>by
  simp only[CV]at a h⊢
  rw[y,o];exact⟨m _ a.1,h.2⟩
 |.vp id i p,_,cs,a,h=>by
  simp only[CV]at a h⊢
  rw[o,r];exact⟨m _ a.1,h.2⟩
 |.mp id,_,cs,a,h=>by
  simp only[CV]at a h⊢
  rw[r];exact⟨m _ a.1,h.2⟩
 |.fn f l,j,cs,a,h=>by
  simp only[CV]at a h⊢;obtain⟨D,_,A⟩:=a;obtain⟨M,F,C⟩:=h
  exact⟨M,F,Ze6 q m o r y z s l D M A C⟩
 |.nilr _,_,_,_,h=>by simpa only[CV] using h
 |.nils,_,_,_,h=>by simpa only[CV] using h
 |.jk _,_,_,_,h=>by simpa only[CV] using h
 |.nw id ver S k,_,cs,a,h=>by
  simp only[CV]at a h⊢
  rw[z,s];exact⟨m _ a.1,h.2⟩
 |.np id ver S k i p,_,cs,a,h=>by simp only[CV]at a h⊢;rw[z,s,o];exact⟨m _ a.1,h.2⟩
theorem Ze6{w0 w:World}{g0 g e:Gh}(q:∀b,g.I b->e.I b)(m:∀id,g0.K id->e.K id)(o:e.ty=g.ty)(r:e.blk=g.blk)(y:e.slv=g.slv)(z:e.ver=g.ver)(s:e.row=g.row):∀(l:Zq) (j cs:List Value),Z5 w0 g0 l j->Z5 w g l cs->Z5 w e l cs
 |.nil,_,_,_,h=>by simpa only[Z5] using h
 |.cons v l,j,cs,a,h=>by simp only[Z5]at a h⊢;obtain⟨N,O,_,A,C⟩:=a;obtain⟨J,L,G,Q,R⟩:=h;exact⟨J,L,G,Zh2 q m o r y z s v N J A Q,Ze6 q m o r y z s l O L C R⟩
end
theorem Znw{w:World}{g j:Gh}{J:Nat->Prop}{id:Nat}{o:K0}{H:AH}(hH:H id=some o)(hd:XJ H id=true)(n:∀b,g.I b->j.I b){w0:World}{g0:Gh}{J0:Nat->Prop}(hK:∀id,g0.K id->j.K id)(Y:j.ty=g.ty)(Q:j.blk=g.blk)(X:j.slv=g.slv)(Z:j.ver=g.ver)(W:j.row=g.row)(p:WF w0 g0 J0 id o)
 (h:WF w g J id o):WF w j J id o:=by
 have C:j.ty id=g.ty id:=by grind
 have s:j.blk id=g.blk id:=by grind
 have hs:j.slv id=g.slv id:=by grind
 have hv:j.ver id=g.ver id:=by grind
 have V:j.row id=g.row id:=by grind
 unfold XJ at hd;rw[hH]at hd
 cases o with
 |var t c=>
  obtain⟨_,_,_,a0,_,_,_,_,_,z⟩:=p;obtain⟨p,hf,b,cs,e,i,d,q,r,y⟩:=h
  exact⟨C.trans p,hf,b,cs,e,s.trans i,d,q,r,Zh2 n hK Y Q X Z W c _ _ z y⟩
 |vec t xs=>
  obtain⟨p,h⟩:=h;refine⟨C.trans p,?_⟩;rcases h with ⟨i,d,q⟩|⟨b,cap,cs,e,N,i,d,q,r,y,z,G,L⟩
  ·grind
  ·exact .inr ⟨b,cap,cs,e,N,s.trans i,d,hs.trans q,r,y,z,G.mono fun x c f=>Rd.mono (fun _ _=>rfl) n t x c f,L⟩
 |map kt vt m=>
  obtain⟨b,es,clock,i,d,q,R,r⟩:=h
  exact⟨b,es,clock,s.trans i,d,q,R,r.mono fun kv e f=>⟨⟨by have:=f.1.1;simp only[CV]at this⊢;exact Rd.mono (fun _ _=>rfl) n _ _ _ this,f.1.2⟩,⟨by have:=f.2.1;simp only[CV]at this⊢;exact Rd.mono (fun _ _=>rfl) n _ _ _ this,f.2.2⟩⟩⟩
 |rows t xs v M=>
  obtain⟨p,i,d,q⟩:=h;refine⟨C.trans p,hv.trans i,?_,?_⟩
  ·rw[s,V];exact⟨fun k x a b=>(d.rd k x a b).mono (fun _ _=>rfl) n (by simp) (by simp),d.ds,d.tp⟩
  grind
 |mrows kt t m v M=>
  obtain⟨p,i,d,q,r,b,es,clock,y,z,G,S,L⟩:=h;refine⟨C.trans p,hv.trans i,?_,q,?_,b,es,clock,s.trans y,z,G,S,?_⟩
  ·rw[s,V];exact⟨fun k x a b=>(d.rd k x a b).mono (fun _ _=>rfl) n (by simp) (by simp),d.ds,d.tp⟩
  ·grind
  ·rw[V];exact L.mono fun kv e f=>⟨⟨by have:=f.1.1;simp only[CV]at this⊢;exact Rd.mono (fun _ _=>rfl) n _ _ _ this,f.1.2⟩,f.2⟩
 |rng kt vt rest cur=>
  obtain⟨b,mb,es,clock,since,seen,p,i,d,q,r,y,z,G,L⟩:=h;refine⟨b,mb,es,clock,since,seen,C.trans p,s.trans i,d,q,r,y,z,G.mono fun kv e f=>⟨⟨by have:=f.1.1;simp only[CV]at this⊢;exact Rd.mono (fun _ _=>rfl) n _ _ _ this,f.1.2⟩,⟨by have:=f.2.1;simp only[CV]at this⊢;exact Rd.mono (fun _ _=>rfl) n _ _ _ this,f.2.2⟩⟩,fun kv U=>?_⟩;obtain⟨e,h9,A,O,D,F⟩:=L kv U
  exact⟨e,h9,A,O,⟨by have:=D.1;simp only[CV]at this⊢;exact Rd.mono (fun _ _=>rfl) n _ _ _ this,D.2⟩,⟨by have:=F.1;simp only[CV]at this⊢;exact Rd.mono (fun _ _=>rfl) n _ _ _ this,F.2⟩⟩
 |dat t xs=>exact⟨C.trans h.1,by rw[hs];exact Rd.mono (fun _ _=>rfl) n _ _ _ h.2⟩
 |cel t l=>grind
 |bld T e bs=>
  obtain⟨b,i,d⟩:=h;exact⟨b,s.trans i,d⟩
theorem ZkN{w:World}{g:Gh}{tmps:Array Value} :∀(l:List (Nat×AV)),(∀q∈l,Kk w g q.2 (tmps.getD q.1 undef))->∀k,Kk w g (Ri l k) (tmps.getD k undef)
 |[],_,k=>⟨by simp [CV,Ri],.inl rfl⟩
 |q::l,h,k=>by
  simp only[Ri]
  cases a:Vg k q.1 with
  |true=>simp_all
  |false=>exact ZkN l (by grind) k
section
variable {P:Program}{E E' :Km}{B:Kd}
theorem Zjb{w w1:World}{g s:Gh}{F i:Nat->AV}{tmps:Array Value}(hF:Fr w g F tmps)(e:∀k,(∀m,i k≠ .tup m)->Kk w1 s (i k) (tmps.getD k undef)):∀(c:Zq) (l:List Nat) (j:List Value),Dc F c l=true->Z5 w g c j->
 (∀n∈l,∀m,i n≠ .tup m)->Z5 w1 s (Zq.ofList (l.map i)) j
 |.nil,[],j,_,q,_=>by assumption
 |.nil,n::l,_,h,_,_=>by simp [Dc]at h
 |.cons v vs,[],_,h,_,_=>by simp [Dc]at h
 |.cons v vs,n::l,j,h,q,O=>by
  simp only[Dc,Vb]at h;simp only[Z5]at q;obtain⟨D,r,rfl,x,G⟩:=q;simp only[List.map_cons,Zq.ofList,Z5];refine⟨D,r,rfl,?_,Zjb hF e vs l r h.2 G (by grind)⟩;have d:=h.1
  cases v with
  |ptr id p=>
   cases p with
   |nil=>
    simp only[AV.box?]at d
    cases f:F n with
    |ptr Q C=>
     cases C with
     |nil=>
      rw[f]at d;simp only at d;have:=Vc d;subst this;have A:=hF n;rw[f]at A;obtain⟨_,o,t,b,J,K,L⟩:=A.ptr;simp only[CV]at x;obtain⟨_,S,T,R,y,z,M⟩:=x;rw[J]at y;cases y;rw[K]at z;cases z;have N:=(e n (by grind)).1;rw[L]at N;rw[M]
      assumption
     |cons a C=>grind
    |_=>grind
   |cons a p=>simp [AV.box?]at d
  |_=>simp [AV.box?]at d
theorem Zis{w w1:World}{g s:Gh}{F o:Nat->AV}{tmps:Array Value}(hF:Fr w g F tmps)(e:Fr w1 s o tmps)(q:∀k m,o k=.tup m->∀id,F k≠ .ptr id []):∀(l:List (Nat×FuncId×List Nat)),Zb7 F l=true->Fr w1 s (Zdh o l) tmps
 |[],_=>e
 |(n,f,l)::m,h=>by
  simp only[Zb7,Vb]at h;simp only[Zdh];refine(Zis hF e q m h.2).upd ?_;have d:=h.1;have j:=hF n;split at d
  ·rename_i A b c;simp only[Vb]at d;have:=Vc d.1;subst this;rw[c]at j;obtain⟨r,x,y⟩:=j.fn;rw[x];refine⟨?_,.inr rfl⟩;simp only[CV]
   have i:∀(b:Zq) (l:List Nat),Dc F b l=true->∀n∈l,∃id,F n=.ptr id []:=by
    intro b l
    induction l generalizing b with
    |nil=>simp
    |cons k l C=>
     intro h n t
     cases b with
     |nil=>simp [Dc]at h
     |cons v vs=>
      simp only[Dc,Vb]at h;rcases Vj.1 t with rfl|t
      ·have d:=h.1
       cases c:F n with
       |ptr id p=>
        cases p with
        |nil=>simp
        |cons a p=>rw[c]at d;cases j:v.box? <;>simp [AV.box?]at d
       |_=>rw[c]at d;cases j:v.box? <;>simp [AV.box?]at d
      grind
   exact⟨r,by rfl,Zjb hF (fun k z=>(e k).to1 z) b l r d.2 y (by grind)⟩
  grind
theorem Zn4{w:World}{g:Gh}{x y:AV}{u v:Value}(a:VR w g x u)(c:VR w g y v)(h:Zfx x y=true):u=v:=by
 unfold Zfx at h;split at h
 ·have:=Vc h;subst this;rw[a.vw.2,c.vw.2]
 ·have:=Vc h;subst this;obtain⟨_,b,e,rfl⟩:=a.mp;obtain⟨_,d,f,rfl⟩:=c.mp
  grind
 ·have:=Vc h;subst this;obtain⟨_,o,t,b,e,f,rfl⟩:=a.ptr;obtain⟨_,k,l,d,i,j,rfl⟩:=c.ptr
  grind
 ·rw[a.nils,c.nils]
 grind
theorem Zir{w w1:World}{g c:Gh}{F b:Nat->AV}{tmps:Array Value}(hF:Fr w g F tmps)(a:Fr w1 c b tmps):∀(l:List (Nat×Nat)),ZbO F l=true->Fr w1 c (Zdg b l) tmps
 |[],_=>a
 |p::l,h=>by simp only[ZbO,Vb]at h;simp only[Zdg];refine(Zir hF a l h.2).upd ?_;rw[Zn4 (hF p.1) (hF p.2) h.1];exact a p.2
theorem ZsW{s s' :AS}{w w' :World}{g A:Gh}{ow z:Nat->Nat->Prop}{a a' :Act}(O:SR E B s w g ow a)(c:SR E' B s' w' A z a')(a8:E'.nt=E.nt){e:WZ}{fz0 fzN:List Nat}{x:W4 e.roots}
 (J:Lk E' w g a w' A a') (a6:∀n∈e.kept,n∈E'.ks) (hH:∀id∈ZY s e,s'.H id=s.H id) (hD:∀id∈ZY s e,XJ s.H id=true) (b7:∀id∈ZY s e,id∈fz0) (a2:∀id∈fzN,id∈ZY s e)
 (h:ZgY fz0 e s' =some x):∃D Q,SR E B (ZaW s fzN e x) w' D Q a' /\g.Le D/\Kj g.I w w' /\(∀id∈ZY s e,(ZaW s fzN e x).H id=s.H id)/\ ∀id,g.K id->D.slv id=A.slv id:=by
 unfold ZgY at h;rw[Zw.runK_eq]at h
 cases hx:(RU s'.F e.roots).run s'.H [] with
 |none=>grind
 |some y=>
  obtain⟨⟨j,ids⟩,rd⟩:=y;rw[hx]at h;simp only[Za]at h
  cases hc:(ids.ok fz0&&J7 ids.br fz0&&Zb7 s'.F e.fns&&ZbO s'.F e.als) with
  |false=>grind
  |true=>
   rw[hc]at h;simp only[Zc,Option.some.injEq]at h;subst h;simp only[Vb]at hc;obtain⟨⟨⟨a9,a1⟩,U⟩,T⟩:=hc;obtain⟨a7,b2,b4⟩:=ZG.ok_iff a9;have b1:=D6.1 a1;obtain⟨js,b0,a4,V⟩:=ZjE c.rh (I:=fun b=>A.I b\/ZV s'.H z ids.br b) (by grind) c.fr e.roots j ids [] rd hx (by grind) a7
   let g1:Gh:= {I:=fun b=>A.I b\/ZV s'.H z ids.br b,K:=g.K,ty:=A.ty,blk:=A.blk,slv:=A.slv,ver:=A.ver,row:=A.row}
   let H1:AH:=fun id=>bif KX id (ZY s e) then s.H id else none
   have L:∀id,H1 id≠none->id∈ZY s e/\s'.H id≠none/\H1 id=s.H id/\s'.H id=s.H id:=by
    intro id d
    have e1:H1 id=bif KX id (ZY s e) then s.H id else none:=rfl
    cases X:KX id (ZY s e) with
    |false=>grind
    |true=>
     have f:=Jj.1 X
     grind
   have a3:g.Le g1:=⟨fun b i=>.inl (J.le.I b i),fun _ h=>h,fun id d=>J.le.ty id d,fun id d=>J.le.blk id d,fun id d=>J.le.slv id d,fun id d=>J.le.ver id d,fun id d=>J.le.row id d⟩
   have a0:RH B H1 w' g1 z:= {
    objs:=fun id o ho=>by obtain⟨f,v,p,r⟩:=L id (by grind);have C:s.H id=some o:=p.symm.trans ho;have Y:s'.H id=some o:=r.trans C;exact⟨(O.rh.objs id o C).1,Znw (g0:=g) C (hD id f) (fun b i=>.inl i) (by grind) rfl rfl rfl rfl rfl (O.rh.objs id o C).2 (c.rh.objs id o Y).2⟩
    dist:=fun id t b p r R h4=>c.rh.dist id t b (by grind) (by grind) R h4
    sep:=fun id b p r=>by
     obtain⟨f,v,_⟩:=L id p;obtain⟨R,h4,h5⟩:=c.rh.sep id b v r;refine⟨fun M=>?_,h4,h5⟩;rcases M with M|⟨t,h6,h7,h8⟩
     ·grind
     ·have:=c.rh.dist id t b v h7 r h8
      grind
    ilt:=fun b i=>by
     rcases i with i|⟨id,_,p,r⟩
     ·exact c.rh.ilt b i
     ·exact(c.rh.sep id b p r).2.1
    inew:=fun b i=>by
     rcases i with i|⟨id,_,p,r⟩
     ·exact c.rh.inew b i
     ·exact .inr (c.rh.sep id b p r).2.2
    os:=c.rh.os
    tape:=c.rh.tape
    output:=c.rh.output
    size:=c.rh.size
    kept:=c.rh.kept}
   have N:W5 B H1 w' g1 z js:=⟨a4,fun b i=>by
    obtain⟨id,p,r,R⟩:=V b i;obtain⟨h4,h5,h6⟩:=c.rh.sep id b r R;refine⟨fun M=>?_,h5,h6,fun t h7 h8=>?_⟩
    ·rcases M with M|M
     ·grind
     ·obtain⟨k,h9,b5⟩:=Ge c.rh M (V b i)
      grind
    ·obtain⟨f,v,_⟩:=L t h7;have:=c.rh.dist t id b v r h8 R
     grind⟩
   obtain⟨D,Q,l2,i2,r2,c2,k2,_⟩:=Zj9 e.roots a0 j js s.nx b0 N fun id p r hK=>by have:=O.ids id hK;omega
   have b6:(ZaW s fzN e j).H=Zr H1 (Wu (Wz e.roots j s.nx).2.1):=by
    funext id;rw[ZgI _ _ _ (Zj8 _ _ _)]
    show (bif KX id (ZY s e) then s.H id else Xt (Wz e.roots j s.nx).2.1 id)=_
    cases X:KX id (ZY s e) with
    |true=>
     have b8:id<s.nx:=by
      have hd:=hD id (Jj.1 X)
      cases ho:s.H id with
      |none=>unfold XJ at hd;grind
      |some o=>exact O.ids id (O.rh.objs id o ho).1
     have hl:Xt (Wz e.roots j s.nx).2.1 id=none:=by
      have b3:=(Zch e.roots j s.nx).2
      have key:∀l:List (Nat×K0),(∀o∈l,s.nx<=o.1)->Xt l id=none:=by
       intro l
       induction l with
       |nil=>intro _;rfl
       |cons q l ih=>
        intro h;simp only[Xt]
        have:Vg id q.1=false:=by
         cases i:Vg id q.1
         ·rfl
         ·have:=Vc i
          grind
        grind
      grind
     grind
    |false=>
     grind
   have W:g.Le D:=a3.trans l2;have G:Kj g.I w w' :=J.ag
   have S:Fr w' D (fun k=>bif KX k e.kept then s.F k else Ri (Wz e.roots j s.nx).1 k) a'.tmps:=by
    intro k
    show VR w' D (bif KX k e.kept then s.F k else Ri (Wz e.roots j s.nx).1 k) _
    cases X:KX k e.kept with
    |true=>
     simp only[Zc];rw[J.ks k (a6 k (Jj.1 X))]
     exact(O.fr k).mono G W
    |false=>
     simp only[Ze];exact .of1 (ZkN _ c2 k)
   refine⟨D,Q,⟨by grind,?_,by rw[c.nt,a8],c.df,fun id d=>?_,fun id d=>?_⟩,W,G,fun id d=>?_,fun id d=>l2.slv id d⟩
   ·refine Zir c.fr (Zis c.fr S (fun k m a5 id d=>?_) e.fns U) e.als T;have hv:=S k
    rw[show (fun k=>bif KX k e.kept then s.F k else Ri (Wz e.roots j s.nx).1 k) k=.tup m from a5]at hv
    have Z:=c.fr k;rw[d]at Z;obtain⟨vs,p,_⟩:=hv;obtain⟨_,_,_,_,_,_,r⟩:=Z.ptr
    grind
   ·show id<(Wz e.roots j s.nx).2.2;have:=(Zch e.roots j s.nx).1;rcases k2 id d with p|p
    ·have:=O.ids id p;omega
    omega
   ·have f:=a2 id d
    have e1:(ZaW s fzN e j).H id=s.H id:=by
     show (bif KX id (ZY s e) then s.H id else Xt (Wz e.roots j s.nx).2.1 id)=_
     rw[Jj.2 f];rfl
    exact(Zei e1).trans (hD id f)
   ·show (bif KX id (ZY s e) then s.H id else Xt (Wz e.roots j s.nx).2.1 id)=_
    rw[Jj.2 d];rfl
theorem Zgz{s:AS}{w:World}{g:Gh}{ow:Nat->Nat->Prop}{tmps:Array Value}(p:RH B s.H w g ow)(hF:Fr w g s.F tmps){k:Nat×Nat×Nat}{x:Nat}(h:Hu s k=some x):
 g.K x/\ ∃b cs e,tmps.getD k.1 undef=.pointer (some ⟨b,0,none⟩)/\w.heap[b]? =some (.cells cs e (0,0))/\cs[k.2.2]? =some (g.slv x):=by
 unfold Hu at h;split at h
 case h_2=>grind
 rename_i id d;split at h
 case h_2=>grind
 rename_i T c n;split at h
 case h_2=>grind
 rename_i y r
 cases f:Vg (Rl T k.2.1) k.2.2 with
 |false=>grind
 |true=>
  rw[f]at h;simp only[Zc,Option.some.injEq]at h;subst h;have j:=Vc f;obtain⟨_,_,i,b,cs,e,q,_,G,_,a⟩:=p.objs id _ n;simp only[AV.fits]at i;simp only[CV]at a;obtain⟨z,A⟩:=Za4 c _ _ _ _ i a r;have l:=hF k.1;rw[d]at l;obtain⟨_,o,t,v,m,C,D⟩:=l.ptr;simp only[Z0,Option.some.injEq,Vn]at m
  grind
theorem Zrn{s' s2:AS}{w' :World}{a c:Gh}{j l:Nat->Nat->Prop}{m:Kd}{tmps:Array Value}(h:RH m s'.H w' a j)(d:Fr w' a s'.F tmps)(i:RH B s2.H w' c l)(f:Fr w' c s2.F tmps){k:Nat×Nat×Nat}{x y:Nat}(o:Hu s' k=some x)(p:Hu s2 k=some y):
 c.slv y=a.slv x:=by
 obtain⟨_,b,cs,e,s,t,v⟩:=Zgz h d o;obtain⟨_,q,n,r,z,A,C⟩:=Zgz i f p
 grind
theorem ZsX{b:AS}{fz:List Nat}{k:Nat×Nat×Nat}{s:AS}{i:Nat}(a:i∈fz):(Dw b fz k s).H i=s.H i:=by
 unfold Dw;split
 case h_2=>rfl
 rename_i x y id C D p;split
 case h_2=>rfl
 rename_i T c t xs v z A o n;generalize d:(v==t&& !Vg y id&& !Vg x id&& !KX x fz&& !KX y fz&& !KX id fz)=h
 cases h with
 |false=>rfl
 |true=>
  simp only[Vb,Vv]at d;obtain⟨⟨⟨_,j⟩,l⟩,m⟩:=d;have q:i≠x:=fun e=>by rw[<-e,Jj.2 a]at j;grind
  have r:i≠y:=fun e=>by rw[<-e,Jj.2 a]at l;grind
  have f:i≠id:=fun e=>by rw[<-e,Jj.2 a]at m;grind
  show Kc (Kc (Kc (Kc s.H y none) id none) x _) id _ i=s.H i;rw[Ky f,Ky q,Ky f,Ky r]
theorem ZlT{b:AS}{fz:List Nat}{i:Nat}(a:i∈fz):∀(l:List (Nat×Nat×Nat)) (s:AS),(Rn b fz l s).H i=s.H i
 |[],_=>rfl
 |_::l,_=>(ZlT a l _).trans (ZsX a)
theorem ZdY{b:AS}{fz:List Nat}{e:WZ}{x:W4 e.roots}{id:Nat}(a:id∈ZY b e):(Yc b fz e x).H id=b.H id:=by
 refine(ZlT a e.kf _).trans ?_
 show (bif KX id (ZY b e) then b.H id else _)=_
 rw[Jj.2 a];rfl
theorem ZsY{s s' s2:AS}{w w' :World}{g n f:Gh}{ow L m:Nat->Nat->Prop}{S R:Kd}{j tmps:Array Value}(M:RH S s.H w g ow)(hF:Fr w g s.F j)(v:RH R s'.H w' n L)(o:Fr w' n s'.F tmps)(b:g.Le f)(A:∀id,g.K id->f.slv id=n.slv id)
 {k:Nat×Nat×Nat} (hk:(match Hu s k,Hu s' k with|some x,some y=>Vg x y|_,_=>false)=true) {fz:List Nat} (i:RH B s2.H w' f m) (p:Fr w' f s2.F tmps):
 (∃d,RH B (Dw s fz k s2).H w' f d)/\(Dw s fz k s2).F=s2.F/\(Dw s fz k s2).fz=s2.fz/\(Dw s fz k s2).nx=s2.nx:=by
 have same:(∃d,RH B s2.H w' f d)/\s2.F=s2.F/\s2.fz=s2.fz/\s2.nx=s2.nx:=⟨⟨m,i⟩,rfl,rfl,rfl⟩;unfold Dw;split
 case h_2=>omega
 rename_i x y id O Q Z;split
 case h_2=>omega
 rename_i T c t xs t0 a0 Y r q;generalize N:(t0==t&& !Vg y id&& !Vg x id&& !KX x fz&& !KX y fz&& !KX id fz)=U
 cases U with
 |false=>grind
 |true=>
  simp only[Zc];simp only[Vb,Vv,Ks]at N;obtain⟨⟨⟨⟨⟨rfl,h1⟩,h2⟩,V⟩,W⟩,X⟩:=N;have n1:y≠id:=by grind
  have n2:x≠id:=fun e=>by simp_all
  have m3:x ∉ fz:=fun h=>by rw[Jj.2 h]at V;grind
  have m4:y ∉ fz:=fun h=>by rw[Jj.2 h]at W;grind
  have m5:id ∉ fz:=fun h=>by rw[Jj.2 h]at X;grind
  have hn:c.nth k.2.1=some (.vw y):=by
   have J:=Q;unfold Hu at J
   grind
  have G:Hu s' k=some x:=by
   rw[O]at hk
   cases hz:Hu s' k with
   |none=>grind
   |some z=>simp_all
  have a:=(Zgz M hF O).1;have l:f.slv x=f.slv y:=by rw[Zrn v o i p G Q,A x a]
  obtain⟨_,C,D⟩:=M.objs x _ q
  obtain⟨d,h6⟩:=ZlY i Y hn r (b.K x a) l ((b.ty x a).trans C) (by
   rw[b.blk x a,b.slv x a]
   grind) n1 n2
  grind
theorem ZlU{s s' :AS}{w w' :World}{g n d:Gh}{ow p:Nat->Nat->Prop}{t r:Kd}{c tmps:Array Value}(q:RH t s.H w g ow)(hF:Fr w g s.F c)(f:RH r s'.H w' n p)(e:Fr w' n s'.F tmps)(i:g.Le d)(j:∀id,g.K id->d.slv id=n.slv id){fz:List Nat} :
 ∀(l:List (Nat×Nat×Nat)) {s2:AS}{a:Nat->Nat->Prop},Zcm s s' l=true->RH B s2.H w' d a->Fr w' d s2.F tmps->
 (∃m,RH B (Rn s fz l s2).H w' d m)/\(Rn s fz l s2).F=s2.F/\(Rn s fz l s2).fz=s2.fz/\(Rn s fz l s2).nx=s2.nx
 |[],s2,a,_,b,_=>⟨⟨a,b⟩,rfl,rfl,rfl⟩
 |k::l,s2,a,h,b,o=>by simp only[Zcm,Vb]at h;obtain⟨⟨m,v⟩,x,y,z⟩:=ZsY (k:=k) (fz:=fz) q hF f e i j h.1 b o;obtain⟨A,C,D,G⟩:=ZlU q hF f e i j l (s2:=Dw s fz k s2) h.2 v (by grind);exact⟨A,C.trans x,D.trans y,G.trans z⟩
theorem Zit{b:AS}{w:World}{g:Gh}{tmps:Array Value} :∀(l:List Nat) {F:Nat->AV},(∀n∈l,VR w g (b.F n) (tmps.getD n undef))->Fr w g F tmps->Fr w g (Zfr b l F) tmps
 |[],_,_,h=>h
 |n::l,F,a,h=>Zit l (by grind) (h.upd (by grind))
theorem ZcB{s s' :AS}{w w' :World}{g z:Gh}{ow v:Nat->Nat->Prop}{a m:Act}(l:SR E B s w g ow a)(d:SR E' B s' w' z v m)(t:E'.nt=E.nt){e:WZ}{fz0 fzN:List Nat}{x:W4 e.roots}
 (D:Lk E' w g a w' z m) (q:∀n∈e.kept,n∈E'.ks) (r:∀n∈e.kv,n∈E'.ks) (J:∀id∈ZY s e,s'.H id=s.H id) (C:∀id∈ZY s e,XJ s.H id=true) (p:∀id∈ZY s e,id∈fz0) (f:∀id∈fzN,id∈ZY s e)
 (h:HR s fz0 e s' =some x):∃k j,SR E B (Yc s fzN e x) w' k j m/\g.Le k/\Kj g.I w w' /\ ∀id∈ZY s e,(Yc s fzN e x).H id=s.H id:=by
 unfold HR at h
 cases i:Zcm s s' e.kf with
 |false=>grind
 |true=>
  rw[i]at h;simp only[Zc]at h;obtain⟨k,j,b,o,A,O,G⟩:=ZsW l d t D q J C p f h;obtain⟨⟨y,L⟩,M,Q,N⟩:=ZlU (fz:=ZY s e) l.rh l.fr d.rh d.fr o G e.kf i b.rh b.fr;refine⟨k,y,⟨L,?_,b.nt,b.df,fun id c=>?_,fun id c=>?_⟩,o,A,fun id c=>ZdY c⟩
  ·refine Zit e.kv (fun n K=>?_) (by rw[M];exact b.fr);rw[D.ks n (r n K)];exact(l.fr n).mono A o
  ·show id<(Rn s (ZY s e) e.kf (ZaW s fzN e x)).nx;rw[N];exact b.ids id c
  ·have F:=f id c;exact(Zei (ZdY F)).trans (C id F)
def Zb3:Ex->Exit
 |.normal=>.normal
 |.exit id=>.exit id
 |.ret=>.ret
 |.jump l=>.goto l
theorem Ex.beq_eq{x y:Ex}(h:x.beq y=true):x=y:=by
 cases x<;>cases y<;>simp [Ex.beq]at h
 all_goals grind
theorem Zm2{ρ:Type}{b s' :AS}{fz:List Nat}{k:Ex->AS->Option ρ}{r:ρ}{x:Ex} :∀(J:HC) (o:X3 J),Yj b fz J x s' =some o->GR b J o k=some r->∃f∈J,x=f.1/\ ∃y,HR b fz f.2 s' =some y/\k x (Yc b b.fz f.2 y)=some r
 |[],o,h,_=>by grind
 |[f],o,h,c=>by
  simp only[Yj]at h
  cases a:x.beq f.1 with
  |false=>grind
  |true=>
   rw[a]at h;have:=Ex.beq_eq a;simp only[GR]at c
   grind
 |f::e::l,o,h,c=>by
  simp only[Yj]at h
  cases a:x.beq f.1 with
  |true=>
   rw[a]at h;simp only[Zc,Va,Option.some.injEq]at h;obtain⟨y,d,rfl⟩:=h;have:=Ex.beq_eq a;simp only[GR]at c
   grind
  |false=>
   rw[a]at h;simp only[Ze,Va,Option.some.injEq]at h;obtain⟨y,d,rfl⟩:=h;simp only[GR]at c;obtain⟨i,j,m⟩:=Zm2 (e::l) y d c
   grind
theorem Zgx{e:WZ} :∀{J:HC},HM e J=true->∀f∈J,∀n∈f.2.kept,n∈e.kept
 |[],_,f,a=>by grind
 |q::l,h,f,a=>by
  simp only[HM,Vb]at h;rcases Vj.1 a with rfl|a
  ·exact fun n b=>Jj.1 (by grind)
  ·exact Zgx h.2 f a
theorem Zkw{e:WZ} :∀{J:HC},HM e J=true->∀f∈J,∀n∈f.2.kv,n∈e.kv
 |[],_,f,a=>by grind
 |q::l,h,f,a=>by
  simp only[HM,Vb]at h;rcases Vj.1 a with rfl|a
  ·exact fun n b=>Jj.1 (by grind)
  ·exact Zkw h.2 f a
def JQ(E:Km)(B:Kd)(s:AS)(w:World)(g:Gh)(a:Act){ρ:Type}(k:Ex->AS->Option ρ)(r:ρ):Exit->Act->World->Prop:=fun e d h=>
 ∃x c f b,Zb3 x=e/\SR E B c h f b d/\Ln E s w g a c h f d/\k x c=some r
theorem JQ.out{s z:AS}{w w1:World}{g A:Gh}{ow q:Nat->Nat->Prop}{a e:Act}{en:WZ}{J:HC}{ρ:Type}{k:Ex->AS->Option ρ}{r:ρ}(D:SR E B s w g ow a)(d:HN s en.kept=true)(i:HM en J=true)
 (C:Lk (Wg E en) w g a w1 A e) (p:SR (Wg E en) B z w1 A q e) (T:∀id∈ZY s en,z.H id=s.H id) {x:Ex}{o:X3 J} (O:Yj s (ZY s en) J x z=some o) (R:GR s J o k=some r):JQ E B s w g a k r (Zb3 x) e w1:=by
 obtain⟨f,j,U,y,S,N⟩:=Zm2 J o O R
 have c:∀id∈ZY s f.2,id∈ZY s en:=fun id b=>by
  rcases Vf.1 b with h|h
  ·exact Vd _ (Zrl (Zgx i f j) id h)
  ·exact Ve _ h
 have l:∀n∈f.2.kept,n∈(Wg E en).ks:=fun n m=>Vd _ (Zgx i f j n m);obtain⟨F,v,G,K,L,M⟩:=ZcB (E' :=Wg E en) D p rfl (fzN:=s.fz) C l (fun n m=>Ve _ (Vd _ (Zkw i f j n m))) (by grind) (fun id b=>Zd6 d D.fz id (c id b)) c (fun id b=>Ve _ b) S;exact⟨x,_,F,v,rfl,G,⟨⟨K,L,fun t Q=>C.ks t (Ve _ (Ve _ Q))⟩,rfl,fun id b=>M id (Ve _ b)⟩,N⟩
theorem SR.kept{s:AS}{w:World}{g:Gh}{ow:Nat->Nat->Prop}{a:Act}(b:SR E B s w g ow a){e:WZ}(d:HN s e.kept=true):SR (Wg E e) B {s with fz:=ZY s e} w g ow a:=
 ⟨b.rh,b.fr,b.nt,b.df,b.ids,fun id c=>Zd6 d b.fz id c⟩
theorem Z9.kept(h:Z9 P E)(e:WZ):Z9 P (Wg E e):=⟨h.ty,h.mty,h.pk,h.pz,h.bd⟩
theorem YZ.kept(h:YZ P E B)(e:WZ):YZ P (Wg E e) B:=⟨h.ok,h.amb,h.pl,h.inl⟩
theorem ZhY{c:Code}{Q:Exit->Act->World->Prop}(Inv:Nat->Act->World->Prop){n:Nat}{a:Act}{w:World}(k:Inv n a w)
 (round:∀n a w,Inv n a w->c.wp P (Exit.then (fun d w' =>∃m,m<n/\Inv m d w') Q) a w):(Code.loop c).wp P Q a w:=by
 classical
 have b:∀a w,(∃n,Inv n a w)->∃n,Inv n a w/\ ∀m,Inv m a w->n<=m:=by
  intro a w ⟨n,p⟩
  induction n using Nat.strongRecOn with
  |_ n q=>
   grind
 refine wp_loop (fun a w=>∃n,Inv n a w) (fun a w=>if h:∃n,Inv n a w then(b a w h).choose else 0) ⟨n,k⟩ fun a w i=>?_
 have f:=(b a w i).choose_spec;refine wp_mono (round _ a w f.1) fun e d w' l=>?_
 cases e with
 |normal=>
  obtain⟨m,o,j⟩:=l;refine⟨⟨m,j⟩,?_⟩;simp only[dif_pos i,dif_pos (show∃n,Inv n d w' from ⟨m,j⟩)]
  grind
 |_=>assumption
theorem Zmp{σ τ:Type}{step:σ->Option (σ ⊕ τ)}{s:σ}{r:τ}(h:run step s=some r):∃n,JY step n s=some r:=by
 unfold run at h;split at h
 ·grind
 split at h
 all_goals grind
theorem Zs7{it id:Nat}{s:AS}{a b:Ty}{rest:List (El a×El b)}{cur:Option (El a×El b)}(c:s.F it=.ptr id [])(d:s.H id=some (.rng a b rest cur)):Dx it s=bif rest.isEmpty then 1 else rest.length:=by unfold Dx;grind
theorem Zl6(it:Nat)(s:AS):0<Dx it s:=by
 unfold Dx
 grind
theorem Zsh(hT:Z9 P E)(hS:YZ P E B){ops:Array Oper}{s:AS}{w:World}{g:Gh}{ow:Nat->Nat->Prop}{a:Act}(m:SR E B s w g ow a){id it:Nat}{ρ:Type}{k:AS->Option ρ}
 (h:∀i,i<Dx it s->∃r,Zab E ops it i ρ s k=some r):
 (Code.region id ops false).wp P (fun e T w' =>∃i s' R G r,i<Dx it s/\e=.normal/\SR E B s' w' R G T/\Ln E s w g a s' w' R T/\Zab E ops it i ρ s k=some r/\k s' =some r) a w:=by
 obtain⟨r0,f⟩:=h 0 (Zl6 it s);have a5:=f;unfold Zab at f;split at f
 ·grind
 ·rename_i o i0 l hz
  have O:ops[0]? =some o/\i0=0:=by
   have:ops.toList.zipIdx[0]? =some (o,i0):=by grind
   grind
  obtain⟨a2,rfl⟩:=O;split at f
  ·rename_i D d N a1 z
   cases Z:(Vg D it&&YL E (some d)) with
   |false=>grind
   |true=>
    rw[Z]at f;simp only[Zc]at f;simp only[Vb]at Z;obtain⟨C,K⟩:=Z;have C:=Vc C;subst C;split at f
    ·rename_i rid W;split at f
     ·rename_i kt vt rest cur X
      have step:∃i v val w' H1,i<Dx D s/\(execOp a.eval o).run P w=.ok (.value val) w' /\RH B H1 w' g ow/\Kj g.I w w' /\VR w' g v val/\(∀id∈s.fz,H1 id=s.H id)/\
       Zab E ops D i ρ s k=YD E ops s.nx s.fz ρ l (WU s.F (some d) v) H1 [] fun F H _=>k ⟨F,H,s.nx+ops.size*E.stp,s.fz⟩:=by
       have hm:KX rid s.fz=false:=by
        grind
       cases rest with
       |nil=>
        obtain⟨y,U⟩:=Zk5 (P:=P) m.rh m.fr N W X;refine⟨0,_,_,w,s.H,Zl6 _ _,y,m.rh,fun _ _=>rfl,U,by simp,?_⟩
        grind
       |cons e0 r0=>
        obtain⟨i,kv,val,w',y,U,V,h4,h5,h6⟩:=Zsi m.rh m.fr N W X (by simp);refine⟨i,_,val,w',_,by rw[Zs7 W X];grind,V,h4,h5,h6,?_,?_⟩
        ·intro id c;refine Ky fun e=>?_;subst e;rw[Jj.2 c]at hm
         grind
        ·unfold Zab
         grind
      obtain⟨i,v,val,w',H1,hi,Q,Y,J,hv,M,hK⟩:=step;obtain⟨r,hr⟩:=h i hi;rw[hK]at hr;obtain⟨F',H',a7,A,hk⟩:=Zdl hr
      have x:(l.map Vs).Nodup/\(∀p∈l,ops[p.2]? =some p.1)/\List.range ops.size=0::l.map Vs:=by
       have y:ops.toList.zipIdx.map Vs=0::l.map Vs:=by grind
       rw[Zh1]at y;refine⟨?_,fun p hp=>?_,y⟩
       ·have:=Vw (n:=ops.size)
        grind
       grind
      have a0:=A.ex x.1 x.2.1 (fun _ _=>rfl)
      have a6:0 ∉ l.map Vs:=by
       have:=Vw (n:=ops.size)
       grind
      refine wp_region ?_;rw[x.2.2,wpOps_cons];unfold wpOp;rw[a2];simp only;rw[ZhV (ops:=ops) (b:=true) m.fr (by simp [YO,a1])];simp only[if_true];refine .inl ?_;unfold Oper.wp;rw[Q]
      have L:∀e,o.dst=some e->e<a.tmps.size:=fun e S=>by rw[z]at S;cases S;rw[m.nt];exact(Zek K).1
      have hI:RI E B s.nx (fun _=>False) (WU s.F (some d) v) H1 w' (a.put o.dst val) g ow (fun j=>j=0):=⟨Y,by
       have:=(m.fr.mono J (.refl g)).put (d:=o.dst) hv L
       grind,Zg9.trans m.nt,Zg7.trans m.df,fun id c=>.inl (.inl (m.ids id c))⟩
      show wpOps P ops _ (l.map Vs) (a.put o.dst val) w';refine ZhX hT hS a0 x.1 (by grind) (by simp) hI fun T w2 R G q hl=>?_;refine⟨i,⟨F',H',s.nx+ops.size*E.stp,s.fz⟩,R,G,r,hi,rfl,⟨q.rh,q.fr,q.nt,q.df,fun id c=>?_,fun id c=>?_⟩,⟨⟨hl.le,J.trans hl.ag fun _ h=>h,fun t ht=>?_⟩,rfl,fun id c=>?_⟩,hK.trans hr,hk⟩
      ·have a4:0<ops.size:=by grind
       rcases q.ids id c with (y|y) |⟨j,y,U,V⟩
       ·grind
       ·grind
       ·have hj:j<ops.size:=by
         grind
        show id<s.nx+ops.size*E.stp;exact Zho hj V
      ·exact(Zei ((A.keptH id c).trans (M id c))).trans (m.fz id c)
      ·rw[hl.ks t ht,z];refine Zg8 fun e S a3=>?_;cases S;exact(Zek K).2 (a3▸ht)
      ·exact(A.keptH id c).trans (M id c)
     grind
    grind
  grind
theorem Zjv{σ τ ρ:Type}{cnt:σ->Nat}{step:σ->Nat->Option (σ ⊕ τ)}{k:τ->Option ρ}{s:σ}{z:ρ}(h:drun cnt step k s=some z):∃n,Hj cnt step k z n s:=by
 have a:∀(n:Nat) (s:σ) (z:ρ),ZbZ cnt step k n s=some z->Hj cnt step k z n s:=by
  intro n
  induction n with
  |zero=>intro s z h;simp [ZbZ]at h
  |succ n e=>
   intro s z h i d;simp only[ZbZ]at h
   cases b:Vaa (cnt s) 1 with
   |false=>grind
   |true=>
    have c:=Vu b
    grind
 unfold drun at h;split at h
 ·grind
 split at h
 all_goals grind
theorem Hs(R:P.follows .mixedOrders=true):∀(c:Code) (h:WL) (E:Km) (ρ:Type) (s:AS) (k:Ex->AS->Option ρ) (r:ρ),Z9 P E->YZ P E B->Wa c h E ρ s k=some r->
 ∀{w:World}{g:Gh}{ow:Nat->Nat->Prop}{a:Act},SR E B s w g ow a->c.wp P (JQ E B s w g a k r) a w
 |.skip,_,E,ρ,s,k,r,_,_,h,w,g,ow,a,b=>by
  simp only[Wa]at h
  exact wp_skip ⟨.normal,s,g,ow,rfl,b,.refl s w g a,h⟩
 |.region id ops draw,d,E,ρ,s,k,r,K,G,h,w,g,ow,a,b=>by
  simp only[Wa]at h;refine wp_mono (ZsV R K G b h) ?_;rintro e O Q ⟨s',D,f,rfl,A,p,j⟩
  exact⟨.normal,s',D,f,rfl,A,p,j⟩
 |.seq x y,d,E,ρ,s,k,r,K,G,h,w,g,ow,a,b=>by
  simp only[Wa]at h;refine wp_seq (wp_mono (Hs R x d.l E ρ s _ r K G h b) ?_);rintro e O Q ⟨ex,s',D,f,rfl,A,p,j⟩
  cases ex with
  |normal=>
   refine wp_mono (Hs R y d.r E ρ s' k r K G j A) ?_;rintro e a2 w2 ⟨b4,s2,g2,M,rfl,U,h5,h6⟩
   exact⟨b4,s2,g2,M,rfl,U,p.trans h5,h6⟩
  |exit id=>exact⟨.exit id,s',D,f,rfl,A,p,j⟩
  |ret=>exact⟨.ret,s',D,f,rfl,A,p,j⟩
  |jump l=>exact⟨.jump l,s',D,f,rfl,A,p,j⟩
 |.cond c x y,d,E,ρ,s,k,r,K,G,h,w,g,ow,a,b=>by
  simp only[Wa]at h;split at h
  ·rename_i t ht;have hv:=b.fr.eval c;rw[ht]at hv;refine wp_cond hv.bool ?_
   cases hj:d.join with
   |none=>
    rw[hj]at h
    cases t with
    |true=>exact Hs R x d.l E ρ s k r K G h b
    |false=>exact Hs R y d.r E ρ s k r K G h b
   |some eJ=>
    obtain⟨e,J⟩:=eJ;rw[hj]at h;simp only at h
    cases N:(HN s e.kept&&HM e J) with
    |false=>grind
    |true=>
     rw[N]at h;simp only[Zc]at h;simp only[Vb]at N;rw[Va]at h;obtain⟨o,Y,hu⟩:=h
     have fin:∀(z:Code) (T:WL),Wa z T (Wg E e) (X3 J) {s with fz:=ZY s e} (Yj s (ZY s e) J)=some o->(∀{w:World}{g:Gh}{ow:Nat->Nat->Prop}{a:Act},SR (Wg E e) B {s with fz:=ZY s e} w g ow a->z.wp P (JQ (Wg E e) B {s with fz:=ZY s e} w g a (Yj s (ZY s e) J) o) a w)->z.wp P (JQ E B s w g a k r) a w:=by intro z T _ ih;refine wp_mono (ih (b.kept N.1)) ?_;rintro e' O Q ⟨ex,s',D,f,rfl,A,p,j⟩;exact JQ.out b N.1 N.2 p.lk A p.hz j hu
     cases t with
     |true=>exact fin x d.l Y (Hs R x d.l (Wg E e) _ _ _ o (K.kept e) (G.kept e) Y)
     |false=>exact fin y d.r Y (Hs R y d.r (Wg E e) _ _ _ o (K.kept e) (G.kept e) Y)
  grind
 |.block id c,d,E,ρ,s,k,r,K,G,h,w,g,ow,a,b=>by
  simp only[Wa]at h;refine wp_block (wp_mono (Hs R c d E ρ s _ r K G h b) ?_);rintro e O Q ⟨ex,s',D,f,rfl,A,p,j⟩
  cases ex with
  |normal=>exact⟨.normal,s',D,f,rfl,A,p,j⟩
  |exit i=>
   simp only at j;simp only[Zb3,Exit.inBlock]
   cases W:Vg i id with
   |true=>
    rw[W]at j;rw[Zp (Vc W)]
    exact⟨.normal,s',D,f,rfl,A,p,j⟩
   |false=>
    rw[W]at j;rw[Zf fun e=>by simp_all]
    exact⟨.exit i,s',D,f,rfl,A,p,j⟩
  |ret=>exact⟨.ret,s',D,f,rfl,A,p,j⟩
  |jump l=>exact⟨.jump l,s',D,f,rfl,A,p,j⟩
 |.loop c,d,E,ρ,s,k,r,K,G,h,w,g,ow,a,b=>by
  cases d with
  |all n=>
   simp only[Wa]at h;refine ZhY (fun m O Q=>∃s' D f,ZcR (fun s k=>Wa c (.all n) E ρ s k) k m s' =some r/\SR E B s' Q D f O/\Ln E s w g a s' Q D O) (n:=n) ⟨s,g,ow,h,b,.refl s w g a⟩ ?_;rintro m O Q ⟨s',D,f,v,S,a4⟩
   cases m with
   |zero=>simp [ZcR]at v
   |succ m=>
    simp only[ZcR]at v;refine wp_mono (Hs R c (.all n) E ρ s' _ r K G v S) ?_;rintro e a2 w2 ⟨ex,s2,g2,M,rfl,A,p,j⟩
    cases ex with
    |normal=>exact⟨m,Vp m,s2,g2,M,j,A,a4.trans p⟩
    |exit i=>exact⟨.exit i,s2,g2,M,rfl,A,a4.trans p,j⟩
    |ret=>exact⟨.ret,s2,g2,M,rfl,A,a4.trans p,j⟩
    |jump l=>exact⟨.jump l,s2,g2,M,rfl,A,a4.trans p,j⟩
  |lp en J W=>
   simp only[Wa]at h
   cases N:(HN s en.kept&&HM en J&&HP en.slots) with
   |false=>grind
   |true=>
    rw[N]at h;simp only[Zc,Va]at h;simp only[Vb]at N;obtain⟨x,hx,o,Z,hu⟩:=h;obtain⟨n,L⟩:=Zmp Z;have C:∀id∈ZY s en,id∈ZY s en:=fun _ h=>h;have V:=Zd6 N.1.1 b.fz;have start:=ZcB (E:=Wg E en) (E' :=Wg E en) (s' :=s) (fz0:=ZY s en) (fzN:=ZY s en) ⟨b.rh,b.fr,b.nt,b.df,b.ids,b.fz⟩ ⟨b.rh,b.fr,b.nt,b.df,b.ids,b.fz⟩ rfl (.refl w g a) (fun n L=>Vd _ L) (fun n L=>Ve _ (Vd _ L)) (by simp) V C C hx;obtain⟨g1,a8,s1,a7,_,b8⟩:=start
    refine ZhY (fun n O Q=>∃y D f,JY (fun y=>Wa c W (Wg E en) (W4 en.roots ⊕ X3 J) (Yc s (ZY s en) en y) fun e s' =>match e with
     |.normal=>(HR s (ZY s en) en s').bind fun z=>some (.inl z)
     |e=>(Yj s (ZY s en) J e s').bind fun z=>some (.inr z)) n y=some o/\SR (Wg E en) B (Yc s (ZY s en) en y) Q D f O/\Lk (Wg E en) w g a Q D O) (n:=n) ⟨x,g1,a8,L,s1,⟨a7,by omega,by simp⟩⟩ ?_
    rintro n O Q ⟨y,D,f,v,S,a1⟩;have a0:∀id∈ZY s en,(Yc s (ZY s en) en y).H id=s.H id:=fun id F=>ZdY F
    cases n with
    |zero=>simp [JY]at v
    |succ n=>
     simp only[JY]at v;split at v
     ·rename_i y' a6;refine wp_mono (Hs R c W (Wg E en) _ _ _ _ (K.kept en) (G.kept en) a6 S) ?_;rintro e a2 w2 ⟨ex,s2,g2,M,rfl,A,p,j⟩
      cases ex with
      |normal=>
       simp only[Va,Option.some.injEq,Vba]at j;obtain⟨z,T,rfl⟩:=j;have X:=a1.trans p.lk;obtain⟨g3,b1,s3,b9,b2,_⟩:=ZcB (E:=Wg E en) (E' :=Wg E en) (s:=s) (fz0:=ZY s en) (fzN:=ZY s en) ⟨b.rh,b.fr,b.nt,b.df,b.ids,b.fz⟩ A rfl X (fun n L=>Vd _ L) (fun n L=>Ve _ (Vd _ L)) (fun id F=>(p.hz id F).trans (a0 id F)) V C C T
       exact⟨n,Vp n,z,g3,b1,v,s3,⟨b9,b2,X.ks⟩⟩
      |exit i=>simp only[Va,Option.some.injEq,reduceCtorEq,ZR,exists_false]at j
      |ret=>simp only[Va,Option.some.injEq,reduceCtorEq,ZR,exists_false]at j
      |jump i=>simp only[Va,Option.some.injEq,reduceCtorEq,ZR,exists_false]at j
     ·rename_i o' a6;simp only[Option.some.injEq]at v;subst v;refine wp_mono (Hs R c W (Wg E en) _ _ _ _ (K.kept en) (G.kept en) a6 S) ?_;rintro e a2 w2 ⟨ex,s2,g2,M,rfl,A,p,j⟩
      have fin:∀x:Ex,x≠ .normal->Yj s (ZY s en) J x s2=some o' ->JQ E B s w g a k r (Zb3 x) a2 w2:=fun x _ Y=>
       JQ.out b N.1.1 N.1.2 (a1.trans p.lk) A (fun id F=>(p.hz id F).trans (a0 id F)) Y hu
      cases ex with
      |normal=>simp only[Va,Option.some.injEq,reduceCtorEq,ZR,exists_false]at j
      |exit i=>
       simp only[Va,Option.some.injEq,Vo]at j;obtain⟨z,T,rfl⟩:=j
       exact fin (.exit i) (by simp) T
      |ret=>
       simp only[Va,Option.some.injEq,Vo]at j;obtain⟨z,T,rfl⟩:=j
       exact fin .ret (by simp) T
      |jump i=>
       simp only[Va,Option.some.injEq,Vo]at j;obtain⟨z,T,rfl⟩:=j;exact fin (.jump i) (by simp) T
     grind
  |lpd it en J W=>
   cases c with
   |seq c1 c2=>
    cases c1 with
    |region id ops draw=>
     cases draw with
     |true=>simp [Wa]at h
     |false=>
      simp only[Wa]at h
      cases N:(HN s en.kept&&HM en J&&HP en.slots) with
      |false=>grind
      |true=>
       rw[N]at h;simp only[Zc,Va]at h;simp only[Vb]at N;obtain⟨x,hx,Z⟩:=h;obtain⟨n,L⟩:=Zjv Z;have C:∀id∈ZY s en,id∈ZY s en:=fun _ h=>h;have V:=Zd6 N.1.1 b.fz;have start:=ZcB (E:=Wg E en) (E' :=Wg E en) (s' :=s) (fz0:=ZY s en) (fzN:=ZY s en) ⟨b.rh,b.fr,b.nt,b.df,b.ids,b.fz⟩ ⟨b.rh,b.fr,b.nt,b.df,b.ids,b.fz⟩ rfl (.refl w g a) (fun n L=>Vd _ L) (fun n L=>Ve _ (Vd _ L)) (by simp) V C C hx;obtain⟨g1,a8,s1,a7,_,b8⟩:=start
       refine ZhY (fun n O Q=>∃y D f,Hj (fun y=>Dx it (Yc s (ZY s en) en y)) (fun y i=>Zab (Wg E en) ops it i (W4 en.roots ⊕ X3 J) (Yc s (ZY s en) en y) fun s1=>Wa c2 W (Wg E en) (W4 en.roots ⊕ X3 J) s1 fun e s' =>match e with
        |.normal=>(HR s (ZY s en) en s').bind fun z=>some (.inl z)
        |e=>(Yj s (ZY s en) J e s').bind fun z=>some (.inr z)) (fun o=>GR s J o k) r n y/\SR (Wg E en) B (Yc s (ZY s en) en y) Q D f O/\Lk (Wg E en) w g a Q D O) (n:=n) ⟨x,g1,a8,L,s1,⟨a7,by omega,by simp⟩⟩ ?_
       rintro n O Q ⟨y,D,f,v,S,a1⟩;have a0:∀id∈ZY s en,(Yc s (ZY s en) en y).H id=s.H id:=fun id F=>ZdY F
       cases n with
       |zero=>exact v.elim
       |succ n=>
        simp only[Hj]at v
        have b6:=Zsh (id:=id) (it:=it) (ops:=ops) (ρ:=W4 en.roots ⊕ X3 J) (k:=fun s1=>Wa c2 W (Wg E en) (W4 en.roots ⊕ X3 J) s1 fun e s' =>match e with
         |.normal=>(HR s (ZY s en) en s').bind fun z=>some (.inl z)
         |e=>(Yj s (ZY s en) J e s').bind fun z=>some (.inr z)) (K.kept en) (G.kept en) S (by grind)
        refine wp_seq (wp_mono b6 ?_);rintro e a2 w2 ⟨i,s2,g2,M,q,hi,rfl,b7,X,hq,b5⟩
        simp only[Exit.then]
        refine wp_mono (Hs R c2 W (Wg E en) _ _ _ _ (K.kept en) (G.kept en) b5 b7) ?_;rintro e a3 w3 ⟨ex,s3,g3,b1,rfl,A,p,j⟩;have a5:=a1.trans (X.lk.trans p.lk);have b0:∀id∈ZY s en,s3.H id=s.H id:=fun id F=>((X.trans p).hz id F).trans (a0 id F)
        have fin:∀x:Ex,x≠ .normal->(Yj s (ZY s en) J x s3).bind (fun z=>some (.inr z))=some q->JQ E B s w g a k r (Zb3 x) a3 w3:=fun x _ Y=>by
         rw[Va]at Y;obtain⟨z,Y,a9⟩:=Y;simp only[Option.some.injEq]at a9;subst a9;rcases v i hi with ⟨y',U,_⟩|⟨t,U,h5⟩
         ·grind
         ·rw[hq]at U;simp only[Option.some.injEq,Vo]at U;subst U;exact JQ.out b N.1.1 N.1.2 a5 A b0 Y h5
        cases ex with
        |normal=>
         simp only[Va,Option.some.injEq]at j;obtain⟨z,T,rfl⟩:=j;obtain⟨g4,c4,s4,le4,b3,_⟩:=ZcB (E:=Wg E en) (E' :=Wg E en) (s:=s) (fz0:=ZY s en) (fzN:=ZY s en) ⟨b.rh,b.fr,b.nt,b.df,b.ids,b.fz⟩ A rfl a5 (fun n L=>Vd _ L) (fun n L=>Ve _ (Vd _ L)) b0 V C C T;rcases v i hi with ⟨y',U,h5⟩|⟨t,U,_⟩
         ·rw[hq]at U;simp only[Option.some.injEq,Vba]at U;subst U;exact⟨n,Vp n,z,g4,c4,h5,s4,⟨le4,b3,a5.ks⟩⟩
         grind
        |exit i=>exact fin (.exit i) (by simp) j
        |ret=>exact fin .ret (by simp) j
        |jump i=>exact fin (.jump i) (by simp) j
    |_=>simp [Wa]at h
   |_=>simp [Wa]at h
  |_=>simp [Wa]at h
 |.exit id,_,E,ρ,s,k,r,_,_,h,w,g,ow,a,b=>by
  simp only[Wa]at h
  exact wp_exit ⟨.exit id,s,g,ow,rfl,b,.refl s w g a,h⟩
 |.ret,_,E,ρ,s,k,r,_,_,h,w,g,ow,a,b=>by
  simp only[Wa]at h
  exact wp_ret ⟨.ret,s,g,ow,rfl,b,.refl s w g a,h⟩
 |.label _,_,E,ρ,s,k,r,_,_,h,w,g,ow,a,b=>by
  simp only[Wa]at h
  exact wp_label ⟨.normal,s,g,ow,rfl,b,.refl s w g a,h⟩
 |.goto l,_,E,ρ,s,k,r,_,_,h,w,g,ow,a,b=>by
  simp only[Wa]at h
  exact wp_goto ⟨.jump l,s,g,ow,rfl,b,.refl s w g a,h⟩
 |.refuse _,_,_,_,_,_,_,_,_,h,_,_,_,_,_=>by simp [Wa]at h
 |.scope c,d,E,ρ,s,k,r,K,G,h,w,g,ow,a,b=>by
  simp only[Wa]at h;refine wp_scope_straight (wp_mono (Hs R c d E ρ s _ r K G h b) ?_);rintro e O Q ⟨ex,s',D,f,rfl,A,p,j⟩
  cases ex with
  |jump l=>grind
  |normal=>exact⟨.normal,s',D,f,rfl,A,p,j⟩
  |exit i=>exact⟨.exit i,s',D,f,rfl,A,p,j⟩
  |ret=>exact⟨.ret,s',D,f,rfl,A,p,j⟩
 |.rangeFunc ..,_,_,_,_,_,_,_,_,h,_,_,_,_,_=>by simp [Wa]at h
end
end Tr
end
section
namespace Tr
open Go
def VLs(w:World)(g:Gh):Zq->List Value->Prop
 |.nil,vs=>vs=[]
 |.cons a l,vs=>∃v r,vs=v::r/\VR w g a v/\VLs w g l r
section
variable {P:Program}{E:Km}{B:Kd}{H:AH}{w:World}{g:Gh}{ow:Nat->Nat->Prop}{I:Nat->Prop}
theorem ZjD(i:RH B H w g ow)(q:∀b,g.I b->I b):∀(pl:Pats) (v:Zq) (a:List Value) (x:KJ pl) (ids:ZG) (l n:List Nat),(Wx pl v).run H l=some ((x,ids),n)->VLs w g v a->(∀b,ZV H ow ids.br b->I b)->
 ids.tk.Nodup->∃js,Jc w I pl x js a/\js.Nodup/\ ∀b∈js,ZV H ow ids.tk b
 |.nil,.nil,a,x,ids,l,n,h,k,f,_=>by
  simp only[Wx,Zi,Vn]at h;obtain⟨⟨_,rfl⟩,_⟩:=h
  exact⟨[],⟨rfl,k⟩,.nil,by simp⟩
 |.cons p pl,.cons v vs,a,x,ids,l,n,h,k,f,N=>by
  simp only[Wx,Z4,Zi,Vn]at h;obtain⟨⟨X,O⟩,U,z,⟨S,s⟩,V,D,⟨rfl,rfl⟩,_⟩:=h;obtain⟨u,r,rfl,F,G⟩:=k;have m:(O.tk++s.tk).Nodup:=N;obtain⟨Q,R,W⟩:=Vk.1 m;obtain⟨t,J,K,o⟩:=Zga i q z F (fun b c=>f b (WT (fun _ h=>by simp [ZG.app,h]) c)) Q;obtain⟨y,L,M,d⟩:=ZjD i q pl vs r S s _ _ D G (fun b c=>f b (WT (fun _ h=>by simp [ZG.app,h]) c)) R;refine⟨t++y,⟨t,y,u,r,rfl,rfl,J,L⟩,Vk.2 ⟨K,M,fun b c T j e=>?_⟩,fun b c=>?_⟩
  ·subst e;obtain⟨id,A,C⟩:=Ge i (o b c) (d b j)
   grind
  ·rcases Vf.1 c with c|c
   ·exact WT (fun _ h=>by simp [ZG.app,h]) (o b c)
   ·exact WT (fun _ h=>by simp [ZG.app,h]) (d b c)
 |.nil,.cons _ _,_,_,_,_,_,h,_,_,_=>by simp [Wx,Zb]at h
 |.cons _ _,.nil,_,_,_,_,_,h,_,_,_=>by simp [Wx,Zb]at h
def ZcC(tmps:Array Value):ResultVar->Sem Value
 |.tmp t=>pure (tmps.getD t undef)
 |.cell c t=>do loadVar t (<-asAddr (tmps.getD c undef))
theorem Zhh(K:Z9 P E){s:AS}{a:Act}(J:RH B s.H w g ow)(hF:Fr w g s.F a.tmps):∀(l:List ResultVar) (vs:Zq) (k n:List Nat),(Zaf E s l).run s.H k=some (vs,n)->
 ∃d,(l.mapM (ZcC a.tmps)).run P w=.ok d w/\VLs w g vs d
 |[],vs,k,n,h=>by
  simp only[Zaf,Zi]at h;obtain⟨rfl,_⟩:=h
  exact⟨[],rfl,rfl⟩
 |.tmp t::l,vs,k,n,h=>by
  simp only[Zaf,Z4,Zi]at h;obtain⟨ws,m,o,rfl,_⟩:=h;obtain⟨d,j,G⟩:=Zhh K J hF l ws k m o;refine⟨a.tmps.getD t undef::d,?_,_,_,rfl,hF t,G⟩;rw[Vy]
  simp only[ZcC,Vq,Vr,Vl,j]
 |.cell c T::l,vs,k,n,h=>by
  simp only[Zaf,ZC]at h;obtain⟨t,ht,h⟩:=h;split at h
  ·rename_i id p hc;rw[Z1]at h;split at h
   ·rename_i t0 ct Z;simp only[Z4,ZL,Zi,Zb,ZR,Z3,Vb]at h;obtain⟨v,m,o,⟨j,D⟩,ws,m2,G,rfl,_⟩:=h;obtain⟨d,V,W⟩:=Zhh K J hF l ws m m2 G;have Q:=hF c;rw[hc]at Q;obtain⟨hk,o',t1,b,N,X,Y⟩:=Q.ptr;obtain⟨_,L,hf,b',cs,e,O,R,q,S,r⟩:=J.objs id _ Z;obtain⟨_,t2,M,⟨o2,pre,post,x,y,z⟩,U,i⟩:=Zgk o hf r;rw[L,x]at N;obtain⟨rfl,rfl⟩:=Prod.mk.inj (Option.some.inj N);rw[X]at O;cases O;obtain⟨A,C⟩:=ZbH i j (ZdO j D);have f:YQ w b o2 M:=by rw[<-z];exact YQ.of_heap q y
    refine⟨_::d,?_,_,_,rfl,.of1 A,W⟩;rw[Vy];simp only[ZcC,Vq,Vr,Vl,Y,asAddr,Zml (K.ty T t ht) f (CV.length v t M j i) C,V]
   ·simp [Zb]at h
  ·simp [Zb]at h
theorem Ztp{fn:Func}{tmps:Array Value}{a:List Value}(h:(fn.results.toList.mapM (ZcC tmps)).run P w=.ok a w):
 (results fn tmps).run P w=.ok (Zbp a) w:=by
 have b:results fn tmps=(do let vs<-fn.results.mapM (ZcC tmps);pure (if h:vs.size=1 then vs[0] else .tuple vs)):=by rfl
 rw[b,Array.mapM_eq_mapM_toList];simp only[Vq,map_eq_pure_bind,Vr,h,Vl];congr 1
 cases a with
 |nil=>rfl
 |cons v l=>cases l with
  |nil=>rfl
  |cons u l=>rfl
theorem ZmM{b:List Value} :∀{l:Zq},WM w g l b->∀(n:Nat) t,VR w g (l.toF t) ((b++Vz n undef).getD t undef)
 |.nil,h,n,t=>by
  simp only[WM]at h;subst h
  have:([]++Vz n undef).getD t undef=undef:=by
   grind
  rw[this]
  exact⟨[],rfl,rfl⟩
 |.cons a l,h,n,t=>by
  obtain⟨v,r,rfl,c,d⟩:=h
  cases t with
  |zero=>exact .of1 c
  |succ t=>simpa [Zq.toF] using ZmM d n t
theorem Zh8:∀{pl:Pats}{x:KJ pl}{js:List Nat}{a:List Value},Jc w I pl x js a->a.length=pl.len
 |.nil,_,_,_,h=>by obtain⟨_,rfl⟩:=h;rfl
 |.cons _ _,_,_,_,h=>by obtain⟨_,_,v,r,_,rfl,_,b⟩:=h;simp [Pats.len,Zh8 b]
theorem Zky{B0:Kd}{W:AH}{s:AS}{ks:List Nat}{w0 w:World}{g0 g:Gh}{V ow:Nat->Nat->Prop}{B:Kd}(o:RH B0 W w0 g0 V)(hR:RH B s.H w g ow){X:Zq}{d:List Value}(hv:WM w0 g0 X d)(z:g0.Le g)(hF:∀n∈ks,∀v,d[n]? =some v->VR w g (s.F n) v):∀(kp:List (Nat×Nat×Nat)),Zcl ks X W s kp=true->RB kp d w0 w
 |[],_=>fun k hk=>by grind
 |k::kp,h=>by
  simp only[Zcl,Vb]at h;obtain⟨m,h2⟩:=h;intro i Q;rcases Vj.1 Q with rfl|Q
  ·intro b p cs e N;split at m
   case h_2=>grind
   rename_i id U hs R;split at m
   case h_2=>grind
   rename_i T c T' c' J hH;split at m
   case h_2=>grind
   rename_i a a' ho hn;simp only[Vb,Ks]at m;obtain⟨⟨⟨h3,rfl⟩,G⟩,h5⟩:=m;obtain rfl:=Vc h3;have G:=Vc G;obtain⟨a1,_,x,b1,a0,e1,L,_,f,_,j⟩:=o.objs id _ J;obtain⟨_,_,y,b2,D,e2,M,_,O,_,l⟩:=hR.objs U _ hH;obtain⟨u,A,S⟩:=Zfj _ _ _ _ hv hs;obtain⟨_,b3,q,rfl⟩:=ZlE S;rw[A]at p;have p:=Option.some.inj p;simp only[Vca.injEq,Option.some.injEq,Addr.mk.injEq,and_true]at p;subst p;rw[L]at q;obtain rfl:=Option.some.inj q;have C:=hF _ (Jj.1 h5) _ A;rw[R]at C;obtain⟨_,o2,t2,b4,h6,Y,Z⟩:=C.ptr;simp only[Vca.injEq,Option.some.injEq,Addr.mk.injEq]at Z;rw[M]at Y;obtain rfl:=Option.some.inj Y;obtain rfl:=Z.1;rw[N]at f
   have f:=Option.some.inj f;cases f;simp only[AV.fits]at x y;simp only[CV]at j l;obtain⟨K,t⟩:=Za4 c _ _ _ _ x j ho;obtain⟨_,r⟩:=Za4 c' _ _ _ _ y l hn;rw[Vh,G]at t r;exact⟨D,e2,O,by rw[t,r,z.slv _ K]⟩
  ·exact Zky o hR hv z hF kp h2 i Q
theorem Zqw(hm:P.follows .mixedOrders=true)(N:Z9 P E)(hS:∀f,∀S∈E.specs f,ZX P f S)(hI:∀B:Kd,(B.pl=false->HX P B.w0 B.own0)->(B.pl=true->∀f,∀T∈E.specs f,T.pl=true)->∀f h,E.inl f=some h->Ze9 P B E.stp f h){f:FuncId}{fn:Func}{body:Code}(hf:P.funcs[f]? =some fn)(j:fn.body=some body)(c4:E.nt=fn.ntmps)
 {S:Spec} (b5:S.args.wf=true) (V:Vaa S.args.len E.nt=true) {hint:WL}{pack:WB S.args×KJ S.res->S.α} (b1:∀y,S.unp (pack y)=y) (Z:S.pl=true->∀f,∀T∈E.specs f,T.pl=true)
 (o:∀x z,S.f x=some z->GD E body fn.results hint S.args S.res pack x S.kp=some z):Zfa P f S:=by
 intro w I a js x z M a6 b9 a3 amb hz;have c7:=Zh8 M;have c2:=Vu V;refine calls_of_wp hf j ?_;have o:=o x z hz;unfold GD at o
 let B:Kd:= {w0:=w,own0:=(· ∈js),I0:=I,pl:=S.pl}
 let g0:Gh:= {I:=I,K:=fun _=>False,ty:=fun _=>.unit,blk:=fun _=>none,slv:=fun _=>undef,ver:=fun _=>0,row:=fun _ _ _=>undef}
 have a4:RH B (fun _=>none) w g0 (fun _ _=>False):= {
  objs:=by simp
  dist:=by simp
  sep:=by simp
  ilt:=a3
  inew:=by grind
  os:=rfl
  tape:=rfl
  output:=.rfl
  size:=Nat.le_refl _
  kept:=(by grind)}
 have G:W5 B (fun _=>none) w g0 (fun _ _=>False) js:=⟨a6,by grind⟩;obtain⟨g1,b6,l1,i1,r1,c1,k1,_⟩:=Zgl S.args a4 x js a 0 M G (by grind)
 have b8:Xt (KM S.args x 0).2.1=Zr (fun _=>none) (Wu (KM S.args x 0).2.1):=by
  funext id;rw[ZgI _ _ _ (Zd1 _ _ _)]
  grind
 have hs:SR {E with ks:=GA S.args 0} B ⟨(KM S.args x 0).1.toF,Xt (KM S.args x 0).2.1,(KM S.args x 0).2.2,[]⟩ w g1 b6 {tmps:=a.toArray++Vt (fn.ntmps - a.toArray.size) undef,defers:=[] } := {
  rh:=by grind
  fr:=fun t=>by have:=ZmM c1 (fn.ntmps - a.length) t;simpa [Vi,List.getD_eq_getElem?_getD, <-Vh] using this
  nt:=by
   grind
  df:=rfl
  ids:=by grind
  fz:=(by simp)}
 refine wp_mono (Hs hm body hint {E with ks:=GA S.args 0} S.α _ _ z ⟨N.ty,N.mty,N.pk,N.pz,N.bd⟩ ⟨hS,amb,Z,hI B amb Z⟩ o hs) ?_;rintro e a' w' ⟨ex,C,g',l,rfl,c,p,J⟩;rw[Va]at J;obtain⟨y,hy,a2⟩:=J
 cases U:Zcl (GA S.args 0) (KM S.args x 0).1 (Xt (KM S.args x 0).2.1) C S.kp with
 |false=>grind
 |true=>
 rw[U]at a2;simp only[Zc,Option.some.injEq]at a2
 have a7:RB S.kp a w w' :=Zky hs.rh c.rh c1 p.lk.le (fun k J v hv=>by
  have D:=c.fr k;rw[p.lk.ks k J]at D
  have r:(a.toArray++Vt (fn.ntmps - a.toArray.size) undef).getD k undef=v:=by
   obtain⟨a8,_⟩:=List.getElem?_eq_some_iff.1 hv;simp only[Vi, <-Vh]
   grind
  grind) S.kp U
 have key:∀(d:Zb4 E fn.results S.args S.res [] .normal C=some y),a'.defers=[]/\ ∃v,(results fn a'.tmps).run P w' =.ok v w' /\ ∃rv,Ending.returned v=.returned rv/\Rz S w I js a (S.unp z) rv w' /\RB S.kp a w w' :=by
  intro d;refine⟨c.df,?_⟩;simp only[Zb4,Zw.runK_eq]at d;rw[Va]at d;obtain⟨⟨⟨yv,ids⟩,rd⟩,A,d⟩:=d;simp only[Z4,Zi,Vn]at A;obtain⟨vs,m1,a1,⟨xr,m⟩,m2,R,⟨yo,io⟩,m3,Y,⟨rfl,rfl⟩,_⟩:=A;simp only at d
  cases hc:((ZG.app io m).ok [] &&J7 (ZG.app io m).br []) with
  |false=>grind
  |true=>
   rw[hc]at d;simp only[Zc,Option.some.injEq]at d;subst d;simp only[Vb]at hc;obtain⟨a9,b7,_⟩:=ZG.ok_iff hc.1;have W:(io.tk++m.tk).Nodup:=a9;obtain⟨n1,n2,n3⟩:=Vk.1 W;obtain⟨q,b2,b3⟩:=Zhh N c.rh c.fr fn.results.toList vs [] m1 a1;have O:∀b,g'.I b->g'.I b\/ZV C.H l (ZG.app io m).br b:=by grind
   have Q:∀(i:ZG),(∀n∈i.br,n∈(ZG.app io m).br)->∀b,ZV C.H l i.br b->g'.I b\/ZV C.H l (ZG.app io m).br b:=fun i hi b j=>.inr (WT hi j);obtain⟨jr,c6,b4,a0⟩:=ZjD c.rh O S.res vs q xr m m1 m2 R b3 (Q m fun n L=>by simp [ZG.app,L]) n2
   obtain⟨jo,c5,b0,X⟩:=Zg0 (F:=C.F) c.rh O (w0:=w) (I0:=I) S.args 0 a x js yo io m2 m3 Y b5 M (fun k v J hv=>by
    rw[Nat.add_zero]at J⊢;have D:=c.fr k;rw[p.lk.ks k J]at D
    have a8:k<a.length:=by
     grind
    have r:(a.toArray++Vt (fn.ntmps - a.toArray.size) undef).getD k undef=v:=by
     simp only[Vi, <-Vh]
     grind
    grind) (Q io fun n L=>by simp [ZG.app,L]) n1
   refine⟨Zbp q,Ztp b2,Zbp q,rfl,⟨(fun b=>g'.I b\/ZV C.H l (ZG.app io m).br b),jo,jr,?_,⟨q,?_,rfl⟩,?_,?_,?_,?_,c.rh.os,c.rh.tape,c.rh.output,c.rh.size,fun b D r=>c.rh.kept b D r⟩,a7⟩
   ·grind
   ·grind
   ·refine Vk.2 ⟨b0,b4,fun b j b' a5 e=>?_⟩;subst e;obtain⟨id,D,r⟩:=Ge c.rh (X b j) (a0 b a5)
    grind
   ·intro b j
    have s:ZV C.H l (ZG.app io m).tk b:=by
     rcases Vf.1 j with h|h
     ·exact WT (fun n L=>by simp [ZG.app,L]) (X b h)
     ·exact WT (fun n L=>by simp [ZG.app,L]) (a0 b h)
    obtain⟨id,D,r,h3⟩:=id s;obtain⟨h4,h5,h6⟩:=c.rh.sep id b r h3;refine⟨fun h=>?_,h5,h6⟩;rcases h with h|h
    ·grind
    ·obtain⟨k,h7,h8⟩:=Ge c.rh h s
     grind
   ·intro b j;refine .inl (p.lk.le.I b ?_);rw[i1.I];omega
   ·intro b j;rcases j with j|⟨id,_,r,h3⟩
    ·refine⟨c.rh.ilt b j,?_⟩;rcases c.rh.inew b j with h|h|h
     all_goals grind
    ·obtain⟨_,h5,h6⟩:=c.rh.sep id b r h3
     grind
 cases ex with
 |normal=>exact key hy
 |exit id=>simp [Zb4]at hy
 |jump id=>simp [Zb4]at hy
 |ret=>exact key (by assumption)
theorem Zqv (C:P.follows .mixedOrders=true) (v:Z9 P E) (t:∀f,∀S∈E.specs f,ZX P f S) (s:∀B:Kd,(B.pl=false→HX P B.w0 B.own0)→(B.pl=true→∀f,∀T∈E.specs f,T.pl=true)→∀f h,E.inl f=some h→Ze9 P B E.stp f h) {f:FuncId} {fn:Func} {body:Code} (l:P.funcs[f]? =some fn) (A:fn.body=some body) (j:E.nt=fn.ntmps) (a:(fn.name== "runtime.NumGoroutine")=false)
 {S:Spec} (d:S.args.wf=true) (c:Vaa S.args.len E.nt=true) {hint:WL}{pack:WB S.args×KJ S.res->S.α} (b:∀y,S.unp (pack y)=y) (k:S.pl=true->∀f,∀T∈E.specs f,T.pl=true)
 (i:∀x z,S.f x=some z->GD E body fn.results hint S.args S.res pack x S.kp=some z):ZX P f S:=
 have key:=Zqw C v t s l A j d c b k i
 {wf:=d
  fn:=⟨fn,l,by grind,a⟩
  run:=fun w I e D x z m n o p q r=>(key w I e D x z m n o p q r).mono (by grind)
  kept:=.inr key}
end
end Tr
end
section
namespace Tr
universe u
open Go
def ZcQ(P:Program)(a:List (Nat×Ty))(ms:List (Nat×Ty×Ty))(c:List (Nat×Nat))(b:List (Nat×Nat):=[]):Bool:=
 (b.all fun p=>match P.info? p.1 with
   |some i=>(match i.zero with
    |some z=>(match z.cells.toList with
     |[.pointer none,.slice none 0 0]=>true
     |_=>false)
    |none=>false)
   |none=>false) &&
 (a.all fun p=>ZhN P (fun n=>a.lookup n) p.1 p.2) &&
 (ms.all fun p=>match P.underlying p.1 with
   |some (.map K V)=>a.lookup K==some p.2.1&&a.lookup V==some p.2.2
   |_=>false) &&
 (c.all fun p=>match P.underlying p.1 with
   |some (.pointer _)=>Vg p.2 1
   |some (.func ..)=>Vg p.2 2
   |some (.map _ _)=>Vg p.2 3
   |_=>false)
theorem R8{α:Type u}{k:Nat}{x:α} :∀{l:List (Nat×α)},l.lookup k=some x->(k,x)∈l
 |[],h=>by simp at h
 |(i,y)::l,h=>by
  rw[List.lookup_cons]at h
  cases a:k==i with
  |true=>rw[a]at h;simp only[Option.some.injEq]at h;have:=beq_iff_eq.1 a;subst this;subst h;simp
  |false=>rw[a]at h;exact List.mem_cons_of_mem _ (R8 h)
theorem typesOk_of{P:Program}{f:List (Nat×Ty)}{ms:List (Nat×Ty×Ty)}{a d:List (Nat×Nat)}(h:ZcQ P f ms a d=true){E:Km}(o:E.ty=fun n=>f.lookup n)(p:E.mty=fun n=>ms.lookup n)(q:E.pk=fun n=>(a.lookup n).getD 0)(r:E.bd=fun n=>d.lookup n)(s:∀T,E.pz T=true->∃e,P.underlying T=some (.pointer e)/\ ∀w:World,∃n,(Go.sizeOf e).run P w=.ok n w/\n≠0):Z9 P E:=by
 simp only[ZcQ,Vb,Vx]at h;obtain⟨⟨⟨j,G⟩,D⟩,F⟩:=h;refine⟨fun T t b=>?_,fun T m b=>?_,fun T=>?_,s,fun T e b=>?_⟩
 rotate_left 3
 ·rw[r]at b;have:=j (T,e) (R8 b);simp only at this;split at this
  ·rename_i i A;split at this
   ·rename_i z J;split at this
    ·rename_i v;refine⟨z,fun w=>?_,?_⟩
     ·simp only[zeroValue,typeInfo,Vq,run_program,Vl,A,Vr,J]
     ·rw[<-Array.toList_inj];exact v
    ·cases this
   ·cases this
  ·cases this
 ·rw[o]at b⊢;exact Zut (G (T,t) (R8 b))
 ·rw[p]at b;rw[o];have:=D (T,m) (R8 b);simp only at this;split at this
  ·rename_i K V c;simp only[Vb,Ks]at this;exact⟨K,V,c,this.1,this.2⟩
  ·cases this
 ·have l:E.pk T=(a.lookup T).getD 0:=by rw[q]
  rw[l]
  cases C:a.lookup T with
  |none=>exact⟨fun h=>(by simp at h),fun h=>(by simp at h),fun h=>(by simp at h)⟩
  |some k=>
   have:=F (T,k) (R8 C);simp only at this;simp only[Option.getD_some];split at this
   ·rename_i e c;have:=Vc this;subst this;exact⟨fun _=>⟨e,c⟩,fun h=>(by simp at h),fun h=>(by simp at h)⟩
   ·rename_i x y z c;have:=Vc this;subst this;exact⟨fun h=>(by simp at h),fun _=>⟨x,y,z,c⟩,fun h=>(by simp at h)⟩
   ·rename_i x y c;have:=Vc this;subst this;exact⟨fun h=>(by simp at h),fun h=>(by simp at h),fun _=>⟨x,y,c⟩⟩
   ·cases this
def Ry(P:Program)(f:FuncId):List Spec->Prop
 |[]=>True
 |S::l=>ZX P f S/\Ry P f l
def Rx(P:Program):List (Nat×List Spec)->Prop
 |[]=>True
 |p::m=>Ry P p.1 p.2/\Rx P m
theorem Ry.mem{P:Program}{f:FuncId} :∀{l:List Spec},Ry P f l->∀S∈l,ZX P f S
 |[],_,S,h=>by simp at h
 |T::l,h,S,a=>by
  rcases Vj.1 a with rfl|a
  ·exact h.1
  ·exact Ry.mem h.2 S a
theorem Rx.mem{P:Program} :∀{m:List (Nat×List Spec)},Rx P m->∀p∈m,Ry P p.1 p.2
 |[],_,p,h=>by simp at h
 |q::m,h,p,a=>by
  rcases Vj.1 a with rfl|a
  ·exact h.1
  ·exact Rx.mem h.2 p a
theorem ZtZ{P:Program}{m:List (Nat×List Spec)}(h:Rx P m){E:Km}(c:E.specs=fun n=>(m.lookup n).getD []):∀f,∀S∈E.specs f,ZX P f S:=by
 refine fun f S a=>?_;have e:E.specs f=(m.lookup f).getD []:=by rw[c]
 rw[e]at a
 cases b:m.lookup f with
 |none=>rw[b]at a;simp at a
 |some l=>rw[b]at a;exact(h.mem (f,l) (R8 b)).mem S a
theorem XG{P:Program}{c:List (Nat×Ty)}{ms:List (Nat×Ty×Ty)}{b a:List (Nat×Nat)}{rws zxs:List Nat}{m:List (Nat×List Spec)}{nt:Nat}{f:FuncId}{fn:Func}{S:Spec}{hint:WL}{pack:WB S.args×KJ S.res->S.α}
 (C:P.follows .mixedOrders=true) (D:ZcQ P c ms b a=true) (t:Rx P m)
 (o:∀x z,S.f x=some z->GD (mkE c ms b rws zxs m nt a) (HK fn) fn.results hint S.args S.res pack x S.kp=some z)
 (A:P.funcs[f]? =some fn:=by kernel_rfl) (v:fn.body=some (HK fn):=by kernel_rfl) (r:nt=fn.ntmps:=by kernel_rfl) (d:(fn.name== "runtime.NumGoroutine")=false:=by kernel_rfl)
 (s:S.args.wf=true:=by kernel_rfl) (n:Vaa S.args.len nt=true:=by kernel_rfl) (i:∀y,S.unp (pack y)=y:=by intro y;rfl) (j:(!S.pl||m.all fun p=>p.2.all (·.pl))=true:=by kernel_rfl):ZX P f S:=
 Zqv (E:=mkE c ms b rws zxs m nt a) C (typesOk_of D rfl rfl rfl rfl fun _ h=>absurd (show false=true from h) (by decide)) (ZtZ t rfl) (fun _ _ _ _ h e=>absurd (show none=some h from e) (by simp)) A v r d s n i (fun h g T k=>by
  rw[h]at j;simp only[Bool.not_true,Bool.false_or,Vx]at j;have e:(mkE c ms b rws zxs m nt a).specs g=(m.lookup g).getD []:=rfl;rw[e]at k
  cases q:m.lookup g with
  |none=>rw[q]at k;simp at k
  |some l=>rw[q]at k;exact j (g,l) (R8 q) T k) o
end Tr
end
