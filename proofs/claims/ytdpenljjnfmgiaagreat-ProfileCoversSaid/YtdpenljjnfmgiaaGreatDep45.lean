/- profile's departing does what departF says. Conditions: none. -/
import Derived.Test.YtdpenljjnfmgiaaGreatDep45a
open List renaming length_map ->Vb,map ->Vc,getElem?_eq_getElem ->Vd,getElem_mem ->Ve,mem_append ->Vg,mem_singleton ->Vk
open Nat renaming eq_of_beq_eq_true ->Vh,beq ->Vi
open Option renaming bind_eq_some_iff ->Va,map ->Vf
open Prod renaming snd ->Vj
open Option renaming some ->Ua,none ->Ub
open Bool renaming false ->Ud
open Decidable renaming decide ->Ue
namespace Q
open Tr Go Go.Proofs
noncomputable def Rl(x:FX)(u:El Y94):List (El Y94):=(x.2.2.2.1[(u.1:Int).toNat]?).getD []
noncomputable def Dz(x:FX):Option (FX ⊕ List (El Y94)):=
 match x.2.2.2.2.1 with
 |[]=>Ua (.inr x.2.2.2.2.2)
 |u::rest=>
  bif Ue ((0:Int)<=(u.1:Int))&&(Ue ((u.1:Int).toNat<x.2.2.2.1.length)&&Ue ((Rl x u).length<=549755813888)) then
   bif (Rl x u).any (λy=>Ue (y=u)) then(F106 (x.1,x.2.1,x.2.2.1,x.2.2.2.1,rest,x.2.2.2.2.2) (Ua u)).bind λz=>Ua (.inl z)
   else Ua (.inl (x.1,x.2.1,x.2.2.1,x.2.2.2.1,rest,x.2.2.2.2.2))
  else Ub
noncomputable def Zas(n:El Zh)(q:El Zk)(ws:El Gn)(d:El Y3):Option (El Wq):=(ZeL n q ws d).bind λr=>match r with
 |.inl x=>(run Dz x).bind λl=>Ua (l.map Ua)
 |.inr l=>Ua l
theorem Zr3{b:El Y94->Nat}{row:List (El Y94)}{u:El Y94}(h:∀y∈row,b y=b u->y=u)(t:row.length<=549755813888):Qn.F173 (row.map (Kp (lb:=Y94) b)) (Ua (b u,u))=Ua (row.any λy=>Ue (y=u)):=by
 unfold Qn.F173 Qn.F179
 suffices p:∃r:Unit ⊕ Int,_=Ua r/\((r=.inl ()/\∀y∈row,y≠u)\/∃i:Nat,r=.inr (i:Int)/\u∈row) by
  obtain⟨r,n,o⟩:=p;rcases o with ⟨rfl,m⟩|⟨i,rfl,m⟩
  ·refine Wj (λx=>x= -1) ⟨_,Wj (λx=>x=Sum.inl ()) ⟨_,n,rfl⟩ (λx f=>by subst f;rfl),rfl⟩ ?_;rintro _ rfl;rw[Zt (by omega)];congr 1;symm;rw[List.any_eq_false];exact λy d=>by simpa using m y d
  ·refine Wj (λx=>x=(i:Int)) ⟨_,Wj (λx=>x=Sum.inr (i:Int)) ⟨_,n,rfl⟩ (λx f=>by subst f;rfl),rfl⟩ ?_;rintro _ rfl;rw[Zi (by omega)];congr 1;symm;rw[List.any_eq_true];exact⟨u,m,Zi rfl⟩
 refine KP row.length _ (λi (s:Int)=>s=(i:Int)/\∀y∈row.take i,y≠u) ?_ ?_ _ (by simp)
 ·rintro i _ k ⟨rfl,l⟩;have c:Ue ((i:Int)<(((row.map (Kp (lb:=Y94) b)).length:Nat):Int))=true:=Zi (by rw[Vb];omega);have f:idx (row.map (Kp (lb:=Y94) b)) (i:Int)=Ua (Ua (b row[i],row[i])):=by rw[ZJ (by rw[Vb];exact k)];simp [Kp]
  simp only[c,Zd,f,Za,Option.map_some];by_cases j:b u=b row[i]
  ·have q:=h _ (Ve k) j.symm;right;refine⟨.inr (i:Int),?_,.inr ⟨i,rfl,q▸Ve k⟩⟩;rw[Zi (by rw[j]),Zd]
  ·left;refine⟨((i+1:Nat):Int),?_,rfl,λy d=>?_⟩
   ·rw[Zt (by simpa using j),Ze,ZN (by omega) (by omega)];rfl
   ·rw[List.take_succ_eq_append_getElem k,Vg,Vk]at d;rcases d with d|rfl
    ·exact l y d
    ·exact λe=>j (by rw[e])
 ·rintro _ ⟨rfl,l⟩;rw[List.take_length]at l;have c:Ue ((row.length:Int)<(((row.map (Kp (lb:=Y94) b)).length:Nat):Int))=false:=Zt (by rw[Vb];omega);exact⟨.inl (),by simp only[c,Ze],.inl ⟨rfl,l⟩⟩
theorem ZwZ{c:El Y94->Nat}{x f:FX}(h:X6 c x)(d:∀y∈JO f,y∈JO x):X6 c f:=λy j i b e=>h y (d y j) i (d i b) e
theorem Zsu{x:FX}{c:El Y94->Nat}(H:X6 c x){r:FX ⊕ List (El Y94)}(h:Dz x=Ua r):Zhu (Kj (WH c x))=Ua (match r with|.inl J=>.inl J|.inr l=>.inr (l.map (Kp (lb:=Y94) c))):=by
 obtain⟨n,q,lk,b,op,fd⟩:=x;unfold Dz at h;simp only at h;unfold Zhu
 cases op with
 |nil=>
  simp only[ZL]at h;subst h
  rfl
 |cons u rest=>
  simp only at h
  cases t:Ue ((0:Int)<=(u.1:Int))&&(Ue ((u.1:Int).toNat<b.length)&&Ue ((Rl (n,q,lk,b,u::rest,fd) u).length<=549755813888)) with
  |false=>rw[t]at h;cases h
  |true=>
  rw[t,Zd]at h;simp only[Bool.and_eq_true,Kx]at t;obtain⟨K,s,c3⟩:=t;have o:Rl (n,q,lk,b,u::rest,fd) u=b[(u.1:Int).toNat]:=by unfold Rl;simp only[Vd s,Option.getD_some]
  rw[o]at h c3;have p:∀y∈JO (tn:=Zh) (tq:=Zk) (lt:=ZB) (lb:=Y94) (n,q,lk,b,rest,fd),y∈JO (tn:=Zh) (tq:=Zk) (lt:=ZB) (lb:=Y94) (n,q,lk,b,u::rest,fd):=by
   intro y d;simp only[JO,Vg,List.mem_cons]at d⊢;rcases d with (d|d) |d
   ·exact .inl (.inl d)
   ·exact .inl (.inr (.inr d))
   ·exact .inr d
  have F:=untag_eq (ZwZ H p);have j:Qn.F173 ((b[(u.1:Int).toNat]).map (Kp (lb:=Y94) c)) (Ua (c u,u))=Ua ((b[(u.1:Int).toNat]).any λy=>Ue (y=u)):=
   Zr3 (λy d e=>H y (by simp only[JO,Vg,List.mem_flatten];exact .inl (.inl ⟨_,Ve s,d⟩)) u (by simp [JO]) e) c3
  have m:(Vc (Kp (lb:=Y94) c) (u::rest)).length=rest.length+1:=by simp
  have D:sliceB (rest.length+1) (rest.length+1) (Ua (1:Int)) Ub=Ua (1,rest.length+1):=by unfold sliceB;simp;omega
  have k:Zv (0:Int) (rest.length+1)=Ua 0:=KS (i:=0) (by omega);have v:Zv (u.1:Int) (b.map λr:List (El Y94)=>r.map (Kp (lb:=Y94) c)).length=Ua (u.1:Int).toNat:=by unfold Zv;rw[Vb,Zn (by omega)]
  have A:(b.map λr:List (El Y94)=>r.map (Kp (lb:=Y94) c))[(u.1:Int).toNat]? =Ua ((b[(u.1:Int).toNat]).map (Kp (lb:=Y94) c)):=by rw[List.getElem?_map,Vd s];rfl
  have C:idx (b.map λr:List (El Y94)=>r.map (Kp (lb:=Y94) c)) (((u.1:Int).toNat:Nat):Int)=Ua ((b[(u.1:Int).toNat]).map (Kp (lb:=Y94) c)):=by rw[ZJ (by rw[Vb];exact s)];simp
  simp only[Kj,WH,m];rw[Zi (by omega),Zd,k];simp only[Za,List.map_cons,List.getElem?_cons_zero,Kp,D,v,A,C,j];have E:List.take (rest.length+1 - 1) (List.drop 1 (Ua (c u,u)::Vc (Kp (lb:=Y94) c) rest))=Vc (Kp (lb:=Y94) c) rest:=by rw[List.drop_one,List.tail_cons,Nat.add_sub_cancel];exact List.take_of_length_le (by simp)
  have f:Tr.untag (tn:=Zh) (tq:=Zk) (lt:=ZB) (lb:=Y94) (n,q,lk,Vc (λr:List (El Y94)=>Vc (Kp (lb:=Y94) c) r) b,List.take (rest.length+1 - 1) (List.drop 1 (Ua (c u,u)::Vc (Kp (lb:=Y94) c) rest)),Vc (Kp (lb:=Y94) c) fd)=Ua (n,q,lk,b,rest,fd):=by rw[E];exact F
  cases G:(b[(u.1:Int).toNat]).any λy=>Ue (y=u) with
  |true=>
   rw[G,Zd,Va]at h;obtain⟨z,I,h⟩:=h;rw[ZL]at h;subst h;simp only[Zd];refine Wj (λy=>y=(n,q,lk,b,rest,fd)) ⟨_,f,rfl⟩ ?_;rintro _ rfl;refine Wj (λy=>y=z) ⟨_,I,rfl⟩ ?_;rintro _ rfl
   rfl
  |false=>
   rw[G,Ze,ZL]at h;subst h;simp only[Ze];refine Wj (λy=>y=(n,q,lk,b,rest,fd)) ⟨_,Wj (λy=>y=(n,q,lk,b,rest,fd)) ⟨_,f,rfl⟩ (by rintro _ rfl;rfl),rfl⟩ ?_;rintro _ rfl;rfl
theorem SR.env{E E' :Z9}{B:Z1}{s:AS}{w:World}{g:Gh}{b:Nat->Nat->Prop}{a:Act}(h:SR E B s w g b a)(c:E'.nt=E.nt):SR E' B s w g b a:=⟨h.rh,h.fr,h.nt.trans c.symm,h.df,h.ids,h.fz⟩
theorem Lk.env{E E' :Z9}{w w' :World}{g c:Gh}{a b:Act}(h:Lk E w g a w' c b)(d:E'.ks=[]):Lk E' w g a w' c b:=⟨h.le,h.ag,by rw[d];simp⟩
theorem ZwT{E:Z9}{B:Z1}{s:AS}{w:World}{g:Gh}{m:Nat->Nat->Prop}{a:Act}(c:SR E B s w g m a)(d:Nat->AV)(H' :AH)(hF:∀t,d t=.junk\/d t=s.F t)(i:∀k o,H' k=Ua o->s.H k=Ua o):SR E B ⟨d,H',s.nx,[]⟩ w g m a where
 rh:=by
  have f:∀k,H' k≠Ub->s.H k≠none:=by
   intro k h
   cases j:H' k with
   |none=>exact absurd j h
   |some o=>rw[i k o j];simp
  exact {objs:=λk o h=>c.rh.objs k o (i k o h),dist:=λk l b e n=>c.rh.dist k l b (f k e) (f l n),sep:=λk b e=>c.rh.sep k b (f k e),ilt:=c.rh.ilt,inew:=c.rh.inew,os:=c.rh.os,tape:=c.rh.tape,output:=c.rh.output,size:=c.rh.size,kept:=c.rh.kept}
 fr:=λt=>by
  rcases hF t with h|h
  ·show VR w g (d t) _;rw[h];exact HH
  ·show VR w g (d t) _;rw[h];exact c.fr t
 nt:=c.nt
 df:=c.df
 ids:=c.ids
 fz:=λid h=>by simp at h
theorem Zlk{w:World}{I:Nat->Prop}{lb:Ty}:∀{l:List (El (.pn lb))}{css:List (List Value)},Fa (Rd w I (.pn lb)) l css->Fa (Rd w I (.pt lb)) (l.map λz=>Vf Vj z) css
 |[],[],_=>trivial
 |_::_,_::_,⟨b,c⟩=>⟨Zne b,Zlk c⟩
theorem Zu7{E:Z9}{B:Z1}{s:AS}{w:World}{g:Gh}{R:Nat->Nat->Prop}{a:Act}{lb:Ty}{l:List (El (.pn lb))}{k id:Nat}(d:SR E B s w g R a)(G:s.F k=.vw id)(Q:s.H id=Ua (.vec (.pn lb) l)):
 ∃m j,SR E B ⟨λt=>bif Vi t k then .vw s.nx else .junk,Zs (Z0 s.H id Ub) (Wh [(s.nx,.vec (.pt lb) (l.map λz=>Vf Vj z))]),s.nx+1,[]⟩ w m j a/\Lk E w g a w m a:=by
 obtain⟨hK,Y,V⟩:=d.rh.objs id _ Q;have x:s.H id≠none:=by rw[Q];simp
 have P:=d.fr k;rw[G]at P;obtain⟨v,D⟩:=P;simp only[CV]at v;obtain⟨_,N,_⟩:=v;have J:∃L:List Nat,PV w g.I (.own (.pt lb) Ud) (l.map λz=>Vf Vj z) L (a.tmps.getD k undef)/\W5 B (Z0 s.H id Ub) w g R L:=by
  have O:Kd (a.tmps.getD k undef)=false:=by
   rcases D with h|h
   ·cases h
   ·exact h
  rcases V with ⟨rfl,_,i⟩|⟨b,cap,cs,e,C,_,y,i,X,o,A,T,U⟩
  ·refine⟨[],⟨.inl ⟨rfl,rfl,by rw[N,i]⟩,.inr O⟩,.nil,by simp⟩
  ·refine⟨[b],⟨.inr ⟨b,cap,cs,e,C,rfl,by rw[N,i,Vb],X,by rw[Vb];exact o,A,Zlk T,U⟩,.inr O⟩,by simp,λM u=>?_⟩;rw[Vk]at u;subst u;obtain⟨p,q,r⟩:=d.rh.sep id M x y;exact⟨p,q,r,λc o A=>(YB o).1 (d.rh.dist c id M (YB o).2 x A y)⟩
 obtain⟨L,K,f⟩:=J;obtain⟨m,j,l1,i1,r1,S,Z,o1⟩:=Zfa (n:=s.nx) (d.rh.drop id) K f (λc o A G=>absurd (d.ids c G) (by omega));refine⟨m,j,⟨r1,λt=>?_,d.nt,d.df,λc h=>?_,by simp⟩,l1,λ_ _=>rfl,by simp⟩
 ·show VR w m (bif Vi t k then _ else _) _
  cases W:Vi t k with
  |true=>have:=Vh W;subst this;simp only[Zd];exact S
  |false=>exact HH
 ·show c<s.nx+1;rcases Z c h with h|h
  ·have:=d.ids c h;omega
  ·exact h.2
section
variable {B:Z1}{w:World}{g:Gh}{a:Act}{z:El Wq}{x0:Kw Hk}
noncomputable abbrev dpK(x0:Kw Hk)(e:Ex)(s:AS):Option (El Wq):=(Ys E1 Tryz.f37.results Hk ZeK [] e s).bind λy=>bif G1 (XR Hk 0) (Kb Hk x0 0).1 (WM (Kb Hk x0 0).2.1) s [] then Ua y.2.1 else Ub
theorem Zhw{E' :Z9}{s:Nat->Nat->Prop}(i:SR E1 B (Xm x0) w g s a){s' :AS}{w' :World}{l:Gh}{k:Nat->Nat->Prop}{c:Act}(q:E'.nt=E1.nt)(f:E'.ks=[])(r:SR E' B s' w' l k c)(p:Lk E1 w g a w' l c){e:WZ}{y:Jn e.roots}(o:e.kept=[]/\e.kf=[]/\e.kv=[])(h:XY (Xm x0) [] e s' =Ua y):
 ∃d b,SR E1 B (Xn (Xm x0) [] e y) w' d b c/\Lk E1 w g a w' d c:=by
 obtain⟨m,x,n⟩:=o;have j:Z6 (Xm x0) e=[]:=by unfold Z6;rw[m];rfl
 obtain⟨d,b,t,u,v,_⟩:=Zb1 (E' :=E') (fz0:=[]) (fzN:=[]) i r q (Lk.env p f) (by rw[m];simp) (by rw[n];simp) (by rw[j];simp) (by rw[j];simp) (by rw[j];simp) (by simp) h;exact⟨d,b,t,u,v,by simp [E1,mkE]⟩
theorem Zsx{p:Nat->Nat->Prop}(c:SR E1 B (Xm x0) w g p a){s' :AS}{w' :World}{f:Gh}{d:Nat->Nat->Prop}{b:Act}(m:SR E2 B s' w' f d b)(j:Lk E1 w g a w' f b){l:List (El Qn.Y91)}(h:XY (Xm x0) [] e8 s' =Ua l):
 Wz E1 B (Xm x0) w g a (dpK x0) (l.map λz=>Vf Vj z) .ret b w' :=by
 obtain⟨t,q,r,n⟩:=Zhw (E' :=E2) c rfl rfl m j ⟨rfl,rfl,rfl⟩ h;obtain⟨i,e,s,o⟩:=Zu7 (k:=8) (id:=0) (lb:=Y94) (l:=l) r rfl rfl;refine⟨.ret,_,i,e,rfl,s,⟨n.trans o,rfl,by simp⟩,?_⟩;rfl
theorem Zsy{ow:Nat->Nat->Prop}(q:SR E1 B (Xm x0) w g ow a)(p:JI Tryz.prog E2 B){l:List (El Y94)}(hz:z=l.map Ua)(m:Nat)(x:FX)(d:Jq Dz m x=Ua l){w1:World}{g1:Gh}{u:Nat->Nat->Prop}{C:Act}(hs:SR E1 B (Xn (Xm x0) [] eD x) w1 g1 u C)(hl:Lk E1 w g a w1 g1 C):
 (Code.block 6 (.loop dpL)).wp Tryz.prog (Exit.then (dpZ.wp Tryz.prog (Wz E1 B (Xm x0) w g a (dpK x0) z)) (Wz E1 B (Xm x0) w g a (dpK x0) z)) C w1:=by
 refine wp_block (Zcn (λm U Y=>∃x V R,Jq Dz m x=Ua l/\SR E1 B (Xn (Xm x0) [] eD x) Y V R U/\Lk E1 w g a Y V U) (n:=m) ⟨x,g1,u,d,hs,hl⟩ ?_);rintro m Z w2 ⟨x,g2,a0,d,K,E⟩
 cases m with
 |zero=>cases d
 |succ m=>
 obtain⟨A,g3,S,O,L,F⟩:=Ztj (k:=9) (id:=0) (x:=x) K rfl rfl;have M:SR E2 B (dpO (Kj (WH A x))) w2 g3 S Z:=by
  refine SR.env (ZwT L _ _ (λt=>?_) λk o h=>?_) rfl
  ·show (bif Vi t 9 then _ else _)=_\/(bif Vi t 9 then _ else _)=_
   cases hb:Vi t 9 with
   |true=>have:=Vh hb;subst this;exact .inr rfl
   |false=>exact .inl rfl
  ·have h' :WM (inj fP (Kj (WH A x)) 1).2.1 k=Ua o:=h;show Zs (Z0 (Xn (Xm x0) [] eD x).H 0 Ub) (Wh (inj fP (Kj (WH A x)) 1).2.1) k=Ua o;rw[Zdd _ _ _ (Zc7 _ _ _),h']
 cases j:Dz x with
 |none=>rw[Jq,j]at d;cases d
 |some r=>
 rw[Jq,j]at d;have J:=Zsu O j;rw[<-Zst]at J;unfold Zk0 at J;refine wp_mono (WD We dpL .leaf E2 (FX ⊕ List (El Qn.Y91)) _ _ _ Zjt p J M) ?_;rintro e D T ⟨ex,s5,g5,a3,rfl,s,G,b⟩;have f:Lk E1 w g a T g5 D:=(E.trans F).trans (Lk.env G.lk rfl)
 cases ex with
 |ret=>simp at b
 |jump l=>simp at b
 |normal=>
  simp only[Va,ZL]at b;obtain⟨y,P,b⟩:=b
  cases r with
  |inr X=>cases b
  |inl x' =>
   cases b;have Q:XY (Xm x0) [] eD s5=Ua y:=P;obtain⟨W,v,r1,l1⟩:=Zhw (E' :=E2) q rfl rfl s f ⟨rfl,rfl,rfl⟩ Q
   exact⟨m,Nat.lt_succ_self m,y,W,v,d,r1,l1⟩
 |exit i=>
  match i,b with
  |6,b=>
   show Exit.inBlock 6 (Exit.then (dpZ.wp Tryz.prog (Wz E1 B (Xm x0) w g a (dpK x0) z)) (Wz E1 B (Xm x0) w g a (dpK x0) z)) (.exit 6) D T;simp only[Exit.inBlock,if_true];show dpZ.wp Tryz.prog _ D T;refine wp_mono (WD We dpZ .leaf E2 (FX ⊕ List (El Qn.Y91)) _ _ _ Zjt p b s) ?_;rintro e a6 w6 ⟨ex,s6,W,v,rfl,N,I,c⟩
   cases ex with
   |normal=>simp at c
   |exit i=>simp at c
   |jump l=>simp at c
   |ret=>
    simp only[Va,ZL]at c;obtain⟨y,P,c⟩:=c
    cases r with
    |inl x' =>cases c
    |inr X=>
     cases c;simp only[ZL]at d;subst d;have:=Zsx q N (f.trans (Lk.env I.lk rfl)) P;have e:(X.map (Kp (lb:=Y94) A)).map (λz=>Vf Vj z)=z:=by rw[hz,List.map_map];rfl
     rw[e]at this;exact this
theorem Zsz{P:Nat->Nat->Prop}(k:Zas x0.1 x0.2.1 x0.2.2.1 x0.2.2.2.1=Ua z)(o:JI Tryz.prog E1 B)(C:SR E1 B (Xm x0) w g P a):(K2 Tryz.f37).wp Tryz.prog (Wz E1 B (Xm x0) w g a (dpK x0) z) a w:=by
 have x:JI Tryz.prog E2 B:=⟨Zo4,o.amb,λ_=>Zoe (m:=M2) (by kernel_rfl) rfl,λ_ h e=>absurd (show Ub=Ua h from e) (by simp)⟩;unfold Zas at k;rw[Va]at k;obtain⟨r,u,k⟩:=k;rw[<-Zsv]at u;have u:Zhv x0=Ua r:=u;unfold Zhv at u;rw[Zsw];refine wp_seq (wp_mono (WD We Zhp .leaf E1 (FX ⊕ El Wq) _ _ _ Za8 o u C) ?_);rintro e W w1 ⟨ex,s1,g1,Q,rfl,D,q,c⟩
 cases ex with
 |ret=>simp at c
 |jump l=>simp at c
 |exit i=>simp at c
 |normal=>
 simp only at c;refine wp_seq (wp_mono (WD We Zhq .leaf E1 (FX ⊕ El Wq) _ _ _ Za8 o c D) ?_);rintro e X w2 ⟨ex,s2,g2,R,rfl,E,s,d⟩
 cases ex with
 |ret=>simp at d
 |jump l=>simp at d
 |exit i=>simp at d
 |normal=>
 simp only at d;refine wp_seq (wp_mono (WD We Zhr .leaf E1 (FX ⊕ El Wq) _ _ _ Za8 o d E) ?_);rintro e Y w3 ⟨ex,s3,g3,S,rfl,F,t,f⟩
 cases ex with
 |ret=>simp at f
 |jump l=>simp at f
 |exit i=>simp at f
 |normal=>
 simp only at f;have p:=(q.lk.trans s.lk).trans t.lk;refine wp_seq (wp_mono (WD We Zhs .leaf E1 (FX ⊕ El Wq) _ _ _ Za8 o f F) ?_);rintro e Z w4 ⟨ex,J,K,I,rfl,v,n,b⟩
 cases ex with
 |jump l=>simp at b
 |exit i=>simp at b
 |ret=>
  simp only[Va,ZL]at b;obtain⟨y,H,rfl⟩:=b;simp only[ZL]at k;refine⟨.ret,J,K,I,rfl,v,⟨p.trans n.lk,n.fz.trans (t.fz.trans (s.fz.trans q.fz)),by simp⟩,?_⟩;show (Ys E1 Tryz.f37.results Hk ZeK [] .ret J).bind _=_;rw[H]
  simp only[Za,G1,Zd,k]
 |normal=>
 simp only at b;refine wp_seq (wp_mono (WD We Zht dpH E1 (FX ⊕ El Wq) _ _ _ Za8 o b v) ?_);rintro e a5 w5 ⟨ex,s5,g5,T,rfl,G,A,j⟩
 cases ex with
 |ret=>simp at j
 |jump l=>simp at j
 |exit i=>simp at j
 |normal=>
 simp only[Va,ZL]at j;obtain⟨y,H,rfl⟩:=j;simp only[Va,ZL]at k;obtain⟨l,L,N⟩:=k;obtain⟨m,M⟩:=ZiW L;obtain⟨g6,U,V,O⟩:=Zhw (E' :=E1) C rfl rfl G ((p.trans n.lk).trans A.lk) ⟨rfl,rfl,rfl⟩ H;exact wp_seq (Zsy C x N.symm m y M V O)
end
noncomputable def ZkW:Tr.Spec:={args:=Hk,res:=ZeK,fns:=[],α:=El Wq,f:=λx=>Zas x.1 x.2.1 x.2.2.1 x.2.2.2.1,unp:=λz=>(((),(),(),(),()),(z,()))}
theorem Zsd:ZT Tryz.prog 37 ZkW:=
 have key:Zba Tryz.prog 37 ZkW:=Zk7 (E:=E1) (fn:=Tryz.f37) (body:=K2 Tryz.f37) (pack:=λy=>y.2.1) Za8 Zo3 (λ_ _ _ _ h e=>absurd (show Ub=Ua h from e) (by simp)) Tryz.func37 (by kernel_rfl) rfl rfl rfl (λy=>rfl) (λ_=>Zoe (m:=M1) (by kernel_rfl) rfl) (λx z q=>λo p=>Zsz (x0:=x) q o p)
 {wf:=rfl
  fn:=⟨_,Tryz.func37,by kernel_rfl,by kernel_rfl⟩
  run:=λw I b r x z c d f i j k=>(key w I b r x z c d f i j k).mono λe t ⟨s,l,n,_⟩=>⟨s,l,n⟩ }
end Q
