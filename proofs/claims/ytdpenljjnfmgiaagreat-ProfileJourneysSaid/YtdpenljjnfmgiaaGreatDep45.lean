/- profile's departing does what departF says. Conditions: none. -/
import Derived.Test.YtdpenljjnfmgiaaGreatDep45a
open List renaming length_map ->Vb,map ->Vc,getElem?_eq_getElem ->Vd,getElem_mem ->Ve,mem_append ->Vg,mem_singleton ->Vk
open Nat renaming eq_of_beq_eq_true ->Vh,beq ->Vi
open Option renaming bind_eq_some_iff ->Va,map ->Vf
open Prod renaming snd ->Vj
open Option renaming some ->Ua,none ->Ub
open Bool renaming false ->Ud
open Decidable renaming decide ->Ue
namespace Q
open Tr Go Go.Proofs
noncomputable def D8(x:FX)(u:El Y94):List (El Y94):=(x.2.2.2.1[(u.1:Int).toNat]?).getD []
noncomputable def Dd(x:FX):Option (FX ⊕ List (El Y94)):=
 match x.2.2.2.2.1 with
 |[]=>Ua (.inr x.2.2.2.2.2)
 |u::rest=>
  bif Ue ((0:Int)<=(u.1:Int)) && (Ue ((u.1:Int).toNat<x.2.2.2.1.length) &&Ue ((D8 x u).length<=549755813888)) then
   bif (D8 x u).any (fun y=>Ue (y=u)) then(F107 (x.1,x.2.1,x.2.2.1,x.2.2.2.1,rest,x.2.2.2.2.2) (Ua u)).bind fun z=>Ua (.inl z)
   else Ua (.inl (x.1,x.2.1,x.2.2.1,x.2.2.2.1,rest,x.2.2.2.2.2))
  else Ub
noncomputable def Zap(n:El Zh)(q:El Zk)(ws:El H6)(d:El Y3):Option (El Wm):=(ZeE n q ws d).bind fun r=>match r with
 |.inl x=>(run Dd x).bind fun l=>Ua (l.map Ua)
 |.inr l=>Ua l
theorem Zrt{b:El Y94->Nat}{row:List (El Y94)}{u:El Y94}(h:∀y∈row,b y=b u->y=u)(t:row.length<=549755813888):Qn.F174 (row.map (Kq (lb:=Y94) b)) (Ua (b u,u))=Ua (row.any fun y=>Ue (y=u)):=by
 unfold Qn.F174 Qn.F180
 suffices p:∃r:Unit ⊕ Int,_=Ua r/\((r=.inl ()/\ ∀y∈row,y≠u)\/ ∃i:Nat,r=.inr (i:Int)/\u∈row) by
  obtain⟨r,n,o⟩:=p;rcases o with ⟨rfl,m⟩|⟨i,rfl,m⟩
  ·refine K4 (fun x=>x= -1) ⟨_,K4 (fun x=>x=Sum.inl ()) ⟨_,n,rfl⟩ (fun x f=>by subst f;rfl),rfl⟩ ?_;rintro _ rfl;rw[Zr (by omega)];congr 1;symm;rw[List.any_eq_false];exact fun y d=>by simpa using m y d
  ·refine K4 (fun x=>x=(i:Int)) ⟨_,K4 (fun x=>x=Sum.inr (i:Int)) ⟨_,n,rfl⟩ (fun x f=>by subst f;rfl),rfl⟩ ?_;rintro _ rfl;rw[Zj (by omega)];congr 1;symm;rw[List.any_eq_true];exact⟨u,m,Zj rfl⟩
 refine KC row.length _ (fun i (s:Int)=>s=(i:Int)/\ ∀y∈row.take i,y≠u) ?_ ?_ _ (by simp)
 ·rintro i _ k ⟨rfl,l⟩;have c:Ue ((i:Int)<(((row.map (Kq (lb:=Y94) b)).length:Nat):Int))=true:=Zj (by rw[Vb];omega)
  have f:idx (row.map (Kq (lb:=Y94) b)) (i:Int)=Ua (Ua (b row[i],row[i])):=by rw[ZE (by rw[Vb];exact k)];simp [Kq]
  simp only[c,Ze,f,Za,Option.map_some];by_cases j:b u=b row[i]
  ·have q:=h _ (Ve k) j.symm;right;refine⟨.inr (i:Int),?_,.inr ⟨i,rfl,q▸Ve k⟩⟩;rw[Zj (by rw[j]),Ze]
  ·left;refine⟨((i+1:Nat):Int),?_,rfl,fun y d=>?_⟩
   ·rw[Zr (by simpa using j),Zd,ZH (by omega) (by omega)];rfl
   ·rw[List.take_succ_eq_append_getElem k,Vg,Vk]at d;rcases d with d|rfl
    ·exact l y d
    ·exact fun e=>j (by rw[e])
 ·rintro _ ⟨rfl,l⟩;rw[List.take_length]at l;have c:Ue ((row.length:Int)<(((row.map (Kq (lb:=Y94) b)).length:Nat):Int))=false:=Zr (by rw[Vb];omega);exact⟨.inl (),by simp only[c,Zd],.inl ⟨rfl,l⟩⟩
theorem Zwh{c:El Y94->Nat}{x f:FX}(h:X2 c x)(d:∀y∈JN f,y∈JN x):X2 c f:=fun y j i b e=>h y (d y j) i (d i b) e
theorem ZrR{x:FX}{c:El Y94->Nat}(H:X2 c x){r:FX ⊕ List (El Y94)}(h:Dd x=Ua r):Zhe (KI (WF c x))=Ua (match r with|.inl J=>.inl J|.inr l=>.inr (l.map (Kq (lb:=Y94) c))):=by
 obtain⟨n,q,lk,b,op,fd⟩:=x;unfold Dd at h;simp only at h;unfold Zhe
 cases op with
 |nil=>
  simp only[ZB]at h;subst h
  rfl
 |cons u rest=>
  simp only at h
  cases t:Ue ((0:Int)<=(u.1:Int)) && (Ue ((u.1:Int).toNat<b.length) &&Ue ((D8 (n,q,lk,b,u::rest,fd) u).length<=549755813888)) with
  |false=>rw[t]at h;cases h
  |true=>
  rw[t,Ze]at h;simp only[Bool.and_eq_true,KD]at t;obtain⟨K,s,c3⟩:=t
  have o:D8 (n,q,lk,b,u::rest,fd) u=b[(u.1:Int).toNat]:=by unfold D8;simp only[Vd s,Option.getD_some]
  rw[o]at h c3
  have p:∀y∈JN (tn:=Zh) (tq:=Zk) (lt:=ZC) (lb:=Y94) (n,q,lk,b,rest,fd),y∈JN (tn:=Zh) (tq:=Zk) (lt:=ZC) (lb:=Y94) (n,q,lk,b,u::rest,fd):=by
   intro y d;simp only[JN,Vg,List.mem_cons]at d⊢;rcases d with (d|d) |d
   ·exact .inl (.inl d)
   ·exact .inl (.inr (.inr d))
   ·exact .inr d
  have F:=untag_eq (Zwh H p)
  have j:Qn.F174 ((b[(u.1:Int).toNat]).map (Kq (lb:=Y94) c)) (Ua (c u,u))=Ua ((b[(u.1:Int).toNat]).any fun y=>Ue (y=u)):=
   Zrt (fun y d e=>H y (by simp only[JN,Vg,List.mem_flatten];exact .inl (.inl ⟨_,Ve s,d⟩)) u (by simp [JN]) e) c3
  have m:(Vc (Kq (lb:=Y94) c) (u::rest)).length=rest.length+1:=by simp
  have D:sliceB (rest.length+1) (rest.length+1) (Ua (1:Int)) Ub=Ua (1,rest.length+1):=by unfold sliceB;simp;omega
  have k:Zs (0:Int) (rest.length+1)=Ua 0:=KM (i:=0) (by omega)
  have v:Zs (u.1:Int) (b.map fun r:List (El Y94)=>r.map (Kq (lb:=Y94) c)).length=Ua (u.1:Int).toNat:=by unfold Zs;rw[Vb,Zv (by omega)]
  have A:(b.map fun r:List (El Y94)=>r.map (Kq (lb:=Y94) c))[(u.1:Int).toNat]? =Ua ((b[(u.1:Int).toNat]).map (Kq (lb:=Y94) c)):=by rw[List.getElem?_map,Vd s];rfl
  have C:idx (b.map fun r:List (El Y94)=>r.map (Kq (lb:=Y94) c)) (((u.1:Int).toNat:Nat):Int)=Ua ((b[(u.1:Int).toNat]).map (Kq (lb:=Y94) c)):=by rw[ZE (by rw[Vb];exact s)];simp
  simp only[KI,WF,m];rw[Zj (by omega),Ze,k];simp only[Za,List.map_cons,List.getElem?_cons_zero,Kq,D,v,A,C,j]
  have E:List.take (rest.length+1 - 1) (List.drop 1 (Ua (c u,u)::Vc (Kq (lb:=Y94) c) rest))=Vc (Kq (lb:=Y94) c) rest:=by rw[List.drop_one,List.tail_cons,Nat.add_sub_cancel];exact List.take_of_length_le (by simp)
  have f:Tr.untag (tn:=Zh) (tq:=Zk) (lt:=ZC) (lb:=Y94) (n,q,lk,Vc (fun r:List (El Y94)=>Vc (Kq (lb:=Y94) c) r) b,List.take (rest.length+1 - 1) (List.drop 1 (Ua (c u,u)::Vc (Kq (lb:=Y94) c) rest)),Vc (Kq (lb:=Y94) c) fd)=Ua (n,q,lk,b,rest,fd):=by rw[E];exact F
  cases G:(b[(u.1:Int).toNat]).any fun y=>Ue (y=u) with
  |true=>
   rw[G,Ze,Va]at h;obtain⟨z,I,h⟩:=h;rw[ZB]at h;subst h;simp only[Ze];refine K4 (fun y=>y=(n,q,lk,b,rest,fd)) ⟨_,f,rfl⟩ ?_;rintro _ rfl;refine K4 (fun y=>y=z) ⟨_,I,rfl⟩ ?_;rintro _ rfl
   rfl
  |false=>
   rw[G,Zd,ZB]at h;subst h;simp only[Zd];refine K4 (fun y=>y=(n,q,lk,b,rest,fd)) ⟨_,K4 (fun y=>y=(n,q,lk,b,rest,fd)) ⟨_,f,rfl⟩ (by rintro _ rfl;rfl),rfl⟩ ?_;rintro _ rfl;rfl
theorem SR.env{E E' :Ka}{B:Z1}{s:AS}{w:World}{g:Gh}{b:Nat->Nat->Prop}{a:Act}(h:SR E B s w g b a)(c:E'.nt=E.nt):SR E' B s w g b a:=⟨h.rh,h.fr,h.nt.trans c.symm,h.df,h.ids,h.fz⟩
theorem Lk.env{E E' :Ka}{w w' :World}{g g' :Gh}{a b:Act}(h:Lk E w g a w' g' b)(c:E'.ks=[]):Lk E' w g a w' g' b:=⟨h.le,h.ag,by rw[c];simp⟩
theorem Zwb{E:Ka}{B:Z1}{s:AS}{w:World}{g:Gh}{m:Nat->Nat->Prop}{a:Act}(c:SR E B s w g m a)(d:Nat->AV)(H' :AH)(hF:∀t,d t=.junk\/d t=s.F t)(i:∀k o,H' k=Ua o->s.H k=Ua o):SR E B ⟨d,H',s.nx,[]⟩ w g m a where
 rh:=by
  have f:∀k,H' k≠Ub->s.H k≠none:=by
   intro k h
   cases j:H' k with
   |none=>exact absurd j h
   |some o=>rw[i k o j];simp
  exact {objs:=fun k o h=>c.rh.objs k o (i k o h),dist:=fun k l b e n=>c.rh.dist k l b (f k e) (f l n),sep:=fun k b e=>c.rh.sep k b (f k e),ilt:=c.rh.ilt,inew:=c.rh.inew,os:=c.rh.os,tape:=c.rh.tape,output:=c.rh.output,size:=c.rh.size,kept:=c.rh.kept}
 fr:=fun t=>by
  rcases hF t with h|h
  ·show VR w g (d t) _;rw[h];exact HB
  ·show VR w g (d t) _;rw[h];exact c.fr t
 nt:=c.nt
 df:=c.df
 ids:=c.ids
 fz:=fun id h=>by simp at h
theorem ZkY{w:World}{I:Nat->Prop}{lb:Ty} :∀{l:List (El (.pn lb))}{css:List (List Value)},Fa (Rd w I (.pn lb)) l css->Fa (Rd w I (.pt lb)) (l.map fun z=>Vf Vj z) css
 |[],[],_=>trivial
 |_::_,_::_,⟨b,c⟩=>⟨ZmG b,ZkY c⟩
theorem Zui{E:Ka}{B:Z1}{s:AS}{w:World}{g:Gh}{Q:Nat->Nat->Prop}{a:Act}{lb:Ty}{l:List (El (.pn lb))}{k id:Nat}(d:SR E B s w g Q a)(D:s.F k=.vw id)(P:s.H id=Ua (.vec (.pn lb) l)):
 ∃g' j,SR E B ⟨fun t=>bif Vi t k then .vw s.nx else .junk,Zp (ZY s.H id Ub) (Wd [(s.nx,.vec (.pt lb) (l.map fun z=>Vf Vj z))]),s.nx+1,[]⟩ w g' j a/\Lk E w g a w g' a:=by
 obtain⟨hK,X,U⟩:=d.rh.objs id _ P;have v:s.H id≠none:=by rw[P];simp
 have O:=d.fr k;rw[D]at O;obtain⟨u,C⟩:=O;simp only[CV]at u;obtain⟨_,M,_⟩:=u
 have G:∃K:List Nat,PV w g.I (.own (.pt lb) Ud) (l.map fun z=>Vf Vj z) K (a.tmps.getD k undef)/\WW B (ZY s.H id Ub) w g Q K:=by
  have N:Kf (a.tmps.getD k undef)=false:=by
   rcases C with h|h
   ·cases h
   ·exact h
  rcases U with ⟨rfl,_,i⟩|⟨b,cap,cs,e,A,_,x,i,W,m,y,S,T⟩
  ·refine⟨[],⟨.inl ⟨rfl,rfl,by rw[M,i]⟩,.inr N⟩,.nil,by simp⟩
  ·refine⟨[b],⟨.inr ⟨b,cap,cs,e,A,rfl,by rw[M,i,Vb],W,by rw[Vb];exact m,y,ZkY S,T⟩,.inr N⟩,by simp,fun L o=>?_⟩;rw[Vk]at o;subst o;obtain⟨p,q,r⟩:=d.rh.sep id L v x;exact⟨p,q,r,fun c m y=>(YF m).1 (d.rh.dist c id L (YF m).2 v y x)⟩
 obtain⟨K,J,f⟩:=G;obtain⟨g',j,Z,i1,r1,R,Y,o1⟩:=Ze0 (n:=s.nx) (d.rh.drop id) J f (fun c m y D=>absurd (d.ids c D) (by omega));refine⟨g',j,⟨r1,fun t=>?_,d.nt,d.df,fun c h=>?_,by simp⟩,Z,fun _ _=>rfl,by simp⟩
 ·show VR w g' (bif Vi t k then _ else _) _
  cases V:Vi t k with
  |true=>have:=Vh V;subst this;simp only[Ze];exact R
  |false=>exact HB
 ·show c<s.nx+1;rcases Y c h with h|h
  ·have:=d.ids c h;omega
  ·exact h.2
section
variable {B:Z1}{w:World}{g:Gh}{a:Act}{z:El Wm}{x0:Ks Hj}
noncomputable abbrev dpK(x0:Ks Hj)(e:Ex)(s:AS):Option (El Wm):=(Yq E1 Tryz.f37.results Hj ZeD [] e s).bind fun y=>bif GK (XK Hj 0) (Kc Hj x0 0).1 (WH (Kc Hj x0 0).2.1) s [] then Ua y.2.1 else Ub
theorem Zhg{E' :Ka}{r:Nat->Nat->Prop}(i:SR E1 B (Xh x0) w g r a){s' :AS}{w' :World}{g' :Gh}{k:Nat->Nat->Prop}{c:Act}(p:E'.nt=E1.nt)(f:E'.ks=[])(q:SR E' B s' w' g' k c)(o:Lk E1 w g a w' g' c){e:WQ}{y:Ja e.roots}(n:e.kept=[]/\e.kf=[]/\e.kv=[])(h:XR (Xh x0) [] e s' =Ua y):
 ∃d b,SR E1 B (Xi (Xh x0) [] e y) w' d b c/\Lk E1 w g a w' d c:=by
 obtain⟨l,v,m⟩:=n;have j:Z7 (Xh x0) e=[]:=by unfold Z7;rw[l];rfl
 obtain⟨d,b,s,t,u,_⟩:=Zb4 (E' :=E') (fz0:=[]) (fzN:=[]) i q p (Lk.env o f) (by rw[l];simp) (by rw[m];simp) (by rw[j];simp) (by rw[j];simp) (by rw[j];simp) (by simp) h;exact⟨d,b,s,t,u,by simp [E1,mkE]⟩
theorem ZrU{o:Nat->Nat->Prop}(c:SR E1 B (Xh x0) w g o a){s' :AS}{w' :World}{g' :Gh}{d:Nat->Nat->Prop}{b:Act}(j:SR E2 B s' w' g' d b)(i:Lk E1 w g a w' g' b){l:List (El Qn.Y91)}(h:XR (Xh x0) [] e8 s' =Ua l):
 Wv E1 B (Xh x0) w g a (dpK x0) (l.map fun z=>Vf Vj z) .ret b w' :=by
 obtain⟨s,p,q,m⟩:=Zhg (E' :=E2) c rfl rfl j i ⟨rfl,rfl,rfl⟩ h;obtain⟨f,e,r,n⟩:=Zui (k:=8) (id:=0) (lb:=Y94) (l:=l) q rfl rfl;refine⟨.ret,_,f,e,rfl,r,⟨m.trans n,rfl,by simp⟩,?_⟩;rfl
theorem ZrV{ow:Nat->Nat->Prop}(q:SR E1 B (Xh x0) w g ow a)(p:JJ Tryz.prog E2 B){l:List (El Y94)}(hz:z=l.map Ua)(m:Nat)(x:FX)(d:Jn Dd m x=Ua l){w1:World}{g1:Gh}{u:Nat->Nat->Prop}{C:Act}(hs:SR E1 B (Xi (Xh x0) [] eD x) w1 g1 u C)(hl:Lk E1 w g a w1 g1 C):
 (Code.block 6 (.loop dpL)).wp Tryz.prog (Exit.then (dpZ.wp Tryz.prog (Wv E1 B (Xh x0) w g a (dpK x0) z)) (Wv E1 B (Xh x0) w g a (dpK x0) z)) C w1:=by
 refine wp_block (Zcm (fun m U Y=>∃x V R,Jn Dd m x=Ua l/\SR E1 B (Xi (Xh x0) [] eD x) Y V R U/\Lk E1 w g a Y V U) (n:=m) ⟨x,g1,u,d,hs,hl⟩ ?_);rintro m Z w2 ⟨x,g2,a0,d,K,E⟩
 cases m with
 |zero=>cases d
 |succ m=>
 obtain⟨A,g3,S,O,L,F⟩:=ZsB (k:=9) (id:=0) (x:=x) K rfl rfl
 have M:SR E2 B (dpO (KI (WF A x))) w2 g3 S Z:=by
  refine SR.env (Zwb L _ _ (fun t=>?_) fun k o h=>?_) rfl
  ·show (bif Vi t 9 then _ else _)=_\/(bif Vi t 9 then _ else _)=_
   cases hb:Vi t 9 with
   |true=>have:=Vh hb;subst this;exact .inr rfl
   |false=>exact .inl rfl
  ·have h' :WH (inj fP (KI (WF A x)) 1).2.1 k=Ua o:=h;show Zp (ZY (Xi (Xh x0) [] eD x).H 0 Ub) (Wd (inj fP (KI (WF A x)) 1).2.1) k=Ua o;rw[Zdf _ _ _ (Zc8 _ _ _),h']
 cases j:Dd x with
 |none=>rw[Jn,j]at d;cases d
 |some r=>
 rw[Jn,j]at d;have J:=ZrR O j;rw[<-ZrQ]at J;unfold ZkF at J;refine wp_mono (Wz K9 dpL .leaf E2 (FX ⊕ List (El Qn.Y91)) _ _ _ ZiZ p J M) ?_;rintro e D T ⟨ex,s5,g5,a3,rfl,s,G,b⟩;have f:Lk E1 w g a T g5 D:=(E.trans F).trans (Lk.env G.lk rfl)
 cases ex with
 |ret=>simp at b
 |jump l=>simp at b
 |normal=>
  simp only[Va,ZB]at b;obtain⟨y,P,b⟩:=b
  cases r with
  |inr X=>cases b
  |inl x' =>
   cases b;have Q:XR (Xh x0) [] eD s5=Ua y:=P;obtain⟨W,v,r1,l1⟩:=Zhg (E' :=E2) q rfl rfl s f ⟨rfl,rfl,rfl⟩ Q
   exact⟨m,Nat.lt_succ_self m,y,W,v,d,r1,l1⟩
 |exit i=>
  match i,b with
  |6,b=>
   show Exit.inBlock 6 (Exit.then (dpZ.wp Tryz.prog (Wv E1 B (Xh x0) w g a (dpK x0) z)) (Wv E1 B (Xh x0) w g a (dpK x0) z)) (.exit 6) D T
   simp only[Exit.inBlock,if_true];show dpZ.wp Tryz.prog _ D T;refine wp_mono (Wz K9 dpZ .leaf E2 (FX ⊕ List (El Qn.Y91)) _ _ _ ZiZ p b s) ?_;rintro e a6 w6 ⟨ex,s6,W,v,rfl,N,I,c⟩
   cases ex with
   |normal=>simp at c
   |exit i=>simp at c
   |jump l=>simp at c
   |ret=>
    simp only[Va,ZB]at c;obtain⟨y,P,c⟩:=c
    cases r with
    |inl x' =>cases c
    |inr X=>
     cases c;simp only[ZB]at d;subst d;have:=ZrU q N (f.trans (Lk.env I.lk rfl)) P
     have e:(X.map (Kq (lb:=Y94) A)).map (fun z=>Vf Vj z)=z:=by rw[hz,List.map_map];rfl
     rw[e]at this;exact this
theorem ZrW{P:Nat->Nat->Prop}(k:Zap x0.1 x0.2.1 x0.2.2.1 x0.2.2.2.1=Ua z)(o:JJ Tryz.prog E1 B)(C:SR E1 B (Xh x0) w g P a):(KX Tryz.f37).wp Tryz.prog (Wv E1 B (Xh x0) w g a (dpK x0) z) a w:=by
 have x:JJ Tryz.prog E2 B:=⟨Zoy,o.amb,fun _=>ZnB (m:=M2) (by kernel_rfl) rfl,fun _ h e=>absurd (show Ub=Ua h from e) (by simp)⟩;unfold Zap at k;rw[Va]at k;obtain⟨r,u,k⟩:=k;rw[<-ZrS]at u;have u:Zhf x0=Ua r:=u;unfold Zhf at u;rw[ZrT];refine wp_seq (wp_mono (Wz K9 Zg9 .leaf E1 (FX ⊕ El Wm) _ _ _ Za8 o u C) ?_);rintro e W w1 ⟨ex,s1,g1,Q,rfl,D,q,c⟩
 cases ex with
 |ret=>simp at c
 |jump l=>simp at c
 |exit i=>simp at c
 |normal=>
 simp only at c;refine wp_seq (wp_mono (Wz K9 Zha .leaf E1 (FX ⊕ El Wm) _ _ _ Za8 o c D) ?_);rintro e X w2 ⟨ex,s2,g2,R,rfl,E,s,d⟩
 cases ex with
 |ret=>simp at d
 |jump l=>simp at d
 |exit i=>simp at d
 |normal=>
 simp only at d;refine wp_seq (wp_mono (Wz K9 Zhb .leaf E1 (FX ⊕ El Wm) _ _ _ Za8 o d E) ?_);rintro e Y w3 ⟨ex,s3,g3,S,rfl,F,t,f⟩
 cases ex with
 |ret=>simp at f
 |jump l=>simp at f
 |exit i=>simp at f
 |normal=>
 simp only at f;have p:=(q.lk.trans s.lk).trans t.lk;refine wp_seq (wp_mono (Wz K9 Zhc .leaf E1 (FX ⊕ El Wm) _ _ _ Za8 o f F) ?_);rintro e Z w4 ⟨ex,J,K,I,rfl,v,n,b⟩
 cases ex with
 |jump l=>simp at b
 |exit i=>simp at b
 |ret=>
  simp only[Va,ZB]at b;obtain⟨y,H,rfl⟩:=b;simp only[ZB]at k;refine⟨.ret,J,K,I,rfl,v,⟨p.trans n.lk,n.fz.trans (t.fz.trans (s.fz.trans q.fz)),by simp⟩,?_⟩;show (Yq E1 Tryz.f37.results Hj ZeD [] .ret J).bind _=_;rw[H]
  simp only[Za,GK,Ze,k]
 |normal=>
 simp only at b;refine wp_seq (wp_mono (Wz K9 Zhd dpH E1 (FX ⊕ El Wm) _ _ _ Za8 o b v) ?_);rintro e a5 w5 ⟨ex,s5,g5,T,rfl,G,A,j⟩
 cases ex with
 |ret=>simp at j
 |jump l=>simp at j
 |exit i=>simp at j
 |normal=>
 simp only[Va,ZB]at j;obtain⟨y,H,rfl⟩:=j;simp only[Va,ZB]at k;obtain⟨l,L,N⟩:=k;obtain⟨m,M⟩:=Ziv L;obtain⟨g6,U,V,O⟩:=Zhg (E' :=E1) C rfl rfl G ((p.trans n.lk).trans A.lk) ⟨rfl,rfl,rfl⟩ H;exact wp_seq (ZrV C x N.symm m y M V O)
end
noncomputable def ZkB:Tr.Spec:= {args:=Hj,res:=ZeD,fns:=[],α:=El Wm,f:=fun x=>Zap x.1 x.2.1 x.2.2.1 x.2.2.2.1,unp:=fun z=>(((),(),(),(),()),(z,()))}
theorem ZrE:ZS Tryz.prog 37 ZkB:=
 have key:Zba Tryz.prog 37 ZkB:=ZkM (E:=E1) (fn:=Tryz.f37) (body:=KX Tryz.f37) (pack:=fun y=>y.2.1) Za8 Zox (fun _ _ _ _ h e=>absurd (show Ub=Ua h from e) (by simp)) Tryz.func37 (by kernel_rfl) rfl rfl rfl (fun y=>rfl) (fun _=>ZnB (m:=M1) (by kernel_rfl) rfl) (fun x z q=>fun o p=>ZrW (x0:=x) q o p)
 {wf:=rfl
  fn:=⟨_,Tryz.func37,by kernel_rfl,by kernel_rfl⟩
  run:=fun w I b r x z c d f i j k=>(key w I b r x z c d f i j k).mono fun e t ⟨s,l,n,_⟩=>⟨s,l,n⟩ }
end Q
