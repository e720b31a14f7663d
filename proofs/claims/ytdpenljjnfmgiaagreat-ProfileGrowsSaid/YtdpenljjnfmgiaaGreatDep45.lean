/- profile's departing does what departF says. Conditions: none. -/
import Derived.Test.YtdpenljjnfmgiaaGreatDep45a
open List renaming length_map ->Vb,map ->Vc,getElem?_eq_getElem ->Vd,getElem_mem ->Ve,mem_append ->Vg,mem_singleton ->Vk
open Nat renaming eq_of_beq_eq_true ->Vh,beq ->Vi
open Option renaming bind_eq_some_iff ->Va,map ->Vf
open Prod renaming snd ->Vj
namespace Q
open Tr Go Go.Proofs
noncomputable def Dm(x:FX)(u:El Y94):List (El Y94):=(x.2.2.2.1[(u.1:Int).toNat]?).getD []
noncomputable def GA(x:FX):Option (FX ⊕ List (El Y94)):=
 match x.2.2.2.2.1 with
 |[]=>some (.inr x.2.2.2.2.2)
 |u::rest=>
  bif decide ((0:Int)<=(u.1:Int)) && (decide ((u.1:Int).toNat<x.2.2.2.1.length) &&decide ((Dm x u).length<=549755813888)) then
   bif (Dm x u).any (fun y=>decide (y=u)) then(F108 (x.1,x.2.1,x.2.2.1,x.2.2.2.1,rest,x.2.2.2.2.2) (some u)).bind fun z=>some (.inl z)
   else some (.inl (x.1,x.2.1,x.2.2.1,x.2.2.2.1,rest,x.2.2.2.2.2))
  else none
noncomputable def DL(n:El Zh)(q:El Zm)(ws:El HA)(d:El Y3):Option (El K4):=(ZdC n q ws d).bind fun r=>match r with
 |.inl x=>(run GA x).bind fun l=>some (l.map some)
 |.inr l=>some l
theorem ZpH{b:El Y94->Nat}{row:List (El Y94)}{u:El Y94}(h:∀y∈row,b y=b u->y=u)(t:row.length<=549755813888):Qn.F152 (row.map (Kk (lb:=Y94) b)) (some (b u,u))=some (row.any fun y=>decide (y=u)):=by
 unfold Qn.F152 Qn.F158
 suffices p:∃r:Unit ⊕ Int,_=some r/\((r=.inl ()/\ ∀y∈row,y≠u)\/ ∃i:Nat,r=.inr (i:Int)/\u∈row) by
  obtain⟨r,n,o⟩:=p;rcases o with ⟨rfl,m⟩|⟨i,rfl,m⟩
  ·refine WE (fun x=>x= -1) ⟨_,WE (fun x=>x=Sum.inl ()) ⟨_,n,rfl⟩ (fun x f=>by subst f;rfl),rfl⟩ ?_;rintro _ rfl;rw[Zv (by omega)];congr 1;symm;rw[List.any_eq_false];exact fun y d=>by simpa using m y d
  ·refine WE (fun x=>x=(i:Int)) ⟨_,WE (fun x=>x=Sum.inr (i:Int)) ⟨_,n,rfl⟩ (fun x f=>by subst f;rfl),rfl⟩ ?_;rintro _ rfl;rw[Zi (by omega)];congr 1;symm;rw[List.any_eq_true];exact⟨u,m,Zi rfl⟩
 refine Wa row.length _ (fun i (s:Int)=>s=(i:Int)/\ ∀y∈row.take i,y≠u) ?_ ?_ _ (by simp)
 ·rintro i _ k ⟨rfl,l⟩;have c:decide ((i:Int)<(((row.map (Kk (lb:=Y94) b)).length:Nat):Int))=true:=Zi (by rw[Vb];omega)
  have f:idx (row.map (Kk (lb:=Y94) b)) (i:Int)=some (some (b row[i],row[i])):=by rw[ZI (by rw[Vb];exact k)];simp [Kk]
  simp only[c,Zc,f,Za,Option.map_some];by_cases j:b u=b row[i]
  ·have q:=h _ (Ve k) j.symm;right;refine⟨.inr (i:Int),?_,.inr ⟨i,rfl,q▸Ve k⟩⟩;rw[Zi (by rw[j]),Zc]
  ·left;refine⟨((i+1:Nat):Int),?_,rfl,fun y d=>?_⟩
   ·rw[Zv (by simpa using j),Ze,Z1 (by omega) (by omega)];rfl
   ·rw[List.take_succ_eq_append_getElem k,Vg,Vk]at d;rcases d with d|rfl
    ·exact l y d
    ·exact fun e=>j (by rw[e])
 ·rintro _ ⟨rfl,l⟩;rw[List.take_length]at l;have c:decide ((row.length:Int)<(((row.map (Kk (lb:=Y94) b)).length:Nat):Int))=false:=Zv (by rw[Vb];omega);exact⟨.inl (),by simp only[c,Ze],.inl ⟨rfl,l⟩⟩
theorem Zt2{c:El Y94->Nat}{x f:FX}(h:XI c x)(d:∀y∈Jz f,y∈Jz x):XI c f:=fun y j i b e=>h y (d y j) i (d i b) e
theorem Zp3{x:FX}{c:El Y94->Nat}(H:XI c x){r:FX ⊕ List (El Y94)}(h:GA x=some r):Zf8 (Kw (Wo c x))=some (match r with|.inl J=>.inl J|.inr l=>.inr (l.map (Kk (lb:=Y94) c))):=by
 obtain⟨n,q,lk,b,op,fd⟩:=x;unfold GA at h;simp only at h;unfold Zf8
 cases op with
 |nil=>
  simp only[Option.some.injEq]at h;subst h
  rfl
 |cons u rest=>
  simp only at h
  cases t:decide ((0:Int)<=(u.1:Int)) && (decide ((u.1:Int).toNat<b.length) &&decide ((Dm (n,q,lk,b,u::rest,fd) u).length<=549755813888)) with
  |false=>rw[t]at h;cases h
  |true=>
  rw[t,Zc]at h;simp only[Bool.and_eq_true,WC]at t;obtain⟨K,s,c3⟩:=t
  have o:Dm (n,q,lk,b,u::rest,fd) u=b[(u.1:Int).toNat]:=by unfold Dm;simp only[Vd s,Option.getD_some]
  rw[o]at h c3
  have p:∀y∈Jz (tn:=Zh) (tq:=Zm) (lt:=Zx) (lb:=Y94) (n,q,lk,b,rest,fd),y∈Jz (tn:=Zh) (tq:=Zm) (lt:=Zx) (lb:=Y94) (n,q,lk,b,u::rest,fd):=by
   intro y d;simp only[Jz,Vg,List.mem_cons]at d⊢;rcases d with (d|d) |d
   ·exact .inl (.inl d)
   ·exact .inl (.inr (.inr d))
   ·exact .inr d
  have F:=untag_eq (Zt2 H p)
  have j:Qn.F152 ((b[(u.1:Int).toNat]).map (Kk (lb:=Y94) c)) (some (c u,u))=some ((b[(u.1:Int).toNat]).any fun y=>decide (y=u)):=
   ZpH (fun y d e=>H y (by simp only[Jz,Vg,List.mem_flatten];exact .inl (.inl ⟨_,Ve s,d⟩)) u (by simp [Jz]) e) c3
  have m:(Vc (Kk (lb:=Y94) c) (u::rest)).length=rest.length+1:=by simp
  have D:sliceB (rest.length+1) (rest.length+1) (some (1:Int)) none=some (1,rest.length+1):=by unfold sliceB;simp;omega
  have k:ZA (0:Int) (rest.length+1)=some 0:=KT (i:=0) (by omega)
  have v:ZA (u.1:Int) (b.map fun r:List (El Y94)=>r.map (Kk (lb:=Y94) c)).length=some (u.1:Int).toNat:=by unfold ZA;rw[Vb,Zr (by omega)]
  have A:(b.map fun r:List (El Y94)=>r.map (Kk (lb:=Y94) c))[(u.1:Int).toNat]? =some ((b[(u.1:Int).toNat]).map (Kk (lb:=Y94) c)):=by rw[List.getElem?_map,Vd s];rfl
  have C:idx (b.map fun r:List (El Y94)=>r.map (Kk (lb:=Y94) c)) (((u.1:Int).toNat:Nat):Int)=some ((b[(u.1:Int).toNat]).map (Kk (lb:=Y94) c)):=by rw[ZI (by rw[Vb];exact s)];simp
  simp only[Kw,Wo,m];rw[Zi (by omega),Zc,k];simp only[Za,List.map_cons,List.getElem?_cons_zero,Kk,D,v,A,C,j]
  have E:List.take (rest.length+1 - 1) (List.drop 1 (some (c u,u)::Vc (Kk (lb:=Y94) c) rest))=Vc (Kk (lb:=Y94) c) rest:=by rw[List.drop_one,List.tail_cons,Nat.add_sub_cancel];exact List.take_of_length_le (by simp)
  have f:Tr.untag (tn:=Zh) (tq:=Zm) (lt:=Zx) (lb:=Y94) (n,q,lk,Vc (fun r:List (El Y94)=>Vc (Kk (lb:=Y94) c) r) b,List.take (rest.length+1 - 1) (List.drop 1 (some (c u,u)::Vc (Kk (lb:=Y94) c) rest)),Vc (Kk (lb:=Y94) c) fd)=some (n,q,lk,b,rest,fd):=by rw[E];exact F
  cases G:(b[(u.1:Int).toNat]).any fun y=>decide (y=u) with
  |true=>
   rw[G,Zc,Va]at h;obtain⟨z,I,h⟩:=h;rw[Option.some.injEq]at h;subst h;simp only[Zc];refine WE (fun y=>y=(n,q,lk,b,rest,fd)) ⟨_,f,rfl⟩ ?_;rintro _ rfl;refine WE (fun y=>y=z) ⟨_,I,rfl⟩ ?_;rintro _ rfl
   rfl
  |false=>
   rw[G,Ze,Option.some.injEq]at h;subst h;simp only[Ze];refine WE (fun y=>y=(n,q,lk,b,rest,fd)) ⟨_,WE (fun y=>y=(n,q,lk,b,rest,fd)) ⟨_,f,rfl⟩ (by rintro _ rfl;rfl),rfl⟩ ?_;rintro _ rfl;rfl
theorem SR.env{E E' :Z3}{B:ZS}{s:AS}{w:World}{g:Gh}{b:Nat->Nat->Prop}{a:Act}(h:SR E B s w g b a)(c:E'.nt=E.nt):SR E' B s w g b a:=⟨h.rh,h.fr,h.nt.trans c.symm,h.df,h.ids,h.fz⟩
theorem Lk.env{E E' :Z3}{w w' :World}{g g' :Gh}{a b:Act}(h:Lk E w g a w' g' b)(c:E'.ks=[]):Lk E' w g a w' g' b:=⟨h.le,h.ag,by rw[c];simp⟩
theorem ZtW{E:Z3}{B:ZS}{s:AS}{w:World}{g:Gh}{m:Nat->Nat->Prop}{a:Act}(c:SR E B s w g m a)(d:Nat->AV)(H' :AH)(hF:∀t,d t=.junk\/d t=s.F t)(i:∀k o,H' k=some o->s.H k=some o):SR E B ⟨d,H',s.nx,[]⟩ w g m a where
 rh:=by
  have f:∀k,H' k≠none->s.H k≠none:=by
   intro k h
   cases j:H' k with
   |none=>exact absurd j h
   |some o=>rw[i k o j];simp
  exact {objs:=fun k o h=>c.rh.objs k o (i k o h),dist:=fun k l b e n=>c.rh.dist k l b (f k e) (f l n),sep:=fun k b e=>c.rh.sep k b (f k e),ilt:=c.rh.ilt,inew:=c.rh.inew,os:=c.rh.os,tape:=c.rh.tape,output:=c.rh.output,size:=c.rh.size,kept:=c.rh.kept}
 fr:=fun t=>by
  rcases hF t with h|h
  ·show VR w g (d t) _;rw[h];exact Hb
  ·show VR w g (d t) _;rw[h];exact c.fr t
 nt:=c.nt
 df:=c.df
 ids:=c.ids
 fz:=fun id h=>by simp at h
theorem ZjG{w:World}{I:Nat->Prop}{lb:Ty} :∀{l:List (El (.pn lb))}{css:List (List Value)},Fa (Rd w I (.pn lb)) l css->Fa (Rd w I (.pt lb)) (l.map fun z=>Vf Vj z) css
 |[],[],_=>trivial
 |_::_,_::_,⟨b,c⟩=>⟨Zlf b,ZjG c⟩
theorem Zsj{E:Z3}{B:ZS}{s:AS}{w:World}{g:Gh}{Q:Nat->Nat->Prop}{a:Act}{lb:Ty}{l:List (El (.pn lb))}{k id:Nat}(d:SR E B s w g Q a)(D:s.F k=.vw id)(P:s.H id=some (.vec (.pn lb) l)):
 ∃g' j,SR E B ⟨fun t=>bif Vi t k then .vw s.nx else .junk,Zn (ZO s.H id none) (KX [(s.nx,.vec (.pt lb) (l.map fun z=>Vf Vj z))]),s.nx+1,[]⟩ w g' j a/\Lk E w g a w g' a:=by
 obtain⟨hK,X,U⟩:=d.rh.objs id _ P;have v:s.H id≠none:=by rw[P];simp
 have O:=d.fr k;rw[D]at O;obtain⟨u,C⟩:=O;simp only[CV]at u;obtain⟨_,M,_⟩:=u
 have G:∃K:List Nat,PV w g.I (.own (.pt lb) false) (l.map fun z=>Vf Vj z) K (a.tmps.getD k undef)/\WH B (ZO s.H id none) w g Q K:=by
  have N:Z8 (a.tmps.getD k undef)=false:=by
   rcases C with h|h
   ·cases h
   ·exact h
  rcases U with ⟨rfl,_,i⟩|⟨b,cap,cs,e,A,_,x,i,W,m,y,S,T⟩
  ·refine⟨[],⟨.inl ⟨rfl,rfl,by rw[M,i]⟩,.inr N⟩,.nil,by simp⟩
  ·refine⟨[b],⟨.inr ⟨b,cap,cs,e,A,rfl,by rw[M,i,Vb],W,by rw[Vb];exact m,y,ZjG S,T⟩,.inr N⟩,by simp,fun L o=>?_⟩;rw[Vk]at o;subst o;obtain⟨p,q,r⟩:=d.rh.sep id L v x;exact⟨p,q,r,fun c m y=>(Yh m).1 (d.rh.dist c id L (Yh m).2 v y x)⟩
 obtain⟨K,J,f⟩:=G;obtain⟨g',j,Z,i1,r1,R,Y,o1⟩:=ZdZ (n:=s.nx) (d.rh.drop id) J f (fun c m y D=>absurd (d.ids c D) (by omega));refine⟨g',j,⟨r1,fun t=>?_,d.nt,d.df,fun c h=>?_,by simp⟩,Z,fun _ _=>rfl,by simp⟩
 ·show VR w g' (bif Vi t k then _ else _) _
  cases V:Vi t k with
  |true=>have:=Vh V;subst this;simp only[Zc];exact R
  |false=>exact Hb
 ·show c<s.nx+1;rcases Y c h with h|h
  ·have:=d.ids c h;omega
  ·exact h.2
section
variable {B:ZS}{w:World}{g:Gh}{a:Act}{z:El K4}{x0:Kn YS}
noncomputable abbrev dpK(x0:Kn YS)(e:Ex)(s:AS):Option (El K4):=(X3 E1 Tryz.f37.results YS ZdB [] e s).bind fun y=>bif H3 (Xq YS 0) (Z4 YS x0 0).1 (Ws (Z4 YS x0 0).2.1) s [] then some y.2.1 else none
theorem Zga{E' :Z3}{r:Nat->Nat->Prop}(i:SR E1 B (JX x0) w g r a){s' :AS}{w' :World}{g' :Gh}{k:Nat->Nat->Prop}{c:Act}(p:E'.nt=E1.nt)(f:E'.ks=[])(q:SR E' B s' w' g' k c)(o:Lk E1 w g a w' g' c){e:WA}{y:WV e.roots}(n:e.kept=[]/\e.kf=[]/\e.kv=[])(h:Xw (JX x0) [] e s' =some y):
 ∃d b,SR E1 B (JY (JX x0) [] e y) w' d b c/\Lk E1 w g a w' d c:=by
 obtain⟨l,v,m⟩:=n;have j:ZZ (JX x0) e=[]:=by unfold ZZ;rw[l];rfl
 obtain⟨d,b,s,t,u,_⟩:=Za0 (E' :=E') (fz0:=[]) (fzN:=[]) i q p (Lk.env o f) (by rw[l];simp) (by rw[m];simp) (by rw[j];simp) (by rw[j];simp) (by rw[j];simp) (by simp) h;exact⟨d,b,s,t,u,by simp [E1,mkE]⟩
theorem Zp6{o:Nat->Nat->Prop}(c:SR E1 B (JX x0) w g o a){s' :AS}{w' :World}{g' :Gh}{d:Nat->Nat->Prop}{b:Act}(j:SR E2 B s' w' g' d b)(i:Lk E1 w g a w' g' b){l:List (El Qn.Y91)}(h:Xw (JX x0) [] e8 s' =some l):
 Wd E1 B (JX x0) w g a (dpK x0) (l.map fun z=>Vf Vj z) .ret b w' :=by
 obtain⟨s,p,q,m⟩:=Zga (E' :=E2) c rfl rfl j i ⟨rfl,rfl,rfl⟩ h;obtain⟨f,e,r,n⟩:=Zsj (k:=8) (id:=0) (lb:=Y94) (l:=l) q rfl rfl;refine⟨.ret,_,f,e,rfl,r,⟨m.trans n,rfl,by simp⟩,?_⟩;rfl
theorem Zp7{ow:Nat->Nat->Prop}(q:SR E1 B (JX x0) w g ow a)(p:Jv Tryz.prog E2 B){l:List (El Y94)}(hz:z=l.map some)(m:Nat)(x:FX)(d:W7 GA m x=some l){w1:World}{g1:Gh}{u:Nat->Nat->Prop}{C:Act}(hs:SR E1 B (JY (JX x0) [] eD x) w1 g1 u C)(hl:Lk E1 w g a w1 g1 C):
 (Code.block 6 (.loop dpL)).wp Tryz.prog (Exit.then (dpZ.wp Tryz.prog (Wd E1 B (JX x0) w g a (dpK x0) z)) (Wd E1 B (JX x0) w g a (dpK x0) z)) C w1:=by
 refine wp_block (Zbl (fun m U Y=>∃x V R,W7 GA m x=some l/\SR E1 B (JY (JX x0) [] eD x) Y V R U/\Lk E1 w g a Y V U) (n:=m) ⟨x,g1,u,d,hs,hl⟩ ?_);rintro m Z w2 ⟨x,g2,a0,d,K,E⟩
 cases m with
 |zero=>cases d
 |succ m=>
 obtain⟨A,g3,S,O,L,F⟩:=ZqM (k:=9) (id:=0) (x:=x) K rfl rfl
 have M:SR E2 B (dpO (Kw (Wo A x))) w2 g3 S Z:=by
  refine SR.env (ZtW L _ _ (fun t=>?_) fun k o h=>?_) rfl
  ·show (bif Vi t 9 then _ else _)=_\/(bif Vi t 9 then _ else _)=_
   cases hb:Vi t 9 with
   |true=>have:=Vh hb;subst this;exact .inr rfl
   |false=>exact .inl rfl
  ·have h' :Ws (inj fP (Kw (Wo A x)) 1).2.1 k=some o:=h;show Zn (ZO (JY (JX x0) [] eD x).H 0 none) (KX (inj fP (Kw (Wo A x)) 1).2.1) k=some o;rw[Zcb _ _ _ (Zb5 _ _ _),h']
 cases j:GA x with
 |none=>rw[W7,j]at d;cases d
 |some r=>
 rw[W7,j]at d;have J:=Zp3 O j;rw[<-Zp2]at J;unfold Zjq at J;refine wp_mono (Wh KZ dpL .leaf E2 (FX ⊕ List (El Qn.Y91)) _ _ _ ZhU p J M) ?_;rintro e D T ⟨ex,s5,g5,a3,rfl,s,G,b⟩;have f:Lk E1 w g a T g5 D:=(E.trans F).trans (Lk.env G.lk rfl)
 cases ex with
 |ret=>simp at b
 |jump l=>simp at b
 |normal=>
  simp only[Va,Option.some.injEq]at b;obtain⟨y,P,b⟩:=b
  cases r with
  |inr X=>cases b
  |inl x' =>
   cases b;have Q:Xw (JX x0) [] eD s5=some y:=P;obtain⟨W,v,r1,l1⟩:=Zga (E' :=E2) q rfl rfl s f ⟨rfl,rfl,rfl⟩ Q
   exact⟨m,Nat.lt_succ_self m,y,W,v,d,r1,l1⟩
 |exit i=>
  match i,b with
  |6,b=>
   show Exit.inBlock 6 (Exit.then (dpZ.wp Tryz.prog (Wd E1 B (JX x0) w g a (dpK x0) z)) (Wd E1 B (JX x0) w g a (dpK x0) z)) (.exit 6) D T
   simp only[Exit.inBlock,if_true];show dpZ.wp Tryz.prog _ D T;refine wp_mono (Wh KZ dpZ .leaf E2 (FX ⊕ List (El Qn.Y91)) _ _ _ ZhU p b s) ?_;rintro e a6 w6 ⟨ex,s6,W,v,rfl,N,I,c⟩
   cases ex with
   |normal=>simp at c
   |exit i=>simp at c
   |jump l=>simp at c
   |ret=>
    simp only[Va,Option.some.injEq]at c;obtain⟨y,P,c⟩:=c
    cases r with
    |inl x' =>cases c
    |inr X=>
     cases c;simp only[Option.some.injEq]at d;subst d;have:=Zp6 q N (f.trans (Lk.env I.lk rfl)) P
     have e:(X.map (Kk (lb:=Y94) A)).map (fun z=>Vf Vj z)=z:=by rw[hz,List.map_map];rfl
     rw[e]at this;exact this
theorem Zp8{P:Nat->Nat->Prop}(k:DL x0.1 x0.2.1 x0.2.2.1 x0.2.2.2.1=some z)(o:Jv Tryz.prog E1 B)(C:SR E1 B (JX x0) w g P a):(KM Tryz.f37).wp Tryz.prog (Wd E1 B (JX x0) w g a (dpK x0) z) a w:=by
 have x:Jv Tryz.prog E2 B:=⟨ZmS,o.amb,fun _=>Zl4 (m:=M2) (by kernel_rfl) rfl,fun _ h e=>absurd (show none=some h from e) (by simp)⟩;unfold DL at k;rw[Va]at k;obtain⟨r,u,k⟩:=k;rw[<-Zp4]at u;have u:Zf9 x0=some r:=u;unfold Zf9 at u;rw[Zp5];refine wp_seq (wp_mono (Wh KZ Zf3 .leaf E1 (FX ⊕ El K4) _ _ _ Zab o u C) ?_);rintro e W w1 ⟨ex,s1,g1,Q,rfl,D,q,c⟩
 cases ex with
 |ret=>simp at c
 |jump l=>simp at c
 |exit i=>simp at c
 |normal=>
 simp only at c;refine wp_seq (wp_mono (Wh KZ Zf4 .leaf E1 (FX ⊕ El K4) _ _ _ Zab o c D) ?_);rintro e X w2 ⟨ex,s2,g2,R,rfl,E,s,d⟩
 cases ex with
 |ret=>simp at d
 |jump l=>simp at d
 |exit i=>simp at d
 |normal=>
 simp only at d;refine wp_seq (wp_mono (Wh KZ Zf5 .leaf E1 (FX ⊕ El K4) _ _ _ Zab o d E) ?_);rintro e Y w3 ⟨ex,s3,g3,S,rfl,F,t,f⟩
 cases ex with
 |ret=>simp at f
 |jump l=>simp at f
 |exit i=>simp at f
 |normal=>
 simp only at f;have p:=(q.lk.trans s.lk).trans t.lk;refine wp_seq (wp_mono (Wh KZ Zf6 .leaf E1 (FX ⊕ El K4) _ _ _ Zab o f F) ?_);rintro e Z w4 ⟨ex,J,K,I,rfl,v,n,b⟩
 cases ex with
 |jump l=>simp at b
 |exit i=>simp at b
 |ret=>
  simp only[Va,Option.some.injEq]at b;obtain⟨y,H,rfl⟩:=b;simp only[Option.some.injEq]at k;refine⟨.ret,J,K,I,rfl,v,⟨p.trans n.lk,n.fz.trans (t.fz.trans (s.fz.trans q.fz)),by simp⟩,?_⟩;show (X3 E1 Tryz.f37.results YS ZdB [] .ret J).bind _=_;rw[H]
  simp only[Za,H3,Zc,k]
 |normal=>
 simp only at b;refine wp_seq (wp_mono (Wh KZ Zf7 dpH E1 (FX ⊕ El K4) _ _ _ Zab o b v) ?_);rintro e a5 w5 ⟨ex,s5,g5,T,rfl,G,A,j⟩
 cases ex with
 |ret=>simp at j
 |jump l=>simp at j
 |exit i=>simp at j
 |normal=>
 simp only[Va,Option.some.injEq]at j;obtain⟨y,H,rfl⟩:=j;simp only[Va,Option.some.injEq]at k;obtain⟨l,L,N⟩:=k;obtain⟨m,M⟩:=Zhp L;obtain⟨g6,U,V,O⟩:=Zga (E' :=E1) C rfl rfl G ((p.trans n.lk).trans A.lk) ⟨rfl,rfl,rfl⟩ H;exact wp_seq (Zp7 C x N.symm m y M V O)
end
noncomputable def Zjm:Tr.Spec:= {args:=YS,res:=ZdB,fns:=[],α:=El K4,f:=fun x=>DL x.1 x.2.1 x.2.2.1 x.2.2.2.1,unp:=fun z=>(((),(),(),(),()),(z,()))}
theorem ZpQ:ZL Tryz.prog 37 Zjm:=
 have key:Zac Tryz.prog 37 Zjm:=Zjx (E:=E1) (fn:=Tryz.f37) (body:=KM Tryz.f37) (pack:=fun y=>y.2.1) Zab ZmR (fun _ _ _ _ h e=>absurd (show none=some h from e) (by simp)) Tryz.func37 (by kernel_rfl) rfl rfl rfl (fun y=>rfl) (fun _=>Zl4 (m:=M1) (by kernel_rfl) rfl) (fun x z q=>fun o p=>Zp8 (x0:=x) q o p)
 {wf:=rfl
  fn:=⟨_,Tryz.func37,by kernel_rfl,by kernel_rfl⟩
  run:=fun w I b r x z c d f i j k=>(key w I b r x z c d f i j k).mono fun e t ⟨s,l,n,_⟩=>⟨s,l,n⟩ }
end Q
