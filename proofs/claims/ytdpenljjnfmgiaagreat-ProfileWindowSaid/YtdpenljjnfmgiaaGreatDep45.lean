/- profile's departing does what departF says. Conditions: none. -/
import Derived.Test.YtdpenljjnfmgiaaGreatDep45a
open List renaming length_map ->Vb,map ->Vc,getElem?_eq_getElem ->Vd,getElem_mem ->Ve,mem_append ->Vg,mem_singleton ->Vk
open Nat renaming eq_of_beq_eq_true ->Vh,beq ->Vi
open Option renaming bind_eq_some_iff ->Va,map ->Vf
open Prod renaming snd ->Vj
open Option renaming some ->Ua,none ->Ub
open Bool renaming false ->Ud
open Decidable renaming decide ->Ue
namespace Q
open Tr Go Go.Proofs
noncomputable def Zad(x:FX)(u:El Y94):List (El Y94):=(x.2.2.2.1[u.1.toNat]?).getD []
noncomputable def Re(x:FX):Option (FX ⊕ List (El Y94)):=
 match x.2.2.2.2.1 with
 |[]=>Ua (.inr x.2.2.2.2.2)
 |u::rest=>
  bif Ue ((0:Int)<=u.1)&&(Ue (u.1.toNat<x.2.2.2.1.length)&&Ue ((Zad x u).length<=549755813888)) then
   bif (Zad x u).any (λy=>Ue (y=u)) then(F107 (x.1,x.2.1,x.2.2.1,x.2.2.2.1,rest,x.2.2.2.2.2) (Ua u)).bind λz=>Ua (.inl z)
   else Ua (.inl (x.1,x.2.1,x.2.2.1,x.2.2.2.1,rest,x.2.2.2.2.2))
  else Ub
noncomputable def Zbw(n:El Zd)(q:El Zk)(ws:El GR)(d:El Y3):Option (El Wq):=(ZfN n q ws d).bind λr=>match r with
 |.inl x=>(run Re x).bind λl=>Ua (l.map Ua)
 |.inr l=>Ua l
theorem Zue{b}{row:List (El Y94)}{u}(h:∀y∈row,b y=b u->y=u)(t:row.length<=549755813888):Qn.F190 (row.map (KA (lb:=Y94) b)) (Ua (b u,u))=Ua (row.any λy=>Ue (y=u)):=by
 suffices p:∃r:Unit ⊕ Int,_=Ua r/\((r=.inl ()/\∀y∈row,y≠u)\/∃i:Nat,r=.inr i/\u∈row) by
  obtain⟨r,n,o⟩:=p;obtain⟨rfl,m⟩|⟨i,rfl,m⟩:=o;.refine KK (λx=>x= -1) ⟨_,KK (λx=>x=Sum.inl ()) ⟨_,n,rfl⟩ (λx f=>by subst f;rfl),rfl⟩ ?_;rintro _ rfl;rw[Zm (by omega)];congr 1;symm;rw[List.any_eq_false];exact λy d=>by simpa using m y d
  refine KK (λx=>x=(i:Int)) ⟨_,KK (λx=>x=Sum.inr (i:Int)) ⟨_,n,rfl⟩ (λx f=>by subst f;rfl),rfl⟩ ?_;rintro _ rfl;rw[Zi (by omega)];congr 1;symm;rw[List.any_eq_true];exact⟨u,m,Zi rfl⟩
 refine Kg row.length _ (λi s=>s=(i:Int)/\∀y∈row.take i,y≠u) ?_ ?_ _ (by simp)
 .rintro i _ k ⟨rfl,l⟩;have c:Ue (i<(((row.map (KA (lb:=Y94) b)).length):Int))=true:=Zi (by rw[Vb];omega);have f:idx (row.map (KA b)) i=Ua (Ua (b row[i],row[i])):=by rw[ZC (by rw[Vb];exact k)];simp[KA]
  simp only[c,Zf,f,Za,Option.map_some];by_cases j:b u=b row[i];.have q:=h _ (Ve k) j.symm;right;refine⟨.inr i,?_,.inr ⟨i,rfl,q▸Ve k⟩⟩;rw[Zi (by rw[j]),Zf]
  left;refine⟨((i+1:Nat)),?_,rfl,λy d=>?_⟩;.rw[Zm (by simpa using j),Ze,ZB (by omega) (by omega)];rfl
  rw[List.take_succ_eq_append_getElem k,Vg,Vk]at d;obtain d|rfl:=d;.exact l y d
  exact λe=>j (by rw[e])
 rintro _ ⟨rfl,l⟩;rw[List.take_length]at l;have c:Ue (row.length<(((row.map (KA (lb:=Y94) b)).length:Nat)))=false:=Zm (by rw[Vb];omega);exact⟨.inl (),by simp[c],.inl ⟨rfl,l⟩⟩
theorem Zzs{c}{x f:FX}(h:Yl c x)(d:∀y∈JS f,y∈JS x):Yl c f:=λy j i b e=>h y (d y j) i (d i b) e
theorem ZuI{x:FX}{c}(I:Yl c x){r}(h:Re x=Ua r):ZiP (Kn (WG c x))=Ua (match r with|.inl K=>.inl K|.inr l=>.inr (l.map (KA (lb:=Y94) c))):=by
 have⟨n,q,lk,b,op,fd⟩:=x;unfold Re at h;simp at h;unfold ZiP
 cases op with
 |nil=>
  simp[Z4]at h;subst h
  rfl
 |cons u rest=>
  simp at h
  cases t:Ue ((0:Int)<=u.1)&&(Ue (u.1.toNat<b.length)&&Ue ((Zad (n,q,lk,b,u::rest,fd) u).length<=549755813888)) with
  |false=>rw[t]at h;cases h
  |true=>
  rw[t,Zf]at h;simp[Bool.and_eq_true,KJ]at t;have⟨L,s,c3⟩:=t;have o:Zad (n,q,lk,b,u::rest,fd) u=b[u.1.toNat]:=by unfold Zad;simp[Vd s,Option.getD_some]
  rw[o]at h c3;have p:∀y∈JS (tn:=Zd) (tq:=Zk) (lt:=ZG) (lb:=Y94) (n,q,lk,b,rest,fd),y∈JS (tn:=Zd) (tq:=Zk) (lt:=ZG) (lb:=Y94) (n,q,lk,b,u::rest,fd):=by
   intro y d;simp only[JS,Vg,List.mem_cons]at d⊢;rcases d with (d|d) |d;.exact .inl (.inl d)
   .exact .inl (.inr (.inr d))
   exact .inr d
  have F:=untag_eq (Zzs I p);have j:Qn.F190 ((b[u.1.toNat]).map (KA (lb:=Y94) c)) (Ua (c u,u))=Ua ((b[u.1.toNat]).any λy=>Ue (y=u)):=
   Zue (λy d e=>I y (by simp only[JS,Vg,List.mem_flatten];exact .inl (.inl ⟨_,Ve s,d⟩)) u (by simp[JS]) e) c3
  have m:(Vc (KA (lb:=Y94) c) (u::rest)).length=rest.length+1:=by simp
  have D:sliceB (rest.length+1) (rest.length+1) (Ua 1) Ub=Ua (1,rest.length+1):=by unfold sliceB;simp;omega
  have k:Zo 0 (rest.length+1)=Ua 0:=Kz (i:=0) (by omega);have v:Zo u.1 (b.map λr=>r.map (KA (lb:=Y94) c)).length=Ua u.1.toNat:=by unfold Zo;rw[Vb,Zn (by omega)]
  have A:(b.map λr=>r.map (KA (lb:=Y94) c))[u.1.toNat]? =Ua ((b[u.1.toNat]).map (KA (lb:=Y94) c)):=by rw[List.getElem?_map,Vd s];rfl
  have C:idx (b.map λr=>r.map (KA (lb:=Y94) c)) (((u.1:Int).toNat:Nat))=Ua ((b[u.1.toNat]).map (KA (lb:=Y94) c)):=by rw[ZC (by rw[Vb];exact s)];simp
  simp only[Kn,WG,m];rw[Zi (by omega),Zf,k];simp only[Za,List.map_cons,List.getElem?_cons_zero,KA,D,v,A,C,j];have E:List.take (rest.length+1 - 1) (List.drop 1 (Ua (c u,u)::Vc (KA (lb:=Y94) c) rest))=Vc (KA (lb:=Y94) c) rest:=by exact List.take_of_length_le (by simp)
  have f:Tr.untag (tn:=Zd) (tq:=Zk) (lt:=ZG) (lb:=Y94) (n,q,lk,Vc (λr=>Vc (KA (lb:=Y94) c) r) b,List.take (rest.length+1 - 1) (List.drop 1 (Ua (c u,u)::Vc (KA (lb:=Y94) c) rest)),Vc (KA (lb:=Y94) c) fd)=Ua (n,q,lk,b,rest,fd):=by rw[E];exact F
  cases H:(b[u.1.toNat]).any λy=>Ue (y=u) with
  |true=>
   rw[H,Zf,Va]at h;have⟨z,J,h⟩:=h;rw[Z4]at h;subst h;simp[Zf];refine KK (λy=>y=(n,q,lk,b,rest,fd)) ⟨_,f,rfl⟩ ?_;rintro _ rfl;refine KK (λy=>y=z) ⟨_,J,rfl⟩ ?_;rintro _ rfl
   rfl
  |false=>
   rw[H,Ze,Z4]at h;subst h;simp only[Ze];refine KK (λy=>y=(n,q,lk,b,rest,fd)) ⟨_,KK (λy=>y=(n,q,lk,b,rest,fd)) ⟨_,f,rfl⟩ (by rintro _ rfl;rfl),rfl⟩ ?_;rintro _ rfl;rfl
theorem SR.env{E E' B s w g b a}(h:SR E B s w g b a)(c:E'.nt=E.nt):SR E' B s w g b a:=⟨h.rh,h.fr,h.nt.trans c.symm,h.df,h.ids,h.fz⟩
theorem Lk.env{E E' w w' g c a b}(h:Lk E w g a w' c b)(d:E'.ks=[]):Lk E' w g a w' c b:=⟨h.le,h.ag,by rw[d];simp⟩
theorem Zzm{E B s w g n a}(c:SR E B s w g n a) d e(hF:∀t,d t=.junk\/d t=s.F t)(j:∀k o,e k=Ua o->s.H k=Ua o):SR E B ⟨d,e,s.nx,[]⟩ w g n a where
 rh:=by
  have i:∀k,e k≠Ub->s.H k≠none:=by
   intro k h
   cases l:e k with
   |none=>exact absurd l h
   |some o=>rw[j k o l];simp
  exact {objs:=λk o h=>c.rh.objs k o (j k o h),dist:=λk m b f p=>c.rh.dist k m b (i k f) (i m p),sep:=λk b f=>c.rh.sep k b (i k f),ilt:=c.rh.ilt,inew:=c.rh.inew,os:=c.rh.os,tape:=c.rh.tape,output:=c.rh.output,size:=c.rh.size,kept:=c.rh.kept}
 fr:=λt=>by
  obtain h|h:=hF t;.show VR w g (d t) _;rw[h];exact Gi
  show VR w g (d t) _;rw[h];exact c.fr t
 nt:=c.nt
 df:=c.df
 ids:=c.ids
 fz:=λid h=>by simp at h
theorem Zm5{w I lb}:∀{l}{css},Fa (Rd w I (.pn lb)) l css->Fa (Rd w I (.pt lb)) (l.map λz=>Vf Vj z) css
 |[],[],_=>trivial
 |_::_,_::_,⟨b,c⟩=>⟨Zo7 b,Zm5 c⟩
theorem Zxo{E B s w g S a lb l k id}(d:SR E B s w g S a)(J:s.F k=.vw id)(R:s.H id=Ua (.vec (.pn lb) l)):
 ∃m j,SR E B ⟨λt=>bif Vi t k then .vw s.nx else .junk,Zu (ZX s.H id Ub) (Wl [(s.nx,.vec (.pt lb) (l.map λz=>Vf Vj z))]),s.nx+1,[]⟩ w m j a/\Lk E w g a w m a:=by
 have⟨hK,a0,hO⟩:=d.rh.objs id _ R;have v:s.H id≠none:=by rw[R];simp
 have Q:=d.fr k;rw[J]at Q;have⟨D,C⟩:=Q;have⟨_,O,_⟩:=D;have K:∃M,PV w g.I (.own (.pt lb) Ud) (l.map λz=>Vf Vj z) M (a.tmps.getD k undef)/\W3 B (ZX s.H id Ub) w g S M:=by
  have P:Kb (a.tmps.getD k undef)=false:=by
   obtain h|h:=C;.cases h
   exact h
  obtain⟨rfl,_,i⟩|⟨b,cap,cs,e,A,_,x,i,hh,o,y,U,W⟩:=hO;.refine⟨[],⟨.inl ⟨rfl,rfl,by rw[O,i]⟩,.inr P⟩,.nil,by simp⟩
  refine⟨[b],⟨.inr ⟨b,cap,cs,e,A,rfl,by rw[O,i,Vb],hh,by rw[Vb];exact o,y,Zm5 U,W⟩,.inr P⟩,by simp,λN u=>?_⟩;rw[Vk]at u;subst u;have⟨p,q,r⟩:=d.rh.sep id N v x;exact⟨p,q,r,λc o y=>(YZ o).1 (d.rh.dist c id N (YZ o).2 v y x)⟩
 have⟨M,L,f⟩:=K;have⟨m,j,l1,i1,r1,T,k1,o1⟩:=Zgg (n:=s.nx) (d.rh.drop id) L f (λc o y J=>absurd (d.ids c J) (by omega));refine⟨m,j,⟨r1,λt=>?_,d.nt,d.df,λc h=>?_,by simp⟩,l1,λ_ _=>rfl,by simp⟩
 .show VR w m (bif Vi t k then _ else _) _
  cases hb:Vi t k with
  |true=>have:=Vh hb;subst this;exact T
  |false=>exact Gi
 show c<s.nx+1;obtain h|h:=k1 c h;.have:=d.ids c h;omega
 exact h.2
section
variable {B:KR}{w:World}{g:Gh}{a:Act}{z:El Wq}{x0:KX HL}
noncomputable abbrev dpK(x0:KX HL)(e:Ex)(s:AS):Option (El Wq):=(YO E1 Tryz.f37.results HL ZfM [] e s).bind λy=>bif DF (X4 HL 0) (Z5 HL x0 0).1 (WM (Z5 HL x0 0).2.1) s [] then Ua y.2.1 else Ub
theorem ZiQ{E' s}(i:SR E1 B (X8 x0) w g s a){s' w' l k c}(q:E'.nt=E1.nt)(f:E'.ks=[])(r:SR E' B s' w' l k c)(p:Lk E1 w g a w' l c){e y}(o:e.kept=[]/\e.kf=[]/\e.kv=[])(h:Yb (X8 x0) [] e s' =Ua y):
 ∃d b,SR E1 B (Xy (X8 x0) [] e y) w' d b c/\Lk E1 w g a w' d c:=by
 have⟨m,x,n⟩:=o;have j:Z2 (X8 x0) e=[]:=by unfold Z2;rw[m];rfl
 have⟨d,b,t,u,v,_⟩:=Zc2 (fzN:=[]) i r q (Lk.env p f) (by rw[m];simp) (by rw[n];simp) (by rw[j];simp) (by rw[j];simp) (by rw[j];simp) (by simp) h;exact⟨d,b,t,u,v,by simp[E1,mkE]⟩
theorem ZuK{p}(c:SR E1 B (X8 x0) w g p a){s' w' f d b}(m:SR E2 B s' w' f d b)(j:Lk E1 w g a w' f b){l:List (El Qn.Y91)}(h:Yb (X8 x0) [] e8 s' =Ua l):
 WY E1 B (X8 x0) w g a (dpK x0) (l.map λz=>Vf Vj z) .ret b w' :=by
 have⟨t,q,r,n⟩:=ZiQ (E' :=E2) c rfl rfl m j ⟨rfl,rfl,rfl⟩ h;have⟨i,e,s,o⟩:=Zxo (k:=8) r rfl rfl;refine⟨.ret,_,i,e,rfl,s,⟨n.trans o,rfl,by simp⟩,?_⟩;rfl
theorem ZuL{ow}(q:SR E1 B (X8 x0) w g ow a)(p:JO Tryz.prog E2 B){l:List (El Y94)}(hz:z=l.map Ua) m x(d:Js Re m x=Ua l){w1 D u C}(hs:SR E1 B (Xy (X8 x0) [] eD x) w1 D u C)(hl:Lk E1 w g a w1 D C):
 (Code.block 6 (.loop dpL)).wp Tryz.prog (Exit.then (dpZ.wp Tryz.prog (WY E1 B (X8 x0) w g a (dpK x0) z)) (WY E1 B (X8 x0) w g a (dpK x0) z)) C w1:=by
 refine wp_block (Zdl (λm U w' =>∃x g' S,Js Re m x=Ua l/\SR E1 B (Xy (X8 x0) [] eD x) w' g' S U/\Lk E1 w g a w' g' U) (n:=m) ⟨x,D,u,d,hs,hl⟩ ?_);rintro m a2 w2 ⟨x,g2,a0,d,L,E⟩
 cases m with
 |zero=>cases d
 |succ m=>
 have⟨A,g3,T,P,M,F⟩:=Zvy (k:=9) (id:=0) (x:=x) L rfl rfl;have N:SR E2 B (dpO (Kn (WG A x))) w2 g3 T a2:=by
  refine SR.env (Zzm M _ _ (λt=>?_) λk o h=>?_) rfl
  .show (bif Vi t 9 then _ else _)=_\/(bif Vi t 9 then _ else _)=_
   cases hb:Vi t 9 with
   |true=>have:=Vh hb;subst this;exact .inr rfl
   |false=>exact .inl rfl
  have h' :WM (inj fP (Kn (WG A x)) 1).2.1 k=Ua o:=h;show Zu (ZX (Xy (X8 x0) [] eD x).H 0 Ub) (Wl (inj fP (Kn (WG A x)) 1).2.1) k=Ua o;rw[Zee _ _ _ (Zd7 _ _ _),h']
 cases j:Re x with
 |none=>rw[Js,j]at d;cases d
 |some r=>
 rw[Js,j]at d;have K:=ZuI P j;rw[<-ZuH]at K;unfold ZmK at K;refine wp_mono (WD Wi dpL .leaf E2 (FX ⊕ List (El Qn.Y91)) _ _ _ Zk1 p K N) ?_;rintro e W w5 ⟨ex,s5,g5,a3,rfl,s,I,b⟩;have f:Lk E1 w g a w5 g5 W:=(E.trans F).trans (Lk.env I.lk rfl)
 cases ex with
 |ret=>simp at b
 |jump l=>simp at b
 |normal=>
  simp[Va,Z4]at b;have⟨y,Q,b⟩:=b
  cases r with
  |inr l' =>cases b
  |inl x' =>
   cases b;have R:Yb (X8 x0) [] eD s5=Ua y:=Q;have⟨g6,v,r1,l1⟩:=ZiQ (E' :=E2) q rfl rfl s f ⟨rfl,rfl,rfl⟩ R
   exact⟨m,Nat.lt_succ_self m,y,g6,v,d,r1,l1⟩
 |exit i=>
  match i,b with
  |6,b=>
   simp[Exit.inBlock,if_true];show dpZ.wp Tryz.prog _ W w5;refine wp_mono (WD Wi dpZ .leaf E2 (FX ⊕ List (El Qn.Y91)) _ _ _ Zk1 p b s) ?_;rintro e a6 w6 ⟨ex,s6,g6,v,rfl,O,J,c⟩
   cases ex with
   |normal=>simp at c
   |exit i=>simp at c
   |jump l=>simp at c
   |ret=>
    simp[Va,Z4]at c;have⟨y,Q,c⟩:=c
    cases r with
    |inl x' =>cases c
    |inr l' =>
     cases c;simp[Z4]at d;subst d;have:=ZuK q O (f.trans (Lk.env J.lk rfl)) Q;have e:(l'.map (KA (lb:=Y94) A)).map (λz=>Vf Vj z)=z:=by rw[hz,List.map_map];rfl
     rw[e]at this;exact this
theorem ZuM{Q}(k:Zbw x0.1 x0.2.1 x0.2.2.1 x0.2.2.2.1=Ua z)(o:JO Tryz.prog E1 B)(C:SR E1 B (X8 x0) w g Q a):(Wh Tryz.f37).wp Tryz.prog (WY E1 B (X8 x0) w g a (dpK x0) z) a w:=by
 have x:JO Tryz.prog E2 B:=⟨Zrh,o.amb,λ_=>Zqi (by kernel_rfl) rfl,λ_ h e=>absurd (show Ub=Ua h from e) (by simp)⟩;unfold Zbw at k;rw[Va]at k;have⟨r,v,k⟩:=k;rw[<-ZuJ]at v;have v:ZmL x0=Ua r:=v;refine wp_seq (wp_mono (WD Wi ZmE .leaf E1 (FX ⊕ El Wq) _ _ _ Zb7 o v C) ?_);rintro e a1 w1 ⟨ex,s1,g1,R,rfl,D,q,d⟩
 cases ex with
 |ret=>simp at d
 |jump l=>simp at d
 |exit i=>simp at d
 |normal=>
 refine wp_seq (wp_mono (WD Wi ZmF .leaf E1 (FX ⊕ El Wq) _ _ _ Zb7 o d D) ?_);rintro e a2 w2 ⟨ex,s2,g2,S,rfl,E,s,f⟩
 cases ex with
 |ret=>simp at f
 |jump l=>simp at f
 |exit i=>simp at f
 |normal=>
 refine wp_seq (wp_mono (WD Wi ZmG .leaf E1 (FX ⊕ El Wq) _ _ _ Zb7 o f E) ?_);rintro e a3 w3 ⟨ex,s3,g3,T,rfl,F,t,j⟩
 cases ex with
 |ret=>simp at j
 |jump l=>simp at j
 |exit i=>simp at j
 |normal=>
 have p:=(q.lk.trans s.lk).trans t.lk;refine wp_seq (wp_mono (WD Wi ZmH .leaf E1 (FX ⊕ El Wq) _ _ _ Zb7 o j F) ?_);rintro e a4 w4 ⟨ex,K,L,J,rfl,u,n,b⟩
 cases ex with
 |jump l=>simp at b
 |exit i=>simp at b
 |ret=>
  simp only[Va,Z4]at b;obtain⟨y,I,rfl⟩:=b;simp[Z4]at k;refine⟨.ret,K,L,J,rfl,u,⟨p.trans n.lk,n.fz.trans (t.fz.trans (s.fz.trans q.fz)),by simp⟩,?_⟩;show (YO E1 Tryz.f37.results HL ZfM [] .ret K).bind _=_;rw[I]
  simp[DF,k]
 |normal=>
 simp at b;refine wp_seq (wp_mono (WD Wi ZmI dpH E1 (FX ⊕ El Wq) _ _ _ Zb7 o b u) ?_);rintro e a5 w5 ⟨ex,s5,g5,U,rfl,H,A,c⟩
 cases ex with
 |ret=>simp at c
 |jump l=>simp at c
 |exit i=>simp at c
 |normal=>
 simp[Va]at c;obtain⟨y,I,rfl⟩:=c;simp[Va]at k;have⟨l,M,O⟩:=k;have⟨m,N⟩:=Zko M;have⟨g6,W,r1,P⟩:=ZiQ C rfl rfl H ((p.trans n.lk).trans A.lk) ⟨rfl,rfl,rfl⟩ I;exact wp_seq (ZuL C x O.symm m y N r1 P)
end
noncomputable def ZmB:Tr.Spec:={args:=HL,res:=ZfM,fns:=[],α:=El Wq,f:=λx=>Zbw x.1 x.2.1 x.2.2.1 x.2.2.2.1,unp:=λz=>(((),(),(),(),()),(z,()))}
theorem Zuq:ZR Tryz.prog 37 ZmB:=
 have key:Zb9 Tryz.prog 37 ZmB:=ZmS Zb7 Zrg (λ_ _ _ _ h e=>absurd (show Ub=Ua h from e) (by simp)) Tryz.func37 (by kernel_rfl) rfl rfl rfl (λy=>rfl) (λ_=>Zqi (by kernel_rfl) rfl) (λx z p=>λn o=>ZuM p n o)
 {wf:=rfl
  fn:=⟨_,Tryz.func37,by kernel_rfl,by kernel_rfl⟩
  run:=λw I b q x z c d f i j k=>(key w I b q x z c d f i j k).mono λe s ⟨r,l,m,_⟩=>⟨r,l,m⟩ }
end Q
