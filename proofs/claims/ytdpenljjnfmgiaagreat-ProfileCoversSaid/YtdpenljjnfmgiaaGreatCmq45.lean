/- slices.Compact of pairs does what cmF says. Conditions: none. -/
import Derived.Test.YtdpenljjnfmgiaaGreatCmp45
import Derived.Test.YtdpenljjnfmgiaaGreatETsF
open Nat renaming eq_of_beq_eq_true ->Vb,lt_succ_self ->Vc
open Option renaming bind_eq_some_iff ->Va
open Option renaming some ->Ua,none ->Ub
namespace Tr
open Go Go.Proofs
def ZkN:Spec:={args:=HN,res:=ZeB,fns:=[],α:=WY,f:=λx=>cmF x.1,unp:=λz=>(((),()),(z,()))}
theorem SR.sub{E:Z9}{B:Z1}{s:AS}{w:World}{g:Gh}{m:Nat->Nat->Prop}{a:Act}(c:SR E B s w g m a)(d:Nat->AV)(H' :AH)(hF:∀t,d t=.junk\/d t=s.F t)(i:∀k o,H' k=Ua o->s.H k=Ua o):SR E B ⟨d,H',s.nx,[]⟩ w g m a where
 rh:=by
  have f:∀k,H' k≠Ub->s.H k≠none:=by
   intro k h
   cases j:H' k with
   |none=>exact absurd j h
   |some o=>rw[i k o j];simp
  exact {objs:=λk o h=>c.rh.objs k o (i k o h),dist:=λk l b e n=>c.rh.dist k l b (f k e) (f l n),sep:=λk b e=>c.rh.sep k b (f k e),ilt:=c.rh.ilt,inew:=c.rh.inew,os:=c.rh.os,tape:=c.rh.tape,output:=c.rh.output,size:=c.rh.size,kept:=c.rh.kept}
 fr:=λt=>by
  rcases hF t with h|h
  ·show VR w g (d t) _;rw[h];exact HH
  ·show VR w g (d t) _;rw[h];exact c.fr t
 nt:=c.nt
 df:=c.df
 ids:=c.ids
 fz:=λid h=>by simp at h
theorem ZkF{s:AS}{r:K1}(h:cmO s=Ua r):∃xs k,r=.out xs k/\s.F 0=.vw 0/\s.F 3=.d (.int .i64) k/\s.H 0=Ua (.vec Yr xs):=by
 unfold cmO at h;split at h
 ·rename_i k xs b c e;simp only[ZL]at h;exact⟨xs,k,h.symm,b,c,e⟩
 ·simp at h
theorem ZkD{s:AS}{r:K1}(h:cmI s=Ua r):∃xs k b n k2,r=.inn xs k b n k2/\s.F 0=.vw 0/\s.F 3=.d (.int .i64) k/\s.F 4=.vs 0 b n/\s.F 5=.d (.int .i64) k2/\s.H 0=Ua (.vec Yr xs):=by
 unfold cmI at h;split at h
 ·rename_i k b n k2 xs c e f i j;simp only[ZL]at h;exact⟨xs,k,b,n,k2,h.symm,c,e,f,i,j⟩
 ·simp at h
theorem ZkJ{B:Z1}{s:AS}{w:World}{g:Gh}{c:Nat->Nat->Prop}{a:Act}(j:SR EC B s w g c a){xs:WY}{k:Int}(e:s.F 0=.vw 0)(f:s.F 3=.d (.int .i64) k)(i:s.H 0=Ua (.vec Yr xs)):SR EC B (ZeD xs k s.nx) w g c a:=by
 refine j.sub _ _ (λt=>?_) λid o h=>?_
 ·split
  ·exact .inr e.symm
  ·exact .inr f.symm
  ·exact .inl rfl
 ·cases b:Nat.beq id 0 with
  |true=>rw[b]at h;have:=Vb b;subst this;rw[i];exact h
  |false=>rw[b]at h;simp at h
theorem ZkI{B:Z1}{s:AS}{w:World}{g:Gh}{e:Nat->Nat->Prop}{a:Act}(p:SR EC B s w g e a){xs:WY}{k k2:Int}{c n:Nat}(f:s.F 0=.vw 0)(i:s.F 3=.d (.int .i64) k)(j:s.F 4=.vs 0 c n)(l:s.F 5=.d (.int .i64) k2)(m:s.H 0=Ua (.vec Yr xs)):SR EC B (ZeC xs k c n k2 s.nx) w g e a:=by
 refine p.sub _ _ (λt=>?_) λid o h=>?_
 ·split
  ·exact .inr f.symm
  ·exact .inr i.symm
  ·exact .inr j.symm
  ·exact .inr l.symm
  ·exact .inl rfl
 ·cases b:Nat.beq id 0 with
  |true=>rw[b]at h;have:=Vb b;subst this;rw[m];exact h
  |false=>rw[b]at h;simp at h
theorem GT:Tryz.prog.follows .mixedOrders=true:=by kernel_rfl
theorem ZrP:K2 Tryz.f63=.seq Zg7 (.seq cmA (.seq (.seq Zg8 (.block 0 (.loop Zap))) Zbv)):=by kernel_rfl
theorem ZrO:Zap=.seq Zg6 (.seq (.block 1 (.seq Zg9 (.cond (.tmp 25) Zbw .skip))) ZeA):=by kernel_rfl
theorem ZrR:Zbw=.seq Zha (.seq (.seq Zhb (.block 2 (.loop Zey))) ZcQ):=by kernel_rfl
section
variable {B:Z1}{w:World}{g:Gh}{a:Act}{z:WY}
theorem ZrQ(U:JI Tryz.prog EC B){Q:Exit->Act->World->Prop}(T:∀m r D t v p s,SR EC B D t v p s->Lk EC w g a t v s->D.fz=[]->Ko ZcQ .leaf EC K1 D D9=Ua r->Hi m r=Ua z->Q .normal s t)
 (m:Nat) (xs:WY) (k:Int) (d n:Nat) (k2:Int) (nx:Nat) {w1:World}{g1:Gh}{o:Nat->Nat->Prop}{u:Act} (c:Hi m (.inn xs k d n k2)=Ua z) (W:SR EC B (ZeC xs k d n k2 nx) w1 g1 o u) (V:Lk EC w g a w1 g1 u):
 (Code.block 2 (.loop Zey)).wp Tryz.prog Q u w1:=by
 refine wp_block (Zcn (λm F L=>∃xs k d n k2 nx H C,Hi m (.inn xs k d n k2)=Ua z/\SR EC B (ZeC xs k d n k2 nx) L H C F/\Lk EC w g a L H F) (n:=m) ⟨xs,k,d,n,k2,nx,g1,o,c,W,V⟩ ?_);rintro m s t ⟨xs,k,d,n,k2,nx,v,p,c,x,h⟩
 cases m with
 |zero=>simp [Hi]at c
 |succ m=>
 simp only[Hi,Va]at c;obtain⟨r,J,c⟩:=c;rw[<-ZrL xs k d n k2 nx]at J;refine wp_mono (WD GT Zey .leaf EC K1 _ _ r Ge U J x) ?_;rintro e G M ⟨ex,K,I,q,rfl,j,f,b⟩
 cases ex with
 |normal=>
  obtain⟨E,X,A,Y,y,rfl,N,O,P,R,S⟩:=ZkD b
  exact⟨m,Vc m,E,X,A,Y,y,K.nx,I,q,c,ZkI j N O P R S,h.trans f.lk⟩
 |exit i=>
  match i,b with
  |2,b=>
   show Exit.inBlock 2 Q (.exit 2) G M;simp only[Exit.inBlock,if_true]
   exact T m r K M I q G j (h.trans f.lk) f.fz b c
 |ret=>simp at b
 |jump l=>simp at b
abbrev Zaq(xs:WY):AS:=⟨(Kb HN (xs,()) 0).1.toF,WM (Kb HN (xs,()) 0).2.1,(Kb HN (xs,()) 0).2.2,[]⟩
noncomputable abbrev cmK(xs:WY)(e:Ex)(s:AS):Option WY:=(Ys EC Tryz.f63.results HN ZeB [] e s).bind λy=>bif G1 (XR HN 0) (Kb HN (xs,()) 0).1 (WM (Kb HN (xs,()) 0).2.1) s [] then Ua y.2.1 else Ub
theorem Zhc{xs:WY}{ex:Ex}{m:Nat}{r:K1}{s1:AS}{w1:World}{g1:Gh}{c:Nat->Nat->Prop}{d:Act}(j:SR EC B s1 w1 g1 c d)(h:Lk EC w g a w1 g1 d)(e:s1.fz=[])(b:D9 ex s1=Ua r)(f:Hi m r=Ua z):ex=.ret/\Wz EC B (Zaq xs) w g a (cmK xs) z .ret d w1:=by
 cases ex with
 |ret=>
  simp only[D9,Va,ZL]at b;obtain⟨y,k,rfl⟩:=b;have n:y.2.1=z:=by cases m<;>simpa [Hi] using f
  refine⟨rfl,.ret,s1,g1,c,rfl,j,⟨h,e,by simp⟩,?_⟩;show (Ys EC Tryz.f63.results HN ZeB [] .ret s1).bind _=_;rw[k]
  simp only[Za,G1,Zd,n]
 |normal=>simp [D9]at b
 |exit i=>simp [D9]at b
 |jump l=>simp [D9]at b
theorem ZrS(u:JI Tryz.prog EC B)(f:WY)(m:Nat)(xs:WY)(k:Int)(nx:Nat){w1:World}{g1:Gh}{G:Nat->Nat->Prop}{I:Act}(q:Hi m (.out xs k)=Ua z)(hs:SR EC B (ZeD xs k nx) w1 g1 G I)(hl:Lk EC w g a w1 g1 I):
 (Code.block 0 (.loop Zap)).wp Tryz.prog (Exit.then (Zbv.wp Tryz.prog (Wz EC B (Zaq f) w g a (cmK f) z)) (Wz EC B (Zaq f) w g a (cmK f) z)) I w1:=by
 refine wp_block (Zcn (λm a' w' =>∃xs k nx g' a9,Hi m (.out xs k)=Ua z/\SR EC B (ZeD xs k nx) w' g' a9 a' /\Lk EC w g a w' g' a') (n:=m) ⟨xs,k,nx,g1,G,q,hs,hl⟩ ?_);rintro m a2 w2 ⟨xs,k,nx,g2,b2,q,U,C⟩
 cases m with
 |zero=>simp [Hi]at q
 |succ m=>
 simp only[Hi,Va]at q;obtain⟨r,T,q⟩:=q;rw[<-ZrM xs k nx]at T;unfold ZkG at T;rw[ZrO];refine wp_seq (wp_mono (WD GT Zg6 .leaf EC K1 _ _ r Ge u T U) ?_);rintro e a3 w3 ⟨ex,s3,g3,b3,rfl,E,s,h⟩
 cases ex with
 |ret=>simp at h
 |jump l=>simp at h
 |exit i=>
  match i,h with
  |0,h=>
   show Exit.inBlock 0 (Exit.then (Zbv.wp Tryz.prog (Wz EC B (Zaq f) w g a (cmK f) z)) (Wz EC B (Zaq f) w g a (cmK f) z)) (.exit 0) a3 w3;simp only[Exit.inBlock,if_true];show Zbv.wp Tryz.prog _ a3 w3;refine wp_mono (WD GT Zbv .leaf EC K1 _ _ r Ge u h E) ?_;rintro e a4 w4 ⟨ex,s4,g4,b0,rfl,p,o,b⟩;obtain⟨rfl,S⟩:=Zhc (xs:=f) p ((C.trans s.lk).trans o.lk) (o.fz.trans s.fz) b q
   exact S
 |normal=>
  refine wp_seq (wp_block (wp_seq (wp_mono (WD GT Zg9 .leaf EC K1 _ _ r Ge u h E) ?_)));rintro e a4 w4 ⟨ex,s4,g4,b0,rfl,p,o,b⟩;have v:=(C.trans s.lk).trans o.lk;have b1:=o.fz.trans s.fz
  cases ex with
  |ret=>simp at b
  |jump l=>simp at b
  |exit i=>simp at b
  |normal=>
  simp only at b;split at b
  case h_2=>simp at b
  rename_i t ht;have hv:=p.fr.eval (.tmp 25);rw[show Zz s4.F (.tmp 25)=.d .bool t from ht]at hv;refine wp_cond hv.bool ?_
  cases t with
  |true=>
   simp only[Zd]at b;simp only[if_true];rw[ZrR];refine wp_seq (wp_mono (WD GT Zha .leaf EC K1 _ _ r Ge u b p) ?_);rintro e a5 w5 ⟨ex,s5,g5,H,rfl,y,x,c⟩
   cases ex with
   |ret=>simp at c
   |jump l=>simp at c
   |exit i=>simp at c
   |normal=>
   simp only at c;refine wp_seq (wp_seq (wp_mono (WD GT Zhb .leaf EC K1 _ _ r Ge u c y) ?_));rintro e a6 w6 ⟨ex,s6,g6,b4,rfl,V,Q,j⟩
   cases ex with
   |ret=>simp at j
   |jump l=>simp at j
   |exit i=>simp at j
   |normal=>
   simp only at j;obtain⟨A,Y,a0,n',Z,rfl,J,K,h4,h5,L⟩:=ZkD j;refine ZrQ (w:=w) (g:=g) (a:=a) (z:=z) u ?_ m A Y a0 n' Z s6.nx q (ZkI V J K h4 h5 L) ((v.trans x.lk).trans Q.lk);intro m' r' s7 w7 g7 b5 a7 W R M O N;show ZcQ.wp Tryz.prog _ a7 w7;refine wp_mono (WD GT ZcQ .leaf EC K1 _ _ r' Ge u O W) ?_;rintro e a8 w8 ⟨ex,s8,g8,b6,rfl,X,D,P⟩;obtain⟨rfl,S⟩:=Zhc (xs:=f) X (R.trans D.lk) (D.fz.trans M) P N
   exact S
  |false=>
   simp only[Ze]at b;refine wp_skip ?_;show ZeA.wp Tryz.prog _ a4 w4;refine wp_mono (WD GT ZeA .leaf EC K1 _ _ r Ge u b p) ?_;rintro e a5 w5 ⟨ex,s5,g5,H,rfl,y,x,c⟩
   cases ex with
   |ret=>simp at c
   |jump l=>simp at c
   |exit i=>simp at c
   |normal=>
   simp only at c;obtain⟨A,Y,rfl,J,K,L⟩:=ZkF c;exact⟨m,Vc m,A,Y,s5.nx,g5,H,q,ZkJ y J K L,v.trans x.lk⟩
end
theorem ZrT{B:Z1}{w:World}{g:Gh}{C:Nat->Nat->Prop}{a:Act}{z xs:WY}(h:cmF xs=Ua z)(m:JI Tryz.prog EC B)(y:SR EC B (Zaq xs) w g C a):(K2 Tryz.f63).wp Tryz.prog (Wz EC B (Zaq xs) w g a (cmK xs) z) a w:=by
 unfold cmF at h;rw[<-ZrN,Va]at h;obtain⟨r,t,s⟩:=h;unfold ZkK at t;rw[ZrP];refine wp_seq (wp_mono (WD GT Zg7 .leaf EC K1 _ _ r Ge m t y) ?_);rintro e H P ⟨ex,N,K,D,rfl,o,f,b⟩
 cases ex with
 |ret=>simp at b
 |jump l=>simp at b
 |exit i=>simp at b
 |normal=>
 simp only at b;refine wp_seq (wp_mono (WD GT cmA .leaf EC K1 _ _ r Ge m b o) ?_);rintro e I Q ⟨ex,O,L,E,rfl,k,j,c⟩
 cases ex with
 |jump l=>simp at c
 |exit i=>simp at c
 |ret=>exact(Zhc (xs:=xs) k (f.lk.trans j.lk) (j.fz.trans f.fz) c s).2
 |normal=>
 simp only at c;refine wp_seq (wp_seq (wp_mono (WD GT Zg8 .leaf EC K1 _ _ r Ge m c k) ?_));rintro e J R ⟨ex,G,M,F,rfl,p,n,d⟩
 cases ex with
 |ret=>simp at d
 |jump l=>simp at d
 |exit i=>simp at d
 |normal=>
 simp only at d;obtain⟨q,A,rfl,u,v,x⟩:=ZkF d;exact ZrS m xs 100 q A G.nx s (ZkJ p u v x) ((f.lk.trans j.lk).trans n.lk)
theorem cmp_ok:ZT Tryz.prog 63 ZkN:=
 have key:Zba Tryz.prog 63 ZkN:=Zk7 (E:=EC) (fn:=Tryz.f63) (body:=K2 Tryz.f63) (pack:=λy=>y.2.1) Ge (λf S h=>absurd h (by simp [EC,mkE])) (λ_ _ _ f h e=>absurd (show Ub=Ua h from e) (by simp)) Tryz.func63 (by kernel_rfl) rfl rfl rfl (λy=>rfl) (λ_ f T h=>absurd h (by simp [EC,mkE])) (λx z q=>λo p=>ZrT (xs:=x.1) q o p)
 {wf:=rfl
  fn:=⟨_,Tryz.func63,by kernel_rfl,by kernel_rfl⟩
  run:=λw I b r x z c d i j k l=>(key w I b r x z c d i j k l).mono λe t ⟨s,m,n,_⟩=>⟨s,m,n⟩ }
end Tr
