/- slices.Compact of pairs does what cmF says. Conditions: none. -/
import Derived.Test.YtdpenljjnfmgiaaGreatCmp45
import Derived.Test.YtdpenljjnfmgiaaGreatETsF
open Nat renaming eq_of_beq_eq_true ->Vb,lt_succ_self ->Vc
open Option renaming bind_eq_some_iff ->Va
namespace Tr
open Go Go.Proofs
def Zje:Spec:= {args:=Hj,res:=Zds,fns:=[],α:=Wz,f:=fun x=>cmF x.1,unp:=fun z=>(((),()),(z,()))}
theorem SR.sub{E:Z3}{B:ZS}{s:AS}{w:World}{g:Gh}{m:Nat->Nat->Prop}{a:Act}(c:SR E B s w g m a)(d:Nat->AV)(H' :AH)(hF:∀t,d t=.junk\/d t=s.F t)(i:∀k o,H' k=some o->s.H k=some o):SR E B ⟨d,H',s.nx,[]⟩ w g m a where
 rh:=by
  have f:∀k,H' k≠none->s.H k≠none:=by
   intro k h
   cases j:H' k with
   |none=>exact absurd j h
   |some o=>rw[i k o j];simp
  exact {objs:=fun k o h=>c.rh.objs k o (i k o h),dist:=fun k l b e n=>c.rh.dist k l b (f k e) (f l n),sep:=fun k b e=>c.rh.sep k b (f k e),ilt:=c.rh.ilt,inew:=c.rh.inew,os:=c.rh.os,tape:=c.rh.tape,output:=c.rh.output,size:=c.rh.size,kept:=c.rh.kept}
 fr:=fun t=>by
  rcases hF t with h|h
  ·show VR w g (d t) _;rw[h];exact Hb
  ·show VR w g (d t) _;rw[h];exact c.fr t
 nt:=c.nt
 df:=c.df
 ids:=c.ids
 fz:=fun id h=>by simp at h
theorem Zi6{s:AS}{r:KJ}(h:cmO s=some r):∃xs k,r=.out xs k/\s.F 0=.vw 0/\s.F 3=.d (.int .i64) k/\s.H 0=some (.vec X1 xs):=by
 unfold cmO at h;split at h
 ·rename_i k xs b c e;simp only[Option.some.injEq]at h;exact⟨xs,k,h.symm,b,c,e⟩
 ·simp at h
theorem Zi4{s:AS}{r:KJ}(h:cmI s=some r):∃xs k lo n k2,r=.inn xs k lo n k2/\s.F 0=.vw 0/\s.F 3=.d (.int .i64) k/\s.F 4=.vs 0 lo n/\s.F 5=.d (.int .i64) k2/\s.H 0=some (.vec X1 xs):=by
 unfold cmI at h;split at h
 ·rename_i k lo n k2 xs b c e f i;simp only[Option.some.injEq]at h;exact⟨xs,k,lo,n,k2,h.symm,b,c,e,f,i⟩
 ·simp at h
theorem Zja{B:ZS}{s:AS}{w:World}{g:Gh}{c:Nat->Nat->Prop}{a:Act}(j:SR EC B s w g c a){xs:Wz}{k:Int}(e:s.F 0=.vw 0)(f:s.F 3=.d (.int .i64) k)(i:s.H 0=some (.vec X1 xs)):SR EC B (Zdu xs k s.nx) w g c a:=by
 refine j.sub _ _ (fun t=>?_) fun id o h=>?_
 ·split
  ·exact .inr e.symm
  ·exact .inr f.symm
  ·exact .inl rfl
 ·cases b:Nat.beq id 0 with
  |true=>rw[b]at h;have:=Vb b;subst this;rw[i];exact h
  |false=>rw[b]at h;simp at h
theorem Zi9{B:ZS}{s:AS}{w:World}{g:Gh}{c:Nat->Nat->Prop}{a:Act}(m:SR EC B s w g c a){xs:Wz}{k k2:Int}{lo n:Nat}(e:s.F 0=.vw 0)(f:s.F 3=.d (.int .i64) k)(i:s.F 4=.vs 0 lo n)(j:s.F 5=.d (.int .i64) k2)(l:s.H 0=some (.vec X1 xs)):SR EC B (Zdt xs k lo n k2 s.nx) w g c a:=by
 refine m.sub _ _ (fun t=>?_) fun id o h=>?_
 ·split
  ·exact .inr e.symm
  ·exact .inr f.symm
  ·exact .inr i.symm
  ·exact .inr j.symm
  ·exact .inl rfl
 ·cases b:Nat.beq id 0 with
  |true=>rw[b]at h;have:=Vb b;subst this;rw[l];exact h
  |false=>rw[b]at h;simp at h
theorem HY:Tryz.prog.follows .mixedOrders=true:=by kernel_rfl
theorem Zpu:KM Tryz.f63=.seq ZfO (.seq cmA (.seq (.seq ZfP (.block 0 (.loop Rs))) Zat)):=by kernel_rfl
theorem Zpt:Rs=.seq ZfN (.seq (.block 1 (.seq ZfQ (.cond (.tmp 25) Zau .skip))) Zdr):=by kernel_rfl
theorem Zpw:Zau=.seq ZfR (.seq (.seq ZfS (.block 2 (.loop Zdp))) ZbN):=by kernel_rfl
section
variable {B:ZS}{w:World}{g:Gh}{a:Act}{z:Wz}
theorem Zpv(S:Jv Tryz.prog EC B){Q:Exit->Act->World->Prop}(R:∀m r s2 s u o q,SR EC B s2 s u o q->Lk EC w g a s u q->s2.fz=[]->Kj ZbN .leaf EC KJ s2 G6=some r->YQ m r=some z->Q .normal q s)
 (m:Nat) (xs:Wz) (k:Int) (lo n:Nat) (k2:Int) (nx:Nat) {w1:World}{g1:Gh}{j:Nat->Nat->Prop}{t:Act} (c:YQ m (.inn xs k lo n k2)=some z) (U:SR EC B (Zdt xs k lo n k2 nx) w1 g1 j t) (T:Lk EC w g a w1 g1 t):
 (Code.block 2 (.loop Zdp)).wp Tryz.prog Q t w1:=by
 refine wp_block (Zbl (fun m D J=>∃xs k lo n k2 nx F A,YQ m (.inn xs k lo n k2)=some z/\SR EC B (Zdt xs k lo n k2 nx) J F A D/\Lk EC w g a J F D) (n:=m) ⟨xs,k,lo,n,k2,nx,g1,j,c,U,T⟩ ?_);rintro m q s ⟨xs,k,lo,n,k2,nx,u,o,c,v,f⟩
 cases m with
 |zero=>simp [YQ]at c
 |succ m=>
 simp only[YQ,Va]at c;obtain⟨r,H,c⟩:=c;rw[<-Zpq xs k lo n k2 nx]at H;refine wp_mono (Wh HY Zdp .leaf EC KJ _ _ r Hs S H v) ?_;rintro e E K ⟨ex,I,G,p,rfl,h,d,b⟩
 cases ex with
 |normal=>
  obtain⟨C,V,y,W,x,rfl,L,M,N,O,P⟩:=Zi4 b
  exact⟨m,Vc m,C,V,y,W,x,I.nx,G,p,c,Zi9 h L M N O P,f.trans d.lk⟩
 |exit i=>
  match i,b with
  |2,b=>
   show Exit.inBlock 2 Q (.exit 2) E K;simp only[Exit.inBlock,if_true]
   exact R m r I K G p E h (f.trans d.lk) d.fz b c
 |ret=>simp at b
 |jump l=>simp at b
abbrev Rt(xs:Wz):AS:=⟨(Z4 Hj (xs,()) 0).1.toF,Ws (Z4 Hj (xs,()) 0).2.1,(Z4 Hj (xs,()) 0).2.2,[]⟩
noncomputable abbrev cmK(xs:Wz)(e:Ex)(s:AS):Option Wz:=(X3 EC Tryz.f63.results Hj Zds [] e s).bind fun y=>bif H3 (Xq Hj 0) (Z4 Hj (xs,()) 0).1 (Ws (Z4 Hj (xs,()) 0).2.1) s [] then some y.2.1 else none
theorem ZfT{xs:Wz}{ex:Ex}{m:Nat}{r:KJ}{s1:AS}{w1:World}{g1:Gh}{c:Nat->Nat->Prop}{d:Act}(j:SR EC B s1 w1 g1 c d)(h:Lk EC w g a w1 g1 d)(e:s1.fz=[])(b:G6 ex s1=some r)(f:YQ m r=some z):ex=.ret/\Wd EC B (Rt xs) w g a (cmK xs) z .ret d w1:=by
 cases ex with
 |ret=>
  simp only[G6,Va,Option.some.injEq]at b;obtain⟨y,k,rfl⟩:=b
  have n:y.2.1=z:=by cases m<;>simpa [YQ] using f
  refine⟨rfl,.ret,s1,g1,c,rfl,j,⟨h,e,by simp⟩,?_⟩;show (X3 EC Tryz.f63.results Hj Zds [] .ret s1).bind _=_;rw[k]
  simp only[Za,H3,Zc,n]
 |normal=>simp [G6]at b
 |exit i=>simp [G6]at b
 |jump l=>simp [G6]at b
theorem Zpx(u:Jv Tryz.prog EC B)(f:Wz)(m:Nat)(xs:Wz)(k:Int)(nx:Nat){w1:World}{g1:Gh}{G:Nat->Nat->Prop}{I:Act}(q:YQ m (.out xs k)=some z)(hs:SR EC B (Zdu xs k nx) w1 g1 G I)(hl:Lk EC w g a w1 g1 I):
 (Code.block 0 (.loop Rs)).wp Tryz.prog (Exit.then (Zat.wp Tryz.prog (Wd EC B (Rt f) w g a (cmK f) z)) (Wd EC B (Rt f) w g a (cmK f) z)) I w1:=by
 refine wp_block (Zbl (fun m a' w' =>∃xs k nx g' a9,YQ m (.out xs k)=some z/\SR EC B (Zdu xs k nx) w' g' a9 a' /\Lk EC w g a w' g' a') (n:=m) ⟨xs,k,nx,g1,G,q,hs,hl⟩ ?_);rintro m a2 w2 ⟨xs,k,nx,g2,b2,q,U,C⟩
 cases m with
 |zero=>simp [YQ]at q
 |succ m=>
 simp only[YQ,Va]at q;obtain⟨r,T,q⟩:=q;rw[<-Zpr xs k nx]at T;unfold Zi7 at T;rw[Zpt];refine wp_seq (wp_mono (Wh HY ZfN .leaf EC KJ _ _ r Hs u T U) ?_);rintro e a3 w3 ⟨ex,s3,g3,b3,rfl,E,s,h⟩
 cases ex with
 |ret=>simp at h
 |jump l=>simp at h
 |exit i=>
  match i,h with
  |0,h=>
   show Exit.inBlock 0 (Exit.then (Zat.wp Tryz.prog (Wd EC B (Rt f) w g a (cmK f) z)) (Wd EC B (Rt f) w g a (cmK f) z)) (.exit 0) a3 w3
   simp only[Exit.inBlock,if_true];show Zat.wp Tryz.prog _ a3 w3;refine wp_mono (Wh HY Zat .leaf EC KJ _ _ r Hs u h E) ?_;rintro e a4 w4 ⟨ex,s4,g4,b0,rfl,p,o,b⟩;obtain⟨rfl,S⟩:=ZfT (xs:=f) p ((C.trans s.lk).trans o.lk) (o.fz.trans s.fz) b q
   exact S
 |normal=>
  refine wp_seq (wp_block (wp_seq (wp_mono (Wh HY ZfQ .leaf EC KJ _ _ r Hs u h E) ?_)));rintro e a4 w4 ⟨ex,s4,g4,b0,rfl,p,o,b⟩;have v:=(C.trans s.lk).trans o.lk;have b1:=o.fz.trans s.fz
  cases ex with
  |ret=>simp at b
  |jump l=>simp at b
  |exit i=>simp at b
  |normal=>
  simp only at b;split at b
  case h_2=>simp at b
  rename_i t ht;have hv:=p.fr.eval (.tmp 25);rw[show Zt s4.F (.tmp 25)=.d .bool t from ht]at hv;refine wp_cond hv.bool ?_
  cases t with
  |true=>
   simp only[Zc]at b;simp only[if_true];rw[Zpw];refine wp_seq (wp_mono (Wh HY ZfR .leaf EC KJ _ _ r Hs u b p) ?_);rintro e a5 w5 ⟨ex,s5,g5,H,rfl,y,x,c⟩
   cases ex with
   |ret=>simp at c
   |jump l=>simp at c
   |exit i=>simp at c
   |normal=>
   simp only at c;refine wp_seq (wp_seq (wp_mono (Wh HY ZfS .leaf EC KJ _ _ r Hs u c y) ?_));rintro e a6 w6 ⟨ex,s6,g6,b4,rfl,V,Q,j⟩
   cases ex with
   |ret=>simp at j
   |jump l=>simp at j
   |exit i=>simp at j
   |normal=>
   simp only at j;obtain⟨A,Y,a0,n',Z,rfl,J,K,h4,h5,L⟩:=Zi4 j;refine Zpv (w:=w) (g:=g) (a:=a) (z:=z) u ?_ m A Y a0 n' Z s6.nx q (Zi9 V J K h4 h5 L) ((v.trans x.lk).trans Q.lk);intro m' r' s7 w7 g7 b5 a7 W R M O N;show ZbN.wp Tryz.prog _ a7 w7;refine wp_mono (Wh HY ZbN .leaf EC KJ _ _ r' Hs u O W) ?_;rintro e a8 w8 ⟨ex,s8,g8,b6,rfl,X,D,P⟩;obtain⟨rfl,S⟩:=ZfT (xs:=f) X (R.trans D.lk) (D.fz.trans M) P N
   exact S
  |false=>
   simp only[Ze]at b;refine wp_skip ?_;show Zdr.wp Tryz.prog _ a4 w4;refine wp_mono (Wh HY Zdr .leaf EC KJ _ _ r Hs u b p) ?_;rintro e a5 w5 ⟨ex,s5,g5,H,rfl,y,x,c⟩
   cases ex with
   |ret=>simp at c
   |jump l=>simp at c
   |exit i=>simp at c
   |normal=>
   simp only at c;obtain⟨A,Y,rfl,J,K,L⟩:=Zi6 c;exact⟨m,Vc m,A,Y,s5.nx,g5,H,q,Zja y J K L,v.trans x.lk⟩
end
theorem Zpy{B:ZS}{w:World}{g:Gh}{C:Nat->Nat->Prop}{a:Act}{z xs:Wz}(h:cmF xs=some z)(m:Jv Tryz.prog EC B)(y:SR EC B (Rt xs) w g C a):(KM Tryz.f63).wp Tryz.prog (Wd EC B (Rt xs) w g a (cmK xs) z) a w:=by
 unfold cmF at h;rw[<-Zps,Va]at h;obtain⟨r,t,s⟩:=h;unfold Zjb at t;rw[Zpu];refine wp_seq (wp_mono (Wh HY ZfO .leaf EC KJ _ _ r Hs m t y) ?_);rintro e H P ⟨ex,N,K,D,rfl,o,f,b⟩
 cases ex with
 |ret=>simp at b
 |jump l=>simp at b
 |exit i=>simp at b
 |normal=>
 simp only at b;refine wp_seq (wp_mono (Wh HY cmA .leaf EC KJ _ _ r Hs m b o) ?_);rintro e I Q ⟨ex,O,L,E,rfl,k,j,c⟩
 cases ex with
 |jump l=>simp at c
 |exit i=>simp at c
 |ret=>exact(ZfT (xs:=xs) k (f.lk.trans j.lk) (j.fz.trans f.fz) c s).2
 |normal=>
 simp only at c;refine wp_seq (wp_seq (wp_mono (Wh HY ZfP .leaf EC KJ _ _ r Hs m c k) ?_));rintro e J R ⟨ex,G,M,F,rfl,p,n,d⟩
 cases ex with
 |ret=>simp at d
 |jump l=>simp at d
 |exit i=>simp at d
 |normal=>
 simp only at d;obtain⟨q,A,rfl,u,v,x⟩:=Zi6 d;exact Zpx m xs 100 q A G.nx s (Zja p u v x) ((f.lk.trans j.lk).trans n.lk)
theorem cmp_ok:ZL Tryz.prog 63 Zje:=
 have key:Zac Tryz.prog 63 Zje:=Zjx (E:=EC) (fn:=Tryz.f63) (body:=KM Tryz.f63) (pack:=fun y=>y.2.1) Hs (fun f S h=>absurd h (by simp [EC,mkE])) (fun _ _ _ f h e=>absurd (show none=some h from e) (by simp)) Tryz.func63 (by kernel_rfl) rfl rfl rfl (fun y=>rfl) (fun _ f T h=>absurd h (by simp [EC,mkE])) (fun x z q=>fun o p=>Zpy (xs:=x.1) q o p)
 {wf:=rfl
  fn:=⟨_,Tryz.func63,by kernel_rfl,by kernel_rfl⟩
  run:=fun w I b r x z c d i j k l=>(key w I b r x z c d i j k l).mono fun e t ⟨s,m,n,_⟩=>⟨s,m,n⟩ }
end Tr
