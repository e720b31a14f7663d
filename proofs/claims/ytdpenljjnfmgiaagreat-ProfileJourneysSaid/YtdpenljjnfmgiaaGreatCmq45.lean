/- slices.Compact of pairs does what cmF says. Conditions: none. -/
import Derived.Test.YtdpenljjnfmgiaaGreatCmp45
import Derived.Test.YtdpenljjnfmgiaaGreatETsF
open Nat renaming eq_of_beq_eq_true ->Vb,lt_succ_self ->Vc
open Option renaming bind_eq_some_iff ->Va
open Option renaming some ->Ua,none ->Ub
namespace Tr
open Go Go.Proofs
def Zkq:Spec:= {args:=HI,res:=Zev,fns:=[],α:=WP,f:=fun x=>cmF x.1,unp:=fun z=>(((),()),(z,()))}
theorem SR.sub{E:Ka}{B:Z1}{s:AS}{w:World}{g:Gh}{m:Nat->Nat->Prop}{a:Act}(c:SR E B s w g m a)(d:Nat->AV)(H' :AH)(hF:∀t,d t=.junk\/d t=s.F t)(i:∀k o,H' k=Ua o->s.H k=Ua o):SR E B ⟨d,H',s.nx,[]⟩ w g m a where
 rh:=by
  have f:∀k,H' k≠Ub->s.H k≠none:=by
   intro k h
   cases j:H' k with
   |none=>exact absurd j h
   |some o=>rw[i k o j];simp
  exact {objs:=fun k o h=>c.rh.objs k o (i k o h),dist:=fun k l b e n=>c.rh.dist k l b (f k e) (f l n),sep:=fun k b e=>c.rh.sep k b (f k e),ilt:=c.rh.ilt,inew:=c.rh.inew,os:=c.rh.os,tape:=c.rh.tape,output:=c.rh.output,size:=c.rh.size,kept:=c.rh.kept}
 fr:=fun t=>by
  rcases hF t with h|h
  ·show VR w g (d t) _;rw[h];exact HB
  ·show VR w g (d t) _;rw[h];exact c.fr t
 nt:=c.nt
 df:=c.df
 ids:=c.ids
 fz:=fun id h=>by simp at h
theorem Zki{s:AS}{r:KW}(h:cmO s=Ua r):∃xs k,r=.out xs k/\s.F 0=.vw 0/\s.F 3=.d (.int .i64) k/\s.H 0=Ua (.vec Yp xs):=by
 unfold cmO at h;split at h
 ·rename_i k xs b c e;simp only[ZB]at h;exact⟨xs,k,h.symm,b,c,e⟩
 ·simp at h
theorem Zkg{s:AS}{r:KW}(h:cmI s=Ua r):∃xs k lo n k2,r=.inn xs k lo n k2/\s.F 0=.vw 0/\s.F 3=.d (.int .i64) k/\s.F 4=.vs 0 lo n/\s.F 5=.d (.int .i64) k2/\s.H 0=Ua (.vec Yp xs):=by
 unfold cmI at h;split at h
 ·rename_i k lo n k2 xs b c e f i;simp only[ZB]at h;exact⟨xs,k,lo,n,k2,h.symm,b,c,e,f,i⟩
 ·simp at h
theorem Zkm{B:Z1}{s:AS}{w:World}{g:Gh}{c:Nat->Nat->Prop}{a:Act}(j:SR EC B s w g c a){xs:WP}{k:Int}(e:s.F 0=.vw 0)(f:s.F 3=.d (.int .i64) k)(i:s.H 0=Ua (.vec Yp xs)):SR EC B (Zex xs k s.nx) w g c a:=by
 refine j.sub _ _ (fun t=>?_) fun id o h=>?_
 ·split
  ·exact .inr e.symm
  ·exact .inr f.symm
  ·exact .inl rfl
 ·cases b:Nat.beq id 0 with
  |true=>rw[b]at h;have:=Vb b;subst this;rw[i];exact h
  |false=>rw[b]at h;simp at h
theorem Zkl{B:Z1}{s:AS}{w:World}{g:Gh}{c:Nat->Nat->Prop}{a:Act}(m:SR EC B s w g c a){xs:WP}{k k2:Int}{lo n:Nat}(e:s.F 0=.vw 0)(f:s.F 3=.d (.int .i64) k)(i:s.F 4=.vs 0 lo n)(j:s.F 5=.d (.int .i64) k2)(l:s.H 0=Ua (.vec Yp xs)):SR EC B (Zew xs k lo n k2 s.nx) w g c a:=by
 refine m.sub _ _ (fun t=>?_) fun id o h=>?_
 ·split
  ·exact .inr e.symm
  ·exact .inr f.symm
  ·exact .inr i.symm
  ·exact .inr j.symm
  ·exact .inl rfl
 ·cases b:Nat.beq id 0 with
  |true=>rw[b]at h;have:=Vb b;subst this;rw[l];exact h
  |false=>rw[b]at h;simp at h
theorem GH:Tryz.prog.follows .mixedOrders=true:=by kernel_rfl
theorem Zrg:KX Tryz.f63=.seq ZgT (.seq cmA (.seq (.seq ZgU (.block 0 (.loop Zal))) Zbu)):=by kernel_rfl
theorem Zrf:Zal=.seq ZgS (.seq (.block 1 (.seq ZgV (.cond (.tmp 25) Zbv .skip))) Zeu):=by kernel_rfl
theorem Zri:Zbv=.seq ZgW (.seq (.seq ZgX (.block 2 (.loop Zes))) ZcR):=by kernel_rfl
section
variable {B:Z1}{w:World}{g:Gh}{a:Act}{z:WP}
theorem Zrh(S:JJ Tryz.prog EC B){Q:Exit->Act->World->Prop}(R:∀m r s2 s u o q,SR EC B s2 s u o q->Lk EC w g a s u q->s2.fz=[]->Kp ZcR .leaf EC KW s2 DQ=Ua r->Hh m r=Ua z->Q .normal q s)
 (m:Nat) (xs:WP) (k:Int) (lo n:Nat) (k2:Int) (nx:Nat) {w1:World}{g1:Gh}{j:Nat->Nat->Prop}{t:Act} (c:Hh m (.inn xs k lo n k2)=Ua z) (U:SR EC B (Zew xs k lo n k2 nx) w1 g1 j t) (T:Lk EC w g a w1 g1 t):
 (Code.block 2 (.loop Zes)).wp Tryz.prog Q t w1:=by
 refine wp_block (Zcm (fun m D J=>∃xs k lo n k2 nx F A,Hh m (.inn xs k lo n k2)=Ua z/\SR EC B (Zew xs k lo n k2 nx) J F A D/\Lk EC w g a J F D) (n:=m) ⟨xs,k,lo,n,k2,nx,g1,j,c,U,T⟩ ?_);rintro m q s ⟨xs,k,lo,n,k2,nx,u,o,c,v,f⟩
 cases m with
 |zero=>simp [Hh]at c
 |succ m=>
 simp only[Hh,Va]at c;obtain⟨r,H,c⟩:=c;rw[<-Zrc xs k lo n k2 nx]at H;refine wp_mono (Wz GH Zes .leaf EC KW _ _ r HY S H v) ?_;rintro e E K ⟨ex,I,G,p,rfl,h,d,b⟩
 cases ex with
 |normal=>
  obtain⟨C,V,y,W,x,rfl,L,M,N,O,P⟩:=Zkg b
  exact⟨m,Vc m,C,V,y,W,x,I.nx,G,p,c,Zkl h L M N O P,f.trans d.lk⟩
 |exit i=>
  match i,b with
  |2,b=>
   show Exit.inBlock 2 Q (.exit 2) E K;simp only[Exit.inBlock,if_true]
   exact R m r I K G p E h (f.trans d.lk) d.fz b c
 |ret=>simp at b
 |jump l=>simp at b
abbrev Zam(xs:WP):AS:=⟨(Kc HI (xs,()) 0).1.toF,WH (Kc HI (xs,()) 0).2.1,(Kc HI (xs,()) 0).2.2,[]⟩
noncomputable abbrev cmK(xs:WP)(e:Ex)(s:AS):Option WP:=(Yq EC Tryz.f63.results HI Zev [] e s).bind fun y=>bif GK (XK HI 0) (Kc HI (xs,()) 0).1 (WH (Kc HI (xs,()) 0).2.1) s [] then Ua y.2.1 else Ub
theorem ZgY{xs:WP}{ex:Ex}{m:Nat}{r:KW}{s1:AS}{w1:World}{g1:Gh}{c:Nat->Nat->Prop}{d:Act}(j:SR EC B s1 w1 g1 c d)(h:Lk EC w g a w1 g1 d)(e:s1.fz=[])(b:DQ ex s1=Ua r)(f:Hh m r=Ua z):ex=.ret/\Wv EC B (Zam xs) w g a (cmK xs) z .ret d w1:=by
 cases ex with
 |ret=>
  simp only[DQ,Va,ZB]at b;obtain⟨y,k,rfl⟩:=b
  have n:y.2.1=z:=by cases m<;>simpa [Hh] using f
  refine⟨rfl,.ret,s1,g1,c,rfl,j,⟨h,e,by simp⟩,?_⟩;show (Yq EC Tryz.f63.results HI Zev [] .ret s1).bind _=_;rw[k]
  simp only[Za,GK,Ze,n]
 |normal=>simp [DQ]at b
 |exit i=>simp [DQ]at b
 |jump l=>simp [DQ]at b
theorem Zrj(u:JJ Tryz.prog EC B)(f:WP)(m:Nat)(xs:WP)(k:Int)(nx:Nat){w1:World}{g1:Gh}{G:Nat->Nat->Prop}{I:Act}(q:Hh m (.out xs k)=Ua z)(hs:SR EC B (Zex xs k nx) w1 g1 G I)(hl:Lk EC w g a w1 g1 I):
 (Code.block 0 (.loop Zal)).wp Tryz.prog (Exit.then (Zbu.wp Tryz.prog (Wv EC B (Zam f) w g a (cmK f) z)) (Wv EC B (Zam f) w g a (cmK f) z)) I w1:=by
 refine wp_block (Zcm (fun m a' w' =>∃xs k nx g' a9,Hh m (.out xs k)=Ua z/\SR EC B (Zex xs k nx) w' g' a9 a' /\Lk EC w g a w' g' a') (n:=m) ⟨xs,k,nx,g1,G,q,hs,hl⟩ ?_);rintro m a2 w2 ⟨xs,k,nx,g2,b2,q,U,C⟩
 cases m with
 |zero=>simp [Hh]at q
 |succ m=>
 simp only[Hh,Va]at q;obtain⟨r,T,q⟩:=q;rw[<-Zrd xs k nx]at T;unfold Zkj at T;rw[Zrf];refine wp_seq (wp_mono (Wz GH ZgS .leaf EC KW _ _ r HY u T U) ?_);rintro e a3 w3 ⟨ex,s3,g3,b3,rfl,E,s,h⟩
 cases ex with
 |ret=>simp at h
 |jump l=>simp at h
 |exit i=>
  match i,h with
  |0,h=>
   show Exit.inBlock 0 (Exit.then (Zbu.wp Tryz.prog (Wv EC B (Zam f) w g a (cmK f) z)) (Wv EC B (Zam f) w g a (cmK f) z)) (.exit 0) a3 w3
   simp only[Exit.inBlock,if_true];show Zbu.wp Tryz.prog _ a3 w3;refine wp_mono (Wz GH Zbu .leaf EC KW _ _ r HY u h E) ?_;rintro e a4 w4 ⟨ex,s4,g4,b0,rfl,p,o,b⟩;obtain⟨rfl,S⟩:=ZgY (xs:=f) p ((C.trans s.lk).trans o.lk) (o.fz.trans s.fz) b q
   exact S
 |normal=>
  refine wp_seq (wp_block (wp_seq (wp_mono (Wz GH ZgV .leaf EC KW _ _ r HY u h E) ?_)));rintro e a4 w4 ⟨ex,s4,g4,b0,rfl,p,o,b⟩;have v:=(C.trans s.lk).trans o.lk;have b1:=o.fz.trans s.fz
  cases ex with
  |ret=>simp at b
  |jump l=>simp at b
  |exit i=>simp at b
  |normal=>
  simp only at b;split at b
  case h_2=>simp at b
  rename_i t ht;have hv:=p.fr.eval (.tmp 25);rw[show Zx s4.F (.tmp 25)=.d .bool t from ht]at hv;refine wp_cond hv.bool ?_
  cases t with
  |true=>
   simp only[Ze]at b;simp only[if_true];rw[Zri];refine wp_seq (wp_mono (Wz GH ZgW .leaf EC KW _ _ r HY u b p) ?_);rintro e a5 w5 ⟨ex,s5,g5,H,rfl,y,x,c⟩
   cases ex with
   |ret=>simp at c
   |jump l=>simp at c
   |exit i=>simp at c
   |normal=>
   simp only at c;refine wp_seq (wp_seq (wp_mono (Wz GH ZgX .leaf EC KW _ _ r HY u c y) ?_));rintro e a6 w6 ⟨ex,s6,g6,b4,rfl,V,Q,j⟩
   cases ex with
   |ret=>simp at j
   |jump l=>simp at j
   |exit i=>simp at j
   |normal=>
   simp only at j;obtain⟨A,Y,a0,n',Z,rfl,J,K,h4,h5,L⟩:=Zkg j;refine Zrh (w:=w) (g:=g) (a:=a) (z:=z) u ?_ m A Y a0 n' Z s6.nx q (Zkl V J K h4 h5 L) ((v.trans x.lk).trans Q.lk);intro m' r' s7 w7 g7 b5 a7 W R M O N;show ZcR.wp Tryz.prog _ a7 w7;refine wp_mono (Wz GH ZcR .leaf EC KW _ _ r' HY u O W) ?_;rintro e a8 w8 ⟨ex,s8,g8,b6,rfl,X,D,P⟩;obtain⟨rfl,S⟩:=ZgY (xs:=f) X (R.trans D.lk) (D.fz.trans M) P N
   exact S
  |false=>
   simp only[Zd]at b;refine wp_skip ?_;show Zeu.wp Tryz.prog _ a4 w4;refine wp_mono (Wz GH Zeu .leaf EC KW _ _ r HY u b p) ?_;rintro e a5 w5 ⟨ex,s5,g5,H,rfl,y,x,c⟩
   cases ex with
   |ret=>simp at c
   |jump l=>simp at c
   |exit i=>simp at c
   |normal=>
   simp only at c;obtain⟨A,Y,rfl,J,K,L⟩:=Zki c;exact⟨m,Vc m,A,Y,s5.nx,g5,H,q,Zkm y J K L,v.trans x.lk⟩
end
theorem Zrk{B:Z1}{w:World}{g:Gh}{C:Nat->Nat->Prop}{a:Act}{z xs:WP}(h:cmF xs=Ua z)(m:JJ Tryz.prog EC B)(y:SR EC B (Zam xs) w g C a):(KX Tryz.f63).wp Tryz.prog (Wv EC B (Zam xs) w g a (cmK xs) z) a w:=by
 unfold cmF at h;rw[<-Zre,Va]at h;obtain⟨r,t,s⟩:=h;unfold Zkn at t;rw[Zrg];refine wp_seq (wp_mono (Wz GH ZgT .leaf EC KW _ _ r HY m t y) ?_);rintro e H P ⟨ex,N,K,D,rfl,o,f,b⟩
 cases ex with
 |ret=>simp at b
 |jump l=>simp at b
 |exit i=>simp at b
 |normal=>
 simp only at b;refine wp_seq (wp_mono (Wz GH cmA .leaf EC KW _ _ r HY m b o) ?_);rintro e I Q ⟨ex,O,L,E,rfl,k,j,c⟩
 cases ex with
 |jump l=>simp at c
 |exit i=>simp at c
 |ret=>exact(ZgY (xs:=xs) k (f.lk.trans j.lk) (j.fz.trans f.fz) c s).2
 |normal=>
 simp only at c;refine wp_seq (wp_seq (wp_mono (Wz GH ZgU .leaf EC KW _ _ r HY m c k) ?_));rintro e J R ⟨ex,G,M,F,rfl,p,n,d⟩
 cases ex with
 |ret=>simp at d
 |jump l=>simp at d
 |exit i=>simp at d
 |normal=>
 simp only at d;obtain⟨q,A,rfl,u,v,x⟩:=Zki d;exact Zrj m xs 100 q A G.nx s (Zkm p u v x) ((f.lk.trans j.lk).trans n.lk)
theorem cmp_ok:ZS Tryz.prog 63 Zkq:=
 have key:Zba Tryz.prog 63 Zkq:=ZkM (E:=EC) (fn:=Tryz.f63) (body:=KX Tryz.f63) (pack:=fun y=>y.2.1) HY (fun f S h=>absurd h (by simp [EC,mkE])) (fun _ _ _ f h e=>absurd (show Ub=Ua h from e) (by simp)) Tryz.func63 (by kernel_rfl) rfl rfl rfl (fun y=>rfl) (fun _ f T h=>absurd h (by simp [EC,mkE])) (fun x z q=>fun o p=>Zrk (xs:=x.1) q o p)
 {wf:=rfl
  fn:=⟨_,Tryz.func63,by kernel_rfl,by kernel_rfl⟩
  run:=fun w I b r x z c d i j k l=>(key w I b r x z c d i j k l).mono fun e t ⟨s,m,n,_⟩=>⟨s,m,n⟩ }
end Tr
