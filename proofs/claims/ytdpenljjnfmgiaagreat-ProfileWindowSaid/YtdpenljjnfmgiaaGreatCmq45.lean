/- slices.Compact of pairs does what cmF says. Conditions: none. -/
import Derived.Test.YtdpenljjnfmgiaaGreatCmp45
open Nat renaming eq_of_beq_eq_true ->Vb,lt_succ_self ->Vc
open Option renaming bind_eq_some_iff ->Va
open Option renaming some ->Ua,none ->Ub
namespace Tr
open Go Go.Proofs
def Zmq:Spec:={args:=Gs,res:=ZfD,fns:=[],α:=J7,f:=λx=>cmF x.1,unp:=λz=>(((),()),(z,()))}
theorem SR.sub{E B s w g n a}(c:SR E B s w g n a) d e(hF:∀t,d t=.junk\/d t=s.F t)(j:∀k o,e k=Ua o->s.H k=Ua o):SR E B ⟨d,e,s.nx,[]⟩ w g n a where
 rh:=by
  have i:∀k,e k≠Ub->s.H k≠none:=by
   intro k h
   cases l:e k with
   |none=>exact absurd l h
   |some o=>rw[j k o l];simp
  exact {objs:=λk o h=>c.rh.objs k o (j k o h),dist:=λk m b f p=>c.rh.dist k m b (i k f) (i m p),sep:=λk b f=>c.rh.sep k b (i k f),ilt:=c.rh.ilt,inew:=c.rh.inew,os:=c.rh.os,tape:=c.rh.tape,output:=c.rh.output,size:=c.rh.size,kept:=c.rh.kept}
 fr:=λt=>by
  obtain h|h:=hF t;.show VR w g (d t) _;rw[h];exact Gi
  show VR w g (d t) _;rw[h];exact c.fr t
 nt:=c.nt
 df:=c.df
 ids:=c.ids
 fz:=λid h=>by simp at h
theorem Zmg{s r}(h:cmO s=Ua r):∃xs k,r=.out xs k/\s.F 0=.vw 0/\s.F 3=.d (.int .i64) k/\s.H 0=Ua (.vec YN xs):=by
 unfold cmO at h;split at h;.rename_i k xs b c e;simp[Z4]at h;exact⟨xs,k,h.symm,b,c,e⟩
 simp at h
theorem Zme{s r}(h:cmI s=Ua r):∃xs k b n k2,r=.inn xs k b n k2/\s.F 0=.vw 0/\s.F 3=.d (.int .i64) k/\s.F 4=.vs 0 b n/\s.F 5=.d (.int .i64) k2/\s.H 0=Ua (.vec YN xs):=by
 unfold cmI at h;split at h;.rename_i k b n k2 xs c e f i j;simp[Z4]at h;exact⟨xs,k,b,n,k2,h.symm,c,e,f,i,j⟩
 simp at h
theorem Zmn{B s w g c a}(j:SR EC B s w g c a){xs:J7}{k:Int}(e:s.F 0=.vw 0)(f:s.F 3=.d (.int .i64) k)(i:s.H 0=Ua (.vec YN xs)):SR EC B (ZfF xs k s.nx) w g c a:=by
 refine j.sub _ _ (λt=>?_) λid o h=>?_
 .split
  .exact .inr e.symm
  .exact .inr f.symm
  exact .inl rfl
 cases b:Nat.beq id 0 with
 |true=>have:=Vb b;subst this;rw[i];exact h
 |false=>rw[b]at h;simp at h
theorem Zmm{B s w g e a}(p:SR EC B s w g e a){xs:J7}{k k2:Int}{c n}(f:s.F 0=.vw 0)(i:s.F 3=.d (.int .i64) k)(j:s.F 4=.vs 0 c n)(l:s.F 5=.d (.int .i64) k2)(m:s.H 0=Ua (.vec YN xs)):SR EC B (ZfE xs k c n k2 s.nx) w g e a:=by
 refine p.sub _ _ (λt=>?_) λid o h=>?_
 .split
  .exact .inr f.symm
  .exact .inr i.symm
  .exact .inr j.symm
  .exact .inr l.symm
  exact .inl rfl
 cases b:Nat.beq id 0 with
 |true=>have:=Vb b;subst this;rw[m];exact h
 |false=>rw[b]at h;simp at h
theorem Dx:Tryz.prog.follows .mixedOrders=true:=by kernel_rfl
theorem Zt2:Zcx=.seq Ziu (.seq (.block 1 (.seq Zix (.cond (.tmp 25) ZdM .skip))) Ziw):=by kernel_rfl
section
variable {B:KR}{w:World}{g:Gh}{a:Act}{z:J7}
theorem Zt3(W:JO Tryz.prog EC B){Q}(U:∀m r E t x p s,SR EC B E t x p s->Lk EC w g a t x s->E.fz=[]->Kr Ziy .leaf EC K9 E RW=Ua r->HJ m r=Ua z->Q .normal s t)
 m xs k d n k2 nx {w1}{v}{o}{u} (c:HJ m (.inn xs k d n k2)=Ua z) (hs:SR EC B (ZfE xs k d n k2 nx) w1 v o u) (hl:Lk EC w g a w1 v u):
 (Code.block 2 (.loop Ziv)).wp Tryz.prog Q u w1:=by
 refine wp_block (Zdl (λm H M=>∃xs k d n k2 nx I D,HJ m (.inn xs k d n k2)=Ua z/\SR EC B (ZfE xs k d n k2 nx) M I D H/\Lk EC w g a M I H) ⟨xs,k,d,n,k2,nx,v,o,c,hs,hl⟩ ?_);rintro m s t ⟨xs,k,d,n,k2,nx,x,p,c,y,h⟩
 cases m with
 |zero=>simp[HJ]at c
 |succ m=>
 simp[HJ,Va]at c;have⟨r,K,c⟩:=c;rw[<-ZtX xs k d n k2 nx]at K;refine wp_mono (WD Dx Ziv .leaf EC K9 _ _ r GN W K y) ?_;rintro e N w3 ⟨ex,L,J,q,rfl,j,f,b⟩
 cases ex with
 |normal=>
  obtain⟨F,k',C,n',A,rfl,O,P,R,S,T⟩:=Zme b
  exact⟨m,Vc m,F,k',C,n',A,L.nx,J,q,c,Zmm j O P R S T,h.trans f.lk⟩
 |exit i=>
  match i,b with
  |2,b=>
   simp[Exit.inBlock]
   exact U m r L w3 J q N j (h.trans f.lk) f.fz b c
 |ret=>simp at b
 |jump l=>simp at b
abbrev ZdN(xs:J7):AS:=⟨(Z5 Gs (xs,()) 0).1.toF,WM (Z5 Gs (xs,()) 0).2.1,(Z5 Gs (xs,()) 0).2.2,[]⟩
noncomputable abbrev cmK(xs:J7)(e:Ex)(s:AS):Option J7:=(YO EC Tryz.f63.results Gs ZfD [] e s).bind λy=>bif DF (X4 Gs 0) (Z5 Gs (xs,()) 0).1 (WM (Z5 Gs (xs,()) 0).2.1) s [] then Ua y.2.1 else Ub
theorem Ziz{xs ex m r d w1 f c e}(n:SR EC B d w1 f c e)(k:Lk EC w g a w1 f e)(h:d.fz=[])(b:RW ex d=Ua r)(j:HJ m r=Ua z):ex=.ret/\WY EC B (ZdN xs) w g a (cmK xs) z .ret e w1:=by
 cases ex with
 |ret=>
  simp only[RW,Va,Z4]at b;obtain⟨y,o,rfl⟩:=b;have p:y.2.1=z:=by cases m<;>simpa[HJ] using j
  refine⟨rfl,.ret,d,f,c,rfl,n,⟨k,h,by simp⟩,?_⟩;show (YO EC Tryz.f63.results Gs ZfD [] .ret d).bind _=_;rw[o]
  simp[DF,p]
 |normal=>simp[RW]at b
 |exit i=>simp[RW]at b
 |jump l=>simp[RW]at b
theorem Zt4(q:JO Tryz.prog EC B) p m xs k nx{w1 J E I}(n:HJ m (.out xs k)=Ua z)(hs:SR EC B (ZfF xs k nx) w1 J E I)(hl:Lk EC w g a w1 J I):
 (Code.block 0 (.loop Zcx)).wp Tryz.prog (Exit.then (Zit.wp Tryz.prog (WY EC B (ZdN p) w g a (cmK p) z)) (WY EC B (ZdN p) w g a (cmK p) z)) I w1:=by
 refine wp_block (Zdl (λm a' w' =>∃xs k nx g' b2,HJ m (.out xs k)=Ua z/\SR EC B (ZfF xs k nx) w' g' b2 a' /\Lk EC w g a w' g' a') ⟨xs,k,nx,J,E,n,hs,hl⟩ ?_);rintro m a2 w2 ⟨xs,k,nx,g2,b4,n,U,A⟩
 cases m with
 |zero=>simp[HJ]at n
 |succ m=>
 simp[HJ,Va]at n;have⟨r,hr,n⟩:=n;rw[<-ZtZ xs k nx]at hr;rw[Zt2];refine wp_seq (wp_mono (WD Dx Ziu .leaf EC K9 _ _ r GN q hr U) ?_);rintro e a3 w3 ⟨ex,s3,g3,b5,rfl,D,u,f⟩
 cases ex with
 |ret=>simp at f
 |jump l=>simp at f
 |exit i=>
  match i,f with
  |0,f=>
   simp[if_true];refine wp_mono (WD Dx Zit .leaf EC K9 _ _ r GN q f D) ?_;rintro e a4 w4 ⟨ex,s4,g4,b3,rfl,j,o,b⟩;obtain⟨rfl,T⟩:=Ziz j ((A.trans u.lk).trans o.lk) (o.fz.trans u.fz) b n
   exact T
 |normal=>
  refine wp_seq (wp_block (wp_seq (wp_mono (WD Dx Zix .leaf EC K9 _ _ r GN q f D) ?_)));rintro e a4 w4 ⟨ex,s4,g4,b3,rfl,j,o,b⟩;have s:=(A.trans u.lk).trans o.lk
  cases ex with
  |ret=>simp at b
  |jump l=>simp at b
  |exit i=>simp at b
  |normal=>
  simp at b;split at b;case h_2=>simp at b
  rename_i t ht;have hv:=j.fr.eval (.tmp 25);rw[show Zz s4.F (.tmp 25)=.d .bool t from ht]at hv;refine wp_cond hv.bool ?_
  cases t with
  |true=>
   simp[Zf]at b;simp[if_true];refine wp_seq (wp_mono (WD Dx Zmj .leaf EC K9 _ _ r GN q b j) ?_);rintro e a5 w5 ⟨ex,s5,g5,H,rfl,x,v,c⟩
   cases ex with
   |ret=>simp at c
   |jump l=>simp at c
   |exit i=>simp at c
   |normal=>
   simp at c;refine wp_seq (wp_seq (wp_mono (WD Dx Zmk .leaf EC K9 _ _ r GN q c x) ?_));rintro e a6 w6 ⟨ex,s6,g6,b6,rfl,W,R,h⟩
   cases ex with
   |ret=>simp at h
   |jump l=>simp at h
   |exit i=>simp at h
   |normal=>
   simp at h;obtain⟨y,k',b1,n',b0,rfl,K,L,h4,h5,M⟩:=Zme h;refine Zt3 q ?_ m y k' b1 n' b0 s6.nx n (Zmm W K L h4 h5 M) ((s.trans v.lk).trans R.lk);intro m' r' s7 w7 g7 b7 a7 a0 S N P O;refine wp_mono (WD Dx Ziy .leaf EC K9 _ _ r' GN q P a0) ?_;rintro e a8 w8 ⟨ex,s8,g8,b8,rfl,a9,C,Q⟩;obtain⟨rfl,T⟩:=Ziz a9 (S.trans C.lk) (C.fz.trans N) Q O
   exact T
  |false=>
   simp[Ze]at b;refine wp_skip ?_;refine wp_mono (WD Dx Ziw .leaf EC K9 _ _ r GN q b j) ?_;rintro e a5 w5 ⟨ex,s5,g5,H,rfl,x,v,c⟩
   cases ex with
   |ret=>simp at c
   |jump l=>simp at c
   |exit i=>simp at c
   |normal=>
   simp at c;obtain⟨y,k',rfl,K,L,M⟩:=Zmg c;exact⟨m,Vc m,y,k',s5.nx,g5,H,n,Zmn x K L M,s.trans v.lk⟩
end
theorem Zt5{B w g C a z xs}(h:cmF xs=Ua z)(m:JO Tryz.prog EC B)(y:SR EC B (ZdN xs) w g C a):(Wh Tryz.f63).wp Tryz.prog (WY EC B (ZdN xs) w g a (cmK xs) z) a w:=by
 unfold cmF at h;rw[<-Zt1,Va]at h;have⟨r,x,s⟩:=h;refine wp_seq (wp_mono (WD Dx Zmh .leaf EC K9 _ _ r GN m x y) ?_);rintro e I Q ⟨ex,O,L,D,rfl,o,f,b⟩
 cases ex with
 |ret=>simp at b
 |jump l=>simp at b
 |exit i=>simp at b
 |normal=>
 simp at b;refine wp_seq (wp_mono (WD Dx cmA .leaf EC K9 _ _ r GN m b o) ?_);rintro e J R ⟨ex,P,M,E,rfl,k,j,c⟩
 cases ex with
 |jump l=>simp at c
 |exit i=>simp at c
 |ret=>exact(Ziz k (f.lk.trans j.lk) (j.fz.trans f.fz) c s).2
 |normal=>
 simp at c;refine wp_seq (wp_seq (wp_mono (WD Dx Zmi .leaf EC K9 _ _ r GN m c k) ?_));rintro e K S ⟨ex,H,N,F,rfl,p,n,d⟩
 cases ex with
 |ret=>simp at d
 |jump l=>simp at d
 |exit i=>simp at d
 |normal=>
 simp at d;obtain⟨q,A,rfl,t,u,v⟩:=Zmg d;exact Zt4 m xs 100 q A H.nx s (Zmn p t u v) ((f.lk.trans j.lk).trans n.lk)
theorem cmp_ok:ZR Tryz.prog 63 Zmq:=
 have key:Zb9 Tryz.prog 63 Zmq:=ZmS GN (λf S h=>absurd h (by simp[EC,mkE])) (λ_ _ _ f h e=>absurd (show Ub=Ua h from e) (by simp)) Tryz.func63 (by kernel_rfl) rfl rfl rfl (λy=>rfl) (λ_ f T h=>absurd h (by simp[EC,mkE])) (λx z q=>λo p=>Zt5 q o p)
 {wf:=rfl
  fn:=⟨_,Tryz.func63,by kernel_rfl,by kernel_rfl⟩
  run:=λw I b r x z c d i j k l=>(key w I b r x z c d i j k l).mono λe t ⟨s,m,n,_⟩=>⟨s,m,n⟩ }
end Tr
