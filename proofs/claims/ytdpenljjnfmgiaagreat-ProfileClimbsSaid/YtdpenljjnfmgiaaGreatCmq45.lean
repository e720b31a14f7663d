/- slices.Compact of pairs does what cmF says. Conditions: none. -/
import Derived.Test.YtdpenljjnfmgiaaGreatCmp45
import Derived.Test.YtdpenljjnfmgiaaGreatEvalG
open Nat renaming eq_of_beq_eq_true ->Vb,lt_succ_self ->Vc
open Option renaming bind_eq_some_iff ->Va
namespace Tr
open Go Go.Proofs
def ZoJ:Spec:= {args:=ZjN,res:=Zoa,fns:=[],α:=CmL,f:=fun x=>cmF x.1,unp:=fun z=>(((),()),(z,())) }
theorem SR.sub{E:Env}{B:Za4}{s:AS}{w:World}{g:Gh}{ow:Nat->Nat->Prop}{a:Act}(hs:SR E B s w g ow a)(F' :Nat->AV)(H' :AH)(hF: ∀t,F' t= .junk\/F' t=s.F t)(hH: ∀k o,H' k=some o->s.H k=some o):SR E B ⟨F',H',s.nx,[]⟩ w g ow a where
 rh:=by
  have hn: ∀k,H' k≠none->s.H k≠none:=by
   intro k h
   cases hk:H' k with
   |none=>exact absurd hk h
   |some o=>rw[hH k o hk];simp
  exact {objs:=fun k o h=>hs.rh.objs k o (hH k o h),dist:=fun k k' b h1 h2=>hs.rh.dist k k' b (hn k h1) (hn k' h2),sep:=fun k b h1=>hs.rh.sep k b (hn k h1),ilt:=hs.rh.ilt,inew:=hs.rh.inew,os:=hs.rh.os,tape:=hs.rh.tape,output:=hs.rh.output,size:=hs.rh.size,kept:=hs.rh.kept}
 fr:=fun t=>by
  rcases hF t with h|h
  ·show VR w g (F' t) _;rw[h];exact Zcr
  ·show VR w g (F' t) _;rw[h];exact hs.fr t
 nt:=hs.nt
 df:=hs.df
 ids:=hs.ids
 fz:=fun id h=>by simp at h
theorem ZiT{s:AS}{r:CmS}(h:cmO s=some r): ∃xs k,r= .out xs k/\s.F 0= .vw 0/\s.F 3= .d (.int .i64) k/\s.H 0=some (.vec cmE xs):=by
 unfold cmO at h;split at h
 ·rename_i k xs h0 h3 hH;simp only[Option.some.injEq]at h;exact⟨xs,k,h.symm,h0,h3,hH⟩
 ·simp at h
theorem Zja{s:AS}{r:CmS}(h:cmI s=some r): ∃xs k lo n k2,r= .inn xs k lo n k2/\s.F 0= .vw 0/\s.F 3= .d (.int .i64) k/\s.F 4= .vs 0 lo n/\s.F 5= .d (.int .i64) k2/\s.H 0=some (.vec cmE xs):=by
 unfold cmI at h;split at h
 ·rename_i k lo n k2 xs h0 h3 h4 h5 hH;simp only[Option.some.injEq]at h;exact⟨xs,k,lo,n,k2,h.symm,h0,h3,h4,h5,hH⟩
 ·simp at h
theorem Zlb{B:Za4}{s:AS}{w:World}{g:Gh}{ow:Nat->Nat->Prop}{a:Act}(hs:SR EC B s w g ow a){xs:CmL}{k:Int}(h0:s.F 0= .vw 0)(h3:s.F 3= .d (.int .i64) k)(hH:s.H 0=some (.vec cmE xs)):SR EC B (Zn5 xs k s.nx) w g ow a:=by
 refine hs.sub _ _ (fun t=> ?_) fun id o h=> ?_
 ·split
  ·exact .inr h0.symm
  ·exact .inr h3.symm
  ·exact .inl rfl
 ·cases hb:Nat.beq id 0 with
  |true=>rw[hb]at h;have:=Vb hb;subst this;rw[hH];exact h
  |false=>rw[hb]at h;simp at h
theorem ZlB{B:Za4}{s:AS}{w:World}{g:Gh}{ow:Nat->Nat->Prop}{a:Act}(hs:SR EC B s w g ow a){xs:CmL}{k k2:Int}{lo n:Nat}(h0:s.F 0= .vw 0)(h3:s.F 3= .d (.int .i64) k)(h4:s.F 4= .vs 0 lo n)(h5:s.F 5= .d (.int .i64) k2)(hH:s.H 0=some (.vec cmE xs)):SR EC B (Zoc xs k lo n k2 s.nx) w g ow a:=by
 refine hs.sub _ _ (fun t=> ?_) fun id o h=> ?_
 ·split
  ·exact .inr h0.symm
  ·exact .inr h3.symm
  ·exact .inr h4.symm
  ·exact .inr h5.symm
  ·exact .inl rfl
 ·cases hb:Nat.beq id 0 with
  |true=>rw[hb]at h;have:=Vb hb;subst this;rw[hH];exact h
  |false=>rw[hb]at h;simp at h
theorem Zc2:Tryz.prog.follows .mixedOrders=true:=by kernel_rfl
theorem ZmX:Zbc Tryz.f63= .seq Zop (.seq cmA (.seq (.seq Zos (.block 0 (.loop Zfu))) ZjP)):=by kernel_rfl
theorem Znq:Zfu= .seq Zor (.seq (.block 1 (.seq ZoC (.cond (.tmp 25) Zeb .skip))) Zof):=by kernel_rfl
theorem Zl5:Zeb= .seq ZoD (.seq (.seq Zoo (.block 2 (.loop Zoi))) Zhq):=by kernel_rfl
section
variable {B:Za4}{w:World}{g:Gh}{a:Act}{z:CmL}
theorem Zok(hS:ZaU Tryz.prog EC B){Q:Exit->Act->World->Prop}(hQ: ∀m r s2 w2 g2 ow2 a2,SR EC B s2 w2 g2 ow2 a2->Lk EC w g a w2 g2 a2->s2.fz=[]->ZaQ Zhq .leaf EC CmS s2 cmX=some r->ZgP m r=some z->Q .normal a2 w2)
  (m:Nat) (xs:CmL) (k:Int) (lo n:Nat) (k2:Int) (nx:Nat) {w1:World}{g1:Gh}{ow1:Nat->Nat->Prop}{a1:Act} (hg:ZgP m (.inn xs k lo n k2)=some z) (hs:SR EC B (Zoc xs k lo n k2 nx) w1 g1 ow1 a1) (hl:Lk EC w g a w1 g1 a1):
  (Code.block 2 (.loop Zoi)).wp Tryz.prog Q a1 w1:=by
 refine wp_block (ZcF (fun m a' w' => ∃xs k lo n k2 nx g' ow',ZgP m (.inn xs k lo n k2)=some z/\SR EC B (Zoc xs k lo n k2 nx) w' g' ow' a' /\Lk EC w g a w' g' a') (n:=m) ⟨xs,k,lo,n,k2,nx,g1,ow1,hg,hs,hl⟩ ?_);rintro m a2 w2 ⟨xs,k,lo,n,k2,nx,g2,ow2,hg,hs2,hl2⟩
 cases m with
 |zero=>simp [ZgP]at hg
 |succ m=>
 simp only[ZgP,Va]at hg;obtain⟨r,hr,hg⟩:=hg;rw[<-ZlV xs k lo n k2 nx]at hr;refine wp_mono (ZaB Zc2 Zoi .leaf EC CmS _ _ r Zbo hS hr hs2) ?_;rintro e a3 w3 ⟨ex,s3,g3,ow3,rfl,hs3,hl3,hk3⟩
 cases ex with
 |normal=>
  obtain⟨xs',k',lo',n',k2',rfl,h0,h3,h4,h5,hH⟩:=Zja hk3
  exact⟨m,Vc m,xs',k',lo',n',k2',s3.nx,g3,ow3,hg,ZlB hs3 h0 h3 h4 h5 hH,hl2.trans hl3.lk⟩
 |exit i=>
  match i,hk3 with
  |2,hk3=>
   show Exit.inBlock 2 Q (.exit 2) a3 w3;simp only[Exit.inBlock,if_true]
   exact hQ m r s3 w3 g3 ow3 a3 hs3 (hl2.trans hl3.lk) hl3.fz hk3 hg
 |ret=>simp at hk3
 |jump l=>simp at hk3
abbrev Znp(xs:CmL):AS:=⟨(Zbj ZjN (xs,()) 0).1.toF,Zbw (Zbj ZjN (xs,()) 0).2.1,(Zbj ZjN (xs,()) 0).2.2,[]⟩
noncomputable abbrev cmK(xs:CmL)(e:Ex)(s:AS):Option CmL:=(Zeg EC Tryz.f63.results ZjN Zoa [] e s).bind fun y=>bif Zgk (ZaP ZjN 0) (Zbj ZjN (xs,()) 0).1 (Zbw (Zbj ZjN (xs,()) 0).2.1) s [] then some y.2.1 else none
theorem Zku{xs:CmL}{ex:Ex}{m:Nat}{r:CmS}{s1:AS}{w1:World}{g1:Gh}{ow1:Nat->Nat->Prop}{a1:Act}(hs:SR EC B s1 w1 g1 ow1 a1)(hl:Lk EC w g a w1 g1 a1)(hf:s1.fz=[])(hx:cmX ex s1=some r)(hg:ZgP m r=some z):ex= .ret/\Zhe EC B (Znp xs) w g a (cmK xs) z .ret a1 w1:=by
 cases ex with
 |ret=>
  simp only[cmX,Va,Option.some.injEq]at hx;obtain⟨y,hy,rfl⟩:=hx
  have hz:y.2.1=z:=by cases m<;>simpa [ZgP] using hg
  refine⟨rfl, .ret,s1,g1,ow1,rfl,hs,⟨hl,hf,by simp⟩, ?_⟩;show (Zeg EC Tryz.f63.results ZjN Zoa [] .ret s1).bind _=_;rw[hy]
  simp only[Option.bind_some,Zgk,cond_true,hz]
 |normal=>simp [cmX]at hx
 |exit i=>simp [cmX]at hx
 |jump l=>simp [cmX]at hx
theorem ZnG(hS:ZaU Tryz.prog EC B)(xs0:CmL)(m:Nat)(xs:CmL)(k:Int)(nx:Nat){w1:World}{g1:Gh}{ow1:Nat->Nat->Prop}{a1:Act}(hg:ZgP m (.out xs k)=some z)(hs:SR EC B (Zn5 xs k nx) w1 g1 ow1 a1)(hl:Lk EC w g a w1 g1 a1):
  (Code.block 0 (.loop Zfu)).wp Tryz.prog (Exit.then (ZjP.wp Tryz.prog (Zhe EC B (Znp xs0) w g a (cmK xs0) z)) (Zhe EC B (Znp xs0) w g a (cmK xs0) z)) a1 w1:=by
 refine wp_block (ZcF (fun m a' w' => ∃xs k nx g' ow',ZgP m (.out xs k)=some z/\SR EC B (Zn5 xs k nx) w' g' ow' a' /\Lk EC w g a w' g' a') (n:=m) ⟨xs,k,nx,g1,ow1,hg,hs,hl⟩ ?_);rintro m a2 w2 ⟨xs,k,nx,g2,ow2,hg,hs2,hl2⟩
 cases m with
 |zero=>simp [ZgP]at hg
 |succ m=>
 simp only[ZgP,Va]at hg;obtain⟨r,hr,hg⟩:=hg;rw[<-Zjr xs k nx]at hr;unfold Zlq at hr;rw[Znq];refine wp_seq (wp_mono (ZaB Zc2 Zor .leaf EC CmS _ _ r Zbo hS hr hs2) ?_);rintro e a3 w3 ⟨ex,s3,g3,ow3,rfl,hs3,hl3,hk3⟩
 cases ex with
 |ret=>simp at hk3
 |jump l=>simp at hk3
 |exit i=>
  match i,hk3 with
  |0,hk3=>
   show Exit.inBlock 0 (Exit.then (ZjP.wp Tryz.prog (Zhe EC B (Znp xs0) w g a (cmK xs0) z)) (Zhe EC B (Znp xs0) w g a (cmK xs0) z)) (.exit 0) a3 w3
   simp only[Exit.inBlock,if_true];show ZjP.wp Tryz.prog _ a3 w3;refine wp_mono (ZaB Zc2 ZjP .leaf EC CmS _ _ r Zbo hS hk3 hs3) ?_;rintro e a4 w4 ⟨ex,s4,g4,ow4,rfl,hs4,hl4,hk4⟩;obtain⟨rfl,hp⟩:=Zku (xs:=xs0) hs4 ((hl2.trans hl3.lk).trans hl4.lk) (hl4.fz.trans hl3.fz) hk4 hg
   exact hp
 |normal=>
  refine wp_seq (wp_block (wp_seq (wp_mono (ZaB Zc2 ZoC .leaf EC CmS _ _ r Zbo hS hk3 hs3) ?_)));rintro e a4 w4 ⟨ex,s4,g4,ow4,rfl,hs4,hl4,hk4⟩;have hl4' :=(hl2.trans hl3.lk).trans hl4.lk;have hf4:=hl4.fz.trans hl3.fz
  cases ex with
  |ret=>simp at hk4
  |jump l=>simp at hk4
  |exit i=>simp at hk4
  |normal=>
  simp only at hk4;split at hk4
  case h_2=>simp at hk4
  rename_i t ht;have hv:=hs4.fr.eval (.tmp 25);rw[show aev s4.F (.tmp 25)= .d .bool t from ht]at hv;refine wp_cond hv.bool ?_
  cases t with
  |true=>
   simp only[cond_true]at hk4;simp only[if_true];rw[Zl5];refine wp_seq (wp_mono (ZaB Zc2 ZoD .leaf EC CmS _ _ r Zbo hS hk4 hs4) ?_);rintro e a5 w5 ⟨ex,s5,g5,ow5,rfl,hs5,hl5,hk5⟩
   cases ex with
   |ret=>simp at hk5
   |jump l=>simp at hk5
   |exit i=>simp at hk5
   |normal=>
   simp only at hk5;refine wp_seq (wp_seq (wp_mono (ZaB Zc2 Zoo .leaf EC CmS _ _ r Zbo hS hk5 hs5) ?_));rintro e a6 w6 ⟨ex,s6,g6,ow6,rfl,hs6,hl6,hk6⟩
   cases ex with
   |ret=>simp at hk6
   |jump l=>simp at hk6
   |exit i=>simp at hk6
   |normal=>
   simp only at hk6;obtain⟨xs',k',lo',n',k2',rfl,h0,h3,h4,h5,hH⟩:=Zja hk6;refine Zok (w:=w) (g:=g) (a:=a) (z:=z) hS ?_ m xs' k' lo' n' k2' s6.nx hg (ZlB hs6 h0 h3 h4 h5 hH) ((hl4'.trans hl5.lk).trans hl6.lk);intro m' r' s7 w7 g7 ow7 a7 hs7 hl7 hf7 hk7 hg7;show Zhq.wp Tryz.prog _ a7 w7;refine wp_mono (ZaB Zc2 Zhq .leaf EC CmS _ _ r' Zbo hS hk7 hs7) ?_;rintro e a8 w8 ⟨ex,s8,g8,ow8,rfl,hs8,hl8,hk8⟩;obtain⟨rfl,hp⟩:=Zku (xs:=xs0) hs8 (hl7.trans hl8.lk) (hl8.fz.trans hf7) hk8 hg7
   exact hp
  |false=>
   simp only[cond_false]at hk4;refine wp_skip ?_;show Zof.wp Tryz.prog _ a4 w4;refine wp_mono (ZaB Zc2 Zof .leaf EC CmS _ _ r Zbo hS hk4 hs4) ?_;rintro e a5 w5 ⟨ex,s5,g5,ow5,rfl,hs5,hl5,hk5⟩
   cases ex with
   |ret=>simp at hk5
   |jump l=>simp at hk5
   |exit i=>simp at hk5
   |normal=>
   simp only at hk5;obtain⟨xs',k',rfl,h0,h3,hH⟩:=ZiT hk5;exact⟨m,Vc m,xs',k',s5.nx,g5,ow5,hg,Zlb hs5 h0 h3 hH,hl4'.trans hl5.lk⟩
end
theorem ZoA{B:Za4}{w:World}{g:Gh}{ow:Nat->Nat->Prop}{a:Act}{z xs:CmL}(h:cmF xs=some z)(hS:ZaU Tryz.prog EC B)(hs:SR EC B (Znp xs) w g ow a): (Zbc Tryz.f63).wp Tryz.prog (Zhe EC B (Znp xs) w g a (cmK xs) z) a w:=by
 unfold cmF at h;rw[<-ZjB,Va]at h;obtain⟨r,hr,hg⟩:=h;unfold ZjX at hr;rw[ZmX];refine wp_seq (wp_mono (ZaB Zc2 Zop .leaf EC CmS _ _ r Zbo hS hr hs) ?_);rintro e a1 w1 ⟨ex,s1,g1,ow1,rfl,hs1,hl1,hk1⟩
 cases ex with
 |ret=>simp at hk1
 |jump l=>simp at hk1
 |exit i=>simp at hk1
 |normal=>
 simp only at hk1;refine wp_seq (wp_mono (ZaB Zc2 cmA .leaf EC CmS _ _ r Zbo hS hk1 hs1) ?_);rintro e a2 w2 ⟨ex,s2,g2,ow2,rfl,hs2,hl2,hk2⟩
 cases ex with
 |jump l=>simp at hk2
 |exit i=>simp at hk2
 |ret=>exact(Zku (xs:=xs) hs2 (hl1.lk.trans hl2.lk) (hl2.fz.trans hl1.fz) hk2 hg).2
 |normal=>
 simp only at hk2;refine wp_seq (wp_seq (wp_mono (ZaB Zc2 Zos .leaf EC CmS _ _ r Zbo hS hk2 hs2) ?_));rintro e a3 w3 ⟨ex,s3,g3,ow3,rfl,hs3,hl3,hk3⟩
 cases ex with
 |ret=>simp at hk3
 |jump l=>simp at hk3
 |exit i=>simp at hk3
 |normal=>
 simp only at hk3;obtain⟨xs',k',rfl,h0,h3,hH⟩:=ZiT hk3;exact ZnG hS xs 100 xs' k' s3.nx hg (Zlb hs3 h0 h3 hH) ((hl1.lk.trans hl2.lk).trans hl3.lk)
theorem cmp_ok:ZaC Tryz.prog 63 ZoJ:=
 have key:ZeR Tryz.prog 63 ZoJ:=Zko (E:=EC) (fn:=Tryz.f63) (body:=Zbc Tryz.f63) (pack:=fun y=>y.2.1) Zbo (fun f S h=>absurd h (by simp [EC,mkE])) (fun _ _ _ f h e=>absurd (show none=some h from e) (by simp)) Tryz.func63 (by kernel_rfl) rfl rfl rfl (fun y=>rfl) (fun _ f T h=>absurd h (by simp [EC,mkE])) (fun x z hz=>fun hS hs=>ZoA (xs:=x.1) hz hS hs)
 {wf:=rfl
  fn:=⟨_,Tryz.func63,by kernel_rfl,by kernel_rfl⟩
  run:=fun w I vals js x z h1 h2 h3 h4 h5 h6=>(key w I vals js x z h1 h2 h3 h4 h5 h6).mono fun e w' ⟨rv,h7,h8,_⟩=>⟨rv,h7,h8⟩ }
end Tr
