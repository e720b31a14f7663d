/- number.Format: the goto goes on until no digit is left. Conditions: none. -/
import Derived.Test.YtdpenljjnfmgiaaGreatProg
import Derived.KernelRfl
import Derived.ScopeJumps
import Derived.Test.YtdpenljjnfmgiaaGreatTsJ
open Int renaming tmod ->Ve
open Go.IntKind renaming wrap ->Va
open List renaming set ->Vd
open Option renaming bind ->Vb,bind_eq_some_iff ->Vc
open Go.Value renaming int ->Vf
namespace Tr
open Go Go.Proofs
def tyF:List (Nat×Ty):=[(3, .int .i64),(4, .bool),(5, .int .u8),(9, .str),(183, .arr 20 (.int .u8)),(184, .int .u64),(185, .sl (.int .u8))]
def EF:Env:=mkE tyF [] [] [] [] [] 33
noncomputable def fmR:Code:=match Zcp Tryz.f65 with| .seq r _=>r|c=>c
noncomputable def fmC:Code:=match Zcp Tryz.f65 with| .seq _ (.scope c)=>c|c=>c
noncomputable def fmL:Code:=(findLabel fmC 0).getD .skip
abbrev FmS:=(Int×Int×Int×List Int) ⊕ List UInt8
def fmK:Ex->AS->Option FmS
 | .jump 0,s=>match s.F 0,s.F 3,s.F 4,s.F 5,s.H 64 with
  | .d (.int .i64) n, .ptr 64 [], .d (.int .i64) i, .d (.int .u64) m,some (.var (.arr 20 (.int .u8)) (.d (.arr 20 (.int .u8)) bs))=>some (.inl (n,i,m,bs))
  |_,_,_,_,_=>none
 | .ret,s=>match s.F 2 with
  | .d .str x=>some (.inr x)
  |_=>none
 |_,_=>none
def fmA(n:Int)(i m:Int)(bs:List Int)(nx:Nat):AS:=⟨fun k=>match k with
  |0=> .d (.int .i64) n
  |3=> .ptr 64 []
  |4=> .d (.int .i64) i
  |5=> .d (.int .u64) m
  |_=> .junk,fun k=>bif Nat.beq k 64 then some (.var (.arr 20 (.int .u8)) (.d (.arr 20 (.int .u8)) bs)) else none,nx,[]⟩
def fmB(n:Int):AS:=⟨(AVs.cons (.d (.int .i64) n) .nil).toF,fun _=>none,0,[]⟩
noncomputable def ZqU(n i m:Int)(bs:List Int)(nx:Nat):Option FmS:=Zbd fmL .leaf EF FmS (fmA n i m bs nx) fmK
noncomputable def ZpB(n:Int):Option FmS:=Zbd fmR .leaf EF FmS (fmB n) fun e s=>match e with
 | .normal=>Zbd fmC .leaf EF FmS s fmK
 |_=>none
def Zfb(n i m:Int)(bs:List Int):Option FmS:=
 Vb (inb (Va .i64 (i - (1:Int))) 20) fun x0=>
  Vb bs[x0]? fun _=>
   bif decide ((0:Int)<Va .u64 (Int.tdiv m (10:Int))) then
    some (.inl (n,Va .i64 (i - (1:Int)),Va .u64 (Int.tdiv m (10:Int)),Vd bs x0 (Va .u8 (Va .u64 ((48:Int)+Ve m (10:Int))))))
   else
    bif decide (n< (0:Int)) then
     Vb (inb (Va .i64 (Va .i64 (i - (1:Int)) - (1:Int))) 20) fun x2=>
      Vb (Vd bs x0 (Va .u8 (Va .u64 ((48:Int)+Ve m (10:Int)))))[x2]? fun _=>
       Vb (sliceB 20 20 (some (Va .i64 (Va .i64 (i - (1:Int)) - (1:Int)))) none) fun x4=>
        some (.inr (ZhU (List.take (x4.2 - x4.1) (List.drop x4.1 (Vd (Vd bs x0 (Va .u8 (Va .u64 ((48:Int)+Ve m (10:Int))))) x2 (45:Int))))))
    else
     Vb (sliceB 20 20 (some (Va .i64 (i - (1:Int)))) none) fun x5=>
      some (.inr (ZhU (List.take (x5.2 - x5.1) (List.drop x5.1 (Vd bs x0 (Va .u8 (Va .u64 ((48:Int)+Ve m (10:Int)))))))))
theorem Znf(n i m:Int)(bs:List Int)(nx:Nat):ZqU n i m bs nx=Zfb n i m bs:=by kernel_rfl
def fmZ:List Int:=List.replicate 20 0
theorem ZlK(n:Int):ZpB n=bif decide (n< (0:Int)) then Zfb n 20 (Va .u64 ((0:Int) - Va .u64 n)) fmZ else Zfb n 20 (Va .u64 n) fmZ:=by kernel_rfl
def Zpy:Nat->FmS->Option (List UInt8)
 |_, .inr x=>some x
 |0, .inl _=>none
 |k+1, .inl s=>(Zfb s.1 s.2.1 s.2.2.1 s.2.2.2).bind (Zpy k)
def fmtF(n:Int):Option (List UInt8):=(bif decide (n< (0:Int)) then Zfb n 20 (Va .u64 ((0:Int) - Va .u64 n)) fmZ else Zfb n 20 (Va .u64 n) fmZ).bind (Zpy 25)
section
variable {P:Program}{a:Act}{w:World}{Q:Exit->Act->World->Prop}
theorem ZlA{c rest:Code}(l:Nat)(Inv:Nat->Act->World->Prop)(hf:findLabel c l=some rest)
  (first:c.wp P (Exit.jump l (fun a w=> ∃m,Inv m a w) Q) a w)
  (pass: ∀n a w,Inv n a w->rest.wp P (Exit.jump l (fun a' w' => ∃m,m<n/\Inv m a' w') Q) a w): (Code.scope c).wp P Q a w:=by
 classical
 have hex: ∀a w,(∃n,Inv n a w)-> ∃n,Inv n a w/\ ∀m,Inv m a w->n<=m:=by
  intro a w ⟨n,hn⟩
  induction n using Nat.strongRecOn with
  |_ n ih=>
   by_cases h: ∃m,m<n/\Inv m a w
   ·obtain⟨m,h1,h2⟩:=h;exact ih m h1 h2
   ·exact⟨n,hn,fun m hm=>Nat.le_of_not_lt fun h' =>h ⟨m,h',hm⟩⟩
 refine wp_scope_jumps l (fun a w=> ∃n,Inv n a w) (fun a w=>if h: ∃n,Inv n a w then(hex a w h).choose else 0) hf first fun a w hI=> ?_
 have hsp:=(hex a w hI).choose_spec;refine wp_mono (pass _ a w hsp.1) fun e a' w' hq=> ?_
 cases e with
 |goto l' =>
  obtain⟨h1,m,hm,hi⟩:=hq;refine⟨h1,⟨m,hi⟩, ?_⟩;simp only[dif_pos hI,dif_pos (show∃n,Inv n a' w' from ⟨m,hi⟩)];have:=(hex a' w' ⟨m,hi⟩).choose_spec.2 m hi
  omega
 |_=>exact hq
end
def ZgA:Spec:= {args:= .cons (.pd (.int .i64)) .nil,res:= .cons (.pd .str) .nil,fns:=[],α:=List UInt8,f:=fun x=>fmtF x.1,unp:=fun z=>(((),()),(z,())) }
theorem ZfK:Zah Tryz.prog EF:=typesOk_of (pks:=[]) (bds:=[]) (show ZgM Tryz.prog tyF [] [] []=true by kernel_rfl) rfl rfl rfl rfl fun _ h=>absurd (show false=true from h) (by decide)
theorem Zom{B:Zbr}{n i m:Int}{bs:List Int}{s:AS}{w:World}{g:Gh}{ow:Nat->Nat->Prop}{a:Act}(hs:SR EF B s w g ow a)(h0:s.F 0= .d (.int .i64) n)(h3:s.F 3= .ptr 64 [])(h4:s.F 4= .d (.int .i64) i)(h5:s.F 5= .d (.int .u64) m)(hH:s.H 64=some (.var (.arr 20 (.int .u8)) (.d (.arr 20 (.int .u8)) bs))):SR EF B (fmA n i m bs s.nx) w g ow a where
 rh:=by
  have hsub: ∀k o,(fmA n i m bs s.nx).H k=some o->s.H k=some o:=by
   intro k o h;simp only[fmA]at h
   cases hb:Nat.beq k 64 with
   |true=>rw[hb]at h;have:=Nat.eq_of_beq_eq_true hb;subst this;rw[hH];exact h
   |false=>rw[hb]at h;simp at h
  have hn: ∀k,(fmA n i m bs s.nx).H k≠none->s.H k≠none:=by
   intro k h
   cases hk: (fmA n i m bs s.nx).H k with
   |none=>exact absurd hk h
   |some o=>rw[hsub k o hk];simp
  exact {objs:=fun k o h=>hs.rh.objs k o (hsub k o h),dist:=fun k k' b h1 h2=>hs.rh.dist k k' b (hn k h1) (hn k' h2),sep:=fun k b h1=>hs.rh.sep k b (hn k h1),ilt:=hs.rh.ilt,inew:=hs.rh.inew,os:=hs.rh.os,tape:=hs.rh.tape,output:=hs.rh.output,size:=hs.rh.size,kept:=hs.rh.kept}
 fr:=fun t=>by
  simp only[fmA];split
  ·rw[<-h0];exact hs.fr 0
  ·rw[<-h3];exact hs.fr 3
  ·rw[<-h4];exact hs.fr 4
  ·rw[<-h5];exact hs.fr 5
  ·exact Zdj
 nt:=hs.nt
 df:=hs.df
 ids:=hs.ids
 fz:=fun id h=>by simp [fmA]at h
theorem ZnW{l:Nat}{s:AS}{r:FmS}(h:fmK (.jump l) s=some r):l=0/\ ∃n i m bs,r= .inl (n,i,m,bs)/\s.F 0= .d (.int .i64) n/\s.F 3= .ptr 64 []/\s.F 4= .d (.int .i64) i/\s.F 5= .d (.int .u64) m/\s.H 64=some (.var (.arr 20 (.int .u8)) (.d (.arr 20 (.int .u8)) bs)):=by
 cases l with
 |succ l=>simp [fmK]at h
 |zero=>
  refine⟨rfl, ?_⟩;simp only[fmK]at h;split at h
  ·rename_i n i m bs h0 h3 h4 h5 hH;simp only[Option.some.injEq]at h;exact⟨n,i,m,bs,h.symm,h0,h3,h4,h5,hH⟩
  ·simp at h
theorem Zp6{s:AS}{r:FmS}(h:fmK .ret s=some r): ∃x,r= .inr x/\s.F 2= .d .str x:=by
 simp only[fmK]at h;split at h
 ·rename_i x h2;simp only[Option.some.injEq]at h;exact⟨x,h.symm,h2⟩
 ·simp at h
theorem fmt_ok:ZaF Tryz.prog 65 ZgA where
 wf:=rfl
 fn:=⟨_,Tryz.func65,by kernel_rfl,by kernel_rfl⟩
 run:=by
  intro w I vals js x (z:List UInt8) hpv hnd hfree hI amb hz;obtain⟨j1,j2,v,r,rfl,rfl,⟨hpc,hag⟩,rfl,rfl⟩:=hpv;obtain⟨rfl,hrd⟩:=hpc;have hagv:Zav v=false:=hag.resolve_left fun h=>by cases h
  have hv:v= .int .i64 x.1:=Zal hrd hagv;subst hv;have hz:fmtF x.1=some z:=hz;obtain⟨n,⟨⟩⟩:=x
  change Int at n
  unfold fmtF at hz;rw[<-ZlK,Vc]at hz;obtain⟨r0,hr0,hgo⟩:=hz
  let B:Zbr:= {w0:=w,own0:=(· ∈([]++[]:List Nat)),I0:=I,pl:=true}
  let g0:Gh:= {I:=I,K:=fun _=>False,ty:=fun _=> .unit,blk:=fun _=>none,slv:=fun _=>undef,ver:=fun _=>0,row:=fun _ _ _=>undef}
  have hS:Zbg Tryz.prog EF B:=⟨fun f S h=>absurd h (by simp [EF,mkE]),fun h=>absurd h (by simp [B]),fun _ f S h=>absurd h (by simp [EF,mkE]),fun f h e=>absurd (show none=some h from e) (by simp)⟩
  let a0:Act:= {tmps:=[Vf .i64 n].toArray++Array.replicate (Tryz.f65.ntmps - [Vf .i64 n].toArray.size) undef,defers:=[] }
  have hs0:SR EF B (fmB n) w g0 (fun _ _=>False) a0:= {
   rh:= {
    objs:=fun _ _ h=>by simp [fmB]at h
    dist:=fun _ _ _ h=>by simp [fmB]at h
    sep:=fun _ _ h=>by simp [fmB]at h
    ilt:=hI
    inew:=fun b hb=> .inl hb
    os:=rfl
    tape:=rfl
    output:= .rfl
    size:=Nat.le_refl _
    kept:=fun _ _ _=>rfl}
   fr:=fun t=>by have h1:VRs w g0 (.cons (.d (.int .i64) n) .nil) [Vf .i64 n]:=⟨_,[],rfl,(Zbj .i64 n).to1 (by simp),rfl⟩;have:=ZkI h1 (Tryz.f65.ntmps - 1) t;simpa [a0,fmB,Array.getD_eq_getD_getElem?,List.getD_eq_getElem?_getD, <-Array.getElem?_toList] using this
   nt:=by kernel_rfl
   df:=rfl
   ids:=fun id h=>h.elim
   fz:=fun id h=>by simp [fmB]at h}
  have hfin: ∀ {s' :AS}{w' :World}{g' :Gh}{ow' :Nat->Nat->Prop}{a' :Act},SR EF B s' w' g' ow' a' ->Lk EF w g0 a0 w' g' a' ->s'.F 2= .d .str z->a'.defers=[]/\ ∃v,(results Tryz.f65 a'.tmps).run Tryz.prog w' = .ok v w' /\ ∃rv,Ending.returned v= .returned rv/\Zpc ZgA w I ([]++[]) [.int .i64 n] (ZgA.unp z) rv w' :=by
   intro s' w' g' ow' a' hs' hl hz2;refine⟨hs'.df, ?_⟩;have hres:Tryz.f65.results.toList=[.tmp 2]:=by kernel_rfl
   obtain⟨rvs,hr1,hr2⟩:=ZeP ZfK hs'.rh hs'.fr Tryz.f65.results.toList (.cons (s'.F 2) .nil) [] [] (by rw[hres];rfl);obtain⟨v,r,rfl,hv,hr⟩:=hr2;have hr:r=[]:=hr;subst hr;rw[hz2]at hv;have hv:=hv.str;subst hv;refine⟨Zoi _,Zex hr1,_,rfl,g'.I,[],[],⟨[],[],_,_,rfl,rfl,rfl,rfl⟩,⟨[.string ⟨z.toArray⟩],⟨[],[],_,_,rfl,rfl,⟨⟨rfl,rfl⟩, .inr rfl⟩,rfl,rfl⟩,rfl⟩,by simp,by simp,fun b hb=>hl.le.I b hb,fun b hb=>⟨hs'.rh.ilt b hb,hs'.rh.inew b hb⟩,hs'.rh.os,hs'.rh.tape,hs'.rh.output,hs'.rh.size,fun b h1 h2=>hs'.rh.kept b h1 h2⟩
  have hmix:Tryz.prog.follows .mixedOrders=true:=by kernel_rfl
  refine calls_of_wp Tryz.func65 (c:= .seq fmR (.scope fmC)) (by kernel_rfl) ?_;refine wp_seq (wp_mono (Zbb hmix fmR .leaf EF FmS (fmB n) _ r0 ZfK hS hr0 hs0) ?_);rintro e a1 w1 ⟨ex,s1,g1,ow1,rfl,hs1,hl1,hk1⟩
  cases ex with
  |exit i=>simp at hk1
  |ret=>simp at hk1
  |jump i=>simp at hk1
  |normal=>
  simp only at hk1
  let Inv:Nat->Act->World->Prop:=fun k a' w' => ∃n' i m bs nx g' ow',Zpy k (.inl (n',i,m,bs))=some z/\SR EF B (fmA n' i m bs nx) w' g' ow' a' /\Lk EF w g0 a0 w' g' a'
  have hstep: ∀ {ex:Ex}{k:Nat}{r:FmS}{s2:AS}{w2:World}{g2:Gh}{ow2:Nat->Nat->Prop}{a2:Act}{J:Act->World->Prop},Zpy k r=some z->SR EF B s2 w2 g2 ow2 a2->Lk EF w g0 a0 w2 g2 a2->fmK ex s2=some r->(∀a w,Inv k a w->J a w)->
    Exit.jump 0 J (bodyPost Tryz.prog Tryz.f65 fun e w' => ∃rv,e= .returned rv/\Zpc ZgA w I ([]++[]) [.int .i64 n] (ZgA.unp z) rv w') (Zo8 ex) a2 w2:=by
   intro ex k r s2 w2 g2 ow2 a2 J hg hs2 hl2 hk2 hJ
   cases ex with
   |normal=>simp [fmK]at hk2
   |exit i=>simp [fmK]at hk2
   |ret=>
    obtain⟨x,rfl,h2⟩:=Zp6 hk2
    have hg' :x=z:=by cases k<;>simpa [Zpy] using hg
    subst hg'
    exact hfin hs2 hl2 h2
   |jump l=>
    obtain⟨rfl,n',i,m,bs,rfl,h0,h3,h4,h5,hH⟩:=ZnW hk2;exact⟨rfl,hJ _ _ ⟨n',i,m,bs,s2.nx,g2,ow2,hg,Zom hs2 h0 h3 h4 h5 hH,hl2⟩⟩
  refine ZlA 0 Inv (show findLabel fmC 0=some fmL by kernel_rfl) ?_ ?_
  ·refine wp_mono (Zbb hmix fmC .leaf EF FmS s1 _ r0 ZfK hS hk1 hs1) ?_;rintro e a2 w2 ⟨ex,s2,g2,ow2,rfl,hs2,hl2,hk2⟩;exact hstep hgo hs2 (hl1.lk.trans hl2.lk) hk2 fun a w h=>⟨_,h⟩
  ·intro k a2 w2 ⟨n',i,m,bs,nx,g2,ow2,hg,hs2,hl2⟩
   cases k with
   |zero=>simp [Zpy]at hg
   |succ k=>
   simp only[Zpy,Vc]at hg;obtain⟨r,hr,hg⟩:=hg;rw[<-Znf n' i m bs nx]at hr;refine wp_mono (Zbb hmix fmL .leaf EF FmS _ _ r ZfK hS hr hs2) ?_;rintro e a3 w3 ⟨ex,s3,g3,ow3,rfl,hs3,hl3,hk3⟩;exact hstep hg hs3 (hl2.trans hl3.lk) hk3 fun a w h=>⟨k,Nat.lt_succ_self k,h⟩
end Tr
