/- number.Format: the goto goes on until no digit is left. Conditions: none. -/
import Derived.Test.YtdpenljjnfmgiaaGreatProg
import Derived.KernelRfl
import Derived.ScopeJumps
import Derived.Test.YtdpenljjnfmgiaaGreatETsF
open Int renaming tmod ->Ve
open Go.IntKind renaming wrap ->Va
open List renaming set ->Vd
open Option renaming bind ->Vb,bind_eq_some_iff ->Vc
open Go.Value renaming int ->Vf
open Option renaming some ->Ua,none ->Ub
open Bool renaming true ->Uc,false ->Ud
open Decidable renaming decide ->Ue
namespace Tr
open Go Go.Proofs
def tyF:List (Nat×Ty):=[(3,.int .i64),(4,.bool),(5,.int .u8),(9,.str),(183,.arr 20 (.int .u8)),(184,.int .u64),(185,.sl (.int .u8))]
def EF:Kh:=mkE tyF [] [] [] [] [] 33
noncomputable def fmR:Code:=match Wh Tryz.f65 with|.seq r _=>r|c=>c
noncomputable def fmC:Code:=match Wh Tryz.f65 with|.seq _ (.scope c)=>c|c=>c
noncomputable def fmL:Code:=(findLabel fmC 0).getD .skip
abbrev Dh:=(Int×Int×Int×List Int) ⊕ List UInt8
def Rg:Ex->AS->Option Dh
 |.jump 0,s=>match s.F 0,s.F 3,s.F 4,s.F 5,s.H 64 with
  |.d (.int .i64) n,.ptr 64 [],.d (.int .i64) i,.d (.int .u64) m,Ua (.var (.arr 20 (.int .u8)) (.d (.arr 20 (.int .u8)) b))=>Ua (.inl (n,i,m,b))
  |_,_,_,_,_=>Ub
 |.ret,s=>match s.F 2 with
  |.d .str x=>Ua (.inr x)
  |_=>Ub
 |_,_=>Ub
def R0(n:Int)(i m:Int)(b:List Int)(nx:Nat):AS:=⟨λk=>match k with
    |0=>.d (.int .i64) n
    |3=>.ptr 64 []
    |4=>.d (.int .i64) i
    |5=>.d (.int .u64) m
    |_=>.junk,λk=>bif Nat.beq k 64 then Ua (.var (.arr 20 (.int .u8)) (.d (.arr 20 (.int .u8)) b)) else Ub,nx,[]⟩
def fmB(n:Int):AS:=⟨(ZF.cons (.d (.int .i64) n) .nil).toF,λ_=>Ub,0,[]⟩
noncomputable def Zvl(n i m:Int)(b:List Int)(nx:Nat):Option Dh:=Kr fmL .leaf EF Dh (R0 n i m b nx) Rg
noncomputable def Zvn(n:Int):Option Dh:=Kr fmR .leaf EF Dh (fmB n) λe s=>match e with
 |.normal=>Kr fmC .leaf EF Dh s Rg
 |_=>Ub
def ZcI(n i m:Int)(b:List Int):Option Dh:=
 Vb (Zo (Va .i64 (i - 1)) 20) λc=>
  Vb b[c]? λ_=>
   bif Ue (0<Va .u64 (Int.tdiv m (10:Int))) then
    Ua (.inl (n,Va .i64 (i - 1),Va .u64 (Int.tdiv m (10:Int)),Vd b c (Va .u8 (Va .u64 (48+Ve m (10:Int))))))
   else
    bif Ue (n<0) then
     Vb (Zo (Va .i64 (Va .i64 (i - 1) - 1)) 20) λf=>
      Vb (Vd b c (Va .u8 (Va .u64 (48+Ve m (10:Int)))))[f]? λ_=>
       Vb (sliceB 20 20 (Ua (Va .i64 (Va .i64 (i - 1) - 1))) Ub) λd=>
        Ua (.inr (Zfq (List.take (d.2 - d.1) (List.drop d.1 (Vd (Vd b c (Va .u8 (Va .u64 (48+Ve m (10:Int))))) f 45)))))
    else
     Vb (sliceB 20 20 (Ua (Va .i64 (i - 1))) Ub) λe=>
      Ua (.inr (Zfq (List.take (e.2 - e.1) (List.drop e.1 (Vd b c (Va .u8 (Va .u64 (48+Ve m (10:Int)))))))))
theorem Zvm n i m b nx:Zvl n i m b nx=ZcI n i m b:=by kernel_rfl
def fmZ:List Int:=List.replicate 20 0
theorem Zvo n:Zvn n=bif Ue (n<0) then ZcI n 20 (Va .u64 (0 - Va .u64 n)) fmZ else ZcI n 20 (Va .u64 n) fmZ:=by kernel_rfl
def ZbC:Nat->Dh->Option (List UInt8)
 |_,.inr x=>Ua x
 |0,.inl _=>Ub
 |k+1,.inl s=>(ZcI s.1 s.2.1 s.2.2.1 s.2.2.2).bind (ZbC k)
def fmtF(n:Int):Option (List UInt8):=(bif Ue (n<0) then ZcI n 20 (Va .u64 (0 - Va .u64 n)) fmZ else ZcI n 20 (Va .u64 n) fmZ).bind (ZbC 25)
section
variable {P:Program}{a:Act}{w:World}{Q:Exit->Act->World->Prop}
theorem ZAc{c rest} l(Inv:Nat->Act->World->Prop)(r:findLabel c l=Ua rest)
 (first:c.wp P (Exit.jump l (λa w=>∃m,Inv m a w) Q) a w)
 (pass:∀n a w,Inv n a w->rest.wp P (Exit.jump l (λd w' =>∃m,m<n/\Inv m d w') Q) a w):(Code.scope c).wp P Q a w:=by
 classical
 have b:∀a w,(∃n,Inv n a w)->∃n,Inv n a w/\∀m,Inv m a w->n<=m:=by
  intro a w ⟨n,s⟩
  induction n using Nat.strongRecOn with
  |_ n t=>
   by_cases h:∃m,m<n/\Inv m a w;.have⟨m,g,q⟩:=h;exact t m g q
   exact⟨n,s,λm k=>Nat.le_of_not_lt λp=>h ⟨m,p,k⟩⟩
 refine wp_scope_jumps l (λa w=>∃n,Inv n a w) (λa w=>if h:∃n,Inv n a w then(b a w h).choose else 0) r first λa w j=>?_
 have i:=(b a w j).choose_spec;refine wp_mono (pass _ a w i.1) λe d w' o=>?_
 cases e with
 |goto u=>
  have⟨g,m,k,f⟩:=o;refine⟨g,⟨m,f⟩,?_⟩;simp[dif_pos j,dif_pos (show∃n,Inv n d w' from ⟨m,f⟩)];have:=(b d w' ⟨m,f⟩).choose_spec.2 m f
  omega
 |_=>exact o
end
def ZdX:Spec:={args:=.cons (.pd (.int .i64)) .nil,res:=.cons (.pd .str) .nil,fns:=[],α:=List UInt8,f:=λx=>fmtF x.1,unp:=λz=>(((),()),(z,()))}
theorem ZeV:Z0 Tryz.prog EF:=typesOk_of (pks:=[]) (by kernel_rfl) rfl rfl rfl rfl λ_ h=>absurd (show Ud=Uc from h) (by decide)
theorem Zvp{B}{n i m:Int}{f:List Int}{s w g u a}(c:SR EF B s w g u a)(v:s.F 0=.d (.int .i64) n)(y:s.F 3=.ptr 64 [])(z:s.F 4=.d (.int .i64) i)(A:s.F 5=.d (.int .u64) m)(C:s.H 64=Ua (.var (.arr 20 (.int .u8)) (.d (.arr 20 (.int .u8)) f))):SR EF B (R0 n i m f s.nx) w g u a where
 rh:=by
  have e:∀k o,(R0 n i m f s.nx).H k=Ua o->s.H k=Ua o:=by
   intro k o h;simp[R0]at h
   cases p:Nat.beq k 64 with
   |true=>have:=Nat.eq_of_beq_eq_true p;subst this;rw[C];exact h
   |false=>rw[p]at h;simp at h
  have l:∀k,(R0 n i m f s.nx).H k≠Ub->s.H k≠none:=by
   intro k h
   cases q:(R0 n i m f s.nx).H k with
   |none=>exact absurd q h
   |some o=>rw[e k o q];simp
  exact {objs:=λk o h=>c.rh.objs k o (e k o h),dist:=λk r b j x=>c.rh.dist k r b (l k j) (l r x),sep:=λk b j=>c.rh.sep k b (l k j),ilt:=c.rh.ilt,inew:=c.rh.inew,os:=c.rh.os,tape:=c.rh.tape,output:=c.rh.output,size:=c.rh.size,kept:=c.rh.kept}
 fr:=λt=>by
  simp only[R0];split;.rw[<-v];exact c.fr 0
  .rw[<-y];exact c.fr 3
  .rw[<-z];exact c.fr 4
  .rw[<-A];exact c.fr 5
  exact Gi
 nt:=c.nt
 df:=c.df
 ids:=c.ids
 fz:=λid h=>by simp[R0]at h
theorem Zvj{l s r}(h:Rg (.jump l) s=Ua r):l=0/\∃n i m b,r=.inl (n,i,m,b)/\s.F 0=.d (.int .i64) n/\s.F 3=.ptr 64 []/\s.F 4=.d (.int .i64) i/\s.F 5=.d (.int .u64) m/\s.H 64=Ua (.var (.arr 20 (.int .u8)) (.d (.arr 20 (.int .u8)) b)):=by
 cases l with
 |succ l=>simp[Rg]at h
 |zero=>
  refine⟨rfl,?_⟩;simp[Rg]at h;split at h;.rename_i n i m b c e f g j;simp[Z4]at h;exact⟨n,i,m,b,h.symm,c,e,f,g,j⟩
  simp at h
theorem Zvk{s r}(h:Rg .ret s=Ua r):∃x,r=.inr x/\s.F 2=.d .str x:=by
 simp[Rg]at h;split at h;.rename_i x b;simp[Z4]at h;exact⟨x,h.symm,b⟩
 simp at h
theorem fmt_ok:ZR Tryz.prog 65 ZdX where
 wf:=rfl
 fn:=⟨_,Tryz.func65,by kernel_rfl,by kernel_rfl⟩
 run:=by
  intro w I c6 js x (z:List UInt8) b5 c7 a8 hI amb hz;obtain⟨j1,j2,v,r,rfl,rfl,⟨b4,a7⟩,rfl,rfl⟩:=b5;obtain⟨rfl,b9⟩:=b4;have a4:Kb v=false:=a7.resolve_left λh=>by cases h
  have R:v=.int .i64 x.1:=K3 b9 a4;subst R;have hz:fmtF x.1=Ua z:=hz;have⟨n,⟨⟩⟩:=x;unfold fmtF at hz;rw[<-Zvo,Vc]at hz;have⟨r0,b6,b0⟩:=hz
  let B:KR:={w0:=w,own0:=(· ∈([]++[])),I0:=I,pl:=Uc}
  let g0:Gh:={I:=I,K:=λ_=>False,ty:=λ_=>.unit,blk:=λ_=>Ub,slv:=λ_=>undef,ver:=λ_=>0,row:=λ_ _ _=>undef}
  have hS:JO Tryz.prog EF B:=⟨λf S h=>absurd h (by simp[EF,mkE]),λh=>absurd h (by simp[B]),λ_ f S h=>absurd h (by simp[EF,mkE]),λf h e=>absurd (show Ub=Ua h from e) (by simp)⟩
  let W:Act:={tmps:=[Vf .i64 n].toArray++Array.replicate (Tryz.f65.ntmps - [Vf .i64 n].toArray.size) undef,defers:=[] }
  have c1:SR EF B (fmB n) w g0 (λ_ _=>False) W:={
   rh:={
    objs:=λ_ _ h=>by simp[fmB]at h
    dist:=λ_ _ _ h=>by simp[fmB]at h
    sep:=λ_ _ h=>by simp[fmB]at h
    ilt:=hI
    inew:=λb N=>.inl N
    os:=rfl
    tape:=rfl
    output:=.rfl
    size:=Nat.le_refl _
    kept:=λ_ _ _=>rfl}
   fr:=λt=>by have h1:Jd w g0 (.cons (.d (.int .i64) n) .nil) [Vf .i64 n]:=⟨_,[],rfl,(Xb .i64 n).to1 (by simp),rfl⟩;have:=Zhd h1 (Tryz.f65.ntmps - 1) t;simpa[W,fmB,Array.getD_eq_getD_getElem?,List.getD_eq_getElem?_getD,<-Array.getElem?_toList] using this
   nt:=by kernel_rfl
   df:=rfl
   ids:=λid h=>h.elim
   fz:=λid h=>by simp[fmB]at h}
  have a5:∀{s'}{y}{E}{A}{C},SR EF B s' y E A C->Lk EF w g0 W y E C->s'.F 2=.d .str z->C.defers=[]/\∃v,(results Tryz.f65 C.tmps).run Tryz.prog y=.ok v y/\∃rv,Ending.returned v=.returned rv/\Rv ZdX w I ([]++[]) [.int .i64 n] (ZdX.unp z) rv y:=by
   intro s' y E A C g hl c5;refine⟨g.df,?_⟩;have a6:Tryz.f65.results.toList=[.tmp 2]:=by kernel_rfl
   have⟨d0,b7,b8⟩:=Zey ZeV g.rh g.fr Tryz.f65.results.toList (.cons (s'.F 2) .nil) [] [] (by rw[a6];rfl);obtain⟨v,r,rfl,R,O⟩:=b8;have O:r=[]:=O;subst O;rw[c5]at R;have R:=R.str;subst R;refine⟨Zaj _,Zkm b7,_,rfl,E.I,[],[],⟨[],[],_,_,rfl,rfl,rfl,rfl⟩,⟨[.string ⟨z.toArray⟩],⟨[],[],_,_,rfl,rfl,⟨⟨rfl,rfl⟩,.inr rfl⟩,rfl,rfl⟩,rfl⟩,by simp,by simp,λb N=>hl.le.I b N,λb N=>⟨g.rh.ilt b N,g.rh.inew b N⟩,g.rh.os,g.rh.tape,g.rh.output,g.rh.size,λb h1 h2=>g.rh.kept b h1 h2⟩
  have hmix:Tryz.prog.follows .mixedOrders=true:=by kernel_rfl
  refine calls_of_wp Tryz.func65 (c:=.seq fmR (.scope fmC)) (by kernel_rfl) ?_;refine wp_seq (wp_mono (WD hmix fmR .leaf EF Dh (fmB n) _ r0 ZeV hS b6 c1) ?_);rintro e a1 w1 ⟨ex,s1,g1,c8,rfl,c2,b2,q⟩
  cases ex with
  |exit i=>simp at q
  |ret=>simp at q
  |jump i=>simp at q
  |normal=>
  simp at q
  let Inv:Nat->Act->World->Prop:=λk C y=>∃T i m L nx E A,ZbC k (.inl (T,i,m,L))=Ua z/\SR EF B (R0 T i m L nx) y E A C/\Lk EF w g0 W y E C
  have s:∀{ex}{k}{r}{s2}{U}{M}{u}{H}{J},ZbC k r=Ua z->SR EF B s2 U M u H->Lk EF w g0 W U M H->Rg ex s2=Ua r->(∀a w,Inv k a w->J a w)->
   Exit.jump 0 J (bodyPost Tryz.prog Tryz.f65 λe y=>∃rv,e=.returned rv/\Rv ZdX w I ([]++[]) [.int .i64 n] (ZdX.unp z) rv y) (ZcA ex) H U:=by
   intro ex k r s2 U M u H J D p o j hJ
   cases ex with
   |normal=>simp[Rg]at j
   |exit i=>simp[Rg]at j
   |ret=>
    obtain⟨x,rfl,h2⟩:=Zvk j;have a9:x=z:=by cases k<;>simpa[ZbC] using D
    subst a9
    exact a5 p o h2
   |jump l=>
    obtain⟨rfl,T,i,m,L,rfl,h0,h3,h4,h5,hH⟩:=Zvj j;exact⟨rfl,hJ _ _ ⟨T,i,m,L,s2.nx,M,u,D,Zvp p h0 h3 h4 h5 hH,o⟩⟩
  refine ZAc 0 Inv (show findLabel fmC 0=Ua fmL by kernel_rfl) ?_ ?_;.refine wp_mono (WD hmix fmC .leaf EF Dh s1 _ r0 ZeV hS q c2) ?_;rintro e H U ⟨ex,s2,M,u,rfl,p,o,j⟩;exact s b0 p (b2.lk.trans o.lk) j λa w h=>⟨_,h⟩
  intro k H U ⟨T,i,m,L,nx,M,u,D,p,o⟩
  cases k with
  |zero=>simp[ZbC]at D
  |succ k=>
  simp[ZbC,Vc]at D;have⟨r,O,D⟩:=D;rw[<-Zvm T i m L nx]at O;refine wp_mono (WD hmix fmL .leaf EF Dh _ _ r ZeV hS O p) ?_;rintro e a3 w3 ⟨ex,s3,g3,c9,rfl,c4,b3,b1⟩;exact s D c4 (o.trans b3.lk) b1 λa w h=>⟨k,Nat.lt_succ_self k,h⟩
end Tr
