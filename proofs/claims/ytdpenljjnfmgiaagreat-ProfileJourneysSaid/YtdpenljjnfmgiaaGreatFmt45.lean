/- number.Format: the goto goes on until no digit is left. Conditions: none. -/
import Derived.Test.YtdpenljjnfmgiaaGreatProg
import Derived.KernelRfl
import Derived.ScopeJumps
import Derived.Test.YtdpenljjnfmgiaaGreatETsF
open Int renaming tmod ->Ve
open Go.IntKind renaming wrap ->Va
open List renaming set ->Vd
open Option renaming bind ->Vb,bind_eq_some_iff ->Vc
open Go.Value renaming int ->Vf
open Option renaming some ->Ua,none ->Ub
open Bool renaming true ->Uc,false ->Ud
open Decidable renaming decide ->Ue
namespace Tr
open Go Go.Proofs
def tyF:List (Nat×Ty):=[(3,.int .i64),(4,.bool),(5,.int .u8),(9,.str),(183,.arr 20 (.int .u8)),(184,.int .u64),(185,.sl (.int .u8))]
def EF:Ka:=mkE tyF [] [] [] [] [] 33
noncomputable def fmR:Code:=match KX Tryz.f65 with|.seq r _=>r|c=>c
noncomputable def fmC:Code:=match KX Tryz.f65 with|.seq _ (.scope c)=>c|c=>c
noncomputable def fmL:Code:=(findLabel fmC 0).getD .skip
abbrev Y8:=(Int×Int×Int×List Int) ⊕ List UInt8
def Df:Ex->AS->Option Y8
 |.jump 0,s=>match s.F 0,s.F 3,s.F 4,s.F 5,s.H 64 with
  |.d (.int .i64) n,.ptr 64 [],.d (.int .i64) i,.d (.int .u64) m,Ua (.var (.arr 20 (.int .u8)) (.d (.arr 20 (.int .u8)) b))=>Ua (.inl (n,i,m,b))
  |_,_,_,_,_=>Ub
 |.ret,s=>match s.F 2 with
  |.d .str x=>Ua (.inr x)
  |_=>Ub
 |_,_=>Ub
def DX(n:Int)(i m:Int)(b:List Int)(nx:Nat):AS:=⟨fun k=>match k with
    |0=>.d (.int .i64) n
    |3=>.ptr 64 []
    |4=>.d (.int .i64) i
    |5=>.d (.int .u64) m
    |_=>.junk,fun k=>bif Nat.beq k 64 then Ua (.var (.arr 20 (.int .u8)) (.d (.arr 20 (.int .u8)) b)) else Ub,nx,[]⟩
def RP(n:Int):AS:=⟨(Zo.cons (.d (.int .i64) n) .nil).toF,fun _=>Ub,0,[]⟩
noncomputable def Zso(n i m:Int)(b:List Int)(nx:Nat):Option Y8:=Kp fmL .leaf EF Y8 (DX n i m b nx) Df
noncomputable def Zsq(n:Int):Option Y8:=Kp fmR .leaf EF Y8 (RP n) fun e s=>match e with
 |.normal=>Kp fmC .leaf EF Y8 s Df
 |_=>Ub
def ZbJ(n i m:Int)(b:List Int):Option Y8:=
 Vb (Zs (Va .i64 (i - (1:Int))) 20) fun c=>
  Vb b[c]? fun _=>
   bif Ue ((0:Int)<Va .u64 (Int.tdiv m (10:Int))) then
    Ua (.inl (n,Va .i64 (i - (1:Int)),Va .u64 (Int.tdiv m (10:Int)),Vd b c (Va .u8 (Va .u64 ((48:Int)+Ve m (10:Int))))))
   else
    bif Ue (n<(0:Int)) then
     Vb (Zs (Va .i64 (Va .i64 (i - (1:Int)) - (1:Int))) 20) fun f=>
      Vb (Vd b c (Va .u8 (Va .u64 ((48:Int)+Ve m (10:Int)))))[f]? fun _=>
       Vb (sliceB 20 20 (Ua (Va .i64 (Va .i64 (i - (1:Int)) - (1:Int)))) Ub) fun d=>
        Ua (.inr (Zeh (List.take (d.2 - d.1) (List.drop d.1 (Vd (Vd b c (Va .u8 (Va .u64 ((48:Int)+Ve m (10:Int))))) f (45:Int))))))
    else
     Vb (sliceB 20 20 (Ua (Va .i64 (i - (1:Int)))) Ub) fun e=>
      Ua (.inr (Zeh (List.take (e.2 - e.1) (List.drop e.1 (Vd b c (Va .u8 (Va .u64 ((48:Int)+Ve m (10:Int)))))))))
theorem Zsp(n i m:Int)(b:List Int)(nx:Nat):Zso n i m b nx=ZbJ n i m b:=by kernel_rfl
def fmZ:List Int:=List.replicate 20 0
theorem Zsr(n:Int):Zsq n=bif Ue (n<(0:Int)) then ZbJ n 20 (Va .u64 ((0:Int) - Va .u64 n)) fmZ else ZbJ n 20 (Va .u64 n) fmZ:=by kernel_rfl
def Zaw:Nat->Y8->Option (List UInt8)
 |_,.inr x=>Ua x
 |0,.inl _=>Ub
 |k+1,.inl s=>(ZbJ s.1 s.2.1 s.2.2.1 s.2.2.2).bind (Zaw k)
def fmtF(n:Int):Option (List UInt8):=(bif Ue (n<(0:Int)) then ZbJ n 20 (Va .u64 ((0:Int) - Va .u64 n)) fmZ else ZbJ n 20 (Va .u64 n) fmZ).bind (Zaw 25)
section
variable {P:Program}{a:Act}{w:World}{Q:Exit->Act->World->Prop}
theorem ZwT{c rest:Code}(l:Nat)(Inv:Nat->Act->World->Prop)(r:findLabel c l=Ua rest)
 (first:c.wp P (Exit.jump l (fun a w=>∃m,Inv m a w) Q) a w)
 (pass:∀n a w,Inv n a w->rest.wp P (Exit.jump l (fun d w' =>∃m,m<n/\Inv m d w') Q) a w):(Code.scope c).wp P Q a w:=by
 classical
 have b:∀a w,(∃n,Inv n a w)->∃n,Inv n a w/\ ∀m,Inv m a w->n<=m:=by
  intro a w ⟨n,s⟩
  induction n using Nat.strongRecOn with
  |_ n t=>
   by_cases h:∃m,m<n/\Inv m a w
   ·obtain⟨m,g,q⟩:=h;exact t m g q
   ·exact⟨n,s,fun m k=>Nat.le_of_not_lt fun p=>h ⟨m,p,k⟩⟩
 refine wp_scope_jumps l (fun a w=>∃n,Inv n a w) (fun a w=>if h:∃n,Inv n a w then(b a w h).choose else 0) r first fun a w j=>?_
 have i:=(b a w j).choose_spec;refine wp_mono (pass _ a w i.1) fun e d w' o=>?_
 cases e with
 |goto u=>
  obtain⟨g,m,k,f⟩:=o;refine⟨g,⟨m,f⟩,?_⟩;simp only[dif_pos j,dif_pos (show∃n,Inv n d w' from ⟨m,f⟩)];have:=(b d w' ⟨m,f⟩).choose_spec.2 m f
  omega
 |_=>exact o
end
def ZcZ:Spec:= {args:=.cons (.pd (.int .i64)) .nil,res:=.cons (.pd .str) .nil,fns:=[],α:=List UInt8,f:=fun x=>fmtF x.1,unp:=fun z=>(((),()),(z,()))}
theorem ZdP:Z3 Tryz.prog EF:=typesOk_of (pks:=[]) (bds:=[]) (show HT Tryz.prog tyF [] [] []=Uc by kernel_rfl) rfl rfl rfl rfl fun _ h=>absurd (show Ud=Uc from h) (by decide)
theorem Zss{B:Z1}{n i m:Int}{f:List Int}{s:AS}{w:World}{g:Gh}{u:Nat->Nat->Prop}{a:Act}(c:SR EF B s w g u a)(v:s.F 0=.d (.int .i64) n)(y:s.F 3=.ptr 64 [])(z:s.F 4=.d (.int .i64) i)(A:s.F 5=.d (.int .u64) m)(C:s.H 64=Ua (.var (.arr 20 (.int .u8)) (.d (.arr 20 (.int .u8)) f))):SR EF B (DX n i m f s.nx) w g u a where
 rh:=by
  have e:∀k o,(DX n i m f s.nx).H k=Ua o->s.H k=Ua o:=by
   intro k o h;simp only[DX]at h
   cases l:Nat.beq k 64 with
   |true=>rw[l]at h;have:=Nat.eq_of_beq_eq_true l;subst this;rw[C];exact h
   |false=>rw[l]at h;simp at h
  have p:∀k,(DX n i m f s.nx).H k≠Ub->s.H k≠none:=by
   intro k h
   cases q:(DX n i m f s.nx).H k with
   |none=>exact absurd q h
   |some o=>rw[e k o q];simp
  exact {objs:=fun k o h=>c.rh.objs k o (e k o h),dist:=fun k r b j x=>c.rh.dist k r b (p k j) (p r x),sep:=fun k b j=>c.rh.sep k b (p k j),ilt:=c.rh.ilt,inew:=c.rh.inew,os:=c.rh.os,tape:=c.rh.tape,output:=c.rh.output,size:=c.rh.size,kept:=c.rh.kept}
 fr:=fun t=>by
  simp only[DX];split
  ·rw[<-v];exact c.fr 0
  ·rw[<-y];exact c.fr 3
  ·rw[<-z];exact c.fr 4
  ·rw[<-A];exact c.fr 5
  ·exact HB
 nt:=c.nt
 df:=c.df
 ids:=c.ids
 fz:=fun id h=>by simp [DX]at h
theorem Zsm{l:Nat}{s:AS}{r:Y8}(h:Df (.jump l) s=Ua r):l=0/\ ∃n i m b,r=.inl (n,i,m,b)/\s.F 0=.d (.int .i64) n/\s.F 3=.ptr 64 []/\s.F 4=.d (.int .i64) i/\s.F 5=.d (.int .u64) m/\s.H 64=Ua (.var (.arr 20 (.int .u8)) (.d (.arr 20 (.int .u8)) b)):=by
 cases l with
 |succ l=>simp [Df]at h
 |zero=>
  refine⟨rfl,?_⟩;simp only[Df]at h;split at h
  ·rename_i n i m b c e f g j;simp only[ZB]at h;exact⟨n,i,m,b,h.symm,c,e,f,g,j⟩
  ·simp at h
theorem Zsn{s:AS}{r:Y8}(h:Df .ret s=Ua r):∃x,r=.inr x/\s.F 2=.d .str x:=by
 simp only[Df]at h;split at h
 ·rename_i x b;simp only[ZB]at h;exact⟨x,h.symm,b⟩
 ·simp at h
theorem fmt_ok:ZS Tryz.prog 65 ZcZ where
 wf:=rfl
 fn:=⟨_,Tryz.func65,by kernel_rfl,by kernel_rfl⟩
 run:=by
  intro w I c2 js x (z:List UInt8) b2 c4 a5 hI amb W;obtain⟨j1,j2,v,r,rfl,rfl,⟨b1,a4⟩,rfl,rfl⟩:=b2;obtain⟨rfl,b6⟩:=b1;have T:Kf v=false:=a4.resolve_left fun h=>by cases h
  have M:v=.int .i64 x.1:=KU b6 T;subst M;have W:fmtF x.1=Ua z:=W;obtain⟨n,⟨⟩⟩:=x
  change Int at n
  unfold fmtF at W;rw[<-Zsr,Vc]at W;obtain⟨r0,b3,a7⟩:=W
  let B:Z1:= {w0:=w,own0:=(· ∈([]++[]:List Nat)),I0:=I,pl:=Uc}
  let g0:Gh:= {I:=I,K:=fun _=>False,ty:=fun _=>.unit,blk:=fun _=>Ub,slv:=fun _=>undef,ver:=fun _=>0,row:=fun _ _ _=>undef}
  have hS:JJ Tryz.prog EF B:=⟨fun f S h=>absurd h (by simp [EF,mkE]),fun h=>absurd h (by simp [B]),fun _ f S h=>absurd h (by simp [EF,mkE]),fun f h e=>absurd (show Ub=Ua h from e) (by simp)⟩
  let R:Act:= {tmps:=[Vf .i64 n].toArray++Array.replicate (Tryz.f65.ntmps - [Vf .i64 n].toArray.size) undef,defers:=[] }
  have b7:SR EF B (RP n) w g0 (fun _ _=>False) R:= {
   rh:= {
    objs:=fun _ _ h=>by simp [RP]at h
    dist:=fun _ _ _ h=>by simp [RP]at h
    sep:=fun _ _ h=>by simp [RP]at h
    ilt:=hI
    inew:=fun b H=>.inl H
    os:=rfl
    tape:=rfl
    output:=.rfl
    size:=Nat.le_refl _
    kept:=fun _ _ _=>rfl}
   fr:=fun t=>by have Z:WK w g0 (.cons (.d (.int .i64) n) .nil) [Vf .i64 n]:=⟨_,[],rfl,(Jj .i64 n).to1 (by simp),rfl⟩;have:=ZfK Z (Tryz.f65.ntmps - 1) t;simpa [R,RP,Array.getD_eq_getD_getElem?,List.getD_eq_getElem?_getD, <-Array.getElem?_toList] using this
   nt:=by kernel_rfl
   df:=rfl
   ids:=fun id h=>h.elim
   fz:=fun id h=>by simp [RP]at h}
  have U:∀{Y:AS}{y:World}{E:Gh}{A:Nat->Nat->Prop}{C:Act},SR EF B Y y E A C->Lk EF w g0 R y E C->Y.F 2=.d .str z->C.defers=[]/\ ∃v,(results Tryz.f65 C.tmps).run Tryz.prog y=.ok v y/\ ∃X,Ending.returned v=.returned X/\Dx ZcZ w I ([]++[]) [.int .i64 n] (ZcZ.unp z) X y:=by
   intro Y y E A C g hl c1;refine⟨g.df,?_⟩;have V:Tryz.f65.results.toList=[.tmp 2]:=by kernel_rfl
   obtain⟨c7,b4,b5⟩:=Zdt ZdP g.rh g.fr Tryz.f65.results.toList (.cons (Y.F 2) .nil) [] [] (by rw[V];rfl);obtain⟨v,r,rfl,M,L⟩:=b5;have L:r=[]:=L;subst L;rw[c1]at M;have M:=M.str;subst M;refine⟨Rg _,Ziu b4,_,rfl,E.I,[],[],⟨[],[],_,_,rfl,rfl,rfl,rfl⟩,⟨[.string ⟨z.toArray⟩],⟨[],[],_,_,rfl,rfl,⟨⟨rfl,rfl⟩,.inr rfl⟩,rfl,rfl⟩,rfl⟩,by simp,by simp,fun b H=>hl.le.I b H,fun b H=>⟨g.rh.ilt b H,g.rh.inew b H⟩,g.rh.os,g.rh.tape,g.rh.output,g.rh.size,fun b Z h2=>g.rh.kept b Z h2⟩
  have hmix:Tryz.prog.follows .mixedOrders=true:=by kernel_rfl
  refine calls_of_wp Tryz.func65 (c:=.seq fmR (.scope fmC)) (by kernel_rfl) ?_;refine wp_seq (wp_mono (Wz hmix fmR .leaf EF Y8 (RP n) _ r0 ZdP hS b3 b7) ?_);rintro e a1 w1 ⟨ex,s1,g1,c5,rfl,b8,a9,q⟩
  cases ex with
  |exit i=>simp at q
  |ret=>simp at q
  |jump i=>simp at q
  |normal=>
  simp only at q
  let Inv:Nat->Act->World->Prop:=fun k C y=>∃N i m G nx E A,Zaw k (.inl (N,i,m,G))=Ua z/\SR EF B (DX N i m G nx) y E A C/\Lk EF w g0 R y E C
  have s:∀{ex:Ex}{k:Nat}{r:Y8}{s2:AS}{O:World}{g2:Gh}{u:Nat->Nat->Prop}{a2:Act}{J:Act->World->Prop},Zaw k r=Ua z->SR EF B s2 O g2 u a2->Lk EF w g0 R O g2 a2->Df ex s2=Ua r->(∀a w,Inv k a w->J a w)->
   Exit.jump 0 J (bodyPost Tryz.prog Tryz.f65 fun e y=>∃X,e=.returned X/\Dx ZcZ w I ([]++[]) [.int .i64 n] (ZcZ.unp z) X y) (ZbB ex) a2 O:=by
   intro ex k r s2 O g2 u a2 J D p o j hJ
   cases ex with
   |normal=>simp [Df]at j
   |exit i=>simp [Df]at j
   |ret=>
    obtain⟨x,rfl,h2⟩:=Zsn j
    have a6:x=z:=by cases k<;>simpa [Zaw] using D
    subst a6
    exact U p o h2
   |jump l=>
    obtain⟨rfl,N,i,m,G,rfl,h0,h3,h4,h5,hH⟩:=Zsm j;exact⟨rfl,hJ _ _ ⟨N,i,m,G,s2.nx,g2,u,D,Zss p h0 h3 h4 h5 hH,o⟩⟩
  refine ZwT 0 Inv (show findLabel fmC 0=Ua fmL by kernel_rfl) ?_ ?_
  ·refine wp_mono (Wz hmix fmC .leaf EF Y8 s1 _ r0 ZdP hS q b8) ?_;rintro e a2 O ⟨ex,s2,g2,u,rfl,p,o,j⟩;exact s a7 p (a9.lk.trans o.lk) j fun a w h=>⟨_,h⟩
  ·intro k a2 O ⟨N,i,m,G,nx,g2,u,D,p,o⟩
   cases k with
   |zero=>simp [Zaw]at D
   |succ k=>
   simp only[Zaw,Vc]at D;obtain⟨r,L,D⟩:=D;rw[<-Zsp N i m G nx]at L;refine wp_mono (Wz hmix fmL .leaf EF Y8 _ _ r ZdP hS L p) ?_;rintro e a3 w3 ⟨ex,s3,g3,c6,rfl,b9,b0,a8⟩;exact s D b9 (o.trans b0.lk) a8 fun a w h=>⟨k,Nat.lt_succ_self k,h⟩
end Tr
