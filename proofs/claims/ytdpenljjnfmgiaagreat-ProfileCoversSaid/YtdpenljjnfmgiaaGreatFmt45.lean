/- number.Format: the goto goes on until no digit is left. Conditions: none. -/
import Derived.Test.YtdpenljjnfmgiaaGreatProg
import Derived.KernelRfl
import Derived.ScopeJumps
import Derived.Test.YtdpenljjnfmgiaaGreatETsF
open Int renaming tmod ->Ve
open Go.IntKind renaming wrap ->Va
open List renaming set ->Vd
open Option renaming bind ->Vb,bind_eq_some_iff ->Vc
open Go.Value renaming int ->Vf
open Option renaming some ->Ua,none ->Ub
open Bool renaming true ->Uc,false ->Ud
open Decidable renaming decide ->Ue
namespace Tr
open Go Go.Proofs
def tyF:List (Nat×Ty):=[(3,.int .i64),(4,.bool),(5,.int .u8),(9,.str),(183,.arr 20 (.int .u8)),(184,.int .u64),(185,.sl (.int .u8))]
def EF:Z9:=mkE tyF [] [] [] [] [] 33
noncomputable def fmR:Code:=match K2 Tryz.f65 with|.seq r _=>r|c=>c
noncomputable def fmC:Code:=match K2 Tryz.f65 with|.seq _ (.scope c)=>c|c=>c
noncomputable def fmL:Code:=(findLabel fmC 0).getD .skip
abbrev Ha:=(Int×Int×Int×List Int) ⊕ List UInt8
def DD:Ex->AS->Option Ha
 |.jump 0,s=>match s.F 0,s.F 3,s.F 4,s.F 5,s.H 64 with
  |.d (.int .i64) n,.ptr 64 [],.d (.int .i64) i,.d (.int .u64) m,Ua (.var (.arr 20 (.int .u8)) (.d (.arr 20 (.int .u8)) b))=>Ua (.inl (n,i,m,b))
  |_,_,_,_,_=>Ub
 |.ret,s=>match s.F 2 with
  |.d .str x=>Ua (.inr x)
  |_=>Ub
 |_,_=>Ub
def Rf(n:Int)(i m:Int)(b:List Int)(nx:Nat):AS:=⟨λk=>match k with
    |0=>.d (.int .i64) n
    |3=>.ptr 64 []
    |4=>.d (.int .i64) i
    |5=>.d (.int .u64) m
    |_=>.junk,λk=>bif Nat.beq k 64 then Ua (.var (.arr 20 (.int .u8)) (.d (.arr 20 (.int .u8)) b)) else Ub,nx,[]⟩
def RU(n:Int):AS:=⟨(Zo.cons (.d (.int .i64) n) .nil).toF,λ_=>Ub,0,[]⟩
noncomputable def Zs6(n i m:Int)(b:List Int)(nx:Nat):Option Ha:=Ko fmL .leaf EF Ha (Rf n i m b nx) DD
noncomputable def Zs8(n:Int):Option Ha:=Ko fmR .leaf EF Ha (RU n) λe s=>match e with
 |.normal=>Ko fmC .leaf EF Ha s DD
 |_=>Ub
def ZbK(n i m:Int)(b:List Int):Option Ha:=
 Vb (Zv (Va .i64 (i - (1:Int))) 20) λc=>
  Vb b[c]? λ_=>
   bif Ue ((0:Int)<Va .u64 (Int.tdiv m (10:Int))) then
    Ua (.inl (n,Va .i64 (i - (1:Int)),Va .u64 (Int.tdiv m (10:Int)),Vd b c (Va .u8 (Va .u64 ((48:Int)+Ve m (10:Int))))))
   else
    bif Ue (n<(0:Int)) then
     Vb (Zv (Va .i64 (Va .i64 (i - (1:Int)) - (1:Int))) 20) λf=>
      Vb (Vd b c (Va .u8 (Va .u64 ((48:Int)+Ve m (10:Int)))))[f]? λ_=>
       Vb (sliceB 20 20 (Ua (Va .i64 (Va .i64 (i - (1:Int)) - (1:Int)))) Ub) λd=>
        Ua (.inr (Zel (List.take (d.2 - d.1) (List.drop d.1 (Vd (Vd b c (Va .u8 (Va .u64 ((48:Int)+Ve m (10:Int))))) f (45:Int))))))
    else
     Vb (sliceB 20 20 (Ua (Va .i64 (i - (1:Int)))) Ub) λe=>
      Ua (.inr (Zel (List.take (e.2 - e.1) (List.drop e.1 (Vd b c (Va .u8 (Va .u64 ((48:Int)+Ve m (10:Int)))))))))
theorem Zs7(n i m:Int)(b:List Int)(nx:Nat):Zs6 n i m b nx=ZbK n i m b:=by kernel_rfl
def fmZ:List Int:=List.replicate 20 0
theorem Zs9(n:Int):Zs8 n=bif Ue (n<(0:Int)) then ZbK n 20 (Va .u64 ((0:Int) - Va .u64 n)) fmZ else ZbK n 20 (Va .u64 n) fmZ:=by kernel_rfl
def Zax:Nat->Ha->Option (List UInt8)
 |_,.inr x=>Ua x
 |0,.inl _=>Ub
 |k+1,.inl s=>(ZbK s.1 s.2.1 s.2.2.1 s.2.2.2).bind (Zax k)
def fmtF(n:Int):Option (List UInt8):=(bif Ue (n<(0:Int)) then ZbK n 20 (Va .u64 ((0:Int) - Va .u64 n)) fmZ else ZbK n 20 (Va .u64 n) fmZ).bind (Zax 25)
section
variable {P:Program}{a:Act}{w:World}{Q:Exit->Act->World->Prop}
theorem ZxD{c rest:Code}(l:Nat)(Inv:Nat->Act->World->Prop)(r:findLabel c l=Ua rest)
 (first:c.wp P (Exit.jump l (λa w=>∃m,Inv m a w) Q) a w)
 (pass:∀n a w,Inv n a w->rest.wp P (Exit.jump l (λd w' =>∃m,m<n/\Inv m d w') Q) a w):(Code.scope c).wp P Q a w:=by
 classical
 have b:∀a w,(∃n,Inv n a w)->∃n,Inv n a w/\∀m,Inv m a w->n<=m:=by
  intro a w ⟨n,s⟩
  induction n using Nat.strongRecOn with
  |_ n t=>
   by_cases h:∃m,m<n/\Inv m a w
   ·obtain⟨m,g,q⟩:=h;exact t m g q
   ·exact⟨n,s,λm k=>Nat.le_of_not_lt λp=>h ⟨m,p,k⟩⟩
 refine wp_scope_jumps l (λa w=>∃n,Inv n a w) (λa w=>if h:∃n,Inv n a w then(b a w h).choose else 0) r first λa w j=>?_
 have i:=(b a w j).choose_spec;refine wp_mono (pass _ a w i.1) λe d w' o=>?_
 cases e with
 |goto u=>
  obtain⟨g,m,k,f⟩:=o;refine⟨g,⟨m,f⟩,?_⟩;simp only[dif_pos j,dif_pos (show∃n,Inv n d w' from ⟨m,f⟩)];have:=(b d w' ⟨m,f⟩).choose_spec.2 m f
  omega
 |_=>exact o
end
def Zc0:Spec:={args:=.cons (.pd (.int .i64)) .nil,res:=.cons (.pd .str) .nil,fns:=[],α:=List UInt8,f:=λx=>fmtF x.1,unp:=λz=>(((),()),(z,()))}
theorem ZdR:Z4 Tryz.prog EF:=typesOk_of (pks:=[]) (bds:=[]) (show H6 Tryz.prog tyF [] [] []=Uc by kernel_rfl) rfl rfl rfl rfl λ_ h=>absurd (show Ud=Uc from h) (by decide)
theorem Zta{B:Z1}{n i m:Int}{f:List Int}{s:AS}{w:World}{g:Gh}{u:Nat->Nat->Prop}{a:Act}(c:SR EF B s w g u a)(v:s.F 0=.d (.int .i64) n)(y:s.F 3=.ptr 64 [])(z:s.F 4=.d (.int .i64) i)(A:s.F 5=.d (.int .u64) m)(C:s.H 64=Ua (.var (.arr 20 (.int .u8)) (.d (.arr 20 (.int .u8)) f))):SR EF B (Rf n i m f s.nx) w g u a where
 rh:=by
  have e:∀k o,(Rf n i m f s.nx).H k=Ua o->s.H k=Ua o:=by
   intro k o h;simp only[Rf]at h
   cases l:Nat.beq k 64 with
   |true=>rw[l]at h;have:=Nat.eq_of_beq_eq_true l;subst this;rw[C];exact h
   |false=>rw[l]at h;simp at h
  have p:∀k,(Rf n i m f s.nx).H k≠Ub->s.H k≠none:=by
   intro k h
   cases q:(Rf n i m f s.nx).H k with
   |none=>exact absurd q h
   |some o=>rw[e k o q];simp
  exact {objs:=λk o h=>c.rh.objs k o (e k o h),dist:=λk r b j x=>c.rh.dist k r b (p k j) (p r x),sep:=λk b j=>c.rh.sep k b (p k j),ilt:=c.rh.ilt,inew:=c.rh.inew,os:=c.rh.os,tape:=c.rh.tape,output:=c.rh.output,size:=c.rh.size,kept:=c.rh.kept}
 fr:=λt=>by
  simp only[Rf];split
  ·rw[<-v];exact c.fr 0
  ·rw[<-y];exact c.fr 3
  ·rw[<-z];exact c.fr 4
  ·rw[<-A];exact c.fr 5
  ·exact HH
 nt:=c.nt
 df:=c.df
 ids:=c.ids
 fz:=λid h=>by simp [Rf]at h
theorem Zs4{l:Nat}{s:AS}{r:Ha}(h:DD (.jump l) s=Ua r):l=0/\∃n i m b,r=.inl (n,i,m,b)/\s.F 0=.d (.int .i64) n/\s.F 3=.ptr 64 []/\s.F 4=.d (.int .i64) i/\s.F 5=.d (.int .u64) m/\s.H 64=Ua (.var (.arr 20 (.int .u8)) (.d (.arr 20 (.int .u8)) b)):=by
 cases l with
 |succ l=>simp [DD]at h
 |zero=>
  refine⟨rfl,?_⟩;simp only[DD]at h;split at h
  ·rename_i n i m b c e f g j;simp only[ZL]at h;exact⟨n,i,m,b,h.symm,c,e,f,g,j⟩
  ·simp at h
theorem Zs5{s:AS}{r:Ha}(h:DD .ret s=Ua r):∃x,r=.inr x/\s.F 2=.d .str x:=by
 simp only[DD]at h;split at h
 ·rename_i x b;simp only[ZL]at h;exact⟨x,h.symm,b⟩
 ·simp at h
theorem fmt_ok:ZT Tryz.prog 65 Zc0 where
 wf:=rfl
 fn:=⟨_,Tryz.func65,by kernel_rfl,by kernel_rfl⟩
 run:=by
  intro w I c2 js x (z:List UInt8) b2 c4 a5 hI amb W;obtain⟨j1,j2,v,r,rfl,rfl,⟨b1,a4⟩,rfl,rfl⟩:=b2;obtain⟨rfl,b6⟩:=b1;have T:Kd v=false:=a4.resolve_left λh=>by cases h
  have M:v=.int .i64 x.1:=KY b6 T;subst M;have W:fmtF x.1=Ua z:=W;obtain⟨n,⟨⟩⟩:=x;change Int at n;unfold fmtF at W;rw[<-Zs9,Vc]at W;obtain⟨r0,b3,a7⟩:=W
  let B:Z1:={w0:=w,own0:=(· ∈([]++[]:List Nat)),I0:=I,pl:=Uc}
  let g0:Gh:={I:=I,K:=λ_=>False,ty:=λ_=>.unit,blk:=λ_=>Ub,slv:=λ_=>undef,ver:=λ_=>0,row:=λ_ _ _=>undef}
  have hS:JI Tryz.prog EF B:=⟨λf S h=>absurd h (by simp [EF,mkE]),λh=>absurd h (by simp [B]),λ_ f S h=>absurd h (by simp [EF,mkE]),λf h e=>absurd (show Ub=Ua h from e) (by simp)⟩
  let R:Act:={tmps:=[Vf .i64 n].toArray++Array.replicate (Tryz.f65.ntmps - [Vf .i64 n].toArray.size) undef,defers:=[] }
  have b7:SR EF B (RU n) w g0 (λ_ _=>False) R:={
   rh:={
    objs:=λ_ _ h=>by simp [RU]at h
    dist:=λ_ _ _ h=>by simp [RU]at h
    sep:=λ_ _ h=>by simp [RU]at h
    ilt:=hI
    inew:=λb H=>.inl H
    os:=rfl
    tape:=rfl
    output:=.rfl
    size:=Nat.le_refl _
    kept:=λ_ _ _=>rfl}
   fr:=λt=>by have Z:W8 w g0 (.cons (.d (.int .i64) n) .nil) [Vf .i64 n]:=⟨_,[],rfl,(J1 .i64 n).to1 (by simp),rfl⟩;have:=ZfZ Z (Tryz.f65.ntmps - 1) t;simpa [R,RU,Array.getD_eq_getD_getElem?,List.getD_eq_getElem?_getD,<-Array.getElem?_toList] using this
   nt:=by kernel_rfl
   df:=rfl
   ids:=λid h=>h.elim
   fz:=λid h=>by simp [RU]at h}
  have U:∀{Y:AS}{y:World}{E:Gh}{A:Nat->Nat->Prop}{C:Act},SR EF B Y y E A C->Lk EF w g0 R y E C->Y.F 2=.d .str z->C.defers=[]/\∃v,(results Tryz.f65 C.tmps).run Tryz.prog y=.ok v y/\∃X,Ending.returned v=.returned X/\DT Zc0 w I ([]++[]) [.int .i64 n] (Zc0.unp z) X y:=by
   intro Y y E A C g hl c1;refine⟨g.df,?_⟩;have V:Tryz.f65.results.toList=[.tmp 2]:=by kernel_rfl
   obtain⟨c7,b4,b5⟩:=Zdu ZdR g.rh g.fr Tryz.f65.results.toList (.cons (Y.F 2) .nil) [] [] (by rw[V];rfl);obtain⟨v,r,rfl,M,L⟩:=b5;have L:r=[]:=L;subst L;rw[c1]at M;have M:=M.str;subst M;refine⟨Rp _,ZiV b4,_,rfl,E.I,[],[],⟨[],[],_,_,rfl,rfl,rfl,rfl⟩,⟨[.string ⟨z.toArray⟩],⟨[],[],_,_,rfl,rfl,⟨⟨rfl,rfl⟩,.inr rfl⟩,rfl,rfl⟩,rfl⟩,by simp,by simp,λb H=>hl.le.I b H,λb H=>⟨g.rh.ilt b H,g.rh.inew b H⟩,g.rh.os,g.rh.tape,g.rh.output,g.rh.size,λb Z h2=>g.rh.kept b Z h2⟩
  have hmix:Tryz.prog.follows .mixedOrders=true:=by kernel_rfl
  refine calls_of_wp Tryz.func65 (c:=.seq fmR (.scope fmC)) (by kernel_rfl) ?_;refine wp_seq (wp_mono (WD hmix fmR .leaf EF Ha (RU n) _ r0 ZdR hS b3 b7) ?_);rintro e a1 w1 ⟨ex,s1,g1,c5,rfl,b8,a9,q⟩
  cases ex with
  |exit i=>simp at q
  |ret=>simp at q
  |jump i=>simp at q
  |normal=>
  simp only at q
  let Inv:Nat->Act->World->Prop:=λk C y=>∃N i m G nx E A,Zax k (.inl (N,i,m,G))=Ua z/\SR EF B (Rf N i m G nx) y E A C/\Lk EF w g0 R y E C
  have s:∀{ex:Ex}{k:Nat}{r:Ha}{s2:AS}{O:World}{g2:Gh}{u:Nat->Nat->Prop}{a2:Act}{J:Act->World->Prop},Zax k r=Ua z->SR EF B s2 O g2 u a2->Lk EF w g0 R O g2 a2->DD ex s2=Ua r->(∀a w,Inv k a w->J a w)->
   Exit.jump 0 J (bodyPost Tryz.prog Tryz.f65 λe y=>∃X,e=.returned X/\DT Zc0 w I ([]++[]) [.int .i64 n] (Zc0.unp z) X y) (ZbC ex) a2 O:=by
   intro ex k r s2 O g2 u a2 J D p o j hJ
   cases ex with
   |normal=>simp [DD]at j
   |exit i=>simp [DD]at j
   |ret=>
    obtain⟨x,rfl,h2⟩:=Zs5 j;have a6:x=z:=by cases k<;>simpa [Zax] using D
    subst a6
    exact U p o h2
   |jump l=>
    obtain⟨rfl,N,i,m,G,rfl,h0,h3,h4,h5,hH⟩:=Zs4 j;exact⟨rfl,hJ _ _ ⟨N,i,m,G,s2.nx,g2,u,D,Zta p h0 h3 h4 h5 hH,o⟩⟩
  refine ZxD 0 Inv (show findLabel fmC 0=Ua fmL by kernel_rfl) ?_ ?_
  ·refine wp_mono (WD hmix fmC .leaf EF Ha s1 _ r0 ZdR hS q b8) ?_;rintro e a2 O ⟨ex,s2,g2,u,rfl,p,o,j⟩;exact s a7 p (a9.lk.trans o.lk) j λa w h=>⟨_,h⟩
  ·intro k a2 O ⟨N,i,m,G,nx,g2,u,D,p,o⟩
   cases k with
   |zero=>simp [Zax]at D
   |succ k=>
   simp only[Zax,Vc]at D;obtain⟨r,L,D⟩:=D;rw[<-Zs7 N i m G nx]at L;refine wp_mono (WD hmix fmL .leaf EF Ha _ _ r ZdR hS L p) ?_;rintro e a3 w3 ⟨ex,s3,g3,c6,rfl,b9,b0,a8⟩;exact s D b9 (o.trans b0.lk) a8 λa w h=>⟨k,Nat.lt_succ_self k,h⟩
end Tr
