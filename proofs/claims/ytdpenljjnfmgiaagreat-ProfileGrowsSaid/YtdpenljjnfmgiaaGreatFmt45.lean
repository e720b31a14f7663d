/- number.Format: the goto goes on until no digit is left. Conditions: none. -/
import Derived.Test.YtdpenljjnfmgiaaGreatProg
import Derived.KernelRfl
import Derived.ScopeJumps
import Derived.Test.YtdpenljjnfmgiaaGreatETsF
open Int renaming tmod ->Ve
open Go.IntKind renaming wrap ->Va
open List renaming set ->Vd
open Option renaming bind ->Vb,bind_eq_some_iff ->Vc
open Go.Value renaming int ->Vf
namespace Tr
open Go Go.Proofs
def tyF:List (Nat×Ty):=[(3,.int .i64),(4,.bool),(5,.int .u8),(9,.str),(183,.arr 20 (.int .u8)),(184,.int .u64),(185,.sl (.int .u8))]
def EF:Z3:=mkE tyF [] [] [] [] [] 33
noncomputable def fmR:Code:=match KM Tryz.f65 with|.seq r _=>r|c=>c
noncomputable def fmC:Code:=match KM Tryz.f65 with|.seq _ (.scope c)=>c|c=>c
noncomputable def fmL:Code:=(findLabel fmC 0).getD .skip
abbrev YJ:=(Int×Int×Int×List Int) ⊕ List UInt8
def GB:Ex->AS->Option YJ
 |.jump 0,s=>match s.F 0,s.F 3,s.F 4,s.F 5,s.H 64 with
  |.d (.int .i64) n,.ptr 64 [],.d (.int .i64) i,.d (.int .u64) m,some (.var (.arr 20 (.int .u8)) (.d (.arr 20 (.int .u8)) b))=>some (.inl (n,i,m,b))
  |_,_,_,_,_=>none
 |.ret,s=>match s.F 2 with
  |.d .str x=>some (.inr x)
  |_=>none
 |_,_=>none
def Dd(n:Int)(i m:Int)(b:List Int)(nx:Nat):AS:=⟨fun k=>match k with
    |0=>.d (.int .i64) n
    |3=>.ptr 64 []
    |4=>.d (.int .i64) i
    |5=>.d (.int .u64) m
    |_=>.junk,fun k=>bif Nat.beq k 64 then some (.var (.arr 20 (.int .u8)) (.d (.arr 20 (.int .u8)) b)) else none,nx,[]⟩
def DR(n:Int):AS:=⟨(Zl.cons (.d (.int .i64) n) .nil).toF,fun _=>none,0,[]⟩
noncomputable def Zqz(n i m:Int)(b:List Int)(nx:Nat):Option YJ:=Kj fmL .leaf EF YJ (Dd n i m b nx) GB
noncomputable def ZqB(n:Int):Option YJ:=Kj fmR .leaf EF YJ (DR n) fun e s=>match e with
 |.normal=>Kj fmC .leaf EF YJ s GB
 |_=>none
def ZaJ(n i m:Int)(b:List Int):Option YJ:=
 Vb (ZA (Va .i64 (i - (1:Int))) 20) fun c=>
  Vb b[c]? fun _=>
   bif decide ((0:Int)<Va .u64 (Int.tdiv m (10:Int))) then
    some (.inl (n,Va .i64 (i - (1:Int)),Va .u64 (Int.tdiv m (10:Int)),Vd b c (Va .u8 (Va .u64 ((48:Int)+Ve m (10:Int))))))
   else
    bif decide (n<(0:Int)) then
     Vb (ZA (Va .i64 (Va .i64 (i - (1:Int)) - (1:Int))) 20) fun f=>
      Vb (Vd b c (Va .u8 (Va .u64 ((48:Int)+Ve m (10:Int)))))[f]? fun _=>
       Vb (sliceB 20 20 (some (Va .i64 (Va .i64 (i - (1:Int)) - (1:Int)))) none) fun d=>
        some (.inr (Zde (List.take (d.2 - d.1) (List.drop d.1 (Vd (Vd b c (Va .u8 (Va .u64 ((48:Int)+Ve m (10:Int))))) f (45:Int))))))
    else
     Vb (sliceB 20 20 (some (Va .i64 (i - (1:Int)))) none) fun e=>
      some (.inr (Zde (List.take (e.2 - e.1) (List.drop e.1 (Vd b c (Va .u8 (Va .u64 ((48:Int)+Ve m (10:Int)))))))))
theorem ZqA(n i m:Int)(b:List Int)(nx:Nat):Zqz n i m b nx=ZaJ n i m b:=by kernel_rfl
def fmZ:List Int:=List.replicate 20 0
theorem ZqC(n:Int):ZqB n=bif decide (n<(0:Int)) then ZaJ n 20 (Va .u64 ((0:Int) - Va .u64 n)) fmZ else ZaJ n 20 (Va .u64 n) fmZ:=by kernel_rfl
def Rz:Nat->YJ->Option (List UInt8)
 |_,.inr x=>some x
 |0,.inl _=>none
 |k+1,.inl s=>(ZaJ s.1 s.2.1 s.2.2.1 s.2.2.2).bind (Rz k)
def fmtF(n:Int):Option (List UInt8):=(bif decide (n<(0:Int)) then ZaJ n 20 (Va .u64 ((0:Int) - Va .u64 n)) fmZ else ZaJ n 20 (Va .u64 n) fmZ).bind (Rz 25)
section
variable {P:Program}{a:Act}{w:World}{Q:Exit->Act->World->Prop}
theorem ZuA{c rest:Code}(l:Nat)(Inv:Nat->Act->World->Prop)(r:findLabel c l=some rest)
 (first:c.wp P (Exit.jump l (fun a w=>∃m,Inv m a w) Q) a w)
 (pass:∀n a w,Inv n a w->rest.wp P (Exit.jump l (fun d w' =>∃m,m<n/\Inv m d w') Q) a w):(Code.scope c).wp P Q a w:=by
 classical
 have b:∀a w,(∃n,Inv n a w)->∃n,Inv n a w/\ ∀m,Inv m a w->n<=m:=by
  intro a w ⟨n,s⟩
  induction n using Nat.strongRecOn with
  |_ n t=>
   by_cases h:∃m,m<n/\Inv m a w
   ·obtain⟨m,g,q⟩:=h;exact t m g q
   ·exact⟨n,s,fun m k=>Nat.le_of_not_lt fun p=>h ⟨m,p,k⟩⟩
 refine wp_scope_jumps l (fun a w=>∃n,Inv n a w) (fun a w=>if h:∃n,Inv n a w then(b a w h).choose else 0) r first fun a w j=>?_
 have i:=(b a w j).choose_spec;refine wp_mono (pass _ a w i.1) fun e d w' o=>?_
 cases e with
 |goto u=>
  obtain⟨g,m,k,f⟩:=o;refine⟨g,⟨m,f⟩,?_⟩;simp only[dif_pos j,dif_pos (show∃n,Inv n d w' from ⟨m,f⟩)];have:=(b d w' ⟨m,f⟩).choose_spec.2 m f
  omega
 |_=>exact o
end
def ZbV:Spec:= {args:=.cons (.pd (.int .i64)) .nil,res:=.cons (.pd .str) .nil,fns:=[],α:=List UInt8,f:=fun x=>fmtF x.1,unp:=fun z=>(((),()),(z,()))}
theorem ZcH:ZX Tryz.prog EF:=typesOk_of (pks:=[]) (bds:=[]) (show Hq Tryz.prog tyF [] [] []=true by kernel_rfl) rfl rfl rfl rfl fun _ h=>absurd (show false=true from h) (by decide)
theorem ZqD{B:ZS}{n i m:Int}{f:List Int}{s:AS}{w:World}{g:Gh}{u:Nat->Nat->Prop}{a:Act}(c:SR EF B s w g u a)(v:s.F 0=.d (.int .i64) n)(y:s.F 3=.ptr 64 [])(z:s.F 4=.d (.int .i64) i)(A:s.F 5=.d (.int .u64) m)(C:s.H 64=some (.var (.arr 20 (.int .u8)) (.d (.arr 20 (.int .u8)) f))):SR EF B (Dd n i m f s.nx) w g u a where
 rh:=by
  have e:∀k o,(Dd n i m f s.nx).H k=some o->s.H k=some o:=by
   intro k o h;simp only[Dd]at h
   cases l:Nat.beq k 64 with
   |true=>rw[l]at h;have:=Nat.eq_of_beq_eq_true l;subst this;rw[C];exact h
   |false=>rw[l]at h;simp at h
  have p:∀k,(Dd n i m f s.nx).H k≠none->s.H k≠none:=by
   intro k h
   cases q:(Dd n i m f s.nx).H k with
   |none=>exact absurd q h
   |some o=>rw[e k o q];simp
  exact {objs:=fun k o h=>c.rh.objs k o (e k o h),dist:=fun k r b j x=>c.rh.dist k r b (p k j) (p r x),sep:=fun k b j=>c.rh.sep k b (p k j),ilt:=c.rh.ilt,inew:=c.rh.inew,os:=c.rh.os,tape:=c.rh.tape,output:=c.rh.output,size:=c.rh.size,kept:=c.rh.kept}
 fr:=fun t=>by
  simp only[Dd];split
  ·rw[<-v];exact c.fr 0
  ·rw[<-y];exact c.fr 3
  ·rw[<-z];exact c.fr 4
  ·rw[<-A];exact c.fr 5
  ·exact Hb
 nt:=c.nt
 df:=c.df
 ids:=c.ids
 fz:=fun id h=>by simp [Dd]at h
theorem Zqx{l:Nat}{s:AS}{r:YJ}(h:GB (.jump l) s=some r):l=0/\ ∃n i m b,r=.inl (n,i,m,b)/\s.F 0=.d (.int .i64) n/\s.F 3=.ptr 64 []/\s.F 4=.d (.int .i64) i/\s.F 5=.d (.int .u64) m/\s.H 64=some (.var (.arr 20 (.int .u8)) (.d (.arr 20 (.int .u8)) b)):=by
 cases l with
 |succ l=>simp [GB]at h
 |zero=>
  refine⟨rfl,?_⟩;simp only[GB]at h;split at h
  ·rename_i n i m b c e f g j;simp only[Option.some.injEq]at h;exact⟨n,i,m,b,h.symm,c,e,f,g,j⟩
  ·simp at h
theorem Zqy{s:AS}{r:YJ}(h:GB .ret s=some r):∃x,r=.inr x/\s.F 2=.d .str x:=by
 simp only[GB]at h;split at h
 ·rename_i x b;simp only[Option.some.injEq]at h;exact⟨x,h.symm,b⟩
 ·simp at h
theorem fmt_ok:ZL Tryz.prog 65 ZbV where
 wf:=rfl
 fn:=⟨_,Tryz.func65,by kernel_rfl,by kernel_rfl⟩
 run:=by
  intro w I c2 js x (z:List UInt8) b2 c4 a5 hI amb X;obtain⟨j1,j2,v,r,rfl,rfl,⟨b1,a4⟩,rfl,rfl⟩:=b2;obtain⟨rfl,b6⟩:=b1;have U:Z8 v=false:=a4.resolve_left fun h=>by cases h
  have M:v=.int .i64 x.1:=KH b6 U;subst M;have X:fmtF x.1=some z:=X;obtain⟨n,⟨⟩⟩:=x
  change Int at n
  unfold fmtF at X;rw[<-ZqC,Vc]at X;obtain⟨r0,b3,a7⟩:=X
  let B:ZS:= {w0:=w,own0:=(· ∈([]++[]:List Nat)),I0:=I,pl:=true}
  let T:Gh:= {I:=I,K:=fun _=>False,ty:=fun _=>.unit,blk:=fun _=>none,slv:=fun _=>undef,ver:=fun _=>0,row:=fun _ _ _=>undef}
  have hS:Jv Tryz.prog EF B:=⟨fun f S h=>absurd h (by simp [EF,mkE]),fun h=>absurd h (by simp [B]),fun _ f S h=>absurd h (by simp [EF,mkE]),fun f h e=>absurd (show none=some h from e) (by simp)⟩
  let R:Act:= {tmps:=[Vf .i64 n].toArray++Array.replicate (Tryz.f65.ntmps - [Vf .i64 n].toArray.size) undef,defers:=[] }
  have b7:SR EF B (DR n) w T (fun _ _=>False) R:= {
   rh:= {
    objs:=fun _ _ h=>by simp [DR]at h
    dist:=fun _ _ _ h=>by simp [DR]at h
    sep:=fun _ _ h=>by simp [DR]at h
    ilt:=hI
    inew:=fun b H=>.inl H
    os:=rfl
    tape:=rfl
    output:=.rfl
    size:=Nat.le_refl _
    kept:=fun _ _ _=>rfl}
   fr:=fun t=>by have h1:Wt w T (.cons (.d (.int .i64) n) .nil) [Vf .i64 n]:=⟨_,[],rfl,(W4 .i64 n).to1 (by simp),rfl⟩;have:=ZeH h1 (Tryz.f65.ntmps - 1) t;simpa [R,DR,Array.getD_eq_getD_getElem?,List.getD_eq_getElem?_getD, <-Array.getElem?_toList] using this
   nt:=by kernel_rfl
   df:=rfl
   ids:=fun id h=>h.elim
   fz:=fun id h=>by simp [DR]at h}
  have V:∀{Z:AS}{y:World}{E:Gh}{A:Nat->Nat->Prop}{C:Act},SR EF B Z y E A C->Lk EF w T R y E C->Z.F 2=.d .str z->C.defers=[]/\ ∃v,(results Tryz.f65 C.tmps).run Tryz.prog y=.ok v y/\ ∃Y,Ending.returned v=.returned Y/\GN ZbV w I ([]++[]) [.int .i64 n] (ZbV.unp z) Y y:=by
   intro Z y E A C g hl c1;refine⟨g.df,?_⟩;have W:Tryz.f65.results.toList=[.tmp 2]:=by kernel_rfl
   obtain⟨c7,b4,b5⟩:=Zcq ZcH g.rh g.fr Tryz.f65.results.toList (.cons (Z.F 2) .nil) [] [] (by rw[W];rfl);obtain⟨v,r,rfl,M,L⟩:=b5;have L:r=[]:=L;subst L;rw[c1]at M;have M:=M.str;subst M;refine⟨Ds _,Zho b4,_,rfl,E.I,[],[],⟨[],[],_,_,rfl,rfl,rfl,rfl⟩,⟨[.string ⟨z.toArray⟩],⟨[],[],_,_,rfl,rfl,⟨⟨rfl,rfl⟩,.inr rfl⟩,rfl,rfl⟩,rfl⟩,by simp,by simp,fun b H=>hl.le.I b H,fun b H=>⟨g.rh.ilt b H,g.rh.inew b H⟩,g.rh.os,g.rh.tape,g.rh.output,g.rh.size,fun b h1 h2=>g.rh.kept b h1 h2⟩
  have hmix:Tryz.prog.follows .mixedOrders=true:=by kernel_rfl
  refine calls_of_wp Tryz.func65 (c:=.seq fmR (.scope fmC)) (by kernel_rfl) ?_;refine wp_seq (wp_mono (Wh hmix fmR .leaf EF YJ (DR n) _ r0 ZcH hS b3 b7) ?_);rintro e a1 w1 ⟨ex,s1,g1,c5,rfl,b8,a9,q⟩
  cases ex with
  |exit i=>simp at q
  |ret=>simp at q
  |jump i=>simp at q
  |normal=>
  simp only at q
  let Inv:Nat->Act->World->Prop:=fun k C y=>∃N i m G nx E A,Rz k (.inl (N,i,m,G))=some z/\SR EF B (Dd N i m G nx) y E A C/\Lk EF w T R y E C
  have s:∀{ex:Ex}{k:Nat}{r:YJ}{s2:AS}{O:World}{g2:Gh}{u:Nat->Nat->Prop}{a2:Act}{J:Act->World->Prop},Rz k r=some z->SR EF B s2 O g2 u a2->Lk EF w T R O g2 a2->GB ex s2=some r->(∀a w,Inv k a w->J a w)->
   Exit.jump 0 J (bodyPost Tryz.prog Tryz.f65 fun e y=>∃Y,e=.returned Y/\GN ZbV w I ([]++[]) [.int .i64 n] (ZbV.unp z) Y y) (ZaA ex) a2 O:=by
   intro ex k r s2 O g2 u a2 J D p o j hJ
   cases ex with
   |normal=>simp [GB]at j
   |exit i=>simp [GB]at j
   |ret=>
    obtain⟨x,rfl,h2⟩:=Zqy j
    have a6:x=z:=by cases k<;>simpa [Rz] using D
    subst a6
    exact V p o h2
   |jump l=>
    obtain⟨rfl,N,i,m,G,rfl,h0,h3,h4,h5,hH⟩:=Zqx j;exact⟨rfl,hJ _ _ ⟨N,i,m,G,s2.nx,g2,u,D,ZqD p h0 h3 h4 h5 hH,o⟩⟩
  refine ZuA 0 Inv (show findLabel fmC 0=some fmL by kernel_rfl) ?_ ?_
  ·refine wp_mono (Wh hmix fmC .leaf EF YJ s1 _ r0 ZcH hS q b8) ?_;rintro e a2 O ⟨ex,s2,g2,u,rfl,p,o,j⟩;exact s a7 p (a9.lk.trans o.lk) j fun a w h=>⟨_,h⟩
  ·intro k a2 O ⟨N,i,m,G,nx,g2,u,D,p,o⟩
   cases k with
   |zero=>simp [Rz]at D
   |succ k=>
   simp only[Rz,Vc]at D;obtain⟨r,L,D⟩:=D;rw[<-ZqA N i m G nx]at L;refine wp_mono (Wh hmix fmL .leaf EF YJ _ _ r ZcH hS L p) ?_;rintro e a3 w3 ⟨ex,s3,g3,c6,rfl,b9,b0,a8⟩;exact s D b9 (o.trans b0.lk) a8 fun a w h=>⟨k,Nat.lt_succ_self k,h⟩
end Tr
