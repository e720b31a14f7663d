/- slices.Compact of pairs: under way. Conditions: none. -/
import Derived.Test.YtdpenljjnfmgiaaGreatProg
import Derived.KernelRfl
import Derived.Test.YtdpenljjnfmgiaaGreatETsF
open Go.IntKind renaming wrap ->Vc
open List renaming length ->Vb,replicate ->Vd,take ->Ve,drop ->Vf
open Option renaming bind ->Va
open Option renaming some ->Ua,none ->Ub
open Bool renaming true ->Uc,false ->Ud
open Decidable renaming decide ->Ue
namespace Tr
open Go Go.Proofs
noncomputable section
abbrev YN:Ty:=.arr 2 (.int .i64)
def tyC:List (Nat×Ty):=[(3,.int .i64),(4,.bool),(63,.sl YN),(65,YN)]
def EC:Kh:=mkE tyC [] [] [] [] [] 61
def Zmh:Code:=match Wh Tryz.f63 with|.seq r _=>r|c=>c
def cmA:Code:=match Wh Tryz.f63 with|.seq _ (.seq a _)=>a|c=>c
def Zmi:Code:=match Wh Tryz.f63 with|.seq _ (.seq _ (.seq (.seq r _) _))=>r|c=>c
def Zcx:Code:=match Wh Tryz.f63 with|.seq _ (.seq _ (.seq (.seq _ (.block _ (.loop b))) _))=>b|c=>c
def Zit:Code:=match Wh Tryz.f63 with|.seq _ (.seq _ (.seq _ e))=>e|c=>c
def Ziu:Code:=match Zcx with|.seq h _=>h|c=>c
def Zix:Code:=match Zcx with|.seq _ (.seq (.block _ (.seq r _)) _)=>r|c=>c
def ZdM:Code:=match Zcx with|.seq _ (.seq (.block _ (.seq _ (.cond _ c _))) _)=>c|c=>c
def Ziw:Code:=match Zcx with|.seq _ (.seq _ r)=>r|c=>c
def Zmj:Code:=match ZdM with|.seq r _=>r|c=>c
def Zmk:Code:=match ZdM with|.seq _ (.seq (.seq r _) _)=>r|c=>c
def Ziv:Code:=match ZdM with|.seq _ (.seq (.seq _ (.block _ (.loop b))) _)=>b|c=>c
def Ziy:Code:=match ZdM with|.seq _ (.seq _ t)=>t|c=>c
abbrev J7:=List (El YN)
inductive K9 where
 |out (xs:J7) (k:Int)
 |inn (xs:J7) (k:Int) (lo n:Nat) (k2:Int)
 |res (xs:J7)
abbrev Gs:Pats:=.cons (.own YN Ud) .nil
abbrev ZfD:Pats:=.cons (.pd (.sl YN)) .nil
def RW(e:Ex)(s:AS):Option K9:=match e with
 |.ret=>(YO EC Tryz.f63.results Gs ZfD [] .ret s).bind λy=>Ua (.res y.2.1)
 |_=>Ub
def cmO(s:AS):Option K9:=match s.F 0,s.F 3,s.H 0 with
 |.vw 0,.d (.int .i64) k,Ua (.vec (.arr 2 (.int .i64)) xs)=>Ua (.out xs k)
 |_,_,_=>Ub
def cmI(s:AS):Option K9:=match s.F 0,s.F 3,s.F 4,s.F 5,s.H 0 with
 |.vw 0,.d (.int .i64) k,.vs 0 b n,.d (.int .i64) a,Ua (.vec (.arr 2 (.int .i64)) xs)=>Ua (.inn xs k b n a)
 |_,_,_,_,_=>Ub
def Zt0(xs:J7):Option K9:=
 Kr Zmh .leaf EC K9 ⟨(Z5 Gs (xs,()) 0).1.toF,WM (Z5 Gs (xs,()) 0).2.1,(Z5 Gs (xs,()) 0).2.2,[]⟩ λe s=>match e with
  |.normal=>Kr cmA .leaf EC K9 s λe s=>match e with
   |.normal=>Kr Zmi .leaf EC K9 s λe s=>match e with
    |.normal=>cmO s
    |_=>Ub
   |.ret=>RW .ret s
   |_=>Ub
  |_=>Ub
def ZfF(xs:J7)(k:Int)(nx:Nat):AS:=⟨λt=>match t with|0=>.vw 0|3=>.d (.int .i64) k|_=>.junk,λk=>bif Nat.beq k 0 then Ua (.vec YN xs) else Ub,nx,[]⟩
def ZfE(xs:J7)(k:Int)(a n:Nat)(k2:Int)(nx:Nat):AS:=⟨λt=>match t with|0=>.vw 0|3=>.d (.int .i64) k|4=>.vs 0 a n|5=>.d (.int .i64) k2|_=>.junk,λk=>bif Nat.beq k 0 then Ua (.vec YN xs) else Ub,nx,[]⟩
def ZtY(xs:J7)(k:Int)(nx:Nat):Option K9:=
 Kr Ziu .leaf EC K9 (ZfF xs k nx) λe s=>match e with
  |.exit 0=>Kr Zit .leaf EC K9 s RW
  |.normal=>Kr Zix .leaf EC K9 s λe s=>match e with
   |.normal=>(match s.F 25 with
    |.d .bool t=>bif t then Kr Zmj .leaf EC K9 s λe s=>match e with
      |.normal=>Kr Zmk .leaf EC K9 s λe s=>match e with
       |.normal=>cmI s
       |_=>Ub
      |_=>Ub
     else Kr Ziw .leaf EC K9 s λe s=>match e with
      |.normal=>cmO s
      |_=>Ub
    |_=>Ub)
   |_=>Ub
  |_=>Ub
def ZtW(xs:J7)(k:Int)(a n:Nat)(k2:Int)(nx:Nat):Option K9:=
 Kr Ziv .leaf EC K9 (ZfE xs k a n k2 nx) λe s=>match e with
  |.exit 2=>Kr Ziy .leaf EC K9 s RW
  |.normal=>cmI s
  |_=>Ub
def eqP(a b:El YN):Option Bool:=Tr.eqEl YN a b
def Zmo(xs:J7):Option K9:=bif Ue ((↑(Vb xs))<(2:Int)) then Ua (.res xs) else Ua (.out xs 1)
def Zml(xs:J7)(k:Int):Option K9:=
 bif Ue (k<(↑(Vb xs))) then
  Va (Zo k (Vb xs)) λb=>
   Va xs[b]? λc=>
    Va (Zo (Vc .i64 (k - 1)) (Vb xs)) λd=>
     Va xs[d]? λe=>
      Va (eqP c e) λf=>
       bif f then Va (sliceB (Vb xs) (Vb xs) (Ua k) Ub) λa=>Ua (K9.inn xs k a.1 (a.2 - a.1) 1)
       else Ua (K9.out xs (Vc .i64 (k+1)))
 else Ua (K9.res xs)
def Zmf(xs:J7)(k:Int)(b n:Nat)(k2:Int):Option K9:=
 bif Ue (k2< ↑n) then
  Va (Zw (Ue (b+n<=Vb xs))) λ_=>
   Va (Zo k2 n) λe=>
    Va xs[b+e]? λf=>
     Va (Zw (Ue (b+n<=Vb xs))) λ_=>
      Va (Zo (Vc .i64 (k2 - 1)) n) λg=>
       Va xs[b+g]? λh=>
        Va (eqP f h) λi=>
         bif !i then
          Va (Zw (Ue (b+n<=Vb xs))) λ_=>
           Va (Zo k2 n) λj=>
            Va xs[b+j]? λl=>
             Va (Zo k (Vb xs)) λc=>
              Va xs[c]? λ_=>
               Ua (K9.inn (List.set xs c l) (Vc .i64 (k+1)) b n (Vc .i64 (k2+1)))
         else Ua (K9.inn xs k b n (Vc .i64 (k2+1)))
 else
  Va (sliceB (Vb xs) (Vb xs) (Ua k) Ub) λa=>
   Va (Zw (Ue (a.1+(a.2 - a.1)<=Vb xs))) λ_=>
    Va
     (sliceB (Vb (Ve a.1 xs++Vd (a.2 - a.1) (zeroEl YN)++Vf (a.1+(a.2 - a.1)) xs))
       (Vb (Ve a.1 xs++Vd (a.2 - a.1) (zeroEl YN)++Vf (a.1+(a.2 - a.1)) xs)) Ub (Ua k))
     λd=>
     Ua (K9.res (Ve d.2 (Vf 0 (Ve a.1 xs++Vd (a.2 - a.1) (zeroEl YN)++Vf (a.1+(a.2 - a.1)) xs))))
theorem Zt1 xs:Zt0 xs=Zmo xs:=by kernel_rfl
theorem ZtZ xs k nx:ZtY xs k nx=Zml xs k:=by kernel_rfl
theorem ZtX xs k a n k2 nx:ZtW xs k a n k2 nx=Zmf xs k a n k2:=by kernel_rfl
def HJ:Nat->K9->Option J7
 |_,.res xs=>Ua xs
 |0,_=>Ub
 |m+1,.out xs k=>(Zml xs k).bind (HJ m)
 |m+1,.inn xs k b n a=>(Zmf xs k b n a).bind (HJ m)
def cmF(xs:J7):Option J7:=(Zmo xs).bind (HJ 100)
theorem GN:Z0 Tryz.prog EC:=typesOk_of (pks:=[]) (by kernel_rfl) rfl rfl rfl rfl λ_ h=>absurd (show Ud=Uc from h) (by decide)
end
end Tr
