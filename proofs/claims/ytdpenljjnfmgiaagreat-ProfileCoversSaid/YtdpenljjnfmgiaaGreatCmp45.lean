/- slices.Compact of pairs: under way. Conditions: none. -/
import Derived.Test.YtdpenljjnfmgiaaGreatProg
import Derived.KernelRfl
import Derived.Test.YtdpenljjnfmgiaaGreatETsF
open Go.IntKind renaming wrap ->Vc
open List renaming length ->Vb,replicate ->Vd,take ->Ve,drop ->Vf
open Option renaming bind ->Va
open Option renaming some ->Ua,none ->Ub
open Bool renaming true ->Uc,false ->Ud
open Decidable renaming decide ->Ue
namespace Tr
open Go Go.Proofs
noncomputable section
abbrev Yr:Ty:=.arr 2 (.int .i64)
def tyC:List (Nat×Ty):=[(3,.int .i64),(4,.bool),(63,.sl Yr),(65,Yr)]
def EC:Z9:=mkE tyC [] [] [] [] [] 61
def Zg7:Code:=match K2 Tryz.f63 with|.seq r _=>r|c=>c
def cmA:Code:=match K2 Tryz.f63 with|.seq _ (.seq a _)=>a|c=>c
def Zg8:Code:=match K2 Tryz.f63 with|.seq _ (.seq _ (.seq (.seq r _) _))=>r|c=>c
def Zap:Code:=match K2 Tryz.f63 with|.seq _ (.seq _ (.seq (.seq _ (.block _ (.loop b))) _))=>b|c=>c
def Zbv:Code:=match K2 Tryz.f63 with|.seq _ (.seq _ (.seq _ e))=>e|c=>c
def Zg6:Code:=match Zap with|.seq h _=>h|c=>c
def Zg9:Code:=match Zap with|.seq _ (.seq (.block _ (.seq r _)) _)=>r|c=>c
def Zbw:Code:=match Zap with|.seq _ (.seq (.block _ (.seq _ (.cond _ c _))) _)=>c|c=>c
def ZeA:Code:=match Zap with|.seq _ (.seq _ r)=>r|c=>c
def Zha:Code:=match Zbw with|.seq r _=>r|c=>c
def Zhb:Code:=match Zbw with|.seq _ (.seq (.seq r _) _)=>r|c=>c
def Zey:Code:=match Zbw with|.seq _ (.seq (.seq _ (.block _ (.loop b))) _)=>b|c=>c
def ZcQ:Code:=match Zbw with|.seq _ (.seq _ t)=>t|c=>c
abbrev WY:=List (El Yr)
inductive K1 where
 |out (xs:WY) (k:Int)
 |inn (xs:WY) (k:Int) (lo n:Nat) (k2:Int)
 |res (xs:WY)
abbrev HN:Pats:=.cons (.own Yr Ud) .nil
abbrev ZeB:Pats:=.cons (.pd (.sl Yr)) .nil
def D9(e:Ex)(s:AS):Option K1:=match e with
 |.ret=>(Ys EC Tryz.f63.results HN ZeB [] .ret s).bind λy=>Ua (.res y.2.1)
 |_=>Ub
def cmO(s:AS):Option K1:=match s.F 0,s.F 3,s.H 0 with
 |.vw 0,.d (.int .i64) k,Ua (.vec (.arr 2 (.int .i64)) xs)=>Ua (.out xs k)
 |_,_,_=>Ub
def cmI(s:AS):Option K1:=match s.F 0,s.F 3,s.F 4,s.F 5,s.H 0 with
 |.vw 0,.d (.int .i64) k,.vs 0 b n,.d (.int .i64) a,Ua (.vec (.arr 2 (.int .i64)) xs)=>Ua (.inn xs k b n a)
 |_,_,_,_,_=>Ub
def ZkK(xs:WY):Option K1:=
 Ko Zg7 .leaf EC K1 ⟨(Kb HN (xs,()) 0).1.toF,WM (Kb HN (xs,()) 0).2.1,(Kb HN (xs,()) 0).2.2,[]⟩ λe s=>match e with
  |.normal=>Ko cmA .leaf EC K1 s λe s=>match e with
   |.normal=>Ko Zg8 .leaf EC K1 s λe s=>match e with
    |.normal=>cmO s
    |_=>Ub
   |.ret=>D9 .ret s
   |_=>Ub
  |_=>Ub
def ZeD(xs:WY)(k:Int)(nx:Nat):AS:=⟨λt=>match t with|0=>.vw 0|3=>.d (.int .i64) k|_=>.junk,λk=>bif Nat.beq k 0 then Ua (.vec Yr xs) else Ub,nx,[]⟩
def ZeC(xs:WY)(k:Int)(a n:Nat)(k2:Int)(nx:Nat):AS:=⟨λt=>match t with|0=>.vw 0|3=>.d (.int .i64) k|4=>.vs 0 a n|5=>.d (.int .i64) k2|_=>.junk,λk=>bif Nat.beq k 0 then Ua (.vec Yr xs) else Ub,nx,[]⟩
def ZkG(xs:WY)(k:Int)(nx:Nat):Option K1:=
 Ko Zg6 .leaf EC K1 (ZeD xs k nx) λe s=>match e with
  |.exit 0=>Ko Zbv .leaf EC K1 s D9
  |.normal=>Ko Zg9 .leaf EC K1 s λe s=>match e with
   |.normal=>(match s.F 25 with
    |.d .bool t=>bif t then Ko Zha .leaf EC K1 s λe s=>match e with
      |.normal=>Ko Zhb .leaf EC K1 s λe s=>match e with
       |.normal=>cmI s
       |_=>Ub
      |_=>Ub
     else Ko ZeA .leaf EC K1 s λe s=>match e with
      |.normal=>cmO s
      |_=>Ub
    |_=>Ub)
   |_=>Ub
  |_=>Ub
def ZrK(xs:WY)(k:Int)(a n:Nat)(k2:Int)(nx:Nat):Option K1:=
 Ko Zey .leaf EC K1 (ZeC xs k a n k2 nx) λe s=>match e with
  |.exit 2=>Ko ZcQ .leaf EC K1 s D9
  |.normal=>cmI s
  |_=>Ub
def eqP(a b:El Yr):Option Bool:=Tr.eqEl Yr a b
def ZkL(xs:WY):Option K1:=bif Ue ((↑(Vb xs):Int)<(2:Int)) then Ua (.res xs) else Ua (.out xs (1:Int))
def ZkH(xs:WY)(k:Int):Option K1:=
 bif Ue (k<(↑(Vb xs):Int)) then
  Va (Zv k (Vb xs)) λb=>
   Va xs[b]? λc=>
    Va (Zv (Vc .i64 (k - (1:Int))) (Vb xs)) λd=>
     Va xs[d]? λe=>
      Va (eqP c e) λf=>
       bif f then Va (sliceB (Vb xs) (Vb xs) (Ua k) Ub) λa=>Ua (K1.inn xs k a.1 (a.2 - a.1) (1:Int))
       else Ua (K1.out xs (Vc .i64 (k+(1:Int))))
 else Ua (K1.res xs)
def ZkE(xs:WY)(k:Int)(b n:Nat)(k2:Int):Option K1:=
 bif Ue (k2<(↑n:Int)) then
  Va (ZD (Ue (b+n<=Vb xs))) λ_=>
   Va (Zv k2 n) λe=>
    Va xs[b+e]? λf=>
     Va (ZD (Ue (b+n<=Vb xs))) λ_=>
      Va (Zv (Vc .i64 (k2 - (1:Int))) n) λg=>
       Va xs[b+g]? λh=>
        Va (eqP f h) λi=>
         bif !i then
          Va (ZD (Ue (b+n<=Vb xs))) λ_=>
           Va (Zv k2 n) λj=>
            Va xs[b+j]? λl=>
             Va (Zv k (Vb xs)) λc=>
              Va xs[c]? λ_=>
               Ua (K1.inn (List.set xs c l) (Vc .i64 (k+(1:Int))) b n (Vc .i64 (k2+(1:Int))))
         else Ua (K1.inn xs k b n (Vc .i64 (k2+(1:Int))))
 else
  Va (sliceB (Vb xs) (Vb xs) (Ua k) Ub) λa=>
   Va (ZD (Ue (a.1+(a.2 - a.1)<=Vb xs))) λ_=>
    Va
     (sliceB (Vb (Ve a.1 xs++Vd (a.2 - a.1) (zeroEl Yr)++Vf (a.1+(a.2 - a.1)) xs))
       (Vb (Ve a.1 xs++Vd (a.2 - a.1) (zeroEl Yr)++Vf (a.1+(a.2 - a.1)) xs)) Ub (Ua k))
     λd=>
     Ua (K1.res (Ve d.2 (Vf (0:Nat) (Ve a.1 xs++Vd (a.2 - a.1) (zeroEl Yr)++Vf (a.1+(a.2 - a.1)) xs))))
theorem ZrN(xs:WY):ZkK xs=ZkL xs:=by kernel_rfl
theorem ZrM(xs:WY)(k:Int)(nx:Nat):ZkG xs k nx=ZkH xs k:=by kernel_rfl
theorem ZrL(xs:WY)(k:Int)(a n:Nat)(k2:Int)(nx:Nat):ZrK xs k a n k2 nx=ZkE xs k a n k2:=by kernel_rfl
def Hi:Nat->K1->Option WY
 |_,.res xs=>Ua xs
 |0,_=>Ub
 |m+1,.out xs k=>(ZkH xs k).bind (Hi m)
 |m+1,.inn xs k b n a=>(ZkE xs k b n a).bind (Hi m)
def cmF(xs:WY):Option WY:=(ZkL xs).bind (Hi 100)
theorem Ge:Z4 Tryz.prog EC:=typesOk_of (pks:=[]) (bds:=[]) (show H6 Tryz.prog tyC [] [] []=Uc by kernel_rfl) rfl rfl rfl rfl λ_ h=>absurd (show Ud=Uc from h) (by decide)
end
end Tr
