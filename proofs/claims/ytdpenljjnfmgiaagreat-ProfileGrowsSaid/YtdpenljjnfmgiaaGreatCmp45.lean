/- slices.Compact of pairs: under way. Conditions: none. -/
import Derived.Test.YtdpenljjnfmgiaaGreatProg
import Derived.KernelRfl
import Derived.Test.YtdpenljjnfmgiaaGreatETsF
open Go.IntKind renaming wrap ->Vc
open List renaming length ->Vb,replicate ->Vd,take ->Ve,drop ->Vf
open Option renaming bind ->Va
namespace Tr
open Go Go.Proofs
noncomputable section
abbrev X1:Ty:=.arr 2 (.int .i64)
def tyC:List (Nat×Ty):=[(3,.int .i64),(4,.bool),(63,.sl X1),(65,X1)]
def EC:Z3:=mkE tyC [] [] [] [] [] 61
def ZfO:Code:=match KM Tryz.f63 with|.seq r _=>r|c=>c
def cmA:Code:=match KM Tryz.f63 with|.seq _ (.seq a _)=>a|c=>c
def ZfP:Code:=match KM Tryz.f63 with|.seq _ (.seq _ (.seq (.seq r _) _))=>r|c=>c
def Rs:Code:=match KM Tryz.f63 with|.seq _ (.seq _ (.seq (.seq _ (.block _ (.loop b))) _))=>b|c=>c
def Zat:Code:=match KM Tryz.f63 with|.seq _ (.seq _ (.seq _ e))=>e|c=>c
def ZfN:Code:=match Rs with|.seq h _=>h|c=>c
def ZfQ:Code:=match Rs with|.seq _ (.seq (.block _ (.seq r _)) _)=>r|c=>c
def Zau:Code:=match Rs with|.seq _ (.seq (.block _ (.seq _ (.cond _ c _))) _)=>c|c=>c
def Zdr:Code:=match Rs with|.seq _ (.seq _ r)=>r|c=>c
def ZfR:Code:=match Zau with|.seq r _=>r|c=>c
def ZfS:Code:=match Zau with|.seq _ (.seq (.seq r _) _)=>r|c=>c
def Zdp:Code:=match Zau with|.seq _ (.seq (.seq _ (.block _ (.loop b))) _)=>b|c=>c
def ZbN:Code:=match Zau with|.seq _ (.seq _ t)=>t|c=>c
abbrev Wz:=List (El X1)
inductive KJ where
 |out (xs:Wz) (k:Int)
 |inn (xs:Wz) (k:Int) (lo n:Nat) (k2:Int)
 |res (xs:Wz)
abbrev Hj:Pats:=.cons (.own X1 false) .nil
abbrev Zds:Pats:=.cons (.pd (.sl X1)) .nil
def G6(e:Ex)(s:AS):Option KJ:=match e with
 |.ret=>(X3 EC Tryz.f63.results Hj Zds [] .ret s).bind fun y=>some (.res y.2.1)
 |_=>none
def cmO(s:AS):Option KJ:=match s.F 0,s.F 3,s.H 0 with
 |.vw 0,.d (.int .i64) k,some (.vec (.arr 2 (.int .i64)) xs)=>some (.out xs k)
 |_,_,_=>none
def cmI(s:AS):Option KJ:=match s.F 0,s.F 3,s.F 4,s.F 5,s.H 0 with
 |.vw 0,.d (.int .i64) k,.vs 0 b n,.d (.int .i64) a,some (.vec (.arr 2 (.int .i64)) xs)=>some (.inn xs k b n a)
 |_,_,_,_,_=>none
def Zjb(xs:Wz):Option KJ:=
 Kj ZfO .leaf EC KJ ⟨(Z4 Hj (xs,()) 0).1.toF,Ws (Z4 Hj (xs,()) 0).2.1,(Z4 Hj (xs,()) 0).2.2,[]⟩ fun e s=>match e with
  |.normal=>Kj cmA .leaf EC KJ s fun e s=>match e with
   |.normal=>Kj ZfP .leaf EC KJ s fun e s=>match e with
    |.normal=>cmO s
    |_=>none
   |.ret=>G6 .ret s
   |_=>none
  |_=>none
def Zdu(xs:Wz)(k:Int)(nx:Nat):AS:=⟨fun t=>match t with|0=>.vw 0|3=>.d (.int .i64) k|_=>.junk,fun k=>bif Nat.beq k 0 then some (.vec X1 xs) else none,nx,[]⟩
def Zdt(xs:Wz)(k:Int)(lo n:Nat)(k2:Int)(nx:Nat):AS:=⟨fun t=>match t with|0=>.vw 0|3=>.d (.int .i64) k|4=>.vs 0 lo n|5=>.d (.int .i64) k2|_=>.junk,fun k=>bif Nat.beq k 0 then some (.vec X1 xs) else none,nx,[]⟩
def Zi7(xs:Wz)(k:Int)(nx:Nat):Option KJ:=
 Kj ZfN .leaf EC KJ (Zdu xs k nx) fun e s=>match e with
  |.exit 0=>Kj Zat .leaf EC KJ s G6
  |.normal=>Kj ZfQ .leaf EC KJ s fun e s=>match e with
   |.normal=>(match s.F 25 with
    |.d .bool t=>bif t then Kj ZfR .leaf EC KJ s fun e s=>match e with
      |.normal=>Kj ZfS .leaf EC KJ s fun e s=>match e with
       |.normal=>cmI s
       |_=>none
      |_=>none
     else Kj Zdr .leaf EC KJ s fun e s=>match e with
      |.normal=>cmO s
      |_=>none
    |_=>none)
   |_=>none
  |_=>none
def Zpp(xs:Wz)(k:Int)(lo n:Nat)(k2:Int)(nx:Nat):Option KJ:=
 Kj Zdp .leaf EC KJ (Zdt xs k lo n k2 nx) fun e s=>match e with
  |.exit 2=>Kj ZbN .leaf EC KJ s G6
  |.normal=>cmI s
  |_=>none
def eqP(a b:El X1):Option Bool:=Tr.eqEl X1 a b
def Zjc(xs:Wz):Option KJ:=bif decide ((↑(Vb xs):Int)<(2:Int)) then some (.res xs) else some (.out xs (1:Int))
def Zi8(xs:Wz)(k:Int):Option KJ:=
 bif decide (k<(↑(Vb xs):Int)) then
  Va (ZA k (Vb xs)) fun b=>
   Va xs[b]? fun c=>
    Va (ZA (Vc .i64 (k - (1:Int))) (Vb xs)) fun d=>
     Va xs[d]? fun e=>
      Va (eqP c e) fun f=>
       bif f then Va (sliceB (Vb xs) (Vb xs) (some k) none) fun a=>some (KJ.inn xs k a.1 (a.2 - a.1) (1:Int))
       else some (KJ.out xs (Vc .i64 (k+(1:Int))))
 else some (KJ.res xs)
def Zi5(xs:Wz)(k:Int)(lo n:Nat)(k2:Int):Option KJ:=
 bif decide (k2<(↑n:Int)) then
  Va (Zy (decide (lo+n<=Vb xs))) fun _=>
   Va (ZA k2 n) fun d=>
    Va xs[lo+d]? fun e=>
     Va (Zy (decide (lo+n<=Vb xs))) fun _=>
      Va (ZA (Vc .i64 (k2 - (1:Int))) n) fun f=>
       Va xs[lo+f]? fun g=>
        Va (eqP e g) fun h=>
         bif !h then
          Va (Zy (decide (lo+n<=Vb xs))) fun _=>
           Va (ZA k2 n) fun i=>
            Va xs[lo+i]? fun j=>
             Va (ZA k (Vb xs)) fun b=>
              Va xs[b]? fun _=>
               some (KJ.inn (List.set xs b j) (Vc .i64 (k+(1:Int))) lo n (Vc .i64 (k2+(1:Int))))
         else some (KJ.inn xs k lo n (Vc .i64 (k2+(1:Int))))
 else
  Va (sliceB (Vb xs) (Vb xs) (some k) none) fun a=>
   Va (Zy (decide (a.1+(a.2 - a.1)<=Vb xs))) fun _=>
    Va
     (sliceB (Vb (Ve a.1 xs++Vd (a.2 - a.1) (zeroEl X1)++Vf (a.1+(a.2 - a.1)) xs))
       (Vb (Ve a.1 xs++Vd (a.2 - a.1) (zeroEl X1)++Vf (a.1+(a.2 - a.1)) xs)) none (some k))
     fun c=>
     some (KJ.res (Ve c.2 (Vf (0:Nat) (Ve a.1 xs++Vd (a.2 - a.1) (zeroEl X1)++Vf (a.1+(a.2 - a.1)) xs))))
theorem Zps(xs:Wz):Zjb xs=Zjc xs:=by kernel_rfl
theorem Zpr(xs:Wz)(k:Int)(nx:Nat):Zi7 xs k nx=Zi8 xs k:=by kernel_rfl
theorem Zpq(xs:Wz)(k:Int)(lo n:Nat)(k2:Int)(nx:Nat):Zpp xs k lo n k2 nx=Zi5 xs k lo n k2:=by kernel_rfl
def YQ:Nat->KJ->Option Wz
 |_,.res xs=>some xs
 |0,_=>none
 |m+1,.out xs k=>(Zi8 xs k).bind (YQ m)
 |m+1,.inn xs k b n a=>(Zi5 xs k b n a).bind (YQ m)
def cmF(xs:Wz):Option Wz:=(Zjc xs).bind (YQ 100)
theorem Hs:ZX Tryz.prog EC:=typesOk_of (pks:=[]) (bds:=[]) (show Hq Tryz.prog tyC [] [] []=true by kernel_rfl) rfl rfl rfl rfl fun _ h=>absurd (show false=true from h) (by decide)
end
end Tr
