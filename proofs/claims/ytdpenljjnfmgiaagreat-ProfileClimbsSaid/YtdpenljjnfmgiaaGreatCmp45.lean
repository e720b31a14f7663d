/- slices.Compact of pairs: under way. Conditions: none. -/
import Derived.Test.YtdpenljjnfmgiaaGreatProg
import Derived.KernelRfl
import Derived.Test.YtdpenljjnfmgiaaGreatTsJ
open Go.IntKind renaming wrap ->Vc
open List renaming length ->Vb,replicate ->Vd,take ->Ve,drop ->Vf
open Option renaming bind ->Va
namespace Tr
open Go Go.Proofs
noncomputable section
abbrev cmE:Ty:= .arr 2 (.int .i64)
def tyC:List (Nat×Ty):=[(3, .int .i64),(4, .bool),(63, .sl cmE),(65,cmE)]
def EC:Env:=mkE tyC [] [] [] [] [] 61
def Zop:Code:=match Zbc Tryz.f63 with| .seq r _=>r|c=>c
def cmA:Code:=match Zbc Tryz.f63 with| .seq _ (.seq a _)=>a|c=>c
def Zos:Code:=match Zbc Tryz.f63 with| .seq _ (.seq _ (.seq (.seq r _) _))=>r|c=>c
def Zfu:Code:=match Zbc Tryz.f63 with| .seq _ (.seq _ (.seq (.seq _ (.block _ (.loop b))) _))=>b|c=>c
def ZjP:Code:=match Zbc Tryz.f63 with| .seq _ (.seq _ (.seq _ e))=>e|c=>c
def Zor:Code:=match Zfu with| .seq h _=>h|c=>c
def ZoC:Code:=match Zfu with| .seq _ (.seq (.block _ (.seq r _)) _)=>r|c=>c
def Zeb:Code:=match Zfu with| .seq _ (.seq (.block _ (.seq _ (.cond _ c _))) _)=>c|c=>c
def Zof:Code:=match Zfu with| .seq _ (.seq _ r)=>r|c=>c
def ZoD:Code:=match Zeb with| .seq r _=>r|c=>c
def Zoo:Code:=match Zeb with| .seq _ (.seq (.seq r _) _)=>r|c=>c
def Zoi:Code:=match Zeb with| .seq _ (.seq (.seq _ (.block _ (.loop b))) _)=>b|c=>c
def Zhq:Code:=match Zeb with| .seq _ (.seq _ t)=>t|c=>c
abbrev CmL:=List (El cmE)
inductive CmS where
 |out (xs:CmL) (k:Int)
 |inn (xs:CmL) (k:Int) (lo n:Nat) (k2:Int)
 |res (xs:CmL)
abbrev ZjN:ZaS:= .cons (.own cmE false) .nil
abbrev Zoa:ZaS:= .cons (.pd (.sl cmE)) .nil
def cmX(e:Ex)(s:AS):Option CmS:=match e with
 | .ret=>(Zeg EC Tryz.f63.results ZjN Zoa [] .ret s).bind fun y=>some (.res y.2.1)
 |_=>none
def cmO(s:AS):Option CmS:=match s.F 0,s.F 3,s.H 0 with
 | .vw 0, .d (.int .i64) k,some (.vec (.arr 2 (.int .i64)) xs)=>some (.out xs k)
 |_,_,_=>none
def cmI(s:AS):Option CmS:=match s.F 0,s.F 3,s.F 4,s.F 5,s.H 0 with
 | .vw 0, .d (.int .i64) k, .vs 0 lo n, .d (.int .i64) k2,some (.vec (.arr 2 (.int .i64)) xs)=>some (.inn xs k lo n k2)
 |_,_,_,_,_=>none
def ZjX(xs:CmL):Option CmS:=
 ZaQ Zop .leaf EC CmS ⟨(Zbj ZjN (xs,()) 0).1.toF,Zbw (Zbj ZjN (xs,()) 0).2.1,(Zbj ZjN (xs,()) 0).2.2,[]⟩ fun e s=>match e with
  | .normal=>ZaQ cmA .leaf EC CmS s fun e s=>match e with
   | .normal=>ZaQ Zos .leaf EC CmS s fun e s=>match e with
    | .normal=>cmO s
    |_=>none
   | .ret=>cmX .ret s
   |_=>none
  |_=>none
def Zn5(xs:CmL)(k:Int)(nx:Nat):AS:=⟨fun t=>match t with|0=> .vw 0|3=> .d (.int .i64) k|_=> .junk,fun k=>bif Nat.beq k 0 then some (.vec cmE xs) else none,nx,[]⟩
def Zoc(xs:CmL)(k:Int)(lo n:Nat)(k2:Int)(nx:Nat):AS:=⟨fun t=>match t with|0=> .vw 0|3=> .d (.int .i64) k|4=> .vs 0 lo n|5=> .d (.int .i64) k2|_=> .junk,fun k=>bif Nat.beq k 0 then some (.vec cmE xs) else none,nx,[]⟩
def Zlq(xs:CmL)(k:Int)(nx:Nat):Option CmS:=
 ZaQ Zor .leaf EC CmS (Zn5 xs k nx) fun e s=>match e with
  | .exit 0=>ZaQ ZjP .leaf EC CmS s cmX
  | .normal=>ZaQ ZoC .leaf EC CmS s fun e s=>match e with
   | .normal=>(match s.F 25 with
    | .d .bool t=>bif t then ZaQ ZoD .leaf EC CmS s fun e s=>match e with
      | .normal=>ZaQ Zoo .leaf EC CmS s fun e s=>match e with
       | .normal=>cmI s
       |_=>none
      |_=>none
     else ZaQ Zof .leaf EC CmS s fun e s=>match e with
      | .normal=>cmO s
      |_=>none
    |_=>none)
   |_=>none
  |_=>none
def Zov(xs:CmL)(k:Int)(lo n:Nat)(k2:Int)(nx:Nat):Option CmS:=
 ZaQ Zoi .leaf EC CmS (Zoc xs k lo n k2 nx) fun e s=>match e with
  | .exit 2=>ZaQ Zhq .leaf EC CmS s cmX
  | .normal=>cmI s
  |_=>none
def eqP(a b:El cmE):Option Bool:=Tr.eqEl cmE a b
def ZgI(xs:CmL):Option CmS:=bif decide ((↑(Vb xs):Int)< (2:Int)) then some (.res xs) else some (.out xs (1:Int))
def Zgt(xs:CmL)(k:Int):Option CmS:=
 bif decide (k< (↑(Vb xs):Int)) then
  Va (inb k (Vb xs)) fun x0=>
   Va xs[x0]? fun x1=>
    Va (inb (Vc .i64 (k - (1:Int))) (Vb xs)) fun x2=>
     Va xs[x2]? fun x3=>
      Va (eqP x1 x3) fun x4=>
       bif x4 then Va (sliceB (Vb xs) (Vb xs) (some k) none) fun x5=>some (CmS.inn xs k x5.1 (x5.2 - x5.1) (1:Int))
       else some (CmS.out xs (Vc .i64 (k+(1:Int))))
 else some (CmS.res xs)
def ZkC(xs:CmL)(k:Int)(lo n:Nat)(k2:Int):Option CmS:=
 bif decide (k2< (↑n:Int)) then
  Va (Zar (decide (lo+n<=Vb xs))) fun _=>
   Va (inb k2 n) fun x1=>
    Va xs[lo+x1]? fun x2=>
     Va (Zar (decide (lo+n<=Vb xs))) fun _=>
      Va (inb (Vc .i64 (k2 - (1:Int))) n) fun x4=>
       Va xs[lo+x4]? fun x5=>
        Va (eqP x2 x5) fun x6=>
         bif !x6 then
          Va (Zar (decide (lo+n<=Vb xs))) fun _=>
           Va (inb k2 n) fun x8=>
            Va xs[lo+x8]? fun x9=>
             Va (inb k (Vb xs)) fun x10=>
              Va xs[x10]? fun _=>
               some (CmS.inn (List.set xs x10 x9) (Vc .i64 (k+(1:Int))) lo n (Vc .i64 (k2+(1:Int))))
         else some (CmS.inn xs k lo n (Vc .i64 (k2+(1:Int))))
 else
  Va (sliceB (Vb xs) (Vb xs) (some k) none) fun x12=>
   Va (Zar (decide (x12.1+(x12.2 - x12.1)<=Vb xs))) fun _=>
    Va
     (sliceB (Vb (Ve x12.1 xs++Vd (x12.2 - x12.1) (zeroEl cmE)++Vf (x12.1+(x12.2 - x12.1)) xs))
      (Vb (Ve x12.1 xs++Vd (x12.2 - x12.1) (zeroEl cmE)++Vf (x12.1+(x12.2 - x12.1)) xs)) none (some k))
     fun x14=>
     some (CmS.res (Ve x14.2 (Vf (0:Nat) (Ve x12.1 xs++Vd (x12.2 - x12.1) (zeroEl cmE)++Vf (x12.1+(x12.2 - x12.1)) xs))))
theorem ZjB(xs:CmL):ZjX xs=ZgI xs:=by kernel_rfl
theorem Zjr(xs:CmL)(k:Int)(nx:Nat):Zlq xs k nx=Zgt xs k:=by kernel_rfl
theorem ZlV(xs:CmL)(k:Int)(lo n:Nat)(k2:Int)(nx:Nat):Zov xs k lo n k2 nx=ZkC xs k lo n k2:=by kernel_rfl
def ZgP:Nat->CmS->Option CmL
 |_, .res xs=>some xs
 |0,_=>none
 |m+1, .out xs k=>(Zgt xs k).bind (ZgP m)
 |m+1, .inn xs k lo n k2=>(ZkC xs k lo n k2).bind (ZgP m)
def cmF(xs:CmL):Option CmL:=(ZgI xs).bind (ZgP 100)
theorem Zbo:Zah Tryz.prog EC:=typesOk_of (pks:=[]) (bds:=[]) (show ZeN Tryz.prog tyC [] [] []=true by kernel_rfl) rfl rfl rfl rfl fun _ h=>absurd (show false=true from h) (by decide)
end
end Tr
