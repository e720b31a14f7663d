/- slices.Compact of pairs: under way. Conditions: none. -/
import Derived.Test.YtdpenljjnfmgiaaGreatProg
import Derived.KernelRfl
import Derived.Test.YtdpenljjnfmgiaaGreatTsJ
open Go.IntKind renaming wrap ->Vc
open List renaming length ->Vb,replicate ->Vd,take ->Ve,drop ->Vf
open Option renaming bind ->Va
namespace Tr
open Go Go.Proofs
noncomputable section
abbrev cmE:Ty:= .arr 2 (.int .i64)
def tyC:List (Nat×Ty):=[(3, .int .i64),(4, .bool),(63, .sl cmE),(65,cmE)]
def EC:Env:=mkE tyC [] [] [] [] [] 61
def Zoy:Code:=match Zbd Tryz.f63 with| .seq r _=>r|c=>c
def cmA:Code:=match Zbd Tryz.f63 with| .seq _ (.seq a _)=>a|c=>c
def Zox:Code:=match Zbd Tryz.f63 with| .seq _ (.seq _ (.seq (.seq r _) _))=>r|c=>c
def Zfx:Code:=match Zbd Tryz.f63 with| .seq _ (.seq _ (.seq (.seq _ (.block _ (.loop b))) _))=>b|c=>c
def Zjs:Code:=match Zbd Tryz.f63 with| .seq _ (.seq _ (.seq _ e))=>e|c=>c
def Zol:Code:=match Zfx with| .seq h _=>h|c=>c
def Zon:Code:=match Zfx with| .seq _ (.seq (.block _ (.seq r _)) _)=>r|c=>c
def Zem:Code:=match Zfx with| .seq _ (.seq (.block _ (.seq _ (.cond _ c _))) _)=>c|c=>c
def Zoe:Code:=match Zfx with| .seq _ (.seq _ r)=>r|c=>c
def Zou:Code:=match Zem with| .seq r _=>r|c=>c
def Zow:Code:=match Zem with| .seq _ (.seq (.seq r _) _)=>r|c=>c
def Zoh:Code:=match Zem with| .seq _ (.seq (.seq _ (.block _ (.loop b))) _)=>b|c=>c
def ZhR:Code:=match Zem with| .seq _ (.seq _ t)=>t|c=>c
abbrev CmL:=List (El cmE)
inductive CmS where
 |out (xs:CmL) (k:Int)
 |inn (xs:CmL) (k:Int) (lo n:Nat) (k2:Int)
 |res (xs:CmL)
abbrev ZjL:ZaS:= .cons (.own cmE false) .nil
abbrev Zn5:ZaS:= .cons (.pd (.sl cmE)) .nil
def cmX(e:Ex)(s:AS):Option CmS:=match e with
 | .ret=>(Zei EC Tryz.f63.results ZjL Zn5 [] .ret s).bind fun y=>some (.res y.2.1)
 |_=>none
def cmO(s:AS):Option CmS:=match s.F 0,s.F 3,s.H 0 with
 | .vw 0, .d (.int .i64) k,some (.vec (.arr 2 (.int .i64)) xs)=>some (.out xs k)
 |_,_,_=>none
def cmI(s:AS):Option CmS:=match s.F 0,s.F 3,s.F 4,s.F 5,s.H 0 with
 | .vw 0, .d (.int .i64) k, .vs 0 lo n, .d (.int .i64) k2,some (.vec (.arr 2 (.int .i64)) xs)=>some (.inn xs k lo n k2)
 |_,_,_,_,_=>none
def Zlg(xs:CmL):Option CmS:=
 ZaQ Zoy .leaf EC CmS ⟨(Zbk ZjL (xs,()) 0).1.toF,Zbv (Zbk ZjL (xs,()) 0).2.1,(Zbk ZjL (xs,()) 0).2.2,[]⟩ fun e s=>match e with
  | .normal=>ZaQ cmA .leaf EC CmS s fun e s=>match e with
   | .normal=>ZaQ Zox .leaf EC CmS s fun e s=>match e with
    | .normal=>cmO s
    |_=>none
   | .ret=>cmX .ret s
   |_=>none
  |_=>none
def Zn4(xs:CmL)(k:Int)(nx:Nat):AS:=⟨fun t=>match t with|0=> .vw 0|3=> .d (.int .i64) k|_=> .junk,fun k=>bif Nat.beq k 0 then some (.vec cmE xs) else none,nx,[]⟩
def Zob(xs:CmL)(k:Int)(lo n:Nat)(k2:Int)(nx:Nat):AS:=⟨fun t=>match t with|0=> .vw 0|3=> .d (.int .i64) k|4=> .vs 0 lo n|5=> .d (.int .i64) k2|_=> .junk,fun k=>bif Nat.beq k 0 then some (.vec cmE xs) else none,nx,[]⟩
def Zlu(xs:CmL)(k:Int)(nx:Nat):Option CmS:=
 ZaQ Zol .leaf EC CmS (Zn4 xs k nx) fun e s=>match e with
  | .exit 0=>ZaQ Zjs .leaf EC CmS s cmX
  | .normal=>ZaQ Zon .leaf EC CmS s fun e s=>match e with
   | .normal=>(match s.F 25 with
    | .d .bool t=>bif t then ZaQ Zou .leaf EC CmS s fun e s=>match e with
      | .normal=>ZaQ Zow .leaf EC CmS s fun e s=>match e with
       | .normal=>cmI s
       |_=>none
      |_=>none
     else ZaQ Zoe .leaf EC CmS s fun e s=>match e with
      | .normal=>cmO s
      |_=>none
    |_=>none)
   |_=>none
  |_=>none
def Zoi(xs:CmL)(k:Int)(lo n:Nat)(k2:Int)(nx:Nat):Option CmS:=
 ZaQ Zoh .leaf EC CmS (Zob xs k lo n k2 nx) fun e s=>match e with
  | .exit 2=>ZaQ ZhR .leaf EC CmS s cmX
  | .normal=>cmI s
  |_=>none
def eqP(a b:El cmE):Option Bool:=Tr.eqEl cmE a b
def Zgy(xs:CmL):Option CmS:=bif decide ((↑(Vb xs):Int)< (2:Int)) then some (.res xs) else some (.out xs (1:Int))
def ZgG(xs:CmL)(k:Int):Option CmS:=
 bif decide (k< (↑(Vb xs):Int)) then
  Va (inb k (Vb xs)) fun x0=>
   Va xs[x0]? fun x1=>
    Va (inb (Vc .i64 (k - (1:Int))) (Vb xs)) fun x2=>
     Va xs[x2]? fun x3=>
      Va (eqP x1 x3) fun x4=>
       bif x4 then Va (sliceB (Vb xs) (Vb xs) (some k) none) fun x5=>some (CmS.inn xs k x5.1 (x5.2 - x5.1) (1:Int))
       else some (CmS.out xs (Vc .i64 (k+(1:Int))))
 else some (CmS.res xs)
def Zkf(xs:CmL)(k:Int)(lo n:Nat)(k2:Int):Option CmS:=
 bif decide (k2< (↑n:Int)) then
  Va (Zaq (decide (lo+n<=Vb xs))) fun _=>
   Va (inb k2 n) fun x1=>
    Va xs[lo+x1]? fun x2=>
     Va (Zaq (decide (lo+n<=Vb xs))) fun _=>
      Va (inb (Vc .i64 (k2 - (1:Int))) n) fun x4=>
       Va xs[lo+x4]? fun x5=>
        Va (eqP x2 x5) fun x6=>
         bif !x6 then
          Va (Zaq (decide (lo+n<=Vb xs))) fun _=>
           Va (inb k2 n) fun x8=>
            Va xs[lo+x8]? fun x9=>
             Va (inb k (Vb xs)) fun x10=>
              Va xs[x10]? fun _=>
               some (CmS.inn (List.set xs x10 x9) (Vc .i64 (k+(1:Int))) lo n (Vc .i64 (k2+(1:Int))))
         else some (CmS.inn xs k lo n (Vc .i64 (k2+(1:Int))))
 else
  Va (sliceB (Vb xs) (Vb xs) (some k) none) fun x12=>
   Va (Zaq (decide (x12.1+(x12.2 - x12.1)<=Vb xs))) fun _=>
    Va
     (sliceB (Vb (Ve x12.1 xs++Vd (x12.2 - x12.1) (zeroEl cmE)++Vf (x12.1+(x12.2 - x12.1)) xs))
      (Vb (Ve x12.1 xs++Vd (x12.2 - x12.1) (zeroEl cmE)++Vf (x12.1+(x12.2 - x12.1)) xs)) none (some k))
     fun x14=>
     some (CmS.res (Ve x14.2 (Vf (0:Nat) (Ve x12.1 xs++Vd (x12.2 - x12.1) (zeroEl cmE)++Vf (x12.1+(x12.2 - x12.1)) xs))))
theorem Zjl(xs:CmL):Zlg xs=Zgy xs:=by kernel_rfl
theorem Zjv(xs:CmL)(k:Int)(nx:Nat):Zlu xs k nx=ZgG xs k:=by kernel_rfl
theorem ZlT(xs:CmL)(k:Int)(lo n:Nat)(k2:Int)(nx:Nat):Zoi xs k lo n k2 nx=Zkf xs k lo n k2:=by kernel_rfl
def Zgw:Nat->CmS->Option CmL
 |_, .res xs=>some xs
 |0,_=>none
 |m+1, .out xs k=>(ZgG xs k).bind (Zgw m)
 |m+1, .inn xs k lo n k2=>(Zkf xs k lo n k2).bind (Zgw m)
def cmF(xs:CmL):Option CmL:=(Zgy xs).bind (Zgw 100)
theorem Zbo:Zah Tryz.prog EC:=typesOk_of (pks:=[]) (bds:=[]) (show Ze2 Tryz.prog tyC [] [] []=true by kernel_rfl) rfl rfl rfl rfl fun _ h=>absurd (show false=true from h) (by decide)
end
end Tr
