/- The functions of the program as functions of Lean, and that the program computes them; printed by a program of mine. Conditions: none. -/
import Derived.Test.YtibiblkamaajeaaGreatFin41b
open Tr Go Go.Proofs
namespace Q
noncomputable def F26: (El Y31)→(El Y33)→(El Y43)→Option (El Y4):=fun a0 a1 a2=>
 Option.bind
 ((F31 a0 a1).bind fun x0=>
 bif !x0 then some true
 else bif decide ((20:Int)< (↑(List.length a2.1):Int)) then some true else (F85 a0 a1 a2).bind fun x1=>some !x1)
 fun x2=>
 bif x2 then Option.bind F29 fun x3=>some x3
 else
 (F99 a0 a1).bind fun x4=>
 Option.bind
 (bif decide (x4.2=(0:Int)) then
 (F97 a1 x4.1).bind fun x5=>
 (F97 a1 a2).bind fun x6=>bif decide (x5≤x6) then Option.bind F29 fun x7=>some x7 else some false
 else some false)
 fun x8=>some x8
abbrev F26A:Zam:=(.cons (.pd Y31) (.cons (.pd Y33) (.cons (.pd Y43) .nil)))
abbrev F26R:Zam:=(.cons (.pd Y4) .nil)
noncomputable def F26S:Tr.Spec:= {args:=F26A,res:=F26R,fns:=[],α:=El Y4,f:=fun x=>F26 x.1 x.2.1 x.2.2.1,unp:=fun z=>(((),(),(),()),(z,())) }
noncomputable def F26M:List (Nat×List Tr.Spec):=[(12,[F29S]),(15,[F99S]),(17,[F31S]),(21,[F97S]),(25,[F85S])]
def F26H:ZaW:=(.seq .leaf (.seq (.seq (.reg [(25,Y4)]) .leaf) (.seq .leaf (.seq (.reg [(6,Y4)]) .leaf))))
noncomputable def F26V (a0:El Y31) (a1:El Y33) (a2:El Y43):Option (El Y4):=Zau (mkE tyTab mapTab pkTab [] [] F26M 47 bdTab) (Zai Tryz.f9) Tryz.f9.results F26H F26A F26R (fun y=>y.2.1) (a0,a1,a2,())
theorem F26_eq (a0:El Y31) (a1:El Y33) (a2:El Y43):F26V a0 a1 a2=F26 a0 a1 a2:=by kernel_rfl
theorem F26_ok:ZaU Tryz.prog 9 F26S:=Zac (m:=F26M) (fn:=Tryz.f9) (hint:=F26H) (pack:=fun y=>y.2.1) Za2 tab_ok ⟨⟨F29_ok,trivial⟩,⟨F99_ok,trivial⟩,⟨F31_ok,trivial⟩,⟨F97_ok,trivial⟩,⟨F85_ok,trivial⟩,trivial⟩ fun x z h=>(F26_eq x.1 x.2.1 x.2.2.1).trans h
end Q
