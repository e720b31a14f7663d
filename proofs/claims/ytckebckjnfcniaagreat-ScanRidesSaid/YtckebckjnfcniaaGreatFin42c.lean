/- The functions of the program as functions of Lean, and that the program computes them; printed by a program of mine. Conditions: none. -/
import Derived.Test.YtckebckjnfcniaaGreatFin42b
open Tr Go Go.Proofs
namespace Q
noncomputable def F31: (El Y31)→(El Y33)→(El Y45)→Option (El Y4):=fun a0 a1 a2=>
 Option.bind
 (Option.bind (F35 a0) fun x0=>
 bif x0 then some true
 else
 Option.bind (F82 a0 a1) fun x1=>bif !decide (x1=(0:Int)) then some true else some (decide ((12:Int)< (↑(List.length a2.1):Int))))
 fun x2=>
 bif x2 then Option.bind F34 fun x3=>some x3
 else
 Option.bind (F85 a0 a1) fun x4=>
 Option.bind (bif !decide (x4.2=(0:Int)) then some true else some !decide ((↑(List.length x4.1):Int)=(↑(List.length a0.1):Int))) fun x5=>
 bif x5 then some false
 else
 Option.bind
 (bif decide ((↑(List.length a2.1):Int)=(0:Int)) then some true
 else Option.bind (F72 a0 a1 a2) fun x6=>some !decide (x6=(↑(List.length a2.1):Int)))
 fun x7=>
 bif x7 then Option.bind F34 fun x8=>some x8
 else
 Option.bind (idx a2.1 (IntKind.wrap .i64 ((↑(List.length a2.1):Int) - (1:Int)))) fun x9=>
 Option.bind
 (Option.bind (idx x4.1 x9.2.2.2.2.2.1) fun x10=>
 bif decide ((0:Int)≤x10) then
 Option.bind (idx x4.1 x9.2.2.2.2.2.1) fun x11=>
 bif decide (x11≤x9.2.2.2.2.2.2.2.1) then Option.bind F34 fun x12=>some x12 else some false
 else some false)
 fun x13=>some x13
abbrev F31A:Zam:=(.cons (.pd Y31) (.cons (.pd Y33) (.cons (.pd Y45) .nil)))
abbrev F31R:Zam:=(.cons (.pd Y4) .nil)
noncomputable def F31S:Tr.Spec:= {args:=F31A,res:=F31R,fns:=[],α:=El Y4,f:=fun x=>F31 x.1 x.2.1 x.2.2.1,unp:=fun z=>(((),(),(),()),(z,())) }
noncomputable def F31M:List (Nat×List Tr.Spec):=[(8,[F35S]),(9,[F34S]),(10,[F85S]),(17,[F72S]),(20,[F82S])]
def F31H:ZaU:=(.seq .leaf (.seq (.seq (.reg [(23,Y4)]) .leaf) (.seq .leaf (.seq (.seq (.reg [(40,Y4)]) .leaf) (.seq (.seq (.reg [(54,Y4)]) .leaf) (.seq .leaf (.seq (.reg [(6,Y4)]) .leaf)))))))
noncomputable def F31V (a0:El Y31) (a1:El Y33) (a2:El Y45):Option (El Y4):=Zaw (mkE tyTab mapTab pkTab [] [] F31M 83 bdTab) (Zal Tryz.f7) Tryz.f7.results F31H F31A F31R (fun y=>y.2.1) (a0,a1,a2,())
theorem F31_eq (a0:El Y31) (a1:El Y33) (a2:El Y45):F31V a0 a1 a2=F31 a0 a1 a2:=by kernel_rfl
theorem F31_ok:ZaT Tryz.prog 7 F31S:=Zaf (m:=F31M) (fn:=Tryz.f7) (hint:=F31H) (pack:=fun y=>y.2.1) Za5 tab_ok ⟨⟨F35_ok,trivial⟩,⟨F34_ok,trivial⟩,⟨F85_ok,trivial⟩,⟨F72_ok,trivial⟩,⟨F82_ok,trivial⟩,trivial⟩ fun x z h=>(F31_eq x.1 x.2.1 x.2.2.1).trans h
end Q
