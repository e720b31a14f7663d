/- The functions of the program as functions of Lean, and that the program computes them; printed by a program of mine. Conditions: none. -/
import Derived.Test.YtckebckjnfcniaaGreatFin42b
open Tr Go Go.Proofs
namespace Q
noncomputable def F31: (El Y31)→(El Y33)→(El Y3)→Option (El Y4):=fun a0 a1 a2=>
 Option.bind ((F35 a0).bind fun x0=>bif x0 then some true else (F72 a0 a1).bind fun x1=>some !decide (x1=(0:Int))) fun x2=>
 bif x2 then Option.bind F34 fun x3=>some x3
 else
 (F75 a0 a1).bind fun x4=>
 Option.bind
 (bif !decide (x4.2=(0:Int)) then some true
 else
 bif !decide ((↑(List.length x4.1):Int)=(↑(List.length a0.1):Int)) then some true
 else (idx x4.1 a1.1).bind fun x5=>some !decide (x5=a1.2.2.1))
 fun x6=>
 bif x6 then some false
 else
 Option.bind
 (run
 (fun s7=>
 bif decide (s7< (↑(List.length a0.2.2.2.2.1):Int)) then
 (idx a0.2.2.2.2.1 s7).bind fun x8=>
 Option.bind
 (bif !x8.2.2.2.1 then
 bif a1.2.2.2.2.2.2.1 then some true
 else
 (idx x4.1 x8.1).bind fun x9=>
 bif decide (x9< (0:Int)) then some true
 else
 (idx x4.1 x8.1).bind fun x10=>
 bif decide (IntKind.wrap .i64 (a1.2.2.1+(14400:Int))<x10) then some true
 else
 (idx x4.1 x8.1).bind fun x11=>
 some
 (decide
 (Tr.imin (IntKind.wrap .i64 (a1.2.2.1+(14400:Int))) (3155932800:Int)<IntKind.wrap .i64 (x11+x8.2.2.1)))
 else
 (idx x4.1 x8.1).bind fun x12=>
 bif decide (x12< (0:Int)) then some true
 else
 (idx x4.1 x8.1).bind fun x13=>
 bif decide (IntKind.wrap .i64 (a1.2.2.1+(14400:Int))<x13) then some true
 else
 (idx x4.1 x8.1).bind fun x14=>
 some
 (decide
 (Tr.imin (IntKind.wrap .i64 (a1.2.2.1+(14400:Int))) (3155932800:Int)<IntKind.wrap .i64 (x14+x8.2.2.1))))
 fun x15=>
 bif x15 then some (.inl (IntKind.wrap .i64 (s7+(1:Int))))
 else
 Option.bind
 ((idx x4.1 x8.2.1).bind fun x16=>
 bif decide (x16< (0:Int)) then some true
 else
 (idx x4.1 x8.2.1).bind fun x17=>
 (idx x4.1 x8.1).bind fun x18=>some (decide (IntKind.wrap .i64 (x18+x8.2.2.1)<x17)))
 fun x19=>bif x19 then some (.inr (.inr false)) else some (.inl (IntKind.wrap .i64 (s7+(1:Int))))
 else some (.inr (.inl ())))
 (0:Int))
 fun x20=>
 Sum.elim
 (fun _=>
 Option.bind (bif decide (a2< (0:Int)) then some true else some (decide (a1.2.2.1<a2))) fun x22=>
 bif x22 then Option.bind F34 fun x23=>some x23
 else
 (F75 a0 (a1.1,a1.2.1,IntKind.wrap .i64 (a1.2.2.1 - a2),a1.2.2.2)).bind fun x24=>
 Option.bind
 (bif !decide (x24.2=(0:Int)) then some true else some !decide ((↑(List.length x24.1):Int)=(↑(List.length x4.1):Int)))
 fun x25=>
 bif x25 then some false
 else
 Option.bind
 (run
 (fun s26=>
 bif decide (s26< (↑(List.length x4.1):Int)) then
 Option.bind
 ((idx x4.1 s26).bind fun x27=>
 bif decide ((0:Int)≤x27) then
 (idx x24.1 s26).bind fun x28=>
 bif decide (x28< (0:Int)) then some true
 else (idx x24.1 s26).bind fun x29=>(idx x4.1 s26).bind fun x30=>some (decide (x30<x29))
 else some false)
 fun x31=>bif x31 then some (.inr (.inr false)) else some (.inl (IntKind.wrap .i64 (s26+(1:Int))))
 else some (.inr (.inl ())))
 (0:Int))
 fun x32=>Sum.elim (fun _=>Option.bind F34 fun x34=>some x34) (fun y35=>some y35) x32)
 (fun y36=>some y36) x20
abbrev F31A:Zam:=(.cons (.pd Y31) (.cons (.pd Y33) (.cons (.pd Y3) .nil)))
abbrev F31R:Zam:=(.cons (.pd Y4) .nil)
noncomputable def F31S:Tr.Spec:= {args:=F31A,res:=F31R,fns:=[],α:=El Y4,f:=fun x=>F31 x.1 x.2.1 x.2.2.1,unp:=fun z=>(((),(),(),()),(z,())) }
noncomputable def F31M:List (Nat×List Tr.Spec):=[(8,[F35S]),(9,[F34S]),(10,[F75S]),(20,[F72S])]
def F31H:ZaY:=(.seq .leaf (.seq (.seq (.reg [(21,Y4)]) .leaf) (.seq .leaf (.seq (.seq (.reg [(48,Y4)]) .leaf) (.seq (.seq .leaf (.lp ⟨[(9,(.pd Y3))],[],[2,3,4,7],[],[],[]⟩ [((.exit 0),⟨[],[],[2,3,4,7],[],[],[]⟩),(.ret,⟨[(6,(.pd Y4))],[],[],[],[],[]⟩)] (.seq .leaf (.seq (.seq .leaf (.seq (.seq (.reg [(101,Y4)]) .leaf) (.seq (.reg [(123,Y4)]) .leaf))) .leaf)))) (.seq (.seq (.reg [(131,Y4)]) .leaf) (.seq .leaf (.seq .leaf (.seq (.seq (.reg [(152,Y4)]) .leaf) (.seq (.seq .leaf (.lp ⟨[(13,(.pd Y3))],[],[7,11],[],[],[]⟩ [((.exit 2),⟨[],[],[],[],[],[]⟩),(.ret,⟨[(6,(.pd Y4))],[],[],[],[],[]⟩)] (.seq .leaf (.seq (.seq (.reg [(181,Y4)]) .leaf) .leaf)))) .leaf))))))))))
noncomputable def F31V (a0:El Y31) (a1:El Y33) (a2:El Y3):Option (El Y4):=ZaA (mkE tyTab mapTab pkTab [] [] F31M 183 bdTab) (Zal Tryz.f6) Tryz.f6.results F31H F31A F31R (fun y=>y.2.1) (a0,a1,a2,())
theorem F31_eq (a0:El Y31) (a1:El Y33) (a2:El Y3):F31V a0 a1 a2=F31 a0 a1 a2:=by kernel_rfl
theorem F31_ok:ZaT Tryz.prog 6 F31S:=Zaf (m:=F31M) (fn:=Tryz.f6) (hint:=F31H) (pack:=fun y=>y.2.1) Za9 tab_ok ⟨⟨F35_ok,trivial⟩,⟨F34_ok,trivial⟩,⟨F75_ok,trivial⟩,⟨F72_ok,trivial⟩,trivial⟩ fun x z h=>(F31_eq x.1 x.2.1 x.2.2.1).trans h
end Q
