/- The functions of the program as functions of Lean, and that the program computes them; printed by a program of mine. Conditions: none. -/
import Derived.Test.YtckebckjnfcniaaGreatFin42b
open Tr Go Go.Proofs
namespace Q
noncomputable section
def F87: (El Y31)->(El Y33)->(El Y45)->Option (El Y37):=fun a0 a1 a2=>
 (idx a2.1 (IntKind.wrap .i64 ((↑(List.length a2.1):Int) - (1:Int)))).bind fun x0=>
 bif !decide (x0.2.2.2.2.2.1=a1.2.1) then some (24:Int)
 else
 Option.bind (bif a1.2.2.2.1 then some (decide (a1.2.2.1<x0.2.2.2.2.2.2.2.1)) else some false) fun x1=>
 bif x1 then some (10:Int)
 else
 Option.bind
 (run
 (fun s2=>
 bif decide (s2.2< (↑(List.length a2.1):Int)) then
 Option.bind
 ((idx a2.1 s2.2).bind fun x3=>
 bif x3.1 then (idx a2.1 s2.2).bind fun x4=>some !x4.2.2.2.2.2.2.2.2.1 else some false)
 fun x5=>
 bif x5 then some (.inl (IntKind.wrap .i64 (s2.1+(1:Int)),IntKind.wrap .i64 (s2.2+(1:Int))))
 else some (.inl (s2.1,IntKind.wrap .i64 (s2.2+(1:Int))))
 else some (.inr s2.1))
 ((0:Int),(0:Int)))
 fun x6=>
 bif decide (a1.2.2.2.2.1<x6) then some (33:Int)
 else
 (F77 a2).bind fun x7=>
 bif decide (a1.2.2.2.2.2.1<x7) then some (32:Int) else (F71 a0 a1 a2).bind fun x8=>some x8.2.2
abbrev F87A:Zam:=(.cons (.pd Y31) (.cons (.pd Y33) (.cons (.pd Y45) .nil)))
abbrev F87R:Zam:=(.cons (.pd Y37) .nil)
def F87S:Tr.Spec:= {args:=F87A,res:=F87R,fns:=[],α:=El Y37,f:=fun x=>F87 x.1 x.2.1 x.2.2.1,unp:=fun z=>(((),(),(),()),(z,())) }
def F87M:List (Nat×List Tr.Spec):=[(54,[F77S]),(55,[F71S])]
def F87H:ZaT:=(.seq .leaf (.seq .leaf (.seq .leaf (.seq (.seq (.reg [(34,Y4)]) .leaf) (.seq .leaf (.seq (.seq .leaf (.lp ⟨[(8,(.pd Y3)),(9,(.pd Y3))],[],[3,4,5],[],[],[]⟩ [((.exit 0),⟨[(8,(.pd Y3))],[],[3,4,5],[],[],[]⟩)] (.seq .leaf (.seq (.seq (.reg [(56,Y4)]) .leaf) .leaf)))) .leaf))))))
theorem F87_eq(a0:El Y31)(a1:El Y33)(a2:El Y45):(Zau (mkE tyTab mapTab pkTab [45] [] F87M 77 bdTab) (Zai Tryz.f31) Tryz.f31.results F87H F87A F87R (fun y=>y.2.1) (a0,a1,a2,()):Option (El Y37))=F87 a0 a1 a2:=by kernel_rfl
theorem F87_ok:ZaQ Tryz.prog 31 F87S:=Zae (m:=F87M) (fn:=Tryz.f31) (hint:=F87H) (pack:=fun y=>y.2.1) Za2 tab_ok ⟨⟨F77_ok,trivial⟩,⟨F71_ok,trivial⟩,trivial⟩ fun x z h=>(F87_eq x.1 x.2.1 x.2.2.1).trans h
def F81: (El Y31)->(El Y33)->(El Y45)->Option (El Y3×El Y37):=fun a0 a1 a2=>
 (F82 a0 a1).bind fun x0=>
 bif !decide (x0=(0:Int)) then some ((0:Int),x0)
 else
 bif decide ((↑(List.length a2.1):Int)=(0:Int)) then bif !decide (a1.1=a1.2.1) then some ((0:Int),(24:Int)) else some ((0:Int),(0:Int))
 else
 Option.bind
 (run
 (fun s1=>
 bif decide (s1< (↑(List.length a2.1):Int)) then
 (F86 a0 a1 a2 s1).bind fun x2=>
 bif !decide (x2=(0:Int)) then some (.inr (.inr (s1,x2))) else some (.inl (IntKind.wrap .i64 (s1+(1:Int))))
 else some (.inr (.inl ())))
 (0:Int))
 fun x3=>
 Sum.elim
 (fun _=>
 (F87 a0 a1 a2).bind fun x5=>
 bif !decide (x5=(0:Int)) then some (IntKind.wrap .i64 ((↑(List.length a2.1):Int) - (1:Int)),x5) else some ((0:Int),(0:Int)))
 (fun y6=>some (y6.1,y6.2)) x3
abbrev F81A:Zam:=(.cons (.pd Y31) (.cons (.pd Y33) (.cons (.pd Y45) .nil)))
abbrev F81R:Zam:=(.cons (.pd Y3) (.cons (.pd Y37) .nil))
def F81S:Tr.Spec:= {args:=F81A,res:=F81R,fns:=[],α:=El Y3×El Y37,f:=fun x=>F81 x.1 x.2.1 x.2.2.1,unp:=fun z=>(((),(),(),()),(z.1,z.2,())) }
def F81M:List (Nat×List Tr.Spec):=[(29,[F86S]),(30,[F82S]),(31,[F87S])]
def F81H:ZaT:=(.seq .leaf (.seq .leaf (.seq .leaf (.seq .leaf (.seq (.seq .leaf (.lp ⟨[(9,(.pd Y3))],[],[3,4,5],[],[],[]⟩ [((.exit 0),⟨[],[],[3,4,5],[],[],[]⟩),(.ret,⟨[(6,(.pd Y3)),(7,(.pd Y37))],[],[],[],[],[]⟩)] .leaf)) .leaf)))))
theorem F81_eq(a0:El Y31)(a1:El Y33)(a2:El Y45):(Zau (mkE tyTab mapTab pkTab [45] [] F81M 52 bdTab) (Zai Tryz.f18) Tryz.f18.results F81H F81A F81R (fun y=>(y.2.1,y.2.2.1)) (a0,a1,a2,()):Option (El Y3×El Y37))=F81 a0 a1 a2:=by kernel_rfl
theorem F81_ok:ZaQ Tryz.prog 18 F81S:=Zae (m:=F81M) (fn:=Tryz.f18) (hint:=F81H) (pack:=fun y=>(y.2.1,y.2.2.1)) Za2 tab_ok ⟨⟨F86_ok,trivial⟩,⟨F82_ok,trivial⟩,⟨F87_ok,trivial⟩,trivial⟩ fun x z h=>(F81_eq x.1 x.2.1 x.2.2.1).trans h
def F31: (El Y31)->(El Y33)->Option (El Y4):=fun a0 a1=>
 (F36 a0).bind fun x0=>
 bif x0 then Option.bind F35 fun x1=>some x1
 else
 (F111 a0 a1).bind fun x2=>
 (F95 a0 a1).bind fun x3=>
 bif !decide (x3.2=(0:Int)) then
 Option.bind
 (bif decide (x2.2=x3.2) then
 bif decide ((↑(List.length x2.1.1):Int)=(0:Int)) then Option.bind F35 fun x4=>some x4 else some false
 else some false)
 fun x5=>some x5
 else
 (idx x3.1 a1.2.1).bind fun x6=>
 bif decide (x6< (0:Int)) then
 Option.bind
 (bif decide (x2.2=(23:Int)) then
 bif decide ((↑(List.length x2.1.1):Int)=(0:Int)) then Option.bind F35 fun x7=>some x7 else some false
 else some false)
 fun x8=>some x8
 else
 bif decide ((200:Int)< (↑(List.length x2.1.1):Int)) then Option.bind F35 fun x9=>some x9
 else
 Option.bind
 (bif !decide (x2.2=(0:Int)) then some true
 else
 (F33 a1 x2.1).bind fun x10=>
 (idx x3.1 a1.2.1).bind fun x11=>
 bif !decide (x10=x11) then some true
 else bif decide (a1.1=a1.2.1) then some (decide ((0:Int)< (↑(List.length x2.1.1):Int))) else some false)
 fun x12=>
 bif x12 then some false
 else
 Option.bind
 ((F84 a0 a1 x2.1).bind fun x13=>
 bif !decide (x13=(↑(List.length x2.1.1):Int)) then some true
 else
 bif decide ((0:Int)< (↑(List.length x2.1.1):Int)) then
 (idx x2.1.1 (IntKind.wrap .i64 ((↑(List.length x2.1.1):Int) - (1:Int)))).bind fun x14=>
 some !decide (x14.2.2.2.2.2.1=a1.2.1)
 else some false)
 fun x15=>
 bif x15 then some false
 else
 (F81 a0 a1 x2.1).bind fun x16=>
 Option.bind
 (bif decide (x16.2=(0:Int)) then Option.bind F35 fun x17=>some x17
 else
 bif decide (x16.1=IntKind.wrap .i64 ((↑(List.length x2.1.1):Int) - (1:Int))) then
 bif decide (x16.2=(33:Int)) then Option.bind F35 fun x18=>some x18
 else
 bif decide (x16.2=(32:Int)) then Option.bind F35 fun x19=>some x19
 else bif decide (x16.2=(34:Int)) then Option.bind F35 fun x20=>some x20 else some false
 else some false)
 fun x21=>some x21
abbrev F31A:Zam:=(.cons (.pd Y31) (.cons (.pd Y33) .nil))
abbrev F31R:Zam:=(.cons (.pd Y4) .nil)
def F31S:Tr.Spec:= {args:=F31A,res:=F31R,fns:=[],α:=El Y4,f:=fun x=>F31 x.1 x.2.1,unp:=fun z=>(((),(),()),(z,())) }
def F31M:List (Nat×List Tr.Spec):=[(8,[F36S]),(9,[F35S]),(11,[F95S]),(15,[F111S]),(16,[F33S]),(17,[F84S]),(18,[F81S])]
def F31H:ZaT:=(.seq .leaf (.seq .leaf (.seq .leaf (.seq .leaf (.seq (.seq .leaf (.cnd none (.seq (.reg [(4,Y4)]) .leaf) .leaf)) (.seq (.seq .leaf (.cnd none (.seq (.reg [(4,Y4)]) .leaf) .leaf)) (.seq .leaf (.seq (.seq (.reg [(87,Y4)]) .leaf) (.seq (.seq (.reg [(115,Y4)]) .leaf) (.seq .leaf (.seq (.reg [(4,Y4)]) .leaf)))))))))))
theorem F31_eq(a0:El Y31)(a1:El Y33):(Zau (mkE tyTab mapTab pkTab [] [] F31M 148 bdTab) (Zai Tryz.f4) Tryz.f4.results F31H F31A F31R (fun y=>y.2.1) (a0,a1,()):Option (El Y4))=F31 a0 a1:=by kernel_rfl
theorem F31_ok:ZaQ Tryz.prog 4 F31S:=Zae (m:=F31M) (fn:=Tryz.f4) (hint:=F31H) (pack:=fun y=>y.2.1) Za2 tab_ok ⟨⟨F36_ok,trivial⟩,⟨F35_ok,trivial⟩,⟨F95_ok,trivial⟩,⟨F111_ok,trivial⟩,⟨F33_ok,trivial⟩,⟨F84_ok,trivial⟩,⟨F81_ok,trivial⟩,trivial⟩ fun x z h=>(F31_eq x.1 x.2.1).trans h
end
end Q
