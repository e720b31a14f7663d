/- The functions of the program as functions of Lean, and that the program computes them; printed by a program of mine. Conditions: none. -/
import Derived.Test.YtckebckjnfcniaaGreatFin42b
open Tr Go Go.Proofs
namespace Q
noncomputable section
def F88: (El Y31)->(El Y33)->(El Y45)->Option (El Y37):=fun a0 a1 a2=>
 (idx a2.1 (IntKind.wrap .i64 ((↑(List.length a2.1):Int) - (1:Int)))).bind fun x0=>
 bif !decide (x0.2.2.2.2.2.1=a1.2.1) then some (24:Int)
 else
 Option.bind (bif a1.2.2.2.1 then some (decide (a1.2.2.1<x0.2.2.2.2.2.2.2.1)) else some false) fun x1=>
 bif x1 then some (10:Int)
 else
 Option.bind
 (run
 (fun s2=>
 bif decide (s2.2< (↑(List.length a2.1):Int)) then
 Option.bind
 ((idx a2.1 s2.2).bind fun x3=>
 bif x3.1 then (idx a2.1 s2.2).bind fun x4=>some !x4.2.2.2.2.2.2.2.2.1 else some false)
 fun x5=>
 bif x5 then some (.inl (IntKind.wrap .i64 (s2.1+(1:Int)),IntKind.wrap .i64 (s2.2+(1:Int))))
 else some (.inl (s2.1,IntKind.wrap .i64 (s2.2+(1:Int))))
 else some (.inr s2.1))
 ((0:Int),(0:Int)))
 fun x6=>
 bif decide (a1.2.2.2.2.1<x6) then some (33:Int)
 else
 (F76 a2).bind fun x7=>
 bif decide (a1.2.2.2.2.2.1<x7) then some (32:Int) else (F70 a0 a1 a2).bind fun x8=>some x8.2.2
abbrev F88A:Zal:=(.cons (.pd Y31) (.cons (.pd Y33) (.cons (.pd Y45) .nil)))
abbrev F88R:Zal:=(.cons (.pd Y37) .nil)
def F88S:Tr.Spec:= {args:=F88A,res:=F88R,fns:=[],α:=El Y37,f:=fun x=>F88 x.1 x.2.1 x.2.2.1,unp:=fun z=>(((),(),(),()),(z,())) }
def F88M:List (Nat×List Tr.Spec):=[(54,[F76S]),(55,[F70S])]
def F88H:ZaU:=(.seq .leaf (.seq .leaf (.seq .leaf (.seq (.seq (.reg [(34,Y4)]) .leaf) (.seq .leaf (.seq (.seq .leaf (.lp ⟨[(8,(.pd Y3)),(9,(.pd Y3))],[],[3,4,5],[],[],[]⟩ [((.exit 0),⟨[(8,(.pd Y3))],[],[3,4,5],[],[],[]⟩)] (.seq .leaf (.seq (.seq (.reg [(56,Y4)]) .leaf) .leaf)))) .leaf))))))
def F88V(a0:El Y31)(a1:El Y33)(a2:El Y45):Option (El Y37):=Zau (mkE tyTab mapTab pkTab [45] [] F88M 77 bdTab) (Zah Tryz.f31) Tryz.f31.results F88H F88A F88R (fun y=>y.2.1) (a0,a1,a2,())
theorem F88_eq(a0:El Y31)(a1:El Y33)(a2:El Y45):F88V a0 a1 a2=F88 a0 a1 a2:=by kernel_rfl
theorem F88_ok:ZaT Tryz.prog 31 F88S:=Zad (m:=F88M) (fn:=Tryz.f31) (hint:=F88H) (pack:=fun y=>y.2.1) Za1 tab_ok ⟨⟨F76_ok,trivial⟩,⟨F70_ok,trivial⟩,trivial⟩ fun x z h=>(F88_eq x.1 x.2.1 x.2.2.1).trans h
def F81: (El Y31)->(El Y33)->(El Y45)->Option (El Y3×El Y37):=fun a0 a1 a2=>
 (F82 a0 a1).bind fun x0=>
 bif !decide (x0=(0:Int)) then some ((0:Int),x0)
 else
 bif decide ((↑(List.length a2.1):Int)=(0:Int)) then bif !decide (a1.1=a1.2.1) then some ((0:Int),(24:Int)) else some ((0:Int),(0:Int))
 else
 Option.bind
 (run
 (fun s1=>
 bif decide (s1< (↑(List.length a2.1):Int)) then
 (F87 a0 a1 a2 s1).bind fun x2=>
 bif !decide (x2=(0:Int)) then some (.inr (.inr (s1,x2))) else some (.inl (IntKind.wrap .i64 (s1+(1:Int))))
 else some (.inr (.inl ())))
 (0:Int))
 fun x3=>
 Sum.elim
 (fun _=>
 (F88 a0 a1 a2).bind fun x5=>
 bif !decide (x5=(0:Int)) then some (IntKind.wrap .i64 ((↑(List.length a2.1):Int) - (1:Int)),x5) else some ((0:Int),(0:Int)))
 (fun y6=>some (y6.1,y6.2)) x3
abbrev F81A:Zal:=(.cons (.pd Y31) (.cons (.pd Y33) (.cons (.pd Y45) .nil)))
abbrev F81R:Zal:=(.cons (.pd Y3) (.cons (.pd Y37) .nil))
def F81S:Tr.Spec:= {args:=F81A,res:=F81R,fns:=[],α:=El Y3×El Y37,f:=fun x=>F81 x.1 x.2.1 x.2.2.1,unp:=fun z=>(((),(),(),()),(z.1,z.2,())) }
def F81M:List (Nat×List Tr.Spec):=[(29,[F87S]),(30,[F82S]),(31,[F88S])]
def F81H:ZaU:=(.seq .leaf (.seq .leaf (.seq .leaf (.seq .leaf (.seq (.seq .leaf (.lp ⟨[(9,(.pd Y3))],[],[3,4,5],[],[],[]⟩ [((.exit 0),⟨[],[],[3,4,5],[],[],[]⟩),(.ret,⟨[(6,(.pd Y3)),(7,(.pd Y37))],[],[],[],[],[]⟩)] .leaf)) .leaf)))))
def F81V(a0:El Y31)(a1:El Y33)(a2:El Y45):Option (El Y3×El Y37):=Zau (mkE tyTab mapTab pkTab [45] [] F81M 52 bdTab) (Zah Tryz.f18) Tryz.f18.results F81H F81A F81R (fun y=>(y.2.1,y.2.2.1)) (a0,a1,a2,())
theorem F81_eq(a0:El Y31)(a1:El Y33)(a2:El Y45):F81V a0 a1 a2=F81 a0 a1 a2:=by kernel_rfl
theorem F81_ok:ZaT Tryz.prog 18 F81S:=Zad (m:=F81M) (fn:=Tryz.f18) (hint:=F81H) (pack:=fun y=>(y.2.1,y.2.2.1)) Za1 tab_ok ⟨⟨F87_ok,trivial⟩,⟨F82_ok,trivial⟩,⟨F88_ok,trivial⟩,trivial⟩ fun x z h=>(F81_eq x.1 x.2.1 x.2.2.1).trans h
def F59: (El Y31)->Option (El Y4):=fun a0=>
 Option.bind
 (bif decide ((5:Int)< (↑(List.length a0.1):Int)) then some true
 else
 bif decide ((7:Int)< (↑(List.length a0.2.2.1):Int)) then some true
 else
 bif decide ((30:Int)< (↑(List.length a0.2.2.2.1):Int)) then some true
 else some (decide ((60:Int)< (↑(List.length a0.2.2.2.2.1):Int))))
 fun x0=>
 bif x0 then some false
 else
 Option.bind
 (run
 (fun s1=>
 bif decide (s1< (↑(List.length a0.2.2.1):Int)) then
 (idx a0.2.2.1 s1).bind fun x2=>
 bif decide ((6:Int)< (↑(List.length x2.2.2.2.2.2.2.2.1):Int)) then some (.inr (.inr false))
 else some (.inl (IntKind.wrap .i64 (s1+(1:Int))))
 else some (.inr (.inl ())))
 (0:Int))
 fun x3=>Sum.elim (fun _=>(F60 a0).bind fun x5=>some x5) (fun y6=>some y6) x3
abbrev F59A:Zal:=(.cons (.pd Y31) .nil)
abbrev F59R:Zal:=(.cons (.pd Y4) .nil)
def F59S:Tr.Spec:= {args:=F59A,res:=F59R,fns:=[],α:=El Y4,f:=fun x=>F59 x.1,unp:=fun z=>(((),()),(z,())) }
def F59M:List (Nat×List Tr.Spec):=[(32,[F60S])]
def F59H:ZaU:=(.seq .leaf (.seq (.seq (.reg [(25,Y4)]) .leaf) (.seq (.seq .leaf (.lp ⟨[(3,(.pd Y3))],[],[1],[],[],[]⟩ [((.exit 0),⟨[],[],[1],[],[],[]⟩),(.ret,⟨[(2,(.pd Y4))],[],[],[],[],[]⟩)] .leaf)) .leaf)))
def F59V(a0:El Y31):Option (El Y4):=Zau (mkE tyTab mapTab pkTab [] [] F59M 43 bdTab) (Zah Tryz.f19) Tryz.f19.results F59H F59A F59R (fun y=>y.2.1) (a0,())
theorem F59_eq(a0:El Y31):F59V a0=F59 a0:=by kernel_rfl
theorem F59_ok:ZaT Tryz.prog 19 F59S:=Zad (m:=F59M) (fn:=Tryz.f19) (hint:=F59H) (pack:=fun y=>y.2.1) Za1 tab_ok ⟨⟨F60_ok,trivial⟩,trivial⟩ fun x z h=>(F59_eq x.1).trans h
def F101: (El Y31)->(El Y3)->(El Y3)->Option (El Y43):=fun a0 a1 a2=>
 Option.bind
 (run
 (fun s0=>
 bif decide (s0.2< (↑(List.length a0.2.2.2.2.1):Int)) then
 (idx a0.2.2.2.2.1 s0.2).bind fun x1=>
 bif decide (x1.1=a1) then
 Option.bind
 (Zaq
 (decide
 (List.length s0.1+
 List.length [(false,(0:Int),(0:Int),(0:Int),a1,x1.2.1,a2,IntKind.wrap .i64 (a2+x1.2.2.1),false,())]<=
 Zar)))
 fun _=>
 some
 (.inl
 (s0.1++[(false,(0:Int),(0:Int),(0:Int),a1,x1.2.1,a2,IntKind.wrap .i64 (a2+x1.2.2.1),false,())],
 IntKind.wrap .i64 (s0.2+(1:Int))))
 else some (.inl (s0.1,IntKind.wrap .i64 (s0.2+(1:Int))))
 else some (.inr s0.1))
 ([],(0:Int)))
 fun x3=>some x3
abbrev F101A:Zal:=(.cons (.pd Y31) (.cons (.pd Y3) (.cons (.pd Y3) .nil)))
abbrev F101R:Zal:=(.cons (.pd Y43) .nil)
def F101S:Tr.Spec:= {args:=F101A,res:=F101R,fns:=[],α:=El Y43,f:=fun x=>F101 x.1 x.2.1 x.2.2.1,unp:=fun z=>(((),(),(),()),(z,())) }
def F101M:List (Nat×List Tr.Spec):=[]
def F101H:ZaU:=(.seq .leaf (.seq .leaf (.seq (.seq .leaf (.lp ⟨[(7,(.own Y51 false)),(8,(.pd Y3))],[],[1,2,3],[],[],[]⟩ [((.exit 0),⟨[(7,(.own Y51 false))],[],[],[],[],[]⟩)] .leaf)) .leaf)))
def F101V(a0:El Y31)(a1:El Y3)(a2:El Y3):Option (El Y43):=Zau (mkE tyTab mapTab pkTab [45] [] F101M 40 bdTab) (Zah Tryz.f33) Tryz.f33.results F101H F101A F101R (fun y=>y.2.1) (a0,a1,a2,())
theorem F101_eq(a0:El Y31)(a1:El Y3)(a2:El Y3):F101V a0 a1 a2=F101 a0 a1 a2:=by kernel_rfl
theorem F101_ok:ZaT Tryz.prog 33 F101S:=Zad (m:=F101M) (fn:=Tryz.f33) (hint:=F101H) (pack:=fun y=>y.2.1) Za1 tab_ok trivial fun x z h=>(F101_eq x.1 x.2.1 x.2.2.1).trans h
def F83: (El Y31)->(El Y33)->(El Y45)->Option (El Y4):=fun a0 a1 a2=>(F81 a0 a1 a2).bind fun x0=>some (decide (x0.2=(0:Int)))
abbrev F83A:Zal:=(.cons (.pd Y31) (.cons (.pd Y33) (.cons (.pd Y45) .nil)))
abbrev F83R:Zal:=(.cons (.pd Y4) .nil)
def F83S:Tr.Spec:= {args:=F83A,res:=F83R,fns:=[],α:=El Y4,f:=fun x=>F83 x.1 x.2.1 x.2.2.1,unp:=fun z=>(((),(),(),()),(z,())) }
def F83M:List (Nat×List Tr.Spec):=[(18,[F81S])]
def F83H:ZaU:= .leaf
def F83V(a0:El Y31)(a1:El Y33)(a2:El Y45):Option (El Y4):=Zau (mkE tyTab mapTab pkTab [45] [] F83M 18 bdTab) (Zah Tryz.f34) Tryz.f34.results F83H F83A F83R (fun y=>y.2.1) (a0,a1,a2,())
theorem F83_eq(a0:El Y31)(a1:El Y33)(a2:El Y45):F83V a0 a1 a2=F83 a0 a1 a2:=by kernel_rfl
theorem F83_ok:ZaT Tryz.prog 34 F83S:=Zad (m:=F83M) (fn:=Tryz.f34) (hint:=F83H) (pack:=fun y=>y.2.1) Za1 tab_ok ⟨⟨F81_ok,trivial⟩,trivial⟩ fun x z h=>(F83_eq x.1 x.2.1 x.2.2.1).trans h
def F97: (El Y31)->(El Y3)->(El Y3)->Option (List (El Y51)):=fun a0 a1 a2=>
 Option.bind
 (run
 (fun s0=>
 bif decide (s0.2< (↑(List.length a0.2.2.1):Int)) then
 (idx a0.2.2.1 s0.2).bind fun x1=>
 Option.bind
 (run
 (fun s2=>
 bif decide (s2.2< (↑(List.length x1.2.2.2.2.2.2.2.1):Int)) then
 Option.bind
 ((idx x1.2.2.2.2.2.2.2.1 s2.2).bind fun x3=>
 bif !decide (x3.1=a1) then some true
 else (idx x1.2.2.2.2.2.2.2.1 s2.2).bind fun x4=>some (decide (x4.2.2.1<a2)))
 fun x5=>
 bif x5 then some (.inl (s2.1,IntKind.wrap .i64 (s2.2+(1:Int))))
 else
 Option.bind
 (run
 (fun s6=>
 bif decide (s6.2< (↑(List.length x1.2.2.2.2.2.2.2.1):Int)) then
 (idx x1.2.2.2.2.2.2.2.1 s6.2).bind fun x7=>
 (idx x1.2.2.2.2.2.2.2.1 s2.2).bind fun x8=>
 (idx x1.2.2.2.2.2.2.2.1 s6.2).bind fun x9=>
 Option.bind
 (Zaq
 (decide
 (List.length s6.1+List.length [(true,s0.2,s2.2,s6.2,a1,x7.1,x8.2.2.1,x9.2.1,false,())]<=Zar)))
 fun _=>
 some
 (.inl
 (s6.1++[(true,s0.2,s2.2,s6.2,a1,x7.1,x8.2.2.1,x9.2.1,false,())],
 IntKind.wrap .i64 (s6.2+(1:Int))))
 else some (.inr s6.1))
 (s2.1,IntKind.wrap .i64 (s2.2+(1:Int))))
 fun x11=>some (.inl (x11,IntKind.wrap .i64 (s2.2+(1:Int))))
 else some (.inr s2.1))
 (s0.1,(0:Int)))
 fun x12=>some (.inl (x12,IntKind.wrap .i64 (s0.2+(1:Int))))
 else some (.inr s0.1))
 ([],(0:Int)))
 fun x13=>some x13
abbrev F97A:Zal:=(.cons (.pd Y31) (.cons (.pd Y3) (.cons (.pd Y3) .nil)))
abbrev F97R:Zal:=(.cons (.own Y51 false) .nil)
def F97S:Tr.Spec:= {args:=F97A,res:=F97R,fns:=[],α:=List (El Y51),f:=fun x=>F97 x.1 x.2.1 x.2.2.1,unp:=fun z=>(((),(),(),()),(z,())) }
def F97M:List (Nat×List Tr.Spec):=[]
def F97H:ZaU:=(.seq .leaf (.seq .leaf (.seq (.seq .leaf (.lp ⟨[(7,(.own Y51 false)),(8,(.pd Y3))],[],[1,2,3],[],[],[]⟩ [((.exit 0),⟨[(7,(.own Y51 false))],[],[],[],[],[]⟩)] (.seq .leaf (.seq (.seq .leaf (.seq .leaf (.lp ⟨[(7,(.own Y51 false)),(10,(.pd Y3))],[],[1,2,3,8,9],[],[],[]⟩ [((.exit 2),⟨[(7,(.own Y51 false))],[],[1,2,3,8],[],[],[]⟩)] (.seq .leaf (.seq (.seq (.seq (.reg [(47,Y4)]) .leaf) (.seq .leaf (.lp ⟨[(7,(.own Y51 false)),(11,(.pd Y3))],[],[1,2,3,8,9,10],[],[],[]⟩ [((.exit 4),⟨[(7,(.own Y51 false))],[],[1,2,3,8,9,10],[],[],[]⟩)] .leaf))) .leaf))))) .leaf)))) .leaf)))
def F97V(a0:El Y31)(a1:El Y3)(a2:El Y3):Option (List (El Y51)):=Zau (mkE tyTab mapTab pkTab [] [] F97M 80 bdTab) (Zah Tryz.f57) Tryz.f57.results F97H F97A F97R (fun y=>y.2.1) (a0,a1,a2,())
theorem F97_eq(a0:El Y31)(a1:El Y3)(a2:El Y3):F97V a0 a1 a2=F97 a0 a1 a2:=by kernel_rfl
theorem F97_ok:ZaT Tryz.prog 57 F97S:=Zad (m:=F97M) (fn:=Tryz.f57) (hint:=F97H) (pack:=fun y=>y.2.1) Za1 tab_ok trivial fun x z h=>(F97_eq x.1 x.2.1 x.2.2.1).trans h
def F99: (El Y31)->(El Y33)->Option (El Y56):=fun a0 a1=>
 Option.bind (bif a1.2.2.2.1 then some (0:Int) else some a1.2.2.1) fun x0=>
 (F97 a0 a1.1 x0).bind fun x1=>
 Option.bind
 (run
 (fun s2=>
 bif decide (s2.2.2< (↑(List.length s2.2.1):Int)) then
 (inb s2.2.2 (List.length s2.2.1)).bind fun x3=>
 Option.bind s2.2.1[x3]? fun x4=>
 Option.bind (Zaq (decide (List.length s2.1+List.length [([x4],())]<=Zar))) fun _=>
 some (.inl (s2.1++[([x4],())],s2.2.1,IntKind.wrap .i64 (s2.2.2+(1:Int))))
 else some (.inr s2.1))
 ([],x1,(0:Int)))
 fun x6=>
 (F101 a0 a1.1 (0:Int)).bind fun x7=>
 Option.bind
 (run
 (fun s8=>
 bif decide (s8.2< (↑(List.length x7):Int)) then
 (idx x7 s8.2).bind fun x9=>
 (F97 a0 x9.2.2.2.2.2.1 x0).bind fun x10=>
 Option.bind
 (run
 (fun s11=>
 bif decide (s11.2.2< (↑(List.length s11.2.1):Int)) then
 (idx x7 s8.2).bind fun x12=>
 (inb s11.2.2 (List.length s11.2.1)).bind fun x13=>
 Option.bind s11.2.1[x13]? fun x14=>
 (idx x7 s8.2).bind fun x15=>
 (inb s11.2.2 (List.length s11.2.1)).bind fun x16=>
 Option.bind s11.2.1[x16]? fun x17=>
 (inb s11.2.2 (List.length s11.2.1)).bind fun x18=>
 Option.bind s11.2.1[x18]? fun x19=>
 Option.bind
 (Zaq
 (decide
 (List.length s11.1+
 List.length
 [([(x12.1,x12.2.1,x12.2.2.1,x12.2.2.2.1,x12.2.2.2.2.1,x12.2.2.2.2.2.1,
 IntKind.wrap .i64 (x14.2.2.2.2.2.2.1 - x15.2.2.2.2.2.2.2.1),
 x17.2.2.2.2.2.2.1,x12.2.2.2.2.2.2.2.2),
 x19],
 ())]<=
 Zar)))
 fun _=>
 some
 (.inl
 (s11.1++
 [([(x12.1,x12.2.1,x12.2.2.1,x12.2.2.2.1,x12.2.2.2.2.1,x12.2.2.2.2.2.1,
 IntKind.wrap .i64 (x14.2.2.2.2.2.2.1 - x15.2.2.2.2.2.2.2.1),x17.2.2.2.2.2.2.1,
 x12.2.2.2.2.2.2.2.2),
 x19],
 ())],
 s11.2.1,IntKind.wrap .i64 (s11.2.2+(1:Int))))
 else some (.inr s11.1))
 (s8.1,x10,(0:Int)))
 fun x21=>some (.inl (x21,IntKind.wrap .i64 (s8.2+(1:Int))))
 else some (.inr s8.1))
 (x6,(0:Int)))
 fun x22=>some x22
abbrev F99A:Zal:=(.cons (.pd Y31) (.cons (.pd Y33) .nil))
abbrev F99R:Zal:=(.cons (.pd Y56) .nil)
def F99S:Tr.Spec:= {args:=F99A,res:=F99R,fns:=[],α:=El Y56,f:=fun x=>F99 x.1 x.2.1,unp:=fun z=>(((),(),()),(z,())) }
def F99M:List (Nat×List Tr.Spec):=[(33,[F101S]),(57,[F97S])]
def F99H:ZaU:=(.seq .leaf (.seq .leaf (.seq .leaf (.seq (.seq .leaf (.cnd (some (⟨[],[],[2,3,5],[],[],[]⟩,[(.normal,⟨[(6,(.pd Y3))],[],[2,3,5],[],[],[]⟩)])) .leaf .leaf)) (.seq .leaf (.seq (.seq .leaf (.lp ⟨[(5,(.own Y45 false)),(7,(.own Y51 false)),(8,(.pd Y3))],[],[2,3,6],[],[],[]⟩ [((.exit 0),⟨[(5,(.own Y45 false))],[],[2,3,6],[],[],[]⟩)] .leaf)) (.seq .leaf (.seq (.seq .leaf (.lp ⟨[(5,(.own Y45 false)),(10,(.pd Y3))],[],[2,6,9],[],[],[]⟩ [((.exit 2),⟨[(5,(.own Y45 false))],[],[],[],[],[]⟩)] (.seq .leaf (.seq (.seq .leaf (.seq .leaf (.lp ⟨[(5,(.own Y45 false)),(7,(.own Y51 false)),(11,(.pd Y3))],[],[2,6,9,10],[],[],[]⟩ [((.exit 4),⟨[(5,(.own Y45 false))],[],[2,6,9,10],[],[],[]⟩)] .leaf))) .leaf)))) .leaf))))))))
def F99V(a0:El Y31)(a1:El Y33):Option (El Y56):=Zau (mkE tyTab mapTab pkTab [45] [] F99M 95 bdTab) (Zah Tryz.f35) Tryz.f35.results F99H F99A F99R (fun y=>y.2.1) (a0,a1,())
theorem F99_eq(a0:El Y31)(a1:El Y33):F99V a0 a1=F99 a0 a1:=by kernel_rfl
theorem F99_ok:ZaT Tryz.prog 35 F99S:=Zad (m:=F99M) (fn:=Tryz.f35) (hint:=F99H) (pack:=fun y=>y.2.1) Za1 tab_ok ⟨⟨F101_ok,trivial⟩,⟨F97_ok,trivial⟩,trivial⟩ fun x z h=>(F99_eq x.1 x.2.1).trans h
def F98: (El Y45)->Option (El Y3):=fun a0=>
 Option.bind
 (run
 (fun s0=>
 bif decide (s0.2< (↑(List.length a0.1):Int)) then
 Option.bind
 ((idx a0.1 s0.2).bind fun x1=>bif x1.1 then (idx a0.1 s0.2).bind fun x2=>some !x2.2.2.2.2.2.2.2.2.1 else some false)
 fun x3=>
 bif x3 then some (.inl (IntKind.wrap .i64 (s0.1+(1:Int)),IntKind.wrap .i64 (s0.2+(1:Int))))
 else some (.inl (s0.1,IntKind.wrap .i64 (s0.2+(1:Int))))
 else some (.inr s0.1))
 ((0:Int),(0:Int)))
 fun x4=>some x4
abbrev F98A:Zal:=(.cons (.pd Y45) .nil)
abbrev F98R:Zal:=(.cons (.pd Y3) .nil)
def F98S:Tr.Spec:= {args:=F98A,res:=F98R,fns:=[],α:=El Y3,f:=fun x=>F98 x.1,unp:=fun z=>(((),()),(z,())) }
def F98M:List (Nat×List Tr.Spec):=[]
def F98H:ZaU:=(.seq .leaf (.seq .leaf (.seq (.seq .leaf (.lp ⟨[(3,(.pd Y3)),(4,(.pd Y3))],[],[1],[],[],[]⟩ [((.exit 0),⟨[(3,(.pd Y3))],[],[],[],[],[]⟩)] (.seq .leaf (.seq (.seq (.reg [(26,Y4)]) .leaf) .leaf)))) .leaf)))
def F98V(a0:El Y45):Option (El Y3):=Zau (mkE tyTab mapTab pkTab [45] [] F98M 30 bdTab) (Zah Tryz.f58) Tryz.f58.results F98H F98A F98R (fun y=>y.2.1) (a0,())
theorem F98_eq(a0:El Y45):F98V a0=F98 a0:=by kernel_rfl
theorem F98_ok:ZaT Tryz.prog 58 F98S:=Zad (m:=F98M) (fn:=Tryz.f58) (hint:=F98H) (pack:=fun y=>y.2.1) Za1 tab_ok trivial fun x z h=>(F98_eq x.1).trans h
def F92: (El Y31)->(El Y33)->(El Y45)->Option (El Y4):=fun a0 a1 a2=>
 Option.bind
 (run
 (fun s0=>
 bif decide (s0< (↑(List.length a2.1):Int)) then
 (F87 a0 a1 a2 s0).bind fun x1=>
 Option.bind
 (bif !decide (x1=(0:Int)) then
 bif decide (IntKind.wrap .i64 (s0+(1:Int))< (↑(List.length a2.1):Int)) then some true
 else bif !decide (x1=(26:Int)) then some !decide (x1=(29:Int)) else some false
 else some false)
 fun x2=>bif x2 then some (.inr (.inr false)) else some (.inl (IntKind.wrap .i64 (s0+(1:Int))))
 else some (.inr (.inl ())))
 (0:Int))
 fun x3=>
 Sum.elim
 (fun _=>
 Option.bind
 ((F98 a2).bind fun x5=>
 bif decide (x5<=a1.2.2.2.2.1) then
 (F76 a2).bind fun x6=>
 bif decide (x6<=a1.2.2.2.2.2.1) then
 bif !a1.2.2.2.1 then some true
 else
 (idx a2.1 (IntKind.wrap .i64 ((↑(List.length a2.1):Int) - (1:Int)))).bind fun x7=>
 some (decide (x7.2.2.2.2.2.2.2.1<=a1.2.2.1))
 else some false
 else some false)
 fun x8=>some x8)
 (fun y9=>some y9) x3
abbrev F92A:Zal:=(.cons (.pd Y31) (.cons (.pd Y33) (.cons (.pd Y45) .nil)))
abbrev F92R:Zal:=(.cons (.pd Y4) .nil)
def F92S:Tr.Spec:= {args:=F92A,res:=F92R,fns:=[],α:=El Y4,f:=fun x=>F92 x.1 x.2.1 x.2.2.1,unp:=fun z=>(((),(),(),()),(z,())) }
def F92M:List (Nat×List Tr.Spec):=[(29,[F87S]),(54,[F76S]),(58,[F98S])]
def F92H:ZaU:=(.seq .leaf (.seq (.seq .leaf (.lp ⟨[(7,(.pd Y3))],[],[3,4,5],[],[],[]⟩ [((.exit 0),⟨[],[],[4,5],[],[],[]⟩),(.ret,⟨[(6,(.pd Y4))],[],[],[],[],[]⟩)] (.seq .leaf (.seq (.seq .leaf (.seq (.reg [(38,Y4)]) .leaf)) .leaf)))) (.seq (.reg [(6,Y4)]) .leaf)))
def F92V(a0:El Y31)(a1:El Y33)(a2:El Y45):Option (El Y4):=Zau (mkE tyTab mapTab pkTab [45] [] F92M 70 bdTab) (Zah Tryz.f36) Tryz.f36.results F92H F92A F92R (fun y=>y.2.1) (a0,a1,a2,())
theorem F92_eq(a0:El Y31)(a1:El Y33)(a2:El Y45):F92V a0 a1 a2=F92 a0 a1 a2:=by kernel_rfl
theorem F92_ok:ZaT Tryz.prog 36 F92S:=Zad (m:=F92M) (fn:=Tryz.f36) (hint:=F92H) (pack:=fun y=>y.2.1) Za1 tab_ok ⟨⟨F87_ok,trivial⟩,⟨F76_ok,trivial⟩,⟨F98_ok,trivial⟩,trivial⟩ fun x z h=>(F92_eq x.1 x.2.1 x.2.2.1).trans h
def F102: (El Y45)->(El Y51)->Option (El Y45):=fun a0 a1=>
 Option.bind (Zaq (decide (List.length ([]:List Unit)+List.length a0.1<=Zar))) fun _=>
 Option.bind (Zaq (decide (List.length ([]++a0.1)+List.length [a1]<=Zar))) fun _=>some ([]++a0.1++[a1],())
abbrev F102A:Zal:=(.cons (.pd Y45) (.cons (.pd Y51) .nil))
abbrev F102R:Zal:=(.cons (.pd Y45) .nil)
def F102S:Tr.Spec:= {args:=F102A,res:=F102R,fns:=[],α:=El Y45,f:=fun x=>F102 x.1 x.2.1,unp:=fun z=>(((),(),()),(z,())) }
def F102M:List (Nat×List Tr.Spec):=[]
def F102H:ZaU:= .leaf
def F102V(a0:El Y45)(a1:El Y51):Option (El Y45):=Zau (mkE tyTab mapTab pkTab [45] [] F102M 17 bdTab) (Zah Tryz.f59) Tryz.f59.results F102H F102A F102R (fun y=>y.2.1) (a0,a1,())
theorem F102_eq(a0:El Y45)(a1:El Y51):F102V a0 a1=F102 a0 a1:=by kernel_rfl
theorem F102_ok:ZaT Tryz.prog 59 F102S:=Zad (m:=F102M) (fn:=Tryz.f59) (hint:=F102H) (pack:=fun y=>y.2.1) Za1 tab_ok trivial fun x z h=>(F102_eq x.1 x.2.1).trans h
def F86: (El Y45)->(El Y51)->Option (El Y4):=fun a0 a1=>
 Option.bind
 (run
 (fun s0=>
 Option.bind (bif decide ((0:Int)<=s0) then some a1.2.2.2.2.2.2.2.2.1 else some false) fun x1=>
 bif x1 then
 (idx a0.1 s0).bind fun x2=>
 bif decide (x2.2.1=a1.2.1) then some (.inr (.inr true))
 else
 (idx a0.1 s0).bind fun x3=>
 bif !x3.2.2.2.2.2.2.2.2.1 then some (.inr (.inr false)) else some (.inl (IntKind.wrap .i64 (s0 - (1:Int))))
 else some (.inr (.inl ())))
 (IntKind.wrap .i64 ((↑(List.length a0.1):Int) - (1:Int))))
 fun x4=>Sum.elim (fun _=>some false) (fun y6=>some y6) x4
abbrev F86A:Zal:=(.cons (.pd Y45) (.cons (.pd Y51) .nil))
abbrev F86R:Zal:=(.cons (.pd Y4) .nil)
def F86S:Tr.Spec:= {args:=F86A,res:=F86R,fns:=[],α:=El Y4,f:=fun x=>F86 x.1 x.2.1,unp:=fun z=>(((),(),()),(z,())) }
def F86M:List (Nat×List Tr.Spec):=[]
def F86H:ZaU:=(.seq .leaf (.seq (.seq .leaf (.lp ⟨[(5,(.pd Y3))],[],[2,3],[],[],[]⟩ [((.exit 0),⟨[],[],[],[],[],[]⟩),(.ret,⟨[(4,(.pd Y4))],[],[],[],[],[]⟩)] (.seq (.seq (.reg [(15,Y4)]) .leaf) .leaf))) .leaf))
def F86V(a0:El Y45)(a1:El Y51):Option (El Y4):=Zau (mkE tyTab mapTab pkTab [45] [] F86M 34 bdTab) (Zah Tryz.f60) Tryz.f60.results F86H F86A F86R (fun y=>y.2.1) (a0,a1,())
theorem F86_eq(a0:El Y45)(a1:El Y51):F86V a0 a1=F86 a0 a1:=by kernel_rfl
theorem F86_ok:ZaT Tryz.prog 60 F86S:=Zad (m:=F86M) (fn:=Tryz.f60) (hint:=F86H) (pack:=fun y=>y.2.1) Za1 tab_ok trivial fun x z h=>(F86_eq x.1 x.2.1).trans h
def F89: (El Y31)->(El Y33)->(El Y45)->Option (El Y56):=fun a0 a1 a2=>
 (idx a2.1 (IntKind.wrap .i64 ((↑(List.length a2.1):Int) - (1:Int)))).bind fun x0=>
 (F97 a0 x0.2.2.2.2.2.1 x0.2.2.2.2.2.2.2.1).bind fun x1=>
 Option.bind
 (bif x0.1 then
 (F101 a0 x0.2.2.2.2.2.1 x0.2.2.2.2.2.2.2.1).bind fun x2=>
 Option.bind (Zaq (decide (List.length x1+List.length x2<=Zar))) fun _=>some ([],x1++x2)
 else some ([],x1))
 fun x4=>
 Option.bind
 (run
 (fun s5=>
 bif decide (s5.2.2< (↑(List.length s5.2.1):Int)) then
 (inb s5.2.2 (List.length s5.2.1)).bind fun x6=>
 Option.bind s5.2.1[x6]? fun x7=>
 (F102 a2 x7).bind fun x8=>
 Option.bind
 ((F87 a0 a1 x8 (IntKind.wrap .i64 ((↑(List.length a2.1):Int) - (1:Int)))).bind fun x9=>
 bif decide (x9=(0:Int)) then (F87 a0 a1 x8 (↑(List.length a2.1):Int)).bind fun x10=>some !decide (x10=(28:Int))
 else some false)
 fun x11=>
 Option.bind
 (bif x11 then Option.bind (Zaq (decide (List.length s5.1+List.length [x8]<=Zar))) fun _=>some (s5.1++[x8],s5.2.1)
 else some (s5.1,s5.2.1))
 fun x13=>
 Option.bind
 ((inb s5.2.2 (List.length x13.2)).bind fun x14=>
 Option.bind x13.2[x14]? fun x15=>
 bif x15.1 then
 (inb s5.2.2 (List.length x13.2)).bind fun x16=>
 Option.bind x13.2[x16]? fun x17=>bif decide (x17.2.2.1=(0:Int)) then some x0.1 else some false
 else some false)
 fun x18=>
 bif x18 then
 (inb s5.2.2 (List.length x13.2)).bind fun x19=>
 Option.bind x13.2[x19]? fun x20=>
 Option.bind
 (inb s5.2.2
 (List.length
 (List.set x13.2 x19
 (x20.1,x20.2.1,x20.2.2.1,x20.2.2.2.1,x20.2.2.2.2.1,x20.2.2.2.2.2.1,x20.2.2.2.2.2.2.1,
 x20.2.2.2.2.2.2.2.1,true,x20.2.2.2.2.2.2.2.2.2))))
 fun x21=>
 Option.bind
 (List.set x13.2 x19
 (x20.1,x20.2.1,x20.2.2.1,x20.2.2.2.1,x20.2.2.2.2.1,x20.2.2.2.2.2.1,x20.2.2.2.2.2.2.1,
 x20.2.2.2.2.2.2.2.1,true,x20.2.2.2.2.2.2.2.2.2))[x21]?
 fun x22=>
 (F102 a2 x22).bind fun x23=>
 Option.bind
 (Option.bind
 (inb s5.2.2
 (List.length
 (List.set x13.2 x19
 (x20.1,x20.2.1,x20.2.2.1,x20.2.2.2.1,x20.2.2.2.2.1,x20.2.2.2.2.2.1,x20.2.2.2.2.2.2.1,
 x20.2.2.2.2.2.2.2.1,true,x20.2.2.2.2.2.2.2.2.2))))
 fun x24=>
 Option.bind
 (List.set x13.2 x19
 (x20.1,x20.2.1,x20.2.2.1,x20.2.2.2.1,x20.2.2.2.2.1,x20.2.2.2.2.2.1,x20.2.2.2.2.2.2.1,
 x20.2.2.2.2.2.2.2.1,true,x20.2.2.2.2.2.2.2.2.2))[x24]?
 fun x25=>
 (F86 a2 x25).bind fun x26=>
 bif !x26 then
 Option.bind
 (inb s5.2.2
 (List.length
 (List.set x13.2 x19
 (x20.1,x20.2.1,x20.2.2.1,x20.2.2.2.1,x20.2.2.2.2.1,x20.2.2.2.2.2.1,
 x20.2.2.2.2.2.2.1,x20.2.2.2.2.2.2.2.1,true,x20.2.2.2.2.2.2.2.2.2))))
 fun x27=>
 Option.bind
 (List.set x13.2 x19
 (x20.1,x20.2.1,x20.2.2.1,x20.2.2.2.1,x20.2.2.2.2.1,x20.2.2.2.2.2.1,
 x20.2.2.2.2.2.2.1,x20.2.2.2.2.2.2.2.1,true,x20.2.2.2.2.2.2.2.2.2))[x27]?
 fun x28=>(F91 a0 x0 x28).bind fun x29=>some (decide (x29=(0:Int)))
 else some false)
 fun x30=>
 bif x30 then
 Option.bind (Zaq (decide (List.length x13.1+List.length [x23]<=Zar))) fun _=>
 some
 (.inl
 (x13.1++[x23],
 List.set x13.2 x19
 (x20.1,x20.2.1,x20.2.2.1,x20.2.2.2.1,x20.2.2.2.2.1,x20.2.2.2.2.2.1,
 x20.2.2.2.2.2.2.1,x20.2.2.2.2.2.2.2.1,true,x20.2.2.2.2.2.2.2.2.2),
 IntKind.wrap .i64 (s5.2.2+(1:Int))))
 else
 some
 (.inl
 (x13.1,
 List.set x13.2 x19
 (x20.1,x20.2.1,x20.2.2.1,x20.2.2.2.1,x20.2.2.2.2.1,x20.2.2.2.2.2.1,x20.2.2.2.2.2.2.1,
 x20.2.2.2.2.2.2.2.1,true,x20.2.2.2.2.2.2.2.2.2),
 IntKind.wrap .i64 (s5.2.2+(1:Int))))
 else some (.inl (x13.1,x13.2,IntKind.wrap .i64 (s5.2.2+(1:Int))))
 else some (.inr s5.1))
 (x4.1,x4.2,(0:Int)))
 fun x32=>some x32
abbrev F89A:Zal:=(.cons (.pd Y31) (.cons (.pd Y33) (.cons (.pd Y45) .nil)))
abbrev F89R:Zal:=(.cons (.pd Y56) .nil)
def F89S:Tr.Spec:= {args:=F89A,res:=F89R,fns:=[],α:=El Y56,f:=fun x=>F89 x.1 x.2.1 x.2.2.1,unp:=fun z=>(((),(),(),()),(z,())) }
def F89M:List (Nat×List Tr.Spec):=[(29,[F87S]),(33,[F101S]),(52,[F91S]),(57,[F97S]),(59,[F102S]),(60,[F86S])]
def F89H:ZaU:=(.seq .leaf (.seq .leaf (.seq .leaf (.seq .leaf (.seq (.seq .leaf (.cnd (some (⟨[],[],[3,4,5,8],[],[],[]⟩,[(.normal,⟨[(7,(.own Y45 false)),(9,(.own Y51 false))],[],[3,4,5,8],[],[],[]⟩)])) .leaf .leaf)) (.seq (.seq .leaf (.lp ⟨[(7,(.own Y45 false)),(9,(.own Y51 false)),(10,(.pd Y3))],[],[3,4,5,8],[],[],[]⟩ [((.exit 0),⟨[(7,(.own Y45 false))],[],[],[],[],[]⟩)] (.seq .leaf (.seq (.seq .leaf (.seq (.seq (.reg [(67,Y4)]) (.cnd (some (⟨[],[],[3,4,5,8,10,11],[],[],[]⟩,[(.normal,⟨[(7,(.own Y45 false)),(9,(.own Y51 false))],[],[3,4,5,8,10,11],[],[],[]⟩)])) .leaf .leaf)) (.seq (.reg [(88,Y4)]) (.cnd none (.seq .leaf (.seq .leaf (.seq (.reg [(115,Y4)]) .leaf))) .leaf)))) .leaf)))) .leaf))))))
def F89V(a0:El Y31)(a1:El Y33)(a2:El Y45):Option (El Y56):=Zau (mkE tyTab mapTab pkTab [45] [] F89M 121 bdTab) (Zah Tryz.f37) Tryz.f37.results F89H F89A F89R (fun y=>y.2.1) (a0,a1,a2,())
theorem F89_eq(a0:El Y31)(a1:El Y33)(a2:El Y45):F89V a0 a1 a2=F89 a0 a1 a2:=by kernel_rfl
theorem F89_ok:ZaT Tryz.prog 37 F89S:=Zad (m:=F89M) (fn:=Tryz.f37) (hint:=F89H) (pack:=fun y=>y.2.1) Za1 tab_ok ⟨⟨F87_ok,trivial⟩,⟨F101_ok,trivial⟩,⟨F91_ok,trivial⟩,⟨F97_ok,trivial⟩,⟨F102_ok,trivial⟩,⟨F86_ok,trivial⟩,trivial⟩ fun x z h=>(F89_eq x.1 x.2.1 x.2.2.1).trans h
def F80: (El Y31)->(El Y33)->Option (El Y56):=fun a0 a1=>
 Option.bind (bif decide (a1.1=a1.2.1) then some ([]++[(([]:List (El Y51)),())]) else some []) fun x0=>
 (F101 a0 a1.1 a1.2.2.1).bind fun x1=>
 Option.bind
 (run
 (fun s2=>
 bif decide (s2.2< (↑(List.length x1):Int)) then
 (idx x1 s2.2).bind fun x3=>
 Option.bind
 (bif a1.2.2.2.1 then
 some
 (x3.1,x3.2.1,x3.2.2.1,x3.2.2.2.1,x3.2.2.2.2.1,x3.2.2.2.2.2.1,
 IntKind.wrap .i64 (a1.2.2.1 - IntKind.wrap .i64 (x3.2.2.2.2.2.2.2.1 - x3.2.2.2.2.2.2.1)),a1.2.2.1,
 x3.2.2.2.2.2.2.2.2)
 else some x3)
 fun x4=>
 (F83 a0 a1 ([x4],())).bind fun x5=>
 bif x5 then
 Option.bind (Zaq (decide (List.length s2.1+List.length [([x4],())]<=Zar))) fun _=>
 some (.inl (s2.1++[([x4],())],IntKind.wrap .i64 (s2.2+(1:Int))))
 else some (.inl (s2.1,IntKind.wrap .i64 (s2.2+(1:Int))))
 else some (.inr s2.1))
 (x0,(0:Int)))
 fun x7=>
 (F99 a0 a1).bind fun x8=>
 Option.bind
 (run
 (fun s9=>
 bif decide ((0:Int)< (↑(List.length s9.2):Int)) then
 Option.bind
 (run
 (fun s10=>
 bif decide (s10.2.2< (↑(List.length s9.2):Int)) then
 (idx s9.2 s10.2.2).bind fun x11=>
 (F92 a0 a1 x11).bind fun x12=>
 bif !x12 then some (.inl (s10.1,s10.2.1,IntKind.wrap .i64 (s10.2.2+(1:Int))))
 else
 (idx s9.2 s10.2.2).bind fun x13=>
 (F83 a0 a1 x13).bind fun x14=>
 Option.bind
 (bif x14 then
 (idx s9.2 s10.2.2).bind fun x15=>
 Option.bind (Zaq (decide (List.length s10.1+List.length [x15]<=Zar))) fun _=>some (s10.1++[x15],s10.2.1)
 else some (s10.1,s10.2.1))
 fun x17=>
 (idx s9.2 s10.2.2).bind fun x18=>
 (F89 a0 a1 x18).bind fun x19=>
 Option.bind (Zaq (decide (List.length x17.2+List.length x19<=Zar))) fun _=>
 some (.inl (x17.1,x17.2++x19,IntKind.wrap .i64 (s10.2.2+(1:Int))))
 else some (.inr (s10.1,s10.2.1)))
 (s9.1,[],(0:Int)))
 fun x21=>some (.inl (x21.1,x21.2))
 else some (.inr s9.1))
 (x7,x8))
 fun x22=>some x22
abbrev F80A:Zal:=(.cons (.pd Y31) (.cons (.pd Y33) .nil))
abbrev F80R:Zal:=(.cons (.pd Y56) .nil)
def F80S:Tr.Spec:= {args:=F80A,res:=F80R,fns:=[],α:=El Y56,f:=fun x=>F80 x.1 x.2.1,unp:=fun z=>(((),(),()),(z,())) }
def F80M:List (Nat×List Tr.Spec):=[(33,[F101S]),(34,[F83S]),(35,[F99S]),(36,[F92S]),(37,[F89S])]
def F80H:ZaU:=(.seq .leaf (.seq .leaf (.seq (.seq .leaf (.cnd (some (⟨[],[],[2,3],[],[],[]⟩,[(.normal,⟨[(5,(.own Y45 false))],[],[2,3],[],[],[]⟩)])) .leaf .leaf)) (.seq .leaf (.seq (.seq .leaf (.lp ⟨[(5,(.own Y45 false)),(7,(.pd Y3))],[],[2,3,6],[],[],[]⟩ [((.exit 0),⟨[(5,(.own Y45 false))],[],[2,3],[],[],[]⟩)] (.seq .leaf (.seq (.seq .leaf (.seq (.seq .leaf (.cnd (some (⟨[],[],[2,3,5,6,7],[],[],[]⟩,[(.normal,⟨[(8,(.var Y51 (.pd Y51)))],[],[2,3,5,6,7],[],[],[]⟩)])) .leaf .leaf)) .leaf)) .leaf)))) (.seq .leaf (.seq (.lp ⟨[(5,(.own Y45 false)),(10,(.pd Y56))],[],[2,3],[],[],[]⟩ [((.exit 2),⟨[(5,(.own Y45 false))],[],[],[],[],[]⟩)] (.seq .leaf (.seq .leaf (.seq (.seq .leaf (.lp ⟨[(5,(.own Y45 false)),(11,(.own Y45 false)),(12,(.pd Y3))],[],[2,3,10],[],[],[]⟩ [((.exit 4),⟨[(5,(.own Y45 false)),(11,(.own Y45 false))],[],[2,3],[],[],[]⟩)] (.seq .leaf (.seq (.seq .leaf (.seq (.seq .leaf (.cnd (some (⟨[],[],[2,3,10,12],[],[],[]⟩,[(.normal,⟨[(5,(.own Y45 false)),(11,(.own Y45 false))],[],[2,3,10,12],[],[],[]⟩)])) .leaf .leaf)) .leaf)) .leaf)))) .leaf)))) .leaf)))))))
def F80V(a0:El Y31)(a1:El Y33):Option (El Y56):=Zau (mkE tyTab mapTab pkTab [45] [] F80M 110 bdTab) (Zah Tryz.f21) Tryz.f21.results F80H F80A F80R (fun y=>y.2.1) (a0,a1,())
theorem F80_eq(a0:El Y31)(a1:El Y33):F80V a0 a1=F80 a0 a1:=by kernel_rfl
theorem F80_ok:ZaT Tryz.prog 21 F80S:=Zad (m:=F80M) (fn:=Tryz.f21) (hint:=F80H) (pack:=fun y=>y.2.1) Za1 tab_ok ⟨⟨F101_ok,trivial⟩,⟨F83_ok,trivial⟩,⟨F99_ok,trivial⟩,⟨F92_ok,trivial⟩,⟨F89_ok,trivial⟩,trivial⟩ fun x z h=>(F80_eq x.1 x.2.1).trans h
def F31: (El Y31)->(El Y33)->Option (El Y4):=fun a0 a1=>
 Option.bind
 ((F59 a0).bind fun x0=>
 bif !x0 then some true
 else (F103 a0 a1).bind fun x1=>bif !decide (x1=(0:Int)) then some true else some (decide ((3:Int)<a1.2.2.2.2.1)))
 fun x2=>
 bif x2 then Option.bind F34 fun x3=>some x3
 else
 (F106 a0 a1).bind fun x4=>
 Option.bind (bif !decide (x4.2=(0:Int)) then some true else some !decide ((↑(List.length x4.1):Int)=(↑(List.length a0.1):Int))) fun x5=>
 bif x5 then some false
 else
 (F80 a0 a1).bind fun x6=>
 Option.bind
 (run
 (fun s7=>
 bif decide (s7< (↑(List.length x6):Int)) then
 Option.bind
 ((idx x4.1 a1.2.1).bind fun x8=>
 bif decide (x8< (0:Int)) then some true
 else
 (idx x4.1 a1.2.1).bind fun x9=>
 (idx x6 s7).bind fun x10=>(F32 a1 x10).bind fun x11=>some (decide (x11<x9)))
 fun x12=>bif x12 then some (.inr (.inr false)) else some (.inl (IntKind.wrap .i64 (s7+(1:Int))))
 else some (.inr (.inl ())))
 (0:Int))
 fun x13=>Sum.elim (fun _=>Option.bind F34 fun x15=>some x15) (fun y16=>some y16) x13
abbrev F31A:Zal:=(.cons (.pd Y31) (.cons (.pd Y33) .nil))
abbrev F31R:Zal:=(.cons (.pd Y4) .nil)
def F31S:Tr.Spec:= {args:=F31A,res:=F31R,fns:=[],α:=El Y4,f:=fun x=>F31 x.1 x.2.1,unp:=fun z=>(((),(),()),(z,())) }
def F31M:List (Nat×List Tr.Spec):=[(9,[F34S]),(10,[F106S]),(16,[F32S]),(19,[F59S]),(20,[F103S]),(21,[F80S])]
def F31H:ZaU:=(.seq .leaf (.seq (.seq (.reg [(22,Y4)]) .leaf) (.seq .leaf (.seq (.seq (.reg [(39,Y4)]) .leaf) (.seq .leaf (.seq (.seq .leaf (.lp ⟨[(8,(.pd Y3))],[],[3,5,7],[],[],[]⟩ [((.exit 0),⟨[],[],[],[],[],[]⟩),(.ret,⟨[(4,(.pd Y4))],[],[],[],[],[]⟩)] (.seq .leaf (.seq (.seq (.reg [(68,Y4)]) .leaf) .leaf)))) .leaf))))))
def F31V(a0:El Y31)(a1:El Y33):Option (El Y4):=Zau (mkE tyTab mapTab pkTab [] [] F31M 70 bdTab) (Zah Tryz.f5) Tryz.f5.results F31H F31A F31R (fun y=>y.2.1) (a0,a1,())
theorem F31_eq(a0:El Y31)(a1:El Y33):F31V a0 a1=F31 a0 a1:=by kernel_rfl
theorem F31_ok:ZaT Tryz.prog 5 F31S:=Zad (m:=F31M) (fn:=Tryz.f5) (hint:=F31H) (pack:=fun y=>y.2.1) Za1 tab_ok ⟨⟨F34_ok,trivial⟩,⟨F106_ok,trivial⟩,⟨F32_ok,trivial⟩,⟨F59_ok,trivial⟩,⟨F103_ok,trivial⟩,⟨F80_ok,trivial⟩,trivial⟩ fun x z h=>(F31_eq x.1 x.2.1).trans h
end
end Q
