/- The functions of the program as functions of Lean, and that the program computes them; printed by a program of mine. Conditions: none. -/
import Derived.Test.YtckebckjnfcniaaGreatFin42a
open Tr Go Go.Proofs
namespace Q
noncomputable section
def F117: (Tz0)->(El Zij)->Option (Tz0):=fun a0 a1=>
 (idx a0.1.2.2.1 a1.1).bind fun x0=>
 (inb a1.2.2.1 (List.length a0.2.2.2.1)).bind fun x1=>
 Option.bind a0.2.2.2.1[x1]? fun x2=>
 Option.bind
 ((idx x0.2.2.2.2.2.2.2.1 a1.2.1).bind fun x3=>
 bif x3.2.2.2.1 then bif !decide (x2.2.2.1=(-1:Int)) then some (decide (x2.2.2.1<=a1.2.2.2.2.1)) else some false
 else some false)
 fun x4=>
 Option.bind
 (bif x4 then
 Option.bind
 (F113 a0 a1.1
 (a1.2.1,x2.2.2.2.2.1,false,()))
 fun x5=>some x5
 else some a0)
 fun x6=>
 (inb a1.1 (List.length x6.2.2.2.2.1)).bind fun x7=>
 Option.bind x6.2.2.2.2.1[x7]? fun x8=>
 Option.bind (bif decide (x8.1=(-1:Int)) then some true else some (decide (a1.2.1<x8.1))) fun x9=>
 bif x9 then some x6
 else
 (idx x0.2.2.2.2.2.2.2.1 (IntKind.wrap .i64 (a1.2.1+(1:Int)))).bind fun x10=>
 Option.bind
 (bif !x10.2.2.2.2.1 then (idx x6.2.2.2.2.2.1 a1.1).bind fun x11=>some (decide ((↑(List.length x11):Int)=(0:Int)))
 else some false)
 fun x12=>
 bif x12 then some x6
 else
 (idx x0.2.2.2.2.2.2.2.1 x8.1).bind fun x13=>
 (idx x0.2.2.2.2.2.2.2.1 x8.1).bind fun x14=>
 Option.bind
 (F112 x6
 (true,a1.1,x8.1,IntKind.wrap .i64 (a1.2.1+(1:Int)),x13.1,a1.2.2.2.1,x14.2.2.1,a1.2.2.2.2.2.1,
 x8.2.2.1,())
 x8.2.1)
 fun x15=>
 Option.bind
 (bif x10.2.2.2.2.1 then
 (inb a1.2.2.2.1 (List.length x15.1.2.2.2.1)).bind fun x16=>
 (idx x15.1.1.1 a1.2.2.2.1).bind fun x17=>
 Option.bind
 (F115
 x15.1
 a1.2.2.2.1 a1.2.2.2.2.2.1 (IntKind.wrap .i64 (a1.2.2.2.2.2.1+x17.2.2.2.1)) x15.2)
 fun x18=>
 Option.bind
 (Option.bind x18.2.2.2.1[x16]? fun x19=>
 bif decide (x19.2.1=(-1:Int)) then some true
 else Option.bind x18.2.2.2.1[x16]? fun x20=>some (decide (a1.2.2.2.2.2.1<x20.2.1)))
 fun x21=>
 Option.bind
 (bif x21 then
 Option.bind x18.2.2.2.1[x16]? fun x22=>
 Option.bind
 (F118
 (x18.1,x18.2.1,x18.2.2.1,List.set x18.2.2.2.1 x16 (x22.1,a1.2.2.2.2.2.1,x22.2.2),
 x18.2.2.2.2.1,x18.2.2.2.2.2.1,x18.2.2.2.2.2.2.1,())
 a1.2.2.2.1 a1.2.2.2.2.2.1 x15.2)
 fun x23=>
 some
 x23
 else
 some
 x18)
 fun x24=>
 some
 x24
 else
 some
 x15.1)
 fun x25=>
 Option.bind
 (F114
 x25 a1.1
 (IntKind.wrap .i64 (a1.2.1+(1:Int))) x15.2 x10.2.2.2.2.1)
 fun x26=>
 some x26
abbrev F117A:Zal:=(.cons Pz1 (.cons (.pd Zij) .nil))
abbrev F117R:Zal:= .nil
def F117S:Tr.Spec:= {args:=F117A,res:=F117R,fns:=[],α:=Tz0,f:=fun x=>F117 x.1 x.2.1,unp:=fun z=>((z,(),()),()) }
def F117M:List (Nat×List Tr.Spec):=[(65,[F118S]),(66,[F115S]),(72,[F113S]),(73,[F112S]),(74,[F114S])]
def F117H:ZaU:=(.seq .leaf (.seq .leaf (.seq .leaf (.seq (.seq (.reg [(45,Y4)]) (.cnd (some (⟨[],[],[3,4],[],[],[]⟩,[(.normal,⟨[(0,Pz1)],[],[3,4],[],[],[]⟩)])) .leaf .leaf)) (.seq .leaf (.seq (.seq (.reg [(72,Y4)]) .leaf) (.seq .leaf (.seq (.seq (.reg [(93,Y4)]) .leaf) (.seq .leaf (.seq (.seq .leaf (.cnd (some (⟨[],[],[3,7,8],[],[],[]⟩,[(.normal,⟨[(0,Pz1)],[],[3,7,8],[],[],[]⟩)])) (.seq .leaf (.seq .leaf (.seq (.reg [(165,Y4)]) (.cnd (some (⟨[],[],[3,7,8],[],[],[]⟩,[(.normal,⟨[(0,Pz1)],[],[3,7,8],[],[],[]⟩)])) .leaf .leaf)))) .leaf)) .leaf))))))))))
def F117V(a0:Tz0)(a1:El Zij):Option (Tz0):=Zau (mkE tyTab mapTab pkTab [] [] F117M 187 bdTab) (Zah Tryz.f43) Tryz.f43.results F117H F117A F117R (fun y=>y.1.1) (a0,a1,())
theorem F117_eq(a0:Tz0)(a1:El Zij):F117V a0 a1=F117 a0 a1:=by kernel_rfl
theorem F117_ok:ZaT Tryz.prog 43 F117S:=Zad (m:=F117M) (fn:=Tryz.f43) (hint:=F117H) (pack:=fun y=>y.1.1) Za1 tab_ok ⟨⟨F118_ok,trivial⟩,⟨F115_ok,trivial⟩,⟨F113_ok,trivial⟩,⟨F112_ok,trivial⟩,⟨F114_ok,trivial⟩,trivial⟩ fun x z h=>(F117_eq x.1 x.2.1).trans h
def F110: (El Y31)->(El Y33)->Option (Tz0×El Y37):=fun a0 a1=>
 (F109 a0 a1).bind fun x0=>
 bif !decide (x0=(0:Int)) then none
 else
 (F12 a0 a1).bind fun x1=>
 (F119 x1.1 a1).bind fun x2=>
 (F6 x1.1).bind fun x3=>
 bif !decide (x3.2=(0:Int)) then none
 else
 Option.bind
 (run
 (fun s4=>
 bif decide (s4.2< (↑(List.length x3.1):Int)) then
 (idx x3.1 s4.2).bind fun x5=>
 (F7 x3.1 x5.2.2.2.2.1).bind fun x6=>
 Option.bind (sliceB (List.length x3.1) (List.length x3.1) (some s4.2) (some x6)) fun x7=>
 Option.bind
 (run
 (fun s8=>
 bif decide (s8.2< (↑(List.length (List.take (x7.2 - x7.1) (List.drop x7.1 x3.1))):Int)) then
 (idx (List.take (x7.2 - x7.1) (List.drop x7.1 x3.1)) s8.2).bind fun x9=>
 Option.bind
 (F117
 s8.1
 x9)
 fun x10=>
 some
 (.inl
 (x10,
 IntKind.wrap .i64 (s8.2+(1:Int))))
 else
 some
 (.inr
 s8.1))
 ((s4.1.1,s4.1.2.1,s4.1.2.2.1,s4.1.2.2.2.1,s4.1.2.2.2.2.1,s4.1.2.2.2.2.2.1,false,()),(0:Int)))
 fun x11=>
 bif x11.2.2.2.2.2.2.1 then
 some
 (.inl
 (x11,s4.2))
 else
 some
 (.inl
 (x11,x6))
 else
 some
 (.inr
 s4.1))
 (x2,(0:Int)))
 fun x12=>
 some (x12,(0:Int))
abbrev F110A:Zal:=(.cons (.pd Y31) (.cons (.pd Y33) .nil))
abbrev F110R:Zal:=(.cons Pz1 (.cons (.pd Y37) .nil))
def F110S:Tr.Spec:= {args:=F110A,res:=F110R,fns:=[],α:=Tz0×El Y37,f:=fun x=>F110 x.1 x.2.1,unp:=fun z=>(((),(),()),(z.1,z.2,())) }
def F110M:List (Nat×List Tr.Spec):=[(38,[F109S]),(39,[F12S]),(40,[F119S]),(41,[F6S]),(42,[F7S]),(43,[F117S])]
def F110H:ZaU:=(.seq .leaf (.seq .leaf (.seq .leaf (.seq .leaf (.seq .leaf (.seq .leaf (.seq .leaf (.seq (.seq .leaf (.lp ⟨[(9,Pz1),(12,(.pd Y3))],[],[10],[],[],[]⟩ [((.exit 0),⟨[(9,Pz1)],[],[],[],[],[]⟩)] (.seq .leaf (.seq .leaf (.seq .leaf (.seq (.seq .leaf (.lp ⟨[(9,Pz1),(58,(.pd Y3))],[],[10,12,13,56,57],[],[],[]⟩ [((.exit 2),⟨[(9,Pz1)],[],[10,12,13],[],[],[]⟩)] .leaf)) .leaf)))))) .leaf))))))))
def F110V(a0:El Y31)(a1:El Y33):Option (Tz0×El Y37):=Zau (mkE tyTab mapTab pkTab [] [] F110M 72 bdTab) (Zah Tryz.f24) Tryz.f24.results F110H F110A F110R (fun y=>(y.2.1,y.2.2.1)) (a0,a1,())
theorem F110_eq(a0:El Y31)(a1:El Y33):F110V a0 a1=F110 a0 a1:=by kernel_rfl
theorem F110_ok:ZaT Tryz.prog 24 F110S:=Zad (m:=F110M) (fn:=Tryz.f24) (hint:=F110H) (pack:=fun y=>(y.2.1,y.2.2.1)) Za1 tab_ok ⟨⟨F109_ok,trivial⟩,⟨F12_ok,trivial⟩,⟨F119_ok,trivial⟩,⟨F6_ok,trivial⟩,⟨F7_ok,trivial⟩,⟨F117_ok,trivial⟩,trivial⟩ fun x z h=>(F110_eq x.1 x.2.1).trans h
def F111: (El Y31)->(El Y33)->Option (Unit×El Y37):=fun a0 a1=>
 (F109 a0 a1).bind fun x0=>
 bif !decide (x0=(0:Int)) then some ((),x0)
 else
 (F12 a0 a1).bind fun x1=>
 (F119 x1.1 a1).bind fun x2=>
 (F6 x1.1).bind fun x3=>
 bif !decide (x3.2=(0:Int)) then some ((),x3.2)
 else
 Option.bind
 (run
 (fun s4=>
 bif decide (s4.2< (↑(List.length x3.1):Int)) then
 (idx x3.1 s4.2).bind fun x5=>
 (F7 x3.1 x5.2.2.2.2.1).bind fun x6=>
 Option.bind (sliceB (List.length x3.1) (List.length x3.1) (some s4.2) (some x6)) fun x7=>
 Option.bind
 (run
 (fun s8=>
 bif decide (s8.2< (↑(List.length (List.take (x7.2 - x7.1) (List.drop x7.1 x3.1))):Int)) then
 (idx (List.take (x7.2 - x7.1) (List.drop x7.1 x3.1)) s8.2).bind fun x9=>
 Option.bind
 (F117
 s8.1
 x9)
 fun x10=>
 some
 (.inl
 (x10,
 IntKind.wrap .i64 (s8.2+(1:Int))))
 else
 some
 (.inr
 s8.1))
 ((s4.1.1,s4.1.2.1,s4.1.2.2.1,s4.1.2.2.2.1,s4.1.2.2.2.2.1,s4.1.2.2.2.2.2.1,false,()),(0:Int)))
 fun x11=>
 bif x11.2.2.2.2.2.2.1 then
 some
 (.inl
 (x11,s4.2))
 else
 some
 (.inl
 (x11,x6))
 else
 some
 (.inr
 s4.1))
 (x2,(0:Int)))
 fun _=>none
abbrev F111A:Zal:=(.cons (.pd Y31) (.cons (.pd Y33) .nil))
abbrev F111R:Zal:=(.cons .nilr (.cons (.pd Y37) .nil))
def F111S:Tr.Spec:= {args:=F111A,res:=F111R,fns:=[],α:=Unit×El Y37,f:=fun x=>F111 x.1 x.2.1,unp:=fun z=>(((),(),()),(z.1,z.2,())) }
def F111M:List (Nat×List Tr.Spec):=[(38,[F109S]),(39,[F12S]),(40,[F119S]),(41,[F6S]),(42,[F7S]),(43,[F117S])]
def F111H:ZaU:=(.seq .leaf (.seq .leaf (.seq .leaf (.seq .leaf (.seq .leaf (.seq .leaf (.seq .leaf (.seq (.seq .leaf (.lp ⟨[(9,Pz1),(12,(.pd Y3))],[],[10],[],[],[]⟩ [((.exit 0),⟨[(9,Pz1)],[],[],[],[],[]⟩)] (.seq .leaf (.seq .leaf (.seq .leaf (.seq (.seq .leaf (.lp ⟨[(9,Pz1),(58,(.pd Y3))],[],[10,12,13,56,57],[],[],[]⟩ [((.exit 2),⟨[(9,Pz1)],[],[10,12,13],[],[],[]⟩)] .leaf)) .leaf)))))) .leaf))))))))
def F111V(a0:El Y31)(a1:El Y33):Option (Unit×El Y37):=Zau (mkE tyTab mapTab pkTab [] [] F111M 72 bdTab) (Zah Tryz.f24) Tryz.f24.results F111H F111A F111R (fun y=>(y.2.1,y.2.2.1)) (a0,a1,())
theorem F111_eq(a0:El Y31)(a1:El Y33):F111V a0 a1=F111 a0 a1:=by kernel_rfl
theorem F111_ok:ZaT Tryz.prog 24 F111S:=Zad (m:=F111M) (fn:=Tryz.f24) (hint:=F111H) (pack:=fun y=>(y.2.1,y.2.2.1)) Za1 tab_ok ⟨⟨F109_ok,trivial⟩,⟨F12_ok,trivial⟩,⟨F119_ok,trivial⟩,⟨F6_ok,trivial⟩,⟨F7_ok,trivial⟩,⟨F117_ok,trivial⟩,trivial⟩ fun x z h=>(F111_eq x.1 x.2.1).trans h
def F106: (El Y31)->(El Y33)->Option (El Y36×El Y37):=fun a0 a1=>
 bif Option.isSome (F110S.f (a0,a1,())) then
 (F110 a0 a1).bind fun x0=>
 bif !decide (x0.2=(0:Int)) then some ([],x0.2)
 else
 Option.bind
 (run
 (fun s1=>
 bif decide (s1.2.2< (↑(List.length x0.1.2.2.2.1):Int)) then
 (inb s1.2.2 (List.length s1.2.1)).bind fun x2=>
 Option.bind s1.2.1[x2]? fun x3=>
 Option.bind (Zaq (decide (List.length s1.1+List.length [x3.1]<=Zar))) fun _=>
 some (.inl (s1.1++[x3.1],s1.2.1,IntKind.wrap .i64 (s1.2.2+(1:Int))))
 else some (.inr s1.1))
 ([],x0.1.2.2.2.1,(0:Int)))
 fun x5=>some (x5,(0:Int))
 else (F111 a0 a1).bind fun x6=>bif !decide (x6.2=(0:Int)) then some ([],x6.2) else none
abbrev F106A:Zal:=(.cons (.pd Y31) (.cons (.pd Y33) .nil))
abbrev F106R:Zal:=(.cons (.pd Y36) (.cons (.pd Y37) .nil))
def F106S:Tr.Spec:= {args:=F106A,res:=F106R,fns:=[],α:=El Y36×El Y37,f:=fun x=>F106 x.1 x.2.1,unp:=fun z=>(((),(),()),(z.1,z.2,())) }
def F106M:List (Nat×List Tr.Spec):=[(24,[F110S,F111S])]
def F106H:ZaU:=(.seq .leaf (.seq .leaf (.seq .leaf (.seq .leaf (.seq (.seq .leaf (.lp ⟨[(8,(.own Y3 false)),(23,(.own Y73 false)),(25,(.pd Y3))],[],[24],[],[],[]⟩ [((.exit 0),⟨[(8,(.own Y3 false))],[],[],[],[],[]⟩)] .leaf)) .leaf)))))
def F106V(a0:El Y31)(a1:El Y33):Option (El Y36×El Y37):=Zau (mkE tyTab mapTab pkTab [] [] F106M 36 bdTab) (Zah Tryz.f10) Tryz.f10.results F106H F106A F106R (fun y=>(y.2.1,y.2.2.1)) (a0,a1,())
theorem F106_eq(a0:El Y31)(a1:El Y33):F106V a0 a1=F106 a0 a1:=by kernel_rfl
theorem F106_ok:ZaT Tryz.prog 10 F106S:=Zad (m:=F106M) (fn:=Tryz.f10) (hint:=F106H) (pack:=fun y=>(y.2.1,y.2.2.1)) Za1 tab_ok ⟨⟨F110_ok,F111_ok,trivial⟩,trivial⟩ fun x z h=>(F106_eq x.1 x.2.1).trans h
def F108: (El Y31)->(El Y33)->(El Y3)->Option (El Y36×El Y37):=fun a0 a1 a2=>
 (F106 a0 a1).bind fun x0=>
 Option.bind
 (run
 (fun s1=>
 bif decide (s1.2< (↑(List.length x0.1):Int)) then
 (idx x0.1 s1.2).bind fun x2=>
 Option.bind (bif !decide (x2=(-1:Int)) then some (decide (x2<=a2)) else some false) fun x3=>
 bif x3 then
 Option.bind (Zaq (decide (List.length s1.1+List.length [s1.2]<=Zar))) fun _=>
 some (.inl (s1.1++[s1.2],IntKind.wrap .i64 (s1.2+(1:Int))))
 else some (.inl (s1.1,IntKind.wrap .i64 (s1.2+(1:Int))))
 else some (.inr s1.1))
 ([],(0:Int)))
 fun x5=>some (x5,x0.2)
abbrev F108A:Zal:=(.cons (.pd Y31) (.cons (.pd Y33) (.cons (.pd Y3) .nil)))
abbrev F108R:Zal:=(.cons (.pd Y36) (.cons (.pd Y37) .nil))
def F108S:Tr.Spec:= {args:=F108A,res:=F108R,fns:=[],α:=El Y36×El Y37,f:=fun x=>F108 x.1 x.2.1 x.2.2.1,unp:=fun z=>(((),(),(),()),(z.1,z.2,())) }
def F108M:List (Nat×List Tr.Spec):=[(10,[F106S])]
def F108H:ZaU:=(.seq .leaf (.seq .leaf (.seq .leaf (.seq (.seq .leaf (.lp ⟨[(10,(.own Y3 false)),(21,(.pd Y3))],[],[2,9,19,20],[],[],[]⟩ [((.exit 0),⟨[(10,(.own Y3 false))],[],[9],[],[],[]⟩)] (.seq .leaf (.seq .leaf (.seq (.seq .leaf (.seq (.reg [(32,Y4)]) .leaf)) .leaf))))) .leaf))))
def F108V(a0:El Y31)(a1:El Y33)(a2:El Y3):Option (El Y36×El Y37):=Zau (mkE tyTab mapTab pkTab [] [] F108M 40 bdTab) (Zah Tryz.f12) Tryz.f12.results F108H F108A F108R (fun y=>(y.2.1,y.2.2.1)) (a0,a1,a2,())
theorem F108_eq(a0:El Y31)(a1:El Y33)(a2:El Y3):F108V a0 a1 a2=F108 a0 a1 a2:=by kernel_rfl
theorem F108_ok:ZaT Tryz.prog 12 F108S:=Zad (m:=F108M) (fn:=Tryz.f12) (hint:=F108H) (pack:=fun y=>(y.2.1,y.2.2.1)) Za1 tab_ok ⟨⟨F106_ok,trivial⟩,trivial⟩ fun x z h=>(F108_eq x.1 x.2.1 x.2.2.1).trans h
def F53: (El Y36)->(El Y36)->Option (El Y4):=fun a0 a1=>
 bif !decide ((↑(List.length a0):Int)=(↑(List.length a1):Int)) then some false
 else
 Option.bind
 (run
 (fun s0=>
 bif decide (s0< (↑(List.length a0):Int)) then
 (idx a0 s0).bind fun x1=>
 (idx a1 s0).bind fun x2=>
 bif !decide (x1=x2) then some (.inr (.inr false)) else some (.inl (IntKind.wrap .i64 (s0+(1:Int))))
 else some (.inr (.inl ())))
 (0:Int))
 fun x3=>Sum.elim (fun _=>some true) (fun y5=>some y5) x3
abbrev F53A:Zal:=(.cons (.pd Y36) (.cons (.pd Y36) .nil))
abbrev F53R:Zal:=(.cons (.pd Y4) .nil)
def F53S:Tr.Spec:= {args:=F53A,res:=F53R,fns:=[],α:=El Y4,f:=fun x=>F53 x.1 x.2.1,unp:=fun z=>(((),(),()),(z,())) }
def F53M:List (Nat×List Tr.Spec):=[]
def F53H:ZaU:=(.seq .leaf (.seq .leaf (.seq (.seq .leaf (.lp ⟨[(5,(.pd Y3))],[],[0,1],[],[],[]⟩ [((.exit 0),⟨[],[],[],[],[],[]⟩),(.ret,⟨[(4,(.pd Y4))],[],[],[],[],[]⟩)] .leaf)) .leaf)))
def F53V(a0:El Y36)(a1:El Y36):Option (El Y4):=Zau (mkE tyTab mapTab pkTab [] [] F53M 26 bdTab) (Zah Tryz.f14) Tryz.f14.results F53H F53A F53R (fun y=>y.2.1) (a0,a1,())
theorem F53_eq(a0:El Y36)(a1:El Y36):F53V a0 a1=F53 a0 a1:=by kernel_rfl
theorem F53_ok:ZaT Tryz.prog 14 F53S:=Zad (m:=F53M) (fn:=Tryz.f14) (hint:=F53H) (pack:=fun y=>y.2.1) Za1 tab_ok trivial fun x z h=>(F53_eq x.1 x.2.1).trans h
def F116: (Tz0)->(El Y3)->Option (Tz0×El Y45):=fun a0 a1=>
 Option.bind
 (run
 (fun s0=>
 bif !decide (s0.2.1=(-1:Int)) then
 (inb s0.2.1 (List.length s0.1.2.2.1)).bind fun x1=>
 Option.bind s0.1.2.2.1[x1]? fun x2=>
 Option.bind (Zaq (decide (List.length s0.2.2+List.length [x2.1]<=Zar))) fun _=>
 (inb s0.2.1 (List.length s0.1.2.2.1)).bind fun x4=>
 Option.bind s0.1.2.2.1[x4]? fun x5=>
 some
 (.inl
 (s0.1,
 x5.2.1,s0.2.2++[x2.1]))
 else
 some
 (.inr
 (s0.1,
 s0.2.2)))
 (a0,a1,[]))
 fun x6=>
 Option.bind
 (Zaq
 (decide
 ((0:El (Tr.Ty.int .i64))<=(↑(List.length x6.2):Int)/\
 (↑(List.length x6.2):Int)<=(↑(List.length x6.2):Int)/\(↑(List.length x6.2):Int)<=(↑Zar:El (Tr.Ty.int .i64)))))
 fun _=>
 Option.bind
 (run
 (fun s8=>
 bif decide (s8.2.2.2< (↑(List.length x6.2):Int)) then
 (inb s8.2.2.2 (List.length s8.2.1)).bind fun x9=>
 Option.bind s8.2.1[x9]? fun x10=>
 Option.bind (inb (IntKind.wrap .i64 (IntKind.wrap .i64 ((↑(List.length s8.2.1):Int) - (1:Int)) - s8.2.2.2)) (List.length s8.2.2.1))
 fun x11=>
 Option.bind s8.2.2.1[x11]? fun _=>
 some
 (.inl
 (s8.1,
 s8.2.1,List.set s8.2.2.1 x11 x10,IntKind.wrap .i64 (s8.2.2.2+(1:Int))))
 else
 some
 (.inr
 (s8.1,
 s8.2.2.1)))
 (x6.1,x6.2,
 List.take (Min.min (List.length x6.2) (List.length (List.replicate (Int.toNat (↑(List.length x6.2):Int)) ((false,(0:Int),(0:Int),(0:Int),(0:Int),(0:Int),(0:Int),(0:Int),false,()))))) x6.2++
 List.drop (Min.min (List.length x6.2) (List.length (List.replicate (Int.toNat (↑(List.length x6.2):Int)) ((false,(0:Int),(0:Int),(0:Int),(0:Int),(0:Int),(0:Int),(0:Int),false,())))))
 (List.replicate (Int.toNat (↑(List.length x6.2):Int)) ((false,(0:Int),(0:Int),(0:Int),(0:Int),(0:Int),(0:Int),(0:Int),false,()))),
 (0:Int)))
 fun x13=>
 Option.bind
 (bif decide ((1:Int)< (↑(List.length x13.2):Int)) then
 (inb (0:Int) (List.length x13.2)).bind fun x14=>Option.bind x13.2[x14]? fun x15=>some !x15.1
 else some false)
 fun x16=>
 bif x16 then
 (inb (0:Int) (List.length x13.2)).bind fun x17=>
 (inb (1:Int) (List.length x13.2)).bind fun x18=>
 Option.bind x13.2[x18]? fun x19=>
 Option.bind x13.2[x17]? fun x20=>
 Option.bind x13.2[x17]? fun x21=>
 (inb (1:Int) (List.length x13.2)).bind fun x22=>
 Option.bind x13.2[x22]? fun x23=>
 Option.bind x13.2[x17]? fun x24=>
 Option.bind
 (List.set x13.2 x17
 (x24.1,x24.2.1,x24.2.2.1,x24.2.2.2.1,x24.2.2.2.2.1,x24.2.2.2.2.2.1,
 IntKind.wrap .i64
 (x19.2.2.2.2.2.2.1 - IntKind.wrap .i64 (x20.2.2.2.2.2.2.2.1 - x21.2.2.2.2.2.2.1)),
 x24.2.2.2.2.2.2.2))[x17]?
 fun x25=>
 some
 (x13.1,
 List.set
 (List.set x13.2 x17
 (x24.1,x24.2.1,x24.2.2.1,x24.2.2.2.1,x24.2.2.2.2.1,x24.2.2.2.2.2.1,
 IntKind.wrap .i64
 (x19.2.2.2.2.2.2.1 - IntKind.wrap .i64 (x20.2.2.2.2.2.2.2.1 - x21.2.2.2.2.2.2.1)),
 x24.2.2.2.2.2.2.2))
 x17
 (x25.1,x25.2.1,x25.2.2.1,x25.2.2.2.1,x25.2.2.2.2.1,x25.2.2.2.2.2.1,x25.2.2.2.2.2.2.1,
 x23.2.2.2.2.2.2.1,x25.2.2.2.2.2.2.2.2),
 ())
 else
 some
 (x13.1,
 x13.2,())
abbrev F116A:Zal:=(.cons Pz1 (.cons (.pd Y3) .nil))
abbrev F116R:Zal:=(.cons (.pd Y45) .nil)
def F116S:Tr.Spec:= {args:=F116A,res:=F116R,fns:=[],α:=Tz0×El Y45,f:=fun x=>F116 x.1 x.2.1,unp:=fun z=>((z.1,(),()),(z.2,())) }
def F116M:List (Nat×List Tr.Spec):=[]
def F116H:ZaU:=(.seq .leaf (.seq .leaf (.seq (.lp ⟨[(0,Pz1),(1,(.pd Y3)),(5,(.own Y51 false))],[],[4],[],[],[]⟩ [((.exit 0),⟨[(0,Pz1),(5,(.own Y51 false))],[],[4],[],[],[]⟩)] .leaf) (.seq .leaf (.seq .leaf (.seq (.seq .leaf (.lp ⟨[(0,Pz1),(5,(.own Y51 false)),(6,(.own Y51 false)),(38,(.pd Y3))],[],[4,37],[],[],[]⟩ [((.exit 2),⟨[(0,Pz1),(6,(.own Y51 false))],[],[4],[],[],[]⟩)] .leaf)) (.seq (.seq (.reg [(62,Y4)]) .leaf) .leaf)))))))
def F116V(a0:Tz0)(a1:El Y3):Option (Tz0×El Y45):=Zau (mkE tyTab mapTab pkTab [] [] F116M 91 bdTab) (Zah Tryz.f28) Tryz.f28.results F116H F116A F116R (fun y=>(y.1.1,y.2.1)) (a0,a1,())
theorem F116_eq(a0:Tz0)(a1:El Y3):F116V a0 a1=F116 a0 a1:=by kernel_rfl
theorem F116_ok:ZaT Tryz.prog 28 F116S:=Zad (m:=F116M) (fn:=Tryz.f28) (hint:=F116H) (pack:=fun y=>(y.1.1,y.2.1)) Za1 tab_ok trivial fun x z h=>(F116_eq x.1 x.2.1).trans h
def F107: (El Y31)->(El Y33)->Option (El Y45×El Y37):=fun a0 a1=>
 bif Option.isSome (F110S.f (a0,a1,())) then
 (F110 a0 a1).bind fun x0=>
 bif !decide (x0.2=(0:Int)) then some ((([]:List (El Y51)),()),x0.2)
 else
 bif decide (a1.1=a1.2.1) then some ((([]:List (El Y51)),()),(0:Int))
 else
 (inb a1.2.1 (List.length x0.1.2.2.2.1)).bind fun x1=>
 Option.bind x0.1.2.2.2.1[x1]? fun x2=>
 bif decide (x2.1=(-1:Int)) then some ((([]:List (El Y51)),()),(23:Int))
 else
 Option.bind
 (F116
 x0.1
 x2.2.2.2.1)
 fun x3=>some (x3.2,(0:Int))
 else
 (F111 a0 a1).bind fun x4=>
 bif !decide (x4.2=(0:Int)) then some ((([]:List (El Y51)),()),x4.2)
 else bif decide (a1.1=a1.2.1) then some ((([]:List (El Y51)),()),(0:Int)) else none
abbrev F107A:Zal:=(.cons (.pd Y31) (.cons (.pd Y33) .nil))
abbrev F107R:Zal:=(.cons (.pd Y45) (.cons (.pd Y37) .nil))
def F107S:Tr.Spec:= {args:=F107A,res:=F107R,fns:=[],α:=El Y45×El Y37,f:=fun x=>F107 x.1 x.2.1,unp:=fun z=>(((),(),()),(z.1,z.2,())) }
def F107M:List (Nat×List Tr.Spec):=[(24,[F110S,F111S]),(28,[F116S])]
def F107H:ZaU:= .leaf
def F107V(a0:El Y31)(a1:El Y33):Option (El Y45×El Y37):=Zau (mkE tyTab mapTab pkTab [] [] F107M 41 bdTab) (Zah Tryz.f15) Tryz.f15.results F107H F107A F107R (fun y=>(y.2.1,y.2.2.1)) (a0,a1,())
theorem F107_eq(a0:El Y31)(a1:El Y33):F107V a0 a1=F107 a0 a1:=by kernel_rfl
theorem F107_ok:ZaT Tryz.prog 15 F107S:=Zad (m:=F107M) (fn:=Tryz.f15) (hint:=F107H) (pack:=fun y=>(y.2.1,y.2.2.1)) Za1 tab_ok ⟨⟨F110_ok,F111_ok,trivial⟩,⟨F116_ok,trivial⟩,trivial⟩ fun x z h=>(F107_eq x.1 x.2.1).trans h
def F33:Option (El Y31):=some
 ([([(97:UInt8)],(0:Int),false,(0:Int),()),([(98:UInt8)],(0:Int),false,(0:Int),()),([(99:UInt8)],(0:Int),false,(0:Int),())],
 [([(114:UInt8)],(0:Int),false,())],
 [((0:Int),(0:Int),(0:Int),[(120:UInt8)],(0:Int),false,false,
 [((0:Int),(90:Int),(100:Int),true,true,()),((1:Int),(160:Int),(160:Int),true,true,()),
 ((2:Int),(220:Int),(220:Int),true,true,())],
 ()),
 ((0:Int),(0:Int),(0:Int),[(121:UInt8)],(0:Int),false,false,
 [((1:Int),(100:Int),(100:Int),true,true,()),((0:Int),(150:Int),(150:Int),true,true,())],())],
 ([]:List (El Zvi)),([]:List (El Y59)),(([]:List (El Zo0)),(0:Int),(0:Int),(0:Int),()),())
abbrev F33A:Zal:= .nil
abbrev F33R:Zal:=(.cons (.pd Y31) .nil)
def F33S:Tr.Spec:= {args:=F33A,res:=F33R,fns:=[],α:=El Y31,f:=fun _=>F33,unp:=fun z=>((),(z,())) }
def F33M:List (Nat×List Tr.Spec):=[]
def F33H:ZaU:= .leaf
def F33V:Option (El Y31):=Zau (mkE tyTab mapTab pkTab [] [] F33M 20 bdTab) (Zah Tryz.f23) Tryz.f23.results F33H F33A F33R (fun y=>y.2.1) (())
theorem F33_eq:F33V=F33:=by kernel_rfl
theorem F33_ok:ZaT Tryz.prog 23 F33S:=Zad (m:=F33M) (fn:=Tryz.f23) (hint:=F33H) (pack:=fun y=>y.2.1) Za1 tab_ok trivial fun _ z h=>(F33_eq).trans h
def F34:Option (El Y4):=Option.bind F33 fun x0=>
 (F106 x0 ((1:Int),(0:Int),(100:Int),false,(0:Int),(0:Int),false,false,(0:Int),false,())).bind fun x1=>
 (F106 x0 ((1:Int),(0:Int),(101:Int),false,(0:Int),(0:Int),false,false,(0:Int),false,())).bind fun x2=>
 (F107 x0 ((1:Int),(2:Int),(100:Int),false,(0:Int),(0:Int),false,false,(0:Int),false,())).bind fun x3=>
 (F107 x0 ((2:Int),(1:Int),(100:Int),false,(0:Int),(0:Int),false,false,(0:Int),false,())).bind fun x4=>
 Option.bind (F108 x0 ((1:Int),(0:Int),(100:Int),false,(0:Int),(0:Int),false,false,(0:Int),false,()) (150:Int))
 fun x5=>
 bif decide (x1.2=(0:Int)) then
 (F53 x1.1 [(150:Int),(100:Int),(220:Int)]).bind fun x6=>
 bif x6 then
 bif decide (x2.2=(0:Int)) then
 (F53 x2.1 [(-1:Int),(101:Int),(220:Int)]).bind fun x7=>
 bif x7 then
 bif decide (x3.2=(0:Int)) then
 bif decide ((↑(List.length x3.1.1):Int)=(1:Int)) then
 (idx x3.1.1 (0:Int)).bind fun x8=>
 bif
 x8.1==true&&
 (decide (x8.2.1=(0:Int)) &&
 (decide (x8.2.2.1=(1:Int)) &&
 (decide (x8.2.2.2.1=(2:Int)) &&
 (decide (x8.2.2.2.2.1=(1:Int)) &&
 (decide (x8.2.2.2.2.2.1=(2:Int)) &&
 (decide (x8.2.2.2.2.2.2.1=(160:Int)) &&
 (decide (x8.2.2.2.2.2.2.2.1=(220:Int)) &&x8.2.2.2.2.2.2.2.2.1==false))))))) then
 bif decide (x4.2=(23:Int)) then
 bif decide (x5.2=(0:Int)) then (F53 x5.1 [(0:Int),(1:Int)]).bind fun x9=>some x9 else some false
 else some false
 else some false
 else some false
 else some false
 else some false
 else some false
 else some false
 else some false
abbrev F34A:Zal:= .nil
abbrev F34R:Zal:=(.cons (.pd Y4) .nil)
def F34S:Tr.Spec:= {args:=F34A,res:=F34R,fns:=[],α:=El Y4,f:=fun _=>F34,unp:=fun z=>((),(z,())) }
def F34M:List (Nat×List Tr.Spec):=[(10,[F106S]),(12,[F108S]),(14,[F53S]),(15,[F107S]),(23,[F33S])]
def F34H:ZaU:= .leaf
def F34V:Option (El Y4):=Zau (mkE tyTab mapTab pkTab [] [] F34M 90 bdTab) (Zah Tryz.f9) Tryz.f9.results F34H F34A F34R (fun y=>y.2.1) (())
theorem F34_eq:F34V=F34:=by kernel_rfl
theorem F34_ok:ZaT Tryz.prog 9 F34S:=Zad (m:=F34M) (fn:=Tryz.f9) (hint:=F34H) (pack:=fun y=>y.2.1) Za1 tab_ok ⟨⟨F106_ok,trivial⟩,⟨F108_ok,trivial⟩,⟨F53_ok,trivial⟩,⟨F107_ok,trivial⟩,⟨F33_ok,trivial⟩,trivial⟩ fun _ z h=>(F34_eq).trans h
def F61: (El Y9)->Option (El Y4):=fun a0=>
 Option.bind (bif decide ((↑(List.length a0):Int)< (1:Int)) then some true else some (decide ((32:Int)< (↑(List.length a0):Int)))) fun x0=>
 bif x0 then some false
 else
 Option.bind
 (run
 (fun s1=>
 bif decide (s1< (↑(List.length a0):Int)) then
 (idx a0 s1).bind fun x2=>
 Option.bind
 (bif decide ((97:Int)<=(↑(UInt8.toNat x2):Int)) then
 bif decide ((↑(UInt8.toNat x2):Int)<=(122:Int)) then some true
 else
 bif decide ((65:Int)<=(↑(UInt8.toNat x2):Int)) then
 bif decide ((↑(UInt8.toNat x2):Int)<=(90:Int)) then some true
 else bif decide ((48:Int)<=(↑(UInt8.toNat x2):Int)) then some (decide ((↑(UInt8.toNat x2):Int)<=(57:Int))) else some false
 else bif decide ((48:Int)<=(↑(UInt8.toNat x2):Int)) then some (decide ((↑(UInt8.toNat x2):Int)<=(57:Int))) else some false
 else
 bif decide ((65:Int)<=(↑(UInt8.toNat x2):Int)) then
 bif decide ((↑(UInt8.toNat x2):Int)<=(90:Int)) then some true
 else bif decide ((48:Int)<=(↑(UInt8.toNat x2):Int)) then some (decide ((↑(UInt8.toNat x2):Int)<=(57:Int))) else some false
 else bif decide ((48:Int)<=(↑(UInt8.toNat x2):Int)) then some (decide ((↑(UInt8.toNat x2):Int)<=(57:Int))) else some false)
 fun x3=>
 Option.bind
 (bif !x3 then
 bif !decide ((↑(UInt8.toNat x2):Int)=(45:Int)) then
 bif !decide ((↑(UInt8.toNat x2):Int)=(95:Int)) then some !decide ((↑(UInt8.toNat x2):Int)=(46:Int)) else some false
 else some false
 else some false)
 fun x4=>bif x4 then some (.inr (.inr false)) else some (.inl (IntKind.wrap .i64 (s1+(1:Int))))
 else some (.inr (.inl ())))
 (0:Int))
 fun x5=>Sum.elim (fun _=>some true) (fun y7=>some y7) x5
abbrev F61A:Zal:=(.cons (.pd Y9) .nil)
abbrev F61R:Zal:=(.cons (.pd Y4) .nil)
def F61S:Tr.Spec:= {args:=F61A,res:=F61R,fns:=[],α:=El Y4,f:=fun x=>F61 x.1,unp:=fun z=>(((),()),(z,())) }
def F61M:List (Nat×List Tr.Spec):=[]
def F61H:ZaU:=(.seq .leaf (.seq (.seq (.reg [(13,Y4)]) .leaf) (.seq (.seq .leaf (.lp ⟨[(3,(.pd Y3))],[],[0],[],[],[]⟩ [((.exit 0),⟨[],[],[],[],[],[]⟩),(.ret,⟨[(2,(.pd Y4))],[],[],[],[],[]⟩)] (.seq .leaf (.seq (.seq .leaf (.seq (.reg [(5,Y4)]) (.seq (.reg [(58,Y4)]) .leaf))) .leaf)))) .leaf)))
def F61V(a0:El Y9):Option (El Y4):=Zau (mkE tyTab mapTab pkTab [] [] F61M 59 bdTab) (Zah Tryz.f119) Tryz.f119.results F61H F61A F61R (fun y=>y.2.1) (a0,())
theorem F61_eq(a0:El Y9):F61V a0=F61 a0:=by kernel_rfl
theorem F61_ok:ZaT Tryz.prog 119 F61S:=Zad (m:=F61M) (fn:=Tryz.f119) (hint:=F61H) (pack:=fun y=>y.2.1) Za1 tab_ok trivial fun x z h=>(F61_eq x.1).trans h
def F62: (El Y3)->(El Y3)->(El Y3)->Option (El Y4):=fun a0 a1 a2=>Option.bind (bif decide (a1<=a0) then some (decide (a0<=a2)) else some false) fun x0=>some x0
abbrev F62A:Zal:=(.cons (.pd Y3) (.cons (.pd Y3) (.cons (.pd Y3) .nil)))
abbrev F62R:Zal:=(.cons (.pd Y4) .nil)
def F62S:Tr.Spec:= {args:=F62A,res:=F62R,fns:=[],α:=El Y4,f:=fun x=>F62 x.1 x.2.1 x.2.2.1,unp:=fun z=>(((),(),(),()),(z,())) }
def F62M:List (Nat×List Tr.Spec):=[]
def F62H:ZaU:=(.seq .leaf (.seq (.reg [(6,Y4)]) .leaf))
def F62V(a0:El Y3)(a1:El Y3)(a2:El Y3):Option (El Y4):=Zau (mkE tyTab mapTab pkTab [] [] F62M 15 bdTab) (Zah Tryz.f120) Tryz.f120.results F62H F62A F62R (fun y=>y.2.1) (a0,a1,a2,())
theorem F62_eq(a0:El Y3)(a1:El Y3)(a2:El Y3):F62V a0 a1 a2=F62 a0 a1 a2:=by kernel_rfl
theorem F62_ok:ZaT Tryz.prog 120 F62S:=Zad (m:=F62M) (fn:=Tryz.f120) (hint:=F62H) (pack:=fun y=>y.2.1) Za1 tab_ok trivial fun x z h=>(F62_eq x.1 x.2.1 x.2.2.1).trans h
def F68: (El Y22)->Option (El Y3×El Y37):=fun a0=>
 bif decide ((64:Int)< (↑(List.length a0):Int)) then some ((0:Int),(5:Int))
 else
 Option.bind
 (run
 (fun s0=>
 bif decide (s0< (↑(List.length a0):Int)) then
 (idx a0 s0).bind fun x1=>
 (F61 x1.1).bind fun x2=>
 bif !x2 then some (.inr (.inr (s0,(12:Int))))
 else
 Option.bind
 (run
 (fun s3=>
 bif decide (s3<s0) then
 (idx a0 s3).bind fun x4=>
 (idx a0 s0).bind fun x5=>
 bif decide (x4.1=x5.1) then some (.inr (.inr (s0,(6:Int)))) else some (.inl (IntKind.wrap .i64 (s3+(1:Int))))
 else some (.inr (.inl ())))
 (0:Int))
 fun x6=>
 Sum.elim
 (fun _=>
 Option.bind
 ((idx a0 s0).bind fun x8=>
 (F62 x8.2.1 (0:Int) (15:Int)).bind fun x9=>
 bif !x9 then some true
 else (idx a0 s0).bind fun x10=>(F62 x10.2.2.2.1 (0:Int) (3600:Int)).bind fun x11=>some !x11)
 fun x12=>bif x12 then some (.inr (.inr (s0,(2:Int)))) else some (.inl (IntKind.wrap .i64 (s0+(1:Int)))))
 (fun y13=>some (.inr (.inr (y13.1,y13.2)))) x6
 else some (.inr (.inl ())))
 (0:Int))
 fun x14=>Sum.elim (fun _=>some ((0:Int),(0:Int))) (fun y16=>some (y16.1,y16.2)) x14
abbrev F68A:Zal:=(.cons (.pd Y22) .nil)
abbrev F68R:Zal:=(.cons (.pd Y3) (.cons (.pd Y37) .nil))
def F68S:Tr.Spec:= {args:=F68A,res:=F68R,fns:=[],α:=El Y3×El Y37,f:=fun x=>F68 x.1,unp:=fun z=>(((),()),(z.1,z.2,())) }
def F68M:List (Nat×List Tr.Spec):=[(119,[F61S]),(120,[F62S])]
def F68H:ZaU:=(.seq .leaf (.seq .leaf (.seq (.seq .leaf (.lp ⟨[(4,(.pd Y3))],[],[0],[],[],[]⟩ [((.exit 0),⟨[],[],[],[],[],[]⟩),(.ret,⟨[(2,(.pd Y3)),(3,(.pd Y37))],[],[],[],[],[]⟩)] (.seq .leaf (.seq (.seq .leaf (.seq (.seq .leaf (.lp ⟨[(5,(.pd Y3))],[],[0,4],[],[],[]⟩ [((.exit 2),⟨[],[],[0,4],[],[],[]⟩),(.ret,⟨[(2,(.pd Y3)),(3,(.pd Y37))],[],[],[],[],[]⟩)] .leaf)) (.seq (.reg [(55,Y4)]) .leaf))) .leaf)))) .leaf)))
def F68V(a0:El Y22):Option (El Y3×El Y37):=Zau (mkE tyTab mapTab pkTab [] [] F68M 57 bdTab) (Zah Tryz.f86) Tryz.f86.results F68H F68A F68R (fun y=>(y.2.1,y.2.2.1)) (a0,())
theorem F68_eq(a0:El Y22):F68V a0=F68 a0:=by kernel_rfl
theorem F68_ok:ZaT Tryz.prog 86 F68S:=Zad (m:=F68M) (fn:=Tryz.f86) (hint:=F68H) (pack:=fun y=>(y.2.1,y.2.2.1)) Za1 tab_ok ⟨⟨F61_ok,trivial⟩,⟨F62_ok,trivial⟩,trivial⟩ fun x z h=>(F68_eq x.1).trans h
def F66: (El Y23)->Option (El Y3×El Y37):=fun a0=>
 bif decide ((64:Int)< (↑(List.length a0):Int)) then some ((0:Int),(5:Int))
 else
 Option.bind
 (run
 (fun s0=>
 bif decide (s0< (↑(List.length a0):Int)) then
 (idx a0 s0).bind fun x1=>
 (F61 x1.1).bind fun x2=>
 bif !x2 then some (.inr (.inr (s0,(12:Int))))
 else
 Option.bind
 (run
 (fun s3=>
 bif decide (s3<s0) then
 (idx a0 s3).bind fun x4=>
 (idx a0 s0).bind fun x5=>
 bif decide (x4.1=x5.1) then some (.inr (.inr (s0,(6:Int)))) else some (.inl (IntKind.wrap .i64 (s3+(1:Int))))
 else some (.inr (.inl ())))
 (0:Int))
 fun x6=>
 Sum.elim
 (fun _=>
 (idx a0 s0).bind fun x8=>
 (F62 x8.2.1 (0:Int) (7:Int)).bind fun x9=>
 bif !x9 then some (.inr (.inr (s0,(2:Int)))) else some (.inl (IntKind.wrap .i64 (s0+(1:Int)))))
 (fun y10=>some (.inr (.inr (y10.1,y10.2)))) x6
 else some (.inr (.inl ())))
 (0:Int))
 fun x11=>Sum.elim (fun _=>some ((0:Int),(0:Int))) (fun y13=>some (y13.1,y13.2)) x11
abbrev F66A:Zal:=(.cons (.pd Y23) .nil)
abbrev F66R:Zal:=(.cons (.pd Y3) (.cons (.pd Y37) .nil))
def F66S:Tr.Spec:= {args:=F66A,res:=F66R,fns:=[],α:=El Y3×El Y37,f:=fun x=>F66 x.1,unp:=fun z=>(((),()),(z.1,z.2,())) }
def F66M:List (Nat×List Tr.Spec):=[(119,[F61S]),(120,[F62S])]
def F66H:ZaU:=(.seq .leaf (.seq .leaf (.seq (.seq .leaf (.lp ⟨[(4,(.pd Y3))],[],[0],[],[],[]⟩ [((.exit 0),⟨[],[],[],[],[],[]⟩),(.ret,⟨[(2,(.pd Y3)),(3,(.pd Y37))],[],[],[],[],[]⟩)] (.seq .leaf (.seq (.seq .leaf (.seq (.seq .leaf (.lp ⟨[(5,(.pd Y3))],[],[0,4],[],[],[]⟩ [((.exit 2),⟨[],[],[0,4],[],[],[]⟩),(.ret,⟨[(2,(.pd Y3)),(3,(.pd Y37))],[],[],[],[],[]⟩)] .leaf)) .leaf)) .leaf)))) .leaf)))
def F66V(a0:El Y23):Option (El Y3×El Y37):=Zau (mkE tyTab mapTab pkTab [] [] F66M 48 bdTab) (Zah Tryz.f87) Tryz.f87.results F66H F66A F66R (fun y=>(y.2.1,y.2.2.1)) (a0,())
theorem F66_eq(a0:El Y23):F66V a0=F66 a0:=by kernel_rfl
theorem F66_ok:ZaT Tryz.prog 87 F66S:=Zad (m:=F66M) (fn:=Tryz.f87) (hint:=F66H) (pack:=fun y=>(y.2.1,y.2.2.1)) Za1 tab_ok ⟨⟨F61_ok,trivial⟩,⟨F62_ok,trivial⟩,trivial⟩ fun x z h=>(F66_eq x.1).trans h
def F54: (El Y82)->(El Y3)->(El Y3)->(El Y3)->Option (El Y37):=fun a0 a1 a2 a3=>
 Option.bind (bif decide ((↑(List.length a0):Int)< (2:Int)) then some true else some (decide ((32:Int)< (↑(List.length a0):Int)))) fun x0=>
 bif x0 then some (5:Int)
 else
 Option.bind
 (run
 (fun s1=>
 bif decide (s1< (↑(List.length a0):Int)) then
 (idx a0 s1).bind fun x2=>
 Option.bind (bif decide (x2.1< (0:Int)) then some true else some (decide (a1<=x2.1))) fun x3=>
 bif x3 then some (.inr (.inr (9:Int)))
 else
 Option.bind
 (bif decide ((0:Int)<s1) then (idx a0 (IntKind.wrap .i64 (s1 - (1:Int)))).bind fun x4=>some (decide (x4.1=x2.1))
 else some false)
 fun x5=>
 bif x5 then some (.inr (.inr (13:Int)))
 else
 Option.bind
 (bif decide (x2.2.1<a2) then some true
 else
 bif decide (x2.2.2.1<x2.2.1) then some true
 else
 bif decide (a3<x2.2.2.1) then some true
 else
 bif decide ((0:Int)<s1) then
 (idx a0 (IntKind.wrap .i64 (s1 - (1:Int)))).bind fun x6=>some (decide (x2.2.1<x6.2.2.1))
 else some false)
 fun x7=>bif x7 then some (.inr (.inr (10:Int))) else some (.inl (IntKind.wrap .i64 (s1+(1:Int))))
 else some (.inr (.inl ())))
 (0:Int))
 fun x8=>Sum.elim (fun _=>some (0:Int)) (fun y10=>some y10) x8
abbrev F54A:Zal:=(.cons (.pd Y82) (.cons (.pd Y3) (.cons (.pd Y3) (.cons (.pd Y3) .nil))))
abbrev F54R:Zal:=(.cons (.pd Y37) .nil)
def F54S:Tr.Spec:= {args:=F54A,res:=F54R,fns:=[],α:=El Y37,f:=fun x=>F54 x.1 x.2.1 x.2.2.1 x.2.2.2.1,unp:=fun z=>(((),(),(),(),()),(z,())) }
def F54M:List (Nat×List Tr.Spec):=[]
def F54H:ZaU:=(.seq .leaf (.seq (.seq (.reg [(18,Y4)]) .leaf) (.seq (.seq .leaf (.lp ⟨[(9,(.pd Y3))],[],[0,1,2,3],[],[],[]⟩ [((.exit 0),⟨[],[],[],[],[],[]⟩),(.ret,⟨[(8,(.pd Y37))],[],[],[],[],[]⟩)] (.seq .leaf (.seq (.seq .leaf (.seq (.seq (.reg [(37,Y4)]) .leaf) (.seq (.seq (.reg [(50,Y4)]) .leaf) (.seq (.reg [(82,Y4)]) .leaf)))) .leaf)))) .leaf)))
def F54V(a0:El Y82)(a1:El Y3)(a2:El Y3)(a3:El Y3):Option (El Y37):=Zau (mkE tyTab mapTab pkTab [] [] F54M 83 bdTab) (Zah Tryz.f121) Tryz.f121.results F54H F54A F54R (fun y=>y.2.1) (a0,a1,a2,a3,())
theorem F54_eq(a0:El Y82)(a1:El Y3)(a2:El Y3)(a3:El Y3):F54V a0 a1 a2 a3=F54 a0 a1 a2 a3:=by kernel_rfl
theorem F54_ok:ZaT Tryz.prog 121 F54S:=Zad (m:=F54M) (fn:=Tryz.f121) (hint:=F54H) (pack:=fun y=>y.2.1) Za1 tab_ok trivial fun x z h=>(F54_eq x.1 x.2.1 x.2.2.1 x.2.2.2.1).trans h
def F67: (El Y31)->(El Y3)->Option (El Y37):=fun a0 a1=>
 (idx a0.2.2.1 a1).bind fun x0=>
 (F61 x0.2.2.2.1).bind fun x1=>
 bif !x1 then some (12:Int)
 else
 Option.bind (bif decide (x0.1< (-1:Int)) then some true else some (decide (x0.2.2.1< (0:Int)))) fun x2=>
 bif x2 then some (2:Int)
 else
 (F62 x0.2.1 (0:Int) (36524:Int)).bind fun x3=>
 bif !x3 then some (11:Int)
 else
 Option.bind
 (bif decide (x0.2.2.2.2.1< (0:Int)) then some true
 else some (decide ((↑(List.length a0.2.1):Int)<=x0.2.2.2.2.1)))
 fun x4=>
 bif x4 then some (9:Int)
 else
 (F54 x0.2.2.2.2.2.2.2.1 (↑(List.length a0.1):Int) (0:Int) (3155932800:Int)).bind fun x5=>
 bif !decide (x5=(0:Int)) then some x5
 else
 Option.bind
 (run
 (fun s6=>
 bif decide (s6<a1) then
 (idx a0.2.2.1 s6).bind fun x7=>
 Option.bind
 (bif decide (x7.2.2.2.1=x0.2.2.2.1) then
 bif decide (x7.2.1=x0.2.1) then some (decide (x7.2.2.1=x0.2.2.1)) else some false
 else some false)
 fun x8=>bif x8 then some (.inr (.inr (6:Int))) else some (.inl (IntKind.wrap .i64 (s6+(1:Int))))
 else some (.inr (.inl ())))
 (0:Int))
 fun x9=>Sum.elim (fun _=>some (0:Int)) (fun y11=>some y11) x9
abbrev F67A:Zal:=(.cons (.pd Y31) (.cons (.pd Y3) .nil))
abbrev F67R:Zal:=(.cons (.pd Y37) .nil)
def F67S:Tr.Spec:= {args:=F67A,res:=F67R,fns:=[],α:=El Y37,f:=fun x=>F67 x.1 x.2.1,unp:=fun z=>(((),(),()),(z,())) }
def F67M:List (Nat×List Tr.Spec):=[(119,[F61S]),(120,[F62S]),(121,[F54S])]
def F67H:ZaU:=(.seq .leaf (.seq .leaf (.seq .leaf (.seq (.seq (.reg [(25,Y4)]) .leaf) (.seq .leaf (.seq (.seq (.reg [(40,Y4)]) .leaf) (.seq .leaf (.seq .leaf (.seq (.seq .leaf (.lp ⟨[(7,(.pd Y3))],[],[1,2,5],[],[],[]⟩ [((.exit 0),⟨[],[],[],[],[],[]⟩),(.ret,⟨[(4,(.pd Y37))],[],[],[],[],[]⟩)] (.seq .leaf (.seq (.seq .leaf (.seq (.reg [(78,Y4)]) .leaf)) .leaf)))) .leaf)))))))))
def F67V(a0:El Y31)(a1:El Y3):Option (El Y37):=Zau (mkE tyTab mapTab pkTab [] [] F67M 79 bdTab) (Zah Tryz.f88) Tryz.f88.results F67H F67A F67R (fun y=>y.2.1) (a0,a1,())
theorem F67_eq(a0:El Y31)(a1:El Y3):F67V a0 a1=F67 a0 a1:=by kernel_rfl
theorem F67_ok:ZaT Tryz.prog 88 F67S:=Zad (m:=F67M) (fn:=Tryz.f88) (hint:=F67H) (pack:=fun y=>y.2.1) Za1 tab_ok ⟨⟨F61_ok,trivial⟩,⟨F62_ok,trivial⟩,⟨F54_ok,trivial⟩,trivial⟩ fun x z h=>(F67_eq x.1 x.2.1).trans h
def F63: (El Y31)->(El Y3)->(El Y3)->(El Y3)->Option (El Y4):=fun a0 a1 a2 a3=>
 Option.bind
 (run
 (fun s0=>
 bif decide (s0.2<=a1) then
 Option.bind
 (run
 (fun s1=>
 bif decide (s1.2<a1) then
 Option.bind
 ((idx a0.2.2.2.1 s1.2).bind fun x2=>
 bif x2.2.2.2.2.1 then (idx a0.2.2.2.1 s1.2).bind fun x3=>some (decide (x3.1=s0.1)) else some false)
 fun x4=>
 bif x4 then (idx a0.2.2.2.1 s1.2).bind fun x5=>some (.inl (x5.2.2.1,IntKind.wrap .i64 (s1.2+(1:Int))))
 else some (.inl (s1.1,IntKind.wrap .i64 (s1.2+(1:Int))))
 else some (.inr s1.1))
 ((-1:Int),(0:Int)))
 fun x6=>bif decide (x6=a3) then some (.inr (.inr true)) else some (.inl (x6,IntKind.wrap .i64 (s0.2+(1:Int))))
 else some (.inr (.inl ())))
 (a2,(0:Int)))
 fun x7=>Sum.elim (fun _=>some false) (fun y9=>some y9) x7
abbrev F63A:Zal:=(.cons (.pd Y31) (.cons (.pd Y3) (.cons (.pd Y3) (.cons (.pd Y3) .nil))))
abbrev F63R:Zal:=(.cons (.pd Y4) .nil)
def F63S:Tr.Spec:= {args:=F63A,res:=F63R,fns:=[],α:=El Y4,f:=fun x=>F63 x.1 x.2.1 x.2.2.1 x.2.2.2.1,unp:=fun z=>(((),(),(),(),()),(z,())) }
def F63M:List (Nat×List Tr.Spec):=[]
def F63H:ZaU:=(.seq .leaf (.seq (.seq .leaf (.lp ⟨[(2,(.pd Y3)),(9,(.pd Y3))],[],[1,3,4],[],[],[]⟩ [((.exit 0),⟨[],[],[],[],[],[]⟩),(.ret,⟨[(8,(.pd Y4))],[],[],[],[],[]⟩)] (.seq .leaf (.seq (.seq .leaf (.seq (.seq .leaf (.lp ⟨[(10,(.pd Y3)),(11,(.pd Y3))],[],[1,2,3,4,9],[],[],[]⟩ [((.exit 2),⟨[(10,(.pd Y3))],[],[1,3,4,9],[],[],[]⟩)] (.seq .leaf (.seq (.seq (.reg [(37,Y4)]) .leaf) .leaf)))) .leaf)) .leaf)))) .leaf))
def F63V(a0:El Y31)(a1:El Y3)(a2:El Y3)(a3:El Y3):Option (El Y4):=Zau (mkE tyTab mapTab pkTab [] [] F63M 48 bdTab) (Zah Tryz.f122) Tryz.f122.results F63H F63A F63R (fun y=>y.2.1) (a0,a1,a2,a3,())
theorem F63_eq(a0:El Y31)(a1:El Y3)(a2:El Y3)(a3:El Y3):F63V a0 a1 a2 a3=F63 a0 a1 a2 a3:=by kernel_rfl
theorem F63_ok:ZaT Tryz.prog 122 F63S:=Zad (m:=F63M) (fn:=Tryz.f122) (hint:=F63H) (pack:=fun y=>y.2.1) Za1 tab_ok trivial fun x z h=>(F63_eq x.1 x.2.1 x.2.2.1 x.2.2.2.1).trans h
def F64: (El Y31)->(El Y3)->Option (El Y37):=fun a0 a1=>
 (idx a0.2.2.2.1 a1).bind fun x0=>
 Option.bind
 ((F62 x0.1 (0:Int) (IntKind.wrap .i64 ((↑(List.length a0.2.2.1):Int) - (1:Int)))).bind fun x1=>
 bif !x1 then some true
 else
 (F62 x0.2.2.1 (0:Int) (IntKind.wrap .i64 ((↑(List.length a0.2.2.1):Int) - (1:Int)))).bind fun x2=>
 bif !x2 then some true else some (decide (x0.1=x0.2.2.1)))
 fun x3=>
 bif x3 then some (9:Int)
 else
 (idx a0.2.2.1 x0.1).bind fun x4=>
 (idx a0.2.2.1 x0.2.2.1).bind fun x5=>
 Option.bind
 ((F62 x0.2.1 (0:Int) (IntKind.wrap .i64 ((↑(List.length x4.2.2.2.2.2.2.2.1):Int) - (1:Int)))).bind fun x6=>
 bif !x6 then some true
 else
 (F62 x0.2.2.2.1 (0:Int) (IntKind.wrap .i64 ((↑(List.length x5.2.2.2.2.2.2.2.1):Int) - (1:Int)))).bind fun x7=>
 some !x7)
 fun x8=>
 bif x8 then some (9:Int)
 else
 (idx x4.2.2.2.2.2.2.2.1 x0.2.1).bind fun x9=>
 (idx x5.2.2.2.2.2.2.2.1 x0.2.2.2.1).bind fun x10=>
 bif !decide (x9.1=x10.1) then some (13:Int)
 else
 Option.bind
 (bif x0.2.2.2.2.1 then
 bif !decide (x0.2.1=IntKind.wrap .i64 ((↑(List.length x4.2.2.2.2.2.2.2.1):Int) - (1:Int))) then some true
 else some !decide (x0.2.2.2.1=(0:Int))
 else some false)
 fun x11=>
 bif x11 then some (19:Int)
 else
 Option.bind
 (run
 (fun s12=>
 bif decide (s12<a1) then
 (idx a0.2.2.2.1 s12).bind fun x13=>
 Option.bind
 (bif x0.2.2.2.2.1 then
 bif x13.2.2.2.2.1 then
 bif decide (x13.1=x0.1) then some true else some (decide (x13.2.2.1=x0.2.2.1))
 else some false
 else some false)
 fun x14=>bif x14 then some (.inr (.inr (19:Int))) else some (.inl (IntKind.wrap .i64 (s12+(1:Int))))
 else some (.inr (.inl ())))
 (0:Int))
 fun x15=>
 Sum.elim
 (fun _=>
 Option.bind (bif x0.2.2.2.2.1 then (F63 a0 a1 x0.2.2.1 x0.1).bind fun x17=>some x17 else some false) fun x18=>
 bif x18 then some (19:Int)
 else
 Option.bind
 (run
 (fun s19=>
 bif decide (s19<a1) then
 (idx a0.2.2.2.1 s19).bind fun x20=>
 Option.bind
 (bif decide (x20.1=x0.1) then
 bif decide (x20.2.1=x0.2.1) then
 bif decide (x20.2.2.1=x0.2.2.1) then some (decide (x20.2.2.2.1=x0.2.2.2.1))
 else some false
 else some false
 else some false)
 fun x21=>bif x21 then some (.inr (.inr (6:Int))) else some (.inl (IntKind.wrap .i64 (s19+(1:Int))))
 else some (.inr (.inl ())))
 (0:Int))
 fun x22=>Sum.elim (fun _=>some (0:Int)) (fun y24=>some y24) x22)
 (fun y25=>some y25) x15
abbrev F64A:Zal:=(.cons (.pd Y31) (.cons (.pd Y3) .nil))
abbrev F64R:Zal:=(.cons (.pd Y37) .nil)
def F64S:Tr.Spec:= {args:=F64A,res:=F64R,fns:=[],α:=El Y37,f:=fun x=>F64 x.1 x.2.1,unp:=fun z=>(((),(),()),(z,())) }
def F64M:List (Nat×List Tr.Spec):=[(120,[F62S]),(122,[F63S])]
def F64H:ZaU:=(.seq .leaf (.seq .leaf (.seq (.seq (.reg [(41,Y4)]) .leaf) (.seq .leaf (.seq (.seq (.reg [(71,Y4)]) .leaf) (.seq .leaf (.seq (.seq (.reg [(99,Y4)]) .leaf) (.seq (.seq .leaf (.lp ⟨[(8,(.pd Y3))],[],[1,2,5],[],[],[]⟩ [((.exit 0),⟨[],[],[1,2,5],[],[],[]⟩),(.ret,⟨[(4,(.pd Y37))],[],[],[],[],[]⟩)] (.seq .leaf (.seq (.seq .leaf (.seq (.reg [(129,Y4)]) .leaf)) .leaf)))) (.seq (.seq (.reg [(140,Y4)]) .leaf) (.seq (.seq .leaf (.lp ⟨[(10,(.pd Y3))],[],[1,2,5],[],[],[]⟩ [((.exit 2),⟨[],[],[],[],[],[]⟩),(.ret,⟨[(4,(.pd Y37))],[],[],[],[],[]⟩)] (.seq .leaf (.seq (.seq .leaf (.seq (.reg [(176,Y4)]) .leaf)) .leaf)))) .leaf))))))))))
def F64V(a0:El Y31)(a1:El Y3):Option (El Y37):=Zau (mkE tyTab mapTab pkTab [] [] F64M 177 bdTab) (Zah Tryz.f89) Tryz.f89.results F64H F64A F64R (fun y=>y.2.1) (a0,a1,())
theorem F64_eq(a0:El Y31)(a1:El Y3):F64V a0 a1=F64 a0 a1:=by kernel_rfl
theorem F64_ok:ZaT Tryz.prog 89 F64S:=Zad (m:=F64M) (fn:=Tryz.f89) (hint:=F64H) (pack:=fun y=>y.2.1) Za1 tab_ok ⟨⟨F62_ok,trivial⟩,⟨F63_ok,trivial⟩,trivial⟩ fun x z h=>(F64_eq x.1 x.2.1).trans h
def F58: (El Y26)->(El Y3)->(El Y4)->Option (El Y69):=fun a0 a1 a2=>
 Option.bind
 (run
 (fun s0=>
 bif decide (s0.2<a1) then
 Option.bind
 (run
 (fun s1=>
 bif decide (s1.2.2<a1) then
 Option.bind (Zaq (decide (List.length s1.2.1+List.length [(1099511627776:Int)]<=Zar))) fun _=>
 some (.inl (s1.1,s1.2.1++[(1099511627776:Int)],IntKind.wrap .i64 (s1.2.2+(1:Int))))
 else some (.inr (s1.1,s1.2.1)))
 (s0.1,[],(0:Int)))
 fun x3=>
 Option.bind (Zaq (decide (List.length x3.1+List.length [x3.2]<=Zar))) fun _=>
 some (.inl (x3.1++[x3.2],IntKind.wrap .i64 (s0.2+(1:Int))))
 else some (.inr s0.1))
 ([],(0:Int)))
 fun x5=>
 Option.bind
 (run
 (fun s6=>
 bif decide (s6.2< (↑(List.length a0):Int)) then
 (idx a0 s6.2).bind fun x7=>
 Option.bind (bif x7.2.2.2.1 then some true else some !a2) fun x8=>
 bif x8 then
 (inb x7.1 (List.length s6.1)).bind fun x9=>
 Option.bind s6.1[x9]? fun _=>
 (inb x7.1 (List.length s6.1)).bind fun x11=>
 Option.bind s6.1[x11]? fun _=>
 (idx s6.1 (↑x11:Int)).bind fun x13=>
 (inb x7.2.1 (List.length x13)).bind fun x14=>
 (idx s6.1 (↑x11:Int)).bind fun x15=>
 Option.bind x15[x14]? fun x16=>
 (idx s6.1 (↑x9:Int)).bind fun x17=>
 (inb x7.2.1 (List.length x17)).bind fun x18=>
 (idx s6.1 (↑x9:Int)).bind fun x19=>
 Option.bind x19[x18]? fun _=>
 some
 (.inl (List.set s6.1 (Int.toNat (↑x9:Int)) (List.set x19 x18 (Tr.imin x16 x7.2.2.1)),IntKind.wrap .i64 (s6.2+(1:Int))))
 else some (.inl (s6.1,IntKind.wrap .i64 (s6.2+(1:Int))))
 else some (.inr s6.1))
 (x5,(0:Int)))
 fun x21=>
 Option.bind
 (run
 (fun s22=>
 bif decide (s22.2<a1) then
 Option.bind
 (run
 (fun s23=>
 bif decide (s23.2<a1) then
 Option.bind
 (run
 (fun s24=>
 bif decide (s24.2<a1) then
 (inb s23.2 (List.length s24.1)).bind fun x25=>
 Option.bind s24.1[x25]? fun _=>
 (inb s23.2 (List.length s24.1)).bind fun x27=>
 Option.bind s24.1[x27]? fun _=>
 (idx s24.1 (↑x27:Int)).bind fun x29=>
 (inb s24.2 (List.length x29)).bind fun x30=>
 (idx s24.1 (↑x27:Int)).bind fun x31=>
 Option.bind x31[x30]? fun x32=>
 (inb s23.2 (List.length s24.1)).bind fun x33=>
 Option.bind s24.1[x33]? fun _=>
 (idx s24.1 (↑x33:Int)).bind fun x35=>
 (inb s22.2 (List.length x35)).bind fun x36=>
 (idx s24.1 (↑x33:Int)).bind fun x37=>
 Option.bind x37[x36]? fun x38=>
 (inb s22.2 (List.length s24.1)).bind fun x39=>
 Option.bind s24.1[x39]? fun _=>
 (idx s24.1 (↑x39:Int)).bind fun x41=>
 (inb s24.2 (List.length x41)).bind fun x42=>
 (idx s24.1 (↑x39:Int)).bind fun x43=>
 Option.bind x43[x42]? fun x44=>
 (idx s24.1 (↑x25:Int)).bind fun x45=>
 (inb s24.2 (List.length x45)).bind fun x46=>
 (idx s24.1 (↑x25:Int)).bind fun x47=>
 Option.bind x47[x46]? fun _=>
 some
 (.inl
 (List.set s24.1 (Int.toNat (↑x25:Int))
 (List.set x47 x46 (Tr.imin x32 (IntKind.wrap .i64 (x38+x44)))),
 IntKind.wrap .i64 (s24.2+(1:Int))))
 else some (.inr s24.1))
 (s23.1,(0:Int)))
 fun x49=>some (.inl (x49,IntKind.wrap .i64 (s23.2+(1:Int))))
 else some (.inr s23.1))
 (s22.1,(0:Int)))
 fun x50=>some (.inl (x50,IntKind.wrap .i64 (s22.2+(1:Int))))
 else some (.inr s22.1))
 (x21,(0:Int)))
 fun x51=>some x51
abbrev F58A:Zal:=(.cons (.pd Y26) (.cons (.pd Y3) (.cons (.pd Y4) .nil)))
abbrev F58R:Zal:=(.cons (.pd Y69) .nil)
def F58S:Tr.Spec:= {args:=F58A,res:=F58R,fns:=[],α:=El Y69,f:=fun x=>F58 x.1 x.2.1 x.2.2.1,unp:=fun z=>(((),(),(),()),(z,())) }
def F58M:List (Nat×List Tr.Spec):=[]
def F58H:ZaU:=(.seq .leaf (.seq .leaf (.seq (.seq .leaf (.lp ⟨[(7,(.rows Y3 false)),(8,(.pd Y3))],[],[0,1,2],[],[],[]⟩ [((.exit 0),⟨[(7,(.rows Y3 false))],[],[0,1,2],[],[],[]⟩)] (.seq .leaf (.seq (.seq .leaf (.seq (.seq .leaf (.lp ⟨[(7,(.rows Y3 false)),(9,(.own Y3 false)),(10,(.pd Y3))],[],[0,1,2,8],[],[],[]⟩ [((.exit 2),⟨[(7,(.rows Y3 false)),(9,(.own Y3 false))],[],[0,1,2,8],[],[],[]⟩)] .leaf)) .leaf)) .leaf)))) (.seq (.seq .leaf (.lp ⟨[(7,(.rows Y3 false)),(11,(.pd Y3))],[],[0,1,2],[],[],[]⟩ [((.exit 4),⟨[(7,(.rows Y3 false))],[],[1],[],[],[]⟩)] (.seq .leaf (.seq (.seq .leaf (.seq (.reg [(50,Y4)]) .leaf)) .leaf)))) (.seq (.seq .leaf (.lp ⟨[(7,(.rows Y3 false)),(13,(.pd Y3))],[],[1],[],[],[]⟩ [((.exit 6),⟨[(7,(.rows Y3 false))],[],[],[],[],[]⟩)] (.seq .leaf (.seq (.seq .leaf (.lp ⟨[(7,(.rows Y3 false)),(14,(.pd Y3))],[],[1,13],[],[],[]⟩ [((.exit 8),⟨[(7,(.rows Y3 false))],[],[1,13],[],[],[]⟩)] (.seq .leaf (.seq (.seq .leaf (.lp ⟨[(7,(.rows Y3 false)),(15,(.pd Y3))],[],[1,13,14],[],[],[]⟩ [((.exit 10),⟨[(7,(.rows Y3 false))],[],[1,13,14],[],[],[]⟩)] .leaf)) .leaf)))) .leaf)))) .leaf)))))
def F58V(a0:El Y26)(a1:El Y3)(a2:El Y4):Option (El Y69):=Zau (mkE tyTab mapTab pkTab [69] [] F58M 116 bdTab) (Zah Tryz.f143) Tryz.f143.results F58H F58A F58R (fun y=>y.2.1) (a0,a1,a2,())
theorem F58_eq(a0:El Y26)(a1:El Y3)(a2:El Y4):F58V a0 a1 a2=F58 a0 a1 a2:=by kernel_rfl
theorem F58_ok:ZaT Tryz.prog 143 F58S:=Zad (m:=F58M) (fn:=Tryz.f143) (hint:=F58H) (pack:=fun y=>y.2.1) Za1 tab_ok trivial fun x z h=>(F58_eq x.1 x.2.1 x.2.2.1).trans h
def F56: (El Y26)->(El Y3)->Option (El Y26):=fun a0 a1=>
 (F58 a0 a1 false).bind fun x0=>
 (F58 a0 a1 true).bind fun x1=>
 Option.bind
 (run
 (fun s2=>
 bif decide (s2.2<a1) then
 Option.bind
 (run
 (fun s3=>
 bif decide (s3.2<a1) then
 Option.bind
 (bif decide (s2.2=s3.2) then some true
 else (idx x0 s2.2).bind fun x4=>(idx x4 s3.2).bind fun x5=>some (decide ((14400:Int)<x5)))
 fun x6=>
 bif x6 then some (.inl (s3.1,IntKind.wrap .i64 (s3.2+(1:Int))))
 else
 (idx x0 s2.2).bind fun x7=>
 (idx x7 s3.2).bind fun x8=>
 (idx x1 s2.2).bind fun x9=>
 (idx x9 s3.2).bind fun x10=>
 (idx x0 s2.2).bind fun x11=>
 (idx x11 s3.2).bind fun x12=>
 Option.bind (Zaq (decide (List.length s3.1+List.length [(s2.2,s3.2,x8,decide (x10=x12),())]<=Zar))) fun _=>
 Option.bind
 ((idx x1 s2.2).bind fun x14=>
 (idx x14 s3.2).bind fun x15=>
 (idx x0 s2.2).bind fun x16=>
 (idx x16 s3.2).bind fun x17=>
 bif decide (x17<x15) then
 (idx x1 s2.2).bind fun x18=>(idx x18 s3.2).bind fun x19=>some (decide (x19<=(14400:Int)))
 else some false)
 fun x20=>
 bif x20 then
 (idx x1 s2.2).bind fun x21=>
 (idx x21 s3.2).bind fun x22=>
 Option.bind
 (Zaq
 (decide
 (List.length (s3.1++[(s2.2,s3.2,x8,decide (x10=x12),())])+List.length [(s2.2,s3.2,x22,true,())]<=
 Zar)))
 fun _=>
 some
 (.inl
 (s3.1++[(s2.2,s3.2,x8,decide (x10=x12),())]++[(s2.2,s3.2,x22,true,())],
 IntKind.wrap .i64 (s3.2+(1:Int))))
 else some (.inl (s3.1++[(s2.2,s3.2,x8,decide (x10=x12),())],IntKind.wrap .i64 (s3.2+(1:Int))))
 else some (.inr s3.1))
 (s2.1,(0:Int)))
 fun x24=>some (.inl (x24,IntKind.wrap .i64 (s2.2+(1:Int))))
 else some (.inr s2.1))
 ([],(0:Int)))
 fun x25=>some x25
abbrev F56A:Zal:=(.cons (.pd Y26) (.cons (.pd Y3) .nil))
abbrev F56R:Zal:=(.cons (.pd Y26) .nil)
def F56S:Tr.Spec:= {args:=F56A,res:=F56R,fns:=[],α:=El Y26,f:=fun x=>F56 x.1 x.2.1,unp:=fun z=>(((),(),()),(z,())) }
def F56M:List (Nat×List Tr.Spec):=[(143,[F58S])]
def F56H:ZaU:=(.seq .leaf (.seq .leaf (.seq .leaf (.seq (.seq .leaf (.lp ⟨[(7,(.own Y59 false)),(8,(.pd Y3))],[],[1,5,6],[],[],[]⟩ [((.exit 0),⟨[(7,(.own Y59 false))],[],[],[],[],[]⟩)] (.seq .leaf (.seq (.seq .leaf (.lp ⟨[(7,(.own Y59 false)),(9,(.pd Y3))],[],[1,5,6,8],[],[],[]⟩ [((.exit 2),⟨[(7,(.own Y59 false))],[],[1,5,6,8],[],[],[]⟩)] (.seq .leaf (.seq (.seq (.seq (.reg [(39,Y4)]) .leaf) (.seq .leaf (.seq (.reg [(92,Y4)]) .leaf))) .leaf)))) .leaf)))) .leaf))))
def F56V(a0:El Y26)(a1:El Y3):Option (El Y26):=Zau (mkE tyTab mapTab pkTab [] [] F56M 107 bdTab) (Zah Tryz.f123) Tryz.f123.results F56H F56A F56R (fun y=>y.2.1) (a0,a1,())
theorem F56_eq(a0:El Y26)(a1:El Y3):F56V a0 a1=F56 a0 a1:=by kernel_rfl
theorem F56_ok:ZaT Tryz.prog 123 F56S:=Zad (m:=F56M) (fn:=Tryz.f123) (hint:=F56H) (pack:=fun y=>y.2.1) Za1 tab_ok ⟨⟨F58_ok,trivial⟩,trivial⟩ fun x z h=>(F56_eq x.1 x.2.1).trans h
def F65: (El Y31)->Option (El Y3×El Y37):=fun a0=>
 Option.bind
 (run
 (fun s0=>
 bif decide (s0< (↑(List.length a0.2.2.2.2.1):Int)) then
 (idx a0.2.2.2.2.1 s0).bind fun x1=>
 Option.bind
 ((F62 x1.1 (0:Int) (IntKind.wrap .i64 ((↑(List.length a0.1):Int) - (1:Int)))).bind fun x2=>
 bif !x2 then some true
 else
 (F62 x1.2.1 (0:Int) (IntKind.wrap .i64 ((↑(List.length a0.1):Int) - (1:Int)))).bind fun x3=>
 bif !x3 then some true else some (decide (x1.1=x1.2.1)))
 fun x4=>
 bif x4 then some (.inr (.inr (s0,(9:Int))))
 else
 (F62 x1.2.2.1 (1:Int) (14400:Int)).bind fun x5=>
 bif !x5 then some (.inr (.inr (s0,(2:Int))))
 else
 Option.bind
 (run
 (fun s6=>
 bif decide (s6<s0) then
 (idx a0.2.2.2.2.1 s6).bind fun x7=>
 Option.bind
 (bif decide (x7.1=x1.1) then
 bif decide (x7.2.1=x1.2.1) then some (x7.2.2.2.1==x1.2.2.2.1) else some false
 else some false)
 fun x8=>bif x8 then some (.inr (.inr (s0,(6:Int)))) else some (.inl (IntKind.wrap .i64 (s6+(1:Int))))
 else some (.inr (.inl ())))
 (0:Int))
 fun x9=>Sum.elim (fun _=>some (.inl (IntKind.wrap .i64 (s0+(1:Int))))) (fun y11=>some (.inr (.inr (y11.1,y11.2)))) x9
 else some (.inr (.inl ())))
 (0:Int))
 fun x12=>
 Sum.elim
 (fun _=>
 (F56 a0.2.2.2.2.1 (↑(List.length a0.1):Int)).bind fun x14=>
 bif !decide ((↑(List.length x14):Int)=(↑(List.length a0.2.2.2.2.1):Int)) then some ((0:Int),(18:Int))
 else
 Option.bind
 (run
 (fun s15=>
 bif decide (s15< (↑(List.length x14):Int)) then
 (idx x14 s15).bind fun x16=>
 (idx a0.2.2.2.2.1 s15).bind fun x17=>
 bif
 !(decide (x16.1=x17.1) &&
 (decide (x16.2.1=x17.2.1) && (decide (x16.2.2.1=x17.2.2.1) &&x16.2.2.2.1==x17.2.2.2.1))) then
 some (.inr (.inr ((0:Int),(18:Int))))
 else some (.inl (IntKind.wrap .i64 (s15+(1:Int))))
 else some (.inr (.inl ())))
 (0:Int))
 fun x18=>Sum.elim (fun _=>some ((0:Int),(0:Int))) (fun y20=>some (y20.1,y20.2)) x18)
 (fun y21=>some (y21.1,y21.2)) x12
abbrev F65A:Zal:=(.cons (.pd Y31) .nil)
abbrev F65R:Zal:=(.cons (.pd Y3) (.cons (.pd Y37) .nil))
def F65S:Tr.Spec:= {args:=F65A,res:=F65R,fns:=[],α:=El Y3×El Y37,f:=fun x=>F65 x.1,unp:=fun z=>(((),()),(z.1,z.2,())) }
def F65M:List (Nat×List Tr.Spec):=[(120,[F62S]),(123,[F56S])]
def F65H:ZaU:=(.seq .leaf (.seq (.seq .leaf (.lp ⟨[(4,(.pd Y3))],[],[1],[],[],[]⟩ [((.exit 0),⟨[],[],[1],[],[],[]⟩),(.ret,⟨[(2,(.pd Y3)),(3,(.pd Y37))],[],[],[],[],[]⟩)] (.seq .leaf (.seq (.seq .leaf (.seq (.seq (.reg [(46,Y4)]) .leaf) (.seq .leaf (.seq .leaf (.lp ⟨[(6,(.pd Y3))],[],[1,4,5],[],[],[]⟩ [((.exit 2),⟨[],[],[1,4],[],[],[]⟩),(.ret,⟨[(2,(.pd Y3)),(3,(.pd Y37))],[],[],[],[],[]⟩)] (.seq .leaf (.seq (.seq .leaf (.seq (.reg [(81,Y4)]) .leaf)) .leaf))))))) .leaf)))) (.seq .leaf (.seq .leaf (.seq (.seq .leaf (.lp ⟨[(9,(.pd Y3))],[],[1,8],[],[],[]⟩ [((.exit 4),⟨[],[],[],[],[],[]⟩),(.ret,⟨[(2,(.pd Y3)),(3,(.pd Y37))],[],[],[],[],[]⟩)] .leaf)) .leaf)))))
def F65V(a0:El Y31):Option (El Y3×El Y37):=Zau (mkE tyTab mapTab pkTab [] [] F65M 111 bdTab) (Zah Tryz.f90) Tryz.f90.results F65H F65A F65R (fun y=>(y.2.1,y.2.2.1)) (a0,())
theorem F65_eq(a0:El Y31):F65V a0=F65 a0:=by kernel_rfl
theorem F65_ok:ZaT Tryz.prog 90 F65S:=Zad (m:=F65M) (fn:=Tryz.f90) (hint:=F65H) (pack:=fun y=>(y.2.1,y.2.2.1)) Za1 tab_ok ⟨⟨F62_ok,trivial⟩,⟨F56_ok,trivial⟩,trivial⟩ fun x z h=>(F65_eq x.1).trans h
def F57: (El Y29)->Option (El Y3×El Y37):=fun a0=>
 Option.bind
 ((F62 a0.2.1 (0:Int) (1000000:Int)).bind fun x0=>
 bif !x0 then some true
 else
 (F62 a0.2.2.1 (0:Int) (86400:Int)).bind fun x1=>
 bif !x1 then some true else (F62 a0.2.2.2.1 (0:Int) (1000000:Int)).bind fun x2=>some !x2)
 fun x3=>
 bif x3 then some ((-1:Int),(2:Int))
 else
 bif decide ((16:Int)< (↑(List.length a0.1):Int)) then some ((0:Int),(5:Int))
 else
 Option.bind
 (run
 (fun s4=>
 bif decide (s4< (↑(List.length a0.1):Int)) then
 (idx a0.1 s4).bind fun x5=>
 (F61 x5.1).bind fun x6=>
 bif !x6 then some (.inr (.inr (s4,(12:Int))))
 else
 Option.bind
 (run
 (fun s7=>
 bif decide (s7<s4) then
 (idx a0.1 s7).bind fun x8=>
 bif decide (x8.1=x5.1) then some (.inr (.inr (s4,(6:Int)))) else some (.inl (IntKind.wrap .i64 (s7+(1:Int))))
 else some (.inr (.inl ())))
 (0:Int))
 fun x9=>
 Sum.elim
 (fun _=>
 Option.bind
 ((F62 x5.2.1 (0:Int) (1000000:Int)).bind fun x11=>
 bif !x11 then some true
 else
 (F62 x5.2.2.1 (1:Int) (8:Int)).bind fun x12=>
 bif !x12 then some true
 else
 (F62 x5.2.2.2.1 (1:Int) (16:Int)).bind fun x13=>
 bif !x13 then some true
 else
 (F62 x5.2.2.2.2.1 (0:Int) (86400:Int)).bind fun x14=>
 bif !x14 then some true else (F62 x5.2.2.2.2.2.1 (1:Int) (255:Int)).bind fun x15=>some !x15)
 fun x16=>bif x16 then some (.inr (.inr (s4,(2:Int)))) else some (.inl (IntKind.wrap .i64 (s4+(1:Int)))))
 (fun y17=>some (.inr (.inr (y17.1,y17.2)))) x9
 else some (.inr (.inl ())))
 (0:Int))
 fun x18=>Sum.elim (fun _=>some ((0:Int),(0:Int))) (fun y20=>some (y20.1,y20.2)) x18
abbrev F57A:Zal:=(.cons (.pd Y29) .nil)
abbrev F57R:Zal:=(.cons (.pd Y3) (.cons (.pd Y37) .nil))
def F57S:Tr.Spec:= {args:=F57A,res:=F57R,fns:=[],α:=El Y3×El Y37,f:=fun x=>F57 x.1,unp:=fun z=>(((),()),(z.1,z.2,())) }
def F57M:List (Nat×List Tr.Spec):=[(119,[F61S]),(120,[F62S])]
def F57H:ZaU:=(.seq .leaf (.seq (.seq (.reg [(22,Y4)]) .leaf) (.seq .leaf (.seq (.seq .leaf (.lp ⟨[(4,(.pd Y3))],[],[1],[],[],[]⟩ [((.exit 0),⟨[],[],[],[],[],[]⟩),(.ret,⟨[(2,(.pd Y3)),(3,(.pd Y37))],[],[],[],[],[]⟩)] (.seq .leaf (.seq (.seq .leaf (.seq .leaf (.seq (.seq .leaf (.lp ⟨[(6,(.pd Y3))],[],[1,4,5],[],[],[]⟩ [((.exit 2),⟨[],[],[1,4,5],[],[],[]⟩),(.ret,⟨[(2,(.pd Y3)),(3,(.pd Y37))],[],[],[],[],[]⟩)] .leaf)) (.seq (.reg [(86,Y4)]) .leaf)))) .leaf)))) .leaf))))
def F57V(a0:El Y29):Option (El Y3×El Y37):=Zau (mkE tyTab mapTab pkTab [] [] F57M 88 bdTab) (Zah Tryz.f91) Tryz.f91.results F57H F57A F57R (fun y=>(y.2.1,y.2.2.1)) (a0,())
theorem F57_eq(a0:El Y29):F57V a0=F57 a0:=by kernel_rfl
theorem F57_ok:ZaT Tryz.prog 91 F57S:=Zad (m:=F57M) (fn:=Tryz.f91) (hint:=F57H) (pack:=fun y=>(y.2.1,y.2.2.1)) Za1 tab_ok ⟨⟨F61_ok,trivial⟩,⟨F62_ok,trivial⟩,trivial⟩ fun x z h=>(F57_eq x.1).trans h
def F55: (El Y31)->Option (El Y3×El Y3×El Y37):=fun a0=>
 (F68 a0.1).bind fun x0=>
 bif !decide (x0.2=(0:Int)) then some ((0:Int),x0.1,x0.2)
 else
 (F66 a0.2.1).bind fun x1=>
 bif !decide (x1.2=(0:Int)) then some ((1:Int),x1.1,x1.2)
 else
 bif decide ((1024:Int)< (↑(List.length a0.2.2.1):Int)) then some ((2:Int),(0:Int),(5:Int))
 else
 Option.bind
 (run
 (fun s2=>
 bif decide (s2< (↑(List.length a0.2.2.1):Int)) then
 (F67 a0 s2).bind fun x3=>
 bif !decide (x3=(0:Int)) then some (.inr (.inr ((2:Int),s2,x3))) else some (.inl (IntKind.wrap .i64 (s2+(1:Int))))
 else some (.inr (.inl ())))
 (0:Int))
 fun x4=>
 Sum.elim
 (fun _=>
 bif decide ((1024:Int)< (↑(List.length a0.2.2.2.1):Int)) then some ((3:Int),(0:Int),(5:Int))
 else
 Option.bind
 (run
 (fun s6=>
 bif decide (s6< (↑(List.length a0.2.2.2.1):Int)) then
 (F64 a0 s6).bind fun x7=>
 bif !decide (x7=(0:Int)) then some (.inr (.inr ((3:Int),s6,x7)))
 else some (.inl (IntKind.wrap .i64 (s6+(1:Int))))
 else some (.inr (.inl ())))
 (0:Int))
 fun x8=>
 Sum.elim
 (fun _=>
 (F65 a0).bind fun x10=>
 bif !decide (x10.2=(0:Int)) then some ((4:Int),x10.1,x10.2)
 else
 (F57 a0.2.2.2.2.2.1).bind fun x11=>
 bif !decide (x11.2=(0:Int)) then some ((5:Int),x11.1,x11.2) else some ((0:Int),(0:Int),(0:Int)))
 (fun y12=>some (y12.1,y12.2.1,y12.2.2)) x8)
 (fun y13=>some (y13.1,y13.2.1,y13.2.2)) x4
abbrev F55A:Zal:=(.cons (.pd Y31) .nil)
abbrev F55R:Zal:=(.cons (.pd Y3) (.cons (.pd Y3) (.cons (.pd Y37) .nil)))
def F55S:Tr.Spec:= {args:=F55A,res:=F55R,fns:=[],α:=El Y3×El Y3×El Y37,f:=fun x=>F55 x.1,unp:=fun z=>(((),()),(z.1,z.2.1,z.2.2,())) }
def F55M:List (Nat×List Tr.Spec):=[(86,[F68S]),(87,[F66S]),(88,[F67S]),(89,[F64S]),(90,[F65S]),(91,[F57S])]
def F55H:ZaU:=(.seq .leaf (.seq .leaf (.seq .leaf (.seq .leaf (.seq .leaf (.seq .leaf (.seq (.seq .leaf (.lp ⟨[(7,(.pd Y3))],[],[1],[],[],[]⟩ [((.exit 0),⟨[],[],[1],[],[],[]⟩),(.ret,⟨[(2,(.pd Y3)),(3,(.pd Y3)),(4,(.pd Y37))],[],[],[],[],[]⟩)] .leaf)) (.seq .leaf (.seq (.seq .leaf (.lp ⟨[(8,(.pd Y3))],[],[1],[],[],[]⟩ [((.exit 2),⟨[],[],[1],[],[],[]⟩),(.ret,⟨[(2,(.pd Y3)),(3,(.pd Y3)),(4,(.pd Y37))],[],[],[],[],[]⟩)] .leaf)) .leaf)))))))))
def F55V(a0:El Y31):Option (El Y3×El Y3×El Y37):=Zau (mkE tyTab mapTab pkTab [] [] F55M 84 bdTab) (Zah Tryz.f56) Tryz.f56.results F55H F55A F55R (fun y=>(y.2.1,y.2.2.1,y.2.2.2.1)) (a0,())
theorem F55_eq(a0:El Y31):F55V a0=F55 a0:=by kernel_rfl
theorem F55_ok:ZaT Tryz.prog 56 F55S:=Zad (m:=F55M) (fn:=Tryz.f56) (hint:=F55H) (pack:=fun y=>(y.2.1,y.2.2.1,y.2.2.2.1)) Za1 tab_ok ⟨⟨F68_ok,trivial⟩,⟨F66_ok,trivial⟩,⟨F67_ok,trivial⟩,⟨F64_ok,trivial⟩,⟨F65_ok,trivial⟩,⟨F57_ok,trivial⟩,trivial⟩ fun x z h=>(F55_eq x.1).trans h
def F60: (El Y31)->Option (El Y4):=fun a0=>(F55 a0).bind fun x0=>some (decide (x0.2.2=(0:Int)))
abbrev F60A:Zal:=(.cons (.pd Y31) .nil)
abbrev F60R:Zal:=(.cons (.pd Y4) .nil)
def F60S:Tr.Spec:= {args:=F60A,res:=F60R,fns:=[],α:=El Y4,f:=fun x=>F60 x.1,unp:=fun z=>(((),()),(z,())) }
def F60M:List (Nat×List Tr.Spec):=[(56,[F55S])]
def F60H:ZaU:= .leaf
def F60V(a0:El Y31):Option (El Y4):=Zau (mkE tyTab mapTab pkTab [] [] F60M 14 bdTab) (Zah Tryz.f32) Tryz.f32.results F60H F60A F60R (fun y=>y.2.1) (a0,())
theorem F60_eq(a0:El Y31):F60V a0=F60 a0:=by kernel_rfl
theorem F60_ok:ZaT Tryz.prog 32 F60S:=Zad (m:=F60M) (fn:=Tryz.f32) (hint:=F60H) (pack:=fun y=>y.2.1) Za1 tab_ok ⟨⟨F55_ok,trivial⟩,trivial⟩ fun x z h=>(F60_eq x.1).trans h
def F93: (El Y3)->(El Y3)->(El Y3)->Option (El Y4):=fun a0 a1 a2=>Option.bind (bif decide (a1<=a0) then some (decide (a0<=a2)) else some false) fun x0=>some x0
abbrev F93A:Zal:=(.cons (.pd Y3) (.cons (.pd Y3) (.cons (.pd Y3) .nil)))
abbrev F93R:Zal:=(.cons (.pd Y4) .nil)
def F93S:Tr.Spec:= {args:=F93A,res:=F93R,fns:=[],α:=El Y4,f:=fun x=>F93 x.1 x.2.1 x.2.2.1,unp:=fun z=>(((),(),(),()),(z,())) }
def F93M:List (Nat×List Tr.Spec):=[]
def F93H:ZaU:=(.seq .leaf (.seq (.reg [(6,Y4)]) .leaf))
def F93V(a0:El Y3)(a1:El Y3)(a2:El Y3):Option (El Y4):=Zau (mkE tyTab mapTab pkTab [45] [] F93M 15 bdTab) (Zah Tryz.f78) Tryz.f78.results F93H F93A F93R (fun y=>y.2.1) (a0,a1,a2,())
theorem F93_eq(a0:El Y3)(a1:El Y3)(a2:El Y3):F93V a0 a1 a2=F93 a0 a1 a2:=by kernel_rfl
theorem F93_ok:ZaT Tryz.prog 78 F93S:=Zad (m:=F93M) (fn:=Tryz.f78) (hint:=F93H) (pack:=fun y=>y.2.1) Za1 tab_ok trivial fun x z h=>(F93_eq x.1 x.2.1 x.2.2.1).trans h
def F85: (El Y3)->(El Y33)->Option (El Y4):=fun a0 a1=>
 Option.bind
 ((F93 a1.1 (0:Int) (IntKind.wrap .i64 (a0 - (1:Int)))).bind fun x0=>
 bif x0 then
 (F93 a1.2.1 (0:Int) (IntKind.wrap .i64 (a0 - (1:Int)))).bind fun x1=>
 bif x1 then
 (F93 a1.2.2.1 (0:Int) (3155932800:Int)).bind fun x2=>
 bif x2 then
 (F93 a1.2.2.2.2.1 (0:Int) (8:Int)).bind fun x3=>
 bif x3 then
 (F93 a1.2.2.2.2.2.1 (0:Int) (86400:Int)).bind fun x4=>
 bif x4 then
 (F93 a1.2.2.2.2.2.2.2.2.1 (0:Int) (255:Int)).bind fun x5=>
 bif x5 then bif a1.2.2.2.2.2.2.2.2.2.1 then some !a1.2.2.2.1 else some !false else some false
 else some false
 else some false
 else some false
 else some false
 else some false)
 fun x6=>some x6
abbrev F85A:Zal:=(.cons (.pd Y3) (.cons (.pd Y33) .nil))
abbrev F85R:Zal:=(.cons (.pd Y4) .nil)
def F85S:Tr.Spec:= {args:=F85A,res:=F85R,fns:=[],α:=El Y4,f:=fun x=>F85 x.1 x.2.1,unp:=fun z=>(((),(),()),(z,())) }
def F85M:List (Nat×List Tr.Spec):=[(78,[F93S])]
def F85H:ZaU:=(.seq .leaf (.seq (.reg [(4,Y4)]) .leaf))
def F85V(a0:El Y3)(a1:El Y33):Option (El Y4):=Zau (mkE tyTab mapTab pkTab [45] [] F85M 46 bdTab) (Zah Tryz.f53) Tryz.f53.results F85H F85A F85R (fun y=>y.2.1) (a0,a1,())
theorem F85_eq(a0:El Y3)(a1:El Y33):F85V a0 a1=F85 a0 a1:=by kernel_rfl
theorem F85_ok:ZaT Tryz.prog 53 F85S:=Zad (m:=F85M) (fn:=Tryz.f53) (hint:=F85H) (pack:=fun y=>y.2.1) Za1 tab_ok ⟨⟨F93_ok,trivial⟩,trivial⟩ fun x z h=>(F85_eq x.1 x.2.1).trans h
def F82: (El Y31)->(El Y33)->Option (El Y37):=fun a0 a1=>
 (F60 a0).bind fun x0=>
 bif !x0 then some (21:Int) else (F85 (↑(List.length a0.1):Int) a1).bind fun x1=>bif !x1 then some (22:Int) else some (0:Int)
abbrev F82A:Zal:=(.cons (.pd Y31) (.cons (.pd Y33) .nil))
abbrev F82R:Zal:=(.cons (.pd Y37) .nil)
def F82S:Tr.Spec:= {args:=F82A,res:=F82R,fns:=[],α:=El Y37,f:=fun x=>F82 x.1 x.2.1,unp:=fun z=>(((),(),()),(z,())) }
def F82M:List (Nat×List Tr.Spec):=[(32,[F60S]),(53,[F85S])]
def F82H:ZaU:= .leaf
def F82V(a0:El Y31)(a1:El Y33):Option (El Y37):=Zau (mkE tyTab mapTab pkTab [45] [] F82M 14 bdTab) (Zah Tryz.f30) Tryz.f30.results F82H F82A F82R (fun y=>y.2.1) (a0,a1,())
theorem F82_eq(a0:El Y31)(a1:El Y33):F82V a0 a1=F82 a0 a1:=by kernel_rfl
theorem F82_ok:ZaT Tryz.prog 30 F82S:=Zad (m:=F82M) (fn:=Tryz.f30) (hint:=F82H) (pack:=fun y=>y.2.1) Za1 tab_ok ⟨⟨F60_ok,trivial⟩,⟨F85_ok,trivial⟩,trivial⟩ fun x z h=>(F82_eq x.1 x.2.1).trans h
def F103: (El Y31)->(El Y33)->Option (El Y37):=fun a0 a1=>
 (F82 a0 a1).bind fun x0=>bif !decide (x0=(0:Int)) then some x0 else bif a1.2.2.2.1 then some (22:Int) else some (0:Int)
abbrev F103A:Zal:=(.cons (.pd Y31) (.cons (.pd Y33) .nil))
abbrev F103R:Zal:=(.cons (.pd Y37) .nil)
def F103S:Tr.Spec:= {args:=F103A,res:=F103R,fns:=[],α:=El Y37,f:=fun x=>F103 x.1 x.2.1,unp:=fun z=>(((),(),()),(z,())) }
def F103M:List (Nat×List Tr.Spec):=[(30,[F82S])]
def F103H:ZaU:= .leaf
def F103V(a0:El Y31)(a1:El Y33):Option (El Y37):=Zau (mkE tyTab mapTab pkTab [] [] F103M 14 bdTab) (Zah Tryz.f20) Tryz.f20.results F103H F103A F103R (fun y=>y.2.1) (a0,a1,())
theorem F103_eq(a0:El Y31)(a1:El Y33):F103V a0 a1=F103 a0 a1:=by kernel_rfl
theorem F103_ok:ZaT Tryz.prog 20 F103S:=Zad (m:=F103M) (fn:=Tryz.f20) (hint:=F103H) (pack:=fun y=>y.2.1) Za1 tab_ok ⟨⟨F82_ok,trivial⟩,trivial⟩ fun x z h=>(F103_eq x.1 x.2.1).trans h
def F84: (El Y31)->(El Y33)->(El Y3)->Option (El Y4):=fun a0 a1 a2=>Option.bind (bif !a1.2.2.2.2.2.2.1 then some true else (idx a0.1 a2).bind fun x0=>some x0.2.2.1) fun x1=>some x1
abbrev F84A:Zal:=(.cons (.pd Y31) (.cons (.pd Y33) (.cons (.pd Y3) .nil)))
abbrev F84R:Zal:=(.cons (.pd Y4) .nil)
def F84S:Tr.Spec:= {args:=F84A,res:=F84R,fns:=[],α:=El Y4,f:=fun x=>F84 x.1 x.2.1 x.2.2.1,unp:=fun z=>(((),(),(),()),(z,())) }
def F84M:List (Nat×List Tr.Spec):=[]
def F84H:ZaU:=(.seq .leaf (.seq (.reg [(6,Y4)]) .leaf))
def F84V(a0:El Y31)(a1:El Y33)(a2:El Y3):Option (El Y4):=Zau (mkE tyTab mapTab pkTab [45] [] F84M 18 bdTab) (Zah Tryz.f48) Tryz.f48.results F84H F84A F84R (fun y=>y.2.1) (a0,a1,a2,())
theorem F84_eq(a0:El Y31)(a1:El Y33)(a2:El Y3):F84V a0 a1 a2=F84 a0 a1 a2:=by kernel_rfl
theorem F84_ok:ZaT Tryz.prog 48 F84S:=Zad (m:=F84M) (fn:=Tryz.f48) (hint:=F84H) (pack:=fun y=>y.2.1) Za1 tab_ok trivial fun x z h=>(F84_eq x.1 x.2.1 x.2.2.1).trans h
def F32: (El Y33)->(El Y45)->Option (El Y3):=fun a0 a1=>
 bif decide ((↑(List.length a1.1):Int)=(0:Int)) then some a0.2.2.1
 else (idx a1.1 (IntKind.wrap .i64 ((↑(List.length a1.1):Int) - (1:Int)))).bind fun x0=>some x0.2.2.2.2.2.2.2.1
abbrev F32A:Zal:=(.cons (.pd Y33) (.cons (.pd Y45) .nil))
abbrev F32R:Zal:=(.cons (.pd Y3) .nil)
def F32S:Tr.Spec:= {args:=F32A,res:=F32R,fns:=[],α:=El Y3,f:=fun x=>F32 x.1 x.2.1,unp:=fun z=>(((),(),()),(z,())) }
def F32M:List (Nat×List Tr.Spec):=[]
def F32H:ZaU:= .leaf
def F32V(a0:El Y33)(a1:El Y45):Option (El Y3):=Zau (mkE tyTab mapTab pkTab [] [] F32M 20 bdTab) (Zah Tryz.f16) Tryz.f16.results F32H F32A F32R (fun y=>y.2.1) (a0,a1,())
theorem F32_eq(a0:El Y33)(a1:El Y45):F32V a0 a1=F32 a0 a1:=by kernel_rfl
theorem F32_ok:ZaT Tryz.prog 16 F32S:=Zad (m:=F32M) (fn:=Tryz.f16) (hint:=F32H) (pack:=fun y=>y.2.1) Za1 tab_ok trivial fun x z h=>(F32_eq x.1 x.2.1).trans h
def F72: (El Y31)->(El Y51)->Option (El Y4):=fun a0 a1=>
 Option.bind (bif decide (a1.2.1< (0:Int)) then some true else some (decide ((↑(List.length a0.2.2.1):Int)<=a1.2.1))) fun x0=>
 bif x0 then some false
 else
 Option.bind
 (bif decide ((0:Int)<=a1.2.2.1) then
 bif decide (a1.2.2.1<a1.2.2.2.1) then
 (idx a0.2.2.1 a1.2.1).bind fun x1=>some (decide (a1.2.2.2.1< (↑(List.length x1.2.2.2.2.2.2.2.1):Int)))
 else some false
 else some false)
 fun x2=>some x2
abbrev F72A:Zal:=(.cons (.pd Y31) (.cons (.pd Y51) .nil))
abbrev F72R:Zal:=(.cons (.pd Y4) .nil)
def F72S:Tr.Spec:= {args:=F72A,res:=F72R,fns:=[],α:=El Y4,f:=fun x=>F72 x.1 x.2.1,unp:=fun z=>(((),(),()),(z,())) }
def F72M:List (Nat×List Tr.Spec):=[]
def F72H:ZaU:=(.seq .leaf (.seq (.seq (.reg [(15,Y4)]) .leaf) (.seq (.reg [(4,Y4)]) .leaf)))
def F72V(a0:El Y31)(a1:El Y51):Option (El Y4):=Zau (mkE tyTab mapTab pkTab [] [] F72M 39 bdTab) (Zah Tryz.f79) Tryz.f79.results F72H F72A F72R (fun y=>y.2.1) (a0,a1,())
theorem F72_eq(a0:El Y31)(a1:El Y51):F72V a0 a1=F72 a0 a1:=by kernel_rfl
theorem F72_ok:ZaT Tryz.prog 79 F72S:=Zad (m:=F72M) (fn:=Tryz.f79) (hint:=F72H) (pack:=fun y=>y.2.1) Za1 tab_ok trivial fun x z h=>(F72_eq x.1 x.2.1).trans h
def F96: (El Y31)->(El Y33)->(El Y51)->Option (El Y37):=fun a0 a1 a2=>
 (idx a0.2.2.1 a2.2.1).bind fun x0=>
 (idx x0.2.2.2.2.2.2.2.1 a2.2.2.1).bind fun x1=>
 (idx x0.2.2.2.2.2.2.2.1 a2.2.2.2.1).bind fun x2=>
 (idx a0.2.1 x0.2.2.2.2.1).bind fun x3=>
 Option.bind (bif !decide (x1.1=a2.2.2.2.2.1) then some true else some !decide (x2.1=a2.2.2.2.2.2.1)) fun x4=>
 bif x4 then some (24:Int)
 else
 Option.bind
 (bif !decide (x1.2.2.1=a2.2.2.2.2.2.2.1) then some true
 else some !decide (x2.2.1=a2.2.2.2.2.2.2.2.1))
 fun x5=>
 bif x5 then some (10:Int)
 else
 bif x0.2.2.2.2.2.2.1 then some (27:Int)
 else
 Option.bind (bif a1.2.2.2.2.2.2.1 then some !x0.2.2.2.2.2.1 else some false) fun x6=>
 bif x6 then some (29:Int)
 else
 Option.bind (bif a1.2.2.2.2.2.2.2.1 then some !x3.2.2.1 else some false) fun x7=>
 bif x7 then some (30:Int)
 else
 Option.bind
 (bif !decide (a1.2.2.2.2.2.2.2.2.1=(0:Int)) then
 Option.bind (ZqL .i64 a1.2.2.2.2.2.2.2.2.1 x3.2.1) fun x8=>
 some (decide (ZnV .i64 x8 (1:Int)=(0:Int)))
 else some false)
 fun x9=>
 bif x9 then some (31:Int)
 else
 Option.bind (bif !a2.2.2.2.2.2.2.2.2.1 then some !x1.2.2.2.1 else some false) fun x10=>
 bif x10 then some (25:Int)
 else
 Option.bind
 (bif !a2.2.2.2.2.2.2.2.2.1 then (F84 a0 a1 a2.2.2.2.2.1).bind fun x11=>some !x11 else some false)
 fun x12=>bif x12 then some (29:Int) else some (0:Int)
abbrev F96A:Zal:=(.cons (.pd Y31) (.cons (.pd Y33) (.cons (.pd Y51) .nil)))
abbrev F96R:Zal:=(.cons (.pd Y37) .nil)
def F96S:Tr.Spec:= {args:=F96A,res:=F96R,fns:=[],α:=El Y37,f:=fun x=>F96 x.1 x.2.1 x.2.2.1,unp:=fun z=>(((),(),(),()),(z,())) }
def F96M:List (Nat×List Tr.Spec):=[(48,[F84S])]
def F96H:ZaU:=(.seq .leaf (.seq .leaf (.seq .leaf (.seq .leaf (.seq (.seq (.reg [(46,Y4)]) .leaf) (.seq (.seq (.reg [(58,Y4)]) .leaf) (.seq .leaf (.seq (.seq (.reg [(67,Y4)]) .leaf) (.seq (.seq (.reg [(74,Y4)]) .leaf) (.seq (.seq (.reg [(86,Y4)]) .leaf) (.seq (.seq (.reg [(94,Y4)]) .leaf) (.seq (.seq (.reg [(105,Y4)]) .leaf) .leaf))))))))))))
def F96V(a0:El Y31)(a1:El Y33)(a2:El Y51):Option (El Y37):=Zau (mkE tyTab mapTab pkTab [45] [] F96M 106 bdTab) (Zah Tryz.f80) Tryz.f80.results F96H F96A F96R (fun y=>y.2.1) (a0,a1,a2,())
theorem F96_eq(a0:El Y31)(a1:El Y33)(a2:El Y51):F96V a0 a1 a2=F96 a0 a1 a2:=by kernel_rfl
theorem F96_ok:ZaT Tryz.prog 80 F96S:=Zad (m:=F96M) (fn:=Tryz.f80) (hint:=F96H) (pack:=fun y=>y.2.1) Za1 tab_ok ⟨⟨F84_ok,trivial⟩,trivial⟩ fun x z h=>(F96_eq x.1 x.2.1 x.2.2.1).trans h
def F100: (El Y31)->(El Y33)->(El Y51)->Option (El Y37):=fun a0 a1 a2=>
 Option.bind
 (run
 (fun s0=>
 bif decide (s0.2< (↑(List.length a0.2.2.2.2.1):Int)) then
 (idx a0.2.2.2.2.1 s0.2).bind fun x1=>
 Option.bind
 (bif !decide (x1.1=a2.2.2.2.2.1) then some true
 else
 bif !decide (x1.2.1=a2.2.2.2.2.2.1) then some true
 else some !decide (x1.2.2.1=IntKind.wrap .i64 (a2.2.2.2.2.2.2.2.1 - a2.2.2.2.2.2.2.1)))
 fun x2=>
 bif x2 then some (.inl (s0.1,IntKind.wrap .i64 (s0.2+(1:Int))))
 else
 Option.bind (bif x1.2.2.2.1 then some true else some !a1.2.2.2.2.2.2.1) fun x3=>
 bif x3 then some (.inr (.inr (0:Int))) else some (.inl ((29:Int),IntKind.wrap .i64 (s0.2+(1:Int))))
 else some (.inr (.inl s0.1)))
 ((18:Int),(0:Int)))
 fun x4=>Sum.elim (fun y5=>some y5) (fun y6=>some y6) x4
abbrev F100A:Zal:=(.cons (.pd Y31) (.cons (.pd Y33) (.cons (.pd Y51) .nil)))
abbrev F100R:Zal:=(.cons (.pd Y37) .nil)
def F100S:Tr.Spec:= {args:=F100A,res:=F100R,fns:=[],α:=El Y37,f:=fun x=>F100 x.1 x.2.1 x.2.2.1,unp:=fun z=>(((),(),(),()),(z,())) }
def F100M:List (Nat×List Tr.Spec):=[]
def F100H:ZaU:=(.seq .leaf (.seq .leaf (.seq (.seq .leaf (.lp ⟨[(7,(.pd Y37)),(8,(.pd Y3))],[],[3,4,5],[],[],[]⟩ [((.exit 0),⟨[(7,(.pd Y37))],[],[],[],[],[]⟩),(.ret,⟨[(6,(.pd Y37))],[],[],[],[],[]⟩)] (.seq .leaf (.seq (.seq .leaf (.seq (.seq (.reg [(43,Y4)]) .leaf) (.seq (.seq (.reg [(50,Y4)]) .leaf) .leaf))) .leaf)))) .leaf)))
def F100V(a0:El Y31)(a1:El Y33)(a2:El Y51):Option (El Y37):=Zau (mkE tyTab mapTab pkTab [45] [] F100M 52 bdTab) (Zah Tryz.f81) Tryz.f81.results F100H F100A F100R (fun y=>y.2.1) (a0,a1,a2,())
theorem F100_eq(a0:El Y31)(a1:El Y33)(a2:El Y51):F100V a0 a1 a2=F100 a0 a1 a2:=by kernel_rfl
theorem F100_ok:ZaT Tryz.prog 81 F100S:=Zad (m:=F100M) (fn:=Tryz.f81) (hint:=F100H) (pack:=fun y=>y.2.1) Za1 tab_ok trivial fun x z h=>(F100_eq x.1 x.2.1 x.2.2.1).trans h
def F94: (El Y31)->(El Y33)->(El Y51)->Option (El Y37):=fun a0 a1 a2=>
 Option.bind
 ((F93 a2.2.2.2.2.1 (0:Int) (IntKind.wrap .i64 ((↑(List.length a0.1):Int) - (1:Int)))).bind fun x0=>
 bif !x0 then some true
 else (F93 a2.2.2.2.2.2.1 (0:Int) (IntKind.wrap .i64 ((↑(List.length a0.1):Int) - (1:Int)))).bind fun x1=>some !x1)
 fun x2=>
 bif x2 then some (9:Int)
 else
 Option.bind
 (bif a2.1 then
 (F72 a0 a2).bind fun x3=>
 bif !x3 then some true
 else
 bif !a2.1 then
 bif !decide (a2.2.1=(0:Int)) then some true
 else
 bif !decide (a2.2.2.1=(0:Int)) then some true
 else bif !decide (a2.2.2.2.1=(0:Int)) then some true else some a2.2.2.2.2.2.2.2.2.1
 else some false
 else
 bif !a2.1 then
 bif !decide (a2.2.1=(0:Int)) then some true
 else
 bif !decide (a2.2.2.1=(0:Int)) then some true
 else bif !decide (a2.2.2.2.1=(0:Int)) then some true else some a2.2.2.2.2.2.2.2.2.1
 else some false)
 fun x4=>
 bif x4 then some (9:Int)
 else
 Option.bind
 ((F93 a2.2.2.2.2.2.2.1 (0:Int) (3155932800:Int)).bind fun x5=>
 bif !x5 then some true else (F93 a2.2.2.2.2.2.2.2.1 (0:Int) (3155932800:Int)).bind fun x6=>some !x6)
 fun x7=>
 bif x7 then some (10:Int) else bif a2.1 then (F96 a0 a1 a2).bind fun x8=>some x8 else (F100 a0 a1 a2).bind fun x9=>some x9
abbrev F94A:Zal:=(.cons (.pd Y31) (.cons (.pd Y33) (.cons (.pd Y51) .nil)))
abbrev F94R:Zal:=(.cons (.pd Y37) .nil)
def F94S:Tr.Spec:= {args:=F94A,res:=F94R,fns:=[],α:=El Y37,f:=fun x=>F94 x.1 x.2.1 x.2.2.1,unp:=fun z=>(((),(),(),()),(z,())) }
def F94M:List (Nat×List Tr.Spec):=[(78,[F93S]),(79,[F72S]),(80,[F96S]),(81,[F100S])]
def F94H:ZaU:=(.seq .leaf (.seq (.seq (.reg [(24,Y4)]) .leaf) (.seq (.seq (.reg [(56,Y4)]) .leaf) (.seq (.seq (.reg [(66,Y4)]) .leaf) .leaf))))
def F94V(a0:El Y31)(a1:El Y33)(a2:El Y51):Option (El Y37):=Zau (mkE tyTab mapTab pkTab [45] [] F94M 77 bdTab) (Zah Tryz.f50) Tryz.f50.results F94H F94A F94R (fun y=>y.2.1) (a0,a1,a2,())
theorem F94_eq(a0:El Y31)(a1:El Y33)(a2:El Y51):F94V a0 a1 a2=F94 a0 a1 a2:=by kernel_rfl
theorem F94_ok:ZaT Tryz.prog 50 F94S:=Zad (m:=F94M) (fn:=Tryz.f50) (hint:=F94H) (pack:=fun y=>y.2.1) Za1 tab_ok ⟨⟨F93_ok,trivial⟩,⟨F72_ok,trivial⟩,⟨F96_ok,trivial⟩,⟨F100_ok,trivial⟩,trivial⟩ fun x z h=>(F94_eq x.1 x.2.1 x.2.2.1).trans h
def F90: (El Y31)->(El Y33)->(El Y45)->Option (El Y37):=fun a0 a1 a2=>
 (idx a2.1 (0:Int)).bind fun x0=>
 bif !decide (x0.2.2.2.2.1=a1.1) then some (24:Int)
 else
 bif x0.2.2.2.2.2.2.2.2.1 then some (19:Int)
 else
 Option.bind
 (bif !x0.1 then
 bif decide ((1:Int)< (↑(List.length a2.1):Int)) then
 (idx a2.1 (1:Int)).bind fun x1=>
 bif x1.1 then (idx a2.1 (1:Int)).bind fun x2=>some !decide (x2.2.2.2.2.2.2.1=x0.2.2.2.2.2.2.2.1)
 else some false
 else some false
 else some false)
 fun x3=>
 bif x3 then some (10:Int)
 else
 Option.bind
 (bif !x0.1 then
 bif decide ((↑(List.length a2.1):Int)=(1:Int)) then
 bif a1.2.2.2.1 then
 bif !decide (x0.2.2.2.2.2.2.2.1=a1.2.2.1) then some true
 else bif !a1.2.2.2.1 then some !decide (x0.2.2.2.2.2.2.1=a1.2.2.1) else some false
 else bif !a1.2.2.2.1 then some !decide (x0.2.2.2.2.2.2.1=a1.2.2.1) else some false
 else some false
 else some false)
 fun x4=>
 bif x4 then some (10:Int)
 else
 Option.bind (bif !a1.2.2.2.1 then some (decide (x0.2.2.2.2.2.2.1<a1.2.2.1)) else some false) fun x5=>
 bif x5 then some (10:Int)
 else
 Option.bind
 (bif a1.2.2.2.2.2.2.2.2.2.1 then
 bif x0.1 then
 (idx a0.1 a1.1).bind fun x6=>
 some (decide (x0.2.2.2.2.2.2.1<IntKind.wrap .i64 (a1.2.2.1+x6.2.2.2.1)))
 else some false
 else some false)
 fun x7=>bif x7 then some (28:Int) else some (0:Int)
abbrev F90A:Zal:=(.cons (.pd Y31) (.cons (.pd Y33) (.cons (.pd Y45) .nil)))
abbrev F90R:Zal:=(.cons (.pd Y37) .nil)
def F90S:Tr.Spec:= {args:=F90A,res:=F90R,fns:=[],α:=El Y37,f:=fun x=>F90 x.1 x.2.1 x.2.2.1,unp:=fun z=>(((),(),(),()),(z,())) }
def F90M:List (Nat×List Tr.Spec):=[]
def F90H:ZaU:=(.seq .leaf (.seq .leaf (.seq .leaf (.seq .leaf (.seq (.seq (.reg [(44,Y4)]) .leaf) (.seq (.seq (.reg [(76,Y4)]) .leaf) (.seq (.seq (.reg [(86,Y4)]) .leaf) (.seq (.seq (.reg [(107,Y4)]) .leaf) .leaf))))))))
def F90V(a0:El Y31)(a1:El Y33)(a2:El Y45):Option (El Y37):=Zau (mkE tyTab mapTab pkTab [45] [] F90M 108 bdTab) (Zah Tryz.f51) Tryz.f51.results F90H F90A F90R (fun y=>y.2.1) (a0,a1,a2,())
theorem F90_eq(a0:El Y31)(a1:El Y33)(a2:El Y45):F90V a0 a1 a2=F90 a0 a1 a2:=by kernel_rfl
theorem F90_ok:ZaT Tryz.prog 51 F90S:=Zad (m:=F90M) (fn:=Tryz.f51) (hint:=F90H) (pack:=fun y=>y.2.1) Za1 tab_ok trivial fun x z h=>(F90_eq x.1 x.2.1 x.2.2.1).trans h
def F95: (El Y31)->(El Y51)->(El Y51)->(El Y4)->Option (El Y4):=fun a0 a1 a2 a3=>
 Option.bind
 (run
 (fun s0=>
 bif decide (s0< (↑(List.length a0.2.2.2.1):Int)) then
 (idx a0.2.2.2.1 s0).bind fun x1=>
 Option.bind
 (bif decide (x1.1=a1.2.1) then
 bif decide (x1.2.1=a1.2.2.2.1) then
 bif decide (x1.2.2.1=a2.2.1) then
 bif decide (x1.2.2.2.1=a2.2.2.1) then some (x1.2.2.2.2.1==a3) else some false
 else some false
 else some false
 else some false)
 fun x2=>bif x2 then some (.inr (.inr true)) else some (.inl (IntKind.wrap .i64 (s0+(1:Int))))
 else some (.inr (.inl ())))
 (0:Int))
 fun x3=>Sum.elim (fun _=>some false) (fun y5=>some y5) x3
abbrev F95A:Zal:=(.cons (.pd Y31) (.cons (.pd Y51) (.cons (.pd Y51) (.cons (.pd Y4) .nil))))
abbrev F95R:Zal:=(.cons (.pd Y4) .nil)
def F95S:Tr.Spec:= {args:=F95A,res:=F95R,fns:=[],α:=El Y4,f:=fun x=>F95 x.1 x.2.1 x.2.2.1 x.2.2.2.1,unp:=fun z=>(((),(),(),(),()),(z,())) }
def F95M:List (Nat×List Tr.Spec):=[]
def F95H:ZaU:=(.seq .leaf (.seq (.seq .leaf (.lp ⟨[(9,(.pd Y3))],[],[3,4,5,6],[],[],[]⟩ [((.exit 0),⟨[],[],[],[],[],[]⟩),(.ret,⟨[(8,(.pd Y4))],[],[],[],[],[]⟩)] (.seq .leaf (.seq (.seq .leaf (.seq (.reg [(54,Y4)]) .leaf)) .leaf)))) .leaf))
def F95V(a0:El Y31)(a1:El Y51)(a2:El Y51)(a3:El Y4):Option (El Y4):=Zau (mkE tyTab mapTab pkTab [45] [] F95M 55 bdTab) (Zah Tryz.f82) Tryz.f82.results F95H F95A F95R (fun y=>y.2.1) (a0,a1,a2,a3,())
theorem F95_eq(a0:El Y31)(a1:El Y51)(a2:El Y51)(a3:El Y4):F95V a0 a1 a2 a3=F95 a0 a1 a2 a3:=by kernel_rfl
theorem F95_ok:ZaT Tryz.prog 82 F95S:=Zad (m:=F95M) (fn:=Tryz.f82) (hint:=F95H) (pack:=fun y=>y.2.1) Za1 tab_ok trivial fun x z h=>(F95_eq x.1 x.2.1 x.2.2.1 x.2.2.2.1).trans h
def F91: (El Y31)->(El Y51)->(El Y51)->Option (El Y37):=fun a0 a1 a2=>
 bif !decide (a1.2.2.2.2.2.1=a2.2.2.2.2.1) then some (24:Int)
 else
 Option.bind (bif !a1.1 then some !a2.1 else some false) fun x0=>
 bif x0 then some (32:Int)
 else
 bif a2.2.2.2.2.2.2.2.2.1 then
 Option.bind (bif !a1.1 then some true else (F95 a0 a1 a2 true).bind fun x1=>some !x1) fun x2=>
 bif x2 then some (19:Int) else bif decide (a2.2.2.2.2.2.2.1<a1.2.2.2.2.2.2.2.1) then some (10:Int) else some (0:Int)
 else
 bif !a2.1 then bif !decide (a2.2.2.2.2.2.2.1=a1.2.2.2.2.2.2.2.1) then some (10:Int) else some (0:Int)
 else
 bif !a1.1 then bif decide (a2.2.2.2.2.2.2.1<a1.2.2.2.2.2.2.2.1) then some (28:Int) else some (0:Int)
 else
 Option.bind
 ((idx a0.1 a1.2.2.2.2.2.1).bind fun x3=>
 bif decide (IntKind.wrap .i64 (a1.2.2.2.2.2.2.2.1+x3.2.2.2.1)<=a2.2.2.2.2.2.2.1) then some true
 else
 (F95 a0 a1 a2 false).bind fun x4=>
 bif x4 then some (decide (a1.2.2.2.2.2.2.2.1<=a2.2.2.2.2.2.2.1)) else some false)
 fun x5=>bif x5 then some (0:Int) else some (28:Int)
abbrev F91A:Zal:=(.cons (.pd Y31) (.cons (.pd Y51) (.cons (.pd Y51) .nil)))
abbrev F91R:Zal:=(.cons (.pd Y37) .nil)
def F91S:Tr.Spec:= {args:=F91A,res:=F91R,fns:=[],α:=El Y37,f:=fun x=>F91 x.1 x.2.1 x.2.2.1,unp:=fun z=>(((),(),(),()),(z,())) }
def F91M:List (Nat×List Tr.Spec):=[(82,[F95S])]
def F91H:ZaU:=(.seq .leaf (.seq .leaf (.seq (.seq (.reg [(19,Y4)]) .leaf) (.seq (.seq .leaf (.cnd none (.seq (.seq (.reg [(31,Y4)]) .leaf) .leaf) .leaf)) (.seq .leaf (.seq .leaf (.seq (.seq (.reg [(78,Y4)]) .leaf) .leaf)))))))
def F91V(a0:El Y31)(a1:El Y51)(a2:El Y51):Option (El Y37):=Zau (mkE tyTab mapTab pkTab [45] [] F91M 79 bdTab) (Zah Tryz.f52) Tryz.f52.results F91H F91A F91R (fun y=>y.2.1) (a0,a1,a2,())
theorem F91_eq(a0:El Y31)(a1:El Y51)(a2:El Y51):F91V a0 a1 a2=F91 a0 a1 a2:=by kernel_rfl
theorem F91_ok:ZaT Tryz.prog 52 F91S:=Zad (m:=F91M) (fn:=Tryz.f52) (hint:=F91H) (pack:=fun y=>y.2.1) Za1 tab_ok ⟨⟨F95_ok,trivial⟩,trivial⟩ fun x z h=>(F91_eq x.1 x.2.1 x.2.2.1).trans h
def F87: (El Y31)->(El Y33)->(El Y45)->(El Y3)->Option (El Y37):=fun a0 a1 a2 a3=>
 (idx a2.1 a3).bind fun x0=>
 (F94 a0 a1 x0).bind fun x1=>
 bif !decide (x1=(0:Int)) then some x1
 else
 Option.bind
 (bif decide (a3=(0:Int)) then (F90 a0 a1 a2).bind fun x2=>some x2
 else (idx a2.1 (IntKind.wrap .i64 (a3 - (1:Int)))).bind fun x3=>(F91 a0 x3 x0).bind fun x4=>some x4)
 fun x5=>
 bif !decide (x5=(0:Int)) then some x5
 else
 Option.bind
 (bif x0.1 then
 bif decide (IntKind.wrap .i64 (a3+(1:Int))=(↑(List.length a2.1):Int)) then some true
 else (idx a2.1 (IntKind.wrap .i64 (a3+(1:Int)))).bind fun x6=>some !x6.2.2.2.2.2.2.2.2.1
 else some false)
 fun x7=>
 bif x7 then
 (idx a0.2.2.1 x0.2.1).bind fun x8=>
 (idx x8.2.2.2.2.2.2.2.1 x0.2.2.2.1).bind fun x9=>
 bif !x9.2.2.2.2.1 then some (26:Int)
 else (F84 a0 a1 x0.2.2.2.2.2.1).bind fun x10=>bif !x10 then some (29:Int) else some (0:Int)
 else some (0:Int)
abbrev F87A:Zal:=(.cons (.pd Y31) (.cons (.pd Y33) (.cons (.pd Y45) (.cons (.pd Y3) .nil))))
abbrev F87R:Zal:=(.cons (.pd Y37) .nil)
def F87S:Tr.Spec:= {args:=F87A,res:=F87R,fns:=[],α:=El Y37,f:=fun x=>F87 x.1 x.2.1 x.2.2.1 x.2.2.2.1,unp:=fun z=>(((),(),(),(),()),(z,())) }
def F87M:List (Nat×List Tr.Spec):=[(48,[F84S]),(50,[F94S]),(51,[F90S]),(52,[F91S])]
def F87H:ZaU:=(.seq .leaf (.seq .leaf (.seq .leaf (.seq .leaf (.seq (.seq .leaf (.cnd (some (⟨[],[],[3,4,5,6,9],[],[],[]⟩,[(.normal,⟨[(10,(.pd Y37))],[],[3,4,5,6,9],[],[],[]⟩)])) .leaf .leaf)) (.seq .leaf (.seq (.seq (.reg [(60,Y4)]) .leaf) .leaf)))))))
def F87V(a0:El Y31)(a1:El Y33)(a2:El Y45)(a3:El Y3):Option (El Y37):=Zau (mkE tyTab mapTab pkTab [45] [] F87M 80 bdTab) (Zah Tryz.f29) Tryz.f29.results F87H F87A F87R (fun y=>y.2.1) (a0,a1,a2,a3,())
theorem F87_eq(a0:El Y31)(a1:El Y33)(a2:El Y45)(a3:El Y3):F87V a0 a1 a2 a3=F87 a0 a1 a2 a3:=by kernel_rfl
theorem F87_ok:ZaT Tryz.prog 29 F87S:=Zad (m:=F87M) (fn:=Tryz.f29) (hint:=F87H) (pack:=fun y=>y.2.1) Za1 tab_ok ⟨⟨F84_ok,trivial⟩,⟨F94_ok,trivial⟩,⟨F90_ok,trivial⟩,⟨F91_ok,trivial⟩,trivial⟩ fun x z h=>(F87_eq x.1 x.2.1 x.2.2.1 x.2.2.2.1).trans h
def F76: (El Y45)->Option (El Y3):=fun a0=>
 Option.bind
 (run
 (fun s0=>
 bif decide (s0.2< (↑(List.length a0.1):Int)) then
 (idx a0.1 s0.2).bind fun x1=>
 Option.bind
 (bif !x1.1 then
 bif decide ((0:Int)<=x1.2.2.2.2.2.2.1) then
 bif decide (x1.2.2.2.2.2.2.1<=x1.2.2.2.2.2.2.2.1) then
 some (decide (IntKind.wrap .i64 (x1.2.2.2.2.2.2.2.1 - x1.2.2.2.2.2.2.1)<=(14400:Int)))
 else some false
 else some false
 else some false)
 fun x2=>
 bif x2 then
 some
 (.inl
 (IntKind.wrap .i64 (IntKind.wrap .i64 (s0.1+x1.2.2.2.2.2.2.2.1) - x1.2.2.2.2.2.2.1),
 IntKind.wrap .i64 (s0.2+(1:Int))))
 else some (.inl (s0.1,IntKind.wrap .i64 (s0.2+(1:Int))))
 else some (.inr s0.1))
 ((0:Int),(0:Int)))
 fun x3=>some x3
abbrev F76A:Zal:=(.cons (.pd Y45) .nil)
abbrev F76R:Zal:=(.cons (.pd Y3) .nil)
def F76S:Tr.Spec:= {args:=F76A,res:=F76R,fns:=[],α:=El Y3,f:=fun x=>F76 x.1,unp:=fun z=>(((),()),(z,())) }
def F76M:List (Nat×List Tr.Spec):=[]
def F76H:ZaU:=(.seq .leaf (.seq .leaf (.seq (.seq .leaf (.lp ⟨[(3,(.pd Y3)),(4,(.pd Y3))],[],[1],[],[],[]⟩ [((.exit 0),⟨[(3,(.pd Y3))],[],[],[],[],[]⟩)] (.seq .leaf (.seq (.seq .leaf (.seq (.reg [(40,Y4)]) .leaf)) .leaf)))) .leaf)))
def F76V(a0:El Y45):Option (El Y3):=Zau (mkE tyTab mapTab pkTab [] [] F76M 49 bdTab) (Zah Tryz.f54) Tryz.f54.results F76H F76A F76R (fun y=>y.2.1) (a0,())
theorem F76_eq(a0:El Y45):F76V a0=F76 a0:=by kernel_rfl
theorem F76_ok:ZaT Tryz.prog 54 F76S:=Zad (m:=F76M) (fn:=Tryz.f54) (hint:=F76H) (pack:=fun y=>y.2.1) Za1 tab_ok trivial fun x z h=>(F76_eq x.1).trans h
def F79: (El Y31)->(El Y51)->Option (El Y3):=fun a0 a1=>
 (idx a0.2.2.1 a1.2.1).bind fun x0=>
 Option.bind
 (run
 (fun s1=>
 bif decide (s1.2<=a1.2.2.2.1) then
 (idx x0.2.2.2.2.2.2.2.1 s1.2).bind fun x2=>
 (idx a0.1 x2.1).bind fun x3=>
 Option.bind (Zt9 .i64 (1:Int) x3.2.1) fun x4=>some (.inl (qor .i64 s1.1 x4,IntKind.wrap .i64 (s1.2+(1:Int))))
 else some (.inr s1.1))
 ((0:Int),a1.2.2.1))
 fun x5=>some x5
abbrev F79A:Zal:=(.cons (.pd Y31) (.cons (.pd Y51) .nil))
abbrev F79R:Zal:=(.cons (.pd Y3) .nil)
def F79S:Tr.Spec:= {args:=F79A,res:=F79R,fns:=[],α:=El Y3,f:=fun x=>F79 x.1 x.2.1,unp:=fun z=>(((),(),()),(z,())) }
def F79M:List (Nat×List Tr.Spec):=[]
def F79H:ZaU:=(.seq .leaf (.seq .leaf (.seq .leaf (.seq (.seq .leaf (.lp ⟨[(5,(.pd Y3)),(7,(.pd Y3))],[],[2,3,6],[],[],[]⟩ [((.exit 0),⟨[(5,(.pd Y3))],[],[],[],[],[]⟩)] .leaf)) .leaf))))
def F79V(a0:El Y31)(a1:El Y51):Option (El Y3):=Zau (mkE tyTab mapTab pkTab [] [] F79M 37 bdTab) (Zah Tryz.f116) Tryz.f116.results F79H F79A F79R (fun y=>y.2.1) (a0,a1,())
theorem F79_eq(a0:El Y31)(a1:El Y51):F79V a0 a1=F79 a0 a1:=by kernel_rfl
theorem F79_ok:ZaT Tryz.prog 116 F79S:=Zad (m:=F79M) (fn:=Tryz.f116) (hint:=F79H) (pack:=fun y=>y.2.1) Za1 tab_ok trivial fun x z h=>(F79_eq x.1 x.2.1).trans h
def F74: (El Y31)->(El Y45)->Option (El Zkh×El Y37):=fun a0 a1=>
 (F60 a0).bind fun x0=>
 bif !x0 then some ([],(21:Int))
 else
 Option.bind
 (run
 (fun s1=>
 bif decide (s1.2< (↑(List.length a1.1):Int)) then
 (idx a1.1 s1.2).bind fun x2=>
 Option.bind (bif x2.1 then (F72 a0 x2).bind fun x3=>some !x3 else some false) fun x4=>
 bif x4 then some (.inr (.inr ([],(9:Int))))
 else
 Option.bind
 (bif x2.2.2.2.2.2.2.2.2.1 then
 bif !x2.1 then some true
 else
 bif decide (s1.2=(0:Int)) then some true
 else (idx a1.1 (IntKind.wrap .i64 (s1.2 - (1:Int)))).bind fun x5=>some !x5.1
 else some false)
 fun x6=>
 bif x6 then some (.inr (.inr ([],(19:Int))))
 else
 bif !x2.1 then some (.inl (s1.1,IntKind.wrap .i64 (s1.2+(1:Int))))
 else
 (idx a0.2.2.1 x2.2.1).bind fun x7=>
 (idx a0.2.1 x7.2.2.2.2.1).bind fun x8=>
 Option.bind (Zt9 .i64 (1:Int) x8.2.1) fun x9=>
 bif x2.2.2.2.2.2.2.2.2.1 then
 (inb (IntKind.wrap .i64 ((↑(List.length s1.1):Int) - (1:Int))) (List.length s1.1)).bind fun x10=>
 Option.bind s1.1[x10]? fun x11=>
 Option.bind
 (inb (IntKind.wrap .i64 ((↑(List.length s1.1):Int) - (1:Int)))
 (List.length (List.set s1.1 x10 (x11.1,x2.2.2.2.2.2.2.2.1,x11.2.2))))
 fun x12=>
 Option.bind (List.set s1.1 x10 (x11.1,x2.2.2.2.2.2.2.2.1,x11.2.2))[x12]? fun x13=>
 (F79 a0 x2).bind fun x14=>
 Option.bind
 (inb (IntKind.wrap .i64 ((↑(List.length s1.1):Int) - (1:Int)))
 (List.length (List.set s1.1 x10 (x11.1,x2.2.2.2.2.2.2.2.1,x11.2.2))))
 fun x15=>
 Option.bind (List.set s1.1 x10 (x11.1,x2.2.2.2.2.2.2.2.1,x11.2.2))[x15]? fun x16=>
 Option.bind
 (inb (IntKind.wrap .i64 ((↑(List.length s1.1):Int) - (1:Int)))
 (List.length
 (List.set (List.set s1.1 x10 (x11.1,x2.2.2.2.2.2.2.2.1,x11.2.2)) x15
 (x16.1,x16.2.1,qor .i64 x13.2.2.1 x14,x16.2.2.2))))
 fun x17=>
 Option.bind
 (List.set (List.set s1.1 x10 (x11.1,x2.2.2.2.2.2.2.2.1,x11.2.2)) x15
 (x16.1,x16.2.1,qor .i64 x13.2.2.1 x14,x16.2.2.2))[x17]?
 fun x18=>
 Option.bind
 (inb (IntKind.wrap .i64 ((↑(List.length s1.1):Int) - (1:Int)))
 (List.length
 (List.set (List.set s1.1 x10 (x11.1,x2.2.2.2.2.2.2.2.1,x11.2.2)) x15
 (x16.1,x16.2.1,qor .i64 x13.2.2.1 x14,x16.2.2.2))))
 fun x19=>
 Option.bind
 (List.set (List.set s1.1 x10 (x11.1,x2.2.2.2.2.2.2.2.1,x11.2.2)) x15
 (x16.1,x16.2.1,qor .i64 x13.2.2.1 x14,x16.2.2.2))[x19]?
 fun x20=>
 some
 (.inl
 (List.set
 (List.set (List.set s1.1 x10 (x11.1,x2.2.2.2.2.2.2.2.1,x11.2.2)) x15
 (x16.1,x16.2.1,qor .i64 x13.2.2.1 x14,x16.2.2.2))
 x19 (x20.1,x20.2.1,x20.2.2.1,qor .i64 x18.2.2.2.1 x9,x20.2.2.2.2),
 IntKind.wrap .i64 (s1.2+(1:Int))))
 else
 (F79 a0 x2).bind fun x21=>
 Option.bind
 (Zaq (decide (List.length s1.1+List.length [(x2.2.2.2.2.2.2.1,x2.2.2.2.2.2.2.2.1,x21,x9,())]<=Zar)))
 fun _=>
 some
 (.inl (s1.1++[(x2.2.2.2.2.2.2.1,x2.2.2.2.2.2.2.2.1,x21,x9,())],IntKind.wrap .i64 (s1.2+(1:Int))))
 else some (.inr (.inl s1.1)))
 ([],(0:Int)))
 fun x23=>Sum.elim (fun y24=>some (y24,(0:Int))) (fun y25=>some (y25.1,y25.2)) x23
abbrev F74A:Zal:=(.cons (.pd Y31) (.cons (.pd Y45) .nil))
abbrev F74R:Zal:=(.cons (.pd Zkh) (.cons (.pd Y37) .nil))
def F74S:Tr.Spec:= {args:=F74A,res:=F74R,fns:=[],α:=El Zkh×El Y37,f:=fun x=>F74 x.1 x.2.1,unp:=fun z=>(((),(),()),(z.1,z.2,())) }
def F74M:List (Nat×List Tr.Spec):=[(32,[F60S]),(79,[F72S]),(116,[F79S])]
def F74H:ZaU:=(.seq .leaf (.seq .leaf (.seq .leaf (.seq (.seq .leaf (.lp ⟨[(6,(.own Zvl false)),(7,(.pd Y3))],[],[2,3],[],[],[]⟩ [((.exit 0),⟨[(6,(.own Zvl false))],[],[],[],[],[]⟩),(.ret,⟨[(4,(.pd Zkh)),(5,(.pd Y37))],[],[],[],[],[]⟩)] (.seq .leaf (.seq (.seq .leaf (.seq (.seq (.reg [(34,Y4)]) .leaf) (.seq (.seq (.reg [(55,Y4)]) .leaf) .leaf))) .leaf)))) .leaf))))
def F74V(a0:El Y31)(a1:El Y45):Option (El Zkh×El Y37):=Zau (mkE tyTab mapTab pkTab [] [] F74M 120 bdTab) (Zah Tryz.f83) Tryz.f83.results F74H F74A F74R (fun y=>(y.2.1,y.2.2.1)) (a0,a1,())
theorem F74_eq(a0:El Y31)(a1:El Y45):F74V a0 a1=F74 a0 a1:=by kernel_rfl
theorem F74_ok:ZaT Tryz.prog 83 F74S:=Zad (m:=F74M) (fn:=Tryz.f83) (hint:=F74H) (pack:=fun y=>(y.2.1,y.2.2.1)) Za1 tab_ok ⟨⟨F60_ok,trivial⟩,⟨F72_ok,trivial⟩,⟨F79_ok,trivial⟩,trivial⟩ fun x z h=>(F74_eq x.1 x.2.1).trans h
def F77: (El Y3)->Option (El Y3):=fun a0=>
 Option.bind
 (run
 (fun s0=>
 bif decide (s0.2< (62:Int)) then
 Option.bind (ZqL .i64 a0 s0.2) fun x1=>
 bif decide (ZnV .i64 x1 (1:Int)=(1:Int)) then
 some (.inl (IntKind.wrap .i64 (s0.1+(1:Int)),IntKind.wrap .i64 (s0.2+(1:Int))))
 else some (.inl (s0.1,IntKind.wrap .i64 (s0.2+(1:Int))))
 else some (.inr s0.1))
 ((0:Int),(0:Int)))
 fun x2=>some x2
abbrev F77A:Zal:=(.cons (.pd Y3) .nil)
abbrev F77R:Zal:=(.cons (.pd Y3) .nil)
def F77S:Tr.Spec:= {args:=F77A,res:=F77R,fns:=[],α:=El Y3,f:=fun x=>F77 x.1,unp:=fun z=>(((),()),(z,())) }
def F77M:List (Nat×List Tr.Spec):=[]
def F77H:ZaU:=(.seq .leaf (.seq .leaf (.seq (.seq .leaf (.lp ⟨[(3,(.pd Y3)),(4,(.pd Y3))],[],[0],[],[],[]⟩ [((.exit 0),⟨[(3,(.pd Y3))],[],[],[],[],[]⟩)] .leaf)) .leaf)))
def F77V(a0:El Y3):Option (El Y3):=Zau (mkE tyTab mapTab pkTab [] [] F77M 17 bdTab) (Zah Tryz.f141) Tryz.f141.results F77H F77A F77R (fun y=>y.2.1) (a0,())
theorem F77_eq(a0:El Y3):F77V a0=F77 a0:=by kernel_rfl
theorem F77_ok:ZaT Tryz.prog 141 F77S:=Zad (m:=F77M) (fn:=Tryz.f141) (hint:=F77H) (pack:=fun y=>y.2.1) Za1 tab_ok trivial fun x z h=>(F77_eq x.1).trans h
def F78: (El Y3)->(El Y3)->(El Y3)->Option (El Y4):=fun a0 a1 a2=>
 bif decide (a1<=a0) then some true
 else some (decide (IntKind.wrap .u64 (IntKind.wrap .u64 a1 - IntKind.wrap .u64 a0)<=IntKind.wrap .u64 a2))
abbrev F78A:Zal:=(.cons (.pd Y3) (.cons (.pd Y3) (.cons (.pd Y3) .nil)))
abbrev F78R:Zal:=(.cons (.pd Y4) .nil)
def F78S:Tr.Spec:= {args:=F78A,res:=F78R,fns:=[],α:=El Y4,f:=fun x=>F78 x.1 x.2.1 x.2.2.1,unp:=fun z=>(((),(),(),()),(z,())) }
def F78M:List (Nat×List Tr.Spec):=[]
def F78H:ZaU:= .leaf
def F78V(a0:El Y3)(a1:El Y3)(a2:El Y3):Option (El Y4):=Zau (mkE tyTab mapTab pkTab [] [] F78M 18 bdTab) (Zah Tryz.f142) Tryz.f142.results F78H F78A F78R (fun y=>y.2.1) (a0,a1,a2,())
theorem F78_eq(a0:El Y3)(a1:El Y3)(a2:El Y3):F78V a0 a1 a2=F78 a0 a1 a2:=by kernel_rfl
theorem F78_ok:ZaT Tryz.prog 142 F78S:=Zad (m:=F78M) (fn:=Tryz.f142) (hint:=F78H) (pack:=fun y=>y.2.1) Za1 tab_ok trivial fun x z h=>(F78_eq x.1 x.2.1 x.2.2.1).trans h
def F71: (El Zo0)->(El Zkh)->(El Y3)->(El Y3)->Option (El Y4):=fun a0 a1 a2 a3=>
 Option.bind
 (run
 (fun s0=>
 bif decide (s0.2.2<=a3) then
 (idx a1 s0.2.2).bind fun x1=>
 (idx a1 s0.2.2).bind fun x2=>
 some (.inl (qor .i64 s0.1 x1.2.2.1,qor .i64 s0.2.1 x2.2.2.2.1,IntKind.wrap .i64 (s0.2.2+(1:Int))))
 else some (.inr (s0.1,s0.2.1)))
 ((0:Int),(0:Int),a2))
 fun x3=>
 Option.bind
 (bif decide (IntKind.wrap .i64 (IntKind.wrap .i64 (a3 - a2)+(1:Int))<=a0.2.2.1) then
 (F77 x3.1).bind fun x4=>
 bif decide (x4<=a0.2.2.2.1) then
 (idx a1 a2).bind fun x5=>
 (idx a1 a3).bind fun x6=>
 (F78 x5.1 x6.1 a0.2.2.2.2.1).bind fun x7=>
 bif x7 then some (decide (Tr.qandNot .i64 x3.2 a0.2.2.2.2.2.1=(0:Int))) else some false
 else some false
 else some false)
 fun x8=>some x8
abbrev F71A:Zal:=(.cons (.pd Zo0) (.cons (.pd Zkh) (.cons (.pd Y3) (.cons (.pd Y3) .nil))))
abbrev F71R:Zal:=(.cons (.pd Y4) .nil)
def F71S:Tr.Spec:= {args:=F71A,res:=F71R,fns:=[],α:=El Y4,f:=fun x=>F71 x.1 x.2.1 x.2.2.1 x.2.2.2.1,unp:=fun z=>(((),(),(),(),()),(z,())) }
def F71M:List (Nat×List Tr.Spec):=[(141,[F77S]),(142,[F78S])]
def F71H:ZaU:=(.seq .leaf (.seq .leaf (.seq (.seq .leaf (.lp ⟨[(9,(.pd Y3)),(10,(.pd Y3)),(11,(.pd Y3))],[],[1,2,3,4],[],[],[]⟩ [((.exit 0),⟨[(9,(.pd Y3)),(10,(.pd Y3))],[],[1,2,3,4],[],[],[]⟩)] .leaf)) (.seq (.reg [(8,Y4)]) .leaf))))
def F71V(a0:El Zo0)(a1:El Zkh)(a2:El Y3)(a3:El Y3):Option (El Y4):=Zau (mkE tyTab mapTab pkTab [] [] F71M 68 bdTab) (Zah Tryz.f117) Tryz.f117.results F71H F71A F71R (fun y=>y.2.1) (a0,a1,a2,a3,())
theorem F71_eq(a0:El Zo0)(a1:El Zkh)(a2:El Y3)(a3:El Y3):F71V a0 a1 a2 a3=F71 a0 a1 a2 a3:=by kernel_rfl
theorem F71_ok:ZaT Tryz.prog 117 F71S:=Zad (m:=F71M) (fn:=Tryz.f117) (hint:=F71H) (pack:=fun y=>y.2.1) Za1 tab_ok ⟨⟨F77_ok,trivial⟩,⟨F78_ok,trivial⟩,trivial⟩ fun x z h=>(F71_eq x.1 x.2.1 x.2.2.1 x.2.2.2.1).trans h
def F75: (El Y29)->(El Zo0)->(El Zkh)->(El Y3)->Option (El Y3):=fun a0 a1 a2 a3=>
 Option.bind
 (bif decide ((0:Int)<a3) then
 (idx a2 (IntKind.wrap .i64 (a3 - (1:Int)))).bind fun x0=>
 (idx a2 a3).bind fun x1=>(F78 x0.2.1 x1.1 a0.2.2.1).bind fun x2=>some x2
 else some false)
 fun x3=>bif x3 then some (Tr.imax (0:Int) (IntKind.wrap .i64 (a1.2.1 - a0.2.1))) else some a1.2.1
abbrev F75A:Zal:=(.cons (.pd Y29) (.cons (.pd Zo0) (.cons (.pd Zkh) (.cons (.pd Y3) .nil))))
abbrev F75R:Zal:=(.cons (.pd Y3) .nil)
def F75S:Tr.Spec:= {args:=F75A,res:=F75R,fns:=[],α:=El Y3,f:=fun x=>F75 x.1 x.2.1 x.2.2.1 x.2.2.2.1,unp:=fun z=>(((),(),(),(),()),(z,())) }
def F75M:List (Nat×List Tr.Spec):=[(142,[F78S])]
def F75H:ZaU:=(.seq .leaf (.seq (.seq (.reg [(26,Y4)]) .leaf) .leaf))
def F75V(a0:El Y29)(a1:El Zo0)(a2:El Zkh)(a3:El Y3):Option (El Y3):=Zau (mkE tyTab mapTab pkTab [] [] F75M 35 bdTab) (Zah Tryz.f118) Tryz.f118.results F75H F75A F75R (fun y=>y.2.1) (a0,a1,a2,a3,())
theorem F75_eq(a0:El Y29)(a1:El Zo0)(a2:El Zkh)(a3:El Y3):F75V a0 a1 a2 a3=F75 a0 a1 a2 a3:=by kernel_rfl
theorem F75_ok:ZaT Tryz.prog 118 F75S:=Zad (m:=F75M) (fn:=Tryz.f118) (hint:=F75H) (pack:=fun y=>y.2.1) Za1 tab_ok ⟨⟨F78_ok,trivial⟩,trivial⟩ fun x z h=>(F75_eq x.1 x.2.1 x.2.2.1 x.2.2.2.1).trans h
def F73: (El Y29)->(El Zkh)->Option (El Y3×El Zru×El Y4):=fun a0 a1=>
 Option.bind
 (Zaq
 (decide
 ((0:El (Tr.Ty.int .i64))<=IntKind.wrap .i64 ((↑(List.length a1):Int)+(1:Int))/\
 IntKind.wrap .i64 ((↑(List.length a1):Int)+(1:Int))<=IntKind.wrap .i64 ((↑(List.length a1):Int)+(1:Int))/\
 IntKind.wrap .i64 ((↑(List.length a1):Int)+(1:Int))<=(↑Zar:El (Tr.Ty.int .i64)))))
 fun _=>
 (inb (↑(List.length a1):Int) (List.length (List.replicate (Int.toNat (IntKind.wrap .i64 ((↑(List.length a1):Int)+(1:Int)))) ((false,(0:Int),([]:List (El Zu5)),()))))).bind fun x1=>
 Option.bind (List.replicate (Int.toNat (IntKind.wrap .i64 ((↑(List.length a1):Int)+(1:Int)))) ((false,(0:Int),([]:List (El Zu5)),())))[x1]? fun x2=>
 Option.bind
 (run
 (fun s3=>
 bif decide ((0:Int)<=s3.2) then
 Option.bind
 (run
 (fun s4=>
 bif decide (s4.2< (↑(List.length a1):Int)) then
 (inb (IntKind.wrap .i64 (s4.2+(1:Int))) (List.length s4.1)).bind fun x5=>
 Option.bind s4.1[x5]? fun x6=>
 bif !x6.1 then some (.inl (s4.1,IntKind.wrap .i64 (s4.2+(1:Int))))
 else
 Option.bind
 (run
 (fun s7=>
 bif decide (s7.2< (↑(List.length a0.1):Int)) then
 (idx a0.1 s7.2).bind fun x8=>
 (F71 x8 a1 s3.2 s4.2).bind fun x9=>
 bif !x9 then some (.inl (s7.1,IntKind.wrap .i64 (s7.2+(1:Int))))
 else
 (idx a0.1 s7.2).bind fun x10=>
 (F75 a0 x10 a1 s3.2).bind fun x11=>
 (inb (IntKind.wrap .i64 (s4.2+(1:Int))) (List.length s7.1)).bind fun x12=>
 Option.bind s7.1[x12]? fun x13=>
 Option.bind
 ((inb s3.2 (List.length s7.1)).bind fun x14=>
 Option.bind s7.1[x14]? fun x15=>
 bif x15.1 then
 (inb s3.2 (List.length s7.1)).bind fun x16=>
 Option.bind s7.1[x16]? fun x17=>
 bif decide (x17.2.1<IntKind.wrap .i64 (x11+x13.2.1)) then some true
 else
 (inb s3.2 (List.length s7.1)).bind fun x18=>
 Option.bind s7.1[x18]? fun x19=>
 bif decide (IntKind.wrap .i64 (x11+x13.2.1)=x19.2.1) then
 (inb (IntKind.wrap .i64 (s4.2+(1:Int))) (List.length s7.1)).bind fun x20=>
 Option.bind s7.1[x20]? fun x21=>
 (inb s3.2 (List.length s7.1)).bind fun x22=>
 Option.bind s7.1[x22]? fun x23=>
 some
 (decide
 ((↑(List.length x23.2.2.1):Int)<=
 IntKind.wrap .i64 ((1:Int)+(↑(List.length x21.2.2.1):Int))))
 else some false
 else some false)
 fun x24=>
 bif x24 then some (.inl (s7.1,IntKind.wrap .i64 (s7.2+(1:Int))))
 else
 (inb (IntKind.wrap .i64 (s4.2+(1:Int))) (List.length s7.1)).bind fun x25=>
 Option.bind s7.1[x25]? fun x26=>
 Option.bind (Zaq (decide (List.length [(s7.2,s3.2,s4.2,x11,())]+List.length x26.2.2.1<=Zar)))
 fun _=>
 (inb s3.2 (List.length s7.1)).bind fun x28=>
 Option.bind s7.1[x28]? fun _=>
 some
 (.inl
 (List.set s7.1 x28
 (true,IntKind.wrap .i64 (x11+x13.2.1),[(s7.2,s3.2,s4.2,x11,())]++x26.2.2.1,()),
 IntKind.wrap .i64 (s7.2+(1:Int))))
 else some (.inr s7.1))
 (s4.1,(0:Int)))
 fun x30=>some (.inl (x30,IntKind.wrap .i64 (s4.2+(1:Int))))
 else some (.inr s4.1))
 (s3.1,s3.2))
 fun x31=>some (.inl (x31,IntKind.wrap .i64 (s3.2 - (1:Int))))
 else some (.inr s3.1))
 (List.set (List.replicate (Int.toNat (IntKind.wrap .i64 ((↑(List.length a1):Int)+(1:Int)))) ((false,(0:Int),([]:List (El Zu5)),()))) x1 (true,x2.2),
 IntKind.wrap .i64 ((↑(List.length a1):Int) - (1:Int))))
 fun x32=>
 (inb (0:Int) (List.length x32)).bind fun x33=>
 Option.bind x32[x33]? fun x34=>
 (inb (0:Int) (List.length x32)).bind fun x35=>
 Option.bind x32[x35]? fun x36=>(inb (0:Int) (List.length x32)).bind fun x37=>Option.bind x32[x37]? fun x38=>some (x34.2.1,x36.2.2.1,x38.1)
abbrev F73A:Zal:=(.cons (.pd Y29) (.cons (.pd Zkh) .nil))
abbrev F73R:Zal:=(.cons (.pd Y3) (.cons (.pd Zru) (.cons (.pd Y4) .nil)))
def F73S:Tr.Spec:= {args:=F73A,res:=F73R,fns:=[],α:=El Y3×El Zru×El Y4,f:=fun x=>F73 x.1 x.2.1,unp:=fun z=>(((),(),()),(z.1,z.2.1,z.2.2,())) }
def F73M:List (Nat×List Tr.Spec):=[(117,[F71S]),(118,[F75S])]
def F73H:ZaU:=(.seq .leaf (.seq .leaf (.seq .leaf (.seq (.seq .leaf (.lp ⟨[(7,(.own Ztf false)),(8,(.pd Y3))],[],[1,2],[],[],[]⟩ [((.exit 0),⟨[(7,(.own Ztf false))],[],[],[],[],[]⟩)] (.seq .leaf (.seq (.seq .leaf (.lp ⟨[(7,(.own Ztf false)),(9,(.pd Y3))],[],[1,2,8],[],[],[]⟩ [((.exit 2),⟨[(7,(.own Ztf false))],[],[1,2,8],[],[],[]⟩)] (.seq .leaf (.seq (.seq .leaf (.seq .leaf (.lp ⟨[(7,(.own Ztf false)),(10,(.pd Y3))],[],[1,2,8,9],[],[],[]⟩ [((.exit 4),⟨[(7,(.own Ztf false))],[],[1,2,8,9],[],[],[]⟩)] (.seq .leaf (.seq (.seq .leaf (.seq .leaf (.seq .leaf (.seq (.seq (.reg [(117,Y4)]) .leaf) .leaf)))) .leaf))))) .leaf)))) .leaf)))) .leaf))))
def F73V(a0:El Y29)(a1:El Zkh):Option (El Y3×El Zru×El Y4):=Zau (mkE tyTab mapTab pkTab [187] [] F73M 150 bdTab) (Zah Tryz.f84) Tryz.f84.results F73H F73A F73R (fun y=>(y.2.1,y.2.2.1,y.2.2.2.1)) (a0,a1,())
theorem F73_eq(a0:El Y29)(a1:El Zkh):F73V a0 a1=F73 a0 a1:=by kernel_rfl
theorem F73_ok:ZaT Tryz.prog 84 F73S:=Zad (m:=F73M) (fn:=Tryz.f84) (hint:=F73H) (pack:=fun y=>(y.2.1,y.2.2.1,y.2.2.2.1)) Za1 tab_ok ⟨⟨F71_ok,trivial⟩,⟨F75_ok,trivial⟩,trivial⟩ fun x z h=>(F73_eq x.1 x.2.1).trans h
def F69: (El Y29)->(El Y3)->Option (El Y3):=fun a0 a1=>bif decide ((0:Int)<a0.2.2.2.1) then some (Tr.imin a0.2.2.2.1 a1) else some a1
abbrev F69A:Zal:=(.cons (.pd Y29) (.cons (.pd Y3) .nil))
abbrev F69R:Zal:=(.cons (.pd Y3) .nil)
def F69S:Tr.Spec:= {args:=F69A,res:=F69R,fns:=[],α:=El Y3,f:=fun x=>F69 x.1 x.2.1,unp:=fun z=>(((),(),()),(z,())) }
def F69M:List (Nat×List Tr.Spec):=[]
def F69H:ZaU:= .leaf
def F69V(a0:El Y29)(a1:El Y3):Option (El Y3):=Zau (mkE tyTab mapTab pkTab [] [] F69M 13 bdTab) (Zah Tryz.f85) Tryz.f85.results F69H F69A F69R (fun y=>y.2.1) (a0,a1,())
theorem F69_eq(a0:El Y29)(a1:El Y3):F69V a0 a1=F69 a0 a1:=by kernel_rfl
theorem F69_ok:ZaT Tryz.prog 85 F69S:=Zad (m:=F69M) (fn:=Tryz.f85) (hint:=F69H) (pack:=fun y=>y.2.1) Za1 tab_ok trivial fun x z h=>(F69_eq x.1 x.2.1).trans h
def F70: (El Y31)->(El Y33)->(El Y45)->Option (El ZtZ×El Zru×El Y37):=fun a0 a1 a2=>
 (F74 a0 a2).bind fun x0=>
 bif !decide (x0.2=(0:Int)) then some (((0:Int),(0:Int),(0:Int),(0:Int),(0:Int),()),[],x0.2)
 else
 bif decide ((8:Int)< (↑(List.length x0.1):Int)) then some (((0:Int),(0:Int),(0:Int),(0:Int),(0:Int),()),[],(33:Int))
 else
 (F73 a0.2.2.2.2.2.1 x0.1).bind fun x1=>
 bif !x1.2.2 then some (((0:Int),(0:Int),(0:Int),(0:Int),(0:Int),()),[],(34:Int))
 else
 (F69 a0.2.2.2.2.2.1 x1.1).bind fun x2=>
 (F76 a2).bind fun x3=>
 Option.bind
 (bif decide ((0:Int)< (↑(List.length a2.1):Int)) then
 (idx a2.1 (0:Int)).bind fun x4=>
 (idx a2.1 (IntKind.wrap .i64 ((↑(List.length a2.1):Int) - (1:Int)))).bind fun x5=>
 some (x4.2.2.2.2.2.2.1,x5.2.2.2.2.2.2.2.1,(↑(List.length x0.1):Int),x2,x3,())
 else some (a1.2.2.1,a1.2.2.1,(↑(List.length x0.1):Int),x2,x3,()))
 fun x6=>some (x6,x1.2.1,(0:Int))
abbrev F70A:Zal:=(.cons (.pd Y31) (.cons (.pd Y33) (.cons (.pd Y45) .nil)))
abbrev F70R:Zal:=(.cons (.pd ZtZ) (.cons (.pd Zru) (.cons (.pd Y37) .nil)))
def F70S:Tr.Spec:= {args:=F70A,res:=F70R,fns:=[],α:=El ZtZ×El Zru×El Y37,f:=fun x=>F70 x.1 x.2.1 x.2.2.1,unp:=fun z=>(((),(),(),()),(z.1,z.2.1,z.2.2,())) }
def F70M:List (Nat×List Tr.Spec):=[(54,[F76S]),(83,[F74S]),(84,[F73S]),(85,[F69S])]
def F70H:ZaU:=(.seq .leaf (.seq .leaf (.seq .leaf (.seq .leaf (.seq .leaf (.seq .leaf (.seq .leaf (.seq (.seq .leaf (.cnd (some (⟨[],[],[6,12],[],[],[]⟩,[(.normal,⟨[(14,(.var ZtZ (.pd ZtZ)))],[],[6,12],[],[],[]⟩)])) .leaf .leaf)) .leaf))))))))
def F70V(a0:El Y31)(a1:El Y33)(a2:El Y45):Option (El ZtZ×El Zru×El Y37):=Zau (mkE tyTab mapTab pkTab [] [] F70M 75 bdTab) (Zah Tryz.f55) Tryz.f55.results F70H F70A F70R (fun y=>(y.2.1,y.2.2.1,y.2.2.2.1)) (a0,a1,a2,())
theorem F70_eq(a0:El Y31)(a1:El Y33)(a2:El Y45):F70V a0 a1 a2=F70 a0 a1 a2:=by kernel_rfl
theorem F70_ok:ZaT Tryz.prog 55 F70S:=Zad (m:=F70M) (fn:=Tryz.f55) (hint:=F70H) (pack:=fun y=>(y.2.1,y.2.2.1,y.2.2.2.1)) Za1 tab_ok ⟨⟨F76_ok,trivial⟩,⟨F74_ok,trivial⟩,⟨F73_ok,trivial⟩,⟨F69_ok,trivial⟩,trivial⟩ fun x z h=>(F70_eq x.1 x.2.1 x.2.2.1).trans h
end
end Q
