/- The functions of the program as functions of Lean, and that the program computes them; printed by a program of mine. Conditions: none. -/
import Derived.Test.YtckebckjnfcniaaGreatFin42a
open Tr Go Go.Proofs
namespace Q
noncomputable section
def F121: (Tz0)->(El Zih)->Option (Tz0):=fun a0 a1=>
 (idx a0.1.2.2.1 a1.1).bind fun x0=>
 (inb a1.2.2.1 (List.length a0.2.2.2.1)).bind fun x1=>
 Option.bind a0.2.2.2.1[x1]? fun x2=>
 Option.bind
 ((idx x0.2.2.2.2.2.2.2.1 a1.2.1).bind fun x3=>
 bif x3.2.2.2.1 then bif !decide (x2.2.2.1=(-1:Int)) then some (decide (x2.2.2.1<=a1.2.2.2.2.1)) else some false
 else some false)
 fun x4=>
 Option.bind
 (bif x4 then
 Option.bind
 (F117 a0 a1.1
 (a1.2.1,x2.2.2.2.2.1,false,()))
 fun x5=>some x5
 else some a0)
 fun x6=>
 (inb a1.1 (List.length x6.2.2.2.2.1)).bind fun x7=>
 Option.bind x6.2.2.2.2.1[x7]? fun x8=>
 Option.bind (bif decide (x8.1=(-1:Int)) then some true else some (decide (a1.2.1<x8.1))) fun x9=>
 bif x9 then some x6
 else
 (idx x0.2.2.2.2.2.2.2.1 (IntKind.wrap .i64 (a1.2.1+(1:Int)))).bind fun x10=>
 Option.bind
 (bif !x10.2.2.2.2.1 then (idx x6.2.2.2.2.2.1 a1.1).bind fun x11=>some (decide ((↑(List.length x11):Int)=(0:Int)))
 else some false)
 fun x12=>
 bif x12 then some x6
 else
 (idx x0.2.2.2.2.2.2.2.1 x8.1).bind fun x13=>
 (idx x0.2.2.2.2.2.2.2.1 x8.1).bind fun x14=>
 Option.bind
 (F116 x6
 (true,a1.1,x8.1,IntKind.wrap .i64 (a1.2.1+(1:Int)),x13.1,a1.2.2.2.1,x14.2.2.1,a1.2.2.2.2.2.1,
 x8.2.2.1,())
 x8.2.1)
 fun x15=>
 Option.bind
 (bif x10.2.2.2.2.1 then
 (inb a1.2.2.2.1 (List.length x15.1.2.2.2.1)).bind fun x16=>
 (idx x15.1.1.1 a1.2.2.2.1).bind fun x17=>
 Option.bind
 (F119
 x15.1
 a1.2.2.2.1 a1.2.2.2.2.2.1 (IntKind.wrap .i64 (a1.2.2.2.2.2.1+x17.2.2.2.1)) x15.2)
 fun x18=>
 Option.bind
 (Option.bind x18.2.2.2.1[x16]? fun x19=>
 bif decide (x19.2.1=(-1:Int)) then some true
 else Option.bind x18.2.2.2.1[x16]? fun x20=>some (decide (a1.2.2.2.2.2.1<x20.2.1)))
 fun x21=>
 Option.bind
 (bif x21 then
 Option.bind x18.2.2.2.1[x16]? fun x22=>
 Option.bind
 (F122
 (x18.1,x18.2.1,x18.2.2.1,List.set x18.2.2.2.1 x16 (x22.1,a1.2.2.2.2.2.1,x22.2.2),
 x18.2.2.2.2.1,x18.2.2.2.2.2.1,x18.2.2.2.2.2.2.1,())
 a1.2.2.2.1 a1.2.2.2.2.2.1 x15.2)
 fun x23=>
 some
 x23
 else
 some
 x18)
 fun x24=>
 some
 x24
 else
 some
 x15.1)
 fun x25=>
 Option.bind
 (F118
 x25 a1.1
 (IntKind.wrap .i64 (a1.2.1+(1:Int))) x15.2 x10.2.2.2.2.1)
 fun x26=>
 some x26
abbrev F121A:Zam:=(.cons Pz1 (.cons (.pd Zih) .nil))
abbrev F121R:Zam:= .nil
def F121S:Tr.Spec:= {args:=F121A,res:=F121R,fns:=[],α:=Tz0,f:=fun x=>F121 x.1 x.2.1,unp:=fun z=>((z,(),()),()) }
def F121M:List (Nat×List Tr.Spec):=[(65,[F122S]),(66,[F119S]),(72,[F117S]),(73,[F116S]),(74,[F118S])]
def F121H:ZaT:=(.seq .leaf (.seq .leaf (.seq .leaf (.seq (.seq (.reg [(45,Y4)]) (.cnd (some (⟨[],[],[3,4],[],[],[]⟩,[(.normal,⟨[(0,Pz1)],[],[3,4],[],[],[]⟩)])) .leaf .leaf)) (.seq .leaf (.seq (.seq (.reg [(72,Y4)]) .leaf) (.seq .leaf (.seq (.seq (.reg [(93,Y4)]) .leaf) (.seq .leaf (.seq (.seq .leaf (.cnd (some (⟨[],[],[3,7,8],[],[],[]⟩,[(.normal,⟨[(0,Pz1)],[],[3,7,8],[],[],[]⟩)])) (.seq .leaf (.seq .leaf (.seq (.reg [(165,Y4)]) (.cnd (some (⟨[],[],[3,7,8],[],[],[]⟩,[(.normal,⟨[(0,Pz1)],[],[3,7,8],[],[],[]⟩)])) .leaf .leaf)))) .leaf)) .leaf))))))))))
theorem F121_eq(a0:Tz0)(a1:El Zih):(Zau (mkE tyTab mapTab pkTab [] [] F121M 187 bdTab) (Zai Tryz.f43) Tryz.f43.results F121H F121A F121R (fun y=>y.1.1) (a0,a1,()):Option (Tz0))=F121 a0 a1:=by kernel_rfl
theorem F121_ok:ZaQ Tryz.prog 43 F121S:=Zae (m:=F121M) (fn:=Tryz.f43) (hint:=F121H) (pack:=fun y=>y.1.1) Za2 tab_ok ⟨⟨F122_ok,trivial⟩,⟨F119_ok,trivial⟩,⟨F117_ok,trivial⟩,⟨F116_ok,trivial⟩,⟨F118_ok,trivial⟩,trivial⟩ fun x z h=>(F121_eq x.1 x.2.1).trans h
def F114: (El Y31)->(El Y33)->Option (Tz0×El Y37):=fun a0 a1=>
 (F113 a0 a1).bind fun x0=>
 bif !decide (x0=(0:Int)) then none
 else
 (F12 a0 a1).bind fun x1=>
 (F123 x1.1 a1).bind fun x2=>
 (F6 x1.1).bind fun x3=>
 bif !decide (x3.2=(0:Int)) then none
 else
 Option.bind
 (run
 (fun s4=>
 bif decide (s4.2< (↑(List.length x3.1):Int)) then
 (idx x3.1 s4.2).bind fun x5=>
 (F7 x3.1 x5.2.2.2.2.1).bind fun x6=>
 Option.bind (sliceB (List.length x3.1) (List.length x3.1) (some s4.2) (some x6)) fun x7=>
 Option.bind
 (run
 (fun s8=>
 bif decide (s8.2< (↑(List.length (List.take (x7.2 - x7.1) (List.drop x7.1 x3.1))):Int)) then
 (idx (List.take (x7.2 - x7.1) (List.drop x7.1 x3.1)) s8.2).bind fun x9=>
 Option.bind
 (F121
 s8.1
 x9)
 fun x10=>
 some
 (.inl
 (x10,
 IntKind.wrap .i64 (s8.2+(1:Int))))
 else
 some
 (.inr
 s8.1))
 ((s4.1.1,s4.1.2.1,s4.1.2.2.1,s4.1.2.2.2.1,s4.1.2.2.2.2.1,s4.1.2.2.2.2.2.1,false,()),(0:Int)))
 fun x11=>
 bif x11.2.2.2.2.2.2.1 then
 some
 (.inl
 (x11,s4.2))
 else
 some
 (.inl
 (x11,x6))
 else
 some
 (.inr
 s4.1))
 (x2,(0:Int)))
 fun x12=>
 some (x12,(0:Int))
abbrev F114A:Zam:=(.cons (.pd Y31) (.cons (.pd Y33) .nil))
abbrev F114R:Zam:=(.cons Pz1 (.cons (.pd Y37) .nil))
def F114S:Tr.Spec:= {args:=F114A,res:=F114R,fns:=[],α:=Tz0×El Y37,f:=fun x=>F114 x.1 x.2.1,unp:=fun z=>(((),(),()),(z.1,z.2,())) }
def F114M:List (Nat×List Tr.Spec):=[(38,[F113S]),(39,[F12S]),(40,[F123S]),(41,[F6S]),(42,[F7S]),(43,[F121S])]
def F114H:ZaT:=(.seq .leaf (.seq .leaf (.seq .leaf (.seq .leaf (.seq .leaf (.seq .leaf (.seq .leaf (.seq (.seq .leaf (.lp ⟨[(9,Pz1),(12,(.pd Y3))],[],[10],[],[],[]⟩ [((.exit 0),⟨[(9,Pz1)],[],[],[],[],[]⟩)] (.seq .leaf (.seq .leaf (.seq .leaf (.seq (.seq .leaf (.lp ⟨[(9,Pz1),(58,(.pd Y3))],[],[10,12,13,56,57],[],[],[]⟩ [((.exit 2),⟨[(9,Pz1)],[],[10,12,13],[],[],[]⟩)] .leaf)) .leaf)))))) .leaf))))))))
theorem F114_eq(a0:El Y31)(a1:El Y33):(Zau (mkE tyTab mapTab pkTab [] [] F114M 72 bdTab) (Zai Tryz.f24) Tryz.f24.results F114H F114A F114R (fun y=>(y.2.1,y.2.2.1)) (a0,a1,()):Option (Tz0×El Y37))=F114 a0 a1:=by kernel_rfl
theorem F114_ok:ZaQ Tryz.prog 24 F114S:=Zae (m:=F114M) (fn:=Tryz.f24) (hint:=F114H) (pack:=fun y=>(y.2.1,y.2.2.1)) Za2 tab_ok ⟨⟨F113_ok,trivial⟩,⟨F12_ok,trivial⟩,⟨F123_ok,trivial⟩,⟨F6_ok,trivial⟩,⟨F7_ok,trivial⟩,⟨F121_ok,trivial⟩,trivial⟩ fun x z h=>(F114_eq x.1 x.2.1).trans h
def F115: (El Y31)->(El Y33)->Option (Unit×El Y37):=fun a0 a1=>
 (F113 a0 a1).bind fun x0=>
 bif !decide (x0=(0:Int)) then some ((),x0)
 else
 (F12 a0 a1).bind fun x1=>
 (F123 x1.1 a1).bind fun x2=>
 (F6 x1.1).bind fun x3=>
 bif !decide (x3.2=(0:Int)) then some ((),x3.2)
 else
 Option.bind
 (run
 (fun s4=>
 bif decide (s4.2< (↑(List.length x3.1):Int)) then
 (idx x3.1 s4.2).bind fun x5=>
 (F7 x3.1 x5.2.2.2.2.1).bind fun x6=>
 Option.bind (sliceB (List.length x3.1) (List.length x3.1) (some s4.2) (some x6)) fun x7=>
 Option.bind
 (run
 (fun s8=>
 bif decide (s8.2< (↑(List.length (List.take (x7.2 - x7.1) (List.drop x7.1 x3.1))):Int)) then
 (idx (List.take (x7.2 - x7.1) (List.drop x7.1 x3.1)) s8.2).bind fun x9=>
 Option.bind
 (F121
 s8.1
 x9)
 fun x10=>
 some
 (.inl
 (x10,
 IntKind.wrap .i64 (s8.2+(1:Int))))
 else
 some
 (.inr
 s8.1))
 ((s4.1.1,s4.1.2.1,s4.1.2.2.1,s4.1.2.2.2.1,s4.1.2.2.2.2.1,s4.1.2.2.2.2.2.1,false,()),(0:Int)))
 fun x11=>
 bif x11.2.2.2.2.2.2.1 then
 some
 (.inl
 (x11,s4.2))
 else
 some
 (.inl
 (x11,x6))
 else
 some
 (.inr
 s4.1))
 (x2,(0:Int)))
 fun _=>none
abbrev F115A:Zam:=(.cons (.pd Y31) (.cons (.pd Y33) .nil))
abbrev F115R:Zam:=(.cons .nilr (.cons (.pd Y37) .nil))
def F115S:Tr.Spec:= {args:=F115A,res:=F115R,fns:=[],α:=Unit×El Y37,f:=fun x=>F115 x.1 x.2.1,unp:=fun z=>(((),(),()),(z.1,z.2,())) }
def F115M:List (Nat×List Tr.Spec):=[(38,[F113S]),(39,[F12S]),(40,[F123S]),(41,[F6S]),(42,[F7S]),(43,[F121S])]
def F115H:ZaT:=(.seq .leaf (.seq .leaf (.seq .leaf (.seq .leaf (.seq .leaf (.seq .leaf (.seq .leaf (.seq (.seq .leaf (.lp ⟨[(9,Pz1),(12,(.pd Y3))],[],[10],[],[],[]⟩ [((.exit 0),⟨[(9,Pz1)],[],[],[],[],[]⟩)] (.seq .leaf (.seq .leaf (.seq .leaf (.seq (.seq .leaf (.lp ⟨[(9,Pz1),(58,(.pd Y3))],[],[10,12,13,56,57],[],[],[]⟩ [((.exit 2),⟨[(9,Pz1)],[],[10,12,13],[],[],[]⟩)] .leaf)) .leaf)))))) .leaf))))))))
theorem F115_eq(a0:El Y31)(a1:El Y33):(Zau (mkE tyTab mapTab pkTab [] [] F115M 72 bdTab) (Zai Tryz.f24) Tryz.f24.results F115H F115A F115R (fun y=>(y.2.1,y.2.2.1)) (a0,a1,()):Option (Unit×El Y37))=F115 a0 a1:=by kernel_rfl
theorem F115_ok:ZaQ Tryz.prog 24 F115S:=Zae (m:=F115M) (fn:=Tryz.f24) (hint:=F115H) (pack:=fun y=>(y.2.1,y.2.2.1)) Za2 tab_ok ⟨⟨F113_ok,trivial⟩,⟨F12_ok,trivial⟩,⟨F123_ok,trivial⟩,⟨F6_ok,trivial⟩,⟨F7_ok,trivial⟩,⟨F121_ok,trivial⟩,trivial⟩ fun x z h=>(F115_eq x.1 x.2.1).trans h
def F110: (El Y31)->(El Y33)->Option (El Y36×El Y37):=fun a0 a1=>
 bif Option.isSome (F114S.f (a0,a1,())) then
 (F114 a0 a1).bind fun x0=>
 bif !decide (x0.2=(0:Int)) then some ([],x0.2)
 else
 Option.bind
 (run
 (fun s1=>
 bif decide (s1.2.2< (↑(List.length x0.1.2.2.2.1):Int)) then
 (inb s1.2.2 (List.length s1.2.1)).bind fun x2=>
 Option.bind s1.2.1[x2]? fun x3=>
 Option.bind (Zar (decide (List.length s1.1+List.length [x3.1]<=Zaq))) fun _=>
 some (.inl (s1.1++[x3.1],s1.2.1,IntKind.wrap .i64 (s1.2.2+(1:Int))))
 else some (.inr s1.1))
 ([],x0.1.2.2.2.1,(0:Int)))
 fun x5=>some (x5,(0:Int))
 else (F115 a0 a1).bind fun x6=>bif !decide (x6.2=(0:Int)) then some ([],x6.2) else none
abbrev F110A:Zam:=(.cons (.pd Y31) (.cons (.pd Y33) .nil))
abbrev F110R:Zam:=(.cons (.pd Y36) (.cons (.pd Y37) .nil))
def F110S:Tr.Spec:= {args:=F110A,res:=F110R,fns:=[],α:=El Y36×El Y37,f:=fun x=>F110 x.1 x.2.1,unp:=fun z=>(((),(),()),(z.1,z.2,())) }
def F110M:List (Nat×List Tr.Spec):=[(24,[F114S,F115S])]
def F110H:ZaT:=(.seq .leaf (.seq .leaf (.seq .leaf (.seq .leaf (.seq (.seq .leaf (.lp ⟨[(8,(.own Y3 false)),(23,(.own Y73 false)),(25,(.pd Y3))],[],[24],[],[],[]⟩ [((.exit 0),⟨[(8,(.own Y3 false))],[],[],[],[],[]⟩)] .leaf)) .leaf)))))
theorem F110_eq(a0:El Y31)(a1:El Y33):(Zau (mkE tyTab mapTab pkTab [] [] F110M 36 bdTab) (Zai Tryz.f10) Tryz.f10.results F110H F110A F110R (fun y=>(y.2.1,y.2.2.1)) (a0,a1,()):Option (El Y36×El Y37))=F110 a0 a1:=by kernel_rfl
theorem F110_ok:ZaQ Tryz.prog 10 F110S:=Zae (m:=F110M) (fn:=Tryz.f10) (hint:=F110H) (pack:=fun y=>(y.2.1,y.2.2.1)) Za2 tab_ok ⟨⟨F114_ok,F115_ok,trivial⟩,trivial⟩ fun x z h=>(F110_eq x.1 x.2.1).trans h
def F112: (El Y31)->(El Y33)->(El Y3)->Option (El Y36×El Y37):=fun a0 a1 a2=>
 (F110 a0 a1).bind fun x0=>
 Option.bind
 (run
 (fun s1=>
 bif decide (s1.2< (↑(List.length x0.1):Int)) then
 (idx x0.1 s1.2).bind fun x2=>
 Option.bind (bif !decide (x2=(-1:Int)) then some (decide (x2<=a2)) else some false) fun x3=>
 bif x3 then
 Option.bind (Zar (decide (List.length s1.1+List.length [s1.2]<=Zaq))) fun _=>
 some (.inl (s1.1++[s1.2],IntKind.wrap .i64 (s1.2+(1:Int))))
 else some (.inl (s1.1,IntKind.wrap .i64 (s1.2+(1:Int))))
 else some (.inr s1.1))
 ([],(0:Int)))
 fun x5=>some (x5,x0.2)
abbrev F112A:Zam:=(.cons (.pd Y31) (.cons (.pd Y33) (.cons (.pd Y3) .nil)))
abbrev F112R:Zam:=(.cons (.pd Y36) (.cons (.pd Y37) .nil))
def F112S:Tr.Spec:= {args:=F112A,res:=F112R,fns:=[],α:=El Y36×El Y37,f:=fun x=>F112 x.1 x.2.1 x.2.2.1,unp:=fun z=>(((),(),(),()),(z.1,z.2,())) }
def F112M:List (Nat×List Tr.Spec):=[(10,[F110S])]
def F112H:ZaT:=(.seq .leaf (.seq .leaf (.seq .leaf (.seq (.seq .leaf (.lp ⟨[(10,(.own Y3 false)),(21,(.pd Y3))],[],[2,9,19,20],[],[],[]⟩ [((.exit 0),⟨[(10,(.own Y3 false))],[],[9],[],[],[]⟩)] (.seq .leaf (.seq .leaf (.seq (.seq .leaf (.seq (.reg [(32,Y4)]) .leaf)) .leaf))))) .leaf))))
theorem F112_eq(a0:El Y31)(a1:El Y33)(a2:El Y3):(Zau (mkE tyTab mapTab pkTab [] [] F112M 40 bdTab) (Zai Tryz.f12) Tryz.f12.results F112H F112A F112R (fun y=>(y.2.1,y.2.2.1)) (a0,a1,a2,()):Option (El Y36×El Y37))=F112 a0 a1 a2:=by kernel_rfl
theorem F112_ok:ZaQ Tryz.prog 12 F112S:=Zae (m:=F112M) (fn:=Tryz.f12) (hint:=F112H) (pack:=fun y=>(y.2.1,y.2.2.1)) Za2 tab_ok ⟨⟨F110_ok,trivial⟩,trivial⟩ fun x z h=>(F112_eq x.1 x.2.1 x.2.2.1).trans h
def F55: (El Y36)->(El Y36)->Option (El Y4):=fun a0 a1=>
 bif !decide ((↑(List.length a0):Int)=(↑(List.length a1):Int)) then some false
 else
 Option.bind
 (run
 (fun s0=>
 bif decide (s0< (↑(List.length a0):Int)) then
 (idx a0 s0).bind fun x1=>
 (idx a1 s0).bind fun x2=>
 bif !decide (x1=x2) then some (.inr (.inr false)) else some (.inl (IntKind.wrap .i64 (s0+(1:Int))))
 else some (.inr (.inl ())))
 (0:Int))
 fun x3=>Sum.elim (fun _=>some true) (fun y5=>some y5) x3
abbrev F55A:Zam:=(.cons (.pd Y36) (.cons (.pd Y36) .nil))
abbrev F55R:Zam:=(.cons (.pd Y4) .nil)
def F55S:Tr.Spec:= {args:=F55A,res:=F55R,fns:=[],α:=El Y4,f:=fun x=>F55 x.1 x.2.1,unp:=fun z=>(((),(),()),(z,())) }
def F55M:List (Nat×List Tr.Spec):=[]
def F55H:ZaT:=(.seq .leaf (.seq .leaf (.seq (.seq .leaf (.lp ⟨[(5,(.pd Y3))],[],[0,1],[],[],[]⟩ [((.exit 0),⟨[],[],[],[],[],[]⟩),(.ret,⟨[(4,(.pd Y4))],[],[],[],[],[]⟩)] .leaf)) .leaf)))
theorem F55_eq(a0:El Y36)(a1:El Y36):(Zau (mkE tyTab mapTab pkTab [] [] F55M 26 bdTab) (Zai Tryz.f14) Tryz.f14.results F55H F55A F55R (fun y=>y.2.1) (a0,a1,()):Option (El Y4))=F55 a0 a1:=by kernel_rfl
theorem F55_ok:ZaQ Tryz.prog 14 F55S:=Zae (m:=F55M) (fn:=Tryz.f14) (hint:=F55H) (pack:=fun y=>y.2.1) Za2 tab_ok trivial fun x z h=>(F55_eq x.1 x.2.1).trans h
def F120: (Tz0)->(El Y3)->Option (Tz0×El Y45):=fun a0 a1=>
 Option.bind
 (run
 (fun s0=>
 bif !decide (s0.2.1=(-1:Int)) then
 (inb s0.2.1 (List.length s0.1.2.2.1)).bind fun x1=>
 Option.bind s0.1.2.2.1[x1]? fun x2=>
 Option.bind (Zar (decide (List.length s0.2.2+List.length [x2.1]<=Zaq))) fun _=>
 (inb s0.2.1 (List.length s0.1.2.2.1)).bind fun x4=>
 Option.bind s0.1.2.2.1[x4]? fun x5=>
 some
 (.inl
 (s0.1,
 x5.2.1,s0.2.2++[x2.1]))
 else
 some
 (.inr
 (s0.1,
 s0.2.2)))
 (a0,a1,[]))
 fun x6=>
 Option.bind
 (Zar
 (decide
 ((0:El (Tr.Ty.int .i64))<=(↑(List.length x6.2):Int)/\
 (↑(List.length x6.2):Int)<=(↑(List.length x6.2):Int)/\(↑(List.length x6.2):Int)<=(↑Zaq:El (Tr.Ty.int .i64)))))
 fun _=>
 Option.bind
 (run
 (fun s8=>
 bif decide (s8.2.2.2< (↑(List.length x6.2):Int)) then
 (inb s8.2.2.2 (List.length s8.2.1)).bind fun x9=>
 Option.bind s8.2.1[x9]? fun x10=>
 Option.bind (inb (IntKind.wrap .i64 (IntKind.wrap .i64 ((↑(List.length s8.2.1):Int) - (1:Int)) - s8.2.2.2)) (List.length s8.2.2.1))
 fun x11=>
 Option.bind s8.2.2.1[x11]? fun _=>
 some
 (.inl
 (s8.1,
 s8.2.1,List.set s8.2.2.1 x11 x10,IntKind.wrap .i64 (s8.2.2.2+(1:Int))))
 else
 some
 (.inr
 (s8.1,
 s8.2.2.1)))
 (x6.1,x6.2,
 List.take (Min.min (List.length x6.2) (List.length (List.replicate (Int.toNat (↑(List.length x6.2):Int)) ((false,(0:Int),(0:Int),(0:Int),(0:Int),(0:Int),(0:Int),(0:Int),false,()))))) x6.2++
 List.drop (Min.min (List.length x6.2) (List.length (List.replicate (Int.toNat (↑(List.length x6.2):Int)) ((false,(0:Int),(0:Int),(0:Int),(0:Int),(0:Int),(0:Int),(0:Int),false,())))))
 (List.replicate (Int.toNat (↑(List.length x6.2):Int)) ((false,(0:Int),(0:Int),(0:Int),(0:Int),(0:Int),(0:Int),(0:Int),false,()))),
 (0:Int)))
 fun x13=>
 Option.bind
 (bif decide ((1:Int)< (↑(List.length x13.2):Int)) then
 (inb (0:Int) (List.length x13.2)).bind fun x14=>Option.bind x13.2[x14]? fun x15=>some !x15.1
 else some false)
 fun x16=>
 bif x16 then
 (inb (0:Int) (List.length x13.2)).bind fun x17=>
 (inb (1:Int) (List.length x13.2)).bind fun x18=>
 Option.bind x13.2[x18]? fun x19=>
 Option.bind x13.2[x17]? fun x20=>
 Option.bind x13.2[x17]? fun x21=>
 (inb (1:Int) (List.length x13.2)).bind fun x22=>
 Option.bind x13.2[x22]? fun x23=>
 Option.bind x13.2[x17]? fun x24=>
 Option.bind
 (List.set x13.2 x17
 (x24.1,x24.2.1,x24.2.2.1,x24.2.2.2.1,x24.2.2.2.2.1,x24.2.2.2.2.2.1,
 IntKind.wrap .i64
 (x19.2.2.2.2.2.2.1 - IntKind.wrap .i64 (x20.2.2.2.2.2.2.2.1 - x21.2.2.2.2.2.2.1)),
 x24.2.2.2.2.2.2.2))[x17]?
 fun x25=>
 some
 (x13.1,
 List.set
 (List.set x13.2 x17
 (x24.1,x24.2.1,x24.2.2.1,x24.2.2.2.1,x24.2.2.2.2.1,x24.2.2.2.2.2.1,
 IntKind.wrap .i64
 (x19.2.2.2.2.2.2.1 - IntKind.wrap .i64 (x20.2.2.2.2.2.2.2.1 - x21.2.2.2.2.2.2.1)),
 x24.2.2.2.2.2.2.2))
 x17
 (x25.1,x25.2.1,x25.2.2.1,x25.2.2.2.1,x25.2.2.2.2.1,x25.2.2.2.2.2.1,x25.2.2.2.2.2.2.1,
 x23.2.2.2.2.2.2.1,x25.2.2.2.2.2.2.2.2),
 ())
 else
 some
 (x13.1,
 x13.2,())
abbrev F120A:Zam:=(.cons Pz1 (.cons (.pd Y3) .nil))
abbrev F120R:Zam:=(.cons (.pd Y45) .nil)
def F120S:Tr.Spec:= {args:=F120A,res:=F120R,fns:=[],α:=Tz0×El Y45,f:=fun x=>F120 x.1 x.2.1,unp:=fun z=>((z.1,(),()),(z.2,())) }
def F120M:List (Nat×List Tr.Spec):=[]
def F120H:ZaT:=(.seq .leaf (.seq .leaf (.seq (.lp ⟨[(0,Pz1),(1,(.pd Y3)),(5,(.own Y51 false))],[],[4],[],[],[]⟩ [((.exit 0),⟨[(0,Pz1),(5,(.own Y51 false))],[],[4],[],[],[]⟩)] .leaf) (.seq .leaf (.seq .leaf (.seq (.seq .leaf (.lp ⟨[(0,Pz1),(5,(.own Y51 false)),(6,(.own Y51 false)),(38,(.pd Y3))],[],[4,37],[],[],[]⟩ [((.exit 2),⟨[(0,Pz1),(6,(.own Y51 false))],[],[4],[],[],[]⟩)] .leaf)) (.seq (.seq (.reg [(62,Y4)]) .leaf) .leaf)))))))
theorem F120_eq(a0:Tz0)(a1:El Y3):(Zau (mkE tyTab mapTab pkTab [] [] F120M 91 bdTab) (Zai Tryz.f28) Tryz.f28.results F120H F120A F120R (fun y=>(y.1.1,y.2.1)) (a0,a1,()):Option (Tz0×El Y45))=F120 a0 a1:=by kernel_rfl
theorem F120_ok:ZaQ Tryz.prog 28 F120S:=Zae (m:=F120M) (fn:=Tryz.f28) (hint:=F120H) (pack:=fun y=>(y.1.1,y.2.1)) Za2 tab_ok trivial fun x z h=>(F120_eq x.1 x.2.1).trans h
def F111: (El Y31)->(El Y33)->Option (El Y45×El Y37):=fun a0 a1=>
 bif Option.isSome (F114S.f (a0,a1,())) then
 (F114 a0 a1).bind fun x0=>
 bif !decide (x0.2=(0:Int)) then some ((([]:List (El Y51)),()),x0.2)
 else
 bif decide (a1.1=a1.2.1) then some ((([]:List (El Y51)),()),(0:Int))
 else
 (inb a1.2.1 (List.length x0.1.2.2.2.1)).bind fun x1=>
 Option.bind x0.1.2.2.2.1[x1]? fun x2=>
 bif decide (x2.1=(-1:Int)) then some ((([]:List (El Y51)),()),(23:Int))
 else
 Option.bind
 (F120
 x0.1
 x2.2.2.2.1)
 fun x3=>some (x3.2,(0:Int))
 else
 (F115 a0 a1).bind fun x4=>
 bif !decide (x4.2=(0:Int)) then some ((([]:List (El Y51)),()),x4.2)
 else bif decide (a1.1=a1.2.1) then some ((([]:List (El Y51)),()),(0:Int)) else none
abbrev F111A:Zam:=(.cons (.pd Y31) (.cons (.pd Y33) .nil))
abbrev F111R:Zam:=(.cons (.pd Y45) (.cons (.pd Y37) .nil))
def F111S:Tr.Spec:= {args:=F111A,res:=F111R,fns:=[],α:=El Y45×El Y37,f:=fun x=>F111 x.1 x.2.1,unp:=fun z=>(((),(),()),(z.1,z.2,())) }
def F111M:List (Nat×List Tr.Spec):=[(24,[F114S,F115S]),(28,[F120S])]
def F111H:ZaT:= .leaf
theorem F111_eq(a0:El Y31)(a1:El Y33):(Zau (mkE tyTab mapTab pkTab [] [] F111M 41 bdTab) (Zai Tryz.f15) Tryz.f15.results F111H F111A F111R (fun y=>(y.2.1,y.2.2.1)) (a0,a1,()):Option (El Y45×El Y37))=F111 a0 a1:=by kernel_rfl
theorem F111_ok:ZaQ Tryz.prog 15 F111S:=Zae (m:=F111M) (fn:=Tryz.f15) (hint:=F111H) (pack:=fun y=>(y.2.1,y.2.2.1)) Za2 tab_ok ⟨⟨F114_ok,F115_ok,trivial⟩,⟨F120_ok,trivial⟩,trivial⟩ fun x z h=>(F111_eq x.1 x.2.1).trans h
def F34:Option (El Y31):=some
 ([([(97:UInt8)],(0:Int),false,(0:Int),()),([(98:UInt8)],(0:Int),false,(0:Int),()),([(99:UInt8)],(0:Int),false,(0:Int),())],
 [([(114:UInt8)],(0:Int),false,())],
 [((0:Int),(0:Int),(0:Int),[(120:UInt8)],(0:Int),false,false,
 [((0:Int),(90:Int),(100:Int),true,true,()),((1:Int),(160:Int),(160:Int),true,true,()),
 ((2:Int),(220:Int),(220:Int),true,true,())],
 ()),
 ((0:Int),(0:Int),(0:Int),[(121:UInt8)],(0:Int),false,false,
 [((1:Int),(100:Int),(100:Int),true,true,()),((0:Int),(150:Int),(150:Int),true,true,())],())],
 ([]:List (El ZuY)),([]:List (El Y59)),(([]:List (El Zo0)),(0:Int),(0:Int),(0:Int),()),())
abbrev F34A:Zam:= .nil
abbrev F34R:Zam:=(.cons (.pd Y31) .nil)
def F34S:Tr.Spec:= {args:=F34A,res:=F34R,fns:=[],α:=El Y31,f:=fun _=>F34,unp:=fun z=>((),(z,())) }
def F34M:List (Nat×List Tr.Spec):=[]
def F34H:ZaT:= .leaf
theorem F34_eq:(Zau (mkE tyTab mapTab pkTab [] [] F34M 20 bdTab) (Zai Tryz.f23) Tryz.f23.results F34H F34A F34R (fun y=>y.2.1) (()):Option (El Y31))=F34:=by kernel_rfl
theorem F34_ok:ZaQ Tryz.prog 23 F34S:=Zae (m:=F34M) (fn:=Tryz.f23) (hint:=F34H) (pack:=fun y=>y.2.1) Za2 tab_ok trivial fun _ z h=>(F34_eq).trans h
def F35:Option (El Y4):=Option.bind F34 fun x0=>
 (F110 x0 ((1:Int),(0:Int),(100:Int),false,(0:Int),(0:Int),false,false,(0:Int),false,())).bind fun x1=>
 (F110 x0 ((1:Int),(0:Int),(101:Int),false,(0:Int),(0:Int),false,false,(0:Int),false,())).bind fun x2=>
 (F111 x0 ((1:Int),(2:Int),(100:Int),false,(0:Int),(0:Int),false,false,(0:Int),false,())).bind fun x3=>
 (F111 x0 ((2:Int),(1:Int),(100:Int),false,(0:Int),(0:Int),false,false,(0:Int),false,())).bind fun x4=>
 Option.bind (F112 x0 ((1:Int),(0:Int),(100:Int),false,(0:Int),(0:Int),false,false,(0:Int),false,()) (150:Int))
 fun x5=>
 bif decide (x1.2=(0:Int)) then
 (F55 x1.1 [(150:Int),(100:Int),(220:Int)]).bind fun x6=>
 bif x6 then
 bif decide (x2.2=(0:Int)) then
 (F55 x2.1 [(-1:Int),(101:Int),(220:Int)]).bind fun x7=>
 bif x7 then
 bif decide (x3.2=(0:Int)) then
 bif decide ((↑(List.length x3.1.1):Int)=(1:Int)) then
 (idx x3.1.1 (0:Int)).bind fun x8=>
 bif
 x8.1==true&&
 (decide (x8.2.1=(0:Int)) &&
 (decide (x8.2.2.1=(1:Int)) &&
 (decide (x8.2.2.2.1=(2:Int)) &&
 (decide (x8.2.2.2.2.1=(1:Int)) &&
 (decide (x8.2.2.2.2.2.1=(2:Int)) &&
 (decide (x8.2.2.2.2.2.2.1=(160:Int)) &&
 (decide (x8.2.2.2.2.2.2.2.1=(220:Int)) &&x8.2.2.2.2.2.2.2.2.1==false))))))) then
 bif decide (x4.2=(23:Int)) then
 bif decide (x5.2=(0:Int)) then (F55 x5.1 [(0:Int),(1:Int)]).bind fun x9=>some x9 else some false
 else some false
 else some false
 else some false
 else some false
 else some false
 else some false
 else some false
 else some false
abbrev F35A:Zam:= .nil
abbrev F35R:Zam:=(.cons (.pd Y4) .nil)
def F35S:Tr.Spec:= {args:=F35A,res:=F35R,fns:=[],α:=El Y4,f:=fun _=>F35,unp:=fun z=>((),(z,())) }
def F35M:List (Nat×List Tr.Spec):=[(10,[F110S]),(12,[F112S]),(14,[F55S]),(15,[F111S]),(23,[F34S])]
def F35H:ZaT:= .leaf
theorem F35_eq:(Zau (mkE tyTab mapTab pkTab [] [] F35M 90 bdTab) (Zai Tryz.f9) Tryz.f9.results F35H F35A F35R (fun y=>y.2.1) (()):Option (El Y4))=F35:=by kernel_rfl
theorem F35_ok:ZaQ Tryz.prog 9 F35S:=Zae (m:=F35M) (fn:=Tryz.f9) (hint:=F35H) (pack:=fun y=>y.2.1) Za2 tab_ok ⟨⟨F110_ok,trivial⟩,⟨F112_ok,trivial⟩,⟨F55_ok,trivial⟩,⟨F111_ok,trivial⟩,⟨F34_ok,trivial⟩,trivial⟩ fun _ z h=>(F35_eq).trans h
def F62: (El Y9)->Option (El Y4):=fun a0=>
 Option.bind (bif decide ((↑(List.length a0):Int)< (1:Int)) then some true else some (decide ((32:Int)< (↑(List.length a0):Int)))) fun x0=>
 bif x0 then some false
 else
 Option.bind
 (run
 (fun s1=>
 bif decide (s1< (↑(List.length a0):Int)) then
 (idx a0 s1).bind fun x2=>
 Option.bind
 (bif decide ((97:Int)<=(↑(UInt8.toNat x2):Int)) then
 bif decide ((↑(UInt8.toNat x2):Int)<=(122:Int)) then some true
 else
 bif decide ((65:Int)<=(↑(UInt8.toNat x2):Int)) then
 bif decide ((↑(UInt8.toNat x2):Int)<=(90:Int)) then some true
 else bif decide ((48:Int)<=(↑(UInt8.toNat x2):Int)) then some (decide ((↑(UInt8.toNat x2):Int)<=(57:Int))) else some false
 else bif decide ((48:Int)<=(↑(UInt8.toNat x2):Int)) then some (decide ((↑(UInt8.toNat x2):Int)<=(57:Int))) else some false
 else
 bif decide ((65:Int)<=(↑(UInt8.toNat x2):Int)) then
 bif decide ((↑(UInt8.toNat x2):Int)<=(90:Int)) then some true
 else bif decide ((48:Int)<=(↑(UInt8.toNat x2):Int)) then some (decide ((↑(UInt8.toNat x2):Int)<=(57:Int))) else some false
 else bif decide ((48:Int)<=(↑(UInt8.toNat x2):Int)) then some (decide ((↑(UInt8.toNat x2):Int)<=(57:Int))) else some false)
 fun x3=>
 Option.bind
 (bif !x3 then
 bif !decide ((↑(UInt8.toNat x2):Int)=(45:Int)) then
 bif !decide ((↑(UInt8.toNat x2):Int)=(95:Int)) then some !decide ((↑(UInt8.toNat x2):Int)=(46:Int)) else some false
 else some false
 else some false)
 fun x4=>bif x4 then some (.inr (.inr false)) else some (.inl (IntKind.wrap .i64 (s1+(1:Int))))
 else some (.inr (.inl ())))
 (0:Int))
 fun x5=>Sum.elim (fun _=>some true) (fun y7=>some y7) x5
abbrev F62A:Zam:=(.cons (.pd Y9) .nil)
abbrev F62R:Zam:=(.cons (.pd Y4) .nil)
def F62S:Tr.Spec:= {args:=F62A,res:=F62R,fns:=[],α:=El Y4,f:=fun x=>F62 x.1,unp:=fun z=>(((),()),(z,())) }
def F62M:List (Nat×List Tr.Spec):=[]
def F62H:ZaT:=(.seq .leaf (.seq (.seq (.reg [(13,Y4)]) .leaf) (.seq (.seq .leaf (.lp ⟨[(3,(.pd Y3))],[],[0],[],[],[]⟩ [((.exit 0),⟨[],[],[],[],[],[]⟩),(.ret,⟨[(2,(.pd Y4))],[],[],[],[],[]⟩)] (.seq .leaf (.seq (.seq .leaf (.seq (.reg [(5,Y4)]) (.seq (.reg [(58,Y4)]) .leaf))) .leaf)))) .leaf)))
theorem F62_eq(a0:El Y9):(Zau (mkE tyTab mapTab pkTab [] [] F62M 59 bdTab) (Zai Tryz.f119) Tryz.f119.results F62H F62A F62R (fun y=>y.2.1) (a0,()):Option (El Y4))=F62 a0:=by kernel_rfl
theorem F62_ok:ZaQ Tryz.prog 119 F62S:=Zae (m:=F62M) (fn:=Tryz.f119) (hint:=F62H) (pack:=fun y=>y.2.1) Za2 tab_ok trivial fun x z h=>(F62_eq x.1).trans h
def F63: (El Y3)->(El Y3)->(El Y3)->Option (El Y4):=fun a0 a1 a2=>Option.bind (bif decide (a1<=a0) then some (decide (a0<=a2)) else some false) fun x0=>some x0
abbrev F63A:Zam:=(.cons (.pd Y3) (.cons (.pd Y3) (.cons (.pd Y3) .nil)))
abbrev F63R:Zam:=(.cons (.pd Y4) .nil)
def F63S:Tr.Spec:= {args:=F63A,res:=F63R,fns:=[],α:=El Y4,f:=fun x=>F63 x.1 x.2.1 x.2.2.1,unp:=fun z=>(((),(),(),()),(z,())) }
def F63M:List (Nat×List Tr.Spec):=[]
def F63H:ZaT:=(.seq .leaf (.seq (.reg [(6,Y4)]) .leaf))
theorem F63_eq(a0:El Y3)(a1:El Y3)(a2:El Y3):(Zau (mkE tyTab mapTab pkTab [] [] F63M 15 bdTab) (Zai Tryz.f120) Tryz.f120.results F63H F63A F63R (fun y=>y.2.1) (a0,a1,a2,()):Option (El Y4))=F63 a0 a1 a2:=by kernel_rfl
theorem F63_ok:ZaQ Tryz.prog 120 F63S:=Zae (m:=F63M) (fn:=Tryz.f120) (hint:=F63H) (pack:=fun y=>y.2.1) Za2 tab_ok trivial fun x z h=>(F63_eq x.1 x.2.1 x.2.2.1).trans h
def F69: (El Y22)->Option (El Y3×El Y37):=fun a0=>
 bif decide ((64:Int)< (↑(List.length a0):Int)) then some ((0:Int),(5:Int))
 else
 Option.bind
 (run
 (fun s0=>
 bif decide (s0< (↑(List.length a0):Int)) then
 (idx a0 s0).bind fun x1=>
 (F62 x1.1).bind fun x2=>
 bif !x2 then some (.inr (.inr (s0,(12:Int))))
 else
 Option.bind
 (run
 (fun s3=>
 bif decide (s3<s0) then
 (idx a0 s3).bind fun x4=>
 (idx a0 s0).bind fun x5=>
 bif decide (x4.1=x5.1) then some (.inr (.inr (s0,(6:Int)))) else some (.inl (IntKind.wrap .i64 (s3+(1:Int))))
 else some (.inr (.inl ())))
 (0:Int))
 fun x6=>
 Sum.elim
 (fun _=>
 Option.bind
 ((idx a0 s0).bind fun x8=>
 (F63 x8.2.1 (0:Int) (15:Int)).bind fun x9=>
 bif !x9 then some true
 else (idx a0 s0).bind fun x10=>(F63 x10.2.2.2.1 (0:Int) (3600:Int)).bind fun x11=>some !x11)
 fun x12=>bif x12 then some (.inr (.inr (s0,(2:Int)))) else some (.inl (IntKind.wrap .i64 (s0+(1:Int)))))
 (fun y13=>some (.inr (.inr (y13.1,y13.2)))) x6
 else some (.inr (.inl ())))
 (0:Int))
 fun x14=>Sum.elim (fun _=>some ((0:Int),(0:Int))) (fun y16=>some (y16.1,y16.2)) x14
abbrev F69A:Zam:=(.cons (.pd Y22) .nil)
abbrev F69R:Zam:=(.cons (.pd Y3) (.cons (.pd Y37) .nil))
def F69S:Tr.Spec:= {args:=F69A,res:=F69R,fns:=[],α:=El Y3×El Y37,f:=fun x=>F69 x.1,unp:=fun z=>(((),()),(z.1,z.2,())) }
def F69M:List (Nat×List Tr.Spec):=[(119,[F62S]),(120,[F63S])]
def F69H:ZaT:=(.seq .leaf (.seq .leaf (.seq (.seq .leaf (.lp ⟨[(4,(.pd Y3))],[],[0],[],[],[]⟩ [((.exit 0),⟨[],[],[],[],[],[]⟩),(.ret,⟨[(2,(.pd Y3)),(3,(.pd Y37))],[],[],[],[],[]⟩)] (.seq .leaf (.seq (.seq .leaf (.seq (.seq .leaf (.lp ⟨[(5,(.pd Y3))],[],[0,4],[],[],[]⟩ [((.exit 2),⟨[],[],[0,4],[],[],[]⟩),(.ret,⟨[(2,(.pd Y3)),(3,(.pd Y37))],[],[],[],[],[]⟩)] .leaf)) (.seq (.reg [(55,Y4)]) .leaf))) .leaf)))) .leaf)))
theorem F69_eq(a0:El Y22):(Zau (mkE tyTab mapTab pkTab [] [] F69M 57 bdTab) (Zai Tryz.f86) Tryz.f86.results F69H F69A F69R (fun y=>(y.2.1,y.2.2.1)) (a0,()):Option (El Y3×El Y37))=F69 a0:=by kernel_rfl
theorem F69_ok:ZaQ Tryz.prog 86 F69S:=Zae (m:=F69M) (fn:=Tryz.f86) (hint:=F69H) (pack:=fun y=>(y.2.1,y.2.2.1)) Za2 tab_ok ⟨⟨F62_ok,trivial⟩,⟨F63_ok,trivial⟩,trivial⟩ fun x z h=>(F69_eq x.1).trans h
def F67: (El Y23)->Option (El Y3×El Y37):=fun a0=>
 bif decide ((64:Int)< (↑(List.length a0):Int)) then some ((0:Int),(5:Int))
 else
 Option.bind
 (run
 (fun s0=>
 bif decide (s0< (↑(List.length a0):Int)) then
 (idx a0 s0).bind fun x1=>
 (F62 x1.1).bind fun x2=>
 bif !x2 then some (.inr (.inr (s0,(12:Int))))
 else
 Option.bind
 (run
 (fun s3=>
 bif decide (s3<s0) then
 (idx a0 s3).bind fun x4=>
 (idx a0 s0).bind fun x5=>
 bif decide (x4.1=x5.1) then some (.inr (.inr (s0,(6:Int)))) else some (.inl (IntKind.wrap .i64 (s3+(1:Int))))
 else some (.inr (.inl ())))
 (0:Int))
 fun x6=>
 Sum.elim
 (fun _=>
 (idx a0 s0).bind fun x8=>
 (F63 x8.2.1 (0:Int) (7:Int)).bind fun x9=>
 bif !x9 then some (.inr (.inr (s0,(2:Int)))) else some (.inl (IntKind.wrap .i64 (s0+(1:Int)))))
 (fun y10=>some (.inr (.inr (y10.1,y10.2)))) x6
 else some (.inr (.inl ())))
 (0:Int))
 fun x11=>Sum.elim (fun _=>some ((0:Int),(0:Int))) (fun y13=>some (y13.1,y13.2)) x11
abbrev F67A:Zam:=(.cons (.pd Y23) .nil)
abbrev F67R:Zam:=(.cons (.pd Y3) (.cons (.pd Y37) .nil))
def F67S:Tr.Spec:= {args:=F67A,res:=F67R,fns:=[],α:=El Y3×El Y37,f:=fun x=>F67 x.1,unp:=fun z=>(((),()),(z.1,z.2,())) }
def F67M:List (Nat×List Tr.Spec):=[(119,[F62S]),(120,[F63S])]
def F67H:ZaT:=(.seq .leaf (.seq .leaf (.seq (.seq .leaf (.lp ⟨[(4,(.pd Y3))],[],[0],[],[],[]⟩ [((.exit 0),⟨[],[],[],[],[],[]⟩),(.ret,⟨[(2,(.pd Y3)),(3,(.pd Y37))],[],[],[],[],[]⟩)] (.seq .leaf (.seq (.seq .leaf (.seq (.seq .leaf (.lp ⟨[(5,(.pd Y3))],[],[0,4],[],[],[]⟩ [((.exit 2),⟨[],[],[0,4],[],[],[]⟩),(.ret,⟨[(2,(.pd Y3)),(3,(.pd Y37))],[],[],[],[],[]⟩)] .leaf)) .leaf)) .leaf)))) .leaf)))
theorem F67_eq(a0:El Y23):(Zau (mkE tyTab mapTab pkTab [] [] F67M 48 bdTab) (Zai Tryz.f87) Tryz.f87.results F67H F67A F67R (fun y=>(y.2.1,y.2.2.1)) (a0,()):Option (El Y3×El Y37))=F67 a0:=by kernel_rfl
theorem F67_ok:ZaQ Tryz.prog 87 F67S:=Zae (m:=F67M) (fn:=Tryz.f87) (hint:=F67H) (pack:=fun y=>(y.2.1,y.2.2.1)) Za2 tab_ok ⟨⟨F62_ok,trivial⟩,⟨F63_ok,trivial⟩,trivial⟩ fun x z h=>(F67_eq x.1).trans h
def F56: (El Y82)->(El Y3)->(El Y3)->(El Y3)->Option (El Y37):=fun a0 a1 a2 a3=>
 Option.bind (bif decide ((↑(List.length a0):Int)< (2:Int)) then some true else some (decide ((32:Int)< (↑(List.length a0):Int)))) fun x0=>
 bif x0 then some (5:Int)
 else
 Option.bind
 (run
 (fun s1=>
 bif decide (s1< (↑(List.length a0):Int)) then
 (idx a0 s1).bind fun x2=>
 Option.bind (bif decide (x2.1< (0:Int)) then some true else some (decide (a1<=x2.1))) fun x3=>
 bif x3 then some (.inr (.inr (9:Int)))
 else
 Option.bind
 (bif decide ((0:Int)<s1) then (idx a0 (IntKind.wrap .i64 (s1 - (1:Int)))).bind fun x4=>some (decide (x4.1=x2.1))
 else some false)
 fun x5=>
 bif x5 then some (.inr (.inr (13:Int)))
 else
 Option.bind
 (bif decide (x2.2.1<a2) then some true
 else
 bif decide (x2.2.2.1<x2.2.1) then some true
 else
 bif decide (a3<x2.2.2.1) then some true
 else
 bif decide ((0:Int)<s1) then
 (idx a0 (IntKind.wrap .i64 (s1 - (1:Int)))).bind fun x6=>some (decide (x2.2.1<x6.2.2.1))
 else some false)
 fun x7=>bif x7 then some (.inr (.inr (10:Int))) else some (.inl (IntKind.wrap .i64 (s1+(1:Int))))
 else some (.inr (.inl ())))
 (0:Int))
 fun x8=>Sum.elim (fun _=>some (0:Int)) (fun y10=>some y10) x8
abbrev F56A:Zam:=(.cons (.pd Y82) (.cons (.pd Y3) (.cons (.pd Y3) (.cons (.pd Y3) .nil))))
abbrev F56R:Zam:=(.cons (.pd Y37) .nil)
def F56S:Tr.Spec:= {args:=F56A,res:=F56R,fns:=[],α:=El Y37,f:=fun x=>F56 x.1 x.2.1 x.2.2.1 x.2.2.2.1,unp:=fun z=>(((),(),(),(),()),(z,())) }
def F56M:List (Nat×List Tr.Spec):=[]
def F56H:ZaT:=(.seq .leaf (.seq (.seq (.reg [(18,Y4)]) .leaf) (.seq (.seq .leaf (.lp ⟨[(9,(.pd Y3))],[],[0,1,2,3],[],[],[]⟩ [((.exit 0),⟨[],[],[],[],[],[]⟩),(.ret,⟨[(8,(.pd Y37))],[],[],[],[],[]⟩)] (.seq .leaf (.seq (.seq .leaf (.seq (.seq (.reg [(37,Y4)]) .leaf) (.seq (.seq (.reg [(50,Y4)]) .leaf) (.seq (.reg [(82,Y4)]) .leaf)))) .leaf)))) .leaf)))
theorem F56_eq(a0:El Y82)(a1:El Y3)(a2:El Y3)(a3:El Y3):(Zau (mkE tyTab mapTab pkTab [] [] F56M 83 bdTab) (Zai Tryz.f121) Tryz.f121.results F56H F56A F56R (fun y=>y.2.1) (a0,a1,a2,a3,()):Option (El Y37))=F56 a0 a1 a2 a3:=by kernel_rfl
theorem F56_ok:ZaQ Tryz.prog 121 F56S:=Zae (m:=F56M) (fn:=Tryz.f121) (hint:=F56H) (pack:=fun y=>y.2.1) Za2 tab_ok trivial fun x z h=>(F56_eq x.1 x.2.1 x.2.2.1 x.2.2.2.1).trans h
def F68: (El Y31)->(El Y3)->Option (El Y37):=fun a0 a1=>
 (idx a0.2.2.1 a1).bind fun x0=>
 (F62 x0.2.2.2.1).bind fun x1=>
 bif !x1 then some (12:Int)
 else
 Option.bind (bif decide (x0.1< (-1:Int)) then some true else some (decide (x0.2.2.1< (0:Int)))) fun x2=>
 bif x2 then some (2:Int)
 else
 (F63 x0.2.1 (0:Int) (36524:Int)).bind fun x3=>
 bif !x3 then some (11:Int)
 else
 Option.bind
 (bif decide (x0.2.2.2.2.1< (0:Int)) then some true
 else some (decide ((↑(List.length a0.2.1):Int)<=x0.2.2.2.2.1)))
 fun x4=>
 bif x4 then some (9:Int)
 else
 (F56 x0.2.2.2.2.2.2.2.1 (↑(List.length a0.1):Int) (0:Int) (3155932800:Int)).bind fun x5=>
 bif !decide (x5=(0:Int)) then some x5
 else
 Option.bind
 (run
 (fun s6=>
 bif decide (s6<a1) then
 (idx a0.2.2.1 s6).bind fun x7=>
 Option.bind
 (bif decide (x7.2.2.2.1=x0.2.2.2.1) then
 bif decide (x7.2.1=x0.2.1) then some (decide (x7.2.2.1=x0.2.2.1)) else some false
 else some false)
 fun x8=>bif x8 then some (.inr (.inr (6:Int))) else some (.inl (IntKind.wrap .i64 (s6+(1:Int))))
 else some (.inr (.inl ())))
 (0:Int))
 fun x9=>Sum.elim (fun _=>some (0:Int)) (fun y11=>some y11) x9
abbrev F68A:Zam:=(.cons (.pd Y31) (.cons (.pd Y3) .nil))
abbrev F68R:Zam:=(.cons (.pd Y37) .nil)
def F68S:Tr.Spec:= {args:=F68A,res:=F68R,fns:=[],α:=El Y37,f:=fun x=>F68 x.1 x.2.1,unp:=fun z=>(((),(),()),(z,())) }
def F68M:List (Nat×List Tr.Spec):=[(119,[F62S]),(120,[F63S]),(121,[F56S])]
def F68H:ZaT:=(.seq .leaf (.seq .leaf (.seq .leaf (.seq (.seq (.reg [(25,Y4)]) .leaf) (.seq .leaf (.seq (.seq (.reg [(40,Y4)]) .leaf) (.seq .leaf (.seq .leaf (.seq (.seq .leaf (.lp ⟨[(7,(.pd Y3))],[],[1,2,5],[],[],[]⟩ [((.exit 0),⟨[],[],[],[],[],[]⟩),(.ret,⟨[(4,(.pd Y37))],[],[],[],[],[]⟩)] (.seq .leaf (.seq (.seq .leaf (.seq (.reg [(78,Y4)]) .leaf)) .leaf)))) .leaf)))))))))
theorem F68_eq(a0:El Y31)(a1:El Y3):(Zau (mkE tyTab mapTab pkTab [] [] F68M 79 bdTab) (Zai Tryz.f88) Tryz.f88.results F68H F68A F68R (fun y=>y.2.1) (a0,a1,()):Option (El Y37))=F68 a0 a1:=by kernel_rfl
theorem F68_ok:ZaQ Tryz.prog 88 F68S:=Zae (m:=F68M) (fn:=Tryz.f88) (hint:=F68H) (pack:=fun y=>y.2.1) Za2 tab_ok ⟨⟨F62_ok,trivial⟩,⟨F63_ok,trivial⟩,⟨F56_ok,trivial⟩,trivial⟩ fun x z h=>(F68_eq x.1 x.2.1).trans h
def F64: (El Y31)->(El Y3)->(El Y3)->(El Y3)->Option (El Y4):=fun a0 a1 a2 a3=>
 Option.bind
 (run
 (fun s0=>
 bif decide (s0.2<=a1) then
 Option.bind
 (run
 (fun s1=>
 bif decide (s1.2<a1) then
 Option.bind
 ((idx a0.2.2.2.1 s1.2).bind fun x2=>
 bif x2.2.2.2.2.1 then (idx a0.2.2.2.1 s1.2).bind fun x3=>some (decide (x3.1=s0.1)) else some false)
 fun x4=>
 bif x4 then (idx a0.2.2.2.1 s1.2).bind fun x5=>some (.inl (x5.2.2.1,IntKind.wrap .i64 (s1.2+(1:Int))))
 else some (.inl (s1.1,IntKind.wrap .i64 (s1.2+(1:Int))))
 else some (.inr s1.1))
 ((-1:Int),(0:Int)))
 fun x6=>bif decide (x6=a3) then some (.inr (.inr true)) else some (.inl (x6,IntKind.wrap .i64 (s0.2+(1:Int))))
 else some (.inr (.inl ())))
 (a2,(0:Int)))
 fun x7=>Sum.elim (fun _=>some false) (fun y9=>some y9) x7
abbrev F64A:Zam:=(.cons (.pd Y31) (.cons (.pd Y3) (.cons (.pd Y3) (.cons (.pd Y3) .nil))))
abbrev F64R:Zam:=(.cons (.pd Y4) .nil)
def F64S:Tr.Spec:= {args:=F64A,res:=F64R,fns:=[],α:=El Y4,f:=fun x=>F64 x.1 x.2.1 x.2.2.1 x.2.2.2.1,unp:=fun z=>(((),(),(),(),()),(z,())) }
def F64M:List (Nat×List Tr.Spec):=[]
def F64H:ZaT:=(.seq .leaf (.seq (.seq .leaf (.lp ⟨[(2,(.pd Y3)),(9,(.pd Y3))],[],[1,3,4],[],[],[]⟩ [((.exit 0),⟨[],[],[],[],[],[]⟩),(.ret,⟨[(8,(.pd Y4))],[],[],[],[],[]⟩)] (.seq .leaf (.seq (.seq .leaf (.seq (.seq .leaf (.lp ⟨[(10,(.pd Y3)),(11,(.pd Y3))],[],[1,2,3,4,9],[],[],[]⟩ [((.exit 2),⟨[(10,(.pd Y3))],[],[1,3,4,9],[],[],[]⟩)] (.seq .leaf (.seq (.seq (.reg [(37,Y4)]) .leaf) .leaf)))) .leaf)) .leaf)))) .leaf))
theorem F64_eq(a0:El Y31)(a1:El Y3)(a2:El Y3)(a3:El Y3):(Zau (mkE tyTab mapTab pkTab [] [] F64M 48 bdTab) (Zai Tryz.f122) Tryz.f122.results F64H F64A F64R (fun y=>y.2.1) (a0,a1,a2,a3,()):Option (El Y4))=F64 a0 a1 a2 a3:=by kernel_rfl
theorem F64_ok:ZaQ Tryz.prog 122 F64S:=Zae (m:=F64M) (fn:=Tryz.f122) (hint:=F64H) (pack:=fun y=>y.2.1) Za2 tab_ok trivial fun x z h=>(F64_eq x.1 x.2.1 x.2.2.1 x.2.2.2.1).trans h
def F65: (El Y31)->(El Y3)->Option (El Y37):=fun a0 a1=>
 (idx a0.2.2.2.1 a1).bind fun x0=>
 Option.bind
 ((F63 x0.1 (0:Int) (IntKind.wrap .i64 ((↑(List.length a0.2.2.1):Int) - (1:Int)))).bind fun x1=>
 bif !x1 then some true
 else
 (F63 x0.2.2.1 (0:Int) (IntKind.wrap .i64 ((↑(List.length a0.2.2.1):Int) - (1:Int)))).bind fun x2=>
 bif !x2 then some true else some (decide (x0.1=x0.2.2.1)))
 fun x3=>
 bif x3 then some (9:Int)
 else
 (idx a0.2.2.1 x0.1).bind fun x4=>
 (idx a0.2.2.1 x0.2.2.1).bind fun x5=>
 Option.bind
 ((F63 x0.2.1 (0:Int) (IntKind.wrap .i64 ((↑(List.length x4.2.2.2.2.2.2.2.1):Int) - (1:Int)))).bind fun x6=>
 bif !x6 then some true
 else
 (F63 x0.2.2.2.1 (0:Int) (IntKind.wrap .i64 ((↑(List.length x5.2.2.2.2.2.2.2.1):Int) - (1:Int)))).bind fun x7=>
 some !x7)
 fun x8=>
 bif x8 then some (9:Int)
 else
 (idx x4.2.2.2.2.2.2.2.1 x0.2.1).bind fun x9=>
 (idx x5.2.2.2.2.2.2.2.1 x0.2.2.2.1).bind fun x10=>
 bif !decide (x9.1=x10.1) then some (13:Int)
 else
 Option.bind
 (bif x0.2.2.2.2.1 then
 bif !decide (x0.2.1=IntKind.wrap .i64 ((↑(List.length x4.2.2.2.2.2.2.2.1):Int) - (1:Int))) then some true
 else some !decide (x0.2.2.2.1=(0:Int))
 else some false)
 fun x11=>
 bif x11 then some (19:Int)
 else
 Option.bind
 (run
 (fun s12=>
 bif decide (s12<a1) then
 (idx a0.2.2.2.1 s12).bind fun x13=>
 Option.bind
 (bif x0.2.2.2.2.1 then
 bif x13.2.2.2.2.1 then
 bif decide (x13.1=x0.1) then some true else some (decide (x13.2.2.1=x0.2.2.1))
 else some false
 else some false)
 fun x14=>bif x14 then some (.inr (.inr (19:Int))) else some (.inl (IntKind.wrap .i64 (s12+(1:Int))))
 else some (.inr (.inl ())))
 (0:Int))
 fun x15=>
 Sum.elim
 (fun _=>
 Option.bind (bif x0.2.2.2.2.1 then (F64 a0 a1 x0.2.2.1 x0.1).bind fun x17=>some x17 else some false) fun x18=>
 bif x18 then some (19:Int)
 else
 Option.bind
 (run
 (fun s19=>
 bif decide (s19<a1) then
 (idx a0.2.2.2.1 s19).bind fun x20=>
 Option.bind
 (bif decide (x20.1=x0.1) then
 bif decide (x20.2.1=x0.2.1) then
 bif decide (x20.2.2.1=x0.2.2.1) then some (decide (x20.2.2.2.1=x0.2.2.2.1))
 else some false
 else some false
 else some false)
 fun x21=>bif x21 then some (.inr (.inr (6:Int))) else some (.inl (IntKind.wrap .i64 (s19+(1:Int))))
 else some (.inr (.inl ())))
 (0:Int))
 fun x22=>Sum.elim (fun _=>some (0:Int)) (fun y24=>some y24) x22)
 (fun y25=>some y25) x15
abbrev F65A:Zam:=(.cons (.pd Y31) (.cons (.pd Y3) .nil))
abbrev F65R:Zam:=(.cons (.pd Y37) .nil)
def F65S:Tr.Spec:= {args:=F65A,res:=F65R,fns:=[],α:=El Y37,f:=fun x=>F65 x.1 x.2.1,unp:=fun z=>(((),(),()),(z,())) }
def F65M:List (Nat×List Tr.Spec):=[(120,[F63S]),(122,[F64S])]
def F65H:ZaT:=(.seq .leaf (.seq .leaf (.seq (.seq (.reg [(41,Y4)]) .leaf) (.seq .leaf (.seq (.seq (.reg [(71,Y4)]) .leaf) (.seq .leaf (.seq (.seq (.reg [(99,Y4)]) .leaf) (.seq (.seq .leaf (.lp ⟨[(8,(.pd Y3))],[],[1,2,5],[],[],[]⟩ [((.exit 0),⟨[],[],[1,2,5],[],[],[]⟩),(.ret,⟨[(4,(.pd Y37))],[],[],[],[],[]⟩)] (.seq .leaf (.seq (.seq .leaf (.seq (.reg [(129,Y4)]) .leaf)) .leaf)))) (.seq (.seq (.reg [(140,Y4)]) .leaf) (.seq (.seq .leaf (.lp ⟨[(10,(.pd Y3))],[],[1,2,5],[],[],[]⟩ [((.exit 2),⟨[],[],[],[],[],[]⟩),(.ret,⟨[(4,(.pd Y37))],[],[],[],[],[]⟩)] (.seq .leaf (.seq (.seq .leaf (.seq (.reg [(176,Y4)]) .leaf)) .leaf)))) .leaf))))))))))
theorem F65_eq(a0:El Y31)(a1:El Y3):(Zau (mkE tyTab mapTab pkTab [] [] F65M 177 bdTab) (Zai Tryz.f89) Tryz.f89.results F65H F65A F65R (fun y=>y.2.1) (a0,a1,()):Option (El Y37))=F65 a0 a1:=by kernel_rfl
theorem F65_ok:ZaQ Tryz.prog 89 F65S:=Zae (m:=F65M) (fn:=Tryz.f89) (hint:=F65H) (pack:=fun y=>y.2.1) Za2 tab_ok ⟨⟨F63_ok,trivial⟩,⟨F64_ok,trivial⟩,trivial⟩ fun x z h=>(F65_eq x.1 x.2.1).trans h
def F60: (El Y26)->(El Y3)->(El Y4)->Option (El Y69):=fun a0 a1 a2=>
 Option.bind
 (run
 (fun s0=>
 bif decide (s0.2<a1) then
 Option.bind
 (run
 (fun s1=>
 bif decide (s1.2.2<a1) then
 Option.bind (Zar (decide (List.length s1.2.1+List.length [(1099511627776:Int)]<=Zaq))) fun _=>
 some (.inl (s1.1,s1.2.1++[(1099511627776:Int)],IntKind.wrap .i64 (s1.2.2+(1:Int))))
 else some (.inr (s1.1,s1.2.1)))
 (s0.1,[],(0:Int)))
 fun x3=>
 Option.bind (Zar (decide (List.length x3.1+List.length [x3.2]<=Zaq))) fun _=>
 some (.inl (x3.1++[x3.2],IntKind.wrap .i64 (s0.2+(1:Int))))
 else some (.inr s0.1))
 ([],(0:Int)))
 fun x5=>
 Option.bind
 (run
 (fun s6=>
 bif decide (s6.2< (↑(List.length a0):Int)) then
 (idx a0 s6.2).bind fun x7=>
 Option.bind (bif x7.2.2.2.1 then some true else some !a2) fun x8=>
 bif x8 then
 (inb x7.1 (List.length s6.1)).bind fun x9=>
 Option.bind s6.1[x9]? fun _=>
 (inb x7.1 (List.length s6.1)).bind fun x11=>
 Option.bind s6.1[x11]? fun _=>
 (idx s6.1 (↑x11:Int)).bind fun x13=>
 (inb x7.2.1 (List.length x13)).bind fun x14=>
 (idx s6.1 (↑x11:Int)).bind fun x15=>
 Option.bind x15[x14]? fun x16=>
 (idx s6.1 (↑x9:Int)).bind fun x17=>
 (inb x7.2.1 (List.length x17)).bind fun x18=>
 (idx s6.1 (↑x9:Int)).bind fun x19=>
 Option.bind x19[x18]? fun _=>
 some
 (.inl (List.set s6.1 (Int.toNat (↑x9:Int)) (List.set x19 x18 (Tr.imin x16 x7.2.2.1)),IntKind.wrap .i64 (s6.2+(1:Int))))
 else some (.inl (s6.1,IntKind.wrap .i64 (s6.2+(1:Int))))
 else some (.inr s6.1))
 (x5,(0:Int)))
 fun x21=>
 Option.bind
 (run
 (fun s22=>
 bif decide (s22.2<a1) then
 Option.bind
 (run
 (fun s23=>
 bif decide (s23.2<a1) then
 Option.bind
 (run
 (fun s24=>
 bif decide (s24.2<a1) then
 (inb s23.2 (List.length s24.1)).bind fun x25=>
 Option.bind s24.1[x25]? fun _=>
 (inb s23.2 (List.length s24.1)).bind fun x27=>
 Option.bind s24.1[x27]? fun _=>
 (idx s24.1 (↑x27:Int)).bind fun x29=>
 (inb s24.2 (List.length x29)).bind fun x30=>
 (idx s24.1 (↑x27:Int)).bind fun x31=>
 Option.bind x31[x30]? fun x32=>
 (inb s23.2 (List.length s24.1)).bind fun x33=>
 Option.bind s24.1[x33]? fun _=>
 (idx s24.1 (↑x33:Int)).bind fun x35=>
 (inb s22.2 (List.length x35)).bind fun x36=>
 (idx s24.1 (↑x33:Int)).bind fun x37=>
 Option.bind x37[x36]? fun x38=>
 (inb s22.2 (List.length s24.1)).bind fun x39=>
 Option.bind s24.1[x39]? fun _=>
 (idx s24.1 (↑x39:Int)).bind fun x41=>
 (inb s24.2 (List.length x41)).bind fun x42=>
 (idx s24.1 (↑x39:Int)).bind fun x43=>
 Option.bind x43[x42]? fun x44=>
 (idx s24.1 (↑x25:Int)).bind fun x45=>
 (inb s24.2 (List.length x45)).bind fun x46=>
 (idx s24.1 (↑x25:Int)).bind fun x47=>
 Option.bind x47[x46]? fun _=>
 some
 (.inl
 (List.set s24.1 (Int.toNat (↑x25:Int))
 (List.set x47 x46 (Tr.imin x32 (IntKind.wrap .i64 (x38+x44)))),
 IntKind.wrap .i64 (s24.2+(1:Int))))
 else some (.inr s24.1))
 (s23.1,(0:Int)))
 fun x49=>some (.inl (x49,IntKind.wrap .i64 (s23.2+(1:Int))))
 else some (.inr s23.1))
 (s22.1,(0:Int)))
 fun x50=>some (.inl (x50,IntKind.wrap .i64 (s22.2+(1:Int))))
 else some (.inr s22.1))
 (x21,(0:Int)))
 fun x51=>some x51
abbrev F60A:Zam:=(.cons (.pd Y26) (.cons (.pd Y3) (.cons (.pd Y4) .nil)))
abbrev F60R:Zam:=(.cons (.pd Y69) .nil)
def F60S:Tr.Spec:= {args:=F60A,res:=F60R,fns:=[],α:=El Y69,f:=fun x=>F60 x.1 x.2.1 x.2.2.1,unp:=fun z=>(((),(),(),()),(z,())) }
def F60M:List (Nat×List Tr.Spec):=[]
def F60H:ZaT:=(.seq .leaf (.seq .leaf (.seq (.seq .leaf (.lp ⟨[(7,(.rows Y3 false)),(8,(.pd Y3))],[],[0,1,2],[],[],[]⟩ [((.exit 0),⟨[(7,(.rows Y3 false))],[],[0,1,2],[],[],[]⟩)] (.seq .leaf (.seq (.seq .leaf (.seq (.seq .leaf (.lp ⟨[(7,(.rows Y3 false)),(9,(.own Y3 false)),(10,(.pd Y3))],[],[0,1,2,8],[],[],[]⟩ [((.exit 2),⟨[(7,(.rows Y3 false)),(9,(.own Y3 false))],[],[0,1,2,8],[],[],[]⟩)] .leaf)) .leaf)) .leaf)))) (.seq (.seq .leaf (.lp ⟨[(7,(.rows Y3 false)),(11,(.pd Y3))],[],[0,1,2],[],[],[]⟩ [((.exit 4),⟨[(7,(.rows Y3 false))],[],[1],[],[],[]⟩)] (.seq .leaf (.seq (.seq .leaf (.seq (.reg [(50,Y4)]) .leaf)) .leaf)))) (.seq (.seq .leaf (.lp ⟨[(7,(.rows Y3 false)),(13,(.pd Y3))],[],[1],[],[],[]⟩ [((.exit 6),⟨[(7,(.rows Y3 false))],[],[],[],[],[]⟩)] (.seq .leaf (.seq (.seq .leaf (.lp ⟨[(7,(.rows Y3 false)),(14,(.pd Y3))],[],[1,13],[],[],[]⟩ [((.exit 8),⟨[(7,(.rows Y3 false))],[],[1,13],[],[],[]⟩)] (.seq .leaf (.seq (.seq .leaf (.lp ⟨[(7,(.rows Y3 false)),(15,(.pd Y3))],[],[1,13,14],[],[],[]⟩ [((.exit 10),⟨[(7,(.rows Y3 false))],[],[1,13,14],[],[],[]⟩)] .leaf)) .leaf)))) .leaf)))) .leaf)))))
theorem F60_eq(a0:El Y26)(a1:El Y3)(a2:El Y4):(Zau (mkE tyTab mapTab pkTab [69] [] F60M 116 bdTab) (Zai Tryz.f143) Tryz.f143.results F60H F60A F60R (fun y=>y.2.1) (a0,a1,a2,()):Option (El Y69))=F60 a0 a1 a2:=by kernel_rfl
theorem F60_ok:ZaQ Tryz.prog 143 F60S:=Zae (m:=F60M) (fn:=Tryz.f143) (hint:=F60H) (pack:=fun y=>y.2.1) Za2 tab_ok trivial fun x z h=>(F60_eq x.1 x.2.1 x.2.2.1).trans h
def F58: (El Y26)->(El Y3)->Option (El Y26):=fun a0 a1=>
 (F60 a0 a1 false).bind fun x0=>
 (F60 a0 a1 true).bind fun x1=>
 Option.bind
 (run
 (fun s2=>
 bif decide (s2.2<a1) then
 Option.bind
 (run
 (fun s3=>
 bif decide (s3.2<a1) then
 Option.bind
 (bif decide (s2.2=s3.2) then some true
 else (idx x0 s2.2).bind fun x4=>(idx x4 s3.2).bind fun x5=>some (decide ((14400:Int)<x5)))
 fun x6=>
 bif x6 then some (.inl (s3.1,IntKind.wrap .i64 (s3.2+(1:Int))))
 else
 (idx x0 s2.2).bind fun x7=>
 (idx x7 s3.2).bind fun x8=>
 (idx x1 s2.2).bind fun x9=>
 (idx x9 s3.2).bind fun x10=>
 (idx x0 s2.2).bind fun x11=>
 (idx x11 s3.2).bind fun x12=>
 Option.bind (Zar (decide (List.length s3.1+List.length [(s2.2,s3.2,x8,decide (x10=x12),())]<=Zaq))) fun _=>
 Option.bind
 ((idx x1 s2.2).bind fun x14=>
 (idx x14 s3.2).bind fun x15=>
 (idx x0 s2.2).bind fun x16=>
 (idx x16 s3.2).bind fun x17=>
 bif decide (x17<x15) then
 (idx x1 s2.2).bind fun x18=>(idx x18 s3.2).bind fun x19=>some (decide (x19<=(14400:Int)))
 else some false)
 fun x20=>
 bif x20 then
 (idx x1 s2.2).bind fun x21=>
 (idx x21 s3.2).bind fun x22=>
 Option.bind
 (Zar
 (decide
 (List.length (s3.1++[(s2.2,s3.2,x8,decide (x10=x12),())])+List.length [(s2.2,s3.2,x22,true,())]<=
 Zaq)))
 fun _=>
 some
 (.inl
 (s3.1++[(s2.2,s3.2,x8,decide (x10=x12),())]++[(s2.2,s3.2,x22,true,())],
 IntKind.wrap .i64 (s3.2+(1:Int))))
 else some (.inl (s3.1++[(s2.2,s3.2,x8,decide (x10=x12),())],IntKind.wrap .i64 (s3.2+(1:Int))))
 else some (.inr s3.1))
 (s2.1,(0:Int)))
 fun x24=>some (.inl (x24,IntKind.wrap .i64 (s2.2+(1:Int))))
 else some (.inr s2.1))
 ([],(0:Int)))
 fun x25=>some x25
abbrev F58A:Zam:=(.cons (.pd Y26) (.cons (.pd Y3) .nil))
abbrev F58R:Zam:=(.cons (.pd Y26) .nil)
def F58S:Tr.Spec:= {args:=F58A,res:=F58R,fns:=[],α:=El Y26,f:=fun x=>F58 x.1 x.2.1,unp:=fun z=>(((),(),()),(z,())) }
def F58M:List (Nat×List Tr.Spec):=[(143,[F60S])]
def F58H:ZaT:=(.seq .leaf (.seq .leaf (.seq .leaf (.seq (.seq .leaf (.lp ⟨[(7,(.own Y59 false)),(8,(.pd Y3))],[],[1,5,6],[],[],[]⟩ [((.exit 0),⟨[(7,(.own Y59 false))],[],[],[],[],[]⟩)] (.seq .leaf (.seq (.seq .leaf (.lp ⟨[(7,(.own Y59 false)),(9,(.pd Y3))],[],[1,5,6,8],[],[],[]⟩ [((.exit 2),⟨[(7,(.own Y59 false))],[],[1,5,6,8],[],[],[]⟩)] (.seq .leaf (.seq (.seq (.seq (.reg [(39,Y4)]) .leaf) (.seq .leaf (.seq (.reg [(92,Y4)]) .leaf))) .leaf)))) .leaf)))) .leaf))))
theorem F58_eq(a0:El Y26)(a1:El Y3):(Zau (mkE tyTab mapTab pkTab [] [] F58M 107 bdTab) (Zai Tryz.f123) Tryz.f123.results F58H F58A F58R (fun y=>y.2.1) (a0,a1,()):Option (El Y26))=F58 a0 a1:=by kernel_rfl
theorem F58_ok:ZaQ Tryz.prog 123 F58S:=Zae (m:=F58M) (fn:=Tryz.f123) (hint:=F58H) (pack:=fun y=>y.2.1) Za2 tab_ok ⟨⟨F60_ok,trivial⟩,trivial⟩ fun x z h=>(F58_eq x.1 x.2.1).trans h
def F66: (El Y31)->Option (El Y3×El Y37):=fun a0=>
 Option.bind
 (run
 (fun s0=>
 bif decide (s0< (↑(List.length a0.2.2.2.2.1):Int)) then
 (idx a0.2.2.2.2.1 s0).bind fun x1=>
 Option.bind
 ((F63 x1.1 (0:Int) (IntKind.wrap .i64 ((↑(List.length a0.1):Int) - (1:Int)))).bind fun x2=>
 bif !x2 then some true
 else
 (F63 x1.2.1 (0:Int) (IntKind.wrap .i64 ((↑(List.length a0.1):Int) - (1:Int)))).bind fun x3=>
 bif !x3 then some true else some (decide (x1.1=x1.2.1)))
 fun x4=>
 bif x4 then some (.inr (.inr (s0,(9:Int))))
 else
 (F63 x1.2.2.1 (1:Int) (14400:Int)).bind fun x5=>
 bif !x5 then some (.inr (.inr (s0,(2:Int))))
 else
 Option.bind
 (run
 (fun s6=>
 bif decide (s6<s0) then
 (idx a0.2.2.2.2.1 s6).bind fun x7=>
 Option.bind
 (bif decide (x7.1=x1.1) then
 bif decide (x7.2.1=x1.2.1) then some (x7.2.2.2.1==x1.2.2.2.1) else some false
 else some false)
 fun x8=>bif x8 then some (.inr (.inr (s0,(6:Int)))) else some (.inl (IntKind.wrap .i64 (s6+(1:Int))))
 else some (.inr (.inl ())))
 (0:Int))
 fun x9=>Sum.elim (fun _=>some (.inl (IntKind.wrap .i64 (s0+(1:Int))))) (fun y11=>some (.inr (.inr (y11.1,y11.2)))) x9
 else some (.inr (.inl ())))
 (0:Int))
 fun x12=>
 Sum.elim
 (fun _=>
 (F58 a0.2.2.2.2.1 (↑(List.length a0.1):Int)).bind fun x14=>
 bif !decide ((↑(List.length x14):Int)=(↑(List.length a0.2.2.2.2.1):Int)) then some ((0:Int),(18:Int))
 else
 Option.bind
 (run
 (fun s15=>
 bif decide (s15< (↑(List.length x14):Int)) then
 (idx x14 s15).bind fun x16=>
 (idx a0.2.2.2.2.1 s15).bind fun x17=>
 bif
 !(decide (x16.1=x17.1) &&
 (decide (x16.2.1=x17.2.1) && (decide (x16.2.2.1=x17.2.2.1) &&x16.2.2.2.1==x17.2.2.2.1))) then
 some (.inr (.inr ((0:Int),(18:Int))))
 else some (.inl (IntKind.wrap .i64 (s15+(1:Int))))
 else some (.inr (.inl ())))
 (0:Int))
 fun x18=>Sum.elim (fun _=>some ((0:Int),(0:Int))) (fun y20=>some (y20.1,y20.2)) x18)
 (fun y21=>some (y21.1,y21.2)) x12
abbrev F66A:Zam:=(.cons (.pd Y31) .nil)
abbrev F66R:Zam:=(.cons (.pd Y3) (.cons (.pd Y37) .nil))
def F66S:Tr.Spec:= {args:=F66A,res:=F66R,fns:=[],α:=El Y3×El Y37,f:=fun x=>F66 x.1,unp:=fun z=>(((),()),(z.1,z.2,())) }
def F66M:List (Nat×List Tr.Spec):=[(120,[F63S]),(123,[F58S])]
def F66H:ZaT:=(.seq .leaf (.seq (.seq .leaf (.lp ⟨[(4,(.pd Y3))],[],[1],[],[],[]⟩ [((.exit 0),⟨[],[],[1],[],[],[]⟩),(.ret,⟨[(2,(.pd Y3)),(3,(.pd Y37))],[],[],[],[],[]⟩)] (.seq .leaf (.seq (.seq .leaf (.seq (.seq (.reg [(46,Y4)]) .leaf) (.seq .leaf (.seq .leaf (.lp ⟨[(6,(.pd Y3))],[],[1,4,5],[],[],[]⟩ [((.exit 2),⟨[],[],[1,4],[],[],[]⟩),(.ret,⟨[(2,(.pd Y3)),(3,(.pd Y37))],[],[],[],[],[]⟩)] (.seq .leaf (.seq (.seq .leaf (.seq (.reg [(81,Y4)]) .leaf)) .leaf))))))) .leaf)))) (.seq .leaf (.seq .leaf (.seq (.seq .leaf (.lp ⟨[(9,(.pd Y3))],[],[1,8],[],[],[]⟩ [((.exit 4),⟨[],[],[],[],[],[]⟩),(.ret,⟨[(2,(.pd Y3)),(3,(.pd Y37))],[],[],[],[],[]⟩)] .leaf)) .leaf)))))
theorem F66_eq(a0:El Y31):(Zau (mkE tyTab mapTab pkTab [] [] F66M 111 bdTab) (Zai Tryz.f90) Tryz.f90.results F66H F66A F66R (fun y=>(y.2.1,y.2.2.1)) (a0,()):Option (El Y3×El Y37))=F66 a0:=by kernel_rfl
theorem F66_ok:ZaQ Tryz.prog 90 F66S:=Zae (m:=F66M) (fn:=Tryz.f90) (hint:=F66H) (pack:=fun y=>(y.2.1,y.2.2.1)) Za2 tab_ok ⟨⟨F63_ok,trivial⟩,⟨F58_ok,trivial⟩,trivial⟩ fun x z h=>(F66_eq x.1).trans h
def F59: (El Y29)->Option (El Y3×El Y37):=fun a0=>
 Option.bind
 ((F63 a0.2.1 (0:Int) (1000000:Int)).bind fun x0=>
 bif !x0 then some true
 else
 (F63 a0.2.2.1 (0:Int) (86400:Int)).bind fun x1=>
 bif !x1 then some true else (F63 a0.2.2.2.1 (0:Int) (1000000:Int)).bind fun x2=>some !x2)
 fun x3=>
 bif x3 then some ((-1:Int),(2:Int))
 else
 bif decide ((16:Int)< (↑(List.length a0.1):Int)) then some ((0:Int),(5:Int))
 else
 Option.bind
 (run
 (fun s4=>
 bif decide (s4< (↑(List.length a0.1):Int)) then
 (idx a0.1 s4).bind fun x5=>
 (F62 x5.1).bind fun x6=>
 bif !x6 then some (.inr (.inr (s4,(12:Int))))
 else
 Option.bind
 (run
 (fun s7=>
 bif decide (s7<s4) then
 (idx a0.1 s7).bind fun x8=>
 bif decide (x8.1=x5.1) then some (.inr (.inr (s4,(6:Int)))) else some (.inl (IntKind.wrap .i64 (s7+(1:Int))))
 else some (.inr (.inl ())))
 (0:Int))
 fun x9=>
 Sum.elim
 (fun _=>
 Option.bind
 ((F63 x5.2.1 (0:Int) (1000000:Int)).bind fun x11=>
 bif !x11 then some true
 else
 (F63 x5.2.2.1 (1:Int) (8:Int)).bind fun x12=>
 bif !x12 then some true
 else
 (F63 x5.2.2.2.1 (1:Int) (16:Int)).bind fun x13=>
 bif !x13 then some true
 else
 (F63 x5.2.2.2.2.1 (0:Int) (86400:Int)).bind fun x14=>
 bif !x14 then some true else (F63 x5.2.2.2.2.2.1 (1:Int) (255:Int)).bind fun x15=>some !x15)
 fun x16=>bif x16 then some (.inr (.inr (s4,(2:Int)))) else some (.inl (IntKind.wrap .i64 (s4+(1:Int)))))
 (fun y17=>some (.inr (.inr (y17.1,y17.2)))) x9
 else some (.inr (.inl ())))
 (0:Int))
 fun x18=>Sum.elim (fun _=>some ((0:Int),(0:Int))) (fun y20=>some (y20.1,y20.2)) x18
abbrev F59A:Zam:=(.cons (.pd Y29) .nil)
abbrev F59R:Zam:=(.cons (.pd Y3) (.cons (.pd Y37) .nil))
def F59S:Tr.Spec:= {args:=F59A,res:=F59R,fns:=[],α:=El Y3×El Y37,f:=fun x=>F59 x.1,unp:=fun z=>(((),()),(z.1,z.2,())) }
def F59M:List (Nat×List Tr.Spec):=[(119,[F62S]),(120,[F63S])]
def F59H:ZaT:=(.seq .leaf (.seq (.seq (.reg [(22,Y4)]) .leaf) (.seq .leaf (.seq (.seq .leaf (.lp ⟨[(4,(.pd Y3))],[],[1],[],[],[]⟩ [((.exit 0),⟨[],[],[],[],[],[]⟩),(.ret,⟨[(2,(.pd Y3)),(3,(.pd Y37))],[],[],[],[],[]⟩)] (.seq .leaf (.seq (.seq .leaf (.seq .leaf (.seq (.seq .leaf (.lp ⟨[(6,(.pd Y3))],[],[1,4,5],[],[],[]⟩ [((.exit 2),⟨[],[],[1,4,5],[],[],[]⟩),(.ret,⟨[(2,(.pd Y3)),(3,(.pd Y37))],[],[],[],[],[]⟩)] .leaf)) (.seq (.reg [(86,Y4)]) .leaf)))) .leaf)))) .leaf))))
theorem F59_eq(a0:El Y29):(Zau (mkE tyTab mapTab pkTab [] [] F59M 88 bdTab) (Zai Tryz.f91) Tryz.f91.results F59H F59A F59R (fun y=>(y.2.1,y.2.2.1)) (a0,()):Option (El Y3×El Y37))=F59 a0:=by kernel_rfl
theorem F59_ok:ZaQ Tryz.prog 91 F59S:=Zae (m:=F59M) (fn:=Tryz.f91) (hint:=F59H) (pack:=fun y=>(y.2.1,y.2.2.1)) Za2 tab_ok ⟨⟨F62_ok,trivial⟩,⟨F63_ok,trivial⟩,trivial⟩ fun x z h=>(F59_eq x.1).trans h
def F57: (El Y31)->Option (El Y3×El Y3×El Y37):=fun a0=>
 (F69 a0.1).bind fun x0=>
 bif !decide (x0.2=(0:Int)) then some ((0:Int),x0.1,x0.2)
 else
 (F67 a0.2.1).bind fun x1=>
 bif !decide (x1.2=(0:Int)) then some ((1:Int),x1.1,x1.2)
 else
 bif decide ((1024:Int)< (↑(List.length a0.2.2.1):Int)) then some ((2:Int),(0:Int),(5:Int))
 else
 Option.bind
 (run
 (fun s2=>
 bif decide (s2< (↑(List.length a0.2.2.1):Int)) then
 (F68 a0 s2).bind fun x3=>
 bif !decide (x3=(0:Int)) then some (.inr (.inr ((2:Int),s2,x3))) else some (.inl (IntKind.wrap .i64 (s2+(1:Int))))
 else some (.inr (.inl ())))
 (0:Int))
 fun x4=>
 Sum.elim
 (fun _=>
 bif decide ((1024:Int)< (↑(List.length a0.2.2.2.1):Int)) then some ((3:Int),(0:Int),(5:Int))
 else
 Option.bind
 (run
 (fun s6=>
 bif decide (s6< (↑(List.length a0.2.2.2.1):Int)) then
 (F65 a0 s6).bind fun x7=>
 bif !decide (x7=(0:Int)) then some (.inr (.inr ((3:Int),s6,x7)))
 else some (.inl (IntKind.wrap .i64 (s6+(1:Int))))
 else some (.inr (.inl ())))
 (0:Int))
 fun x8=>
 Sum.elim
 (fun _=>
 (F66 a0).bind fun x10=>
 bif !decide (x10.2=(0:Int)) then some ((4:Int),x10.1,x10.2)
 else
 (F59 a0.2.2.2.2.2.1).bind fun x11=>
 bif !decide (x11.2=(0:Int)) then some ((5:Int),x11.1,x11.2) else some ((0:Int),(0:Int),(0:Int)))
 (fun y12=>some (y12.1,y12.2.1,y12.2.2)) x8)
 (fun y13=>some (y13.1,y13.2.1,y13.2.2)) x4
abbrev F57A:Zam:=(.cons (.pd Y31) .nil)
abbrev F57R:Zam:=(.cons (.pd Y3) (.cons (.pd Y3) (.cons (.pd Y37) .nil)))
def F57S:Tr.Spec:= {args:=F57A,res:=F57R,fns:=[],α:=El Y3×El Y3×El Y37,f:=fun x=>F57 x.1,unp:=fun z=>(((),()),(z.1,z.2.1,z.2.2,())) }
def F57M:List (Nat×List Tr.Spec):=[(86,[F69S]),(87,[F67S]),(88,[F68S]),(89,[F65S]),(90,[F66S]),(91,[F59S])]
def F57H:ZaT:=(.seq .leaf (.seq .leaf (.seq .leaf (.seq .leaf (.seq .leaf (.seq .leaf (.seq (.seq .leaf (.lp ⟨[(7,(.pd Y3))],[],[1],[],[],[]⟩ [((.exit 0),⟨[],[],[1],[],[],[]⟩),(.ret,⟨[(2,(.pd Y3)),(3,(.pd Y3)),(4,(.pd Y37))],[],[],[],[],[]⟩)] .leaf)) (.seq .leaf (.seq (.seq .leaf (.lp ⟨[(8,(.pd Y3))],[],[1],[],[],[]⟩ [((.exit 2),⟨[],[],[1],[],[],[]⟩),(.ret,⟨[(2,(.pd Y3)),(3,(.pd Y3)),(4,(.pd Y37))],[],[],[],[],[]⟩)] .leaf)) .leaf)))))))))
theorem F57_eq(a0:El Y31):(Zau (mkE tyTab mapTab pkTab [] [] F57M 84 bdTab) (Zai Tryz.f56) Tryz.f56.results F57H F57A F57R (fun y=>(y.2.1,y.2.2.1,y.2.2.2.1)) (a0,()):Option (El Y3×El Y3×El Y37))=F57 a0:=by kernel_rfl
theorem F57_ok:ZaQ Tryz.prog 56 F57S:=Zae (m:=F57M) (fn:=Tryz.f56) (hint:=F57H) (pack:=fun y=>(y.2.1,y.2.2.1,y.2.2.2.1)) Za2 tab_ok ⟨⟨F69_ok,trivial⟩,⟨F67_ok,trivial⟩,⟨F68_ok,trivial⟩,⟨F65_ok,trivial⟩,⟨F66_ok,trivial⟩,⟨F59_ok,trivial⟩,trivial⟩ fun x z h=>(F57_eq x.1).trans h
def F61: (El Y31)->Option (El Y4):=fun a0=>(F57 a0).bind fun x0=>some (decide (x0.2.2=(0:Int)))
abbrev F61A:Zam:=(.cons (.pd Y31) .nil)
abbrev F61R:Zam:=(.cons (.pd Y4) .nil)
def F61S:Tr.Spec:= {args:=F61A,res:=F61R,fns:=[],α:=El Y4,f:=fun x=>F61 x.1,unp:=fun z=>(((),()),(z,())) }
def F61M:List (Nat×List Tr.Spec):=[(56,[F57S])]
def F61H:ZaT:= .leaf
theorem F61_eq(a0:El Y31):(Zau (mkE tyTab mapTab pkTab [] [] F61M 14 bdTab) (Zai Tryz.f32) Tryz.f32.results F61H F61A F61R (fun y=>y.2.1) (a0,()):Option (El Y4))=F61 a0:=by kernel_rfl
theorem F61_ok:ZaQ Tryz.prog 32 F61S:=Zae (m:=F61M) (fn:=Tryz.f32) (hint:=F61H) (pack:=fun y=>y.2.1) Za2 tab_ok ⟨⟨F57_ok,trivial⟩,trivial⟩ fun x z h=>(F61_eq x.1).trans h
def F90: (El Y3)->(El Y3)->(El Y3)->Option (El Y4):=fun a0 a1 a2=>Option.bind (bif decide (a1<=a0) then some (decide (a0<=a2)) else some false) fun x0=>some x0
abbrev F90A:Zam:=(.cons (.pd Y3) (.cons (.pd Y3) (.cons (.pd Y3) .nil)))
abbrev F90R:Zam:=(.cons (.pd Y4) .nil)
def F90S:Tr.Spec:= {args:=F90A,res:=F90R,fns:=[],α:=El Y4,f:=fun x=>F90 x.1 x.2.1 x.2.2.1,unp:=fun z=>(((),(),(),()),(z,())) }
def F90M:List (Nat×List Tr.Spec):=[]
def F90H:ZaT:=(.seq .leaf (.seq (.reg [(6,Y4)]) .leaf))
theorem F90_eq(a0:El Y3)(a1:El Y3)(a2:El Y3):(Zau (mkE tyTab mapTab pkTab [45] [] F90M 15 bdTab) (Zai Tryz.f78) Tryz.f78.results F90H F90A F90R (fun y=>y.2.1) (a0,a1,a2,()):Option (El Y4))=F90 a0 a1 a2:=by kernel_rfl
theorem F90_ok:ZaQ Tryz.prog 78 F90S:=Zae (m:=F90M) (fn:=Tryz.f78) (hint:=F90H) (pack:=fun y=>y.2.1) Za2 tab_ok trivial fun x z h=>(F90_eq x.1 x.2.1 x.2.2.1).trans h
def F85: (El Y3)->(El Y33)->Option (El Y4):=fun a0 a1=>
 Option.bind
 ((F90 a1.1 (0:Int) (IntKind.wrap .i64 (a0 - (1:Int)))).bind fun x0=>
 bif x0 then
 (F90 a1.2.1 (0:Int) (IntKind.wrap .i64 (a0 - (1:Int)))).bind fun x1=>
 bif x1 then
 (F90 a1.2.2.1 (0:Int) (3155932800:Int)).bind fun x2=>
 bif x2 then
 (F90 a1.2.2.2.2.1 (0:Int) (8:Int)).bind fun x3=>
 bif x3 then
 (F90 a1.2.2.2.2.2.1 (0:Int) (86400:Int)).bind fun x4=>
 bif x4 then
 (F90 a1.2.2.2.2.2.2.2.2.1 (0:Int) (255:Int)).bind fun x5=>
 bif x5 then bif a1.2.2.2.2.2.2.2.2.2.1 then some !a1.2.2.2.1 else some !false else some false
 else some false
 else some false
 else some false
 else some false
 else some false)
 fun x6=>some x6
abbrev F85A:Zam:=(.cons (.pd Y3) (.cons (.pd Y33) .nil))
abbrev F85R:Zam:=(.cons (.pd Y4) .nil)
def F85S:Tr.Spec:= {args:=F85A,res:=F85R,fns:=[],α:=El Y4,f:=fun x=>F85 x.1 x.2.1,unp:=fun z=>(((),(),()),(z,())) }
def F85M:List (Nat×List Tr.Spec):=[(78,[F90S])]
def F85H:ZaT:=(.seq .leaf (.seq (.reg [(4,Y4)]) .leaf))
theorem F85_eq(a0:El Y3)(a1:El Y33):(Zau (mkE tyTab mapTab pkTab [45] [] F85M 46 bdTab) (Zai Tryz.f53) Tryz.f53.results F85H F85A F85R (fun y=>y.2.1) (a0,a1,()):Option (El Y4))=F85 a0 a1:=by kernel_rfl
theorem F85_ok:ZaQ Tryz.prog 53 F85S:=Zae (m:=F85M) (fn:=Tryz.f53) (hint:=F85H) (pack:=fun y=>y.2.1) Za2 tab_ok ⟨⟨F90_ok,trivial⟩,trivial⟩ fun x z h=>(F85_eq x.1 x.2.1).trans h
def F82: (El Y31)->(El Y33)->Option (El Y37):=fun a0 a1=>
 (F61 a0).bind fun x0=>
 bif !x0 then some (21:Int) else (F85 (↑(List.length a0.1):Int) a1).bind fun x1=>bif !x1 then some (22:Int) else some (0:Int)
abbrev F82A:Zam:=(.cons (.pd Y31) (.cons (.pd Y33) .nil))
abbrev F82R:Zam:=(.cons (.pd Y37) .nil)
def F82S:Tr.Spec:= {args:=F82A,res:=F82R,fns:=[],α:=El Y37,f:=fun x=>F82 x.1 x.2.1,unp:=fun z=>(((),(),()),(z,())) }
def F82M:List (Nat×List Tr.Spec):=[(32,[F61S]),(53,[F85S])]
def F82H:ZaT:= .leaf
theorem F82_eq(a0:El Y31)(a1:El Y33):(Zau (mkE tyTab mapTab pkTab [45] [] F82M 14 bdTab) (Zai Tryz.f30) Tryz.f30.results F82H F82A F82R (fun y=>y.2.1) (a0,a1,()):Option (El Y37))=F82 a0 a1:=by kernel_rfl
theorem F82_ok:ZaQ Tryz.prog 30 F82S:=Zae (m:=F82M) (fn:=Tryz.f30) (hint:=F82H) (pack:=fun y=>y.2.1) Za2 tab_ok ⟨⟨F61_ok,trivial⟩,⟨F85_ok,trivial⟩,trivial⟩ fun x z h=>(F82_eq x.1 x.2.1).trans h
def F96: (El Y31)->(El Y33)->Option (El Y37):=fun a0 a1=>
 (F82 a0 a1).bind fun x0=>bif !decide (x0=(0:Int)) then some x0 else bif a1.2.2.2.1 then some (22:Int) else some (0:Int)
abbrev F96A:Zam:=(.cons (.pd Y31) (.cons (.pd Y33) .nil))
abbrev F96R:Zam:=(.cons (.pd Y37) .nil)
def F96S:Tr.Spec:= {args:=F96A,res:=F96R,fns:=[],α:=El Y37,f:=fun x=>F96 x.1 x.2.1,unp:=fun z=>(((),(),()),(z,())) }
def F96M:List (Nat×List Tr.Spec):=[(30,[F82S])]
def F96H:ZaT:= .leaf
theorem F96_eq(a0:El Y31)(a1:El Y33):(Zau (mkE tyTab mapTab pkTab [] [] F96M 14 bdTab) (Zai Tryz.f20) Tryz.f20.results F96H F96A F96R (fun y=>y.2.1) (a0,a1,()):Option (El Y37))=F96 a0 a1:=by kernel_rfl
theorem F96_ok:ZaQ Tryz.prog 20 F96S:=Zae (m:=F96M) (fn:=Tryz.f20) (hint:=F96H) (pack:=fun y=>y.2.1) Za2 tab_ok ⟨⟨F82_ok,trivial⟩,trivial⟩ fun x z h=>(F96_eq x.1 x.2.1).trans h
def F107: (El Y31)->(El Y33)->(El Y3)->(El Y3)->Option (El Y3×El Y4):=fun a0 a1 a2 a3=>
 Option.bind
 (run
 (fun s0=>
 bif decide (s0.2< (↑(List.length a0.2.2.2.2.1):Int)) then
 (idx a0.2.2.2.2.1 s0.2).bind fun x1=>
 Option.bind
 (bif decide (x1.1=a2) then
 bif decide (x1.2.1=a3) then
 bif x1.2.2.2.1 then bif decide (s0.1< (0:Int)) then some true else some (decide (x1.2.2.1<s0.1))
 else
 bif !a1.2.2.2.2.2.2.1 then bif decide (s0.1< (0:Int)) then some true else some (decide (x1.2.2.1<s0.1))
 else some false
 else some false
 else some false)
 fun x2=>
 bif x2 then some (.inl (x1.2.2.1,IntKind.wrap .i64 (s0.2+(1:Int))))
 else some (.inl (s0.1,IntKind.wrap .i64 (s0.2+(1:Int))))
 else some (.inr s0.1))
 ((-1:Int),(0:Int)))
 fun x3=>some (x3,decide ((0:Int)<=x3))
abbrev F107A:Zam:=(.cons (.pd Y31) (.cons (.pd Y33) (.cons (.pd Y3) (.cons (.pd Y3) .nil))))
abbrev F107R:Zam:=(.cons (.pd Y3) (.cons (.pd Y4) .nil))
def F107S:Tr.Spec:= {args:=F107A,res:=F107R,fns:=[],α:=El Y3×El Y4,f:=fun x=>F107 x.1 x.2.1 x.2.2.1 x.2.2.2.1,unp:=fun z=>(((),(),(),(),()),(z.1,z.2,())) }
def F107M:List (Nat×List Tr.Spec):=[]
def F107H:ZaT:=(.seq .leaf (.seq .leaf (.seq (.seq .leaf (.lp ⟨[(10,(.pd Y3)),(11,(.pd Y3))],[],[2,3,4,5],[],[],[]⟩ [((.exit 0),⟨[(10,(.pd Y3))],[],[],[],[],[]⟩)] (.seq .leaf (.seq (.seq .leaf (.seq (.reg [(53,Y4)]) .leaf)) .leaf)))) .leaf)))
theorem F107_eq(a0:El Y31)(a1:El Y33)(a2:El Y3)(a3:El Y3):(Zau (mkE tyTab mapTab pkTab [] [] F107M 59 bdTab) (Zai Tryz.f25) Tryz.f25.results F107H F107A F107R (fun y=>(y.2.1,y.2.2.1)) (a0,a1,a2,a3,()):Option (El Y3×El Y4))=F107 a0 a1 a2 a3:=by kernel_rfl
theorem F107_ok:ZaQ Tryz.prog 25 F107S:=Zae (m:=F107M) (fn:=Tryz.f25) (hint:=F107H) (pack:=fun y=>(y.2.1,y.2.2.1)) Za2 tab_ok trivial fun x z h=>(F107_eq x.1 x.2.1 x.2.2.1 x.2.2.2.1).trans h
def F100: (El Y3)->(El Y3)->Option (El Y3):=fun a0 a1=>
 Option.bind
 (bif decide ((3155932800:Int)<a1) then some true else bif decide ((0:Int)<=a0) then some (decide (a0<=a1)) else some false)
 fun x0=>bif x0 then some a0 else some a1
abbrev F100A:Zam:=(.cons (.pd Y3) (.cons (.pd Y3) .nil))
abbrev F100R:Zam:=(.cons (.pd Y3) .nil)
def F100S:Tr.Spec:= {args:=F100A,res:=F100R,fns:=[],α:=El Y3,f:=fun x=>F100 x.1 x.2.1,unp:=fun z=>(((),(),()),(z,())) }
def F100M:List (Nat×List Tr.Spec):=[]
def F100H:ZaT:=(.seq .leaf (.seq (.seq (.reg [(15,Y4)]) .leaf) .leaf))
theorem F100_eq(a0:El Y3)(a1:El Y3):(Zau (mkE tyTab mapTab pkTab [] [] F100M 18 bdTab) (Zai Tryz.f26) Tryz.f26.results F100H F100A F100R (fun y=>y.2.1) (a0,a1,()):Option (El Y3))=F100 a0 a1:=by kernel_rfl
theorem F100_ok:ZaQ Tryz.prog 26 F100S:=Zae (m:=F100M) (fn:=Tryz.f26) (hint:=F100H) (pack:=fun y=>y.2.1) Za2 tab_ok trivial fun x z h=>(F100_eq x.1 x.2.1).trans h
def F104: (El Y31)->Option (Tz2):=fun a0=>
 Option.bind
 (Zar
 (decide
 ((0:El (Tr.Ty.int .i64))<=(↑(List.length a0.2.2.1):Int)/\
 (↑(List.length a0.2.2.1):Int)<=(↑(List.length a0.2.2.1):Int)/\(↑(List.length a0.2.2.1):Int)<=(↑Zaq:El (Tr.Ty.int .i64)))))
 fun _=>
 Option.bind
 (run
 (fun s1=>
 bif decide (s1.2.2< (↑(List.length a0.2.2.1):Int)) then
 (idx a0.2.2.1 s1.2.2).bind fun x2=>
 Option.bind
 (Zar
 (decide
 ((0:El (Tr.Ty.int .i64))<=(↑(List.length x2.2.2.2.2.2.2.2.1):Int)/\
 (↑(List.length x2.2.2.2.2.2.2.2.1):Int)<=(↑(List.length x2.2.2.2.2.2.2.2.1):Int)/\
 (↑(List.length x2.2.2.2.2.2.2.2.1):Int)<=(↑Zaq:El (Tr.Ty.int .i64)))))
 fun _=>
 Option.bind
 (Zar
 (decide (List.length s1.2.1.1+List.length [List.replicate (Int.toNat (↑(List.length x2.2.2.2.2.2.2.2.1):Int)) (false)]<=Zaq)))
 fun _=>
 (idx a0.2.2.1 s1.2.2).bind fun x5=>
 Option.bind
 (Zar
 (decide
 ((0:El (Tr.Ty.int .i64))<=(↑(List.length x5.2.2.2.2.2.2.2.1):Int)/\
 (↑(List.length x5.2.2.2.2.2.2.2.1):Int)<=(↑(List.length x5.2.2.2.2.2.2.2.1):Int)/\
 (↑(List.length x5.2.2.2.2.2.2.2.1):Int)<=(↑Zaq:El (Tr.Ty.int .i64)))))
 fun _=>
 Option.bind
 (Zar
 (decide
 (List.length s1.2.1.2.1+List.length [List.replicate (Int.toNat (↑(List.length x5.2.2.2.2.2.2.2.1):Int)) (false)]<=Zaq)))
 fun _=>
 some
 (.inl
 (s1.1,
 (s1.2.1.1++[List.replicate (Int.toNat (↑(List.length x2.2.2.2.2.2.2.2.1):Int)) (false)],
 s1.2.1.2.1++[List.replicate (Int.toNat (↑(List.length x5.2.2.2.2.2.2.2.1):Int)) (false)],s1.2.1.2.2.1,()),
 IntKind.wrap .i64 (s1.2.2+(1:Int))))
 else some (.inr (s1.1,s1.2.1.1,s1.2.1.2.1,s1.2.1.2.2.1,())))
 ((([]:List (List (El Y4))),([]:List (List (El Y4))),([]:List (El Y4)),()),([],[],List.replicate (Int.toNat (↑(List.length a0.2.2.1):Int)) (false),()),(0:Int)))
 fun x8=>some x8.2
abbrev F104A:Zam:=(.cons (.pd Y31) .nil)
abbrev F104R:Zam:=(.cons Pz9 .nil)
def F104S:Tr.Spec:= {args:=F104A,res:=F104R,fns:=[],α:=Tz2,f:=fun x=>F104 x.1,unp:=fun z=>(((),()),(z,())) }
def F104M:List (Nat×List Tr.Spec):=[]
def F104H:ZaT:=(.seq .leaf (.seq .leaf (.seq (.seq .leaf (.lp ⟨[(2,Pz6),(3,Pz6),(4,(.pd Y3))],[],[1],[],[],[]⟩ [((.exit 0),⟨[(2,Pz6),(3,Pz6)],[],[],[],[],[]⟩)] .leaf)) .leaf)))
theorem F104_eq(a0:El Y31):(Zau (mkE tyTab mapTab pkTab [77] [80] F104M 44 bdTab) (Zai Tryz.f44) Tryz.f44.results F104H F104A F104R (fun y=>y.2.1) (a0,()):Option (Tz2))=F104 a0:=by kernel_rfl
theorem F104_ok:ZaQ Tryz.prog 44 F104S:=Zae (m:=F104M) (fn:=Tryz.f44) (hint:=F104H) (pack:=fun y=>y.2.1) Za2 tab_ok trivial fun x z h=>(F104_eq x.1).trans h
def F106: (El Y31)->(El Y33)->(El Y3)->Option (El Y4):=fun a0 a1 a2=>
 (idx a0.2.2.1 a2).bind fun x0=>
 (idx a0.2.1 x0.2.2.2.2.1).bind fun x1=>
 Option.bind
 (bif x0.2.2.2.2.2.2.1 then some true
 else
 bif a1.2.2.2.2.2.2.1 then
 bif !x0.2.2.2.2.2.1 then some true else bif a1.2.2.2.2.2.2.2.1 then some !x1.2.2.1 else some false
 else bif a1.2.2.2.2.2.2.2.1 then some !x1.2.2.1 else some false)
 fun x2=>
 bif x2 then some false
 else
 Option.bind
 (bif decide (a1.2.2.2.2.2.2.2.2.1=(0:Int)) then some true
 else
 Option.bind (Zm4 .i64 a1.2.2.2.2.2.2.2.2.1 (IntKind.wrap .u64 x1.2.1)) fun x3=>
 some (decide (Int.tmod x3 (2:Int)=(1:Int))))
 fun x4=>some x4
abbrev F106A:Zam:=(.cons (.pd Y31) (.cons (.pd Y33) (.cons (.pd Y3) .nil)))
abbrev F106R:Zam:=(.cons (.pd Y4) .nil)
def F106S:Tr.Spec:= {args:=F106A,res:=F106R,fns:=[],α:=El Y4,f:=fun x=>F106 x.1 x.2.1 x.2.2.1,unp:=fun z=>(((),(),(),()),(z,())) }
def F106M:List (Nat×List Tr.Spec):=[]
def F106H:ZaT:=(.seq .leaf (.seq .leaf (.seq .leaf (.seq (.seq (.reg [(39,Y4)]) .leaf) (.seq (.reg [(6,Y4)]) .leaf)))))
theorem F106_eq(a0:El Y31)(a1:El Y33)(a2:El Y3):(Zau (mkE tyTab mapTab pkTab [] [] F106M 53 bdTab) (Zai Tryz.f45) Tryz.f45.results F106H F106A F106R (fun y=>y.2.1) (a0,a1,a2,()):Option (El Y4))=F106 a0 a1 a2:=by kernel_rfl
theorem F106_ok:ZaQ Tryz.prog 45 F106S:=Zae (m:=F106M) (fn:=Tryz.f45) (hint:=F106H) (pack:=fun y=>y.2.1) Za2 tab_ok trivial fun x z h=>(F106_eq x.1 x.2.1 x.2.2.1).trans h
def F98: (El Y80)->(El Y3)->(El Y3)->Option (El Y4):=fun a0 a1 a2=>
 Option.bind (bif decide ((0:Int)<a2) then (idx a0.2.2.1 a1).bind fun x0=>some x0 else some false) fun x1=>
 bif x1 then some true
 else
 Option.bind
 (run
 (fun s2=>
 bif decide (s2<a2) then
 (idx a0.1 a1).bind fun x3=>
 (idx x3 s2).bind fun x4=>bif x4 then some (.inr (.inr true)) else some (.inl (IntKind.wrap .i64 (s2+(1:Int))))
 else some (.inr (.inl ())))
 (0:Int))
 fun x5=>Sum.elim (fun _=>some false) (fun y7=>some y7) x5
abbrev F98A:Zam:=(.cons (.pd Y80) (.cons (.pd Y3) (.cons (.pd Y3) .nil)))
abbrev F98R:Zam:=(.cons (.pd Y4) .nil)
def F98S:Tr.Spec:= {args:=F98A,res:=F98R,fns:=[],α:=El Y4,f:=fun x=>F98 x.1 x.2.1 x.2.2.1,unp:=fun z=>(((),(),(),()),(z,())) }
def F98M:List (Nat×List Tr.Spec):=[]
def F98H:ZaT:=(.seq .leaf (.seq (.seq (.reg [(16,Y4)]) .leaf) (.seq (.seq .leaf (.lp ⟨[(7,(.pd Y3))],[],[1,2,3],[],[],[]⟩ [((.exit 0),⟨[],[],[],[],[],[]⟩),(.ret,⟨[(6,(.pd Y4))],[],[],[],[],[]⟩)] .leaf)) .leaf)))
theorem F98_eq(a0:El Y80)(a1:El Y3)(a2:El Y3):(Zau (mkE tyTab mapTab pkTab [] [] F98M 30 bdTab) (Zai Tryz.f49) Tryz.f49.results F98H F98A F98R (fun y=>y.2.1) (a0,a1,a2,()):Option (El Y4))=F98 a0 a1 a2:=by kernel_rfl
theorem F98_ok:ZaQ Tryz.prog 49 F98S:=Zae (m:=F98M) (fn:=Tryz.f49) (hint:=F98H) (pack:=fun y=>y.2.1) Za2 tab_ok trivial fun x z h=>(F98_eq x.1 x.2.1 x.2.2.1).trans h
def F102: (El Y31)->(El Y3)->(El Y3)->(El Y3)->(El Y3)->(El Y4)->Option (El Y4):=fun a0 a1 a2 a3 a4 a5=>
 Option.bind
 (run
 (fun s0=>
 bif decide (s0< (↑(List.length a0.2.2.2.1):Int)) then
 (idx a0.2.2.2.1 s0).bind fun x1=>
 Option.bind
 (bif decide (x1.1=a1) then
 bif decide (x1.2.1=a2) then
 bif decide (x1.2.2.1=a3) then bif decide (x1.2.2.2.1=a4) then some (x1.2.2.2.2.1==a5) else some false
 else some false
 else some false
 else some false)
 fun x2=>bif x2 then some (.inr (.inr true)) else some (.inl (IntKind.wrap .i64 (s0+(1:Int))))
 else some (.inr (.inl ())))
 (0:Int))
 fun x3=>Sum.elim (fun _=>some false) (fun y5=>some y5) x3
abbrev F102A:Zam:=(.cons (.pd Y31) (.cons (.pd Y3) (.cons (.pd Y3) (.cons (.pd Y3) (.cons (.pd Y3) (.cons (.pd Y4) .nil))))))
abbrev F102R:Zam:=(.cons (.pd Y4) .nil)
def F102S:Tr.Spec:= {args:=F102A,res:=F102R,fns:=[],α:=El Y4,f:=fun x=>F102 x.1 x.2.1 x.2.2.1 x.2.2.2.1 x.2.2.2.2.1 x.2.2.2.2.2.1,unp:=fun z=>(((),(),(),(),(),(),()),(z,())) }
def F102M:List (Nat×List Tr.Spec):=[]
def F102H:ZaT:=(.seq .leaf (.seq (.seq .leaf (.lp ⟨[(13,(.pd Y3))],[],[1,2,3,4,5,6],[],[],[]⟩ [((.exit 0),⟨[],[],[],[],[],[]⟩),(.ret,⟨[(12,(.pd Y4))],[],[],[],[],[]⟩)] (.seq .leaf (.seq (.seq .leaf (.seq (.reg [(54,Y4)]) .leaf)) .leaf)))) .leaf))
theorem F102_eq(a0:El Y31)(a1:El Y3)(a2:El Y3)(a3:El Y3)(a4:El Y3)(a5:El Y4):(Zau (mkE tyTab mapTab pkTab [] [] F102M 55 bdTab) (Zai Tryz.f75) Tryz.f75.results F102H F102A F102R (fun y=>y.2.1) (a0,a1,a2,a3,a4,a5,()):Option (El Y4))=F102 a0 a1 a2 a3 a4 a5:=by kernel_rfl
theorem F102_ok:ZaQ Tryz.prog 75 F102S:=Zae (m:=F102M) (fn:=Tryz.f75) (hint:=F102H) (pack:=fun y=>y.2.1) Za2 tab_ok trivial fun x z h=>(F102_eq x.1 x.2.1 x.2.2.1 x.2.2.2.1 x.2.2.2.2.1 x.2.2.2.2.2.1).trans h
def F105: (El Y31)->(El Y80)->(El Y3)->Option (El Y4):=fun a0 a1 a2=>
 Option.bind
 (run
 (fun s0=>
 bif decide (s0< (↑(List.length a0.2.2.1):Int)) then
 (idx a0.2.2.1 s0).bind fun x1=>
 Option.bind
 ((F102 a0 s0 (IntKind.wrap .i64 ((↑(List.length x1.2.2.2.2.2.2.2.1):Int) - (1:Int))) a2 (0:Int) true).bind fun x2=>
 bif x2 then
 (F98 a1 s0 (IntKind.wrap .i64 ((↑(List.length x1.2.2.2.2.2.2.2.1):Int) - (1:Int)))).bind fun x3=>
 bif x3 then
 (idx a0.2.2.1 a2).bind fun x4=>
 (idx x4.2.2.2.2.2.2.2.1 (0:Int)).bind fun x5=>
 (idx a0.2.2.1 s0).bind fun x6=>
 (idx x6.2.2.2.2.2.2.2.1 (IntKind.wrap .i64 ((↑(List.length x1.2.2.2.2.2.2.2.1):Int) - (1:Int)))).bind fun x7=>
 some (decide (x7.2.1<=x5.2.2.1))
 else some false
 else some false)
 fun x8=>bif x8 then some (.inr (.inr true)) else some (.inl (IntKind.wrap .i64 (s0+(1:Int))))
 else some (.inr (.inl ())))
 (0:Int))
 fun x9=>Sum.elim (fun _=>some false) (fun y11=>some y11) x9
abbrev F105A:Zam:=(.cons (.pd Y31) (.cons (.pd Y80) (.cons (.pd Y3) .nil)))
abbrev F105R:Zam:=(.cons (.pd Y4) .nil)
def F105S:Tr.Spec:= {args:=F105A,res:=F105R,fns:=[],α:=El Y4,f:=fun x=>F105 x.1 x.2.1 x.2.2.1,unp:=fun z=>(((),(),(),()),(z,())) }
def F105M:List (Nat×List Tr.Spec):=[(49,[F98S]),(75,[F102S])]
def F105H:ZaT:=(.seq .leaf (.seq (.seq .leaf (.lp ⟨[(7,(.pd Y3))],[],[2,3,4],[],[],[]⟩ [((.exit 0),⟨[],[],[],[],[],[]⟩),(.ret,⟨[(6,(.pd Y4))],[],[],[],[],[]⟩)] (.seq .leaf (.seq (.seq .leaf (.seq (.reg [(56,Y4)]) .leaf)) .leaf)))) .leaf))
theorem F105_eq(a0:El Y31)(a1:El Y80)(a2:El Y3):(Zau (mkE tyTab mapTab pkTab [] [] F105M 57 bdTab) (Zai Tryz.f46) Tryz.f46.results F105H F105A F105R (fun y=>y.2.1) (a0,a1,a2,()):Option (El Y4))=F105 a0 a1 a2:=by kernel_rfl
theorem F105_ok:ZaQ Tryz.prog 46 F105S:=Zae (m:=F105M) (fn:=Tryz.f46) (hint:=F105H) (pack:=fun y=>y.2.1) Za2 tab_ok ⟨⟨F98_ok,trivial⟩,⟨F102_ok,trivial⟩,trivial⟩ fun x z h=>(F105_eq x.1 x.2.1 x.2.2.1).trans h
def F83: (El Y31)->(El Y33)->(El Y3)->Option (El Y4):=fun a0 a1 a2=>Option.bind (bif !a1.2.2.2.2.2.2.1 then some true else (idx a0.1 a2).bind fun x0=>some x0.2.2.1) fun x1=>some x1
abbrev F83A:Zam:=(.cons (.pd Y31) (.cons (.pd Y33) (.cons (.pd Y3) .nil)))
abbrev F83R:Zam:=(.cons (.pd Y4) .nil)
def F83S:Tr.Spec:= {args:=F83A,res:=F83R,fns:=[],α:=El Y4,f:=fun x=>F83 x.1 x.2.1 x.2.2.1,unp:=fun z=>(((),(),(),()),(z,())) }
def F83M:List (Nat×List Tr.Spec):=[]
def F83H:ZaT:=(.seq .leaf (.seq (.reg [(6,Y4)]) .leaf))
theorem F83_eq(a0:El Y31)(a1:El Y33)(a2:El Y3):(Zau (mkE tyTab mapTab pkTab [45] [] F83M 18 bdTab) (Zai Tryz.f48) Tryz.f48.results F83H F83A F83R (fun y=>y.2.1) (a0,a1,a2,()):Option (El Y4))=F83 a0 a1 a2:=by kernel_rfl
theorem F83_ok:ZaQ Tryz.prog 48 F83S:=Zae (m:=F83M) (fn:=Tryz.f48) (hint:=F83H) (pack:=fun y=>y.2.1) Za2 tab_ok trivial fun x z h=>(F83_eq x.1 x.2.1 x.2.2.1).trans h
def F99: (El Y31)->(El Y33)->(El Y3)->(El Y3)->Option (El Y4):=fun a0 a1 a2 a3=>
 (idx a0.2.2.1 a2).bind fun x0=>
 (idx x0.2.2.2.2.2.2.2.1 a3).bind fun x1=>
 bif decide (x1.1=a1.1) then
 Option.bind (bif a1.2.2.2.2.2.2.2.2.2.1 then (idx a0.1 a1.1).bind fun x2=>some x2.2.2.2.1 else some (0:Int)) fun x3=>
 some (decide (IntKind.wrap .i64 (a1.2.2.1+x3)<=x1.2.2.1))
 else
 (F107 a0 a1 a1.1 x1.1).bind fun x4=>
 Option.bind (bif x4.2 then some (decide (a1.2.2.1<=IntKind.wrap .i64 (x1.2.2.1 - x4.1))) else some false) fun x5=>some x5
abbrev F99A:Zam:=(.cons (.pd Y31) (.cons (.pd Y33) (.cons (.pd Y3) (.cons (.pd Y3) .nil))))
abbrev F99R:Zam:=(.cons (.pd Y4) .nil)
def F99S:Tr.Spec:= {args:=F99A,res:=F99R,fns:=[],α:=El Y4,f:=fun x=>F99 x.1 x.2.1 x.2.2.1 x.2.2.2.1,unp:=fun z=>(((),(),(),(),()),(z,())) }
def F99M:List (Nat×List Tr.Spec):=[(25,[F107S])]
def F99H:ZaT:=(.seq .leaf (.seq .leaf (.seq (.seq .leaf (.cnd none (.seq .leaf (.seq (.seq .leaf (.cnd (some (⟨[],[],[5,9],[],[],[]⟩,[(.normal,⟨[(10,(.pd Y3))],[],[5,9],[],[],[]⟩)])) .leaf .leaf)) .leaf)) .leaf)) (.seq .leaf (.seq (.reg [(8,Y4)]) .leaf)))))
theorem F99_eq(a0:El Y31)(a1:El Y33)(a2:El Y3)(a3:El Y3):(Zau (mkE tyTab mapTab pkTab [] [] F99M 63 bdTab) (Zai Tryz.f76) Tryz.f76.results F99H F99A F99R (fun y=>y.2.1) (a0,a1,a2,a3,()):Option (El Y4))=F99 a0 a1 a2 a3:=by kernel_rfl
theorem F99_ok:ZaQ Tryz.prog 76 F99S:=Zae (m:=F99M) (fn:=Tryz.f76) (hint:=F99H) (pack:=fun y=>y.2.1) Za2 tab_ok ⟨⟨F107_ok,trivial⟩,trivial⟩ fun x z h=>(F99_eq x.1 x.2.1 x.2.2.1 x.2.2.2.1).trans h
def F101: (El Y31)->(El Y33)->(El Y3)->(El Y3)->(El Y3)->(El Y3)->Option (El Y4):=fun a0 a1 a2 a3 a4 a5=>
 (idx a0.2.2.1 a2).bind fun x0=>
 (idx x0.2.2.2.2.2.2.2.1 a3).bind fun x1=>
 (idx a0.2.2.1 a4).bind fun x2=>
 (idx x2.2.2.2.2.2.2.2.1 a5).bind fun x3=>
 bif decide (x1.1=x3.1) then
 Option.bind
 ((idx a0.1 x1.1).bind fun x4=>
 bif decide (IntKind.wrap .i64 (x1.2.1+x4.2.2.2.1)<=x3.2.2.1) then some true
 else bif decide (x1.2.1<=x3.2.2.1) then (F102 a0 a2 a3 a4 a5 false).bind fun x5=>some x5 else some false)
 fun x6=>some x6
 else
 (F107 a0 a1 x1.1 x3.1).bind fun x7=>
 Option.bind (bif x7.2 then some (decide (IntKind.wrap .i64 (x1.2.1+x7.1)<=x3.2.2.1)) else some false) fun x8=>some x8
abbrev F101A:Zam:=(.cons (.pd Y31) (.cons (.pd Y33) (.cons (.pd Y3) (.cons (.pd Y3) (.cons (.pd Y3) (.cons (.pd Y3) .nil))))))
abbrev F101R:Zam:=(.cons (.pd Y4) .nil)
def F101S:Tr.Spec:= {args:=F101A,res:=F101R,fns:=[],α:=El Y4,f:=fun x=>F101 x.1 x.2.1 x.2.2.1 x.2.2.2.1 x.2.2.2.2.1 x.2.2.2.2.2.1,unp:=fun z=>(((),(),(),(),(),(),()),(z,())) }
def F101M:List (Nat×List Tr.Spec):=[(25,[F107S]),(75,[F102S])]
def F101H:ZaT:=(.seq .leaf (.seq .leaf (.seq (.seq .leaf (.cnd none (.seq (.reg [(12,Y4)]) .leaf) .leaf)) (.seq .leaf (.seq (.reg [(12,Y4)]) .leaf)))))
theorem F101_eq(a0:El Y31)(a1:El Y33)(a2:El Y3)(a3:El Y3)(a4:El Y3)(a5:El Y3):(Zau (mkE tyTab mapTab pkTab [] [] F101M 88 bdTab) (Zai Tryz.f77) Tryz.f77.results F101H F101A F101R (fun y=>y.2.1) (a0,a1,a2,a3,a4,a5,()):Option (El Y4))=F101 a0 a1 a2 a3 a4 a5:=by kernel_rfl
theorem F101_ok:ZaQ Tryz.prog 77 F101S:=Zae (m:=F101M) (fn:=Tryz.f77) (hint:=F101H) (pack:=fun y=>y.2.1) Za2 tab_ok ⟨⟨F107_ok,trivial⟩,⟨F102_ok,trivial⟩,trivial⟩ fun x z h=>(F101_eq x.1 x.2.1 x.2.2.1 x.2.2.2.1 x.2.2.2.2.1 x.2.2.2.2.2.1).trans h
def F103: (El Y31)->(El Y33)->(El Y80)->(El Y3)->(El Y3)->Option (El Y4):=fun a0 a1 a2 a3 a4=>
 (idx a0.2.2.1 a3).bind fun x0=>
 (idx x0.2.2.2.2.2.2.2.1 a4).bind fun x1=>
 Option.bind (bif !x1.2.2.2.1 then some true else (F83 a0 a1 x1.1).bind fun x2=>some !x2) fun x3=>
 bif x3 then some false
 else
 (F99 a0 a1 a3 a4).bind fun x4=>
 bif x4 then some true
 else
 Option.bind
 (run
 (fun s5=>
 bif decide (s5< (↑(List.length a0.2.2.1):Int)) then
 Option.bind
 (run
 (fun s6=>
 (idx a0.2.2.1 s5).bind fun x7=>
 bif decide (s6< (↑(List.length x7.2.2.2.2.2.2.2.1):Int)) then
 Option.bind
 ((idx a2.2.1 s5).bind fun x8=>
 (idx x8 s6).bind fun x9=>bif x9 then (F101 a0 a1 s5 s6 a3 a4).bind fun x10=>some x10 else some false)
 fun x11=>bif x11 then some (.inr (.inr true)) else some (.inl (IntKind.wrap .i64 (s6+(1:Int))))
 else some (.inr (.inl ())))
 (0:Int))
 fun x12=>Sum.elim (fun _=>some (.inl (IntKind.wrap .i64 (s5+(1:Int))))) (fun y14=>some (.inr (.inr y14))) x12
 else some (.inr (.inl ())))
 (0:Int))
 fun x15=>Sum.elim (fun _=>some false) (fun y17=>some y17) x15
abbrev F103A:Zam:=(.cons (.pd Y31) (.cons (.pd Y33) (.cons (.pd Y80) (.cons (.pd Y3) (.cons (.pd Y3) .nil)))))
abbrev F103R:Zam:=(.cons (.pd Y4) .nil)
def F103S:Tr.Spec:= {args:=F103A,res:=F103R,fns:=[],α:=El Y4,f:=fun x=>F103 x.1 x.2.1 x.2.2.1 x.2.2.2.1 x.2.2.2.2.1,unp:=fun z=>(((),(),(),(),(),()),(z,())) }
def F103M:List (Nat×List Tr.Spec):=[(48,[F83S]),(76,[F99S]),(77,[F101S])]
def F103H:ZaT:=(.seq .leaf (.seq .leaf (.seq (.seq (.reg [(33,Y4)]) .leaf) (.seq .leaf (.seq (.seq .leaf (.lp ⟨[(12,(.pd Y3))],[],[3,4,5,6,7],[],[],[]⟩ [((.exit 0),⟨[],[],[],[],[],[]⟩),(.ret,⟨[(10,(.pd Y4))],[],[],[],[],[]⟩)] (.seq .leaf (.seq (.seq .leaf (.lp ⟨[(13,(.pd Y3))],[],[3,4,5,6,7,12],[],[],[]⟩ [((.exit 2),⟨[],[],[3,4,5,6,7,12],[],[],[]⟩),(.ret,⟨[(10,(.pd Y4))],[],[],[],[],[]⟩)] (.seq .leaf (.seq (.seq (.reg [(73,Y4)]) .leaf) .leaf)))) .leaf)))) .leaf)))))
theorem F103_eq(a0:El Y31)(a1:El Y33)(a2:El Y80)(a3:El Y3)(a4:El Y3):(Zau (mkE tyTab mapTab pkTab [] [] F103M 74 bdTab) (Zai Tryz.f47) Tryz.f47.results F103H F103A F103R (fun y=>y.2.1) (a0,a1,a2,a3,a4,()):Option (El Y4))=F103 a0 a1 a2 a3 a4:=by kernel_rfl
theorem F103_ok:ZaQ Tryz.prog 47 F103S:=Zae (m:=F103M) (fn:=Tryz.f47) (hint:=F103H) (pack:=fun y=>y.2.1) Za2 tab_ok ⟨⟨F83_ok,trivial⟩,⟨F99_ok,trivial⟩,⟨F101_ok,trivial⟩,trivial⟩ fun x z h=>(F103_eq x.1 x.2.1 x.2.2.1 x.2.2.2.1 x.2.2.2.2.1).trans h
def F97: (El Y31)->(El Y33)->Option (El Y80):=fun a0 a1=>
 (F104 a0).bind fun x0=>
 Option.bind
 (run
 (fun s1=>
 bif s1.2.2 then
 Option.bind
 (run
 (fun s2=>
 bif decide (s2.2.2.2< (↑(List.length a0.2.2.1):Int)) then
 (F106 a0 a1 s2.2.2.2).bind fun x3=>
 bif !x3 then
 some
 (.inl
 (s2.1,s2.2.1,s2.2.2.1,
 IntKind.wrap .i64 (s2.2.2.2+(1:Int))))
 else
 Option.bind
 ((inb s2.2.2.2 (List.length s2.2.1.2.2.1)).bind fun x4=>
 Option.bind s2.2.1.2.2.1[x4]? fun x5=>
 bif !x5 then (F105 a0 s2.2.1 s2.2.2.2).bind fun x6=>some x6
 else some false)
 fun x7=>
 Option.bind
 (bif x7 then
 (inb s2.2.2.2 (List.length s2.2.1.2.2.1)).bind fun x8=>
 Option.bind s2.2.1.2.2.1[x8]? fun _=>
 some (s2.1,(s2.2.1.1,s2.2.1.2.1,List.set s2.2.1.2.2.1 x8 true,()),true)
 else some (s2.1,s2.2.1,s2.2.2.1))
 fun x10=>
 (idx a0.2.2.1 s2.2.2.2).bind fun x11=>
 Option.bind
 (run
 (fun s12=>
 bif decide (s12.2.2.2< (↑(List.length x11.2.2.2.2.2.2.2.1):Int)) then
 Option.bind
 (bif decide (IntKind.wrap .i64 (s12.2.2.2+(1:Int))< (↑(List.length x11.2.2.2.2.2.2.2.1):Int)) then
 (inb s2.2.2.2 (List.length s12.2.1.1)).bind fun x13=>
 Option.bind s12.2.1.1[x13]? fun _=>
 (idx s12.2.1.1 (↑x13:Int)).bind fun x15=>
 (inb s12.2.2.2 (List.length x15)).bind fun x16=>
 (idx s12.2.1.1 (↑x13:Int)).bind fun x17=>
 Option.bind x17[x16]? fun x18=>
 bif !x18 then
 (F103 a0 a1 s12.2.1 s2.2.2.2 s12.2.2.2).bind fun x19=>
 some x19
 else some false
 else some false)
 fun x20=>
 Option.bind
 (bif x20 then
 (inb s2.2.2.2 (List.length s12.2.1.1)).bind fun x21=>
 Option.bind s12.2.1.1[x21]? fun _=>
 (idx s12.2.1.1 (↑x21:Int)).bind fun x23=>
 (inb s12.2.2.2 (List.length x23)).bind fun x24=>
 (idx s12.2.1.1 (↑x21:Int)).bind fun x25=>
 Option.bind x25[x24]? fun _=>
 some
 (s12.1,
 (List.set s12.2.1.1 (Int.toNat (↑x21:Int)) (List.set x25 x24 true),s12.2.1.2.1,s12.2.1.2.2.1,()),
 true)
 else
 some (s12.1,s12.2.1,s12.2.2.1))
 fun x27=>
 Option.bind
 ((inb s2.2.2.2 (List.length x27.2.1.2.1)).bind fun x28=>
 Option.bind x27.2.1.2.1[x28]? fun _=>
 (idx x27.2.1.2.1 (↑x28:Int)).bind fun x30=>
 (inb s12.2.2.2 (List.length x30)).bind fun x31=>
 (idx x27.2.1.2.1 (↑x28:Int)).bind fun x32=>
 Option.bind x32[x31]? fun x33=>
 bif !x33 then
 (idx x11.2.2.2.2.2.2.2.1 s12.2.2.2).bind fun x34=>
 bif x34.2.2.2.2.1 then
 (idx x11.2.2.2.2.2.2.2.1 s12.2.2.2).bind fun x35=>
 (F83 a0 a1 x35.1).bind fun x36=>
 bif x36 then
 Option.bind (F98 x27.2.1 s2.2.2.2 s12.2.2.2)
 fun x37=>some x37
 else some false
 else some false
 else some false)
 fun x38=>
 bif x38 then
 (inb s2.2.2.2 (List.length x27.2.1.2.1)).bind fun x39=>
 Option.bind x27.2.1.2.1[x39]? fun _=>
 (idx x27.2.1.2.1 (↑x39:Int)).bind fun x41=>
 (inb s12.2.2.2 (List.length x41)).bind fun x42=>
 (idx x27.2.1.2.1 (↑x39:Int)).bind fun x43=>
 Option.bind x43[x42]? fun _=>
 some
 (.inl
 (x27.1,
 (x27.2.1.1,List.set x27.2.1.2.1 (Int.toNat (↑x39:Int)) (List.set x43 x42 true),x27.2.1.2.2.1,()),
 true,IntKind.wrap .i64 (s12.2.2.2+(1:Int))))
 else
 some
 (.inl
 (x27.1,x27.2.1,x27.2.2,
 IntKind.wrap .i64 (s12.2.2.2+(1:Int))))
 else
 some
 (.inr (s12.1,s12.2.1,s12.2.2.1)))
 (x10.1,x10.2.1,x10.2.2,(0:Int)))
 fun x45=>
 some
 (.inl
 (x45.1,x45.2.1,x45.2.2,
 IntKind.wrap .i64 (s2.2.2.2+(1:Int))))
 else some (.inr (s2.1,s2.2.1,s2.2.2.1)))
 (s1.1,s1.2.1,false,(0:Int)))
 fun x46=>some (.inl (x46.1,x46.2.1,x46.2.2))
 else some (.inr (s1.1,s1.2.1.1,s1.2.1.2.1,s1.2.1.2.2.1,())))
 ((([]:List (List (El Y4))),([]:List (List (El Y4))),([]:List (El Y4)),()),x0,true))
 fun x47=>some x47.2
abbrev F97A:Zam:=(.cons (.pd Y31) (.cons (.pd Y33) .nil))
abbrev F97R:Zam:=(.cons (.pd Y80) .nil)
def F97S:Tr.Spec:= {args:=F97A,res:=F97R,fns:=[],α:=El Y80,f:=fun x=>F97 x.1 x.2.1,unp:=fun z=>(((),(),()),(z,())) }
def F97M:List (Nat×List Tr.Spec):=[(44,[F104S]),(45,[F106S]),(46,[F105S]),(47,[F103S]),(48,[F83S]),(49,[F98S])]
def F97H:ZaT:=(.seq .leaf (.seq .leaf (.seq (.seq .leaf (.lp ⟨[(4,Pz6),(5,Pz6),(6,(.pd Y4))],[],[2,3],[],[],[]⟩ [((.exit 0),⟨[(4,Pz6),(5,Pz6)],[],[],[],[],[]⟩)] (.seq .leaf (.seq .leaf (.seq .leaf (.lp ⟨[(4,Pz6),(5,Pz6),(6,(.pd Y4)),(7,(.pd Y3))],[],[2,3],[],[],[]⟩ [((.exit 2),⟨[(4,Pz6),(5,Pz6),(6,(.pd Y4))],[],[2,3],[],[],[]⟩)] (.seq .leaf (.seq (.seq .leaf (.seq (.seq (.reg [(36,Y4)]) (.cnd (some (⟨[],[],[2,3,7],[],[],[]⟩,[(.normal,⟨[(4,Pz6),(5,Pz6),(6,(.pd Y4))],[],[2,3,7],[],[],[]⟩)])) .leaf .leaf)) (.seq .leaf (.seq .leaf (.lp ⟨[(4,Pz6),(5,Pz6),(6,(.pd Y4)),(9,(.pd Y3))],[],[2,3,7,8],[],[],[]⟩ [((.exit 4),⟨[(4,Pz6),(5,Pz6),(6,(.pd Y4))],[],[2,3,7],[],[],[]⟩)] (.seq .leaf (.seq (.seq (.seq (.reg [(76,Y4)]) (.cnd (some (⟨[],[],[2,3,7,8,9],[],[],[]⟩,[(.normal,⟨[(4,Pz6),(5,Pz6),(6,(.pd Y4))],[],[2,3,7,8,9],[],[],[]⟩)])) .leaf .leaf)) (.seq (.reg [(115,Y4)]) .leaf)) .leaf))))))) .leaf)))))))) .leaf)))
theorem F97_eq(a0:El Y31)(a1:El Y33):(Zau (mkE tyTab mapTab pkTab [77] [80] F97M 124 bdTab) (Zai Tryz.f27) Tryz.f27.results F97H F97A F97R (fun y=>y.2.1) (a0,a1,()):Option (El Y80))=F97 a0 a1:=by kernel_rfl
theorem F97_ok:ZaQ Tryz.prog 27 F97S:=Zae (m:=F97M) (fn:=Tryz.f27) (hint:=F97H) (pack:=fun y=>y.2.1) Za2 tab_ok ⟨⟨F104_ok,trivial⟩,⟨F106_ok,trivial⟩,⟨F105_ok,trivial⟩,⟨F103_ok,trivial⟩,⟨F83_ok,trivial⟩,⟨F98_ok,trivial⟩,trivial⟩ fun x z h=>(F97_eq x.1 x.2.1).trans h
def F95: (El Y31)->(El Y33)->Option (El Y36×El Y37):=fun a0 a1=>
 (F96 a0 a1).bind fun x0=>
 bif !decide (x0=(0:Int)) then some ([],x0)
 else
 Option.bind
 (run
 (fun s1=>
 bif decide (s1.2< (↑(List.length a0.1):Int)) then
 Option.bind (Zar (decide (List.length s1.1+List.length [(-1:Int)]<=Zaq))) fun _=>
 some (.inl (s1.1++[(-1:Int)],IntKind.wrap .i64 (s1.2+(1:Int))))
 else some (.inr s1.1))
 ([],(0:Int)))
 fun x3=>
 (inb a1.1 (List.length x3)).bind fun x4=>
 Option.bind x3[x4]? fun _=>
 Option.bind
 (run
 (fun s6=>
 bif decide (s6.2< (↑(List.length a0.1):Int)) then
 (F107 a0 a1 a1.1 s6.2).bind fun x7=>
 bif x7.2 then
 (inb s6.2 (List.length s6.1)).bind fun x8=>
 Option.bind s6.1[x8]? fun x9=>
 (F100 x9 (IntKind.wrap .i64 (a1.2.2.1+x7.1))).bind fun x10=>
 (inb s6.2 (List.length s6.1)).bind fun x11=>
 Option.bind s6.1[x11]? fun _=>some (.inl (List.set s6.1 x11 x10,IntKind.wrap .i64 (s6.2+(1:Int))))
 else some (.inl (s6.1,IntKind.wrap .i64 (s6.2+(1:Int))))
 else some (.inr s6.1))
 (List.set x3 x4 a1.2.2.1,(0:Int)))
 fun x13=>
 (F97 a0 a1).bind fun x14=>
 Option.bind
 (run
 (fun s15=>
 bif decide (s15.2< (↑(List.length a0.2.2.1):Int)) then
 Option.bind
 (run
 (fun s16=>
 (idx a0.2.2.1 s15.2).bind fun x17=>
 bif decide (s16.2< (↑(List.length x17.2.2.2.2.2.2.2.1):Int)) then
 (idx x14.2.1 s15.2).bind fun x18=>
 (idx x18 s16.2).bind fun x19=>
 bif !x19 then some (.inl (s16.1,IntKind.wrap .i64 (s16.2+(1:Int))))
 else
 (idx a0.2.2.1 s15.2).bind fun x20=>
 (idx x20.2.2.2.2.2.2.2.1 s16.2).bind fun x21=>
 (inb x21.1 (List.length s16.1)).bind fun x22=>
 Option.bind s16.1[x22]? fun x23=>
 (F100 x23 x21.2.1).bind fun x24=>
 (inb x21.1 (List.length s16.1)).bind fun x25=>
 Option.bind s16.1[x25]? fun _=>
 Option.bind
 (run
 (fun s27=>
 bif decide (s27.2< (↑(List.length a0.1):Int)) then
 (F107 a0 a1 x21.1 s27.2).bind fun x28=>
 bif x28.2 then
 (inb s27.2 (List.length s27.1)).bind fun x29=>
 Option.bind s27.1[x29]? fun x30=>
 (F100 x30 (IntKind.wrap .i64 (x21.2.1+x28.1))).bind fun x31=>
 (inb s27.2 (List.length s27.1)).bind fun x32=>
 Option.bind s27.1[x32]? fun _=>
 some (.inl (List.set s27.1 x32 x31,IntKind.wrap .i64 (s27.2+(1:Int))))
 else some (.inl (s27.1,IntKind.wrap .i64 (s27.2+(1:Int))))
 else some (.inr s27.1))
 (List.set s16.1 x25 x24,(0:Int)))
 fun x34=>some (.inl (x34,IntKind.wrap .i64 (s16.2+(1:Int))))
 else some (.inr s16.1))
 (s15.1,(0:Int)))
 fun x35=>some (.inl (x35,IntKind.wrap .i64 (s15.2+(1:Int))))
 else some (.inr s15.1))
 (x13,(0:Int)))
 fun x36=>some (x36,(0:Int))
abbrev F95A:Zam:=(.cons (.pd Y31) (.cons (.pd Y33) .nil))
abbrev F95R:Zam:=(.cons (.pd Y36) (.cons (.pd Y37) .nil))
def F95S:Tr.Spec:= {args:=F95A,res:=F95R,fns:=[],α:=El Y36×El Y37,f:=fun x=>F95 x.1 x.2.1,unp:=fun z=>(((),(),()),(z.1,z.2,())) }
def F95M:List (Nat×List Tr.Spec):=[(20,[F96S]),(25,[F107S]),(26,[F100S]),(27,[F97S])]
def F95H:ZaT:=(.seq .leaf (.seq .leaf (.seq .leaf (.seq (.seq .leaf (.lp ⟨[(7,(.own Y3 false)),(8,(.pd Y3))],[],[2,3],[],[],[]⟩ [((.exit 0),⟨[(7,(.own Y3 false))],[],[2,3],[],[],[]⟩)] .leaf)) (.seq .leaf (.seq (.seq .leaf (.lp ⟨[(7,(.own Y3 false)),(9,(.pd Y3))],[],[2,3],[],[],[]⟩ [((.exit 2),⟨[(7,(.own Y3 false))],[],[2,3],[],[],[]⟩)] .leaf)) (.seq .leaf (.seq (.seq .leaf (.lp ⟨[(7,(.own Y3 false)),(13,(.pd Y3))],[],[2,3,12],[],[],[]⟩ [((.exit 4),⟨[(7,(.own Y3 false))],[],[],[],[],[]⟩)] (.seq .leaf (.seq (.seq .leaf (.lp ⟨[(7,(.own Y3 false)),(14,(.pd Y3))],[],[2,3,12,13],[],[],[]⟩ [((.exit 6),⟨[(7,(.own Y3 false))],[],[2,3,12,13],[],[],[]⟩)] (.seq .leaf (.seq (.seq .leaf (.seq .leaf (.seq .leaf (.seq .leaf (.lp ⟨[(7,(.own Y3 false)),(16,(.pd Y3))],[],[2,3,12,13,14,15],[],[],[]⟩ [((.exit 8),⟨[(7,(.own Y3 false))],[],[2,3,12,13,14],[],[],[]⟩)] .leaf))))) .leaf)))) .leaf)))) .leaf))))))))
theorem F95_eq(a0:El Y31)(a1:El Y33):(Zau (mkE tyTab mapTab pkTab [] [] F95M 151 bdTab) (Zai Tryz.f11) Tryz.f11.results F95H F95A F95R (fun y=>(y.2.1,y.2.2.1)) (a0,a1,()):Option (El Y36×El Y37))=F95 a0 a1:=by kernel_rfl
theorem F95_ok:ZaQ Tryz.prog 11 F95S:=Zae (m:=F95M) (fn:=Tryz.f11) (hint:=F95H) (pack:=fun y=>(y.2.1,y.2.2.1)) Za2 tab_ok ⟨⟨F96_ok,trivial⟩,⟨F107_ok,trivial⟩,⟨F100_ok,trivial⟩,⟨F97_ok,trivial⟩,trivial⟩ fun x z h=>(F95_eq x.1 x.2.1).trans h
def F33: (El Y33)->(El Y45)->Option (El Y3):=fun a0 a1=>
 bif decide ((↑(List.length a1.1):Int)=(0:Int)) then some a0.2.2.1
 else (idx a1.1 (IntKind.wrap .i64 ((↑(List.length a1.1):Int) - (1:Int)))).bind fun x0=>some x0.2.2.2.2.2.2.2.1
abbrev F33A:Zam:=(.cons (.pd Y33) (.cons (.pd Y45) .nil))
abbrev F33R:Zam:=(.cons (.pd Y3) .nil)
def F33S:Tr.Spec:= {args:=F33A,res:=F33R,fns:=[],α:=El Y3,f:=fun x=>F33 x.1 x.2.1,unp:=fun z=>(((),(),()),(z,())) }
def F33M:List (Nat×List Tr.Spec):=[]
def F33H:ZaT:= .leaf
theorem F33_eq(a0:El Y33)(a1:El Y45):(Zau (mkE tyTab mapTab pkTab [] [] F33M 20 bdTab) (Zai Tryz.f16) Tryz.f16.results F33H F33A F33R (fun y=>y.2.1) (a0,a1,()):Option (El Y3))=F33 a0 a1:=by kernel_rfl
theorem F33_ok:ZaQ Tryz.prog 16 F33S:=Zae (m:=F33M) (fn:=Tryz.f16) (hint:=F33H) (pack:=fun y=>y.2.1) Za2 tab_ok trivial fun x z h=>(F33_eq x.1 x.2.1).trans h
def F73: (El Y31)->(El Y51)->Option (El Y4):=fun a0 a1=>
 Option.bind (bif decide (a1.2.1< (0:Int)) then some true else some (decide ((↑(List.length a0.2.2.1):Int)<=a1.2.1))) fun x0=>
 bif x0 then some false
 else
 Option.bind
 (bif decide ((0:Int)<=a1.2.2.1) then
 bif decide (a1.2.2.1<a1.2.2.2.1) then
 (idx a0.2.2.1 a1.2.1).bind fun x1=>some (decide (a1.2.2.2.1< (↑(List.length x1.2.2.2.2.2.2.2.1):Int)))
 else some false
 else some false)
 fun x2=>some x2
abbrev F73A:Zam:=(.cons (.pd Y31) (.cons (.pd Y51) .nil))
abbrev F73R:Zam:=(.cons (.pd Y4) .nil)
def F73S:Tr.Spec:= {args:=F73A,res:=F73R,fns:=[],α:=El Y4,f:=fun x=>F73 x.1 x.2.1,unp:=fun z=>(((),(),()),(z,())) }
def F73M:List (Nat×List Tr.Spec):=[]
def F73H:ZaT:=(.seq .leaf (.seq (.seq (.reg [(15,Y4)]) .leaf) (.seq (.reg [(4,Y4)]) .leaf)))
theorem F73_eq(a0:El Y31)(a1:El Y51):(Zau (mkE tyTab mapTab pkTab [] [] F73M 39 bdTab) (Zai Tryz.f79) Tryz.f79.results F73H F73A F73R (fun y=>y.2.1) (a0,a1,()):Option (El Y4))=F73 a0 a1:=by kernel_rfl
theorem F73_ok:ZaQ Tryz.prog 79 F73S:=Zae (m:=F73M) (fn:=Tryz.f79) (hint:=F73H) (pack:=fun y=>y.2.1) Za2 tab_ok trivial fun x z h=>(F73_eq x.1 x.2.1).trans h
def F93: (El Y31)->(El Y33)->(El Y51)->Option (El Y37):=fun a0 a1 a2=>
 (idx a0.2.2.1 a2.2.1).bind fun x0=>
 (idx x0.2.2.2.2.2.2.2.1 a2.2.2.1).bind fun x1=>
 (idx x0.2.2.2.2.2.2.2.1 a2.2.2.2.1).bind fun x2=>
 (idx a0.2.1 x0.2.2.2.2.1).bind fun x3=>
 Option.bind (bif !decide (x1.1=a2.2.2.2.2.1) then some true else some !decide (x2.1=a2.2.2.2.2.2.1)) fun x4=>
 bif x4 then some (24:Int)
 else
 Option.bind
 (bif !decide (x1.2.2.1=a2.2.2.2.2.2.2.1) then some true
 else some !decide (x2.2.1=a2.2.2.2.2.2.2.2.1))
 fun x5=>
 bif x5 then some (10:Int)
 else
 bif x0.2.2.2.2.2.2.1 then some (27:Int)
 else
 Option.bind (bif a1.2.2.2.2.2.2.1 then some !x0.2.2.2.2.2.1 else some false) fun x6=>
 bif x6 then some (29:Int)
 else
 Option.bind (bif a1.2.2.2.2.2.2.2.1 then some !x3.2.2.1 else some false) fun x7=>
 bif x7 then some (30:Int)
 else
 Option.bind
 (bif !decide (a1.2.2.2.2.2.2.2.2.1=(0:Int)) then
 Option.bind (Zm4 .i64 a1.2.2.2.2.2.2.2.2.1 x3.2.1) fun x8=>
 some (decide (Zlw .i64 x8 (1:Int)=(0:Int)))
 else some false)
 fun x9=>
 bif x9 then some (31:Int)
 else
 Option.bind (bif !a2.2.2.2.2.2.2.2.2.1 then some !x1.2.2.2.1 else some false) fun x10=>
 bif x10 then some (25:Int)
 else
 Option.bind
 (bif !a2.2.2.2.2.2.2.2.2.1 then (F83 a0 a1 a2.2.2.2.2.1).bind fun x11=>some !x11 else some false)
 fun x12=>bif x12 then some (29:Int) else some (0:Int)
abbrev F93A:Zam:=(.cons (.pd Y31) (.cons (.pd Y33) (.cons (.pd Y51) .nil)))
abbrev F93R:Zam:=(.cons (.pd Y37) .nil)
def F93S:Tr.Spec:= {args:=F93A,res:=F93R,fns:=[],α:=El Y37,f:=fun x=>F93 x.1 x.2.1 x.2.2.1,unp:=fun z=>(((),(),(),()),(z,())) }
def F93M:List (Nat×List Tr.Spec):=[(48,[F83S])]
def F93H:ZaT:=(.seq .leaf (.seq .leaf (.seq .leaf (.seq .leaf (.seq (.seq (.reg [(46,Y4)]) .leaf) (.seq (.seq (.reg [(58,Y4)]) .leaf) (.seq .leaf (.seq (.seq (.reg [(67,Y4)]) .leaf) (.seq (.seq (.reg [(74,Y4)]) .leaf) (.seq (.seq (.reg [(86,Y4)]) .leaf) (.seq (.seq (.reg [(94,Y4)]) .leaf) (.seq (.seq (.reg [(105,Y4)]) .leaf) .leaf))))))))))))
theorem F93_eq(a0:El Y31)(a1:El Y33)(a2:El Y51):(Zau (mkE tyTab mapTab pkTab [45] [] F93M 106 bdTab) (Zai Tryz.f80) Tryz.f80.results F93H F93A F93R (fun y=>y.2.1) (a0,a1,a2,()):Option (El Y37))=F93 a0 a1 a2:=by kernel_rfl
theorem F93_ok:ZaQ Tryz.prog 80 F93S:=Zae (m:=F93M) (fn:=Tryz.f80) (hint:=F93H) (pack:=fun y=>y.2.1) Za2 tab_ok ⟨⟨F83_ok,trivial⟩,trivial⟩ fun x z h=>(F93_eq x.1 x.2.1 x.2.2.1).trans h
def F94: (El Y31)->(El Y33)->(El Y51)->Option (El Y37):=fun a0 a1 a2=>
 Option.bind
 (run
 (fun s0=>
 bif decide (s0.2< (↑(List.length a0.2.2.2.2.1):Int)) then
 (idx a0.2.2.2.2.1 s0.2).bind fun x1=>
 Option.bind
 (bif !decide (x1.1=a2.2.2.2.2.1) then some true
 else
 bif !decide (x1.2.1=a2.2.2.2.2.2.1) then some true
 else some !decide (x1.2.2.1=IntKind.wrap .i64 (a2.2.2.2.2.2.2.2.1 - a2.2.2.2.2.2.2.1)))
 fun x2=>
 bif x2 then some (.inl (s0.1,IntKind.wrap .i64 (s0.2+(1:Int))))
 else
 Option.bind (bif x1.2.2.2.1 then some true else some !a1.2.2.2.2.2.2.1) fun x3=>
 bif x3 then some (.inr (.inr (0:Int))) else some (.inl ((29:Int),IntKind.wrap .i64 (s0.2+(1:Int))))
 else some (.inr (.inl s0.1)))
 ((18:Int),(0:Int)))
 fun x4=>Sum.elim (fun y5=>some y5) (fun y6=>some y6) x4
abbrev F94A:Zam:=(.cons (.pd Y31) (.cons (.pd Y33) (.cons (.pd Y51) .nil)))
abbrev F94R:Zam:=(.cons (.pd Y37) .nil)
def F94S:Tr.Spec:= {args:=F94A,res:=F94R,fns:=[],α:=El Y37,f:=fun x=>F94 x.1 x.2.1 x.2.2.1,unp:=fun z=>(((),(),(),()),(z,())) }
def F94M:List (Nat×List Tr.Spec):=[]
def F94H:ZaT:=(.seq .leaf (.seq .leaf (.seq (.seq .leaf (.lp ⟨[(7,(.pd Y37)),(8,(.pd Y3))],[],[3,4,5],[],[],[]⟩ [((.exit 0),⟨[(7,(.pd Y37))],[],[],[],[],[]⟩),(.ret,⟨[(6,(.pd Y37))],[],[],[],[],[]⟩)] (.seq .leaf (.seq (.seq .leaf (.seq (.seq (.reg [(43,Y4)]) .leaf) (.seq (.seq (.reg [(50,Y4)]) .leaf) .leaf))) .leaf)))) .leaf)))
theorem F94_eq(a0:El Y31)(a1:El Y33)(a2:El Y51):(Zau (mkE tyTab mapTab pkTab [45] [] F94M 52 bdTab) (Zai Tryz.f81) Tryz.f81.results F94H F94A F94R (fun y=>y.2.1) (a0,a1,a2,()):Option (El Y37))=F94 a0 a1 a2:=by kernel_rfl
theorem F94_ok:ZaQ Tryz.prog 81 F94S:=Zae (m:=F94M) (fn:=Tryz.f81) (hint:=F94H) (pack:=fun y=>y.2.1) Za2 tab_ok trivial fun x z h=>(F94_eq x.1 x.2.1 x.2.2.1).trans h
def F91: (El Y31)->(El Y33)->(El Y51)->Option (El Y37):=fun a0 a1 a2=>
 Option.bind
 ((F90 a2.2.2.2.2.1 (0:Int) (IntKind.wrap .i64 ((↑(List.length a0.1):Int) - (1:Int)))).bind fun x0=>
 bif !x0 then some true
 else (F90 a2.2.2.2.2.2.1 (0:Int) (IntKind.wrap .i64 ((↑(List.length a0.1):Int) - (1:Int)))).bind fun x1=>some !x1)
 fun x2=>
 bif x2 then some (9:Int)
 else
 Option.bind
 (bif a2.1 then
 (F73 a0 a2).bind fun x3=>
 bif !x3 then some true
 else
 bif !a2.1 then
 bif !decide (a2.2.1=(0:Int)) then some true
 else
 bif !decide (a2.2.2.1=(0:Int)) then some true
 else bif !decide (a2.2.2.2.1=(0:Int)) then some true else some a2.2.2.2.2.2.2.2.2.1
 else some false
 else
 bif !a2.1 then
 bif !decide (a2.2.1=(0:Int)) then some true
 else
 bif !decide (a2.2.2.1=(0:Int)) then some true
 else bif !decide (a2.2.2.2.1=(0:Int)) then some true else some a2.2.2.2.2.2.2.2.2.1
 else some false)
 fun x4=>
 bif x4 then some (9:Int)
 else
 Option.bind
 ((F90 a2.2.2.2.2.2.2.1 (0:Int) (3155932800:Int)).bind fun x5=>
 bif !x5 then some true else (F90 a2.2.2.2.2.2.2.2.1 (0:Int) (3155932800:Int)).bind fun x6=>some !x6)
 fun x7=>
 bif x7 then some (10:Int) else bif a2.1 then (F93 a0 a1 a2).bind fun x8=>some x8 else (F94 a0 a1 a2).bind fun x9=>some x9
abbrev F91A:Zam:=(.cons (.pd Y31) (.cons (.pd Y33) (.cons (.pd Y51) .nil)))
abbrev F91R:Zam:=(.cons (.pd Y37) .nil)
def F91S:Tr.Spec:= {args:=F91A,res:=F91R,fns:=[],α:=El Y37,f:=fun x=>F91 x.1 x.2.1 x.2.2.1,unp:=fun z=>(((),(),(),()),(z,())) }
def F91M:List (Nat×List Tr.Spec):=[(78,[F90S]),(79,[F73S]),(80,[F93S]),(81,[F94S])]
def F91H:ZaT:=(.seq .leaf (.seq (.seq (.reg [(24,Y4)]) .leaf) (.seq (.seq (.reg [(56,Y4)]) .leaf) (.seq (.seq (.reg [(66,Y4)]) .leaf) .leaf))))
theorem F91_eq(a0:El Y31)(a1:El Y33)(a2:El Y51):(Zau (mkE tyTab mapTab pkTab [45] [] F91M 77 bdTab) (Zai Tryz.f50) Tryz.f50.results F91H F91A F91R (fun y=>y.2.1) (a0,a1,a2,()):Option (El Y37))=F91 a0 a1 a2:=by kernel_rfl
theorem F91_ok:ZaQ Tryz.prog 50 F91S:=Zae (m:=F91M) (fn:=Tryz.f50) (hint:=F91H) (pack:=fun y=>y.2.1) Za2 tab_ok ⟨⟨F90_ok,trivial⟩,⟨F73_ok,trivial⟩,⟨F93_ok,trivial⟩,⟨F94_ok,trivial⟩,trivial⟩ fun x z h=>(F91_eq x.1 x.2.1 x.2.2.1).trans h
def F88: (El Y31)->(El Y33)->(El Y45)->Option (El Y37):=fun a0 a1 a2=>
 (idx a2.1 (0:Int)).bind fun x0=>
 bif !decide (x0.2.2.2.2.1=a1.1) then some (24:Int)
 else
 bif x0.2.2.2.2.2.2.2.2.1 then some (19:Int)
 else
 Option.bind
 (bif !x0.1 then
 bif decide ((1:Int)< (↑(List.length a2.1):Int)) then
 (idx a2.1 (1:Int)).bind fun x1=>
 bif x1.1 then (idx a2.1 (1:Int)).bind fun x2=>some !decide (x2.2.2.2.2.2.2.1=x0.2.2.2.2.2.2.2.1)
 else some false
 else some false
 else some false)
 fun x3=>
 bif x3 then some (10:Int)
 else
 Option.bind
 (bif !x0.1 then
 bif decide ((↑(List.length a2.1):Int)=(1:Int)) then
 bif a1.2.2.2.1 then
 bif !decide (x0.2.2.2.2.2.2.2.1=a1.2.2.1) then some true
 else bif !a1.2.2.2.1 then some !decide (x0.2.2.2.2.2.2.1=a1.2.2.1) else some false
 else bif !a1.2.2.2.1 then some !decide (x0.2.2.2.2.2.2.1=a1.2.2.1) else some false
 else some false
 else some false)
 fun x4=>
 bif x4 then some (10:Int)
 else
 Option.bind (bif !a1.2.2.2.1 then some (decide (x0.2.2.2.2.2.2.1<a1.2.2.1)) else some false) fun x5=>
 bif x5 then some (10:Int)
 else
 Option.bind
 (bif a1.2.2.2.2.2.2.2.2.2.1 then
 bif x0.1 then
 (idx a0.1 a1.1).bind fun x6=>
 some (decide (x0.2.2.2.2.2.2.1<IntKind.wrap .i64 (a1.2.2.1+x6.2.2.2.1)))
 else some false
 else some false)
 fun x7=>bif x7 then some (28:Int) else some (0:Int)
abbrev F88A:Zam:=(.cons (.pd Y31) (.cons (.pd Y33) (.cons (.pd Y45) .nil)))
abbrev F88R:Zam:=(.cons (.pd Y37) .nil)
def F88S:Tr.Spec:= {args:=F88A,res:=F88R,fns:=[],α:=El Y37,f:=fun x=>F88 x.1 x.2.1 x.2.2.1,unp:=fun z=>(((),(),(),()),(z,())) }
def F88M:List (Nat×List Tr.Spec):=[]
def F88H:ZaT:=(.seq .leaf (.seq .leaf (.seq .leaf (.seq .leaf (.seq (.seq (.reg [(44,Y4)]) .leaf) (.seq (.seq (.reg [(76,Y4)]) .leaf) (.seq (.seq (.reg [(86,Y4)]) .leaf) (.seq (.seq (.reg [(107,Y4)]) .leaf) .leaf))))))))
theorem F88_eq(a0:El Y31)(a1:El Y33)(a2:El Y45):(Zau (mkE tyTab mapTab pkTab [45] [] F88M 108 bdTab) (Zai Tryz.f51) Tryz.f51.results F88H F88A F88R (fun y=>y.2.1) (a0,a1,a2,()):Option (El Y37))=F88 a0 a1 a2:=by kernel_rfl
theorem F88_ok:ZaQ Tryz.prog 51 F88S:=Zae (m:=F88M) (fn:=Tryz.f51) (hint:=F88H) (pack:=fun y=>y.2.1) Za2 tab_ok trivial fun x z h=>(F88_eq x.1 x.2.1 x.2.2.1).trans h
def F92: (El Y31)->(El Y51)->(El Y51)->(El Y4)->Option (El Y4):=fun a0 a1 a2 a3=>
 Option.bind
 (run
 (fun s0=>
 bif decide (s0< (↑(List.length a0.2.2.2.1):Int)) then
 (idx a0.2.2.2.1 s0).bind fun x1=>
 Option.bind
 (bif decide (x1.1=a1.2.1) then
 bif decide (x1.2.1=a1.2.2.2.1) then
 bif decide (x1.2.2.1=a2.2.1) then
 bif decide (x1.2.2.2.1=a2.2.2.1) then some (x1.2.2.2.2.1==a3) else some false
 else some false
 else some false
 else some false)
 fun x2=>bif x2 then some (.inr (.inr true)) else some (.inl (IntKind.wrap .i64 (s0+(1:Int))))
 else some (.inr (.inl ())))
 (0:Int))
 fun x3=>Sum.elim (fun _=>some false) (fun y5=>some y5) x3
abbrev F92A:Zam:=(.cons (.pd Y31) (.cons (.pd Y51) (.cons (.pd Y51) (.cons (.pd Y4) .nil))))
abbrev F92R:Zam:=(.cons (.pd Y4) .nil)
def F92S:Tr.Spec:= {args:=F92A,res:=F92R,fns:=[],α:=El Y4,f:=fun x=>F92 x.1 x.2.1 x.2.2.1 x.2.2.2.1,unp:=fun z=>(((),(),(),(),()),(z,())) }
def F92M:List (Nat×List Tr.Spec):=[]
def F92H:ZaT:=(.seq .leaf (.seq (.seq .leaf (.lp ⟨[(9,(.pd Y3))],[],[3,4,5,6],[],[],[]⟩ [((.exit 0),⟨[],[],[],[],[],[]⟩),(.ret,⟨[(8,(.pd Y4))],[],[],[],[],[]⟩)] (.seq .leaf (.seq (.seq .leaf (.seq (.reg [(54,Y4)]) .leaf)) .leaf)))) .leaf))
theorem F92_eq(a0:El Y31)(a1:El Y51)(a2:El Y51)(a3:El Y4):(Zau (mkE tyTab mapTab pkTab [45] [] F92M 55 bdTab) (Zai Tryz.f82) Tryz.f82.results F92H F92A F92R (fun y=>y.2.1) (a0,a1,a2,a3,()):Option (El Y4))=F92 a0 a1 a2 a3:=by kernel_rfl
theorem F92_ok:ZaQ Tryz.prog 82 F92S:=Zae (m:=F92M) (fn:=Tryz.f82) (hint:=F92H) (pack:=fun y=>y.2.1) Za2 tab_ok trivial fun x z h=>(F92_eq x.1 x.2.1 x.2.2.1 x.2.2.2.1).trans h
def F89: (El Y31)->(El Y51)->(El Y51)->Option (El Y37):=fun a0 a1 a2=>
 bif !decide (a1.2.2.2.2.2.1=a2.2.2.2.2.1) then some (24:Int)
 else
 Option.bind (bif !a1.1 then some !a2.1 else some false) fun x0=>
 bif x0 then some (32:Int)
 else
 bif a2.2.2.2.2.2.2.2.2.1 then
 Option.bind (bif !a1.1 then some true else (F92 a0 a1 a2 true).bind fun x1=>some !x1) fun x2=>
 bif x2 then some (19:Int) else bif decide (a2.2.2.2.2.2.2.1<a1.2.2.2.2.2.2.2.1) then some (10:Int) else some (0:Int)
 else
 bif !a2.1 then bif !decide (a2.2.2.2.2.2.2.1=a1.2.2.2.2.2.2.2.1) then some (10:Int) else some (0:Int)
 else
 bif !a1.1 then bif decide (a2.2.2.2.2.2.2.1<a1.2.2.2.2.2.2.2.1) then some (28:Int) else some (0:Int)
 else
 Option.bind
 ((idx a0.1 a1.2.2.2.2.2.1).bind fun x3=>
 bif decide (IntKind.wrap .i64 (a1.2.2.2.2.2.2.2.1+x3.2.2.2.1)<=a2.2.2.2.2.2.2.1) then some true
 else
 (F92 a0 a1 a2 false).bind fun x4=>
 bif x4 then some (decide (a1.2.2.2.2.2.2.2.1<=a2.2.2.2.2.2.2.1)) else some false)
 fun x5=>bif x5 then some (0:Int) else some (28:Int)
abbrev F89A:Zam:=(.cons (.pd Y31) (.cons (.pd Y51) (.cons (.pd Y51) .nil)))
abbrev F89R:Zam:=(.cons (.pd Y37) .nil)
def F89S:Tr.Spec:= {args:=F89A,res:=F89R,fns:=[],α:=El Y37,f:=fun x=>F89 x.1 x.2.1 x.2.2.1,unp:=fun z=>(((),(),(),()),(z,())) }
def F89M:List (Nat×List Tr.Spec):=[(82,[F92S])]
def F89H:ZaT:=(.seq .leaf (.seq .leaf (.seq (.seq (.reg [(19,Y4)]) .leaf) (.seq (.seq .leaf (.cnd none (.seq (.seq (.reg [(31,Y4)]) .leaf) .leaf) .leaf)) (.seq .leaf (.seq .leaf (.seq (.seq (.reg [(78,Y4)]) .leaf) .leaf)))))))
theorem F89_eq(a0:El Y31)(a1:El Y51)(a2:El Y51):(Zau (mkE tyTab mapTab pkTab [45] [] F89M 79 bdTab) (Zai Tryz.f52) Tryz.f52.results F89H F89A F89R (fun y=>y.2.1) (a0,a1,a2,()):Option (El Y37))=F89 a0 a1 a2:=by kernel_rfl
theorem F89_ok:ZaQ Tryz.prog 52 F89S:=Zae (m:=F89M) (fn:=Tryz.f52) (hint:=F89H) (pack:=fun y=>y.2.1) Za2 tab_ok ⟨⟨F92_ok,trivial⟩,trivial⟩ fun x z h=>(F89_eq x.1 x.2.1 x.2.2.1).trans h
def F86: (El Y31)->(El Y33)->(El Y45)->(El Y3)->Option (El Y37):=fun a0 a1 a2 a3=>
 (idx a2.1 a3).bind fun x0=>
 (F91 a0 a1 x0).bind fun x1=>
 bif !decide (x1=(0:Int)) then some x1
 else
 Option.bind
 (bif decide (a3=(0:Int)) then (F88 a0 a1 a2).bind fun x2=>some x2
 else (idx a2.1 (IntKind.wrap .i64 (a3 - (1:Int)))).bind fun x3=>(F89 a0 x3 x0).bind fun x4=>some x4)
 fun x5=>
 bif !decide (x5=(0:Int)) then some x5
 else
 Option.bind
 (bif x0.1 then
 bif decide (IntKind.wrap .i64 (a3+(1:Int))=(↑(List.length a2.1):Int)) then some true
 else (idx a2.1 (IntKind.wrap .i64 (a3+(1:Int)))).bind fun x6=>some !x6.2.2.2.2.2.2.2.2.1
 else some false)
 fun x7=>
 bif x7 then
 (idx a0.2.2.1 x0.2.1).bind fun x8=>
 (idx x8.2.2.2.2.2.2.2.1 x0.2.2.2.1).bind fun x9=>
 bif !x9.2.2.2.2.1 then some (26:Int)
 else (F83 a0 a1 x0.2.2.2.2.2.1).bind fun x10=>bif !x10 then some (29:Int) else some (0:Int)
 else some (0:Int)
abbrev F86A:Zam:=(.cons (.pd Y31) (.cons (.pd Y33) (.cons (.pd Y45) (.cons (.pd Y3) .nil))))
abbrev F86R:Zam:=(.cons (.pd Y37) .nil)
def F86S:Tr.Spec:= {args:=F86A,res:=F86R,fns:=[],α:=El Y37,f:=fun x=>F86 x.1 x.2.1 x.2.2.1 x.2.2.2.1,unp:=fun z=>(((),(),(),(),()),(z,())) }
def F86M:List (Nat×List Tr.Spec):=[(48,[F83S]),(50,[F91S]),(51,[F88S]),(52,[F89S])]
def F86H:ZaT:=(.seq .leaf (.seq .leaf (.seq .leaf (.seq .leaf (.seq (.seq .leaf (.cnd (some (⟨[],[],[3,4,5,6,9],[],[],[]⟩,[(.normal,⟨[(10,(.pd Y37))],[],[3,4,5,6,9],[],[],[]⟩)])) .leaf .leaf)) (.seq .leaf (.seq (.seq (.reg [(60,Y4)]) .leaf) .leaf)))))))
theorem F86_eq(a0:El Y31)(a1:El Y33)(a2:El Y45)(a3:El Y3):(Zau (mkE tyTab mapTab pkTab [45] [] F86M 80 bdTab) (Zai Tryz.f29) Tryz.f29.results F86H F86A F86R (fun y=>y.2.1) (a0,a1,a2,a3,()):Option (El Y37))=F86 a0 a1 a2 a3:=by kernel_rfl
theorem F86_ok:ZaQ Tryz.prog 29 F86S:=Zae (m:=F86M) (fn:=Tryz.f29) (hint:=F86H) (pack:=fun y=>y.2.1) Za2 tab_ok ⟨⟨F83_ok,trivial⟩,⟨F91_ok,trivial⟩,⟨F88_ok,trivial⟩,⟨F89_ok,trivial⟩,trivial⟩ fun x z h=>(F86_eq x.1 x.2.1 x.2.2.1 x.2.2.2.1).trans h
def F84: (El Y31)->(El Y33)->(El Y45)->Option (El Y3):=fun a0 a1 a2=>
 Option.bind
 (run
 (fun s0=>
 bif decide (s0< (↑(List.length a2.1):Int)) then
 (F86 a0 a1 a2 s0).bind fun x1=>
 bif !decide (x1=(0:Int)) then some (.inr (.inr s0)) else some (.inl (IntKind.wrap .i64 (s0+(1:Int))))
 else some (.inr (.inl ())))
 (0:Int))
 fun x2=>Sum.elim (fun _=>some (↑(List.length a2.1):Int)) (fun y4=>some y4) x2
abbrev F84A:Zam:=(.cons (.pd Y31) (.cons (.pd Y33) (.cons (.pd Y45) .nil)))
abbrev F84R:Zam:=(.cons (.pd Y3) .nil)
def F84S:Tr.Spec:= {args:=F84A,res:=F84R,fns:=[],α:=El Y3,f:=fun x=>F84 x.1 x.2.1 x.2.2.1,unp:=fun z=>(((),(),(),()),(z,())) }
def F84M:List (Nat×List Tr.Spec):=[(29,[F86S])]
def F84H:ZaT:=(.seq .leaf (.seq (.seq .leaf (.lp ⟨[(7,(.pd Y3))],[],[3,4,5],[],[],[]⟩ [((.exit 0),⟨[],[],[5],[],[],[]⟩),(.ret,⟨[(6,(.pd Y3))],[],[],[],[],[]⟩)] .leaf)) .leaf))
theorem F84_eq(a0:El Y31)(a1:El Y33)(a2:El Y45):(Zau (mkE tyTab mapTab pkTab [45] [] F84M 25 bdTab) (Zai Tryz.f17) Tryz.f17.results F84H F84A F84R (fun y=>y.2.1) (a0,a1,a2,()):Option (El Y3))=F84 a0 a1 a2:=by kernel_rfl
theorem F84_ok:ZaQ Tryz.prog 17 F84S:=Zae (m:=F84M) (fn:=Tryz.f17) (hint:=F84H) (pack:=fun y=>y.2.1) Za2 tab_ok ⟨⟨F86_ok,trivial⟩,trivial⟩ fun x z h=>(F84_eq x.1 x.2.1 x.2.2.1).trans h
def F77: (El Y45)->Option (El Y3):=fun a0=>
 Option.bind
 (run
 (fun s0=>
 bif decide (s0.2< (↑(List.length a0.1):Int)) then
 (idx a0.1 s0.2).bind fun x1=>
 Option.bind
 (bif !x1.1 then
 bif decide ((0:Int)<=x1.2.2.2.2.2.2.1) then
 bif decide (x1.2.2.2.2.2.2.1<=x1.2.2.2.2.2.2.2.1) then
 some (decide (IntKind.wrap .i64 (x1.2.2.2.2.2.2.2.1 - x1.2.2.2.2.2.2.1)<=(14400:Int)))
 else some false
 else some false
 else some false)
 fun x2=>
 bif x2 then
 some
 (.inl
 (IntKind.wrap .i64 (IntKind.wrap .i64 (s0.1+x1.2.2.2.2.2.2.2.1) - x1.2.2.2.2.2.2.1),
 IntKind.wrap .i64 (s0.2+(1:Int))))
 else some (.inl (s0.1,IntKind.wrap .i64 (s0.2+(1:Int))))
 else some (.inr s0.1))
 ((0:Int),(0:Int)))
 fun x3=>some x3
abbrev F77A:Zam:=(.cons (.pd Y45) .nil)
abbrev F77R:Zam:=(.cons (.pd Y3) .nil)
def F77S:Tr.Spec:= {args:=F77A,res:=F77R,fns:=[],α:=El Y3,f:=fun x=>F77 x.1,unp:=fun z=>(((),()),(z,())) }
def F77M:List (Nat×List Tr.Spec):=[]
def F77H:ZaT:=(.seq .leaf (.seq .leaf (.seq (.seq .leaf (.lp ⟨[(3,(.pd Y3)),(4,(.pd Y3))],[],[1],[],[],[]⟩ [((.exit 0),⟨[(3,(.pd Y3))],[],[],[],[],[]⟩)] (.seq .leaf (.seq (.seq .leaf (.seq (.reg [(40,Y4)]) .leaf)) .leaf)))) .leaf)))
theorem F77_eq(a0:El Y45):(Zau (mkE tyTab mapTab pkTab [] [] F77M 49 bdTab) (Zai Tryz.f54) Tryz.f54.results F77H F77A F77R (fun y=>y.2.1) (a0,()):Option (El Y3))=F77 a0:=by kernel_rfl
theorem F77_ok:ZaQ Tryz.prog 54 F77S:=Zae (m:=F77M) (fn:=Tryz.f54) (hint:=F77H) (pack:=fun y=>y.2.1) Za2 tab_ok trivial fun x z h=>(F77_eq x.1).trans h
def F80: (El Y31)->(El Y51)->Option (El Y3):=fun a0 a1=>
 (idx a0.2.2.1 a1.2.1).bind fun x0=>
 Option.bind
 (run
 (fun s1=>
 bif decide (s1.2<=a1.2.2.2.1) then
 (idx x0.2.2.2.2.2.2.2.1 s1.2).bind fun x2=>
 (idx a0.1 x2.1).bind fun x3=>
 Option.bind (ZtY .i64 (1:Int) x3.2.1) fun x4=>some (.inl (qor .i64 s1.1 x4,IntKind.wrap .i64 (s1.2+(1:Int))))
 else some (.inr s1.1))
 ((0:Int),a1.2.2.1))
 fun x5=>some x5
abbrev F80A:Zam:=(.cons (.pd Y31) (.cons (.pd Y51) .nil))
abbrev F80R:Zam:=(.cons (.pd Y3) .nil)
def F80S:Tr.Spec:= {args:=F80A,res:=F80R,fns:=[],α:=El Y3,f:=fun x=>F80 x.1 x.2.1,unp:=fun z=>(((),(),()),(z,())) }
def F80M:List (Nat×List Tr.Spec):=[]
def F80H:ZaT:=(.seq .leaf (.seq .leaf (.seq .leaf (.seq (.seq .leaf (.lp ⟨[(5,(.pd Y3)),(7,(.pd Y3))],[],[2,3,6],[],[],[]⟩ [((.exit 0),⟨[(5,(.pd Y3))],[],[],[],[],[]⟩)] .leaf)) .leaf))))
theorem F80_eq(a0:El Y31)(a1:El Y51):(Zau (mkE tyTab mapTab pkTab [] [] F80M 37 bdTab) (Zai Tryz.f116) Tryz.f116.results F80H F80A F80R (fun y=>y.2.1) (a0,a1,()):Option (El Y3))=F80 a0 a1:=by kernel_rfl
theorem F80_ok:ZaQ Tryz.prog 116 F80S:=Zae (m:=F80M) (fn:=Tryz.f116) (hint:=F80H) (pack:=fun y=>y.2.1) Za2 tab_ok trivial fun x z h=>(F80_eq x.1 x.2.1).trans h
def F75: (El Y31)->(El Y45)->Option (El Zj4×El Y37):=fun a0 a1=>
 (F61 a0).bind fun x0=>
 bif !x0 then some ([],(21:Int))
 else
 Option.bind
 (run
 (fun s1=>
 bif decide (s1.2< (↑(List.length a1.1):Int)) then
 (idx a1.1 s1.2).bind fun x2=>
 Option.bind (bif x2.1 then (F73 a0 x2).bind fun x3=>some !x3 else some false) fun x4=>
 bif x4 then some (.inr (.inr ([],(9:Int))))
 else
 Option.bind
 (bif x2.2.2.2.2.2.2.2.2.1 then
 bif !x2.1 then some true
 else
 bif decide (s1.2=(0:Int)) then some true
 else (idx a1.1 (IntKind.wrap .i64 (s1.2 - (1:Int)))).bind fun x5=>some !x5.1
 else some false)
 fun x6=>
 bif x6 then some (.inr (.inr ([],(19:Int))))
 else
 bif !x2.1 then some (.inl (s1.1,IntKind.wrap .i64 (s1.2+(1:Int))))
 else
 (idx a0.2.2.1 x2.2.1).bind fun x7=>
 (idx a0.2.1 x7.2.2.2.2.1).bind fun x8=>
 Option.bind (ZtY .i64 (1:Int) x8.2.1) fun x9=>
 bif x2.2.2.2.2.2.2.2.2.1 then
 (inb (IntKind.wrap .i64 ((↑(List.length s1.1):Int) - (1:Int))) (List.length s1.1)).bind fun x10=>
 Option.bind s1.1[x10]? fun x11=>
 Option.bind
 (inb (IntKind.wrap .i64 ((↑(List.length s1.1):Int) - (1:Int)))
 (List.length (List.set s1.1 x10 (x11.1,x2.2.2.2.2.2.2.2.1,x11.2.2))))
 fun x12=>
 Option.bind (List.set s1.1 x10 (x11.1,x2.2.2.2.2.2.2.2.1,x11.2.2))[x12]? fun x13=>
 (F80 a0 x2).bind fun x14=>
 Option.bind
 (inb (IntKind.wrap .i64 ((↑(List.length s1.1):Int) - (1:Int)))
 (List.length (List.set s1.1 x10 (x11.1,x2.2.2.2.2.2.2.2.1,x11.2.2))))
 fun x15=>
 Option.bind (List.set s1.1 x10 (x11.1,x2.2.2.2.2.2.2.2.1,x11.2.2))[x15]? fun x16=>
 Option.bind
 (inb (IntKind.wrap .i64 ((↑(List.length s1.1):Int) - (1:Int)))
 (List.length
 (List.set (List.set s1.1 x10 (x11.1,x2.2.2.2.2.2.2.2.1,x11.2.2)) x15
 (x16.1,x16.2.1,qor .i64 x13.2.2.1 x14,x16.2.2.2))))
 fun x17=>
 Option.bind
 (List.set (List.set s1.1 x10 (x11.1,x2.2.2.2.2.2.2.2.1,x11.2.2)) x15
 (x16.1,x16.2.1,qor .i64 x13.2.2.1 x14,x16.2.2.2))[x17]?
 fun x18=>
 Option.bind
 (inb (IntKind.wrap .i64 ((↑(List.length s1.1):Int) - (1:Int)))
 (List.length
 (List.set (List.set s1.1 x10 (x11.1,x2.2.2.2.2.2.2.2.1,x11.2.2)) x15
 (x16.1,x16.2.1,qor .i64 x13.2.2.1 x14,x16.2.2.2))))
 fun x19=>
 Option.bind
 (List.set (List.set s1.1 x10 (x11.1,x2.2.2.2.2.2.2.2.1,x11.2.2)) x15
 (x16.1,x16.2.1,qor .i64 x13.2.2.1 x14,x16.2.2.2))[x19]?
 fun x20=>
 some
 (.inl
 (List.set
 (List.set (List.set s1.1 x10 (x11.1,x2.2.2.2.2.2.2.2.1,x11.2.2)) x15
 (x16.1,x16.2.1,qor .i64 x13.2.2.1 x14,x16.2.2.2))
 x19 (x20.1,x20.2.1,x20.2.2.1,qor .i64 x18.2.2.2.1 x9,x20.2.2.2.2),
 IntKind.wrap .i64 (s1.2+(1:Int))))
 else
 (F80 a0 x2).bind fun x21=>
 Option.bind
 (Zar (decide (List.length s1.1+List.length [(x2.2.2.2.2.2.2.1,x2.2.2.2.2.2.2.2.1,x21,x9,())]<=Zaq)))
 fun _=>
 some
 (.inl (s1.1++[(x2.2.2.2.2.2.2.1,x2.2.2.2.2.2.2.2.1,x21,x9,())],IntKind.wrap .i64 (s1.2+(1:Int))))
 else some (.inr (.inl s1.1)))
 ([],(0:Int)))
 fun x23=>Sum.elim (fun y24=>some (y24,(0:Int))) (fun y25=>some (y25.1,y25.2)) x23
abbrev F75A:Zam:=(.cons (.pd Y31) (.cons (.pd Y45) .nil))
abbrev F75R:Zam:=(.cons (.pd Zj4) (.cons (.pd Y37) .nil))
def F75S:Tr.Spec:= {args:=F75A,res:=F75R,fns:=[],α:=El Zj4×El Y37,f:=fun x=>F75 x.1 x.2.1,unp:=fun z=>(((),(),()),(z.1,z.2,())) }
def F75M:List (Nat×List Tr.Spec):=[(32,[F61S]),(79,[F73S]),(116,[F80S])]
def F75H:ZaT:=(.seq .leaf (.seq .leaf (.seq .leaf (.seq (.seq .leaf (.lp ⟨[(6,(.own Zu1 false)),(7,(.pd Y3))],[],[2,3],[],[],[]⟩ [((.exit 0),⟨[(6,(.own Zu1 false))],[],[],[],[],[]⟩),(.ret,⟨[(4,(.pd Zj4)),(5,(.pd Y37))],[],[],[],[],[]⟩)] (.seq .leaf (.seq (.seq .leaf (.seq (.seq (.reg [(34,Y4)]) .leaf) (.seq (.seq (.reg [(55,Y4)]) .leaf) .leaf))) .leaf)))) .leaf))))
theorem F75_eq(a0:El Y31)(a1:El Y45):(Zau (mkE tyTab mapTab pkTab [] [] F75M 120 bdTab) (Zai Tryz.f83) Tryz.f83.results F75H F75A F75R (fun y=>(y.2.1,y.2.2.1)) (a0,a1,()):Option (El Zj4×El Y37))=F75 a0 a1:=by kernel_rfl
theorem F75_ok:ZaQ Tryz.prog 83 F75S:=Zae (m:=F75M) (fn:=Tryz.f83) (hint:=F75H) (pack:=fun y=>(y.2.1,y.2.2.1)) Za2 tab_ok ⟨⟨F61_ok,trivial⟩,⟨F73_ok,trivial⟩,⟨F80_ok,trivial⟩,trivial⟩ fun x z h=>(F75_eq x.1 x.2.1).trans h
def F78: (El Y3)->Option (El Y3):=fun a0=>
 Option.bind
 (run
 (fun s0=>
 bif decide (s0.2< (62:Int)) then
 Option.bind (Zm4 .i64 a0 s0.2) fun x1=>
 bif decide (Zlw .i64 x1 (1:Int)=(1:Int)) then
 some (.inl (IntKind.wrap .i64 (s0.1+(1:Int)),IntKind.wrap .i64 (s0.2+(1:Int))))
 else some (.inl (s0.1,IntKind.wrap .i64 (s0.2+(1:Int))))
 else some (.inr s0.1))
 ((0:Int),(0:Int)))
 fun x2=>some x2
abbrev F78A:Zam:=(.cons (.pd Y3) .nil)
abbrev F78R:Zam:=(.cons (.pd Y3) .nil)
def F78S:Tr.Spec:= {args:=F78A,res:=F78R,fns:=[],α:=El Y3,f:=fun x=>F78 x.1,unp:=fun z=>(((),()),(z,())) }
def F78M:List (Nat×List Tr.Spec):=[]
def F78H:ZaT:=(.seq .leaf (.seq .leaf (.seq (.seq .leaf (.lp ⟨[(3,(.pd Y3)),(4,(.pd Y3))],[],[0],[],[],[]⟩ [((.exit 0),⟨[(3,(.pd Y3))],[],[],[],[],[]⟩)] .leaf)) .leaf)))
theorem F78_eq(a0:El Y3):(Zau (mkE tyTab mapTab pkTab [] [] F78M 17 bdTab) (Zai Tryz.f141) Tryz.f141.results F78H F78A F78R (fun y=>y.2.1) (a0,()):Option (El Y3))=F78 a0:=by kernel_rfl
theorem F78_ok:ZaQ Tryz.prog 141 F78S:=Zae (m:=F78M) (fn:=Tryz.f141) (hint:=F78H) (pack:=fun y=>y.2.1) Za2 tab_ok trivial fun x z h=>(F78_eq x.1).trans h
def F79: (El Y3)->(El Y3)->(El Y3)->Option (El Y4):=fun a0 a1 a2=>
 bif decide (a1<=a0) then some true
 else some (decide (IntKind.wrap .u64 (IntKind.wrap .u64 a1 - IntKind.wrap .u64 a0)<=IntKind.wrap .u64 a2))
abbrev F79A:Zam:=(.cons (.pd Y3) (.cons (.pd Y3) (.cons (.pd Y3) .nil)))
abbrev F79R:Zam:=(.cons (.pd Y4) .nil)
def F79S:Tr.Spec:= {args:=F79A,res:=F79R,fns:=[],α:=El Y4,f:=fun x=>F79 x.1 x.2.1 x.2.2.1,unp:=fun z=>(((),(),(),()),(z,())) }
def F79M:List (Nat×List Tr.Spec):=[]
def F79H:ZaT:= .leaf
theorem F79_eq(a0:El Y3)(a1:El Y3)(a2:El Y3):(Zau (mkE tyTab mapTab pkTab [] [] F79M 18 bdTab) (Zai Tryz.f142) Tryz.f142.results F79H F79A F79R (fun y=>y.2.1) (a0,a1,a2,()):Option (El Y4))=F79 a0 a1 a2:=by kernel_rfl
theorem F79_ok:ZaQ Tryz.prog 142 F79S:=Zae (m:=F79M) (fn:=Tryz.f142) (hint:=F79H) (pack:=fun y=>y.2.1) Za2 tab_ok trivial fun x z h=>(F79_eq x.1 x.2.1 x.2.2.1).trans h
def F72: (El Zo0)->(El Zj4)->(El Y3)->(El Y3)->Option (El Y4):=fun a0 a1 a2 a3=>
 Option.bind
 (run
 (fun s0=>
 bif decide (s0.2.2<=a3) then
 (idx a1 s0.2.2).bind fun x1=>
 (idx a1 s0.2.2).bind fun x2=>
 some (.inl (qor .i64 s0.1 x1.2.2.1,qor .i64 s0.2.1 x2.2.2.2.1,IntKind.wrap .i64 (s0.2.2+(1:Int))))
 else some (.inr (s0.1,s0.2.1)))
 ((0:Int),(0:Int),a2))
 fun x3=>
 Option.bind
 (bif decide (IntKind.wrap .i64 (IntKind.wrap .i64 (a3 - a2)+(1:Int))<=a0.2.2.1) then
 (F78 x3.1).bind fun x4=>
 bif decide (x4<=a0.2.2.2.1) then
 (idx a1 a2).bind fun x5=>
 (idx a1 a3).bind fun x6=>
 (F79 x5.1 x6.1 a0.2.2.2.2.1).bind fun x7=>
 bif x7 then some (decide (Tr.qandNot .i64 x3.2 a0.2.2.2.2.2.1=(0:Int))) else some false
 else some false
 else some false)
 fun x8=>some x8
abbrev F72A:Zam:=(.cons (.pd Zo0) (.cons (.pd Zj4) (.cons (.pd Y3) (.cons (.pd Y3) .nil))))
abbrev F72R:Zam:=(.cons (.pd Y4) .nil)
def F72S:Tr.Spec:= {args:=F72A,res:=F72R,fns:=[],α:=El Y4,f:=fun x=>F72 x.1 x.2.1 x.2.2.1 x.2.2.2.1,unp:=fun z=>(((),(),(),(),()),(z,())) }
def F72M:List (Nat×List Tr.Spec):=[(141,[F78S]),(142,[F79S])]
def F72H:ZaT:=(.seq .leaf (.seq .leaf (.seq (.seq .leaf (.lp ⟨[(9,(.pd Y3)),(10,(.pd Y3)),(11,(.pd Y3))],[],[1,2,3,4],[],[],[]⟩ [((.exit 0),⟨[(9,(.pd Y3)),(10,(.pd Y3))],[],[1,2,3,4],[],[],[]⟩)] .leaf)) (.seq (.reg [(8,Y4)]) .leaf))))
theorem F72_eq(a0:El Zo0)(a1:El Zj4)(a2:El Y3)(a3:El Y3):(Zau (mkE tyTab mapTab pkTab [] [] F72M 68 bdTab) (Zai Tryz.f117) Tryz.f117.results F72H F72A F72R (fun y=>y.2.1) (a0,a1,a2,a3,()):Option (El Y4))=F72 a0 a1 a2 a3:=by kernel_rfl
theorem F72_ok:ZaQ Tryz.prog 117 F72S:=Zae (m:=F72M) (fn:=Tryz.f117) (hint:=F72H) (pack:=fun y=>y.2.1) Za2 tab_ok ⟨⟨F78_ok,trivial⟩,⟨F79_ok,trivial⟩,trivial⟩ fun x z h=>(F72_eq x.1 x.2.1 x.2.2.1 x.2.2.2.1).trans h
def F76: (El Y29)->(El Zo0)->(El Zj4)->(El Y3)->Option (El Y3):=fun a0 a1 a2 a3=>
 Option.bind
 (bif decide ((0:Int)<a3) then
 (idx a2 (IntKind.wrap .i64 (a3 - (1:Int)))).bind fun x0=>
 (idx a2 a3).bind fun x1=>(F79 x0.2.1 x1.1 a0.2.2.1).bind fun x2=>some x2
 else some false)
 fun x3=>bif x3 then some (Tr.imax (0:Int) (IntKind.wrap .i64 (a1.2.1 - a0.2.1))) else some a1.2.1
abbrev F76A:Zam:=(.cons (.pd Y29) (.cons (.pd Zo0) (.cons (.pd Zj4) (.cons (.pd Y3) .nil))))
abbrev F76R:Zam:=(.cons (.pd Y3) .nil)
def F76S:Tr.Spec:= {args:=F76A,res:=F76R,fns:=[],α:=El Y3,f:=fun x=>F76 x.1 x.2.1 x.2.2.1 x.2.2.2.1,unp:=fun z=>(((),(),(),(),()),(z,())) }
def F76M:List (Nat×List Tr.Spec):=[(142,[F79S])]
def F76H:ZaT:=(.seq .leaf (.seq (.seq (.reg [(26,Y4)]) .leaf) .leaf))
theorem F76_eq(a0:El Y29)(a1:El Zo0)(a2:El Zj4)(a3:El Y3):(Zau (mkE tyTab mapTab pkTab [] [] F76M 35 bdTab) (Zai Tryz.f118) Tryz.f118.results F76H F76A F76R (fun y=>y.2.1) (a0,a1,a2,a3,()):Option (El Y3))=F76 a0 a1 a2 a3:=by kernel_rfl
theorem F76_ok:ZaQ Tryz.prog 118 F76S:=Zae (m:=F76M) (fn:=Tryz.f118) (hint:=F76H) (pack:=fun y=>y.2.1) Za2 tab_ok ⟨⟨F79_ok,trivial⟩,trivial⟩ fun x z h=>(F76_eq x.1 x.2.1 x.2.2.1 x.2.2.2.1).trans h
def F74: (El Y29)->(El Zj4)->Option (El Y3×El Zrl×El Y4):=fun a0 a1=>
 Option.bind
 (Zar
 (decide
 ((0:El (Tr.Ty.int .i64))<=IntKind.wrap .i64 ((↑(List.length a1):Int)+(1:Int))/\
 IntKind.wrap .i64 ((↑(List.length a1):Int)+(1:Int))<=IntKind.wrap .i64 ((↑(List.length a1):Int)+(1:Int))/\
 IntKind.wrap .i64 ((↑(List.length a1):Int)+(1:Int))<=(↑Zaq:El (Tr.Ty.int .i64)))))
 fun _=>
 (inb (↑(List.length a1):Int) (List.length (List.replicate (Int.toNat (IntKind.wrap .i64 ((↑(List.length a1):Int)+(1:Int)))) ((false,(0:Int),([]:List (El ZuO)),()))))).bind fun x1=>
 Option.bind (List.replicate (Int.toNat (IntKind.wrap .i64 ((↑(List.length a1):Int)+(1:Int)))) ((false,(0:Int),([]:List (El ZuO)),())))[x1]? fun x2=>
 Option.bind
 (run
 (fun s3=>
 bif decide ((0:Int)<=s3.2) then
 Option.bind
 (run
 (fun s4=>
 bif decide (s4.2< (↑(List.length a1):Int)) then
 (inb (IntKind.wrap .i64 (s4.2+(1:Int))) (List.length s4.1)).bind fun x5=>
 Option.bind s4.1[x5]? fun x6=>
 bif !x6.1 then some (.inl (s4.1,IntKind.wrap .i64 (s4.2+(1:Int))))
 else
 Option.bind
 (run
 (fun s7=>
 bif decide (s7.2< (↑(List.length a0.1):Int)) then
 (idx a0.1 s7.2).bind fun x8=>
 (F72 x8 a1 s3.2 s4.2).bind fun x9=>
 bif !x9 then some (.inl (s7.1,IntKind.wrap .i64 (s7.2+(1:Int))))
 else
 (idx a0.1 s7.2).bind fun x10=>
 (F76 a0 x10 a1 s3.2).bind fun x11=>
 (inb (IntKind.wrap .i64 (s4.2+(1:Int))) (List.length s7.1)).bind fun x12=>
 Option.bind s7.1[x12]? fun x13=>
 Option.bind
 ((inb s3.2 (List.length s7.1)).bind fun x14=>
 Option.bind s7.1[x14]? fun x15=>
 bif x15.1 then
 (inb s3.2 (List.length s7.1)).bind fun x16=>
 Option.bind s7.1[x16]? fun x17=>
 bif decide (x17.2.1<IntKind.wrap .i64 (x11+x13.2.1)) then some true
 else
 (inb s3.2 (List.length s7.1)).bind fun x18=>
 Option.bind s7.1[x18]? fun x19=>
 bif decide (IntKind.wrap .i64 (x11+x13.2.1)=x19.2.1) then
 (inb (IntKind.wrap .i64 (s4.2+(1:Int))) (List.length s7.1)).bind fun x20=>
 Option.bind s7.1[x20]? fun x21=>
 (inb s3.2 (List.length s7.1)).bind fun x22=>
 Option.bind s7.1[x22]? fun x23=>
 some
 (decide
 ((↑(List.length x23.2.2.1):Int)<=
 IntKind.wrap .i64 ((1:Int)+(↑(List.length x21.2.2.1):Int))))
 else some false
 else some false)
 fun x24=>
 bif x24 then some (.inl (s7.1,IntKind.wrap .i64 (s7.2+(1:Int))))
 else
 (inb (IntKind.wrap .i64 (s4.2+(1:Int))) (List.length s7.1)).bind fun x25=>
 Option.bind s7.1[x25]? fun x26=>
 Option.bind (Zar (decide (List.length [(s7.2,s3.2,s4.2,x11,())]+List.length x26.2.2.1<=Zaq)))
 fun _=>
 (inb s3.2 (List.length s7.1)).bind fun x28=>
 Option.bind s7.1[x28]? fun _=>
 some
 (.inl
 (List.set s7.1 x28
 (true,IntKind.wrap .i64 (x11+x13.2.1),[(s7.2,s3.2,s4.2,x11,())]++x26.2.2.1,()),
 IntKind.wrap .i64 (s7.2+(1:Int))))
 else some (.inr s7.1))
 (s4.1,(0:Int)))
 fun x30=>some (.inl (x30,IntKind.wrap .i64 (s4.2+(1:Int))))
 else some (.inr s4.1))
 (s3.1,s3.2))
 fun x31=>some (.inl (x31,IntKind.wrap .i64 (s3.2 - (1:Int))))
 else some (.inr s3.1))
 (List.set (List.replicate (Int.toNat (IntKind.wrap .i64 ((↑(List.length a1):Int)+(1:Int)))) ((false,(0:Int),([]:List (El ZuO)),()))) x1 (true,x2.2),
 IntKind.wrap .i64 ((↑(List.length a1):Int) - (1:Int))))
 fun x32=>
 (inb (0:Int) (List.length x32)).bind fun x33=>
 Option.bind x32[x33]? fun x34=>
 (inb (0:Int) (List.length x32)).bind fun x35=>
 Option.bind x32[x35]? fun x36=>(inb (0:Int) (List.length x32)).bind fun x37=>Option.bind x32[x37]? fun x38=>some (x34.2.1,x36.2.2.1,x38.1)
abbrev F74A:Zam:=(.cons (.pd Y29) (.cons (.pd Zj4) .nil))
abbrev F74R:Zam:=(.cons (.pd Y3) (.cons (.pd Zrl) (.cons (.pd Y4) .nil)))
def F74S:Tr.Spec:= {args:=F74A,res:=F74R,fns:=[],α:=El Y3×El Zrl×El Y4,f:=fun x=>F74 x.1 x.2.1,unp:=fun z=>(((),(),()),(z.1,z.2.1,z.2.2,())) }
def F74M:List (Nat×List Tr.Spec):=[(117,[F72S]),(118,[F76S])]
def F74H:ZaT:=(.seq .leaf (.seq .leaf (.seq .leaf (.seq (.seq .leaf (.lp ⟨[(7,(.own Zs3 false)),(8,(.pd Y3))],[],[1,2],[],[],[]⟩ [((.exit 0),⟨[(7,(.own Zs3 false))],[],[],[],[],[]⟩)] (.seq .leaf (.seq (.seq .leaf (.lp ⟨[(7,(.own Zs3 false)),(9,(.pd Y3))],[],[1,2,8],[],[],[]⟩ [((.exit 2),⟨[(7,(.own Zs3 false))],[],[1,2,8],[],[],[]⟩)] (.seq .leaf (.seq (.seq .leaf (.seq .leaf (.lp ⟨[(7,(.own Zs3 false)),(10,(.pd Y3))],[],[1,2,8,9],[],[],[]⟩ [((.exit 4),⟨[(7,(.own Zs3 false))],[],[1,2,8,9],[],[],[]⟩)] (.seq .leaf (.seq (.seq .leaf (.seq .leaf (.seq .leaf (.seq (.seq (.reg [(117,Y4)]) .leaf) .leaf)))) .leaf))))) .leaf)))) .leaf)))) .leaf))))
theorem F74_eq(a0:El Y29)(a1:El Zj4):(Zau (mkE tyTab mapTab pkTab [187] [] F74M 150 bdTab) (Zai Tryz.f84) Tryz.f84.results F74H F74A F74R (fun y=>(y.2.1,y.2.2.1,y.2.2.2.1)) (a0,a1,()):Option (El Y3×El Zrl×El Y4))=F74 a0 a1:=by kernel_rfl
theorem F74_ok:ZaQ Tryz.prog 84 F74S:=Zae (m:=F74M) (fn:=Tryz.f84) (hint:=F74H) (pack:=fun y=>(y.2.1,y.2.2.1,y.2.2.2.1)) Za2 tab_ok ⟨⟨F72_ok,trivial⟩,⟨F76_ok,trivial⟩,trivial⟩ fun x z h=>(F74_eq x.1 x.2.1).trans h
def F70: (El Y29)->(El Y3)->Option (El Y3):=fun a0 a1=>bif decide ((0:Int)<a0.2.2.2.1) then some (Tr.imin a0.2.2.2.1 a1) else some a1
abbrev F70A:Zam:=(.cons (.pd Y29) (.cons (.pd Y3) .nil))
abbrev F70R:Zam:=(.cons (.pd Y3) .nil)
def F70S:Tr.Spec:= {args:=F70A,res:=F70R,fns:=[],α:=El Y3,f:=fun x=>F70 x.1 x.2.1,unp:=fun z=>(((),(),()),(z,())) }
def F70M:List (Nat×List Tr.Spec):=[]
def F70H:ZaT:= .leaf
theorem F70_eq(a0:El Y29)(a1:El Y3):(Zau (mkE tyTab mapTab pkTab [] [] F70M 13 bdTab) (Zai Tryz.f85) Tryz.f85.results F70H F70A F70R (fun y=>y.2.1) (a0,a1,()):Option (El Y3))=F70 a0 a1:=by kernel_rfl
theorem F70_ok:ZaQ Tryz.prog 85 F70S:=Zae (m:=F70M) (fn:=Tryz.f85) (hint:=F70H) (pack:=fun y=>y.2.1) Za2 tab_ok trivial fun x z h=>(F70_eq x.1 x.2.1).trans h
def F71: (El Y31)->(El Y33)->(El Y45)->Option (El ZtA×El Zrl×El Y37):=fun a0 a1 a2=>
 (F75 a0 a2).bind fun x0=>
 bif !decide (x0.2=(0:Int)) then some (((0:Int),(0:Int),(0:Int),(0:Int),(0:Int),()),[],x0.2)
 else
 bif decide ((8:Int)< (↑(List.length x0.1):Int)) then some (((0:Int),(0:Int),(0:Int),(0:Int),(0:Int),()),[],(33:Int))
 else
 (F74 a0.2.2.2.2.2.1 x0.1).bind fun x1=>
 bif !x1.2.2 then some (((0:Int),(0:Int),(0:Int),(0:Int),(0:Int),()),[],(34:Int))
 else
 (F70 a0.2.2.2.2.2.1 x1.1).bind fun x2=>
 (F77 a2).bind fun x3=>
 Option.bind
 (bif decide ((0:Int)< (↑(List.length a2.1):Int)) then
 (idx a2.1 (0:Int)).bind fun x4=>
 (idx a2.1 (IntKind.wrap .i64 ((↑(List.length a2.1):Int) - (1:Int)))).bind fun x5=>
 some (x4.2.2.2.2.2.2.1,x5.2.2.2.2.2.2.2.1,(↑(List.length x0.1):Int),x2,x3,())
 else some (a1.2.2.1,a1.2.2.1,(↑(List.length x0.1):Int),x2,x3,()))
 fun x6=>some (x6,x1.2.1,(0:Int))
abbrev F71A:Zam:=(.cons (.pd Y31) (.cons (.pd Y33) (.cons (.pd Y45) .nil)))
abbrev F71R:Zam:=(.cons (.pd ZtA) (.cons (.pd Zrl) (.cons (.pd Y37) .nil)))
def F71S:Tr.Spec:= {args:=F71A,res:=F71R,fns:=[],α:=El ZtA×El Zrl×El Y37,f:=fun x=>F71 x.1 x.2.1 x.2.2.1,unp:=fun z=>(((),(),(),()),(z.1,z.2.1,z.2.2,())) }
def F71M:List (Nat×List Tr.Spec):=[(54,[F77S]),(83,[F75S]),(84,[F74S]),(85,[F70S])]
def F71H:ZaT:=(.seq .leaf (.seq .leaf (.seq .leaf (.seq .leaf (.seq .leaf (.seq .leaf (.seq .leaf (.seq (.seq .leaf (.cnd (some (⟨[],[],[6,12],[],[],[]⟩,[(.normal,⟨[(14,(.var ZtA (.pd ZtA)))],[],[6,12],[],[],[]⟩)])) .leaf .leaf)) .leaf))))))))
theorem F71_eq(a0:El Y31)(a1:El Y33)(a2:El Y45):(Zau (mkE tyTab mapTab pkTab [] [] F71M 75 bdTab) (Zai Tryz.f55) Tryz.f55.results F71H F71A F71R (fun y=>(y.2.1,y.2.2.1,y.2.2.2.1)) (a0,a1,a2,()):Option (El ZtA×El Zrl×El Y37))=F71 a0 a1 a2:=by kernel_rfl
theorem F71_ok:ZaQ Tryz.prog 55 F71S:=Zae (m:=F71M) (fn:=Tryz.f55) (hint:=F71H) (pack:=fun y=>(y.2.1,y.2.2.1,y.2.2.2.1)) Za2 tab_ok ⟨⟨F77_ok,trivial⟩,⟨F75_ok,trivial⟩,⟨F74_ok,trivial⟩,⟨F70_ok,trivial⟩,trivial⟩ fun x z h=>(F71_eq x.1 x.2.1 x.2.2.1).trans h
end
end Q
