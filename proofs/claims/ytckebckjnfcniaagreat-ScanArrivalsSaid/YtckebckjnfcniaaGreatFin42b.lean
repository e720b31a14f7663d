/- The functions of the program as functions of Lean, and that the program computes them; printed by a program of mine. Conditions: none. -/
import Derived.Test.YtckebckjnfcniaaGreatFin42a
open Tr Go Go.Proofs
namespace Q
noncomputable section
def F100: (Tz0)→(El Zho)→Option (Tz0):=fun a0 a1=>
 (idx a0.1.2.2.1 a1.1).bind fun x0=>
 (inb a1.2.2.1 (List.length a0.2.2.2.1)).bind fun x1=>
 Option.bind a0.2.2.2.1[x1]? fun x2=>
 Option.bind
 ((idx x0.2.2.2.2.2.2.2.1 a1.2.1).bind fun x3=>
 bif x3.2.2.2.1 then bif !decide (x2.2.2.1=(-1:Int)) then some (decide (x2.2.2.1≤a1.2.2.2.2.1)) else some false
 else some false)
 fun x4=>
 Option.bind
 (bif x4 then
 Option.bind
 (F96 a0 a1.1
 (a1.2.1,x2.2.2.2.2.1,false,()))
 fun x5=>some x5
 else some a0)
 fun x6=>
 (inb a1.1 (List.length x6.2.2.2.2.1)).bind fun x7=>
 Option.bind x6.2.2.2.2.1[x7]? fun x8=>
 Option.bind (bif decide (x8.1=(-1:Int)) then some true else some (decide (a1.2.1<x8.1))) fun x9=>
 bif x9 then some x6
 else
 (idx x0.2.2.2.2.2.2.2.1 (IntKind.wrap .i64 (a1.2.1+(1:Int)))).bind fun x10=>
 Option.bind
 (bif !x10.2.2.2.2.1 then (idx x6.2.2.2.2.2.1 a1.1).bind fun x11=>some (decide ((↑(List.length x11):Int)=(0:Int)))
 else some false)
 fun x12=>
 bif x12 then some x6
 else
 (idx x0.2.2.2.2.2.2.2.1 x8.1).bind fun x13=>
 (idx x0.2.2.2.2.2.2.2.1 x8.1).bind fun x14=>
 Option.bind
 (F95 x6
 (true,a1.1,x8.1,IntKind.wrap .i64 (a1.2.1+(1:Int)),x13.1,a1.2.2.2.1,x14.2.2.1,a1.2.2.2.2.2.1,
 x8.2.2.1,())
 x8.2.1)
 fun x15=>
 Option.bind
 (bif x10.2.2.2.2.1 then
 (inb a1.2.2.2.1 (List.length x15.1.2.2.2.1)).bind fun x16=>
 (idx x15.1.1.1 a1.2.2.2.1).bind fun x17=>
 Option.bind
 (F98
 x15.1
 a1.2.2.2.1 a1.2.2.2.2.2.1 (IntKind.wrap .i64 (a1.2.2.2.2.2.1+x17.2.2.2.1)) x15.2)
 fun x18=>
 Option.bind
 (Option.bind x18.2.2.2.1[x16]? fun x19=>
 bif decide (x19.2.1=(-1:Int)) then some true
 else Option.bind x18.2.2.2.1[x16]? fun x20=>some (decide (a1.2.2.2.2.2.1<x20.2.1)))
 fun x21=>
 Option.bind
 (bif x21 then
 Option.bind x18.2.2.2.1[x16]? fun x22=>
 Option.bind
 (F101
 (x18.1,x18.2.1,x18.2.2.1,List.set x18.2.2.2.1 x16 (x22.1,a1.2.2.2.2.2.1,x22.2.2),
 x18.2.2.2.2.1,x18.2.2.2.2.2.1,x18.2.2.2.2.2.2.1,())
 a1.2.2.2.1 a1.2.2.2.2.2.1 x15.2)
 fun x23=>
 some
 x23
 else
 some
 x18)
 fun x24=>
 some
 x24
 else
 some
 x15.1)
 fun x25=>
 Option.bind
 (F97
 x25 a1.1
 (IntKind.wrap .i64 (a1.2.1+(1:Int))) x15.2 x10.2.2.2.2.1)
 fun x26=>
 some x26
abbrev F100A:Zao:=(.cons Pz1 (.cons (.pd Zho) .nil))
abbrev F100R:Zao:= .nil
def F100S:Tr.Spec:= {args:=F100A,res:=F100R,fns:=[],α:=Tz0,f:=fun x=>F100 x.1 x.2.1,unp:=fun z=>((z,(),()),()) }
def F100M:List (Nat×List Tr.Spec):=[(65,[F101S]),(66,[F98S]),(72,[F96S]),(73,[F95S]),(74,[F97S])]
def F100H:ZaW:=(.seq .leaf (.seq .leaf (.seq .leaf (.seq (.seq (.reg [(45,Y4)]) (.cnd (some (⟨[],[],[3,4],[],[],[]⟩,[(.normal,⟨[(0,Pz1)],[],[3,4],[],[],[]⟩)])) .leaf .leaf)) (.seq .leaf (.seq (.seq (.reg [(72,Y4)]) .leaf) (.seq .leaf (.seq (.seq (.reg [(93,Y4)]) .leaf) (.seq .leaf (.seq (.seq .leaf (.cnd (some (⟨[],[],[3,7,8],[],[],[]⟩,[(.normal,⟨[(0,Pz1)],[],[3,7,8],[],[],[]⟩)])) (.seq .leaf (.seq .leaf (.seq (.reg [(165,Y4)]) (.cnd (some (⟨[],[],[3,7,8],[],[],[]⟩,[(.normal,⟨[(0,Pz1)],[],[3,7,8],[],[],[]⟩)])) .leaf .leaf)))) .leaf)) .leaf))))))))))
def F100V (a0:Tz0) (a1:El Zho):Option (Tz0):=Zaz (mkE tyTab mapTab pkTab [] [] F100M 187 bdTab) (Zam Tryz.f43) Tryz.f43.results F100H F100A F100R (fun y=>y.1.1) (a0,a1,())
theorem F100_eq (a0:Tz0) (a1:El Zho):F100V a0 a1=F100 a0 a1:=by kernel_rfl
theorem F100_ok:ZaV Tryz.prog 43 F100S:=Zag (m:=F100M) (fn:=Tryz.f43) (hint:=F100H) (pack:=fun y=>y.1.1) Za4 tab_ok ⟨⟨F101_ok,trivial⟩,⟨F98_ok,trivial⟩,⟨F96_ok,trivial⟩,⟨F95_ok,trivial⟩,⟨F97_ok,trivial⟩,trivial⟩ fun x z h=>(F100_eq x.1 x.2.1).trans h
def F93: (El Y31)→(El Y33)→Option (Tz0×El Y37):=fun a0 a1=>
 (F92 a0 a1).bind fun x0=>
 bif !decide (x0=(0:Int)) then none
 else
 (F12 a0 a1).bind fun x1=>
 (F102 x1.1 a1).bind fun x2=>
 (F6 x1.1).bind fun x3=>
 bif !decide (x3.2=(0:Int)) then none
 else
 Option.bind
 (run
 (fun s4=>
 bif decide (s4.2< (↑(List.length x3.1):Int)) then
 (idx x3.1 s4.2).bind fun x5=>
 (F7 x3.1 x5.2.2.2.2.1).bind fun x6=>
 Option.bind (sliceB (List.length x3.1) (List.length x3.1) (some s4.2) (some x6)) fun x7=>
 Option.bind
 (run
 (fun s8=>
 bif decide (s8.2< (↑(List.length (List.take (x7.2 - x7.1) (List.drop x7.1 x3.1))):Int)) then
 (idx (List.take (x7.2 - x7.1) (List.drop x7.1 x3.1)) s8.2).bind fun x9=>
 Option.bind
 (F100
 s8.1
 x9)
 fun x10=>
 some
 (.inl
 (x10,
 IntKind.wrap .i64 (s8.2+(1:Int))))
 else
 some
 (.inr
 s8.1))
 ((s4.1.1,s4.1.2.1,s4.1.2.2.1,s4.1.2.2.2.1,s4.1.2.2.2.2.1,s4.1.2.2.2.2.2.1,false,()),(0:Int)))
 fun x11=>
 bif x11.2.2.2.2.2.2.1 then
 some
 (.inl
 (x11,s4.2))
 else
 some
 (.inl
 (x11,x6))
 else
 some
 (.inr
 s4.1))
 (x2,(0:Int)))
 fun x12=>
 some (x12,(0:Int))
abbrev F93A:Zao:=(.cons (.pd Y31) (.cons (.pd Y33) .nil))
abbrev F93R:Zao:=(.cons Pz1 (.cons (.pd Y37) .nil))
def F93S:Tr.Spec:= {args:=F93A,res:=F93R,fns:=[],α:=Tz0×El Y37,f:=fun x=>F93 x.1 x.2.1,unp:=fun z=>(((),(),()),(z.1,z.2,())) }
def F93M:List (Nat×List Tr.Spec):=[(38,[F92S]),(39,[F12S]),(40,[F102S]),(41,[F6S]),(42,[F7S]),(43,[F100S])]
def F93H:ZaW:=(.seq .leaf (.seq .leaf (.seq .leaf (.seq .leaf (.seq .leaf (.seq .leaf (.seq .leaf (.seq (.seq .leaf (.lp ⟨[(9,Pz1),(12,(.pd Y3))],[],[10],[],[],[]⟩ [((.exit 0),⟨[(9,Pz1)],[],[],[],[],[]⟩)] (.seq .leaf (.seq .leaf (.seq .leaf (.seq (.seq .leaf (.lp ⟨[(9,Pz1),(58,(.pd Y3))],[],[10,12,13,56,57],[],[],[]⟩ [((.exit 2),⟨[(9,Pz1)],[],[10,12,13],[],[],[]⟩)] .leaf)) .leaf)))))) .leaf))))))))
def F93V (a0:El Y31) (a1:El Y33):Option (Tz0×El Y37):=Zaz (mkE tyTab mapTab pkTab [] [] F93M 72 bdTab) (Zam Tryz.f24) Tryz.f24.results F93H F93A F93R (fun y=>(y.2.1,y.2.2.1)) (a0,a1,())
theorem F93_eq (a0:El Y31) (a1:El Y33):F93V a0 a1=F93 a0 a1:=by kernel_rfl
theorem F93_ok:ZaV Tryz.prog 24 F93S:=Zag (m:=F93M) (fn:=Tryz.f24) (hint:=F93H) (pack:=fun y=>(y.2.1,y.2.2.1)) Za4 tab_ok ⟨⟨F92_ok,trivial⟩,⟨F12_ok,trivial⟩,⟨F102_ok,trivial⟩,⟨F6_ok,trivial⟩,⟨F7_ok,trivial⟩,⟨F100_ok,trivial⟩,trivial⟩ fun x z h=>(F93_eq x.1 x.2.1).trans h
def F94: (El Y31)→(El Y33)→Option (Unit×El Y37):=fun a0 a1=>
 (F92 a0 a1).bind fun x0=>
 bif !decide (x0=(0:Int)) then some ((),x0)
 else
 (F12 a0 a1).bind fun x1=>
 (F102 x1.1 a1).bind fun x2=>
 (F6 x1.1).bind fun x3=>
 bif !decide (x3.2=(0:Int)) then some ((),x3.2)
 else
 Option.bind
 (run
 (fun s4=>
 bif decide (s4.2< (↑(List.length x3.1):Int)) then
 (idx x3.1 s4.2).bind fun x5=>
 (F7 x3.1 x5.2.2.2.2.1).bind fun x6=>
 Option.bind (sliceB (List.length x3.1) (List.length x3.1) (some s4.2) (some x6)) fun x7=>
 Option.bind
 (run
 (fun s8=>
 bif decide (s8.2< (↑(List.length (List.take (x7.2 - x7.1) (List.drop x7.1 x3.1))):Int)) then
 (idx (List.take (x7.2 - x7.1) (List.drop x7.1 x3.1)) s8.2).bind fun x9=>
 Option.bind
 (F100
 s8.1
 x9)
 fun x10=>
 some
 (.inl
 (x10,
 IntKind.wrap .i64 (s8.2+(1:Int))))
 else
 some
 (.inr
 s8.1))
 ((s4.1.1,s4.1.2.1,s4.1.2.2.1,s4.1.2.2.2.1,s4.1.2.2.2.2.1,s4.1.2.2.2.2.2.1,false,()),(0:Int)))
 fun x11=>
 bif x11.2.2.2.2.2.2.1 then
 some
 (.inl
 (x11,s4.2))
 else
 some
 (.inl
 (x11,x6))
 else
 some
 (.inr
 s4.1))
 (x2,(0:Int)))
 fun _=>none
abbrev F94A:Zao:=(.cons (.pd Y31) (.cons (.pd Y33) .nil))
abbrev F94R:Zao:=(.cons .nilr (.cons (.pd Y37) .nil))
def F94S:Tr.Spec:= {args:=F94A,res:=F94R,fns:=[],α:=Unit×El Y37,f:=fun x=>F94 x.1 x.2.1,unp:=fun z=>(((),(),()),(z.1,z.2,())) }
def F94M:List (Nat×List Tr.Spec):=[(38,[F92S]),(39,[F12S]),(40,[F102S]),(41,[F6S]),(42,[F7S]),(43,[F100S])]
def F94H:ZaW:=(.seq .leaf (.seq .leaf (.seq .leaf (.seq .leaf (.seq .leaf (.seq .leaf (.seq .leaf (.seq (.seq .leaf (.lp ⟨[(9,Pz1),(12,(.pd Y3))],[],[10],[],[],[]⟩ [((.exit 0),⟨[(9,Pz1)],[],[],[],[],[]⟩)] (.seq .leaf (.seq .leaf (.seq .leaf (.seq (.seq .leaf (.lp ⟨[(9,Pz1),(58,(.pd Y3))],[],[10,12,13,56,57],[],[],[]⟩ [((.exit 2),⟨[(9,Pz1)],[],[10,12,13],[],[],[]⟩)] .leaf)) .leaf)))))) .leaf))))))))
def F94V (a0:El Y31) (a1:El Y33):Option (Unit×El Y37):=Zaz (mkE tyTab mapTab pkTab [] [] F94M 72 bdTab) (Zam Tryz.f24) Tryz.f24.results F94H F94A F94R (fun y=>(y.2.1,y.2.2.1)) (a0,a1,())
theorem F94_eq (a0:El Y31) (a1:El Y33):F94V a0 a1=F94 a0 a1:=by kernel_rfl
theorem F94_ok:ZaV Tryz.prog 24 F94S:=Zag (m:=F94M) (fn:=Tryz.f24) (hint:=F94H) (pack:=fun y=>(y.2.1,y.2.2.1)) Za4 tab_ok ⟨⟨F92_ok,trivial⟩,⟨F12_ok,trivial⟩,⟨F102_ok,trivial⟩,⟨F6_ok,trivial⟩,⟨F7_ok,trivial⟩,⟨F100_ok,trivial⟩,trivial⟩ fun x z h=>(F94_eq x.1 x.2.1).trans h
def F89: (El Y31)→(El Y33)→Option (El Y36×El Y37):=fun a0 a1=>
 bif Option.isSome (F93S.f (a0,a1,())) then
 (F93 a0 a1).bind fun x0=>
 bif !decide (x0.2=(0:Int)) then some ([],x0.2)
 else
 Option.bind
 (run
 (fun s1=>
 bif decide (s1.2.2< (↑(List.length x0.1.2.2.2.1):Int)) then
 (inb s1.2.2 (List.length s1.2.1)).bind fun x2=>
 Option.bind s1.2.1[x2]? fun x3=>
 Option.bind (Zaq (decide (List.length s1.1+List.length [x3.1]≤Zas))) fun _=>
 some (.inl (s1.1++[x3.1],s1.2.1,IntKind.wrap .i64 (s1.2.2+(1:Int))))
 else some (.inr s1.1))
 ([],x0.1.2.2.2.1,(0:Int)))
 fun x5=>some (x5,(0:Int))
 else (F94 a0 a1).bind fun x6=>bif !decide (x6.2=(0:Int)) then some ([],x6.2) else none
abbrev F89A:Zao:=(.cons (.pd Y31) (.cons (.pd Y33) .nil))
abbrev F89R:Zao:=(.cons (.pd Y36) (.cons (.pd Y37) .nil))
def F89S:Tr.Spec:= {args:=F89A,res:=F89R,fns:=[],α:=El Y36×El Y37,f:=fun x=>F89 x.1 x.2.1,unp:=fun z=>(((),(),()),(z.1,z.2,())) }
def F89M:List (Nat×List Tr.Spec):=[(24,[F93S,F94S])]
def F89H:ZaW:=(.seq .leaf (.seq .leaf (.seq .leaf (.seq .leaf (.seq (.seq .leaf (.lp ⟨[(8,(.own Y3 false)),(23,(.own Y73 false)),(25,(.pd Y3))],[],[24],[],[],[]⟩ [((.exit 0),⟨[(8,(.own Y3 false))],[],[],[],[],[]⟩)] .leaf)) .leaf)))))
def F89V (a0:El Y31) (a1:El Y33):Option (El Y36×El Y37):=Zaz (mkE tyTab mapTab pkTab [] [] F89M 36 bdTab) (Zam Tryz.f10) Tryz.f10.results F89H F89A F89R (fun y=>(y.2.1,y.2.2.1)) (a0,a1,())
theorem F89_eq (a0:El Y31) (a1:El Y33):F89V a0 a1=F89 a0 a1:=by kernel_rfl
theorem F89_ok:ZaV Tryz.prog 10 F89S:=Zag (m:=F89M) (fn:=Tryz.f10) (hint:=F89H) (pack:=fun y=>(y.2.1,y.2.2.1)) Za4 tab_ok ⟨⟨F93_ok,F94_ok,trivial⟩,trivial⟩ fun x z h=>(F89_eq x.1 x.2.1).trans h
def F91: (El Y31)→(El Y33)→(El Y3)→Option (El Y36×El Y37):=fun a0 a1 a2=>
 (F89 a0 a1).bind fun x0=>
 Option.bind
 (run
 (fun s1=>
 bif decide (s1.2< (↑(List.length x0.1):Int)) then
 (idx x0.1 s1.2).bind fun x2=>
 Option.bind (bif !decide (x2=(-1:Int)) then some (decide (x2≤a2)) else some false) fun x3=>
 bif x3 then
 Option.bind (Zaq (decide (List.length s1.1+List.length [s1.2]≤Zas))) fun _=>
 some (.inl (s1.1++[s1.2],IntKind.wrap .i64 (s1.2+(1:Int))))
 else some (.inl (s1.1,IntKind.wrap .i64 (s1.2+(1:Int))))
 else some (.inr s1.1))
 ([],(0:Int)))
 fun x5=>some (x5,x0.2)
abbrev F91A:Zao:=(.cons (.pd Y31) (.cons (.pd Y33) (.cons (.pd Y3) .nil)))
abbrev F91R:Zao:=(.cons (.pd Y36) (.cons (.pd Y37) .nil))
def F91S:Tr.Spec:= {args:=F91A,res:=F91R,fns:=[],α:=El Y36×El Y37,f:=fun x=>F91 x.1 x.2.1 x.2.2.1,unp:=fun z=>(((),(),(),()),(z.1,z.2,())) }
def F91M:List (Nat×List Tr.Spec):=[(10,[F89S])]
def F91H:ZaW:=(.seq .leaf (.seq .leaf (.seq .leaf (.seq (.seq .leaf (.lp ⟨[(10,(.own Y3 false)),(21,(.pd Y3))],[],[2,9,19,20],[],[],[]⟩ [((.exit 0),⟨[(10,(.own Y3 false))],[],[9],[],[],[]⟩)] (.seq .leaf (.seq .leaf (.seq (.seq .leaf (.seq (.reg [(32,Y4)]) .leaf)) .leaf))))) .leaf))))
def F91V (a0:El Y31) (a1:El Y33) (a2:El Y3):Option (El Y36×El Y37):=Zaz (mkE tyTab mapTab pkTab [] [] F91M 40 bdTab) (Zam Tryz.f12) Tryz.f12.results F91H F91A F91R (fun y=>(y.2.1,y.2.2.1)) (a0,a1,a2,())
theorem F91_eq (a0:El Y31) (a1:El Y33) (a2:El Y3):F91V a0 a1 a2=F91 a0 a1 a2:=by kernel_rfl
theorem F91_ok:ZaV Tryz.prog 12 F91S:=Zag (m:=F91M) (fn:=Tryz.f12) (hint:=F91H) (pack:=fun y=>(y.2.1,y.2.2.1)) Za4 tab_ok ⟨⟨F89_ok,trivial⟩,trivial⟩ fun x z h=>(F91_eq x.1 x.2.1 x.2.2.1).trans h
def F54: (El Y36)→(El Y36)→Option (El Y4):=fun a0 a1=>
 bif !decide ((↑(List.length a0):Int)=(↑(List.length a1):Int)) then some false
 else
 Option.bind
 (run
 (fun s0=>
 bif decide (s0< (↑(List.length a0):Int)) then
 (idx a0 s0).bind fun x1=>
 (idx a1 s0).bind fun x2=>
 bif !decide (x1=x2) then some (.inr (.inr false)) else some (.inl (IntKind.wrap .i64 (s0+(1:Int))))
 else some (.inr (.inl ())))
 (0:Int))
 fun x3=>Sum.elim (fun _=>some true) (fun y5=>some y5) x3
abbrev F54A:Zao:=(.cons (.pd Y36) (.cons (.pd Y36) .nil))
abbrev F54R:Zao:=(.cons (.pd Y4) .nil)
def F54S:Tr.Spec:= {args:=F54A,res:=F54R,fns:=[],α:=El Y4,f:=fun x=>F54 x.1 x.2.1,unp:=fun z=>(((),(),()),(z,())) }
def F54M:List (Nat×List Tr.Spec):=[]
def F54H:ZaW:=(.seq .leaf (.seq .leaf (.seq (.seq .leaf (.lp ⟨[(5,(.pd Y3))],[],[0,1],[],[],[]⟩ [((.exit 0),⟨[],[],[],[],[],[]⟩),(.ret,⟨[(4,(.pd Y4))],[],[],[],[],[]⟩)] .leaf)) .leaf)))
def F54V (a0:El Y36) (a1:El Y36):Option (El Y4):=Zaz (mkE tyTab mapTab pkTab [] [] F54M 26 bdTab) (Zam Tryz.f14) Tryz.f14.results F54H F54A F54R (fun y=>y.2.1) (a0,a1,())
theorem F54_eq (a0:El Y36) (a1:El Y36):F54V a0 a1=F54 a0 a1:=by kernel_rfl
theorem F54_ok:ZaV Tryz.prog 14 F54S:=Zag (m:=F54M) (fn:=Tryz.f14) (hint:=F54H) (pack:=fun y=>y.2.1) Za4 tab_ok trivial fun x z h=>(F54_eq x.1 x.2.1).trans h
def F99: (Tz0)→(El Y3)→Option (Tz0×El Y45):=fun a0 a1=>
 Option.bind
 (run
 (fun s0=>
 bif !decide (s0.2.1=(-1:Int)) then
 (inb s0.2.1 (List.length s0.1.2.2.1)).bind fun x1=>
 Option.bind s0.1.2.2.1[x1]? fun x2=>
 Option.bind (Zaq (decide (List.length s0.2.2+List.length [x2.1]≤Zas))) fun _=>
 (inb s0.2.1 (List.length s0.1.2.2.1)).bind fun x4=>
 Option.bind s0.1.2.2.1[x4]? fun x5=>
 some
 (.inl
 (s0.1,
 x5.2.1,s0.2.2++[x2.1]))
 else
 some
 (.inr
 (s0.1,
 s0.2.2)))
 (a0,a1,[]))
 fun x6=>
 Option.bind
 (Zaq
 (decide
 ((0:El (Tr.Ty.int .i64))≤(↑(List.length x6.2):Int)∧
 (↑(List.length x6.2):Int)≤(↑(List.length x6.2):Int)∧(↑(List.length x6.2):Int)≤(↑Zas:El (Tr.Ty.int .i64)))))
 fun _=>
 Option.bind
 (run
 (fun s8=>
 bif decide (s8.2.2.2< (↑(List.length x6.2):Int)) then
 (inb s8.2.2.2 (List.length s8.2.1)).bind fun x9=>
 Option.bind s8.2.1[x9]? fun x10=>
 Option.bind (inb (IntKind.wrap .i64 (IntKind.wrap .i64 ((↑(List.length s8.2.1):Int) - (1:Int)) - s8.2.2.2)) (List.length s8.2.2.1))
 fun x11=>
 Option.bind s8.2.2.1[x11]? fun _=>
 some
 (.inl
 (s8.1,
 s8.2.1,List.set s8.2.2.1 x11 x10,IntKind.wrap .i64 (s8.2.2.2+(1:Int))))
 else
 some
 (.inr
 (s8.1,
 s8.2.2.1)))
 (x6.1,x6.2,
 List.take (Min.min (List.length x6.2) (List.length (List.replicate (Int.toNat (↑(List.length x6.2):Int)) ((false,(0:Int),(0:Int),(0:Int),(0:Int),(0:Int),(0:Int),(0:Int),false,()))))) x6.2++
 List.drop (Min.min (List.length x6.2) (List.length (List.replicate (Int.toNat (↑(List.length x6.2):Int)) ((false,(0:Int),(0:Int),(0:Int),(0:Int),(0:Int),(0:Int),(0:Int),false,())))))
 (List.replicate (Int.toNat (↑(List.length x6.2):Int)) ((false,(0:Int),(0:Int),(0:Int),(0:Int),(0:Int),(0:Int),(0:Int),false,()))),
 (0:Int)))
 fun x13=>
 Option.bind
 (bif decide ((1:Int)< (↑(List.length x13.2):Int)) then
 (inb (0:Int) (List.length x13.2)).bind fun x14=>Option.bind x13.2[x14]? fun x15=>some !x15.1
 else some false)
 fun x16=>
 bif x16 then
 (inb (0:Int) (List.length x13.2)).bind fun x17=>
 (inb (1:Int) (List.length x13.2)).bind fun x18=>
 Option.bind x13.2[x18]? fun x19=>
 Option.bind x13.2[x17]? fun x20=>
 Option.bind x13.2[x17]? fun x21=>
 (inb (1:Int) (List.length x13.2)).bind fun x22=>
 Option.bind x13.2[x22]? fun x23=>
 Option.bind x13.2[x17]? fun x24=>
 Option.bind
 (List.set x13.2 x17
 (x24.1,x24.2.1,x24.2.2.1,x24.2.2.2.1,x24.2.2.2.2.1,x24.2.2.2.2.2.1,
 IntKind.wrap .i64
 (x19.2.2.2.2.2.2.1 - IntKind.wrap .i64 (x20.2.2.2.2.2.2.2.1 - x21.2.2.2.2.2.2.1)),
 x24.2.2.2.2.2.2.2))[x17]?
 fun x25=>
 some
 (x13.1,
 List.set
 (List.set x13.2 x17
 (x24.1,x24.2.1,x24.2.2.1,x24.2.2.2.1,x24.2.2.2.2.1,x24.2.2.2.2.2.1,
 IntKind.wrap .i64
 (x19.2.2.2.2.2.2.1 - IntKind.wrap .i64 (x20.2.2.2.2.2.2.2.1 - x21.2.2.2.2.2.2.1)),
 x24.2.2.2.2.2.2.2))
 x17
 (x25.1,x25.2.1,x25.2.2.1,x25.2.2.2.1,x25.2.2.2.2.1,x25.2.2.2.2.2.1,x25.2.2.2.2.2.2.1,
 x23.2.2.2.2.2.2.1,x25.2.2.2.2.2.2.2.2),
 ())
 else
 some
 (x13.1,
 x13.2,())
abbrev F99A:Zao:=(.cons Pz1 (.cons (.pd Y3) .nil))
abbrev F99R:Zao:=(.cons (.pd Y45) .nil)
def F99S:Tr.Spec:= {args:=F99A,res:=F99R,fns:=[],α:=Tz0×El Y45,f:=fun x=>F99 x.1 x.2.1,unp:=fun z=>((z.1,(),()),(z.2,())) }
def F99M:List (Nat×List Tr.Spec):=[]
def F99H:ZaW:=(.seq .leaf (.seq .leaf (.seq (.lp ⟨[(0,Pz1),(1,(.pd Y3)),(5,(.own Y51 false))],[],[4],[],[],[]⟩ [((.exit 0),⟨[(0,Pz1),(5,(.own Y51 false))],[],[4],[],[],[]⟩)] .leaf) (.seq .leaf (.seq .leaf (.seq (.seq .leaf (.lp ⟨[(0,Pz1),(5,(.own Y51 false)),(6,(.own Y51 false)),(38,(.pd Y3))],[],[4,37],[],[],[]⟩ [((.exit 2),⟨[(0,Pz1),(6,(.own Y51 false))],[],[4],[],[],[]⟩)] .leaf)) (.seq (.seq (.reg [(62,Y4)]) .leaf) .leaf)))))))
def F99V (a0:Tz0) (a1:El Y3):Option (Tz0×El Y45):=Zaz (mkE tyTab mapTab pkTab [] [] F99M 91 bdTab) (Zam Tryz.f28) Tryz.f28.results F99H F99A F99R (fun y=>(y.1.1,y.2.1)) (a0,a1,())
theorem F99_eq (a0:Tz0) (a1:El Y3):F99V a0 a1=F99 a0 a1:=by kernel_rfl
theorem F99_ok:ZaV Tryz.prog 28 F99S:=Zag (m:=F99M) (fn:=Tryz.f28) (hint:=F99H) (pack:=fun y=>(y.1.1,y.2.1)) Za4 tab_ok trivial fun x z h=>(F99_eq x.1 x.2.1).trans h
def F90: (El Y31)→(El Y33)→Option (El Y45×El Y37):=fun a0 a1=>
 bif Option.isSome (F93S.f (a0,a1,())) then
 (F93 a0 a1).bind fun x0=>
 bif !decide (x0.2=(0:Int)) then some ((([]:List (El Y51)),()),x0.2)
 else
 bif decide (a1.1=a1.2.1) then some ((([]:List (El Y51)),()),(0:Int))
 else
 (inb a1.2.1 (List.length x0.1.2.2.2.1)).bind fun x1=>
 Option.bind x0.1.2.2.2.1[x1]? fun x2=>
 bif decide (x2.1=(-1:Int)) then some ((([]:List (El Y51)),()),(23:Int))
 else
 Option.bind
 (F99
 x0.1
 x2.2.2.2.1)
 fun x3=>some (x3.2,(0:Int))
 else
 (F94 a0 a1).bind fun x4=>
 bif !decide (x4.2=(0:Int)) then some ((([]:List (El Y51)),()),x4.2)
 else bif decide (a1.1=a1.2.1) then some ((([]:List (El Y51)),()),(0:Int)) else none
abbrev F90A:Zao:=(.cons (.pd Y31) (.cons (.pd Y33) .nil))
abbrev F90R:Zao:=(.cons (.pd Y45) (.cons (.pd Y37) .nil))
def F90S:Tr.Spec:= {args:=F90A,res:=F90R,fns:=[],α:=El Y45×El Y37,f:=fun x=>F90 x.1 x.2.1,unp:=fun z=>(((),(),()),(z.1,z.2,())) }
def F90M:List (Nat×List Tr.Spec):=[(24,[F93S,F94S]),(28,[F99S])]
def F90H:ZaW:= .leaf
def F90V (a0:El Y31) (a1:El Y33):Option (El Y45×El Y37):=Zaz (mkE tyTab mapTab pkTab [] [] F90M 41 bdTab) (Zam Tryz.f15) Tryz.f15.results F90H F90A F90R (fun y=>(y.2.1,y.2.2.1)) (a0,a1,())
theorem F90_eq (a0:El Y31) (a1:El Y33):F90V a0 a1=F90 a0 a1:=by kernel_rfl
theorem F90_ok:ZaV Tryz.prog 15 F90S:=Zag (m:=F90M) (fn:=Tryz.f15) (hint:=F90H) (pack:=fun y=>(y.2.1,y.2.2.1)) Za4 tab_ok ⟨⟨F93_ok,F94_ok,trivial⟩,⟨F99_ok,trivial⟩,trivial⟩ fun x z h=>(F90_eq x.1 x.2.1).trans h
def F33:Option (El Y31):=some
 ([([(97:UInt8)],(0:Int),false,(0:Int),()),([(98:UInt8)],(0:Int),false,(0:Int),()),([(99:UInt8)],(0:Int),false,(0:Int),())],
 [([(114:UInt8)],(0:Int),false,())],
 [((0:Int),(0:Int),(0:Int),[(120:UInt8)],(0:Int),false,false,
 [((0:Int),(90:Int),(100:Int),true,true,()),((1:Int),(160:Int),(160:Int),true,true,()),
 ((2:Int),(220:Int),(220:Int),true,true,())],
 ()),
 ((0:Int),(0:Int),(0:Int),[(121:UInt8)],(0:Int),false,false,
 [((1:Int),(100:Int),(100:Int),true,true,()),((0:Int),(150:Int),(150:Int),true,true,())],())],
 ([]:List (El ZsG)),([]:List (El Y59)),(([]:List (El ZsI)),(0:Int),(0:Int),(0:Int),()),())
abbrev F33A:Zao:= .nil
abbrev F33R:Zao:=(.cons (.pd Y31) .nil)
def F33S:Tr.Spec:= {args:=F33A,res:=F33R,fns:=[],α:=El Y31,f:=fun _=>F33,unp:=fun z=>((),(z,())) }
def F33M:List (Nat×List Tr.Spec):=[]
def F33H:ZaW:= .leaf
def F33V:Option (El Y31):=Zaz (mkE tyTab mapTab pkTab [] [] F33M 20 bdTab) (Zam Tryz.f23) Tryz.f23.results F33H F33A F33R (fun y=>y.2.1) (())
theorem F33_eq:F33V=F33:=by kernel_rfl
theorem F33_ok:ZaV Tryz.prog 23 F33S:=Zag (m:=F33M) (fn:=Tryz.f23) (hint:=F33H) (pack:=fun y=>y.2.1) Za4 tab_ok trivial fun _ z h=>(F33_eq).trans h
def F34:Option (El Y4):=Option.bind F33 fun x0=>
 (F89 x0 ((1:Int),(0:Int),(100:Int),false,(0:Int),(0:Int),false,false,(0:Int),false,())).bind fun x1=>
 (F89 x0 ((1:Int),(0:Int),(101:Int),false,(0:Int),(0:Int),false,false,(0:Int),false,())).bind fun x2=>
 (F90 x0 ((1:Int),(2:Int),(100:Int),false,(0:Int),(0:Int),false,false,(0:Int),false,())).bind fun x3=>
 (F90 x0 ((2:Int),(1:Int),(100:Int),false,(0:Int),(0:Int),false,false,(0:Int),false,())).bind fun x4=>
 Option.bind (F91 x0 ((1:Int),(0:Int),(100:Int),false,(0:Int),(0:Int),false,false,(0:Int),false,()) (150:Int))
 fun x5=>
 bif decide (x1.2=(0:Int)) then
 (F54 x1.1 [(150:Int),(100:Int),(220:Int)]).bind fun x6=>
 bif x6 then
 bif decide (x2.2=(0:Int)) then
 (F54 x2.1 [(-1:Int),(101:Int),(220:Int)]).bind fun x7=>
 bif x7 then
 bif decide (x3.2=(0:Int)) then
 bif decide ((↑(List.length x3.1.1):Int)=(1:Int)) then
 (idx x3.1.1 (0:Int)).bind fun x8=>
 bif
 x8.1==true&&
 (decide (x8.2.1=(0:Int)) &&
 (decide (x8.2.2.1=(1:Int)) &&
 (decide (x8.2.2.2.1=(2:Int)) &&
 (decide (x8.2.2.2.2.1=(1:Int)) &&
 (decide (x8.2.2.2.2.2.1=(2:Int)) &&
 (decide (x8.2.2.2.2.2.2.1=(160:Int)) &&
 (decide (x8.2.2.2.2.2.2.2.1=(220:Int)) &&x8.2.2.2.2.2.2.2.2.1==false))))))) then
 bif decide (x4.2=(23:Int)) then
 bif decide (x5.2=(0:Int)) then (F54 x5.1 [(0:Int),(1:Int)]).bind fun x9=>some x9 else some false
 else some false
 else some false
 else some false
 else some false
 else some false
 else some false
 else some false
 else some false
abbrev F34A:Zao:= .nil
abbrev F34R:Zao:=(.cons (.pd Y4) .nil)
def F34S:Tr.Spec:= {args:=F34A,res:=F34R,fns:=[],α:=El Y4,f:=fun _=>F34,unp:=fun z=>((),(z,())) }
def F34M:List (Nat×List Tr.Spec):=[(10,[F89S]),(12,[F91S]),(14,[F54S]),(15,[F90S]),(23,[F33S])]
def F34H:ZaW:= .leaf
def F34V:Option (El Y4):=Zaz (mkE tyTab mapTab pkTab [] [] F34M 90 bdTab) (Zam Tryz.f9) Tryz.f9.results F34H F34A F34R (fun y=>y.2.1) (())
theorem F34_eq:F34V=F34:=by kernel_rfl
theorem F34_ok:ZaV Tryz.prog 9 F34S:=Zag (m:=F34M) (fn:=Tryz.f9) (hint:=F34H) (pack:=fun y=>y.2.1) Za4 tab_ok ⟨⟨F89_ok,trivial⟩,⟨F91_ok,trivial⟩,⟨F54_ok,trivial⟩,⟨F90_ok,trivial⟩,⟨F33_ok,trivial⟩,trivial⟩ fun _ z h=>(F34_eq).trans h
def F61: (El Y9)→Option (El Y4):=fun a0=>
 Option.bind (bif decide ((↑(List.length a0):Int)< (1:Int)) then some true else some (decide ((32:Int)< (↑(List.length a0):Int)))) fun x0=>
 bif x0 then some false
 else
 Option.bind
 (run
 (fun s1=>
 bif decide (s1< (↑(List.length a0):Int)) then
 (idx a0 s1).bind fun x2=>
 Option.bind
 (bif decide ((97:Int)≤(↑(UInt8.toNat x2):Int)) then
 bif decide ((↑(UInt8.toNat x2):Int)≤(122:Int)) then some true
 else
 bif decide ((65:Int)≤(↑(UInt8.toNat x2):Int)) then
 bif decide ((↑(UInt8.toNat x2):Int)≤(90:Int)) then some true
 else bif decide ((48:Int)≤(↑(UInt8.toNat x2):Int)) then some (decide ((↑(UInt8.toNat x2):Int)≤(57:Int))) else some false
 else bif decide ((48:Int)≤(↑(UInt8.toNat x2):Int)) then some (decide ((↑(UInt8.toNat x2):Int)≤(57:Int))) else some false
 else
 bif decide ((65:Int)≤(↑(UInt8.toNat x2):Int)) then
 bif decide ((↑(UInt8.toNat x2):Int)≤(90:Int)) then some true
 else bif decide ((48:Int)≤(↑(UInt8.toNat x2):Int)) then some (decide ((↑(UInt8.toNat x2):Int)≤(57:Int))) else some false
 else bif decide ((48:Int)≤(↑(UInt8.toNat x2):Int)) then some (decide ((↑(UInt8.toNat x2):Int)≤(57:Int))) else some false)
 fun x3=>
 Option.bind
 (bif !x3 then
 bif !decide ((↑(UInt8.toNat x2):Int)=(45:Int)) then
 bif !decide ((↑(UInt8.toNat x2):Int)=(95:Int)) then some !decide ((↑(UInt8.toNat x2):Int)=(46:Int)) else some false
 else some false
 else some false)
 fun x4=>bif x4 then some (.inr (.inr false)) else some (.inl (IntKind.wrap .i64 (s1+(1:Int))))
 else some (.inr (.inl ())))
 (0:Int))
 fun x5=>Sum.elim (fun _=>some true) (fun y7=>some y7) x5
abbrev F61A:Zao:=(.cons (.pd Y9) .nil)
abbrev F61R:Zao:=(.cons (.pd Y4) .nil)
def F61S:Tr.Spec:= {args:=F61A,res:=F61R,fns:=[],α:=El Y4,f:=fun x=>F61 x.1,unp:=fun z=>(((),()),(z,())) }
def F61M:List (Nat×List Tr.Spec):=[]
def F61H:ZaW:=(.seq .leaf (.seq (.seq (.reg [(13,Y4)]) .leaf) (.seq (.seq .leaf (.lp ⟨[(3,(.pd Y3))],[],[0],[],[],[]⟩ [((.exit 0),⟨[],[],[],[],[],[]⟩),(.ret,⟨[(2,(.pd Y4))],[],[],[],[],[]⟩)] (.seq .leaf (.seq (.seq .leaf (.seq (.reg [(5,Y4)]) (.seq (.reg [(58,Y4)]) .leaf))) .leaf)))) .leaf)))
def F61V (a0:El Y9):Option (El Y4):=Zaz (mkE tyTab mapTab pkTab [] [] F61M 59 bdTab) (Zam Tryz.f119) Tryz.f119.results F61H F61A F61R (fun y=>y.2.1) (a0,())
theorem F61_eq (a0:El Y9):F61V a0=F61 a0:=by kernel_rfl
theorem F61_ok:ZaV Tryz.prog 119 F61S:=Zag (m:=F61M) (fn:=Tryz.f119) (hint:=F61H) (pack:=fun y=>y.2.1) Za4 tab_ok trivial fun x z h=>(F61_eq x.1).trans h
def F62: (El Y3)→(El Y3)→(El Y3)→Option (El Y4):=fun a0 a1 a2=>Option.bind (bif decide (a1≤a0) then some (decide (a0≤a2)) else some false) fun x0=>some x0
abbrev F62A:Zao:=(.cons (.pd Y3) (.cons (.pd Y3) (.cons (.pd Y3) .nil)))
abbrev F62R:Zao:=(.cons (.pd Y4) .nil)
def F62S:Tr.Spec:= {args:=F62A,res:=F62R,fns:=[],α:=El Y4,f:=fun x=>F62 x.1 x.2.1 x.2.2.1,unp:=fun z=>(((),(),(),()),(z,())) }
def F62M:List (Nat×List Tr.Spec):=[]
def F62H:ZaW:=(.seq .leaf (.seq (.reg [(6,Y4)]) .leaf))
def F62V (a0:El Y3) (a1:El Y3) (a2:El Y3):Option (El Y4):=Zaz (mkE tyTab mapTab pkTab [] [] F62M 15 bdTab) (Zam Tryz.f120) Tryz.f120.results F62H F62A F62R (fun y=>y.2.1) (a0,a1,a2,())
theorem F62_eq (a0:El Y3) (a1:El Y3) (a2:El Y3):F62V a0 a1 a2=F62 a0 a1 a2:=by kernel_rfl
theorem F62_ok:ZaV Tryz.prog 120 F62S:=Zag (m:=F62M) (fn:=Tryz.f120) (hint:=F62H) (pack:=fun y=>y.2.1) Za4 tab_ok trivial fun x z h=>(F62_eq x.1 x.2.1 x.2.2.1).trans h
def F68: (El Y22)→Option (El Y3×El Y37):=fun a0=>
 bif decide ((64:Int)< (↑(List.length a0):Int)) then some ((0:Int),(5:Int))
 else
 Option.bind
 (run
 (fun s0=>
 bif decide (s0< (↑(List.length a0):Int)) then
 (idx a0 s0).bind fun x1=>
 (F61 x1.1).bind fun x2=>
 bif !x2 then some (.inr (.inr (s0,(12:Int))))
 else
 Option.bind
 (run
 (fun s3=>
 bif decide (s3<s0) then
 (idx a0 s3).bind fun x4=>
 (idx a0 s0).bind fun x5=>
 bif decide (x4.1=x5.1) then some (.inr (.inr (s0,(6:Int)))) else some (.inl (IntKind.wrap .i64 (s3+(1:Int))))
 else some (.inr (.inl ())))
 (0:Int))
 fun x6=>
 Sum.elim
 (fun _=>
 Option.bind
 ((idx a0 s0).bind fun x8=>
 (F62 x8.2.1 (0:Int) (15:Int)).bind fun x9=>
 bif !x9 then some true
 else (idx a0 s0).bind fun x10=>(F62 x10.2.2.2.1 (0:Int) (3600:Int)).bind fun x11=>some !x11)
 fun x12=>bif x12 then some (.inr (.inr (s0,(2:Int)))) else some (.inl (IntKind.wrap .i64 (s0+(1:Int)))))
 (fun y13=>some (.inr (.inr (y13.1,y13.2)))) x6
 else some (.inr (.inl ())))
 (0:Int))
 fun x14=>Sum.elim (fun _=>some ((0:Int),(0:Int))) (fun y16=>some (y16.1,y16.2)) x14
abbrev F68A:Zao:=(.cons (.pd Y22) .nil)
abbrev F68R:Zao:=(.cons (.pd Y3) (.cons (.pd Y37) .nil))
def F68S:Tr.Spec:= {args:=F68A,res:=F68R,fns:=[],α:=El Y3×El Y37,f:=fun x=>F68 x.1,unp:=fun z=>(((),()),(z.1,z.2,())) }
def F68M:List (Nat×List Tr.Spec):=[(119,[F61S]),(120,[F62S])]
def F68H:ZaW:=(.seq .leaf (.seq .leaf (.seq (.seq .leaf (.lp ⟨[(4,(.pd Y3))],[],[0],[],[],[]⟩ [((.exit 0),⟨[],[],[],[],[],[]⟩),(.ret,⟨[(2,(.pd Y3)),(3,(.pd Y37))],[],[],[],[],[]⟩)] (.seq .leaf (.seq (.seq .leaf (.seq (.seq .leaf (.lp ⟨[(5,(.pd Y3))],[],[0,4],[],[],[]⟩ [((.exit 2),⟨[],[],[0,4],[],[],[]⟩),(.ret,⟨[(2,(.pd Y3)),(3,(.pd Y37))],[],[],[],[],[]⟩)] .leaf)) (.seq (.reg [(55,Y4)]) .leaf))) .leaf)))) .leaf)))
def F68V (a0:El Y22):Option (El Y3×El Y37):=Zaz (mkE tyTab mapTab pkTab [] [] F68M 57 bdTab) (Zam Tryz.f86) Tryz.f86.results F68H F68A F68R (fun y=>(y.2.1,y.2.2.1)) (a0,())
theorem F68_eq (a0:El Y22):F68V a0=F68 a0:=by kernel_rfl
theorem F68_ok:ZaV Tryz.prog 86 F68S:=Zag (m:=F68M) (fn:=Tryz.f86) (hint:=F68H) (pack:=fun y=>(y.2.1,y.2.2.1)) Za4 tab_ok ⟨⟨F61_ok,trivial⟩,⟨F62_ok,trivial⟩,trivial⟩ fun x z h=>(F68_eq x.1).trans h
def F66: (El Y23)→Option (El Y3×El Y37):=fun a0=>
 bif decide ((64:Int)< (↑(List.length a0):Int)) then some ((0:Int),(5:Int))
 else
 Option.bind
 (run
 (fun s0=>
 bif decide (s0< (↑(List.length a0):Int)) then
 (idx a0 s0).bind fun x1=>
 (F61 x1.1).bind fun x2=>
 bif !x2 then some (.inr (.inr (s0,(12:Int))))
 else
 Option.bind
 (run
 (fun s3=>
 bif decide (s3<s0) then
 (idx a0 s3).bind fun x4=>
 (idx a0 s0).bind fun x5=>
 bif decide (x4.1=x5.1) then some (.inr (.inr (s0,(6:Int)))) else some (.inl (IntKind.wrap .i64 (s3+(1:Int))))
 else some (.inr (.inl ())))
 (0:Int))
 fun x6=>
 Sum.elim
 (fun _=>
 (idx a0 s0).bind fun x8=>
 (F62 x8.2.1 (0:Int) (7:Int)).bind fun x9=>
 bif !x9 then some (.inr (.inr (s0,(2:Int)))) else some (.inl (IntKind.wrap .i64 (s0+(1:Int)))))
 (fun y10=>some (.inr (.inr (y10.1,y10.2)))) x6
 else some (.inr (.inl ())))
 (0:Int))
 fun x11=>Sum.elim (fun _=>some ((0:Int),(0:Int))) (fun y13=>some (y13.1,y13.2)) x11
abbrev F66A:Zao:=(.cons (.pd Y23) .nil)
abbrev F66R:Zao:=(.cons (.pd Y3) (.cons (.pd Y37) .nil))
def F66S:Tr.Spec:= {args:=F66A,res:=F66R,fns:=[],α:=El Y3×El Y37,f:=fun x=>F66 x.1,unp:=fun z=>(((),()),(z.1,z.2,())) }
def F66M:List (Nat×List Tr.Spec):=[(119,[F61S]),(120,[F62S])]
def F66H:ZaW:=(.seq .leaf (.seq .leaf (.seq (.seq .leaf (.lp ⟨[(4,(.pd Y3))],[],[0],[],[],[]⟩ [((.exit 0),⟨[],[],[],[],[],[]⟩),(.ret,⟨[(2,(.pd Y3)),(3,(.pd Y37))],[],[],[],[],[]⟩)] (.seq .leaf (.seq (.seq .leaf (.seq (.seq .leaf (.lp ⟨[(5,(.pd Y3))],[],[0,4],[],[],[]⟩ [((.exit 2),⟨[],[],[0,4],[],[],[]⟩),(.ret,⟨[(2,(.pd Y3)),(3,(.pd Y37))],[],[],[],[],[]⟩)] .leaf)) .leaf)) .leaf)))) .leaf)))
def F66V (a0:El Y23):Option (El Y3×El Y37):=Zaz (mkE tyTab mapTab pkTab [] [] F66M 48 bdTab) (Zam Tryz.f87) Tryz.f87.results F66H F66A F66R (fun y=>(y.2.1,y.2.2.1)) (a0,())
theorem F66_eq (a0:El Y23):F66V a0=F66 a0:=by kernel_rfl
theorem F66_ok:ZaV Tryz.prog 87 F66S:=Zag (m:=F66M) (fn:=Tryz.f87) (hint:=F66H) (pack:=fun y=>(y.2.1,y.2.2.1)) Za4 tab_ok ⟨⟨F61_ok,trivial⟩,⟨F62_ok,trivial⟩,trivial⟩ fun x z h=>(F66_eq x.1).trans h
def F55: (El Y82)→(El Y3)→(El Y3)→(El Y3)→Option (El Y37):=fun a0 a1 a2 a3=>
 Option.bind (bif decide ((↑(List.length a0):Int)< (2:Int)) then some true else some (decide ((32:Int)< (↑(List.length a0):Int)))) fun x0=>
 bif x0 then some (5:Int)
 else
 Option.bind
 (run
 (fun s1=>
 bif decide (s1< (↑(List.length a0):Int)) then
 (idx a0 s1).bind fun x2=>
 Option.bind (bif decide (x2.1< (0:Int)) then some true else some (decide (a1≤x2.1))) fun x3=>
 bif x3 then some (.inr (.inr (9:Int)))
 else
 Option.bind
 (bif decide ((0:Int)<s1) then (idx a0 (IntKind.wrap .i64 (s1 - (1:Int)))).bind fun x4=>some (decide (x4.1=x2.1))
 else some false)
 fun x5=>
 bif x5 then some (.inr (.inr (13:Int)))
 else
 Option.bind
 (bif decide (x2.2.1<a2) then some true
 else
 bif decide (x2.2.2.1<x2.2.1) then some true
 else
 bif decide (a3<x2.2.2.1) then some true
 else
 bif decide ((0:Int)<s1) then
 (idx a0 (IntKind.wrap .i64 (s1 - (1:Int)))).bind fun x6=>some (decide (x2.2.1<x6.2.2.1))
 else some false)
 fun x7=>bif x7 then some (.inr (.inr (10:Int))) else some (.inl (IntKind.wrap .i64 (s1+(1:Int))))
 else some (.inr (.inl ())))
 (0:Int))
 fun x8=>Sum.elim (fun _=>some (0:Int)) (fun y10=>some y10) x8
abbrev F55A:Zao:=(.cons (.pd Y82) (.cons (.pd Y3) (.cons (.pd Y3) (.cons (.pd Y3) .nil))))
abbrev F55R:Zao:=(.cons (.pd Y37) .nil)
def F55S:Tr.Spec:= {args:=F55A,res:=F55R,fns:=[],α:=El Y37,f:=fun x=>F55 x.1 x.2.1 x.2.2.1 x.2.2.2.1,unp:=fun z=>(((),(),(),(),()),(z,())) }
def F55M:List (Nat×List Tr.Spec):=[]
def F55H:ZaW:=(.seq .leaf (.seq (.seq (.reg [(18,Y4)]) .leaf) (.seq (.seq .leaf (.lp ⟨[(9,(.pd Y3))],[],[0,1,2,3],[],[],[]⟩ [((.exit 0),⟨[],[],[],[],[],[]⟩),(.ret,⟨[(8,(.pd Y37))],[],[],[],[],[]⟩)] (.seq .leaf (.seq (.seq .leaf (.seq (.seq (.reg [(37,Y4)]) .leaf) (.seq (.seq (.reg [(50,Y4)]) .leaf) (.seq (.reg [(82,Y4)]) .leaf)))) .leaf)))) .leaf)))
def F55V (a0:El Y82) (a1:El Y3) (a2:El Y3) (a3:El Y3):Option (El Y37):=Zaz (mkE tyTab mapTab pkTab [] [] F55M 83 bdTab) (Zam Tryz.f121) Tryz.f121.results F55H F55A F55R (fun y=>y.2.1) (a0,a1,a2,a3,())
theorem F55_eq (a0:El Y82) (a1:El Y3) (a2:El Y3) (a3:El Y3):F55V a0 a1 a2 a3=F55 a0 a1 a2 a3:=by kernel_rfl
theorem F55_ok:ZaV Tryz.prog 121 F55S:=Zag (m:=F55M) (fn:=Tryz.f121) (hint:=F55H) (pack:=fun y=>y.2.1) Za4 tab_ok trivial fun x z h=>(F55_eq x.1 x.2.1 x.2.2.1 x.2.2.2.1).trans h
def F67: (El Y31)→(El Y3)→Option (El Y37):=fun a0 a1=>
 (idx a0.2.2.1 a1).bind fun x0=>
 (F61 x0.2.2.2.1).bind fun x1=>
 bif !x1 then some (12:Int)
 else
 Option.bind (bif decide (x0.1< (-1:Int)) then some true else some (decide (x0.2.2.1< (0:Int)))) fun x2=>
 bif x2 then some (2:Int)
 else
 (F62 x0.2.1 (0:Int) (36524:Int)).bind fun x3=>
 bif !x3 then some (11:Int)
 else
 Option.bind
 (bif decide (x0.2.2.2.2.1< (0:Int)) then some true
 else some (decide ((↑(List.length a0.2.1):Int)≤x0.2.2.2.2.1)))
 fun x4=>
 bif x4 then some (9:Int)
 else
 (F55 x0.2.2.2.2.2.2.2.1 (↑(List.length a0.1):Int) (0:Int) (3155932800:Int)).bind fun x5=>
 bif !decide (x5=(0:Int)) then some x5
 else
 Option.bind
 (run
 (fun s6=>
 bif decide (s6<a1) then
 (idx a0.2.2.1 s6).bind fun x7=>
 Option.bind
 (bif decide (x7.2.2.2.1=x0.2.2.2.1) then
 bif decide (x7.2.1=x0.2.1) then some (decide (x7.2.2.1=x0.2.2.1)) else some false
 else some false)
 fun x8=>bif x8 then some (.inr (.inr (6:Int))) else some (.inl (IntKind.wrap .i64 (s6+(1:Int))))
 else some (.inr (.inl ())))
 (0:Int))
 fun x9=>Sum.elim (fun _=>some (0:Int)) (fun y11=>some y11) x9
abbrev F67A:Zao:=(.cons (.pd Y31) (.cons (.pd Y3) .nil))
abbrev F67R:Zao:=(.cons (.pd Y37) .nil)
def F67S:Tr.Spec:= {args:=F67A,res:=F67R,fns:=[],α:=El Y37,f:=fun x=>F67 x.1 x.2.1,unp:=fun z=>(((),(),()),(z,())) }
def F67M:List (Nat×List Tr.Spec):=[(119,[F61S]),(120,[F62S]),(121,[F55S])]
def F67H:ZaW:=(.seq .leaf (.seq .leaf (.seq .leaf (.seq (.seq (.reg [(25,Y4)]) .leaf) (.seq .leaf (.seq (.seq (.reg [(40,Y4)]) .leaf) (.seq .leaf (.seq .leaf (.seq (.seq .leaf (.lp ⟨[(7,(.pd Y3))],[],[1,2,5],[],[],[]⟩ [((.exit 0),⟨[],[],[],[],[],[]⟩),(.ret,⟨[(4,(.pd Y37))],[],[],[],[],[]⟩)] (.seq .leaf (.seq (.seq .leaf (.seq (.reg [(78,Y4)]) .leaf)) .leaf)))) .leaf)))))))))
def F67V (a0:El Y31) (a1:El Y3):Option (El Y37):=Zaz (mkE tyTab mapTab pkTab [] [] F67M 79 bdTab) (Zam Tryz.f88) Tryz.f88.results F67H F67A F67R (fun y=>y.2.1) (a0,a1,())
theorem F67_eq (a0:El Y31) (a1:El Y3):F67V a0 a1=F67 a0 a1:=by kernel_rfl
theorem F67_ok:ZaV Tryz.prog 88 F67S:=Zag (m:=F67M) (fn:=Tryz.f88) (hint:=F67H) (pack:=fun y=>y.2.1) Za4 tab_ok ⟨⟨F61_ok,trivial⟩,⟨F62_ok,trivial⟩,⟨F55_ok,trivial⟩,trivial⟩ fun x z h=>(F67_eq x.1 x.2.1).trans h
def F63: (El Y31)→(El Y3)→(El Y3)→(El Y3)→Option (El Y4):=fun a0 a1 a2 a3=>
 Option.bind
 (run
 (fun s0=>
 bif decide (s0.2≤a1) then
 Option.bind
 (run
 (fun s1=>
 bif decide (s1.2<a1) then
 Option.bind
 ((idx a0.2.2.2.1 s1.2).bind fun x2=>
 bif x2.2.2.2.2.1 then (idx a0.2.2.2.1 s1.2).bind fun x3=>some (decide (x3.1=s0.1)) else some false)
 fun x4=>
 bif x4 then (idx a0.2.2.2.1 s1.2).bind fun x5=>some (.inl (x5.2.2.1,IntKind.wrap .i64 (s1.2+(1:Int))))
 else some (.inl (s1.1,IntKind.wrap .i64 (s1.2+(1:Int))))
 else some (.inr s1.1))
 ((-1:Int),(0:Int)))
 fun x6=>bif decide (x6=a3) then some (.inr (.inr true)) else some (.inl (x6,IntKind.wrap .i64 (s0.2+(1:Int))))
 else some (.inr (.inl ())))
 (a2,(0:Int)))
 fun x7=>Sum.elim (fun _=>some false) (fun y9=>some y9) x7
abbrev F63A:Zao:=(.cons (.pd Y31) (.cons (.pd Y3) (.cons (.pd Y3) (.cons (.pd Y3) .nil))))
abbrev F63R:Zao:=(.cons (.pd Y4) .nil)
def F63S:Tr.Spec:= {args:=F63A,res:=F63R,fns:=[],α:=El Y4,f:=fun x=>F63 x.1 x.2.1 x.2.2.1 x.2.2.2.1,unp:=fun z=>(((),(),(),(),()),(z,())) }
def F63M:List (Nat×List Tr.Spec):=[]
def F63H:ZaW:=(.seq .leaf (.seq (.seq .leaf (.lp ⟨[(2,(.pd Y3)),(9,(.pd Y3))],[],[1,3,4],[],[],[]⟩ [((.exit 0),⟨[],[],[],[],[],[]⟩),(.ret,⟨[(8,(.pd Y4))],[],[],[],[],[]⟩)] (.seq .leaf (.seq (.seq .leaf (.seq (.seq .leaf (.lp ⟨[(10,(.pd Y3)),(11,(.pd Y3))],[],[1,2,3,4,9],[],[],[]⟩ [((.exit 2),⟨[(10,(.pd Y3))],[],[1,3,4,9],[],[],[]⟩)] (.seq .leaf (.seq (.seq (.reg [(37,Y4)]) .leaf) .leaf)))) .leaf)) .leaf)))) .leaf))
def F63V (a0:El Y31) (a1:El Y3) (a2:El Y3) (a3:El Y3):Option (El Y4):=Zaz (mkE tyTab mapTab pkTab [] [] F63M 48 bdTab) (Zam Tryz.f122) Tryz.f122.results F63H F63A F63R (fun y=>y.2.1) (a0,a1,a2,a3,())
theorem F63_eq (a0:El Y31) (a1:El Y3) (a2:El Y3) (a3:El Y3):F63V a0 a1 a2 a3=F63 a0 a1 a2 a3:=by kernel_rfl
theorem F63_ok:ZaV Tryz.prog 122 F63S:=Zag (m:=F63M) (fn:=Tryz.f122) (hint:=F63H) (pack:=fun y=>y.2.1) Za4 tab_ok trivial fun x z h=>(F63_eq x.1 x.2.1 x.2.2.1 x.2.2.2.1).trans h
def F64: (El Y31)→(El Y3)→Option (El Y37):=fun a0 a1=>
 (idx a0.2.2.2.1 a1).bind fun x0=>
 Option.bind
 ((F62 x0.1 (0:Int) (IntKind.wrap .i64 ((↑(List.length a0.2.2.1):Int) - (1:Int)))).bind fun x1=>
 bif !x1 then some true
 else
 (F62 x0.2.2.1 (0:Int) (IntKind.wrap .i64 ((↑(List.length a0.2.2.1):Int) - (1:Int)))).bind fun x2=>
 bif !x2 then some true else some (decide (x0.1=x0.2.2.1)))
 fun x3=>
 bif x3 then some (9:Int)
 else
 (idx a0.2.2.1 x0.1).bind fun x4=>
 (idx a0.2.2.1 x0.2.2.1).bind fun x5=>
 Option.bind
 ((F62 x0.2.1 (0:Int) (IntKind.wrap .i64 ((↑(List.length x4.2.2.2.2.2.2.2.1):Int) - (1:Int)))).bind fun x6=>
 bif !x6 then some true
 else
 (F62 x0.2.2.2.1 (0:Int) (IntKind.wrap .i64 ((↑(List.length x5.2.2.2.2.2.2.2.1):Int) - (1:Int)))).bind fun x7=>
 some !x7)
 fun x8=>
 bif x8 then some (9:Int)
 else
 (idx x4.2.2.2.2.2.2.2.1 x0.2.1).bind fun x9=>
 (idx x5.2.2.2.2.2.2.2.1 x0.2.2.2.1).bind fun x10=>
 bif !decide (x9.1=x10.1) then some (13:Int)
 else
 Option.bind
 (bif x0.2.2.2.2.1 then
 bif !decide (x0.2.1=IntKind.wrap .i64 ((↑(List.length x4.2.2.2.2.2.2.2.1):Int) - (1:Int))) then some true
 else some !decide (x0.2.2.2.1=(0:Int))
 else some false)
 fun x11=>
 bif x11 then some (19:Int)
 else
 Option.bind
 (run
 (fun s12=>
 bif decide (s12<a1) then
 (idx a0.2.2.2.1 s12).bind fun x13=>
 Option.bind
 (bif x0.2.2.2.2.1 then
 bif x13.2.2.2.2.1 then
 bif decide (x13.1=x0.1) then some true else some (decide (x13.2.2.1=x0.2.2.1))
 else some false
 else some false)
 fun x14=>bif x14 then some (.inr (.inr (19:Int))) else some (.inl (IntKind.wrap .i64 (s12+(1:Int))))
 else some (.inr (.inl ())))
 (0:Int))
 fun x15=>
 Sum.elim
 (fun _=>
 Option.bind (bif x0.2.2.2.2.1 then (F63 a0 a1 x0.2.2.1 x0.1).bind fun x17=>some x17 else some false) fun x18=>
 bif x18 then some (19:Int)
 else
 Option.bind
 (run
 (fun s19=>
 bif decide (s19<a1) then
 (idx a0.2.2.2.1 s19).bind fun x20=>
 Option.bind
 (bif decide (x20.1=x0.1) then
 bif decide (x20.2.1=x0.2.1) then
 bif decide (x20.2.2.1=x0.2.2.1) then some (decide (x20.2.2.2.1=x0.2.2.2.1))
 else some false
 else some false
 else some false)
 fun x21=>bif x21 then some (.inr (.inr (6:Int))) else some (.inl (IntKind.wrap .i64 (s19+(1:Int))))
 else some (.inr (.inl ())))
 (0:Int))
 fun x22=>Sum.elim (fun _=>some (0:Int)) (fun y24=>some y24) x22)
 (fun y25=>some y25) x15
abbrev F64A:Zao:=(.cons (.pd Y31) (.cons (.pd Y3) .nil))
abbrev F64R:Zao:=(.cons (.pd Y37) .nil)
def F64S:Tr.Spec:= {args:=F64A,res:=F64R,fns:=[],α:=El Y37,f:=fun x=>F64 x.1 x.2.1,unp:=fun z=>(((),(),()),(z,())) }
def F64M:List (Nat×List Tr.Spec):=[(120,[F62S]),(122,[F63S])]
def F64H:ZaW:=(.seq .leaf (.seq .leaf (.seq (.seq (.reg [(41,Y4)]) .leaf) (.seq .leaf (.seq (.seq (.reg [(71,Y4)]) .leaf) (.seq .leaf (.seq (.seq (.reg [(99,Y4)]) .leaf) (.seq (.seq .leaf (.lp ⟨[(8,(.pd Y3))],[],[1,2,5],[],[],[]⟩ [((.exit 0),⟨[],[],[1,2,5],[],[],[]⟩),(.ret,⟨[(4,(.pd Y37))],[],[],[],[],[]⟩)] (.seq .leaf (.seq (.seq .leaf (.seq (.reg [(129,Y4)]) .leaf)) .leaf)))) (.seq (.seq (.reg [(140,Y4)]) .leaf) (.seq (.seq .leaf (.lp ⟨[(10,(.pd Y3))],[],[1,2,5],[],[],[]⟩ [((.exit 2),⟨[],[],[],[],[],[]⟩),(.ret,⟨[(4,(.pd Y37))],[],[],[],[],[]⟩)] (.seq .leaf (.seq (.seq .leaf (.seq (.reg [(176,Y4)]) .leaf)) .leaf)))) .leaf))))))))))
def F64V (a0:El Y31) (a1:El Y3):Option (El Y37):=Zaz (mkE tyTab mapTab pkTab [] [] F64M 177 bdTab) (Zam Tryz.f89) Tryz.f89.results F64H F64A F64R (fun y=>y.2.1) (a0,a1,())
theorem F64_eq (a0:El Y31) (a1:El Y3):F64V a0 a1=F64 a0 a1:=by kernel_rfl
theorem F64_ok:ZaV Tryz.prog 89 F64S:=Zag (m:=F64M) (fn:=Tryz.f89) (hint:=F64H) (pack:=fun y=>y.2.1) Za4 tab_ok ⟨⟨F62_ok,trivial⟩,⟨F63_ok,trivial⟩,trivial⟩ fun x z h=>(F64_eq x.1 x.2.1).trans h
def F59: (El Y26)→(El Y3)→(El Y4)→Option (El Y69):=fun a0 a1 a2=>
 Option.bind
 (run
 (fun s0=>
 bif decide (s0.2<a1) then
 Option.bind
 (run
 (fun s1=>
 bif decide (s1.2.2<a1) then
 Option.bind (Zaq (decide (List.length s1.2.1+List.length [(1099511627776:Int)]≤Zas))) fun _=>
 some (.inl (s1.1,s1.2.1++[(1099511627776:Int)],IntKind.wrap .i64 (s1.2.2+(1:Int))))
 else some (.inr (s1.1,s1.2.1)))
 (s0.1,[],(0:Int)))
 fun x3=>
 Option.bind (Zaq (decide (List.length x3.1+List.length [x3.2]≤Zas))) fun _=>
 some (.inl (x3.1++[x3.2],IntKind.wrap .i64 (s0.2+(1:Int))))
 else some (.inr s0.1))
 ([],(0:Int)))
 fun x5=>
 Option.bind
 (run
 (fun s6=>
 bif decide (s6.2< (↑(List.length a0):Int)) then
 (idx a0 s6.2).bind fun x7=>
 Option.bind (bif x7.2.2.2.1 then some true else some !a2) fun x8=>
 bif x8 then
 (inb x7.1 (List.length s6.1)).bind fun x9=>
 Option.bind s6.1[x9]? fun _=>
 (inb x7.1 (List.length s6.1)).bind fun x11=>
 Option.bind s6.1[x11]? fun _=>
 (idx s6.1 (↑x11:Int)).bind fun x13=>
 (inb x7.2.1 (List.length x13)).bind fun x14=>
 (idx s6.1 (↑x11:Int)).bind fun x15=>
 Option.bind x15[x14]? fun x16=>
 (idx s6.1 (↑x9:Int)).bind fun x17=>
 (inb x7.2.1 (List.length x17)).bind fun x18=>
 (idx s6.1 (↑x9:Int)).bind fun x19=>
 Option.bind x19[x18]? fun _=>
 some
 (.inl (List.set s6.1 (Int.toNat (↑x9:Int)) (List.set x19 x18 (Tr.imin x16 x7.2.2.1)),IntKind.wrap .i64 (s6.2+(1:Int))))
 else some (.inl (s6.1,IntKind.wrap .i64 (s6.2+(1:Int))))
 else some (.inr s6.1))
 (x5,(0:Int)))
 fun x21=>
 Option.bind
 (run
 (fun s22=>
 bif decide (s22.2<a1) then
 Option.bind
 (run
 (fun s23=>
 bif decide (s23.2<a1) then
 Option.bind
 (run
 (fun s24=>
 bif decide (s24.2<a1) then
 (inb s23.2 (List.length s24.1)).bind fun x25=>
 Option.bind s24.1[x25]? fun _=>
 (inb s23.2 (List.length s24.1)).bind fun x27=>
 Option.bind s24.1[x27]? fun _=>
 (idx s24.1 (↑x27:Int)).bind fun x29=>
 (inb s24.2 (List.length x29)).bind fun x30=>
 (idx s24.1 (↑x27:Int)).bind fun x31=>
 Option.bind x31[x30]? fun x32=>
 (inb s23.2 (List.length s24.1)).bind fun x33=>
 Option.bind s24.1[x33]? fun _=>
 (idx s24.1 (↑x33:Int)).bind fun x35=>
 (inb s22.2 (List.length x35)).bind fun x36=>
 (idx s24.1 (↑x33:Int)).bind fun x37=>
 Option.bind x37[x36]? fun x38=>
 (inb s22.2 (List.length s24.1)).bind fun x39=>
 Option.bind s24.1[x39]? fun _=>
 (idx s24.1 (↑x39:Int)).bind fun x41=>
 (inb s24.2 (List.length x41)).bind fun x42=>
 (idx s24.1 (↑x39:Int)).bind fun x43=>
 Option.bind x43[x42]? fun x44=>
 (idx s24.1 (↑x25:Int)).bind fun x45=>
 (inb s24.2 (List.length x45)).bind fun x46=>
 (idx s24.1 (↑x25:Int)).bind fun x47=>
 Option.bind x47[x46]? fun _=>
 some
 (.inl
 (List.set s24.1 (Int.toNat (↑x25:Int))
 (List.set x47 x46 (Tr.imin x32 (IntKind.wrap .i64 (x38+x44)))),
 IntKind.wrap .i64 (s24.2+(1:Int))))
 else some (.inr s24.1))
 (s23.1,(0:Int)))
 fun x49=>some (.inl (x49,IntKind.wrap .i64 (s23.2+(1:Int))))
 else some (.inr s23.1))
 (s22.1,(0:Int)))
 fun x50=>some (.inl (x50,IntKind.wrap .i64 (s22.2+(1:Int))))
 else some (.inr s22.1))
 (x21,(0:Int)))
 fun x51=>some x51
abbrev F59A:Zao:=(.cons (.pd Y26) (.cons (.pd Y3) (.cons (.pd Y4) .nil)))
abbrev F59R:Zao:=(.cons (.pd Y69) .nil)
def F59S:Tr.Spec:= {args:=F59A,res:=F59R,fns:=[],α:=El Y69,f:=fun x=>F59 x.1 x.2.1 x.2.2.1,unp:=fun z=>(((),(),(),()),(z,())) }
def F59M:List (Nat×List Tr.Spec):=[]
def F59H:ZaW:=(.seq .leaf (.seq .leaf (.seq (.seq .leaf (.lp ⟨[(7,(.rows Y3 false)),(8,(.pd Y3))],[],[0,1,2],[],[],[]⟩ [((.exit 0),⟨[(7,(.rows Y3 false))],[],[0,1,2],[],[],[]⟩)] (.seq .leaf (.seq (.seq .leaf (.seq (.seq .leaf (.lp ⟨[(7,(.rows Y3 false)),(9,(.own Y3 false)),(10,(.pd Y3))],[],[0,1,2,8],[],[],[]⟩ [((.exit 2),⟨[(7,(.rows Y3 false)),(9,(.own Y3 false))],[],[0,1,2,8],[],[],[]⟩)] .leaf)) .leaf)) .leaf)))) (.seq (.seq .leaf (.lp ⟨[(7,(.rows Y3 false)),(11,(.pd Y3))],[],[0,1,2],[],[],[]⟩ [((.exit 4),⟨[(7,(.rows Y3 false))],[],[1],[],[],[]⟩)] (.seq .leaf (.seq (.seq .leaf (.seq (.reg [(50,Y4)]) .leaf)) .leaf)))) (.seq (.seq .leaf (.lp ⟨[(7,(.rows Y3 false)),(13,(.pd Y3))],[],[1],[],[],[]⟩ [((.exit 6),⟨[(7,(.rows Y3 false))],[],[],[],[],[]⟩)] (.seq .leaf (.seq (.seq .leaf (.lp ⟨[(7,(.rows Y3 false)),(14,(.pd Y3))],[],[1,13],[],[],[]⟩ [((.exit 8),⟨[(7,(.rows Y3 false))],[],[1,13],[],[],[]⟩)] (.seq .leaf (.seq (.seq .leaf (.lp ⟨[(7,(.rows Y3 false)),(15,(.pd Y3))],[],[1,13,14],[],[],[]⟩ [((.exit 10),⟨[(7,(.rows Y3 false))],[],[1,13,14],[],[],[]⟩)] .leaf)) .leaf)))) .leaf)))) .leaf)))))
def F59V (a0:El Y26) (a1:El Y3) (a2:El Y4):Option (El Y69):=Zaz (mkE tyTab mapTab pkTab [69] [] F59M 116 bdTab) (Zam Tryz.f143) Tryz.f143.results F59H F59A F59R (fun y=>y.2.1) (a0,a1,a2,())
theorem F59_eq (a0:El Y26) (a1:El Y3) (a2:El Y4):F59V a0 a1 a2=F59 a0 a1 a2:=by kernel_rfl
theorem F59_ok:ZaV Tryz.prog 143 F59S:=Zag (m:=F59M) (fn:=Tryz.f143) (hint:=F59H) (pack:=fun y=>y.2.1) Za4 tab_ok trivial fun x z h=>(F59_eq x.1 x.2.1 x.2.2.1).trans h
def F57: (El Y26)→(El Y3)→Option (El Y26):=fun a0 a1=>
 (F59 a0 a1 false).bind fun x0=>
 (F59 a0 a1 true).bind fun x1=>
 Option.bind
 (run
 (fun s2=>
 bif decide (s2.2<a1) then
 Option.bind
 (run
 (fun s3=>
 bif decide (s3.2<a1) then
 Option.bind
 (bif decide (s2.2=s3.2) then some true
 else (idx x0 s2.2).bind fun x4=>(idx x4 s3.2).bind fun x5=>some (decide ((14400:Int)<x5)))
 fun x6=>
 bif x6 then some (.inl (s3.1,IntKind.wrap .i64 (s3.2+(1:Int))))
 else
 (idx x0 s2.2).bind fun x7=>
 (idx x7 s3.2).bind fun x8=>
 (idx x1 s2.2).bind fun x9=>
 (idx x9 s3.2).bind fun x10=>
 (idx x0 s2.2).bind fun x11=>
 (idx x11 s3.2).bind fun x12=>
 Option.bind (Zaq (decide (List.length s3.1+List.length [(s2.2,s3.2,x8,decide (x10=x12),())]≤Zas))) fun _=>
 Option.bind
 ((idx x1 s2.2).bind fun x14=>
 (idx x14 s3.2).bind fun x15=>
 (idx x0 s2.2).bind fun x16=>
 (idx x16 s3.2).bind fun x17=>
 bif decide (x17<x15) then
 (idx x1 s2.2).bind fun x18=>(idx x18 s3.2).bind fun x19=>some (decide (x19≤(14400:Int)))
 else some false)
 fun x20=>
 bif x20 then
 (idx x1 s2.2).bind fun x21=>
 (idx x21 s3.2).bind fun x22=>
 Option.bind
 (Zaq
 (decide
 (List.length (s3.1++[(s2.2,s3.2,x8,decide (x10=x12),())])+List.length [(s2.2,s3.2,x22,true,())]≤
 Zas)))
 fun _=>
 some
 (.inl
 (s3.1++[(s2.2,s3.2,x8,decide (x10=x12),())]++[(s2.2,s3.2,x22,true,())],
 IntKind.wrap .i64 (s3.2+(1:Int))))
 else some (.inl (s3.1++[(s2.2,s3.2,x8,decide (x10=x12),())],IntKind.wrap .i64 (s3.2+(1:Int))))
 else some (.inr s3.1))
 (s2.1,(0:Int)))
 fun x24=>some (.inl (x24,IntKind.wrap .i64 (s2.2+(1:Int))))
 else some (.inr s2.1))
 ([],(0:Int)))
 fun x25=>some x25
abbrev F57A:Zao:=(.cons (.pd Y26) (.cons (.pd Y3) .nil))
abbrev F57R:Zao:=(.cons (.pd Y26) .nil)
def F57S:Tr.Spec:= {args:=F57A,res:=F57R,fns:=[],α:=El Y26,f:=fun x=>F57 x.1 x.2.1,unp:=fun z=>(((),(),()),(z,())) }
def F57M:List (Nat×List Tr.Spec):=[(143,[F59S])]
def F57H:ZaW:=(.seq .leaf (.seq .leaf (.seq .leaf (.seq (.seq .leaf (.lp ⟨[(7,(.own Y59 false)),(8,(.pd Y3))],[],[1,5,6],[],[],[]⟩ [((.exit 0),⟨[(7,(.own Y59 false))],[],[],[],[],[]⟩)] (.seq .leaf (.seq (.seq .leaf (.lp ⟨[(7,(.own Y59 false)),(9,(.pd Y3))],[],[1,5,6,8],[],[],[]⟩ [((.exit 2),⟨[(7,(.own Y59 false))],[],[1,5,6,8],[],[],[]⟩)] (.seq .leaf (.seq (.seq (.seq (.reg [(39,Y4)]) .leaf) (.seq .leaf (.seq (.reg [(92,Y4)]) .leaf))) .leaf)))) .leaf)))) .leaf))))
def F57V (a0:El Y26) (a1:El Y3):Option (El Y26):=Zaz (mkE tyTab mapTab pkTab [] [] F57M 107 bdTab) (Zam Tryz.f123) Tryz.f123.results F57H F57A F57R (fun y=>y.2.1) (a0,a1,())
theorem F57_eq (a0:El Y26) (a1:El Y3):F57V a0 a1=F57 a0 a1:=by kernel_rfl
theorem F57_ok:ZaV Tryz.prog 123 F57S:=Zag (m:=F57M) (fn:=Tryz.f123) (hint:=F57H) (pack:=fun y=>y.2.1) Za4 tab_ok ⟨⟨F59_ok,trivial⟩,trivial⟩ fun x z h=>(F57_eq x.1 x.2.1).trans h
def F65: (El Y31)→Option (El Y3×El Y37):=fun a0=>
 Option.bind
 (run
 (fun s0=>
 bif decide (s0< (↑(List.length a0.2.2.2.2.1):Int)) then
 (idx a0.2.2.2.2.1 s0).bind fun x1=>
 Option.bind
 ((F62 x1.1 (0:Int) (IntKind.wrap .i64 ((↑(List.length a0.1):Int) - (1:Int)))).bind fun x2=>
 bif !x2 then some true
 else
 (F62 x1.2.1 (0:Int) (IntKind.wrap .i64 ((↑(List.length a0.1):Int) - (1:Int)))).bind fun x3=>
 bif !x3 then some true else some (decide (x1.1=x1.2.1)))
 fun x4=>
 bif x4 then some (.inr (.inr (s0,(9:Int))))
 else
 (F62 x1.2.2.1 (1:Int) (14400:Int)).bind fun x5=>
 bif !x5 then some (.inr (.inr (s0,(2:Int))))
 else
 Option.bind
 (run
 (fun s6=>
 bif decide (s6<s0) then
 (idx a0.2.2.2.2.1 s6).bind fun x7=>
 Option.bind
 (bif decide (x7.1=x1.1) then
 bif decide (x7.2.1=x1.2.1) then some (x7.2.2.2.1==x1.2.2.2.1) else some false
 else some false)
 fun x8=>bif x8 then some (.inr (.inr (s0,(6:Int)))) else some (.inl (IntKind.wrap .i64 (s6+(1:Int))))
 else some (.inr (.inl ())))
 (0:Int))
 fun x9=>Sum.elim (fun _=>some (.inl (IntKind.wrap .i64 (s0+(1:Int))))) (fun y11=>some (.inr (.inr (y11.1,y11.2)))) x9
 else some (.inr (.inl ())))
 (0:Int))
 fun x12=>
 Sum.elim
 (fun _=>
 (F57 a0.2.2.2.2.1 (↑(List.length a0.1):Int)).bind fun x14=>
 bif !decide ((↑(List.length x14):Int)=(↑(List.length a0.2.2.2.2.1):Int)) then some ((0:Int),(18:Int))
 else
 Option.bind
 (run
 (fun s15=>
 bif decide (s15< (↑(List.length x14):Int)) then
 (idx x14 s15).bind fun x16=>
 (idx a0.2.2.2.2.1 s15).bind fun x17=>
 bif
 !(decide (x16.1=x17.1) &&
 (decide (x16.2.1=x17.2.1) && (decide (x16.2.2.1=x17.2.2.1) &&x16.2.2.2.1==x17.2.2.2.1))) then
 some (.inr (.inr ((0:Int),(18:Int))))
 else some (.inl (IntKind.wrap .i64 (s15+(1:Int))))
 else some (.inr (.inl ())))
 (0:Int))
 fun x18=>Sum.elim (fun _=>some ((0:Int),(0:Int))) (fun y20=>some (y20.1,y20.2)) x18)
 (fun y21=>some (y21.1,y21.2)) x12
abbrev F65A:Zao:=(.cons (.pd Y31) .nil)
abbrev F65R:Zao:=(.cons (.pd Y3) (.cons (.pd Y37) .nil))
def F65S:Tr.Spec:= {args:=F65A,res:=F65R,fns:=[],α:=El Y3×El Y37,f:=fun x=>F65 x.1,unp:=fun z=>(((),()),(z.1,z.2,())) }
def F65M:List (Nat×List Tr.Spec):=[(120,[F62S]),(123,[F57S])]
def F65H:ZaW:=(.seq .leaf (.seq (.seq .leaf (.lp ⟨[(4,(.pd Y3))],[],[1],[],[],[]⟩ [((.exit 0),⟨[],[],[1],[],[],[]⟩),(.ret,⟨[(2,(.pd Y3)),(3,(.pd Y37))],[],[],[],[],[]⟩)] (.seq .leaf (.seq (.seq .leaf (.seq (.seq (.reg [(46,Y4)]) .leaf) (.seq .leaf (.seq .leaf (.lp ⟨[(6,(.pd Y3))],[],[1,4,5],[],[],[]⟩ [((.exit 2),⟨[],[],[1,4],[],[],[]⟩),(.ret,⟨[(2,(.pd Y3)),(3,(.pd Y37))],[],[],[],[],[]⟩)] (.seq .leaf (.seq (.seq .leaf (.seq (.reg [(81,Y4)]) .leaf)) .leaf))))))) .leaf)))) (.seq .leaf (.seq .leaf (.seq (.seq .leaf (.lp ⟨[(9,(.pd Y3))],[],[1,8],[],[],[]⟩ [((.exit 4),⟨[],[],[],[],[],[]⟩),(.ret,⟨[(2,(.pd Y3)),(3,(.pd Y37))],[],[],[],[],[]⟩)] .leaf)) .leaf)))))
def F65V (a0:El Y31):Option (El Y3×El Y37):=Zaz (mkE tyTab mapTab pkTab [] [] F65M 111 bdTab) (Zam Tryz.f90) Tryz.f90.results F65H F65A F65R (fun y=>(y.2.1,y.2.2.1)) (a0,())
theorem F65_eq (a0:El Y31):F65V a0=F65 a0:=by kernel_rfl
theorem F65_ok:ZaV Tryz.prog 90 F65S:=Zag (m:=F65M) (fn:=Tryz.f90) (hint:=F65H) (pack:=fun y=>(y.2.1,y.2.2.1)) Za4 tab_ok ⟨⟨F62_ok,trivial⟩,⟨F57_ok,trivial⟩,trivial⟩ fun x z h=>(F65_eq x.1).trans h
def F58: (El Y29)→Option (El Y3×El Y37):=fun a0=>
 Option.bind
 ((F62 a0.2.1 (0:Int) (1000000:Int)).bind fun x0=>
 bif !x0 then some true
 else
 (F62 a0.2.2.1 (0:Int) (86400:Int)).bind fun x1=>
 bif !x1 then some true else (F62 a0.2.2.2.1 (0:Int) (1000000:Int)).bind fun x2=>some !x2)
 fun x3=>
 bif x3 then some ((-1:Int),(2:Int))
 else
 bif decide ((16:Int)< (↑(List.length a0.1):Int)) then some ((0:Int),(5:Int))
 else
 Option.bind
 (run
 (fun s4=>
 bif decide (s4< (↑(List.length a0.1):Int)) then
 (idx a0.1 s4).bind fun x5=>
 (F61 x5.1).bind fun x6=>
 bif !x6 then some (.inr (.inr (s4,(12:Int))))
 else
 Option.bind
 (run
 (fun s7=>
 bif decide (s7<s4) then
 (idx a0.1 s7).bind fun x8=>
 bif decide (x8.1=x5.1) then some (.inr (.inr (s4,(6:Int)))) else some (.inl (IntKind.wrap .i64 (s7+(1:Int))))
 else some (.inr (.inl ())))
 (0:Int))
 fun x9=>
 Sum.elim
 (fun _=>
 Option.bind
 ((F62 x5.2.1 (0:Int) (1000000:Int)).bind fun x11=>
 bif !x11 then some true
 else
 (F62 x5.2.2.1 (1:Int) (8:Int)).bind fun x12=>
 bif !x12 then some true
 else
 (F62 x5.2.2.2.1 (1:Int) (16:Int)).bind fun x13=>
 bif !x13 then some true
 else
 (F62 x5.2.2.2.2.1 (0:Int) (86400:Int)).bind fun x14=>
 bif !x14 then some true else (F62 x5.2.2.2.2.2.1 (1:Int) (255:Int)).bind fun x15=>some !x15)
 fun x16=>bif x16 then some (.inr (.inr (s4,(2:Int)))) else some (.inl (IntKind.wrap .i64 (s4+(1:Int)))))
 (fun y17=>some (.inr (.inr (y17.1,y17.2)))) x9
 else some (.inr (.inl ())))
 (0:Int))
 fun x18=>Sum.elim (fun _=>some ((0:Int),(0:Int))) (fun y20=>some (y20.1,y20.2)) x18
abbrev F58A:Zao:=(.cons (.pd Y29) .nil)
abbrev F58R:Zao:=(.cons (.pd Y3) (.cons (.pd Y37) .nil))
def F58S:Tr.Spec:= {args:=F58A,res:=F58R,fns:=[],α:=El Y3×El Y37,f:=fun x=>F58 x.1,unp:=fun z=>(((),()),(z.1,z.2,())) }
def F58M:List (Nat×List Tr.Spec):=[(119,[F61S]),(120,[F62S])]
def F58H:ZaW:=(.seq .leaf (.seq (.seq (.reg [(22,Y4)]) .leaf) (.seq .leaf (.seq (.seq .leaf (.lp ⟨[(4,(.pd Y3))],[],[1],[],[],[]⟩ [((.exit 0),⟨[],[],[],[],[],[]⟩),(.ret,⟨[(2,(.pd Y3)),(3,(.pd Y37))],[],[],[],[],[]⟩)] (.seq .leaf (.seq (.seq .leaf (.seq .leaf (.seq (.seq .leaf (.lp ⟨[(6,(.pd Y3))],[],[1,4,5],[],[],[]⟩ [((.exit 2),⟨[],[],[1,4,5],[],[],[]⟩),(.ret,⟨[(2,(.pd Y3)),(3,(.pd Y37))],[],[],[],[],[]⟩)] .leaf)) (.seq (.reg [(86,Y4)]) .leaf)))) .leaf)))) .leaf))))
def F58V (a0:El Y29):Option (El Y3×El Y37):=Zaz (mkE tyTab mapTab pkTab [] [] F58M 88 bdTab) (Zam Tryz.f91) Tryz.f91.results F58H F58A F58R (fun y=>(y.2.1,y.2.2.1)) (a0,())
theorem F58_eq (a0:El Y29):F58V a0=F58 a0:=by kernel_rfl
theorem F58_ok:ZaV Tryz.prog 91 F58S:=Zag (m:=F58M) (fn:=Tryz.f91) (hint:=F58H) (pack:=fun y=>(y.2.1,y.2.2.1)) Za4 tab_ok ⟨⟨F61_ok,trivial⟩,⟨F62_ok,trivial⟩,trivial⟩ fun x z h=>(F58_eq x.1).trans h
def F56: (El Y31)→Option (El Y3×El Y3×El Y37):=fun a0=>
 (F68 a0.1).bind fun x0=>
 bif !decide (x0.2=(0:Int)) then some ((0:Int),x0.1,x0.2)
 else
 (F66 a0.2.1).bind fun x1=>
 bif !decide (x1.2=(0:Int)) then some ((1:Int),x1.1,x1.2)
 else
 bif decide ((1024:Int)< (↑(List.length a0.2.2.1):Int)) then some ((2:Int),(0:Int),(5:Int))
 else
 Option.bind
 (run
 (fun s2=>
 bif decide (s2< (↑(List.length a0.2.2.1):Int)) then
 (F67 a0 s2).bind fun x3=>
 bif !decide (x3=(0:Int)) then some (.inr (.inr ((2:Int),s2,x3))) else some (.inl (IntKind.wrap .i64 (s2+(1:Int))))
 else some (.inr (.inl ())))
 (0:Int))
 fun x4=>
 Sum.elim
 (fun _=>
 bif decide ((1024:Int)< (↑(List.length a0.2.2.2.1):Int)) then some ((3:Int),(0:Int),(5:Int))
 else
 Option.bind
 (run
 (fun s6=>
 bif decide (s6< (↑(List.length a0.2.2.2.1):Int)) then
 (F64 a0 s6).bind fun x7=>
 bif !decide (x7=(0:Int)) then some (.inr (.inr ((3:Int),s6,x7)))
 else some (.inl (IntKind.wrap .i64 (s6+(1:Int))))
 else some (.inr (.inl ())))
 (0:Int))
 fun x8=>
 Sum.elim
 (fun _=>
 (F65 a0).bind fun x10=>
 bif !decide (x10.2=(0:Int)) then some ((4:Int),x10.1,x10.2)
 else
 (F58 a0.2.2.2.2.2.1).bind fun x11=>
 bif !decide (x11.2=(0:Int)) then some ((5:Int),x11.1,x11.2) else some ((0:Int),(0:Int),(0:Int)))
 (fun y12=>some (y12.1,y12.2.1,y12.2.2)) x8)
 (fun y13=>some (y13.1,y13.2.1,y13.2.2)) x4
abbrev F56A:Zao:=(.cons (.pd Y31) .nil)
abbrev F56R:Zao:=(.cons (.pd Y3) (.cons (.pd Y3) (.cons (.pd Y37) .nil)))
def F56S:Tr.Spec:= {args:=F56A,res:=F56R,fns:=[],α:=El Y3×El Y3×El Y37,f:=fun x=>F56 x.1,unp:=fun z=>(((),()),(z.1,z.2.1,z.2.2,())) }
def F56M:List (Nat×List Tr.Spec):=[(86,[F68S]),(87,[F66S]),(88,[F67S]),(89,[F64S]),(90,[F65S]),(91,[F58S])]
def F56H:ZaW:=(.seq .leaf (.seq .leaf (.seq .leaf (.seq .leaf (.seq .leaf (.seq .leaf (.seq (.seq .leaf (.lp ⟨[(7,(.pd Y3))],[],[1],[],[],[]⟩ [((.exit 0),⟨[],[],[1],[],[],[]⟩),(.ret,⟨[(2,(.pd Y3)),(3,(.pd Y3)),(4,(.pd Y37))],[],[],[],[],[]⟩)] .leaf)) (.seq .leaf (.seq (.seq .leaf (.lp ⟨[(8,(.pd Y3))],[],[1],[],[],[]⟩ [((.exit 2),⟨[],[],[1],[],[],[]⟩),(.ret,⟨[(2,(.pd Y3)),(3,(.pd Y3)),(4,(.pd Y37))],[],[],[],[],[]⟩)] .leaf)) .leaf)))))))))
def F56V (a0:El Y31):Option (El Y3×El Y3×El Y37):=Zaz (mkE tyTab mapTab pkTab [] [] F56M 84 bdTab) (Zam Tryz.f56) Tryz.f56.results F56H F56A F56R (fun y=>(y.2.1,y.2.2.1,y.2.2.2.1)) (a0,())
theorem F56_eq (a0:El Y31):F56V a0=F56 a0:=by kernel_rfl
theorem F56_ok:ZaV Tryz.prog 56 F56S:=Zag (m:=F56M) (fn:=Tryz.f56) (hint:=F56H) (pack:=fun y=>(y.2.1,y.2.2.1,y.2.2.2.1)) Za4 tab_ok ⟨⟨F68_ok,trivial⟩,⟨F66_ok,trivial⟩,⟨F67_ok,trivial⟩,⟨F64_ok,trivial⟩,⟨F65_ok,trivial⟩,⟨F58_ok,trivial⟩,trivial⟩ fun x z h=>(F56_eq x.1).trans h
def F60: (El Y31)→Option (El Y4):=fun a0=>(F56 a0).bind fun x0=>some (decide (x0.2.2=(0:Int)))
abbrev F60A:Zao:=(.cons (.pd Y31) .nil)
abbrev F60R:Zao:=(.cons (.pd Y4) .nil)
def F60S:Tr.Spec:= {args:=F60A,res:=F60R,fns:=[],α:=El Y4,f:=fun x=>F60 x.1,unp:=fun z=>(((),()),(z,())) }
def F60M:List (Nat×List Tr.Spec):=[(56,[F56S])]
def F60H:ZaW:= .leaf
def F60V (a0:El Y31):Option (El Y4):=Zaz (mkE tyTab mapTab pkTab [] [] F60M 14 bdTab) (Zam Tryz.f32) Tryz.f32.results F60H F60A F60R (fun y=>y.2.1) (a0,())
theorem F60_eq (a0:El Y31):F60V a0=F60 a0:=by kernel_rfl
theorem F60_ok:ZaV Tryz.prog 32 F60S:=Zag (m:=F60M) (fn:=Tryz.f32) (hint:=F60H) (pack:=fun y=>y.2.1) Za4 tab_ok ⟨⟨F56_ok,trivial⟩,trivial⟩ fun x z h=>(F60_eq x.1).trans h
def F72: (El Y3)→(El Y3)→(El Y3)→Option (El Y4):=fun a0 a1 a2=>Option.bind (bif decide (a1≤a0) then some (decide (a0≤a2)) else some false) fun x0=>some x0
abbrev F72A:Zao:=(.cons (.pd Y3) (.cons (.pd Y3) (.cons (.pd Y3) .nil)))
abbrev F72R:Zao:=(.cons (.pd Y4) .nil)
def F72S:Tr.Spec:= {args:=F72A,res:=F72R,fns:=[],α:=El Y4,f:=fun x=>F72 x.1 x.2.1 x.2.2.1,unp:=fun z=>(((),(),(),()),(z,())) }
def F72M:List (Nat×List Tr.Spec):=[]
def F72H:ZaW:=(.seq .leaf (.seq (.reg [(6,Y4)]) .leaf))
def F72V (a0:El Y3) (a1:El Y3) (a2:El Y3):Option (El Y4):=Zaz (mkE tyTab mapTab pkTab [45] [] F72M 15 bdTab) (Zam Tryz.f78) Tryz.f78.results F72H F72A F72R (fun y=>y.2.1) (a0,a1,a2,())
theorem F72_eq (a0:El Y3) (a1:El Y3) (a2:El Y3):F72V a0 a1 a2=F72 a0 a1 a2:=by kernel_rfl
theorem F72_ok:ZaV Tryz.prog 78 F72S:=Zag (m:=F72M) (fn:=Tryz.f78) (hint:=F72H) (pack:=fun y=>y.2.1) Za4 tab_ok trivial fun x z h=>(F72_eq x.1 x.2.1 x.2.2.1).trans h
def F71: (El Y3)→(El Y33)→Option (El Y4):=fun a0 a1=>
 Option.bind
 ((F72 a1.1 (0:Int) (IntKind.wrap .i64 (a0 - (1:Int)))).bind fun x0=>
 bif x0 then
 (F72 a1.2.1 (0:Int) (IntKind.wrap .i64 (a0 - (1:Int)))).bind fun x1=>
 bif x1 then
 (F72 a1.2.2.1 (0:Int) (3155932800:Int)).bind fun x2=>
 bif x2 then
 (F72 a1.2.2.2.2.1 (0:Int) (8:Int)).bind fun x3=>
 bif x3 then
 (F72 a1.2.2.2.2.2.1 (0:Int) (86400:Int)).bind fun x4=>
 bif x4 then
 (F72 a1.2.2.2.2.2.2.2.2.1 (0:Int) (255:Int)).bind fun x5=>
 bif x5 then bif a1.2.2.2.2.2.2.2.2.2.1 then some !a1.2.2.2.1 else some !false else some false
 else some false
 else some false
 else some false
 else some false
 else some false)
 fun x6=>some x6
abbrev F71A:Zao:=(.cons (.pd Y3) (.cons (.pd Y33) .nil))
abbrev F71R:Zao:=(.cons (.pd Y4) .nil)
def F71S:Tr.Spec:= {args:=F71A,res:=F71R,fns:=[],α:=El Y4,f:=fun x=>F71 x.1 x.2.1,unp:=fun z=>(((),(),()),(z,())) }
def F71M:List (Nat×List Tr.Spec):=[(78,[F72S])]
def F71H:ZaW:=(.seq .leaf (.seq (.reg [(4,Y4)]) .leaf))
def F71V (a0:El Y3) (a1:El Y33):Option (El Y4):=Zaz (mkE tyTab mapTab pkTab [45] [] F71M 46 bdTab) (Zam Tryz.f53) Tryz.f53.results F71H F71A F71R (fun y=>y.2.1) (a0,a1,())
theorem F71_eq (a0:El Y3) (a1:El Y33):F71V a0 a1=F71 a0 a1:=by kernel_rfl
theorem F71_ok:ZaV Tryz.prog 53 F71S:=Zag (m:=F71M) (fn:=Tryz.f53) (hint:=F71H) (pack:=fun y=>y.2.1) Za4 tab_ok ⟨⟨F72_ok,trivial⟩,trivial⟩ fun x z h=>(F71_eq x.1 x.2.1).trans h
def F69: (El Y31)→(El Y33)→Option (El Y37):=fun a0 a1=>
 (F60 a0).bind fun x0=>
 bif !x0 then some (21:Int) else (F71 (↑(List.length a0.1):Int) a1).bind fun x1=>bif !x1 then some (22:Int) else some (0:Int)
abbrev F69A:Zao:=(.cons (.pd Y31) (.cons (.pd Y33) .nil))
abbrev F69R:Zao:=(.cons (.pd Y37) .nil)
def F69S:Tr.Spec:= {args:=F69A,res:=F69R,fns:=[],α:=El Y37,f:=fun x=>F69 x.1 x.2.1,unp:=fun z=>(((),(),()),(z,())) }
def F69M:List (Nat×List Tr.Spec):=[(32,[F60S]),(53,[F71S])]
def F69H:ZaW:= .leaf
def F69V (a0:El Y31) (a1:El Y33):Option (El Y37):=Zaz (mkE tyTab mapTab pkTab [45] [] F69M 14 bdTab) (Zam Tryz.f30) Tryz.f30.results F69H F69A F69R (fun y=>y.2.1) (a0,a1,())
theorem F69_eq (a0:El Y31) (a1:El Y33):F69V a0 a1=F69 a0 a1:=by kernel_rfl
theorem F69_ok:ZaV Tryz.prog 30 F69S:=Zag (m:=F69M) (fn:=Tryz.f30) (hint:=F69H) (pack:=fun y=>y.2.1) Za4 tab_ok ⟨⟨F60_ok,trivial⟩,⟨F71_ok,trivial⟩,trivial⟩ fun x z h=>(F69_eq x.1 x.2.1).trans h
def F74: (El Y31)→(El Y33)→Option (El Y37):=fun a0 a1=>
 (F69 a0 a1).bind fun x0=>bif !decide (x0=(0:Int)) then some x0 else bif a1.2.2.2.1 then some (22:Int) else some (0:Int)
abbrev F74A:Zao:=(.cons (.pd Y31) (.cons (.pd Y33) .nil))
abbrev F74R:Zao:=(.cons (.pd Y37) .nil)
def F74S:Tr.Spec:= {args:=F74A,res:=F74R,fns:=[],α:=El Y37,f:=fun x=>F74 x.1 x.2.1,unp:=fun z=>(((),(),()),(z,())) }
def F74M:List (Nat×List Tr.Spec):=[(30,[F69S])]
def F74H:ZaW:= .leaf
def F74V (a0:El Y31) (a1:El Y33):Option (El Y37):=Zaz (mkE tyTab mapTab pkTab [] [] F74M 14 bdTab) (Zam Tryz.f20) Tryz.f20.results F74H F74A F74R (fun y=>y.2.1) (a0,a1,())
theorem F74_eq (a0:El Y31) (a1:El Y33):F74V a0 a1=F74 a0 a1:=by kernel_rfl
theorem F74_ok:ZaV Tryz.prog 20 F74S:=Zag (m:=F74M) (fn:=Tryz.f20) (hint:=F74H) (pack:=fun y=>y.2.1) Za4 tab_ok ⟨⟨F69_ok,trivial⟩,trivial⟩ fun x z h=>(F74_eq x.1 x.2.1).trans h
def F86: (El Y31)→(El Y33)→(El Y3)→(El Y3)→Option (El Y3×El Y4):=fun a0 a1 a2 a3=>
 Option.bind
 (run
 (fun s0=>
 bif decide (s0.2< (↑(List.length a0.2.2.2.2.1):Int)) then
 (idx a0.2.2.2.2.1 s0.2).bind fun x1=>
 Option.bind
 (bif decide (x1.1=a2) then
 bif decide (x1.2.1=a3) then
 bif x1.2.2.2.1 then bif decide (s0.1< (0:Int)) then some true else some (decide (x1.2.2.1<s0.1))
 else
 bif !a1.2.2.2.2.2.2.1 then bif decide (s0.1< (0:Int)) then some true else some (decide (x1.2.2.1<s0.1))
 else some false
 else some false
 else some false)
 fun x2=>
 bif x2 then some (.inl (x1.2.2.1,IntKind.wrap .i64 (s0.2+(1:Int))))
 else some (.inl (s0.1,IntKind.wrap .i64 (s0.2+(1:Int))))
 else some (.inr s0.1))
 ((-1:Int),(0:Int)))
 fun x3=>some (x3,decide ((0:Int)≤x3))
abbrev F86A:Zao:=(.cons (.pd Y31) (.cons (.pd Y33) (.cons (.pd Y3) (.cons (.pd Y3) .nil))))
abbrev F86R:Zao:=(.cons (.pd Y3) (.cons (.pd Y4) .nil))
def F86S:Tr.Spec:= {args:=F86A,res:=F86R,fns:=[],α:=El Y3×El Y4,f:=fun x=>F86 x.1 x.2.1 x.2.2.1 x.2.2.2.1,unp:=fun z=>(((),(),(),(),()),(z.1,z.2,())) }
def F86M:List (Nat×List Tr.Spec):=[]
def F86H:ZaW:=(.seq .leaf (.seq .leaf (.seq (.seq .leaf (.lp ⟨[(10,(.pd Y3)),(11,(.pd Y3))],[],[2,3,4,5],[],[],[]⟩ [((.exit 0),⟨[(10,(.pd Y3))],[],[],[],[],[]⟩)] (.seq .leaf (.seq (.seq .leaf (.seq (.reg [(53,Y4)]) .leaf)) .leaf)))) .leaf)))
def F86V (a0:El Y31) (a1:El Y33) (a2:El Y3) (a3:El Y3):Option (El Y3×El Y4):=Zaz (mkE tyTab mapTab pkTab [] [] F86M 59 bdTab) (Zam Tryz.f25) Tryz.f25.results F86H F86A F86R (fun y=>(y.2.1,y.2.2.1)) (a0,a1,a2,a3,())
theorem F86_eq (a0:El Y31) (a1:El Y33) (a2:El Y3) (a3:El Y3):F86V a0 a1 a2 a3=F86 a0 a1 a2 a3:=by kernel_rfl
theorem F86_ok:ZaV Tryz.prog 25 F86S:=Zag (m:=F86M) (fn:=Tryz.f25) (hint:=F86H) (pack:=fun y=>(y.2.1,y.2.2.1)) Za4 tab_ok trivial fun x z h=>(F86_eq x.1 x.2.1 x.2.2.1 x.2.2.2.1).trans h
def F79: (El Y3)→(El Y3)→Option (El Y3):=fun a0 a1=>
 Option.bind
 (bif decide ((3155932800:Int)<a1) then some true else bif decide ((0:Int)≤a0) then some (decide (a0≤a1)) else some false)
 fun x0=>bif x0 then some a0 else some a1
abbrev F79A:Zao:=(.cons (.pd Y3) (.cons (.pd Y3) .nil))
abbrev F79R:Zao:=(.cons (.pd Y3) .nil)
def F79S:Tr.Spec:= {args:=F79A,res:=F79R,fns:=[],α:=El Y3,f:=fun x=>F79 x.1 x.2.1,unp:=fun z=>(((),(),()),(z,())) }
def F79M:List (Nat×List Tr.Spec):=[]
def F79H:ZaW:=(.seq .leaf (.seq (.seq (.reg [(15,Y4)]) .leaf) .leaf))
def F79V (a0:El Y3) (a1:El Y3):Option (El Y3):=Zaz (mkE tyTab mapTab pkTab [] [] F79M 18 bdTab) (Zam Tryz.f26) Tryz.f26.results F79H F79A F79R (fun y=>y.2.1) (a0,a1,())
theorem F79_eq (a0:El Y3) (a1:El Y3):F79V a0 a1=F79 a0 a1:=by kernel_rfl
theorem F79_ok:ZaV Tryz.prog 26 F79S:=Zag (m:=F79M) (fn:=Tryz.f26) (hint:=F79H) (pack:=fun y=>y.2.1) Za4 tab_ok trivial fun x z h=>(F79_eq x.1 x.2.1).trans h
def F83: (El Y31)→Option (Tz2):=fun a0=>
 Option.bind
 (Zaq
 (decide
 ((0:El (Tr.Ty.int .i64))≤(↑(List.length a0.2.2.1):Int)∧
 (↑(List.length a0.2.2.1):Int)≤(↑(List.length a0.2.2.1):Int)∧(↑(List.length a0.2.2.1):Int)≤(↑Zas:El (Tr.Ty.int .i64)))))
 fun _=>
 Option.bind
 (run
 (fun s1=>
 bif decide (s1.2.2< (↑(List.length a0.2.2.1):Int)) then
 (idx a0.2.2.1 s1.2.2).bind fun x2=>
 Option.bind
 (Zaq
 (decide
 ((0:El (Tr.Ty.int .i64))≤(↑(List.length x2.2.2.2.2.2.2.2.1):Int)∧
 (↑(List.length x2.2.2.2.2.2.2.2.1):Int)≤(↑(List.length x2.2.2.2.2.2.2.2.1):Int)∧
 (↑(List.length x2.2.2.2.2.2.2.2.1):Int)≤(↑Zas:El (Tr.Ty.int .i64)))))
 fun _=>
 Option.bind
 (Zaq
 (decide (List.length s1.2.1.1+List.length [List.replicate (Int.toNat (↑(List.length x2.2.2.2.2.2.2.2.1):Int)) (false)]≤Zas)))
 fun _=>
 (idx a0.2.2.1 s1.2.2).bind fun x5=>
 Option.bind
 (Zaq
 (decide
 ((0:El (Tr.Ty.int .i64))≤(↑(List.length x5.2.2.2.2.2.2.2.1):Int)∧
 (↑(List.length x5.2.2.2.2.2.2.2.1):Int)≤(↑(List.length x5.2.2.2.2.2.2.2.1):Int)∧
 (↑(List.length x5.2.2.2.2.2.2.2.1):Int)≤(↑Zas:El (Tr.Ty.int .i64)))))
 fun _=>
 Option.bind
 (Zaq
 (decide
 (List.length s1.2.1.2.1+List.length [List.replicate (Int.toNat (↑(List.length x5.2.2.2.2.2.2.2.1):Int)) (false)]≤Zas)))
 fun _=>
 some
 (.inl
 (s1.1,
 (s1.2.1.1++[List.replicate (Int.toNat (↑(List.length x2.2.2.2.2.2.2.2.1):Int)) (false)],
 s1.2.1.2.1++[List.replicate (Int.toNat (↑(List.length x5.2.2.2.2.2.2.2.1):Int)) (false)],s1.2.1.2.2.1,()),
 IntKind.wrap .i64 (s1.2.2+(1:Int))))
 else some (.inr (s1.1,s1.2.1.1,s1.2.1.2.1,s1.2.1.2.2.1,())))
 ((([]:List (List (El Y4))),([]:List (List (El Y4))),([]:List (El Y4)),()),([],[],List.replicate (Int.toNat (↑(List.length a0.2.2.1):Int)) (false),()),(0:Int)))
 fun x8=>some x8.2
abbrev F83A:Zao:=(.cons (.pd Y31) .nil)
abbrev F83R:Zao:=(.cons Pz9 .nil)
def F83S:Tr.Spec:= {args:=F83A,res:=F83R,fns:=[],α:=Tz2,f:=fun x=>F83 x.1,unp:=fun z=>(((),()),(z,())) }
def F83M:List (Nat×List Tr.Spec):=[]
def F83H:ZaW:=(.seq .leaf (.seq .leaf (.seq (.seq .leaf (.lp ⟨[(2,Pz6),(3,Pz6),(4,(.pd Y3))],[],[1],[],[],[]⟩ [((.exit 0),⟨[(2,Pz6),(3,Pz6)],[],[],[],[],[]⟩)] .leaf)) .leaf)))
def F83V (a0:El Y31):Option (Tz2):=Zaz (mkE tyTab mapTab pkTab [77] [80] F83M 44 bdTab) (Zam Tryz.f44) Tryz.f44.results F83H F83A F83R (fun y=>y.2.1) (a0,())
theorem F83_eq (a0:El Y31):F83V a0=F83 a0:=by kernel_rfl
theorem F83_ok:ZaV Tryz.prog 44 F83S:=Zag (m:=F83M) (fn:=Tryz.f44) (hint:=F83H) (pack:=fun y=>y.2.1) Za4 tab_ok trivial fun x z h=>(F83_eq x.1).trans h
def F85: (El Y31)→(El Y33)→(El Y3)→Option (El Y4):=fun a0 a1 a2=>
 (idx a0.2.2.1 a2).bind fun x0=>
 (idx a0.2.1 x0.2.2.2.2.1).bind fun x1=>
 Option.bind
 (bif x0.2.2.2.2.2.2.1 then some true
 else
 bif a1.2.2.2.2.2.2.1 then
 bif !x0.2.2.2.2.2.1 then some true else bif a1.2.2.2.2.2.2.2.1 then some !x1.2.2.1 else some false
 else bif a1.2.2.2.2.2.2.2.1 then some !x1.2.2.1 else some false)
 fun x2=>
 bif x2 then some false
 else
 Option.bind
 (bif decide (a1.2.2.2.2.2.2.2.2.1=(0:Int)) then some true
 else
 Option.bind (Zrg .i64 a1.2.2.2.2.2.2.2.2.1 (IntKind.wrap .u64 x1.2.1)) fun x3=>
 some (decide (Int.tmod x3 (2:Int)=(1:Int))))
 fun x4=>some x4
abbrev F85A:Zao:=(.cons (.pd Y31) (.cons (.pd Y33) (.cons (.pd Y3) .nil)))
abbrev F85R:Zao:=(.cons (.pd Y4) .nil)
def F85S:Tr.Spec:= {args:=F85A,res:=F85R,fns:=[],α:=El Y4,f:=fun x=>F85 x.1 x.2.1 x.2.2.1,unp:=fun z=>(((),(),(),()),(z,())) }
def F85M:List (Nat×List Tr.Spec):=[]
def F85H:ZaW:=(.seq .leaf (.seq .leaf (.seq .leaf (.seq (.seq (.reg [(39,Y4)]) .leaf) (.seq (.reg [(6,Y4)]) .leaf)))))
def F85V (a0:El Y31) (a1:El Y33) (a2:El Y3):Option (El Y4):=Zaz (mkE tyTab mapTab pkTab [] [] F85M 53 bdTab) (Zam Tryz.f45) Tryz.f45.results F85H F85A F85R (fun y=>y.2.1) (a0,a1,a2,())
theorem F85_eq (a0:El Y31) (a1:El Y33) (a2:El Y3):F85V a0 a1 a2=F85 a0 a1 a2:=by kernel_rfl
theorem F85_ok:ZaV Tryz.prog 45 F85S:=Zag (m:=F85M) (fn:=Tryz.f45) (hint:=F85H) (pack:=fun y=>y.2.1) Za4 tab_ok trivial fun x z h=>(F85_eq x.1 x.2.1 x.2.2.1).trans h
def F77: (El Y80)→(El Y3)→(El Y3)→Option (El Y4):=fun a0 a1 a2=>
 Option.bind (bif decide ((0:Int)<a2) then (idx a0.2.2.1 a1).bind fun x0=>some x0 else some false) fun x1=>
 bif x1 then some true
 else
 Option.bind
 (run
 (fun s2=>
 bif decide (s2<a2) then
 (idx a0.1 a1).bind fun x3=>
 (idx x3 s2).bind fun x4=>bif x4 then some (.inr (.inr true)) else some (.inl (IntKind.wrap .i64 (s2+(1:Int))))
 else some (.inr (.inl ())))
 (0:Int))
 fun x5=>Sum.elim (fun _=>some false) (fun y7=>some y7) x5
abbrev F77A:Zao:=(.cons (.pd Y80) (.cons (.pd Y3) (.cons (.pd Y3) .nil)))
abbrev F77R:Zao:=(.cons (.pd Y4) .nil)
def F77S:Tr.Spec:= {args:=F77A,res:=F77R,fns:=[],α:=El Y4,f:=fun x=>F77 x.1 x.2.1 x.2.2.1,unp:=fun z=>(((),(),(),()),(z,())) }
def F77M:List (Nat×List Tr.Spec):=[]
def F77H:ZaW:=(.seq .leaf (.seq (.seq (.reg [(16,Y4)]) .leaf) (.seq (.seq .leaf (.lp ⟨[(7,(.pd Y3))],[],[1,2,3],[],[],[]⟩ [((.exit 0),⟨[],[],[],[],[],[]⟩),(.ret,⟨[(6,(.pd Y4))],[],[],[],[],[]⟩)] .leaf)) .leaf)))
def F77V (a0:El Y80) (a1:El Y3) (a2:El Y3):Option (El Y4):=Zaz (mkE tyTab mapTab pkTab [] [] F77M 30 bdTab) (Zam Tryz.f49) Tryz.f49.results F77H F77A F77R (fun y=>y.2.1) (a0,a1,a2,())
theorem F77_eq (a0:El Y80) (a1:El Y3) (a2:El Y3):F77V a0 a1 a2=F77 a0 a1 a2:=by kernel_rfl
theorem F77_ok:ZaV Tryz.prog 49 F77S:=Zag (m:=F77M) (fn:=Tryz.f49) (hint:=F77H) (pack:=fun y=>y.2.1) Za4 tab_ok trivial fun x z h=>(F77_eq x.1 x.2.1 x.2.2.1).trans h
def F81: (El Y31)→(El Y3)→(El Y3)→(El Y3)→(El Y3)→(El Y4)→Option (El Y4):=fun a0 a1 a2 a3 a4 a5=>
 Option.bind
 (run
 (fun s0=>
 bif decide (s0< (↑(List.length a0.2.2.2.1):Int)) then
 (idx a0.2.2.2.1 s0).bind fun x1=>
 Option.bind
 (bif decide (x1.1=a1) then
 bif decide (x1.2.1=a2) then
 bif decide (x1.2.2.1=a3) then bif decide (x1.2.2.2.1=a4) then some (x1.2.2.2.2.1==a5) else some false
 else some false
 else some false
 else some false)
 fun x2=>bif x2 then some (.inr (.inr true)) else some (.inl (IntKind.wrap .i64 (s0+(1:Int))))
 else some (.inr (.inl ())))
 (0:Int))
 fun x3=>Sum.elim (fun _=>some false) (fun y5=>some y5) x3
abbrev F81A:Zao:=(.cons (.pd Y31) (.cons (.pd Y3) (.cons (.pd Y3) (.cons (.pd Y3) (.cons (.pd Y3) (.cons (.pd Y4) .nil))))))
abbrev F81R:Zao:=(.cons (.pd Y4) .nil)
def F81S:Tr.Spec:= {args:=F81A,res:=F81R,fns:=[],α:=El Y4,f:=fun x=>F81 x.1 x.2.1 x.2.2.1 x.2.2.2.1 x.2.2.2.2.1 x.2.2.2.2.2.1,unp:=fun z=>(((),(),(),(),(),(),()),(z,())) }
def F81M:List (Nat×List Tr.Spec):=[]
def F81H:ZaW:=(.seq .leaf (.seq (.seq .leaf (.lp ⟨[(13,(.pd Y3))],[],[1,2,3,4,5,6],[],[],[]⟩ [((.exit 0),⟨[],[],[],[],[],[]⟩),(.ret,⟨[(12,(.pd Y4))],[],[],[],[],[]⟩)] (.seq .leaf (.seq (.seq .leaf (.seq (.reg [(54,Y4)]) .leaf)) .leaf)))) .leaf))
def F81V (a0:El Y31) (a1:El Y3) (a2:El Y3) (a3:El Y3) (a4:El Y3) (a5:El Y4):Option (El Y4):=Zaz (mkE tyTab mapTab pkTab [] [] F81M 55 bdTab) (Zam Tryz.f75) Tryz.f75.results F81H F81A F81R (fun y=>y.2.1) (a0,a1,a2,a3,a4,a5,())
theorem F81_eq (a0:El Y31) (a1:El Y3) (a2:El Y3) (a3:El Y3) (a4:El Y3) (a5:El Y4):F81V a0 a1 a2 a3 a4 a5=F81 a0 a1 a2 a3 a4 a5:=by kernel_rfl
theorem F81_ok:ZaV Tryz.prog 75 F81S:=Zag (m:=F81M) (fn:=Tryz.f75) (hint:=F81H) (pack:=fun y=>y.2.1) Za4 tab_ok trivial fun x z h=>(F81_eq x.1 x.2.1 x.2.2.1 x.2.2.2.1 x.2.2.2.2.1 x.2.2.2.2.2.1).trans h
def F84: (El Y31)→(El Y80)→(El Y3)→Option (El Y4):=fun a0 a1 a2=>
 Option.bind
 (run
 (fun s0=>
 bif decide (s0< (↑(List.length a0.2.2.1):Int)) then
 (idx a0.2.2.1 s0).bind fun x1=>
 Option.bind
 ((F81 a0 s0 (IntKind.wrap .i64 ((↑(List.length x1.2.2.2.2.2.2.2.1):Int) - (1:Int))) a2 (0:Int) true).bind fun x2=>
 bif x2 then
 (F77 a1 s0 (IntKind.wrap .i64 ((↑(List.length x1.2.2.2.2.2.2.2.1):Int) - (1:Int)))).bind fun x3=>
 bif x3 then
 (idx a0.2.2.1 a2).bind fun x4=>
 (idx x4.2.2.2.2.2.2.2.1 (0:Int)).bind fun x5=>
 (idx a0.2.2.1 s0).bind fun x6=>
 (idx x6.2.2.2.2.2.2.2.1 (IntKind.wrap .i64 ((↑(List.length x1.2.2.2.2.2.2.2.1):Int) - (1:Int)))).bind fun x7=>
 some (decide (x7.2.1≤x5.2.2.1))
 else some false
 else some false)
 fun x8=>bif x8 then some (.inr (.inr true)) else some (.inl (IntKind.wrap .i64 (s0+(1:Int))))
 else some (.inr (.inl ())))
 (0:Int))
 fun x9=>Sum.elim (fun _=>some false) (fun y11=>some y11) x9
abbrev F84A:Zao:=(.cons (.pd Y31) (.cons (.pd Y80) (.cons (.pd Y3) .nil)))
abbrev F84R:Zao:=(.cons (.pd Y4) .nil)
def F84S:Tr.Spec:= {args:=F84A,res:=F84R,fns:=[],α:=El Y4,f:=fun x=>F84 x.1 x.2.1 x.2.2.1,unp:=fun z=>(((),(),(),()),(z,())) }
def F84M:List (Nat×List Tr.Spec):=[(49,[F77S]),(75,[F81S])]
def F84H:ZaW:=(.seq .leaf (.seq (.seq .leaf (.lp ⟨[(7,(.pd Y3))],[],[2,3,4],[],[],[]⟩ [((.exit 0),⟨[],[],[],[],[],[]⟩),(.ret,⟨[(6,(.pd Y4))],[],[],[],[],[]⟩)] (.seq .leaf (.seq (.seq .leaf (.seq (.reg [(56,Y4)]) .leaf)) .leaf)))) .leaf))
def F84V (a0:El Y31) (a1:El Y80) (a2:El Y3):Option (El Y4):=Zaz (mkE tyTab mapTab pkTab [] [] F84M 57 bdTab) (Zam Tryz.f46) Tryz.f46.results F84H F84A F84R (fun y=>y.2.1) (a0,a1,a2,())
theorem F84_eq (a0:El Y31) (a1:El Y80) (a2:El Y3):F84V a0 a1 a2=F84 a0 a1 a2:=by kernel_rfl
theorem F84_ok:ZaV Tryz.prog 46 F84S:=Zag (m:=F84M) (fn:=Tryz.f46) (hint:=F84H) (pack:=fun y=>y.2.1) Za4 tab_ok ⟨⟨F77_ok,trivial⟩,⟨F81_ok,trivial⟩,trivial⟩ fun x z h=>(F84_eq x.1 x.2.1 x.2.2.1).trans h
def F70: (El Y31)→(El Y33)→(El Y3)→Option (El Y4):=fun a0 a1 a2=>Option.bind (bif !a1.2.2.2.2.2.2.1 then some true else (idx a0.1 a2).bind fun x0=>some x0.2.2.1) fun x1=>some x1
abbrev F70A:Zao:=(.cons (.pd Y31) (.cons (.pd Y33) (.cons (.pd Y3) .nil)))
abbrev F70R:Zao:=(.cons (.pd Y4) .nil)
def F70S:Tr.Spec:= {args:=F70A,res:=F70R,fns:=[],α:=El Y4,f:=fun x=>F70 x.1 x.2.1 x.2.2.1,unp:=fun z=>(((),(),(),()),(z,())) }
def F70M:List (Nat×List Tr.Spec):=[]
def F70H:ZaW:=(.seq .leaf (.seq (.reg [(6,Y4)]) .leaf))
def F70V (a0:El Y31) (a1:El Y33) (a2:El Y3):Option (El Y4):=Zaz (mkE tyTab mapTab pkTab [45] [] F70M 18 bdTab) (Zam Tryz.f48) Tryz.f48.results F70H F70A F70R (fun y=>y.2.1) (a0,a1,a2,())
theorem F70_eq (a0:El Y31) (a1:El Y33) (a2:El Y3):F70V a0 a1 a2=F70 a0 a1 a2:=by kernel_rfl
theorem F70_ok:ZaV Tryz.prog 48 F70S:=Zag (m:=F70M) (fn:=Tryz.f48) (hint:=F70H) (pack:=fun y=>y.2.1) Za4 tab_ok trivial fun x z h=>(F70_eq x.1 x.2.1 x.2.2.1).trans h
def F78: (El Y31)→(El Y33)→(El Y3)→(El Y3)→Option (El Y4):=fun a0 a1 a2 a3=>
 (idx a0.2.2.1 a2).bind fun x0=>
 (idx x0.2.2.2.2.2.2.2.1 a3).bind fun x1=>
 bif decide (x1.1=a1.1) then
 Option.bind (bif a1.2.2.2.2.2.2.2.2.2.1 then (idx a0.1 a1.1).bind fun x2=>some x2.2.2.2.1 else some (0:Int)) fun x3=>
 some (decide (IntKind.wrap .i64 (a1.2.2.1+x3)≤x1.2.2.1))
 else
 (F86 a0 a1 a1.1 x1.1).bind fun x4=>
 Option.bind (bif x4.2 then some (decide (a1.2.2.1≤IntKind.wrap .i64 (x1.2.2.1 - x4.1))) else some false) fun x5=>some x5
abbrev F78A:Zao:=(.cons (.pd Y31) (.cons (.pd Y33) (.cons (.pd Y3) (.cons (.pd Y3) .nil))))
abbrev F78R:Zao:=(.cons (.pd Y4) .nil)
def F78S:Tr.Spec:= {args:=F78A,res:=F78R,fns:=[],α:=El Y4,f:=fun x=>F78 x.1 x.2.1 x.2.2.1 x.2.2.2.1,unp:=fun z=>(((),(),(),(),()),(z,())) }
def F78M:List (Nat×List Tr.Spec):=[(25,[F86S])]
def F78H:ZaW:=(.seq .leaf (.seq .leaf (.seq (.seq .leaf (.cnd none (.seq .leaf (.seq (.seq .leaf (.cnd (some (⟨[],[],[5,9],[],[],[]⟩,[(.normal,⟨[(10,(.pd Y3))],[],[5,9],[],[],[]⟩)])) .leaf .leaf)) .leaf)) .leaf)) (.seq .leaf (.seq (.reg [(8,Y4)]) .leaf)))))
def F78V (a0:El Y31) (a1:El Y33) (a2:El Y3) (a3:El Y3):Option (El Y4):=Zaz (mkE tyTab mapTab pkTab [] [] F78M 63 bdTab) (Zam Tryz.f76) Tryz.f76.results F78H F78A F78R (fun y=>y.2.1) (a0,a1,a2,a3,())
theorem F78_eq (a0:El Y31) (a1:El Y33) (a2:El Y3) (a3:El Y3):F78V a0 a1 a2 a3=F78 a0 a1 a2 a3:=by kernel_rfl
theorem F78_ok:ZaV Tryz.prog 76 F78S:=Zag (m:=F78M) (fn:=Tryz.f76) (hint:=F78H) (pack:=fun y=>y.2.1) Za4 tab_ok ⟨⟨F86_ok,trivial⟩,trivial⟩ fun x z h=>(F78_eq x.1 x.2.1 x.2.2.1 x.2.2.2.1).trans h
def F80: (El Y31)→(El Y33)→(El Y3)→(El Y3)→(El Y3)→(El Y3)→Option (El Y4):=fun a0 a1 a2 a3 a4 a5=>
 (idx a0.2.2.1 a2).bind fun x0=>
 (idx x0.2.2.2.2.2.2.2.1 a3).bind fun x1=>
 (idx a0.2.2.1 a4).bind fun x2=>
 (idx x2.2.2.2.2.2.2.2.1 a5).bind fun x3=>
 bif decide (x1.1=x3.1) then
 Option.bind
 ((idx a0.1 x1.1).bind fun x4=>
 bif decide (IntKind.wrap .i64 (x1.2.1+x4.2.2.2.1)≤x3.2.2.1) then some true
 else bif decide (x1.2.1≤x3.2.2.1) then (F81 a0 a2 a3 a4 a5 false).bind fun x5=>some x5 else some false)
 fun x6=>some x6
 else
 (F86 a0 a1 x1.1 x3.1).bind fun x7=>
 Option.bind (bif x7.2 then some (decide (IntKind.wrap .i64 (x1.2.1+x7.1)≤x3.2.2.1)) else some false) fun x8=>some x8
abbrev F80A:Zao:=(.cons (.pd Y31) (.cons (.pd Y33) (.cons (.pd Y3) (.cons (.pd Y3) (.cons (.pd Y3) (.cons (.pd Y3) .nil))))))
abbrev F80R:Zao:=(.cons (.pd Y4) .nil)
def F80S:Tr.Spec:= {args:=F80A,res:=F80R,fns:=[],α:=El Y4,f:=fun x=>F80 x.1 x.2.1 x.2.2.1 x.2.2.2.1 x.2.2.2.2.1 x.2.2.2.2.2.1,unp:=fun z=>(((),(),(),(),(),(),()),(z,())) }
def F80M:List (Nat×List Tr.Spec):=[(25,[F86S]),(75,[F81S])]
def F80H:ZaW:=(.seq .leaf (.seq .leaf (.seq (.seq .leaf (.cnd none (.seq (.reg [(12,Y4)]) .leaf) .leaf)) (.seq .leaf (.seq (.reg [(12,Y4)]) .leaf)))))
def F80V (a0:El Y31) (a1:El Y33) (a2:El Y3) (a3:El Y3) (a4:El Y3) (a5:El Y3):Option (El Y4):=Zaz (mkE tyTab mapTab pkTab [] [] F80M 88 bdTab) (Zam Tryz.f77) Tryz.f77.results F80H F80A F80R (fun y=>y.2.1) (a0,a1,a2,a3,a4,a5,())
theorem F80_eq (a0:El Y31) (a1:El Y33) (a2:El Y3) (a3:El Y3) (a4:El Y3) (a5:El Y3):F80V a0 a1 a2 a3 a4 a5=F80 a0 a1 a2 a3 a4 a5:=by kernel_rfl
theorem F80_ok:ZaV Tryz.prog 77 F80S:=Zag (m:=F80M) (fn:=Tryz.f77) (hint:=F80H) (pack:=fun y=>y.2.1) Za4 tab_ok ⟨⟨F86_ok,trivial⟩,⟨F81_ok,trivial⟩,trivial⟩ fun x z h=>(F80_eq x.1 x.2.1 x.2.2.1 x.2.2.2.1 x.2.2.2.2.1 x.2.2.2.2.2.1).trans h
def F82: (El Y31)→(El Y33)→(El Y80)→(El Y3)→(El Y3)→Option (El Y4):=fun a0 a1 a2 a3 a4=>
 (idx a0.2.2.1 a3).bind fun x0=>
 (idx x0.2.2.2.2.2.2.2.1 a4).bind fun x1=>
 Option.bind (bif !x1.2.2.2.1 then some true else (F70 a0 a1 x1.1).bind fun x2=>some !x2) fun x3=>
 bif x3 then some false
 else
 (F78 a0 a1 a3 a4).bind fun x4=>
 bif x4 then some true
 else
 Option.bind
 (run
 (fun s5=>
 bif decide (s5< (↑(List.length a0.2.2.1):Int)) then
 Option.bind
 (run
 (fun s6=>
 (idx a0.2.2.1 s5).bind fun x7=>
 bif decide (s6< (↑(List.length x7.2.2.2.2.2.2.2.1):Int)) then
 Option.bind
 ((idx a2.2.1 s5).bind fun x8=>
 (idx x8 s6).bind fun x9=>bif x9 then (F80 a0 a1 s5 s6 a3 a4).bind fun x10=>some x10 else some false)
 fun x11=>bif x11 then some (.inr (.inr true)) else some (.inl (IntKind.wrap .i64 (s6+(1:Int))))
 else some (.inr (.inl ())))
 (0:Int))
 fun x12=>Sum.elim (fun _=>some (.inl (IntKind.wrap .i64 (s5+(1:Int))))) (fun y14=>some (.inr (.inr y14))) x12
 else some (.inr (.inl ())))
 (0:Int))
 fun x15=>Sum.elim (fun _=>some false) (fun y17=>some y17) x15
abbrev F82A:Zao:=(.cons (.pd Y31) (.cons (.pd Y33) (.cons (.pd Y80) (.cons (.pd Y3) (.cons (.pd Y3) .nil)))))
abbrev F82R:Zao:=(.cons (.pd Y4) .nil)
def F82S:Tr.Spec:= {args:=F82A,res:=F82R,fns:=[],α:=El Y4,f:=fun x=>F82 x.1 x.2.1 x.2.2.1 x.2.2.2.1 x.2.2.2.2.1,unp:=fun z=>(((),(),(),(),(),()),(z,())) }
def F82M:List (Nat×List Tr.Spec):=[(48,[F70S]),(76,[F78S]),(77,[F80S])]
def F82H:ZaW:=(.seq .leaf (.seq .leaf (.seq (.seq (.reg [(33,Y4)]) .leaf) (.seq .leaf (.seq (.seq .leaf (.lp ⟨[(12,(.pd Y3))],[],[3,4,5,6,7],[],[],[]⟩ [((.exit 0),⟨[],[],[],[],[],[]⟩),(.ret,⟨[(10,(.pd Y4))],[],[],[],[],[]⟩)] (.seq .leaf (.seq (.seq .leaf (.lp ⟨[(13,(.pd Y3))],[],[3,4,5,6,7,12],[],[],[]⟩ [((.exit 2),⟨[],[],[3,4,5,6,7,12],[],[],[]⟩),(.ret,⟨[(10,(.pd Y4))],[],[],[],[],[]⟩)] (.seq .leaf (.seq (.seq (.reg [(73,Y4)]) .leaf) .leaf)))) .leaf)))) .leaf)))))
def F82V (a0:El Y31) (a1:El Y33) (a2:El Y80) (a3:El Y3) (a4:El Y3):Option (El Y4):=Zaz (mkE tyTab mapTab pkTab [] [] F82M 74 bdTab) (Zam Tryz.f47) Tryz.f47.results F82H F82A F82R (fun y=>y.2.1) (a0,a1,a2,a3,a4,())
theorem F82_eq (a0:El Y31) (a1:El Y33) (a2:El Y80) (a3:El Y3) (a4:El Y3):F82V a0 a1 a2 a3 a4=F82 a0 a1 a2 a3 a4:=by kernel_rfl
theorem F82_ok:ZaV Tryz.prog 47 F82S:=Zag (m:=F82M) (fn:=Tryz.f47) (hint:=F82H) (pack:=fun y=>y.2.1) Za4 tab_ok ⟨⟨F70_ok,trivial⟩,⟨F78_ok,trivial⟩,⟨F80_ok,trivial⟩,trivial⟩ fun x z h=>(F82_eq x.1 x.2.1 x.2.2.1 x.2.2.2.1 x.2.2.2.2.1).trans h
def F75: (El Y31)→(El Y33)→Option (El Y80):=fun a0 a1=>
 (F83 a0).bind fun x0=>
 Option.bind
 (run
 (fun s1=>
 bif s1.2.2 then
 Option.bind
 (run
 (fun s2=>
 bif decide (s2.2.2.2< (↑(List.length a0.2.2.1):Int)) then
 (F85 a0 a1 s2.2.2.2).bind fun x3=>
 bif !x3 then
 some
 (.inl
 (s2.1,s2.2.1,s2.2.2.1,
 IntKind.wrap .i64 (s2.2.2.2+(1:Int))))
 else
 Option.bind
 ((inb s2.2.2.2 (List.length s2.2.1.2.2.1)).bind fun x4=>
 Option.bind s2.2.1.2.2.1[x4]? fun x5=>
 bif !x5 then (F84 a0 s2.2.1 s2.2.2.2).bind fun x6=>some x6
 else some false)
 fun x7=>
 Option.bind
 (bif x7 then
 (inb s2.2.2.2 (List.length s2.2.1.2.2.1)).bind fun x8=>
 Option.bind s2.2.1.2.2.1[x8]? fun _=>
 some (s2.1,(s2.2.1.1,s2.2.1.2.1,List.set s2.2.1.2.2.1 x8 true,()),true)
 else some (s2.1,s2.2.1,s2.2.2.1))
 fun x10=>
 (idx a0.2.2.1 s2.2.2.2).bind fun x11=>
 Option.bind
 (run
 (fun s12=>
 bif decide (s12.2.2.2< (↑(List.length x11.2.2.2.2.2.2.2.1):Int)) then
 Option.bind
 (bif decide (IntKind.wrap .i64 (s12.2.2.2+(1:Int))< (↑(List.length x11.2.2.2.2.2.2.2.1):Int)) then
 (inb s2.2.2.2 (List.length s12.2.1.1)).bind fun x13=>
 Option.bind s12.2.1.1[x13]? fun _=>
 (idx s12.2.1.1 (↑x13:Int)).bind fun x15=>
 (inb s12.2.2.2 (List.length x15)).bind fun x16=>
 (idx s12.2.1.1 (↑x13:Int)).bind fun x17=>
 Option.bind x17[x16]? fun x18=>
 bif !x18 then
 (F82 a0 a1 s12.2.1 s2.2.2.2 s12.2.2.2).bind fun x19=>
 some x19
 else some false
 else some false)
 fun x20=>
 Option.bind
 (bif x20 then
 (inb s2.2.2.2 (List.length s12.2.1.1)).bind fun x21=>
 Option.bind s12.2.1.1[x21]? fun _=>
 (idx s12.2.1.1 (↑x21:Int)).bind fun x23=>
 (inb s12.2.2.2 (List.length x23)).bind fun x24=>
 (idx s12.2.1.1 (↑x21:Int)).bind fun x25=>
 Option.bind x25[x24]? fun _=>
 some
 (s12.1,
 (List.set s12.2.1.1 (Int.toNat (↑x21:Int)) (List.set x25 x24 true),s12.2.1.2.1,s12.2.1.2.2.1,()),
 true)
 else
 some (s12.1,s12.2.1,s12.2.2.1))
 fun x27=>
 Option.bind
 ((inb s2.2.2.2 (List.length x27.2.1.2.1)).bind fun x28=>
 Option.bind x27.2.1.2.1[x28]? fun _=>
 (idx x27.2.1.2.1 (↑x28:Int)).bind fun x30=>
 (inb s12.2.2.2 (List.length x30)).bind fun x31=>
 (idx x27.2.1.2.1 (↑x28:Int)).bind fun x32=>
 Option.bind x32[x31]? fun x33=>
 bif !x33 then
 (idx x11.2.2.2.2.2.2.2.1 s12.2.2.2).bind fun x34=>
 bif x34.2.2.2.2.1 then
 (idx x11.2.2.2.2.2.2.2.1 s12.2.2.2).bind fun x35=>
 (F70 a0 a1 x35.1).bind fun x36=>
 bif x36 then
 Option.bind (F77 x27.2.1 s2.2.2.2 s12.2.2.2)
 fun x37=>some x37
 else some false
 else some false
 else some false)
 fun x38=>
 bif x38 then
 (inb s2.2.2.2 (List.length x27.2.1.2.1)).bind fun x39=>
 Option.bind x27.2.1.2.1[x39]? fun _=>
 (idx x27.2.1.2.1 (↑x39:Int)).bind fun x41=>
 (inb s12.2.2.2 (List.length x41)).bind fun x42=>
 (idx x27.2.1.2.1 (↑x39:Int)).bind fun x43=>
 Option.bind x43[x42]? fun _=>
 some
 (.inl
 (x27.1,
 (x27.2.1.1,List.set x27.2.1.2.1 (Int.toNat (↑x39:Int)) (List.set x43 x42 true),x27.2.1.2.2.1,()),
 true,IntKind.wrap .i64 (s12.2.2.2+(1:Int))))
 else
 some
 (.inl
 (x27.1,x27.2.1,x27.2.2,
 IntKind.wrap .i64 (s12.2.2.2+(1:Int))))
 else
 some
 (.inr (s12.1,s12.2.1,s12.2.2.1)))
 (x10.1,x10.2.1,x10.2.2,(0:Int)))
 fun x45=>
 some
 (.inl
 (x45.1,x45.2.1,x45.2.2,
 IntKind.wrap .i64 (s2.2.2.2+(1:Int))))
 else some (.inr (s2.1,s2.2.1,s2.2.2.1)))
 (s1.1,s1.2.1,false,(0:Int)))
 fun x46=>some (.inl (x46.1,x46.2.1,x46.2.2))
 else some (.inr (s1.1,s1.2.1.1,s1.2.1.2.1,s1.2.1.2.2.1,())))
 ((([]:List (List (El Y4))),([]:List (List (El Y4))),([]:List (El Y4)),()),x0,true))
 fun x47=>some x47.2
abbrev F75A:Zao:=(.cons (.pd Y31) (.cons (.pd Y33) .nil))
abbrev F75R:Zao:=(.cons (.pd Y80) .nil)
def F75S:Tr.Spec:= {args:=F75A,res:=F75R,fns:=[],α:=El Y80,f:=fun x=>F75 x.1 x.2.1,unp:=fun z=>(((),(),()),(z,())) }
def F75M:List (Nat×List Tr.Spec):=[(44,[F83S]),(45,[F85S]),(46,[F84S]),(47,[F82S]),(48,[F70S]),(49,[F77S])]
def F75H:ZaW:=(.seq .leaf (.seq .leaf (.seq (.seq .leaf (.lp ⟨[(4,Pz6),(5,Pz6),(6,(.pd Y4))],[],[2,3],[],[],[]⟩ [((.exit 0),⟨[(4,Pz6),(5,Pz6)],[],[],[],[],[]⟩)] (.seq .leaf (.seq .leaf (.seq .leaf (.lp ⟨[(4,Pz6),(5,Pz6),(6,(.pd Y4)),(7,(.pd Y3))],[],[2,3],[],[],[]⟩ [((.exit 2),⟨[(4,Pz6),(5,Pz6),(6,(.pd Y4))],[],[2,3],[],[],[]⟩)] (.seq .leaf (.seq (.seq .leaf (.seq (.seq (.reg [(36,Y4)]) (.cnd (some (⟨[],[],[2,3,7],[],[],[]⟩,[(.normal,⟨[(4,Pz6),(5,Pz6),(6,(.pd Y4))],[],[2,3,7],[],[],[]⟩)])) .leaf .leaf)) (.seq .leaf (.seq .leaf (.lp ⟨[(4,Pz6),(5,Pz6),(6,(.pd Y4)),(9,(.pd Y3))],[],[2,3,7,8],[],[],[]⟩ [((.exit 4),⟨[(4,Pz6),(5,Pz6),(6,(.pd Y4))],[],[2,3,7],[],[],[]⟩)] (.seq .leaf (.seq (.seq (.seq (.reg [(76,Y4)]) (.cnd (some (⟨[],[],[2,3,7,8,9],[],[],[]⟩,[(.normal,⟨[(4,Pz6),(5,Pz6),(6,(.pd Y4))],[],[2,3,7,8,9],[],[],[]⟩)])) .leaf .leaf)) (.seq (.reg [(115,Y4)]) .leaf)) .leaf))))))) .leaf)))))))) .leaf)))
def F75V (a0:El Y31) (a1:El Y33):Option (El Y80):=Zaz (mkE tyTab mapTab pkTab [77] [80] F75M 124 bdTab) (Zam Tryz.f27) Tryz.f27.results F75H F75A F75R (fun y=>y.2.1) (a0,a1,())
theorem F75_eq (a0:El Y31) (a1:El Y33):F75V a0 a1=F75 a0 a1:=by kernel_rfl
theorem F75_ok:ZaV Tryz.prog 27 F75S:=Zag (m:=F75M) (fn:=Tryz.f27) (hint:=F75H) (pack:=fun y=>y.2.1) Za4 tab_ok ⟨⟨F83_ok,trivial⟩,⟨F85_ok,trivial⟩,⟨F84_ok,trivial⟩,⟨F82_ok,trivial⟩,⟨F70_ok,trivial⟩,⟨F77_ok,trivial⟩,trivial⟩ fun x z h=>(F75_eq x.1 x.2.1).trans h
def F73: (El Y31)→(El Y33)→Option (El Y36×El Y37):=fun a0 a1=>
 (F74 a0 a1).bind fun x0=>
 bif !decide (x0=(0:Int)) then some ([],x0)
 else
 Option.bind
 (run
 (fun s1=>
 bif decide (s1.2< (↑(List.length a0.1):Int)) then
 Option.bind (Zaq (decide (List.length s1.1+List.length [(-1:Int)]≤Zas))) fun _=>
 some (.inl (s1.1++[(-1:Int)],IntKind.wrap .i64 (s1.2+(1:Int))))
 else some (.inr s1.1))
 ([],(0:Int)))
 fun x3=>
 (inb a1.1 (List.length x3)).bind fun x4=>
 Option.bind x3[x4]? fun _=>
 Option.bind
 (run
 (fun s6=>
 bif decide (s6.2< (↑(List.length a0.1):Int)) then
 (F86 a0 a1 a1.1 s6.2).bind fun x7=>
 bif x7.2 then
 (inb s6.2 (List.length s6.1)).bind fun x8=>
 Option.bind s6.1[x8]? fun x9=>
 (F79 x9 (IntKind.wrap .i64 (a1.2.2.1+x7.1))).bind fun x10=>
 (inb s6.2 (List.length s6.1)).bind fun x11=>
 Option.bind s6.1[x11]? fun _=>some (.inl (List.set s6.1 x11 x10,IntKind.wrap .i64 (s6.2+(1:Int))))
 else some (.inl (s6.1,IntKind.wrap .i64 (s6.2+(1:Int))))
 else some (.inr s6.1))
 (List.set x3 x4 a1.2.2.1,(0:Int)))
 fun x13=>
 (F75 a0 a1).bind fun x14=>
 Option.bind
 (run
 (fun s15=>
 bif decide (s15.2< (↑(List.length a0.2.2.1):Int)) then
 Option.bind
 (run
 (fun s16=>
 (idx a0.2.2.1 s15.2).bind fun x17=>
 bif decide (s16.2< (↑(List.length x17.2.2.2.2.2.2.2.1):Int)) then
 (idx x14.2.1 s15.2).bind fun x18=>
 (idx x18 s16.2).bind fun x19=>
 bif !x19 then some (.inl (s16.1,IntKind.wrap .i64 (s16.2+(1:Int))))
 else
 (idx a0.2.2.1 s15.2).bind fun x20=>
 (idx x20.2.2.2.2.2.2.2.1 s16.2).bind fun x21=>
 (inb x21.1 (List.length s16.1)).bind fun x22=>
 Option.bind s16.1[x22]? fun x23=>
 (F79 x23 x21.2.1).bind fun x24=>
 (inb x21.1 (List.length s16.1)).bind fun x25=>
 Option.bind s16.1[x25]? fun _=>
 Option.bind
 (run
 (fun s27=>
 bif decide (s27.2< (↑(List.length a0.1):Int)) then
 (F86 a0 a1 x21.1 s27.2).bind fun x28=>
 bif x28.2 then
 (inb s27.2 (List.length s27.1)).bind fun x29=>
 Option.bind s27.1[x29]? fun x30=>
 (F79 x30 (IntKind.wrap .i64 (x21.2.1+x28.1))).bind fun x31=>
 (inb s27.2 (List.length s27.1)).bind fun x32=>
 Option.bind s27.1[x32]? fun _=>
 some (.inl (List.set s27.1 x32 x31,IntKind.wrap .i64 (s27.2+(1:Int))))
 else some (.inl (s27.1,IntKind.wrap .i64 (s27.2+(1:Int))))
 else some (.inr s27.1))
 (List.set s16.1 x25 x24,(0:Int)))
 fun x34=>some (.inl (x34,IntKind.wrap .i64 (s16.2+(1:Int))))
 else some (.inr s16.1))
 (s15.1,(0:Int)))
 fun x35=>some (.inl (x35,IntKind.wrap .i64 (s15.2+(1:Int))))
 else some (.inr s15.1))
 (x13,(0:Int)))
 fun x36=>some (x36,(0:Int))
abbrev F73A:Zao:=(.cons (.pd Y31) (.cons (.pd Y33) .nil))
abbrev F73R:Zao:=(.cons (.pd Y36) (.cons (.pd Y37) .nil))
def F73S:Tr.Spec:= {args:=F73A,res:=F73R,fns:=[],α:=El Y36×El Y37,f:=fun x=>F73 x.1 x.2.1,unp:=fun z=>(((),(),()),(z.1,z.2,())) }
def F73M:List (Nat×List Tr.Spec):=[(20,[F74S]),(25,[F86S]),(26,[F79S]),(27,[F75S])]
def F73H:ZaW:=(.seq .leaf (.seq .leaf (.seq .leaf (.seq (.seq .leaf (.lp ⟨[(7,(.own Y3 false)),(8,(.pd Y3))],[],[2,3],[],[],[]⟩ [((.exit 0),⟨[(7,(.own Y3 false))],[],[2,3],[],[],[]⟩)] .leaf)) (.seq .leaf (.seq (.seq .leaf (.lp ⟨[(7,(.own Y3 false)),(9,(.pd Y3))],[],[2,3],[],[],[]⟩ [((.exit 2),⟨[(7,(.own Y3 false))],[],[2,3],[],[],[]⟩)] .leaf)) (.seq .leaf (.seq (.seq .leaf (.lp ⟨[(7,(.own Y3 false)),(13,(.pd Y3))],[],[2,3,12],[],[],[]⟩ [((.exit 4),⟨[(7,(.own Y3 false))],[],[],[],[],[]⟩)] (.seq .leaf (.seq (.seq .leaf (.lp ⟨[(7,(.own Y3 false)),(14,(.pd Y3))],[],[2,3,12,13],[],[],[]⟩ [((.exit 6),⟨[(7,(.own Y3 false))],[],[2,3,12,13],[],[],[]⟩)] (.seq .leaf (.seq (.seq .leaf (.seq .leaf (.seq .leaf (.seq .leaf (.lp ⟨[(7,(.own Y3 false)),(16,(.pd Y3))],[],[2,3,12,13,14,15],[],[],[]⟩ [((.exit 8),⟨[(7,(.own Y3 false))],[],[2,3,12,13,14],[],[],[]⟩)] .leaf))))) .leaf)))) .leaf)))) .leaf))))))))
def F73V (a0:El Y31) (a1:El Y33):Option (El Y36×El Y37):=Zaz (mkE tyTab mapTab pkTab [] [] F73M 151 bdTab) (Zam Tryz.f11) Tryz.f11.results F73H F73A F73R (fun y=>(y.2.1,y.2.2.1)) (a0,a1,())
theorem F73_eq (a0:El Y31) (a1:El Y33):F73V a0 a1=F73 a0 a1:=by kernel_rfl
theorem F73_ok:ZaV Tryz.prog 11 F73S:=Zag (m:=F73M) (fn:=Tryz.f11) (hint:=F73H) (pack:=fun y=>(y.2.1,y.2.2.1)) Za4 tab_ok ⟨⟨F74_ok,trivial⟩,⟨F86_ok,trivial⟩,⟨F79_ok,trivial⟩,⟨F75_ok,trivial⟩,trivial⟩ fun x z h=>(F73_eq x.1 x.2.1).trans h
def F76: (El Y31)→(El Y33)→(El Y3)→Option (El Y36×El Y37):=fun a0 a1 a2=>
 (F73 a0 a1).bind fun x0=>
 bif !decide (x0.2=(0:Int)) then some ([],x0.2)
 else
 Option.bind
 (run
 (fun s1=>
 bif decide (s1.2< (↑(List.length x0.1):Int)) then
 Option.bind
 ((idx x0.1 s1.2).bind fun x2=>
 bif decide ((0:Int)≤x2) then (idx x0.1 s1.2).bind fun x3=>some (decide (x3≤a2)) else some false)
 fun x4=>
 bif x4 then
 Option.bind (Zaq (decide (List.length s1.1+List.length [s1.2]≤Zas))) fun _=>
 some (.inl (s1.1++[s1.2],IntKind.wrap .i64 (s1.2+(1:Int))))
 else some (.inl (s1.1,IntKind.wrap .i64 (s1.2+(1:Int))))
 else some (.inr s1.1))
 ([],(0:Int)))
 fun x6=>some (x6,(0:Int))
abbrev F76A:Zao:=(.cons (.pd Y31) (.cons (.pd Y33) (.cons (.pd Y3) .nil)))
abbrev F76R:Zao:=(.cons (.pd Y36) (.cons (.pd Y37) .nil))
def F76S:Tr.Spec:= {args:=F76A,res:=F76R,fns:=[],α:=El Y36×El Y37,f:=fun x=>F76 x.1 x.2.1 x.2.2.1,unp:=fun z=>(((),(),(),()),(z.1,z.2,())) }
def F76M:List (Nat×List Tr.Spec):=[(11,[F73S])]
def F76H:ZaW:=(.seq .leaf (.seq .leaf (.seq .leaf (.seq .leaf (.seq (.seq .leaf (.lp ⟨[(10,(.own Y3 false)),(11,(.pd Y3))],[],[2,8],[],[],[]⟩ [((.exit 0),⟨[(10,(.own Y3 false))],[],[],[],[],[]⟩)] (.seq .leaf (.seq (.seq (.reg [(39,Y4)]) .leaf) .leaf)))) .leaf)))))
def F76V (a0:El Y31) (a1:El Y33) (a2:El Y3):Option (El Y36×El Y37):=Zaz (mkE tyTab mapTab pkTab [] [] F76M 45 bdTab) (Zam Tryz.f13) Tryz.f13.results F76H F76A F76R (fun y=>(y.2.1,y.2.2.1)) (a0,a1,a2,())
theorem F76_eq (a0:El Y31) (a1:El Y33) (a2:El Y3):F76V a0 a1 a2=F76 a0 a1 a2:=by kernel_rfl
theorem F76_ok:ZaV Tryz.prog 13 F76S:=Zag (m:=F76M) (fn:=Tryz.f13) (hint:=F76H) (pack:=fun y=>(y.2.1,y.2.2.1)) Za4 tab_ok ⟨⟨F73_ok,trivial⟩,trivial⟩ fun x z h=>(F76_eq x.1 x.2.1 x.2.2.1).trans h
def F31: (El Y31)→(El Y33)→(El Y3)→Option (El Y4):=fun a0 a1 a2=>
 (F35 a0).bind fun x0=>
 bif x0 then Option.bind F34 fun x1=>some x1
 else
 (F89 a0 a1).bind fun x2=>
 (F73 a0 a1).bind fun x3=>
 (F91 a0 a1 a2).bind fun x4=>
 (F76 a0 a1 a2).bind fun x5=>
 Option.bind
 ((F54 x2.1 x3.1).bind fun x6=>
 bif x6 then
 bif decide (x2.2=x3.2) then
 (F54 x4.1 x5.1).bind fun x7=>
 bif x7 then bif decide (x4.2=x5.2) then Option.bind F34 fun x8=>some x8 else some false else some false
 else some false
 else some false)
 fun x9=>some x9
abbrev F31A:Zao:=(.cons (.pd Y31) (.cons (.pd Y33) (.cons (.pd Y3) .nil)))
abbrev F31R:Zao:=(.cons (.pd Y4) .nil)
def F31S:Tr.Spec:= {args:=F31A,res:=F31R,fns:=[],α:=El Y4,f:=fun x=>F31 x.1 x.2.1 x.2.2.1,unp:=fun z=>(((),(),(),()),(z,())) }
def F31M:List (Nat×List Tr.Spec):=[(8,[F35S]),(9,[F34S]),(10,[F89S]),(11,[F73S]),(12,[F91S]),(13,[F76S]),(14,[F54S])]
def F31H:ZaW:=(.seq .leaf (.seq .leaf (.seq .leaf (.seq .leaf (.seq .leaf (.seq .leaf (.seq (.reg [(6,Y4)]) .leaf)))))))
def F31V (a0:El Y31) (a1:El Y33) (a2:El Y3):Option (El Y4):=Zaz (mkE tyTab mapTab pkTab [] [] F31M 65 bdTab) (Zam Tryz.f3) Tryz.f3.results F31H F31A F31R (fun y=>y.2.1) (a0,a1,a2,())
theorem F31_eq (a0:El Y31) (a1:El Y33) (a2:El Y3):F31V a0 a1 a2=F31 a0 a1 a2:=by kernel_rfl
theorem F31_ok:ZaV Tryz.prog 3 F31S:=Zag (m:=F31M) (fn:=Tryz.f3) (hint:=F31H) (pack:=fun y=>y.2.1) Za4 tab_ok ⟨⟨F35_ok,trivial⟩,⟨F34_ok,trivial⟩,⟨F89_ok,trivial⟩,⟨F73_ok,trivial⟩,⟨F91_ok,trivial⟩,⟨F76_ok,trivial⟩,⟨F54_ok,trivial⟩,trivial⟩ fun x z h=>(F31_eq x.1 x.2.1 x.2.2.1).trans h
end
end Q
