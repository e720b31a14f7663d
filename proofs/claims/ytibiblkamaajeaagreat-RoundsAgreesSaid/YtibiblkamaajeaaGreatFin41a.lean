/- The functions of the program as functions of Lean, and that the program computes them; printed by a program of mine. Conditions: none. -/
import Derived.KernelRfl
import Derived.Test.YtibiblkamaajeaaGreatProg
import Derived.Test.YtibiblkamaajeaaGreatTsE
import Derived.Test.YtibiblkamaajeaaGreatTtB
import Derived.Test.YtibiblkamaajeaaGreatLay41
import Derived.Test.YtibiblkamaajeaaGreatUse41
open Tr Go Go.Proofs
namespace Q
abbrev Y3:Ty:= .int .i64
abbrev Y4:Ty:= .bool
abbrev Y9:Ty:= .str
abbrev Y83:Ty:= .prod Y9 (.prod Y3 (.prod Y4 (.prod Y3 .unit)))
abbrev Y22:Ty:= .sl Y83
abbrev Y85:Ty:= .prod Y9 (.prod Y3 (.prod Y4 .unit))
abbrev Y23:Ty:= .sl Y85
abbrev Y87:Ty:= .prod Y3 (.prod Y3 (.prod Y3 (.prod Y4 (.prod Y4 .unit))))
abbrev Y58:Ty:= .sl Y87
abbrev Y60:Ty:= .prod Y3 (.prod Y3 (.prod Y3 (.prod Y9 (.prod Y3 (.prod Y4 (.prod Y4 (.prod Y58 .unit)))))))
abbrev Y24:Ty:= .sl Y60
abbrev Y63:Ty:= .prod Y3 (.prod Y3 (.prod Y3 (.prod Y3 (.prod Y4 .unit))))
abbrev Y25:Ty:= .sl Y63
abbrev Y79:Ty:= .prod Y3 (.prod Y3 (.prod Y3 (.prod Y4 .unit)))
abbrev Y26:Ty:= .sl Y79
abbrev Y109:Ty:= .prod Y9 (.prod Y3 (.prod Y3 (.prod Y3 (.prod Y3 (.prod Y3 .unit)))))
abbrev Y27:Ty:= .sl Y109
abbrev Y29:Ty:= .prod Y27 (.prod Y3 (.prod Y3 (.prod Y3 .unit)))
abbrev Y31:Ty:= .prod Y22 (.prod Y23 (.prod Y24 (.prod Y25 (.prod Y26 (.prod Y29 .unit)))))
abbrev Y33:Ty:= .prod Y3 (.prod Y3 (.prod Y3 (.prod Y4 (.prod Y3 (.prod Y3 (.prod Y4 (.prod Y4 (.prod Y3 (.prod Y4 .unit)))))))))
abbrev Y36:Ty:= .int .i64
abbrev Y52:Ty:= .sl Y3
abbrev Y38:Ty:= .sl Y52
abbrev Y66:Ty:= .prod Y4 (.prod Y3 (.prod Y3 (.prod Y3 (.prod Y3 (.prod Y3 (.prod Y3 (.prod Y3 (.prod Y4 .unit))))))))
abbrev Y41:Ty:= .sl Y66
abbrev Y43:Ty:= .prod Y41 .unit
abbrev Y50:Ty:= .sl Y43
abbrev Y74:Ty:= .prod Y3 (.prod Y3 (.prod Y3 (.prod Y3 (.prod Y3 (.prod Y3 .unit)))))
abbrev Y72:Ty:= .sl Y74
abbrev Y69:Ty:= .sl Y72
abbrev Y122:Ty:= .prod Y3 (.prod Y3 (.prod Y4 .unit))
abbrev Y95:Ty:= .sl Y122
abbrev Y104:Ty:= .prod Y66 (.prod Y3 .unit)
abbrev Y97:Ty:= .sl Y104
abbrev Y99:Ty:= .prod Y31 (.prod Y97 (.prod Y72 (.prod Y95 (.prod Y95 (.prod Y52 (.prod Y38 .unit))))))
abbrev Y133:Ty:= .prod Y3 (.prod Y3 (.prod Y3 (.prod Y3 (.prod Y3 .unit))))
abbrev Y177:Ty:= .prod Y3 (.prod Y3 (.prod Y3 (.prod Y3 .unit)))
abbrev Y134:Ty:= .sl Y177
abbrev Y169:Ty:= .prod Y3 (.prod Y3 (.prod Y3 (.prod Y3 .unit)))
abbrev Y155:Ty:= .sl Y169
abbrev Y163:Ty:= .prod Y3 (.prod Y3 (.prod Y36 .unit))
abbrev Y173:Ty:= .prod Y4 (.prod Y3 (.prod Y134 .unit))
abbrev Y171:Ty:= .sl Y173
abbrev Y178:Ty:= .ref
abbrev Y179:Ty:= .sl Y163
abbrev Y183:Ty:= .prod Y9 (.prod Y3 (.prod Y3 .unit))
abbrev Y180:Ty:= .ref
abbrev Y184:Ty:= .ref
abbrev Y185:Ty:= .ref
abbrev Y188:Ty:= .arr 4 Y3
abbrev Y186:Ty:= .ref
abbrev Y190:Ty:= .ref
abbrev Y195:Ty:= .int .u64
abbrev Y198:Ty:= .prod Y3 (.prod Y3 (.prod Y4 .unit))
abbrev Y196:Ty:= .ref
abbrev Y203:Ty:= .ref
abbrev Y206:Ty:= .prod Y3 (.prod Y3 (.prod Y3 .unit))
abbrev Y204:Ty:= .sl Y206
abbrev Y212:Ty:= .ref
abbrev Y228:Ty:= .prod Y3 (.prod Y3 (.prod Y3 .unit))
abbrev Y215:Ty:= .sl Y228
abbrev Y231:Ty:= .ref
abbrev Y245:Ty:= .prod Y228 (.prod Y3 .unit)
abbrev Y241:Ty:= .sl Y245
abbrev Y243:Ty:= .prod Y231 (.prod Y241 (.prod Y3 .unit))
def tyTab:List (Nat×Ty):=[(3,Y3),(4,Y4),(9,Y9),(83,Y83),(22,Y22),(85,Y85),(23,Y23),(87,Y87),(58,Y58),(60,Y60),(24,Y24),(63,Y63),(25,Y25),(79,Y79),(26,Y26),(109,Y109),(27,Y27),(29,Y29),(31,Y31),(33,Y33),(36,Y36),(52,Y52),(38,Y38),(66,Y66),(41,Y41),(43,Y43),(50,Y50),(74,Y74),(72,Y72),(69,Y69),(122,Y122),(95,Y95),(104,Y104),(97,Y97),(99,Y99),(133,Y133),(177,Y177),(134,Y134),(169,Y169),(155,Y155),(163,Y163),(173,Y173),(171,Y171),(178,Y178),(179,Y179),(183,Y183),(180,Y180),(184,Y184),(185,Y185),(188,Y188),(186,Y186),(190,Y190),(195,Y195),(198,Y198),(196,Y196),(203,Y203),(206,Y206),(204,Y204),(212,Y212),(228,Y228),(215,Y215),(231,Y231),(245,Y245),(241,Y241),(243,Y243)]
def mapTab:List (Nat×Ty×Ty):=[(178,Y9,Y4),(180,Y183,Y4),(184,Y3,Y3),(185,Y3,Y4),(186,Y188,Y4),(190,Y79,Y4),(196,Y198,Y4),(203,Y198,Y3),(212,Y3,Y204)]
def pkTab:List (Nat×Nat):=[(229,1),(231,2)]
def bdTab:List (Nat×Nat):=[]
theorem hmix:Tryz.prog.follows .mixedOrders=true:=by kernel_rfl
theorem tab_ok:tabOk Tryz.prog tyTab mapTab pkTab bdTab=true:=by kernel_rfl
abbrev Pz11:Pat:= .agg (.cons (.fn 160 .nil) (.cons (.own Y245 true) (.cons (.pd Y3) .nil)))
abbrev Pz10:Pat:= .agg (.cons (.fn 160 .nil) (.cons (.own Y245 false) (.cons (.pd Y3) .nil)))
abbrev Pz9:Pat:= .var Y243 Pz11
abbrev Pz8:Pat:= .var Y243 Pz10
abbrev Pz7:Pat:= .agg (.cons (.pd Y22) (.cons (.pd Y23) (.cons (.own Y60 false) (.cons (.pd Y25) (.cons (.pd Y26) (.cons (.pd Y29) .nil))))))
abbrev Pz6:Pat:= .var Y31 Pz7
abbrev Pz5:Pat:= .agg (.cons (.pd Y31) (.cons (.own Y104 false) (.cons (.pd Y72) (.cons (.own Y122 false) (.cons (.own Y122 false) (.cons (.own Y3 false) (.cons (.pd Y38) .nil)))))))
abbrev Pz4:Pat:= .agg (.cons (.pd Y31) (.cons (.own Y104 false) (.cons (.own Y74 false) (.cons (.own Y122 false) (.cons (.own Y122 false) (.cons (.own Y3 false) (.cons (.pd Y38) .nil)))))))
abbrev Pz3:Pat:= .var Y99 Pz5
abbrev Pz2:Pat:= .agg (.cons (.pd Y31) (.cons (.own Y104 false) (.cons (.own Y74 false) (.cons (.own Y122 false) (.cons (.own Y122 false) (.cons (.own Y3 false) (.cons (.rows Y3 false) .nil)))))))
abbrev Pz1:Pat:= .var Y99 Pz4
abbrev Pz0:Pat:= .var Y99 Pz2
noncomputable def F31: (El Y31)→Option (El Y4):=fun a0=>
 Option.bind
 (bif decide ((20:Int)< (↑(List.length a0.1):Int)) then some true
 else
 bif decide ((20:Int)< (↑(List.length a0.2.1):Int)) then some true
 else
 bif decide ((20:Int)< (↑(List.length a0.2.2.1):Int)) then some true
 else
 bif decide ((20:Int)< (↑(List.length a0.2.2.2.1):Int)) then some true
 else
 bif decide ((200:Int)< (↑(List.length a0.2.2.2.2.1):Int)) then some true
 else some (decide ((20:Int)< (↑(List.length a0.2.2.2.2.2.1.1):Int))))
 fun x0=>
 bif x0 then some false
 else
 Option.bind
 (Tr.run
 (fun s1=>
 bif decide (s1< (↑(List.length a0.2.2.1):Int)) then
 Option.bind (idx a0.2.2.1 s1) fun x2=>
 bif decide ((40:Int)< (↑(List.length x2.2.2.2.2.2.2.2.1):Int)) then some (.inr (.inr false))
 else some (.inl (IntKind.wrap .i64 (s1+(1:Int))))
 else some (.inr (.inl ())))
 (0:Int))
 fun x3=>Sum.elim (fun _=>some true) (fun y5=>some y5) x3
abbrev F31A:Pats:=(.cons (.pd Y31) .nil)
abbrev F31R:Pats:=(.cons (.pd Y4) .nil)
noncomputable def F31S:Tr.Spec:= {args:=F31A,res:=F31R,fns:=[],α:=El Y4,f:=fun x=>F31 x.1,unp:=fun z=>(((),()),(z,())) }
noncomputable def F31M:List (Nat×List Tr.Spec):=[]
def F31H:Hint:=(.seq .leaf (.seq (.seq (.reg [(38,Y4)]) .leaf) (.seq (.seq .leaf (.lp ⟨[(3,(.pd Y3))],[],[1],[],[],[]⟩ [((.exit 0),⟨[],[],[],[],[],[]⟩),(.ret,⟨[(2,(.pd Y4))],[],[],[],[],[]⟩)] .leaf)) .leaf)))
noncomputable def F31V (a0:El Y31):Option (El Y4):=evalF (mkE tyTab mapTab pkTab [] [] F31M 54 bdTab) (codeOf Tryz.f11) Tryz.f11.results F31H F31A F31R (fun y=>y.2.1) (a0,())
theorem F31_eq (a0:El Y31):F31V a0=F31 a0:=by kernel_rfl
theorem F31_ok:FnOK Tryz.prog 11 F31S:=fnOK_of (m:=F31M) (fn:=Tryz.f11) (hint:=F31H) (pack:=fun y=>y.2.1) hmix tab_ok trivial fun x z h=>(F31_eq x.1).trans h
noncomputable def F25: (El Y9)→Option (El Y4):=fun a0=>
 Option.bind
 (Tr.run
 (fun s0=>
 bif decide (s0< (↑(List.length a0):Int)) then
 Option.bind (idx a0 s0) fun x1=>
 Option.bind (bif decide ((97:Int)≤(↑(UInt8.toNat x1):Int)) then some (decide ((↑(UInt8.toNat x1):Int)≤(122:Int))) else some false)
 fun x2=>
 Option.bind
 (bif x2 then some x2
 else
 Option.bind (bif decide ((65:Int)≤(↑(UInt8.toNat x1):Int)) then some (decide ((↑(UInt8.toNat x1):Int)≤(90:Int))) else some false)
 fun x3=>
 Option.bind
 (bif x3 then some x3
 else
 Option.bind
 (bif decide ((48:Int)≤(↑(UInt8.toNat x1):Int)) then some (decide ((↑(UInt8.toNat x1):Int)≤(57:Int))) else some false)
 fun x4=>some x4)
 fun x5=>some x5)
 fun x6=>
 bif x6 then some (.inl (IntKind.wrap .i64 (s0+(1:Int))))
 else
 Option.bind
 (bif decide ((↑(UInt8.toNat x1):Int)=(45:Int)) then some (decide ((↑(UInt8.toNat x1):Int)=(45:Int)))
 else
 Option.bind
 (bif decide ((↑(UInt8.toNat x1):Int)=(95:Int)) then some (decide ((↑(UInt8.toNat x1):Int)=(95:Int)))
 else some (decide ((↑(UInt8.toNat x1):Int)=(46:Int))))
 fun x7=>some x7)
 fun x8=>bif x8 then some (.inl (IntKind.wrap .i64 (s0+(1:Int)))) else some (.inr (.inr false))
 else some (.inr (.inl ())))
 (0:Int))
 fun x9=>
 Sum.elim
 (fun _=>
 Option.bind (bif decide ((0:Int)< (↑(List.length a0):Int)) then some (decide ((↑(List.length a0):Int)≤(32:Int))) else some false) fun x11=>
 some x11)
 (fun y12=>some y12) x9
abbrev F25A:Pats:=(.cons (.pd Y9) .nil)
abbrev F25R:Pats:=(.cons (.pd Y4) .nil)
noncomputable def F25S:Tr.Spec:= {args:=F25A,res:=F25R,fns:=[],α:=El Y4,f:=fun x=>F25 x.1,unp:=fun z=>(((),()),(z,())) }
noncomputable def F25M:List (Nat×List Tr.Spec):=[]
def F25H:Hint:=(.seq .leaf (.seq (.seq .leaf (.lp ⟨[(3,(.pd Y3))],[],[0],[],[],[]⟩ [((.exit 0),⟨[],[],[0],[],[],[]⟩),(.ret,⟨[(2,(.pd Y4))],[],[],[],[],[]⟩)] (.seq .leaf (.seq (.seq .leaf (.seq (.seq (.reg [(14,Y4)]) (.cnd (some (⟨[],[],[0,3,4],[],[],[]⟩,[(.normal,⟨[(14,(.pd Y4))],[],[0,3,4],[],[],[]⟩)])) .leaf (.seq (.reg [(14,Y4)]) (.cnd (some (⟨[],[],[0,3,4],[],[],[]⟩,[(.normal,⟨[(14,(.pd Y4))],[],[0,3,4],[],[],[]⟩)])) .leaf (.reg [(14,Y4)]))))) (.cnd none .leaf (.seq (.seq .leaf (.cnd (some (⟨[],[],[0,3],[],[],[]⟩,[(.normal,⟨[(33,(.pd Y4))],[],[0,3],[],[],[]⟩)])) .leaf (.seq .leaf (.cnd (some (⟨[],[],[0,3],[],[],[]⟩,[(.normal,⟨[(33,(.pd Y4))],[],[0,3],[],[],[]⟩)])) .leaf .leaf)))) .leaf)))) .leaf)))) (.seq (.reg [(2,Y4)]) .leaf)))
noncomputable def F25V (a0:El Y9):Option (El Y4):=evalF (mkE tyTab mapTab pkTab [] [] F25M 48 bdTab) (codeOf Tryz.f122) Tryz.f122.results F25H F25A F25R (fun y=>y.2.1) (a0,())
theorem F25_eq (a0:El Y9):F25V a0=F25 a0:=by kernel_rfl
theorem F25_ok:FnOK Tryz.prog 122 F25S:=fnOK_of (m:=F25M) (fn:=Tryz.f122) (hint:=F25H) (pack:=fun y=>y.2.1) hmix tab_ok trivial fun x z h=>(F25_eq x.1).trans h
noncomputable def F102: (El Y22)→Option (El Y3×El Y36):=fun a0=>
 bif decide ((64:Int)< (↑(List.length a0):Int)) then some ((0:Int),(5:Int))
 else
 Option.bind
 (Tr.run
 (fun s0=>
 bif decide (s0.2< (↑(List.length a0):Int)) then
 Option.bind (idx a0 s0.2) fun x1=>
 Option.bind (F25 x1.1) fun x2=>
 bif !x2 then some (.inr (.inr (s0.2,(12:Int))))
 else
 bif Option.getD (Tr.amGet (Tr.keyEq Y9) x1.1 s0.1) (false) then some (.inr (.inr (s0.2,(6:Int))))
 else
 Option.bind
 (bif decide (x1.2.1< (0:Int)) then some true
 else
 bif decide ((16:Int)≤x1.2.1) then some true
 else bif decide (x1.2.2.2.1< (0:Int)) then some true else some (decide ((3600:Int)<x1.2.2.2.1)))
 fun x3=>
 bif x3 then some (.inr (.inr (s0.2,(2:Int))))
 else some (.inl (Tr.amSet (Tr.keyEq Y9) x1.1 true s0.1,IntKind.wrap .i64 (s0.2+(1:Int))))
 else some (.inr (.inl ())))
 ([],(0:Int)))
 fun x4=>Sum.elim (fun _=>some ((0:Int),(0:Int))) (fun y6=>some (y6.1,y6.2)) x4
abbrev F102A:Pats:=(.cons (.pd Y22) .nil)
abbrev F102R:Pats:=(.cons (.pd Y3) (.cons (.pd Y36) .nil))
noncomputable def F102S:Tr.Spec:= {args:=F102A,res:=F102R,fns:=[],α:=El Y3×El Y36,f:=fun x=>F102 x.1,unp:=fun z=>(((),()),(z.1,z.2,())) }
noncomputable def F102M:List (Nat×List Tr.Spec):=[(122,[F25S])]
def F102H:Hint:=(.seq .leaf (.seq .leaf (.seq .leaf (.seq (.seq .leaf (.lp ⟨[(4,(.map Y9 Y4)),(13,(.pd Y3))],[],[11,12],[],[],[]⟩ [((.exit 0),⟨[],[],[],[],[],[]⟩),(.ret,⟨[(2,(.pd Y3)),(3,(.pd Y36))],[],[],[],[],[]⟩)] (.seq .leaf (.seq .leaf (.seq (.seq .leaf (.seq (.seq .leaf (.cnd none .leaf (.seq .leaf (.cnd none .leaf (.seq (.reg [(30,Y4)]) .leaf))))) .leaf)) .leaf))))) .leaf))))
noncomputable def F102V (a0:El Y22):Option (El Y3×El Y36):=evalF (mkE tyTab mapTab pkTab [] [] F102M 54 bdTab) (codeOf Tryz.f111) Tryz.f111.results F102H F102A F102R (fun y=>(y.2.1,y.2.2.1)) (a0,())
theorem F102_eq (a0:El Y22):F102V a0=F102 a0:=by kernel_rfl
theorem F102_ok:FnOK Tryz.prog 111 F102S:=fnOK_of (m:=F102M) (fn:=Tryz.f111) (hint:=F102H) (pack:=fun y=>(y.2.1,y.2.2.1)) hmix tab_ok ⟨⟨F25_ok,trivial⟩,trivial⟩ fun x z h=>(F102_eq x.1).trans h
noncomputable def F93: (El Y3)→Option (El Y4):=fun a0=>Option.bind (bif decide ((0:Int)≤a0) then some (decide (a0< (8:Int))) else some false) fun x0=>some x0
abbrev F93A:Pats:=(.cons (.pd Y3) .nil)
abbrev F93R:Pats:=(.cons (.pd Y4) .nil)
noncomputable def F93S:Tr.Spec:= {args:=F93A,res:=F93R,fns:=[],α:=El Y4,f:=fun x=>F93 x.1,unp:=fun z=>(((),()),(z,())) }
noncomputable def F93M:List (Nat×List Tr.Spec):=[]
def F93H:Hint:=(.seq .leaf (.seq (.reg [(2,Y4)]) .leaf))
noncomputable def F93V (a0:El Y3):Option (El Y4):=evalF (mkE tyTab mapTab pkTab [] [] F93M 9 bdTab) (codeOf Tryz.f123) Tryz.f123.results F93H F93A F93R (fun y=>y.2.1) (a0,())
theorem F93_eq (a0:El Y3):F93V a0=F93 a0:=by kernel_rfl
theorem F93_ok:FnOK Tryz.prog 123 F93S:=fnOK_of (m:=F93M) (fn:=Tryz.f123) (hint:=F93H) (pack:=fun y=>y.2.1) hmix tab_ok trivial fun x z h=>(F93_eq x.1).trans h
noncomputable def F92: (El Y23)→Option (El Y3×El Y36):=fun a0=>
 bif decide ((64:Int)< (↑(List.length a0):Int)) then some ((0:Int),(5:Int))
 else
 Option.bind
 (Tr.run
 (fun s0=>
 bif decide (s0.2< (↑(List.length a0):Int)) then
 Option.bind (idx a0 s0.2) fun x1=>
 Option.bind (F25 x1.1) fun x2=>
 bif !x2 then some (.inr (.inr (s0.2,(12:Int))))
 else
 bif Option.getD (Tr.amGet (Tr.keyEq Y9) x1.1 s0.1) (false) then some (.inr (.inr (s0.2,(6:Int))))
 else
 Option.bind (F93 x1.2.1) fun x3=>
 bif !x3 then some (.inr (.inr (s0.2,(2:Int))))
 else some (.inl (Tr.amSet (Tr.keyEq Y9) x1.1 true s0.1,IntKind.wrap .i64 (s0.2+(1:Int))))
 else some (.inr (.inl ())))
 ([],(0:Int)))
 fun x4=>Sum.elim (fun _=>some ((0:Int),(0:Int))) (fun y6=>some (y6.1,y6.2)) x4
abbrev F92A:Pats:=(.cons (.pd Y23) .nil)
abbrev F92R:Pats:=(.cons (.pd Y3) (.cons (.pd Y36) .nil))
noncomputable def F92S:Tr.Spec:= {args:=F92A,res:=F92R,fns:=[],α:=El Y3×El Y36,f:=fun x=>F92 x.1,unp:=fun z=>(((),()),(z.1,z.2,())) }
noncomputable def F92M:List (Nat×List Tr.Spec):=[(122,[F25S]),(123,[F93S])]
def F92H:Hint:=(.seq .leaf (.seq .leaf (.seq .leaf (.seq (.seq .leaf (.lp ⟨[(4,(.map Y9 Y4)),(13,(.pd Y3))],[],[11,12],[],[],[]⟩ [((.exit 0),⟨[],[],[],[],[],[]⟩),(.ret,⟨[(2,(.pd Y3)),(3,(.pd Y36))],[],[],[],[],[]⟩)] .leaf)) .leaf))))
noncomputable def F92V (a0:El Y23):Option (El Y3×El Y36):=evalF (mkE tyTab mapTab pkTab [] [] F92M 37 bdTab) (codeOf Tryz.f112) Tryz.f112.results F92H F92A F92R (fun y=>(y.2.1,y.2.2.1)) (a0,())
theorem F92_eq (a0:El Y23):F92V a0=F92 a0:=by kernel_rfl
theorem F92_ok:FnOK Tryz.prog 112 F92S:=fnOK_of (m:=F92M) (fn:=Tryz.f112) (hint:=F92H) (pack:=fun y=>(y.2.1,y.2.2.1)) hmix tab_ok ⟨⟨F25_ok,trivial⟩,⟨F93_ok,trivial⟩,trivial⟩ fun x z h=>(F92_eq x.1).trans h
noncomputable def F44: (El Y179)→Option (El Y163):=fun a0=>
 Option.bind
 (Tr.run
 (fun s0=>
 bif decide (s0.2< (↑(List.length a0):Int)) then
 Option.bind (idx a0 s0.2) fun x1=>
 bif !decide (x1.2.2.1=(0:Int)) then some (.inr (.inr x1)) else some (.inl (s0.1,IntKind.wrap .i64 (s0.2+(1:Int))))
 else some (.inr (.inl s0.1)))
 (((0:Int),(0:Int),(0:Int),()),(0:Int)))
 fun x2=>Sum.elim (fun _=>some ((0:Int),(0:Int),(0:Int),())) (fun y4=>some y4) x2
abbrev F44A:Pats:=(.cons (.pd Y179) .nil)
abbrev F44R:Pats:=(.cons (.pd Y163) .nil)
noncomputable def F44S:Tr.Spec:= {args:=F44A,res:=F44R,fns:=[],α:=El Y163,f:=fun x=>F44 x.1,unp:=fun z=>(((),()),(z,())) }
noncomputable def F44M:List (Nat×List Tr.Spec):=[]
def F44H:Hint:=(.seq .leaf (.seq (.seq .leaf (.lp ⟨[(2,(.var Y163 (.pd Y163))),(7,(.pd Y3))],[],[5,6],[],[],[]⟩ [((.exit 0),⟨[(2,(.var Y163 (.pd Y163)))],[],[],[],[],[]⟩),(.ret,⟨[(2,(.var Y163 (.pd Y163)))],[],[],[],[],[]⟩)] .leaf)) .leaf))
noncomputable def F44V (a0:El Y179):Option (El Y163):=evalF (mkE tyTab mapTab pkTab [] [] F44M 17 bdTab) (codeOf Tryz.f113) Tryz.f113.results F44H F44A F44R (fun y=>y.2.1) (a0,())
theorem F44_eq (a0:El Y179):F44V a0=F44 a0:=by kernel_rfl
theorem F44_ok:FnOK Tryz.prog 113 F44S:=fnOK_of (m:=F44M) (fn:=Tryz.f113) (hint:=F44H) (pack:=fun y=>y.2.1) hmix tab_ok trivial fun x z h=>(F44_eq x.1).trans h
noncomputable def F53: (El Y3)→(El Y3)→(El Y36)→Option (El Y163):=fun a0 a1 a2=>some (a0,a1,a2,())
abbrev F53A:Pats:=(.cons (.pd Y3) (.cons (.pd Y3) (.cons (.pd Y36) .nil)))
abbrev F53R:Pats:=(.cons (.pd Y163) .nil)
noncomputable def F53S:Tr.Spec:= {args:=F53A,res:=F53R,fns:=[],α:=El Y163,f:=fun x=>F53 x.1 x.2.1 x.2.2.1,unp:=fun z=>(((),(),(),()),(z,())) }
noncomputable def F53M:List (Nat×List Tr.Spec):=[]
def F53H:Hint:= .leaf
noncomputable def F53V (a0:El Y3) (a1:El Y3) (a2:El Y36):Option (El Y163):=evalF (mkE tyTab mapTab pkTab [] [] F53M 11 bdTab) (codeOf Tryz.f114) Tryz.f114.results F53H F53A F53R (fun y=>y.2.1) (a0,a1,a2,())
theorem F53_eq (a0:El Y3) (a1:El Y3) (a2:El Y36):F53V a0 a1 a2=F53 a0 a1 a2:=by kernel_rfl
theorem F53_ok:FnOK Tryz.prog 114 F53S:=fnOK_of (m:=F53M) (fn:=Tryz.f114) (hint:=F53H) (pack:=fun y=>y.2.1) hmix tab_ok trivial fun x z h=>(F53_eq x.1 x.2.1 x.2.2.1).trans h
noncomputable def F1: (El Y58)→(El Y3)→(El Y3)→(El Y3)→(El Y3)→Option (El Y36):=fun a0 a1 a2 a3 a4=>
 Option.bind (idx a0 a1) fun x0=>
 Option.bind (bif decide (x0.1< (0:Int)) then some true else some (decide (a2≤x0.1))) fun x1=>
 bif x1 then some (9:Int)
 else
 Option.bind
 (bif decide ((0:Int)<a1) then Option.bind (idx a0 (IntKind.wrap .i64 (a1 - (1:Int)))) fun x2=>some (decide (x2.1=x0.1))
 else some false)
 fun x3=>
 bif x3 then some (13:Int)
 else
 Option.bind
 (bif decide (x0.2.1<a3) then some true
 else
 bif decide (x0.2.2.1<x0.2.1) then some true
 else
 bif decide (a4<x0.2.2.1) then some true
 else
 bif decide ((0:Int)<a1) then
 Option.bind (idx a0 (IntKind.wrap .i64 (a1 - (1:Int)))) fun x4=>some (decide (x0.2.1<x4.2.2.1))
 else some false)
 fun x5=>bif x5 then some (10:Int) else some (0:Int)
abbrev F1A:Pats:=(.cons (.pd Y58) (.cons (.pd Y3) (.cons (.pd Y3) (.cons (.pd Y3) (.cons (.pd Y3) .nil)))))
abbrev F1R:Pats:=(.cons (.pd Y36) .nil)
noncomputable def F1S:Tr.Spec:= {args:=F1A,res:=F1R,fns:=[],α:=El Y36,f:=fun x=>F1 x.1 x.2.1 x.2.2.1 x.2.2.2.1 x.2.2.2.2.1,unp:=fun z=>(((),(),(),(),(),()),(z,())) }
noncomputable def F1M:List (Nat×List Tr.Spec):=[]
def F1H:Hint:=(.seq .leaf (.seq .leaf (.seq (.seq (.reg [(24,Y4)]) .leaf) (.seq (.seq (.reg [(37,Y4)]) .leaf) (.seq (.seq (.reg [(69,Y4)]) .leaf) .leaf)))))
noncomputable def F1V (a0:El Y58) (a1:El Y3) (a2:El Y3) (a3:El Y3) (a4:El Y3):Option (El Y36):=evalF (mkE tyTab mapTab pkTab [] [] F1M 70 bdTab) (codeOf Tryz.f131) Tryz.f131.results F1H F1A F1R (fun y=>y.2.1) (a0,a1,a2,a3,a4,())
theorem F1_eq (a0:El Y58) (a1:El Y3) (a2:El Y3) (a3:El Y3) (a4:El Y3):F1V a0 a1 a2 a3 a4=F1 a0 a1 a2 a3 a4:=by kernel_rfl
theorem F1_ok:FnOK Tryz.prog 131 F1S:=fnOK_of (m:=F1M) (fn:=Tryz.f131) (hint:=F1H) (pack:=fun y=>y.2.1) hmix tab_ok trivial fun x z h=>(F1_eq x.1 x.2.1 x.2.2.1 x.2.2.2.1 x.2.2.2.2.1).trans h
noncomputable def F0: (El Y58)→(El Y3)→(El Y3)→(El Y3)→Option (El Y3×El Y36):=fun a0 a1 a2 a3=>
 Option.bind (bif decide ((↑(List.length a0):Int)< (2:Int)) then some true else some (decide ((32:Int)< (↑(List.length a0):Int)))) fun x0=>
 bif x0 then some ((0:Int),(5:Int))
 else
 Option.bind
 (Tr.run
 (fun s1=>
 bif decide (s1< (↑(List.length a0):Int)) then
 Option.bind (F1 a0 s1 a1 a2 a3) fun x2=>
 bif !decide (x2=(0:Int)) then some (.inr (.inr (s1,x2))) else some (.inl (IntKind.wrap .i64 (s1+(1:Int))))
 else some (.inr (.inl ())))
 (0:Int))
 fun x3=>Sum.elim (fun _=>some ((0:Int),(0:Int))) (fun y5=>some (y5.1,y5.2)) x3
abbrev F0A:Pats:=(.cons (.pd Y58) (.cons (.pd Y3) (.cons (.pd Y3) (.cons (.pd Y3) .nil))))
abbrev F0R:Pats:=(.cons (.pd Y3) (.cons (.pd Y36) .nil))
noncomputable def F0S:Tr.Spec:= {args:=F0A,res:=F0R,fns:=[],α:=El Y3×El Y36,f:=fun x=>F0 x.1 x.2.1 x.2.2.1 x.2.2.2.1,unp:=fun z=>(((),(),(),(),()),(z.1,z.2,())) }
noncomputable def F0M:List (Nat×List Tr.Spec):=[(131,[F1S])]
def F0H:Hint:=(.seq .leaf (.seq (.seq (.reg [(19,Y4)]) .leaf) (.seq (.seq .leaf (.lp ⟨[(22,(.pd Y3))],[],[0,1,2,3,21],[],[],[]⟩ [((.exit 0),⟨[],[],[],[],[],[]⟩),(.ret,⟨[(8,(.pd Y3)),(9,(.pd Y36))],[],[],[],[],[]⟩)] .leaf)) .leaf)))
noncomputable def F0V (a0:El Y58) (a1:El Y3) (a2:El Y3) (a3:El Y3):Option (El Y3×El Y36):=evalF (mkE tyTab mapTab pkTab [] [] F0M 36 bdTab) (codeOf Tryz.f124) Tryz.f124.results F0H F0A F0R (fun y=>(y.2.1,y.2.2.1)) (a0,a1,a2,a3,())
theorem F0_eq (a0:El Y58) (a1:El Y3) (a2:El Y3) (a3:El Y3):F0V a0 a1 a2 a3=F0 a0 a1 a2 a3:=by kernel_rfl
theorem F0_ok:FnOK Tryz.prog 124 F0S:=fnOK_of (m:=F0M) (fn:=Tryz.f124) (hint:=F0H) (pack:=fun y=>(y.2.1,y.2.2.1)) hmix tab_ok ⟨⟨F1_ok,trivial⟩,trivial⟩ fun x z h=>(F0_eq x.1 x.2.1 x.2.2.1 x.2.2.2.1).trans h
noncomputable def F43: (El Y31)→Option (El Y163):=fun a0=>
 bif decide ((1024:Int)< (↑(List.length a0.2.2.1):Int)) then Option.bind (F53 (2:Int) (0:Int) (5:Int)) fun x0=>some x0
 else
 Option.bind
 (Tr.run
 (fun s1=>
 bif decide (s1.2.2< (↑(List.length a0.2.2.1):Int)) then
 Option.bind (idx a0.2.2.1 s1.2.2) fun x2=>
 Option.bind (F25 x2.2.2.2.1) fun x3=>
 bif !x3 then Option.bind (F53 (2:Int) s1.2.2 (12:Int)) fun x4=>some (.inr (.inr x4))
 else
 Option.bind (bif decide (x2.1< (-1:Int)) then some true else some (decide (x2.2.2.1< (0:Int)))) fun x5=>
 bif x5 then Option.bind (F53 (2:Int) s1.2.2 (2:Int)) fun x6=>some (.inr (.inr x6))
 else
 Option.bind (bif decide (x2.2.1< (0:Int)) then some true else some (decide ((36524:Int)<x2.2.1))) fun x7=>
 bif x7 then Option.bind (F53 (2:Int) s1.2.2 (11:Int)) fun x8=>some (.inr (.inr x8))
 else
 Option.bind
 (bif decide (x2.2.2.2.2.1< (0:Int)) then some true
 else some (decide ((↑(List.length a0.2.1):Int)≤x2.2.2.2.2.1)))
 fun x9=>
 bif x9 then Option.bind (F53 (2:Int) s1.2.2 (9:Int)) fun x10=>some (.inr (.inr x10))
 else
 Option.bind (F0 x2.2.2.2.2.2.2.2.1 (↑(List.length a0.1):Int) (0:Int) (3155932800:Int)) fun x11=>
 bif !decide (x11.2=(0:Int)) then Option.bind (F53 (2:Int) s1.2.2 x11.2) fun x12=>some (.inr (.inr x12))
 else
 bif Option.getD (Tr.amGet (Tr.keyEq Y183) (x2.2.2.2.1,x2.2.1,x2.2.2.1,()) s1.2.1) (false) then
 Option.bind (F53 (2:Int) s1.2.2 (6:Int)) fun x13=>some (.inr (.inr x13))
 else
 some
 (.inl
 (s1.1,Tr.amSet (Tr.keyEq Y183) (x2.2.2.2.1,x2.2.1,x2.2.2.1,()) true s1.2.1,
 IntKind.wrap .i64 (s1.2.2+(1:Int))))
 else some (.inr (.inl s1.1)))
 (((0:Int),(0:Int),(0:Int),()),[],(0:Int)))
 fun x14=>Sum.elim (fun _=>some ((0:Int),(0:Int),(0:Int),())) (fun y16=>some y16) x14
abbrev F43A:Pats:=(.cons (.pd Y31) .nil)
abbrev F43R:Pats:=(.cons (.pd Y163) .nil)
noncomputable def F43S:Tr.Spec:= {args:=F43A,res:=F43R,fns:=[],α:=El Y163,f:=fun x=>F43 x.1,unp:=fun z=>(((),()),(z,())) }
noncomputable def F43M:List (Nat×List Tr.Spec):=[(114,[F53S]),(122,[F25S]),(124,[F0S])]
def F43H:Hint:=(.seq .leaf (.seq .leaf (.seq .leaf (.seq (.seq .leaf (.lp ⟨[(2,(.var Y163 (.pd Y163))),(3,(.map Y183 Y4)),(18,(.pd Y3))],[],[1,16,17],[],[],[]⟩ [((.exit 0),⟨[(2,(.var Y163 (.pd Y163)))],[],[],[],[],[]⟩),(.ret,⟨[(2,(.var Y163 (.pd Y163)))],[],[],[],[],[]⟩)] (.seq .leaf (.seq .leaf (.seq (.seq .leaf (.seq (.seq .leaf (.cnd none .leaf (.seq (.reg [(30,Y4)]) (.cnd none .leaf (.seq (.reg [(41,Y4)]) (.cnd none .leaf (.seq (.reg [(52,Y4)]) .leaf))))))) .leaf)) .leaf))))) .leaf))))
noncomputable def F43V (a0:El Y31):Option (El Y163):=evalF (mkE tyTab mapTab pkTab [] [] F43M 96 bdTab) (codeOf Tryz.f115) Tryz.f115.results F43H F43A F43R (fun y=>y.2.1) (a0,())
theorem F43_eq (a0:El Y31):F43V a0=F43 a0:=by kernel_rfl
theorem F43_ok:FnOK Tryz.prog 115 F43S:=fnOK_of (m:=F43M) (fn:=Tryz.f115) (hint:=F43H) (pack:=fun y=>y.2.1) hmix tab_ok ⟨⟨F53_ok,trivial⟩,⟨F25_ok,trivial⟩,⟨F0_ok,trivial⟩,trivial⟩ fun x z h=>(F43_eq x.1).trans h
noncomputable def F54: (El Y3)→(El Y3)→Option (El Y4):=fun a0 a1=>Option.bind (bif decide ((0:Int)≤a0) then some (decide (a0<a1)) else some false) fun x0=>some x0
abbrev F54A:Pats:=(.cons (.pd Y3) (.cons (.pd Y3) .nil))
abbrev F54R:Pats:=(.cons (.pd Y4) .nil)
noncomputable def F54S:Tr.Spec:= {args:=F54A,res:=F54R,fns:=[],α:=El Y4,f:=fun x=>F54 x.1 x.2.1,unp:=fun z=>(((),(),()),(z,())) }
noncomputable def F54M:List (Nat×List Tr.Spec):=[]
def F54H:Hint:=(.seq .leaf (.seq (.reg [(4,Y4)]) .leaf))
noncomputable def F54V (a0:El Y3) (a1:El Y3):Option (El Y4):=evalF (mkE tyTab mapTab pkTab [] [] F54M 12 bdTab) (codeOf Tryz.f125) Tryz.f125.results F54H F54A F54R (fun y=>y.2.1) (a0,a1,())
theorem F54_eq (a0:El Y3) (a1:El Y3):F54V a0 a1=F54 a0 a1:=by kernel_rfl
theorem F54_ok:FnOK Tryz.prog 125 F54S:=fnOK_of (m:=F54M) (fn:=Tryz.f125) (hint:=F54H) (pack:=fun y=>y.2.1) hmix tab_ok trivial fun x z h=>(F54_eq x.1 x.2.1).trans h
noncomputable def F52: (List (El Y3×El Y3))→(El Y3)→(El Y3)→Option (List (El Y3×El Y3) ×El Y4):=fun a0 a1 a2=>
 Option.bind
 (Tr.run
 (fun s0=>
 bif s0.2 then
 bif decide (s0.1=a2) then some (.inr (.inr true))
 else some (.inl (Option.getD (Tr.amGet (Tr.keyEq Y3) s0.1 a0) ((0:Int)),Option.isSome (Tr.amGet (Tr.keyEq Y3) s0.1 a0)))
 else some (.inr (.inl ())))
 (Option.getD (Tr.amGet (Tr.keyEq Y3) a1 a0) ((0:Int)),Option.isSome (Tr.amGet (Tr.keyEq Y3) a1 a0)))
 fun x1=>Sum.elim (fun _=>some (a0,false)) (fun y3=>some (a0,y3)) x1
abbrev F52A:Pats:=(.cons (.map Y3 Y3) (.cons (.pd Y3) (.cons (.pd Y3) .nil)))
abbrev F52R:Pats:=(.cons (.pd Y4) .nil)
noncomputable def F52S:Tr.Spec:= {args:=F52A,res:=F52R,fns:=[],α:=List (El Y3×El Y3) ×El Y4,f:=fun x=>F52 x.1 x.2.1 x.2.2.1,unp:=fun z=>((z.1,(),(),()),(z.2,())) }
noncomputable def F52M:List (Nat×List Tr.Spec):=[]
def F52H:Hint:=(.seq .leaf (.seq (.seq .leaf (.lp ⟨[(7,(.pd Y3)),(8,(.pd Y4))],[],[0,2],[],[],[]⟩ [((.exit 0),⟨[],[],[0],[],[],[]⟩),(.ret,⟨[(6,(.pd Y4))],[],[0],[],[],[]⟩)] .leaf)) .leaf))
noncomputable def F52V (a0:List (El Y3×El Y3)) (a1:El Y3) (a2:El Y3):Option (List (El Y3×El Y3) ×El Y4):=evalF (mkE tyTab mapTab pkTab [] [] F52M 25 bdTab) (codeOf Tryz.f126) Tryz.f126.results F52H F52A F52R (fun y=>(y.1.1,y.2.1)) (a0,a1,a2,())
theorem F52_eq (a0:List (El Y3×El Y3)) (a1:El Y3) (a2:El Y3):F52V a0 a1 a2=F52 a0 a1 a2:=by kernel_rfl
theorem F52_ok:FnOK Tryz.prog 126 F52S:=fnOK_of (m:=F52M) (fn:=Tryz.f126) (hint:=F52H) (pack:=fun y=>(y.1.1,y.2.1)) hmix tab_ok trivial fun x z h=>(F52_eq x.1 x.2.1 x.2.2.1).trans h
noncomputable def F41: (El Y31)→Option (El Y163):=fun a0=>
 bif decide ((1024:Int)< (↑(List.length a0.2.2.2.1):Int)) then Option.bind (F53 (3:Int) (0:Int) (5:Int)) fun x0=>some x0
 else
 Option.bind
 (Tr.run
 (fun s1=>
 bif decide (s1.2.2.2.2< (↑(List.length a0.2.2.2.1):Int)) then
 Option.bind (idx a0.2.2.2.1 s1.2.2.2.2) fun x2=>
 Option.bind
 (Option.bind (F54 x2.1 (↑(List.length a0.2.2.1):Int)) fun x3=>
 bif !x3 then some true
 else
 Option.bind (F54 x2.2.2.1 (↑(List.length a0.2.2.1):Int)) fun x4=>
 bif !x4 then some true else some (decide (x2.1=x2.2.2.1)))
 fun x5=>
 bif x5 then Option.bind (F53 (3:Int) s1.2.2.2.2 (9:Int)) fun x6=>some (.inr (.inr x6))
 else
 Option.bind (idx a0.2.2.1 x2.1) fun x7=>
 Option.bind (idx a0.2.2.1 x2.2.2.1) fun x8=>
 Option.bind
 (Option.bind (F54 x2.2.1 (↑(List.length x7.2.2.2.2.2.2.2.1):Int)) fun x9=>
 bif !x9 then some true
 else Option.bind (F54 x2.2.2.2.1 (↑(List.length x8.2.2.2.2.2.2.2.1):Int)) fun x10=>some !x10)
 fun x11=>
 bif x11 then Option.bind (F53 (3:Int) s1.2.2.2.2 (9:Int)) fun x12=>some (.inr (.inr x12))
 else
 Option.bind (idx x7.2.2.2.2.2.2.2.1 x2.2.1) fun x13=>
 Option.bind (idx x8.2.2.2.2.2.2.2.1 x2.2.2.2.1) fun x14=>
 bif !decide (x13.1=x14.1) then Option.bind (F53 (3:Int) s1.2.2.2.2 (13:Int)) fun x15=>some (.inr (.inr x15))
 else
 bif x2.2.2.2.2.1 then
 bif !decide (IntKind.wrap .i64 (x2.2.1+(1:Int))=(↑(List.length x7.2.2.2.2.2.2.2.1):Int)) then
 Option.bind (F53 (3:Int) s1.2.2.2.2 (19:Int)) fun x16=>some (.inr (.inr x16))
 else
 bif !decide (x2.2.2.2.1=(0:Int)) then
 Option.bind (F53 (3:Int) s1.2.2.2.2 (19:Int)) fun x17=>some (.inr (.inr x17))
 else
 bif Option.isSome (Tr.amGet (Tr.keyEq Y3) x2.1 s1.2.1) then
 Option.bind (F53 (3:Int) s1.2.2.2.2 (19:Int)) fun x18=>some (.inr (.inr x18))
 else
 bif Option.getD (Tr.amGet (Tr.keyEq Y3) x2.2.2.1 s1.2.2.1) (false) then
 Option.bind (F53 (3:Int) s1.2.2.2.2 (19:Int)) fun x19=>some (.inr (.inr x19))
 else
 Option.bind (F52 s1.2.1 x2.2.2.1 x2.1) fun x20=>
 bif x20.2 then Option.bind (F53 (3:Int) s1.2.2.2.2 (19:Int)) fun x21=>some (.inr (.inr x21))
 else
 bif Option.getD (Tr.amGet (Tr.keyEq Y188) [x2.1,x2.2.1,x2.2.2.1,x2.2.2.2.1] s1.2.2.2.1) (false) then
 Option.bind (F53 (3:Int) s1.2.2.2.2 (6:Int)) fun x22=>some (.inr (.inr x22))
 else
 bif x2.2.2.2.2.1 then
 some
 (.inl
 (s1.1,Tr.amSet (Tr.keyEq Y3) x2.1 x2.2.2.1 x20.1,Tr.amSet (Tr.keyEq Y3) x2.2.2.1 true s1.2.2.1,
 Tr.amSet (Tr.keyEq Y188) [x2.1,x2.2.1,x2.2.2.1,x2.2.2.2.1] true s1.2.2.2.1,
 IntKind.wrap .i64 (s1.2.2.2.2+(1:Int))))
 else
 some
 (.inl
 (s1.1,x20.1,s1.2.2.1,Tr.amSet (Tr.keyEq Y188) [x2.1,x2.2.1,x2.2.2.1,x2.2.2.2.1] true s1.2.2.2.1,
 IntKind.wrap .i64 (s1.2.2.2.2+(1:Int))))
 else
 bif Option.getD (Tr.amGet (Tr.keyEq Y188) [x2.1,x2.2.1,x2.2.2.1,x2.2.2.2.1] s1.2.2.2.1) (false) then
 Option.bind (F53 (3:Int) s1.2.2.2.2 (6:Int)) fun x23=>some (.inr (.inr x23))
 else
 bif x2.2.2.2.2.1 then
 some
 (.inl
 (s1.1,Tr.amSet (Tr.keyEq Y3) x2.1 x2.2.2.1 s1.2.1,Tr.amSet (Tr.keyEq Y3) x2.2.2.1 true s1.2.2.1,
 Tr.amSet (Tr.keyEq Y188) [x2.1,x2.2.1,x2.2.2.1,x2.2.2.2.1] true s1.2.2.2.1,
 IntKind.wrap .i64 (s1.2.2.2.2+(1:Int))))
 else
 some
 (.inl
 (s1.1,s1.2.1,s1.2.2.1,Tr.amSet (Tr.keyEq Y188) [x2.1,x2.2.1,x2.2.2.1,x2.2.2.2.1] true s1.2.2.2.1,
 IntKind.wrap .i64 (s1.2.2.2.2+(1:Int))))
 else some (.inr (.inl s1.1)))
 (((0:Int),(0:Int),(0:Int),()),[],[],[],(0:Int)))
 fun x24=>Sum.elim (fun _=>some ((0:Int),(0:Int),(0:Int),())) (fun y26=>some y26) x24
abbrev F41A:Pats:=(.cons (.pd Y31) .nil)
abbrev F41R:Pats:=(.cons (.pd Y163) .nil)
noncomputable def F41S:Tr.Spec:= {args:=F41A,res:=F41R,fns:=[],α:=El Y163,f:=fun x=>F41 x.1,unp:=fun z=>(((),()),(z,())) }
noncomputable def F41M:List (Nat×List Tr.Spec):=[(114,[F53S]),(125,[F54S]),(126,[F52S])]
def F41H:Hint:=(.seq .leaf (.seq .leaf (.seq .leaf (.seq .leaf (.seq (.seq .leaf (.lp ⟨[(2,(.var Y163 (.pd Y163))),(3,(.map Y3 Y3)),(4,(.map Y3 Y4)),(5,(.map Y188 Y4)),(24,(.pd Y3))],[],[1,22,23],[],[],[]⟩ [((.exit 0),⟨[(2,(.var Y163 (.pd Y163)))],[],[],[],[],[]⟩),(.ret,⟨[(2,(.var Y163 (.pd Y163)))],[],[],[],[],[]⟩)] (.seq .leaf (.seq .leaf (.seq (.seq .leaf (.seq (.seq (.reg [(51,Y4)]) .leaf) (.seq .leaf (.seq (.seq (.reg [(81,Y4)]) .leaf) .leaf)))) .leaf))))) .leaf)))))
noncomputable def F41V (a0:El Y31):Option (El Y163):=evalF (mkE tyTab mapTab pkTab [] [] F41M 171 bdTab) (codeOf Tryz.f116) Tryz.f116.results F41H F41A F41R (fun y=>y.2.1) (a0,())
theorem F41_eq (a0:El Y31):F41V a0=F41 a0:=by kernel_rfl
theorem F41_ok:FnOK Tryz.prog 116 F41S:=fnOK_of (m:=F41M) (fn:=Tryz.f116) (hint:=F41H) (pack:=fun y=>y.2.1) hmix tab_ok ⟨⟨F53_ok,trivial⟩,⟨F54_ok,trivial⟩,⟨F52_ok,trivial⟩,trivial⟩ fun x z h=>(F41_eq x.1).trans h
noncomputable def F56: (El Y3)→(El Y3)→(El Y3)→Option (El Y4):=fun a0 a1 a2=>Option.bind (bif decide (a1≤a0) then some (decide (a0≤a2)) else some false) fun x0=>some x0
abbrev F56A:Pats:=(.cons (.pd Y3) (.cons (.pd Y3) (.cons (.pd Y3) .nil)))
abbrev F56R:Pats:=(.cons (.pd Y4) .nil)
noncomputable def F56S:Tr.Spec:= {args:=F56A,res:=F56R,fns:=[],α:=El Y4,f:=fun x=>F56 x.1 x.2.1 x.2.2.1,unp:=fun z=>(((),(),(),()),(z,())) }
noncomputable def F56M:List (Nat×List Tr.Spec):=[]
def F56H:Hint:=(.seq .leaf (.seq (.reg [(6,Y4)]) .leaf))
noncomputable def F56V (a0:El Y3) (a1:El Y3) (a2:El Y3):Option (El Y4):=evalF (mkE tyTab mapTab pkTab [] [] F56M 15 bdTab) (codeOf Tryz.f127) Tryz.f127.results F56H F56A F56R (fun y=>y.2.1) (a0,a1,a2,())
theorem F56_eq (a0:El Y3) (a1:El Y3) (a2:El Y3):F56V a0 a1 a2=F56 a0 a1 a2:=by kernel_rfl
theorem F56_ok:FnOK Tryz.prog 127 F56S:=fnOK_of (m:=F56M) (fn:=Tryz.f127) (hint:=F56H) (pack:=fun y=>y.2.1) hmix tab_ok trivial fun x z h=>(F56_eq x.1 x.2.1 x.2.2.1).trans h
noncomputable def F55: (El Y29)→Option (El Y3×El Y36):=fun a0=>
 Option.bind
 (Option.bind (F56 a0.2.1 (0:Int) (1000000:Int)) fun x0=>
 bif !x0 then some true
 else
 Option.bind (F56 a0.2.2.1 (0:Int) (86400:Int)) fun x1=>
 bif !x1 then some true else Option.bind (F56 a0.2.2.2.1 (0:Int) (1000000:Int)) fun x2=>some !x2)
 fun x3=>
 bif x3 then some ((-1:Int),(2:Int))
 else
 bif decide ((16:Int)< (↑(List.length a0.1):Int)) then some ((0:Int),(5:Int))
 else
 Option.bind
 (Tr.run
 (fun s4=>
 bif decide (s4.2< (↑(List.length a0.1):Int)) then
 Option.bind (idx a0.1 s4.2) fun x5=>
 Option.bind (F25 x5.1) fun x6=>
 bif !x6 then some (.inr (.inr (s4.2,(12:Int))))
 else
 bif Option.getD (Tr.amGet (Tr.keyEq Y9) x5.1 s4.1) (false) then some (.inr (.inr (s4.2,(6:Int))))
 else
 Option.bind
 (Option.bind (F56 x5.2.1 (0:Int) (1000000:Int)) fun x7=>
 bif !x7 then some true
 else
 Option.bind (F56 x5.2.2.1 (1:Int) (8:Int)) fun x8=>
 bif !x8 then some true
 else
 Option.bind (F56 x5.2.2.2.1 (1:Int) (16:Int)) fun x9=>
 bif !x9 then some true
 else
 Option.bind (F56 x5.2.2.2.2.1 (0:Int) (86400:Int)) fun x10=>
 bif !x10 then some true else Option.bind (F56 x5.2.2.2.2.2.1 (1:Int) (255:Int)) fun x11=>some !x11)
 fun x12=>
 bif x12 then some (.inr (.inr (s4.2,(2:Int))))
 else some (.inl (Tr.amSet (Tr.keyEq Y9) x5.1 true s4.1,IntKind.wrap .i64 (s4.2+(1:Int))))
 else some (.inr (.inl ())))
 ([],(0:Int)))
 fun x13=>Sum.elim (fun _=>some ((0:Int),(0:Int))) (fun y15=>some (y15.1,y15.2)) x13
abbrev F55A:Pats:=(.cons (.pd Y29) .nil)
abbrev F55R:Pats:=(.cons (.pd Y3) (.cons (.pd Y36) .nil))
noncomputable def F55S:Tr.Spec:= {args:=F55A,res:=F55R,fns:=[],α:=El Y3×El Y36,f:=fun x=>F55 x.1,unp:=fun z=>(((),()),(z.1,z.2,())) }
noncomputable def F55M:List (Nat×List Tr.Spec):=[(122,[F25S]),(127,[F56S])]
def F55H:Hint:=(.seq .leaf (.seq (.seq (.reg [(22,Y4)]) .leaf) (.seq .leaf (.seq .leaf (.seq (.seq .leaf (.lp ⟨[(4,(.map Y9 Y4)),(31,(.pd Y3))],[],[29,30],[],[],[]⟩ [((.exit 0),⟨[],[],[],[],[],[]⟩),(.ret,⟨[(2,(.pd Y3)),(3,(.pd Y36))],[],[],[],[],[]⟩)] (.seq .leaf (.seq .leaf (.seq (.seq .leaf (.seq .leaf (.seq .leaf (.seq (.seq (.reg [(73,Y4)]) .leaf) .leaf)))) .leaf))))) .leaf)))))
noncomputable def F55V (a0:El Y29):Option (El Y3×El Y36):=evalF (mkE tyTab mapTab pkTab [] [] F55M 79 bdTab) (codeOf Tryz.f117) Tryz.f117.results F55H F55A F55R (fun y=>(y.2.1,y.2.2.1)) (a0,())
theorem F55_eq (a0:El Y29):F55V a0=F55 a0:=by kernel_rfl
theorem F55_ok:FnOK Tryz.prog 117 F55S:=fnOK_of (m:=F55M) (fn:=Tryz.f117) (hint:=F55H) (pack:=fun y=>(y.2.1,y.2.2.1)) hmix tab_ok ⟨⟨F25_ok,trivial⟩,⟨F56_ok,trivial⟩,trivial⟩ fun x z h=>(F55_eq x.1).trans h
noncomputable def F16: (El Y26)→(El Y3)→Option (El Y3×El Y36):=fun a0 a1=>
 Option.bind
 (Tr.run
 (fun s0=>
 bif decide (s0.2< (↑(List.length a0):Int)) then
 Option.bind (idx a0 s0.2) fun x1=>
 Option.bind
 (bif decide (x1.1< (0:Int)) then some (decide (x1.1< (0:Int)))
 else
 Option.bind
 (bif decide (a1≤x1.1) then some (decide (a1≤x1.1))
 else
 Option.bind
 (bif decide (x1.2.1< (0:Int)) then some (decide (x1.2.1< (0:Int)))
 else
 Option.bind (bif decide (a1≤x1.2.1) then some (decide (a1≤x1.2.1)) else some (decide (x1.1=x1.2.1))) fun x2=>
 some x2)
 fun x3=>some x3)
 fun x4=>some x4)
 fun x5=>
 bif x5 then some (.inr (.inr (s0.2,(9:Int))))
 else
 Option.bind
 (bif decide (x1.2.2.1< (1:Int)) then some (decide (x1.2.2.1< (1:Int)))
 else some (decide ((14400:Int)<x1.2.2.1)))
 fun x6=>
 bif x6 then some (.inr (.inr (s0.2,(2:Int))))
 else
 bif Option.getD (Tr.amGet (Tr.keyEq Y198) (x1.1,x1.2.1,x1.2.2.2.1,()) s0.1) (false) then some (.inr (.inr (s0.2,(6:Int))))
 else some (.inl (Tr.amSet (Tr.keyEq Y198) (x1.1,x1.2.1,x1.2.2.2.1,()) true s0.1,IntKind.wrap .i64 (s0.2+(1:Int))))
 else some (.inr (.inl ())))
 ([],(0:Int)))
 fun x7=>Sum.elim (fun _=>some ((0:Int),(0:Int))) (fun y9=>some (y9.1,y9.2)) x7
abbrev F16A:Pats:=(.cons (.pd Y26) (.cons (.pd Y3) .nil))
abbrev F16R:Pats:=(.cons (.pd Y3) (.cons (.pd Y36) .nil))
noncomputable def F16S:Tr.Spec:= {args:=F16A,res:=F16R,fns:=[],α:=El Y3×El Y36,f:=fun x=>F16 x.1 x.2.1,unp:=fun z=>(((),(),()),(z.1,z.2,())) }
noncomputable def F16M:List (Nat×List Tr.Spec):=[]
def F16H:Hint:=(.seq .leaf (.seq .leaf (.seq (.seq .leaf (.lp ⟨[(6,(.map Y198 Y4)),(13,(.pd Y3))],[],[1,11,12],[],[],[]⟩ [((.exit 0),⟨[],[],[],[],[],[]⟩),(.ret,⟨[(4,(.pd Y3)),(5,(.pd Y36))],[],[],[],[],[]⟩)] (.seq .leaf (.seq .leaf (.seq (.seq .leaf (.seq .leaf (.seq (.seq (.seq .leaf (.cnd (some (⟨[],[],[1,6,7,8,9,11,12,13],[],[],[]⟩,[(.normal,⟨[(25,(.pd Y4))],[],[1,6,7,8,9,11,12,13],[],[],[]⟩)])) .leaf (.seq .leaf (.cnd (some (⟨[],[],[1,6,7,8,9,11,12,13],[],[],[]⟩,[(.normal,⟨[(25,(.pd Y4))],[],[1,6,7,8,9,11,12,13],[],[],[]⟩)])) .leaf (.seq .leaf (.cnd (some (⟨[],[],[1,6,7,8,9,11,12,13],[],[],[]⟩,[(.normal,⟨[(25,(.pd Y4))],[],[1,6,7,8,9,11,12,13],[],[],[]⟩)])) .leaf (.seq .leaf (.cnd (some (⟨[],[],[1,6,7,8,9,11,12,13],[],[],[]⟩,[(.normal,⟨[(25,(.pd Y4))],[],[1,6,7,8,9,11,12,13],[],[],[]⟩)])) .leaf .leaf)))))))) (.cnd none .leaf (.seq (.seq .leaf (.cnd (some (⟨[],[],[1,6,7,9,11,12,13],[],[],[]⟩,[(.normal,⟨[(46,(.pd Y4))],[],[1,6,7,9,11,12,13],[],[],[]⟩)])) .leaf .leaf)) .leaf))) .leaf))) .leaf))))) .leaf)))
noncomputable def F16V (a0:El Y26) (a1:El Y3):Option (El Y3×El Y36):=evalF (mkE tyTab mapTab pkTab [] [] F16M 62 bdTab) (codeOf Tryz.f132) Tryz.f132.results F16H F16A F16R (fun y=>(y.2.1,y.2.2.1)) (a0,a1,())
theorem F16_eq (a0:El Y26) (a1:El Y3):F16V a0 a1=F16 a0 a1:=by kernel_rfl
theorem F16_ok:FnOK Tryz.prog 132 F16S:=fnOK_of (m:=F16M) (fn:=Tryz.f132) (hint:=F16H) (pack:=fun y=>(y.2.1,y.2.2.1)) hmix tab_ok trivial fun x z h=>(F16_eq x.1 x.2.1).trans h
noncomputable def F96: (El Y3)→(El Y3)→Option (El Y4):=fun a0 a1=>Option.bind (bif decide (a0< (0:Int)) then some true else some (decide (a1≤a0))) fun x0=>some x0
abbrev F96A:Pats:=(.cons (.pd Y3) (.cons (.ro Y3) .nil))
abbrev F96R:Pats:=(.cons (.pd Y4) .nil)
noncomputable def F96S:Tr.Spec:= {args:=F96A,res:=F96R,fns:=[],α:=El Y4,f:=fun x=>F96 x.1 x.2.1,unp:=fun z=>(((),(),()),(z,())) }
noncomputable def F96M:List (Nat×List Tr.Spec):=[]
def F96H:Hint:=(.seq .leaf (.seq (.reg [(3,Y4)]) .leaf))
noncomputable def F96V (a0:El Y3) (a1:El Y3):Option (El Y4):=evalF (mkE tyTab mapTab pkTab [] [] F96M 11 bdTab) (codeOf Tryz.f158) Tryz.f158.results F96H F96A F96R (fun y=>y.2.1) (a0,a1,())
theorem F96_eq (a0:El Y3) (a1:El Y3):F96V a0 a1=F96 a0 a1:=by kernel_rfl
theorem F96_ok:FnOK Tryz.prog 158 F96S:=fnOK_of (m:=F96M) (fn:=Tryz.f158) (hint:=F96H) (pack:=fun y=>y.2.1) hmix tab_ok trivial fun x z h=>(F96_eq x.1 x.2.1).trans h
noncomputable def F95: (El Y3)→(El Y204)→(El Y52)→Option (El Y36):=fun a0 a1 a2=>
 Option.bind (bif decide (a0< (0:Int)) then some true else some (decide ((64:Int)<a0))) fun x0=>
 bif x0 then some (2:Int)
 else
 bif decide ((4096:Int)< (↑(List.length a1):Int)) then some (5:Int)
 else
 Option.bind
 (Tr.run
 (fun s1=>
 bif decide (s1< (↑(List.length a1):Int)) then
 Option.bind (idx a1 s1) fun x2=>
 Option.bind (F96 x2.1 a0) fun x3=>
 bif x3 then some (.inr (.inr (9:Int)))
 else
 Option.bind (F96 x2.2.1 a0) fun x4=>
 bif x4 then some (.inr (.inr (9:Int)))
 else
 Option.bind (bif decide (x2.2.2.1< (0:Int)) then some true else some (decide ((1073741824:Int)<x2.2.2.1))) fun x5=>
 bif x5 then some (.inr (.inr (2:Int))) else some (.inl (IntKind.wrap .i64 (s1+(1:Int))))
 else some (.inr (.inl ())))
 (0:Int))
 fun x6=>
 Sum.elim
 (fun _=>
 Option.bind
 (Tr.run
 (fun s8=>
 bif decide (s8< (↑(List.length a2):Int)) then
 Option.bind (idx a2 s8) fun x9=>
 Option.bind (F96 x9 a0) fun x10=>
 bif x10 then some (.inr (.inr (9:Int))) else some (.inl (IntKind.wrap .i64 (s8+(1:Int))))
 else some (.inr (.inl ())))
 (0:Int))
 fun x11=>Sum.elim (fun _=>some (0:Int)) (fun y13=>some y13) x11)
 (fun y14=>some y14) x6
abbrev F95A:Pats:=(.cons (.pd Y3) (.cons (.pd Y204) (.cons (.pd Y52) .nil)))
abbrev F95R:Pats:=(.cons (.pd Y36) .nil)
noncomputable def F95S:Tr.Spec:= {args:=F95A,res:=F95R,fns:=[],α:=El Y36,f:=fun x=>F95 x.1 x.2.1 x.2.2.1,unp:=fun z=>(((),(),(),()),(z,())) }
noncomputable def F95M:List (Nat×List Tr.Spec):=[(158,[F96S])]
def F95H:Hint:=(.seq .leaf (.seq (.seq (.reg [(17,Y4)]) .leaf) (.seq .leaf (.seq .leaf (.seq (.seq .leaf (.lp ⟨[(24,(.pd Y3))],[],[2,7,22,23],[],[],[]⟩ [((.exit 0),⟨[],[],[2,7],[],[],[]⟩),(.ret,⟨[(6,(.pd Y36))],[],[],[],[],[]⟩)] (.seq .leaf (.seq .leaf (.seq (.seq .leaf (.seq .leaf (.seq (.reg [(45,Y4)]) .leaf))) .leaf))))) (.seq (.seq .leaf (.lp ⟨[(49,(.pd Y3))],[],[7,47,48],[],[],[]⟩ [((.exit 2),⟨[],[],[],[],[],[]⟩),(.ret,⟨[(6,(.pd Y36))],[],[],[],[],[]⟩)] .leaf)) .leaf))))))
noncomputable def F95V (a0:El Y3) (a1:El Y204) (a2:El Y52):Option (El Y36):=evalF (mkE tyTab mapTab pkTab [] [] F95M 57 bdTab) (codeOf Tryz.f144) Tryz.f144.results F95H F95A F95R (fun y=>y.2.1) (a0,a1,a2,())
theorem F95_eq (a0:El Y3) (a1:El Y204) (a2:El Y52):F95V a0 a1 a2=F95 a0 a1 a2:=by kernel_rfl
theorem F95_ok:FnOK Tryz.prog 144 F95S:=fnOK_of (m:=F95M) (fn:=Tryz.f144) (hint:=F95H) (pack:=fun y=>y.2.1) hmix tab_ok ⟨⟨F96_ok,trivial⟩,trivial⟩ fun x z h=>(F95_eq x.1 x.2.1 x.2.2.1).trans h
noncomputable def F100: (El Y204)→(El Y4)→Option (List (El Y3×List (El Y206))):=fun a0 a1=>
 Option.bind
 (Tr.run
 (fun s0=>
 bif decide (s0.2< (↑(List.length a0):Int)) then
 Option.bind (idx a0 s0.2) fun x1=>
 Option.bind (bif a1 then some (x1.2.1,x1.1,x1.2.2) else some x1) fun x2=>
 Option.bind (guardB (decide (List.length (Option.getD (Tr.amGet (Tr.keyEq Y3) x2.1 s0.1) [])+List.length [x2]≤maxApp))) fun _=>
 Option.bind (guardB (Tr.holeK Y3 (some x2.1) x2.1)) fun _=>
 some (.inl (Tr.amSet (Tr.keyEq Y3) x2.1 (Option.getD (Tr.amGet (Tr.keyEq Y3) x2.1 s0.1) []++[x2]) s0.1,IntKind.wrap .i64 (s0.2+(1:Int))))
 else some (.inr s0.1))
 ([],(0:Int)))
 fun x5=>some x5
abbrev F100A:Pats:=(.cons (.pd Y204) (.cons (.pd Y4) .nil))
abbrev F100R:Pats:=(.cons (.mrows Y3 Y206) .nil)
noncomputable def F100S:Tr.Spec:= {args:=F100A,res:=F100R,fns:=[],α:=List (El Y3×List (El Y206)),f:=fun x=>F100 x.1 x.2.1,unp:=fun z=>(((),(),()),(z,())) }
noncomputable def F100M:List (Nat×List Tr.Spec):=[]
def F100H:Hint:=(.seq .leaf (.seq .leaf (.seq (.seq .leaf (.lp ⟨[(5,(.mrows Y3 Y206)),(11,(.pd Y3))],[],[1,9,10],[],[],[]⟩ [((.exit 0),⟨[(5,(.mrows Y3 Y206))],[],[],[],[],[]⟩)] (.seq .leaf (.seq .leaf (.seq (.seq .leaf (.seq (.seq .leaf (.cnd (some (⟨[],[],[1,5,9,10,11],[],[],[]⟩,[(.normal,⟨[(7,(.var Y206 (.pd Y206)))],[],[1,5,9,10,11],[],[],[]⟩)])) .leaf .leaf)) .leaf)) .leaf))))) .leaf)))
noncomputable def F100V (a0:El Y204) (a1:El Y4):Option (List (El Y3×List (El Y206))):=evalF (mkE tyTab mapTab pkTab [212] [] F100M 34 bdTab) (codeOf Tryz.f145) Tryz.f145.results F100H F100A F100R (fun y=>y.2.1) (a0,a1,())
theorem F100_eq (a0:El Y204) (a1:El Y4):F100V a0 a1=F100 a0 a1:=by kernel_rfl
theorem F100_ok:FnOK Tryz.prog 145 F100S:=fnOK_of (m:=F100M) (fn:=Tryz.f145) (hint:=F100H) (pack:=fun y=>y.2.1) hmix tab_ok trivial fun x z h=>(F100_eq x.1 x.2.1).trans h
noncomputable def F98: (El Y215)→Option (El Y52):=fun a0=>
 Option.bind
 (guardB
 (decide
 ((0:Tr.El (Tr.Ty.int .i64))≤(↑(List.length a0):Int)∧
 (↑(List.length a0):Int)≤(↑(List.length a0):Int)∧(↑(List.length a0):Int)≤(↑maxApp:Tr.El (Tr.Ty.int .i64)))))
 fun _=>
 Option.bind
 (Tr.run
 (fun s1=>
 bif decide (s1.2< (↑(List.length a0):Int)) then
 Option.bind (idx a0 s1.2) fun x2=>
 Option.bind (inb s1.2 (List.length s1.1)) fun x3=>
 Option.bind s1.1[x3]? fun _=>some (.inl (List.set s1.1 x3 x2.2.1,IntKind.wrap .i64 (s1.2+(1:Int))))
 else some (.inr s1.1))
 (List.replicate (Int.toNat (↑(List.length a0):Int)) ((0:Int)),(0:Int)))
 fun x5=>some x5
abbrev F98A:Pats:=(.cons (.pd Y215) .nil)
abbrev F98R:Pats:=(.cons (.pd Y52) .nil)
noncomputable def F98S:Tr.Spec:= {args:=F98A,res:=F98R,fns:=[],α:=El Y52,f:=fun x=>F98 x.1,unp:=fun z=>(((),()),(z,())) }
noncomputable def F98M:List (Nat×List Tr.Spec):=[]
def F98H:Hint:=(.seq .leaf (.seq .leaf (.seq (.seq .leaf (.lp ⟨[(3,(.own Y3 false)),(11,(.pd Y3))],[],[9,10],[],[],[]⟩ [((.exit 0),⟨[(3,(.own Y3 false))],[],[],[],[],[]⟩)] .leaf)) .leaf)))
noncomputable def F98V (a0:El Y215):Option (El Y52):=evalF (mkE tyTab mapTab pkTab [] [] F98M 23 bdTab) (codeOf Tryz.f146) Tryz.f146.results F98H F98A F98R (fun y=>y.2.1) (a0,())
theorem F98_eq (a0:El Y215):F98V a0=F98 a0:=by kernel_rfl
theorem F98_ok:FnOK Tryz.prog 146 F98S:=fnOK_of (m:=F98M) (fn:=Tryz.f146) (hint:=F98H) (pack:=fun y=>y.2.1) hmix tab_ok trivial fun x z h=>(F98_eq x.1).trans h
noncomputable def F99: (El Y228)→(El Y228)→Option (El Y4):=fun a0 a1=>
 Option.bind
 (bif decide (a0.2.1<a1.2.1) then some true
 else bif decide (a0.2.1=a1.2.1) then some (decide (a0.2.2.1<a1.2.2.1)) else some false)
 fun x0=>some x0
abbrev F99A:Pats:=(.cons (.pd Y228) (.cons (.pd Y228) .nil))
abbrev F99R:Pats:=(.cons (.pd Y4) .nil)
noncomputable def F99S:Tr.Spec:= {args:=F99A,res:=F99R,fns:=[],α:=El Y4,f:=fun x=>F99 x.1 x.2.1,unp:=fun z=>(((),(),()),(z,())) }
noncomputable def F99M:List (Nat×List Tr.Spec):=[]
def F99H:Hint:=(.seq .leaf (.seq (.reg [(4,Y4)]) .leaf))
noncomputable def F99V (a0:El Y228) (a1:El Y228):Option (El Y4):=evalF (mkE tyTab mapTab pkTab [] [] F99M 24 bdTab) (codeOf Tryz.f160) Tryz.f160.results F99H F99A F99R (fun y=>y.2.1) (a0,a1,())
theorem F99_eq (a0:El Y228) (a1:El Y228):F99V a0 a1=F99 a0 a1:=by kernel_rfl
theorem F99_ok:FnOK Tryz.prog 160 F99S:=fnOK_of (m:=F99M) (fn:=Tryz.f160) (hint:=F99H) (pack:=fun y=>y.2.1) hmix tab_ok trivial fun x z h=>(F99_eq x.1 x.2.1).trans h
noncomputable def F21: ((Unit×List (El Y245) ×El Y3×Unit))→(El Y3)→(El Y3)→Option ((Unit×List (El Y245) ×El Y3×Unit) ×El Y4):=fun a0 a1 a2=>
 Option.bind (inb a1 (List.length a0.2.1)) fun x0=>
 Option.bind a0.2.1[x0]? fun x1=>
 Option.bind (inb a2 (List.length a0.2.1)) fun x2=>
 Option.bind a0.2.1[x2]? fun x3=>
 Option.bind (F99 x1.1 x3.1) fun x4=>
 bif x4 then some (((),a0.2.1,a0.2.2.1,()),true)
 else
 Option.bind (F99 x3.1 x1.1) fun x5=>
 bif x5 then some (((),a0.2.1,a0.2.2.1,()),false) else some (((),a0.2.1,a0.2.2.1,()),decide (x1.2.1<x3.2.1))
abbrev F21A:Pats:=(.cons Pz9 (.cons (.pd Y3) (.cons (.pd Y3) .nil)))
abbrev F21R:Pats:=(.cons (.pd Y4) .nil)
noncomputable def F21S:Tr.Spec:= {args:=F21A,res:=F21R,fns:=[],α:=(Unit×List (El Y245) ×El Y3×Unit) ×El Y4,f:=fun x=>F21 x.1 x.2.1 x.2.2.1,unp:=fun z=>((z.1,(),(),()),(z.2,())) }
noncomputable def F21M:List (Nat×List Tr.Spec):=[(160,[F99S])]
def F21H:Hint:= .leaf
noncomputable def F21V (a0: (Unit×List (El Y245) ×El Y3×Unit)) (a1:El Y3) (a2:El Y3):Option ((Unit×List (El Y245) ×El Y3×Unit) ×El Y4):=evalF (mkE tyTab mapTab pkTab [] [] F21M 46 bdTab) (codeOf Tryz.f168) Tryz.f168.results F21H F21A F21R (fun y=>(y.1.1,y.2.1)) (a0,a1,a2,())
theorem F21_eq (a0: (Unit×List (El Y245) ×El Y3×Unit)) (a1:El Y3) (a2:El Y3):F21V a0 a1 a2=F21 a0 a1 a2:=by kernel_rfl
theorem F21_ok:FnOK Tryz.prog 168 F21S:=fnOK_of (m:=F21M) (fn:=Tryz.f168) (hint:=F21H) (pack:=fun y=>(y.1.1,y.2.1)) hmix tab_ok ⟨⟨F99_ok,trivial⟩,trivial⟩ fun x z h=>(F21_eq x.1 x.2.1 x.2.2.1).trans h
noncomputable def F23: ((Unit×List (El Y245) ×El Y3×Unit))→(El Y3)→(El Y3)→Option ((Unit×List (El Y245) ×El Y3×Unit)):=fun a0 a1 a2=>
 Option.bind (inb a2 (List.length a0.2.1)) fun x0=>
 Option.bind a0.2.1[x0]? fun x1=>
 Option.bind (inb a1 (List.length a0.2.1)) fun x2=>
 Option.bind a0.2.1[x2]? fun x3=>
 Option.bind (inb a1 (List.length a0.2.1)) fun x4=>
 Option.bind a0.2.1[x4]? fun _=>
 Option.bind (inb a2 (List.length (List.set a0.2.1 x4 x1))) fun x6=>
 Option.bind (List.set a0.2.1 x4 x1)[x6]? fun _=>some ((),List.set (List.set a0.2.1 x4 x1) x6 x3,a0.2.2.1,())
abbrev F23A:Pats:=(.cons Pz9 (.cons (.pd Y3) (.cons (.pd Y3) .nil)))
abbrev F23R:Pats:= .nil
noncomputable def F23S:Tr.Spec:= {args:=F23A,res:=F23R,fns:=[],α:=(Unit×List (El Y245) ×El Y3×Unit),f:=fun x=>F23 x.1 x.2.1 x.2.2.1,unp:=fun z=>((z,(),(),()),()) }
noncomputable def F23M:List (Nat×List Tr.Spec):=[(160,[F99S])]
def F23H:Hint:= .leaf
noncomputable def F23V (a0: (Unit×List (El Y245) ×El Y3×Unit)) (a1:El Y3) (a2:El Y3):Option ((Unit×List (El Y245) ×El Y3×Unit)):=evalF (mkE tyTab mapTab pkTab [] [] F23M 32 bdTab) (codeOf Tryz.f169) Tryz.f169.results F23H F23A F23R (fun y=>y.1.1) (a0,a1,a2,())
theorem F23_eq (a0: (Unit×List (El Y245) ×El Y3×Unit)) (a1:El Y3) (a2:El Y3):F23V a0 a1 a2=F23 a0 a1 a2:=by kernel_rfl
theorem F23_ok:FnOK Tryz.prog 169 F23S:=fnOK_of (m:=F23M) (fn:=Tryz.f169) (hint:=F23H) (pack:=fun y=>y.1.1) hmix tab_ok ⟨⟨F99_ok,trivial⟩,trivial⟩ fun x z h=>(F23_eq x.1 x.2.1 x.2.2.1).trans h
noncomputable def F20: ((Unit×List (El Y245) ×El Y3×Unit))→(El Y228)→Option ((Unit×List (El Y245) ×El Y3×Unit)):=fun a0 a1=>
 Option.bind (guardB (decide (List.length a0.2.1+List.length [(a1,a0.2.2.1,())]≤maxApp))) fun _=>
 Option.bind
 (Tr.run
 (fun s1=>
 bif decide ((0:Int)<s1.2) then
 Option.bind
 (F21 ((),s1.1.2.1,s1.1.2.2.1,()) s1.2
 (IntKind.wrap .i64 (Int.tdiv (IntKind.wrap .i64 (s1.2 - (1:Int))) (2:Int))))
 fun x2=>
 bif x2.2 then
 Option.bind
 (F23 ((),x2.1.2.1,x2.1.2.2.1,()) s1.2
 (IntKind.wrap .i64 (Int.tdiv (IntKind.wrap .i64 (s1.2 - (1:Int))) (2:Int))))
 fun x3=>some (.inl (((),x3.2.1,x3.2.2.1,()),IntKind.wrap .i64 (Int.tdiv (IntKind.wrap .i64 (s1.2 - (1:Int))) (2:Int))))
 else some (.inr ((),x2.1.2.1,x2.1.2.2.1,()))
 else some (.inr ((),s1.1.2.1,s1.1.2.2.1,())))
 (((),a0.2.1++[(a1,a0.2.2.1,())],IntKind.wrap .i64 (a0.2.2.1+(1:Int)),()),
 IntKind.wrap .i64 ((↑(List.length (a0.2.1++[(a1,a0.2.2.1,())])):Int) - (1:Int))))
 fun x4=>some ((),x4.2.1,x4.2.2.1,())
abbrev F20A:Pats:=(.cons Pz9 (.cons (.pd Y228) .nil))
abbrev F20R:Pats:= .nil
noncomputable def F20S:Tr.Spec:= {args:=F20A,res:=F20R,fns:=[],α:=(Unit×List (El Y245) ×El Y3×Unit),f:=fun x=>F20 x.1 x.2.1,unp:=fun z=>((z,(),()),()) }
noncomputable def F20M:List (Nat×List Tr.Spec):=[(160,[F99S]),(168,[F21S]),(169,[F23S])]
def F20H:Hint:=(.seq .leaf (.seq .leaf (.seq .leaf (.seq .leaf (.seq .leaf (.lp ⟨[(0,Pz8),(4,(.pd Y3))],[],[],[],[],[]⟩ [((.exit 0),⟨[(0,Pz8)],[],[],[],[],[]⟩)] .leaf))))))
noncomputable def F20V (a0: (Unit×List (El Y245) ×El Y3×Unit)) (a1:El Y228):Option ((Unit×List (El Y245) ×El Y3×Unit)):=evalF (mkE tyTab mapTab pkTab [] [] F20M 54 bdTab) (codeOf Tryz.f161) Tryz.f161.results F20H F20A F20R (fun y=>y.1.1) (a0,a1,())
theorem F20_eq (a0: (Unit×List (El Y245) ×El Y3×Unit)) (a1:El Y228):F20V a0 a1=F20 a0 a1:=by kernel_rfl
theorem F20_ok:FnOK Tryz.prog 161 F20S:=fnOK_of (m:=F20M) (fn:=Tryz.f161) (hint:=F20H) (pack:=fun y=>y.1.1) hmix tab_ok ⟨⟨F99_ok,trivial⟩,⟨F21_ok,trivial⟩,⟨F23_ok,trivial⟩,trivial⟩ fun x z h=>(F20_eq x.1 x.2.1).trans h
noncomputable def F17: ((Unit×List (El Y245) ×El Y3×Unit))→Option ((Unit×List (El Y245) ×El Y3×Unit) ×El Y3):=fun a0=>some (((),a0.2.1,a0.2.2.1,()),(↑(List.length a0.2.1):Int))
abbrev F17A:Pats:=(.cons Pz9 .nil)
abbrev F17R:Pats:=(.cons (.pd Y3) .nil)
noncomputable def F17S:Tr.Spec:= {args:=F17A,res:=F17R,fns:=[],α:=(Unit×List (El Y245) ×El Y3×Unit) ×El Y3,f:=fun x=>F17 x.1,unp:=fun z=>((z.1,()),(z.2,())) }
noncomputable def F17M:List (Nat×List Tr.Spec):=[(160,[F99S])]
def F17H:Hint:= .leaf
noncomputable def F17V (a0: (Unit×List (El Y245) ×El Y3×Unit)):Option ((Unit×List (El Y245) ×El Y3×Unit) ×El Y3):=evalF (mkE tyTab mapTab pkTab [] [] F17M 10 bdTab) (codeOf Tryz.f173) Tryz.f173.results F17H F17A F17R (fun y=>(y.1.1,y.2.1)) (a0,())
theorem F17_eq (a0: (Unit×List (El Y245) ×El Y3×Unit)):F17V a0=F17 a0:=by kernel_rfl
theorem F17_ok:FnOK Tryz.prog 173 F17S:=fnOK_of (m:=F17M) (fn:=Tryz.f173) (hint:=F17H) (pack:=fun y=>(y.1.1,y.2.1)) hmix tab_ok ⟨⟨F99_ok,trivial⟩,trivial⟩ fun x z h=>(F17_eq x.1).trans h
noncomputable def F18: ((Unit×List (El Y245) ×El Y3×Unit))→Option ((Unit×List (El Y245) ×El Y3×Unit) ×El Y228×El Y4):=fun a0=>
 Option.bind (F17 ((),a0.2.1,a0.2.2.1,())) fun x0=>
 bif decide (x0.2=(0:Int)) then some (((),x0.1.2.1,x0.1.2.2.1,()),((0:Int),(0:Int),(0:Int),()),false)
 else Option.bind (inb (0:Int) (List.length x0.1.2.1)) fun x1=>Option.bind x0.1.2.1[x1]? fun x2=>some (((),x0.1.2.1,x0.1.2.2.1,()),x2.1,true)
abbrev F18A:Pats:=(.cons Pz9 .nil)
abbrev F18R:Pats:=(.cons (.pd Y228) (.cons (.pd Y4) .nil))
noncomputable def F18S:Tr.Spec:= {args:=F18A,res:=F18R,fns:=[],α:=(Unit×List (El Y245) ×El Y3×Unit) ×El Y228×El Y4,f:=fun x=>F18 x.1,unp:=fun z=>((z.1,()),(z.2.1,z.2.2,())) }
noncomputable def F18M:List (Nat×List Tr.Spec):=[(160,[F99S]),(173,[F17S])]
def F18H:Hint:= .leaf
noncomputable def F18V (a0: (Unit×List (El Y245) ×El Y3×Unit)):Option ((Unit×List (El Y245) ×El Y3×Unit) ×El Y228×El Y4):=evalF (mkE tyTab mapTab pkTab [] [] F18M 16 bdTab) (codeOf Tryz.f170) Tryz.f170.results F18H F18A F18R (fun y=>(y.1.1,y.2.1,y.2.2.1)) (a0,())
theorem F18_eq (a0: (Unit×List (El Y245) ×El Y3×Unit)):F18V a0=F18 a0:=by kernel_rfl
theorem F18_ok:FnOK Tryz.prog 170 F18S:=fnOK_of (m:=F18M) (fn:=Tryz.f170) (hint:=F18H) (pack:=fun y=>(y.1.1,y.2.1,y.2.2.1)) hmix tab_ok ⟨⟨F99_ok,trivial⟩,⟨F17_ok,trivial⟩,trivial⟩ fun x z h=>(F18_eq x.1).trans h
noncomputable def F22: ((Unit×List (El Y245) ×El Y3×Unit))→Option ((Unit×List (El Y245) ×El Y3×Unit)):=fun a0=>
 Option.bind
 (Tr.run
 (fun s0=>
 bif decide ((↑(List.length s0.1.2.1):Int)≤IntKind.wrap .i64 (IntKind.wrap .i64 ((2:Int) *s0.2)+(1:Int))) then
 some (.inr ((),s0.1.2.1,s0.1.2.2.1,()))
 else
 bif
 decide
 (IntKind.wrap .i64 (IntKind.wrap .i64 (IntKind.wrap .i64 ((2:Int) *s0.2)+(1:Int))+(1:Int))<
 (↑(List.length s0.1.2.1):Int)) then
 Option.bind
 (F21 ((),s0.1.2.1,s0.1.2.2.1,())
 (IntKind.wrap .i64 (IntKind.wrap .i64 (IntKind.wrap .i64 ((2:Int) *s0.2)+(1:Int))+(1:Int)))
 (IntKind.wrap .i64 (IntKind.wrap .i64 ((2:Int) *s0.2)+(1:Int))))
 fun x1=>
 Option.bind
 (bif x1.2 then
 some
 (((),x1.1.2.1,x1.1.2.2.1,()),
 IntKind.wrap .i64 (IntKind.wrap .i64 (IntKind.wrap .i64 ((2:Int) *s0.2)+(1:Int))+(1:Int)))
 else some (((),x1.1.2.1,x1.1.2.2.1,()),IntKind.wrap .i64 (IntKind.wrap .i64 ((2:Int) *s0.2)+(1:Int))))
 fun x2=>
 Option.bind (F21 ((),x2.1.2.1,x2.1.2.2.1,()) x2.2 s0.2) fun x3=>
 bif !x3.2 then some (.inr ((),x3.1.2.1,x3.1.2.2.1,()))
 else
 Option.bind (F23 ((),x3.1.2.1,x3.1.2.2.1,()) s0.2 x2.2) fun x4=>
 some (.inl (((),x4.2.1,x4.2.2.1,()),x2.2))
 else
 Option.bind
 (F21 ((),s0.1.2.1,s0.1.2.2.1,()) (IntKind.wrap .i64 (IntKind.wrap .i64 ((2:Int) *s0.2)+(1:Int))) s0.2)
 fun x5=>
 bif !x5.2 then some (.inr ((),x5.1.2.1,x5.1.2.2.1,()))
 else
 Option.bind
 (F23 ((),x5.1.2.1,x5.1.2.2.1,()) s0.2
 (IntKind.wrap .i64 (IntKind.wrap .i64 ((2:Int) *s0.2)+(1:Int))))
 fun x6=>some (.inl (((),x6.2.1,x6.2.2.1,()),IntKind.wrap .i64 (IntKind.wrap .i64 ((2:Int) *s0.2)+(1:Int)))))
 (((),a0.2.1,a0.2.2.1,()),(0:Int)))
 fun x7=>some ((),x7.2.1,x7.2.2.1,())
abbrev F22A:Pats:=(.cons Pz9 .nil)
abbrev F22R:Pats:= .nil
noncomputable def F22S:Tr.Spec:= {args:=F22A,res:=F22R,fns:=[],α:=(Unit×List (El Y245) ×El Y3×Unit),f:=fun x=>F22 x.1,unp:=fun z=>((z,()),()) }
noncomputable def F22M:List (Nat×List Tr.Spec):=[(160,[F99S]),(168,[F21S]),(169,[F23S])]
def F22H:Hint:=(.seq .leaf (.lp ⟨[(0,Pz8),(2,(.pd Y3))],[],[],[],[],[]⟩ [(.ret,⟨[(0,Pz8)],[],[],[],[],[]⟩)] (.seq .leaf (.seq .leaf (.seq (.seq .leaf (.cnd (some (⟨[],[],[2],[],[],[]⟩,[(.normal,⟨[(0,Pz8),(3,(.pd Y3))],[],[2],[],[],[]⟩)])) .leaf .leaf)) .leaf)))))
noncomputable def F22V (a0: (Unit×List (El Y245) ×El Y3×Unit)):Option ((Unit×List (El Y245) ×El Y3×Unit)):=evalF (mkE tyTab mapTab pkTab [] [] F22M 41 bdTab) (codeOf Tryz.f171) Tryz.f171.results F22H F22A F22R (fun y=>y.1.1) (a0,())
theorem F22_eq (a0: (Unit×List (El Y245) ×El Y3×Unit)):F22V a0=F22 a0:=by kernel_rfl
theorem F22_ok:FnOK Tryz.prog 171 F22S:=fnOK_of (m:=F22M) (fn:=Tryz.f171) (hint:=F22H) (pack:=fun y=>y.1.1) hmix tab_ok ⟨⟨F99_ok,trivial⟩,⟨F21_ok,trivial⟩,⟨F23_ok,trivial⟩,trivial⟩ fun x z h=>(F22_eq x.1).trans h
noncomputable def F19: ((Unit×List (El Y245) ×El Y3×Unit))→Option ((Unit×List (El Y245) ×El Y3×Unit) ×El Y228×El Y4):=fun a0=>
 Option.bind (F18 ((),a0.2.1,a0.2.2.1,())) fun x0=>
 bif !x0.2.2 then some (((),x0.1.2.1,x0.1.2.2.1,()),x0.2.1,false)
 else
 Option.bind (F23 ((),x0.1.2.1,x0.1.2.2.1,()) (0:Int) (IntKind.wrap .i64 ((↑(List.length x0.1.2.1):Int) - (1:Int))))
 fun x1=>
 Option.bind (sliceB (List.length x1.2.1) (List.length x1.2.1) none (some (IntKind.wrap .i64 ((↑(List.length x0.1.2.1):Int) - (1:Int)))))
 fun x2=>
 Option.bind (F22 ((),List.take x2.2 x1.2.1,x1.2.2.1,())) fun x3=>some (((),x3.2.1,x3.2.2.1,()),x0.2.1,true)
abbrev F19A:Pats:=(.cons Pz9 .nil)
abbrev F19R:Pats:=(.cons (.pd Y228) (.cons (.pd Y4) .nil))
noncomputable def F19S:Tr.Spec:= {args:=F19A,res:=F19R,fns:=[],α:=(Unit×List (El Y245) ×El Y3×Unit) ×El Y228×El Y4,f:=fun x=>F19 x.1,unp:=fun z=>((z.1,()),(z.2.1,z.2.2,())) }
noncomputable def F19M:List (Nat×List Tr.Spec):=[(160,[F99S]),(169,[F23S]),(170,[F18S]),(171,[F22S])]
def F19H:Hint:= .leaf
noncomputable def F19V (a0: (Unit×List (El Y245) ×El Y3×Unit)):Option ((Unit×List (El Y245) ×El Y3×Unit) ×El Y228×El Y4):=evalF (mkE tyTab mapTab pkTab [] [] F19M 36 bdTab) (codeOf Tryz.f162) Tryz.f162.results F19H F19A F19R (fun y=>(y.1.1,y.2.1,y.2.2.1)) (a0,())
theorem F19_eq (a0: (Unit×List (El Y245) ×El Y3×Unit)):F19V a0=F19 a0:=by kernel_rfl
theorem F19_ok:FnOK Tryz.prog 162 F19S:=fnOK_of (m:=F19M) (fn:=Tryz.f162) (hint:=F19H) (pack:=fun y=>(y.1.1,y.2.1,y.2.2.1)) hmix tab_ok ⟨⟨F99_ok,trivial⟩,⟨F23_ok,trivial⟩,⟨F18_ok,trivial⟩,⟨F22_ok,trivial⟩,trivial⟩ fun x z h=>(F19_eq x.1).trans h
noncomputable def F24: (Unit)→Option ((Unit×List (El Y245) ×El Y3×Unit)):=fun _=>some ((),[],(0:Int),())
abbrev F24A:Pats:=(.cons (.fn 160 .nil) .nil)
abbrev F24R:Pats:=(.cons Pz9 .nil)
noncomputable def F24S:Tr.Spec:= {args:=F24A,res:=F24R,fns:=[160],α:=(Unit×List (El Y245) ×El Y3×Unit),f:=fun x=>F24 x.1,unp:=fun z=>(((),()),(z,())) }
noncomputable def F24M:List (Nat×List Tr.Spec):=[(160,[F99S])]
def F24H:Hint:= .leaf
noncomputable def F24V (a0:Unit):Option ((Unit×List (El Y245) ×El Y3×Unit)):=evalF (mkE tyTab mapTab pkTab [] [] F24M 8 bdTab) (codeOf Tryz.f159) Tryz.f159.results F24H F24A F24R (fun y=>y.2.1) (a0,())
theorem F24_eq (a0:Unit):F24V a0=F24 a0:=by kernel_rfl
theorem F24_ok:FnOK Tryz.prog 159 F24S:=fnOK_of (m:=F24M) (fn:=Tryz.f159) (hint:=F24H) (pack:=fun y=>y.2.1) hmix tab_ok ⟨⟨F99_ok,trivial⟩,trivial⟩ fun x z h=>(F24_eq x.1).trans h
noncomputable def F97: (El Y3)→(List (El Y3×List (El Y206)))→(El Y3)→Option (List (El Y3×List (El Y206)) ×El Y215):=fun a0 a1 a2=>
 Option.bind (guardB (decide ((0:Tr.El (Tr.Ty.int .i64))≤a0∧a0≤a0∧a0≤(↑maxApp:Tr.El (Tr.Ty.int .i64))))) fun _=>
 Option.bind
 (Tr.run
 (fun s1=>
 bif decide (s1.2< (↑(List.length (List.replicate (Int.toNat a0) (((0:Int),(0:Int),(0:Int),())))):Int)) then
 Option.bind (inb s1.2 (List.length s1.1)) fun x2=>
 Option.bind s1.1[x2]? fun _=>some (.inl (List.set s1.1 x2 (s1.2,(-1:Int),(-1:Int),()),IntKind.wrap .i64 (s1.2+(1:Int))))
 else some (.inr s1.1))
 (List.replicate (Int.toNat a0) (((0:Int),(0:Int),(0:Int),())),(0:Int)))
 fun x4=>
 Option.bind (F24 ()) fun x5=>
 Option.bind (F20 ((),x5.2.1,x5.2.2.1,()) (a2,(0:Int),(0:Int),())) fun x6=>
 Option.bind
 (Tr.run
 (fun s7=>
 Option.bind (F19 ((),s7.2.2.1,s7.2.2.2.1,())) fun x8=>
 bif !x8.2.2 then some (.inr s7.1)
 else
 Option.bind (inb x8.2.1.1 (List.length s7.1)) fun x9=>
 Option.bind s7.1[x9]? fun x10=>
 bif decide ((0:Int)≤x10.2.2.1) then some (.inl (s7.1,(),x8.1.2.1,x8.1.2.2.1,()))
 else
 Option.bind (inb x8.2.1.1 (List.length s7.1)) fun x11=>
 Option.bind s7.1[x11]? fun _=>
 Option.bind
 (Tr.run
 (fun s13=>
 bif decide (s13.2< (↑(List.length (Option.getD (Tr.amGet (Tr.keyEq Y3) x8.2.1.1 a1) [])):Int)) then
 Option.bind (inb s13.2 (List.length (Option.getD (Tr.amGet (Tr.keyEq Y3) x8.2.1.1 a1) []))) fun x14=>
 Option.bind (Option.getD (Tr.amGet (Tr.keyEq Y3) x8.2.1.1 a1) [])[x14]? fun x15=>
 Option.bind (inb x15.2.1 (List.length (List.set s7.1 x11 x8.2.1))) fun x16=>
 Option.bind (List.set s7.1 x11 x8.2.1)[x16]? fun x17=>
 bif decide (x17.2.2.1< (0:Int)) then
 Option.bind
 (F20 ((),s13.1.2.1,s13.1.2.2.1,())
 (x15.2.1,IntKind.wrap .i64 (x8.2.1.2.1+x15.2.2.1),
 IntKind.wrap .i64 (x8.2.1.2.2.1+(1:Int)),()))
 fun x18=>some (.inl (((),x18.2.1,x18.2.2.1,()),IntKind.wrap .i64 (s13.2+(1:Int))))
 else some (.inl (((),s13.1.2.1,s13.1.2.2.1,()),IntKind.wrap .i64 (s13.2+(1:Int))))
 else some (.inr ((),s13.1.2.1,s13.1.2.2.1,())))
 (((),x8.1.2.1,x8.1.2.2.1,()),(0:Int)))
 fun x19=>some (.inl (List.set s7.1 x11 x8.2.1,(),x19.2.1,x19.2.2.1,())))
 (x4,(),x6.2.1,x6.2.2.1,()))
 fun x20=>some (a1,x20)
abbrev F97A:Pats:=(.cons (.pd Y3) (.cons (.mrows Y3 Y206) (.cons (.pd Y3) .nil)))
abbrev F97R:Pats:=(.cons (.pd Y215) .nil)
noncomputable def F97S:Tr.Spec:= {args:=F97A,res:=F97R,fns:=[],α:=List (El Y3×List (El Y206)) ×El Y215,f:=fun x=>F97 x.1 x.2.1 x.2.2.1,unp:=fun z=>(((),z.1,(),()),(z.2,())) }
noncomputable def F97M:List (Nat×List Tr.Spec):=[(159,[F24S]),(160,[F99S]),(161,[F20S]),(162,[F19S])]
def F97H:Hint:=(.seq .leaf (.seq .leaf (.seq (.seq .leaf (.lp ⟨[(7,(.own Y228 false)),(18,(.pd Y3))],[],[1,2,17],[],[],[]⟩ [((.exit 0),⟨[(7,(.own Y228 false))],[],[1,2],[],[],[]⟩)] .leaf)) (.seq .leaf (.seq .leaf (.lp ⟨[(7,(.own Y228 false)),(9,Pz8)],[],[1],[],[],[]⟩ [(.ret,⟨[(6,(.own Y228 false))],[],[1],[],[],[]⟩)] (.seq .leaf (.seq .leaf (.seq .leaf (.seq .leaf (.seq .leaf (.lp ⟨[(9,Pz8),(57,(.pd Y3))],[],[1,7,10,55,56],[],[],[]⟩ [((.exit 4),⟨[(9,Pz8)],[],[1,7],[],[],[]⟩)] .leaf))))))))))))
noncomputable def F97V (a0:El Y3) (a1:List (El Y3×List (El Y206))) (a2:El Y3):Option (List (El Y3×List (El Y206)) ×El Y215):=evalF (mkE tyTab mapTab pkTab [] [] F97M 82 bdTab) (codeOf Tryz.f147) Tryz.f147.results F97H F97A F97R (fun y=>(y.1.2.1,y.2.1)) (a0,a1,a2,())
theorem F97_eq (a0:El Y3) (a1:List (El Y3×List (El Y206))) (a2:El Y3):F97V a0 a1 a2=F97 a0 a1 a2:=by kernel_rfl
theorem F97_ok:FnOK Tryz.prog 147 F97S:=fnOK_of (m:=F97M) (fn:=Tryz.f147) (hint:=F97H) (pack:=fun y=>(y.1.2.1,y.2.1)) hmix tab_ok ⟨⟨F24_ok,trivial⟩,⟨F99_ok,trivial⟩,⟨F20_ok,trivial⟩,⟨F19_ok,trivial⟩,trivial⟩ fun x z h=>(F97_eq x.1 x.2.1 x.2.2.1).trans h
noncomputable def F94: (El Y3)→(El Y204)→Option (El Y38×El Y36):=fun a0 a1=>
 Option.bind (F95 a0 a1 []) fun x0=>
 bif !decide (x0=(0:Int)) then some ([],x0)
 else
 Option.bind (F100 a1 false) fun x1=>
 Option.bind (guardB (decide ((0:Tr.El (Tr.Ty.int .i64))≤a0∧a0≤a0∧a0≤(↑maxApp:Tr.El (Tr.Ty.int .i64))))) fun _=>
 Option.bind
 (Tr.run
 (fun s3=>
 bif decide (s3.2.2< (↑(List.length (List.replicate (Int.toNat a0) (([]:List (El Y3))))):Int)) then
 Option.bind (F97 a0 s3.1 s3.2.2) fun x4=>
 Option.bind (F98 x4.2) fun x5=>
 Option.bind (inb s3.2.2 (List.length s3.2.1)) fun x6=>
 Option.bind s3.2.1[x6]? fun _=>some (.inl (x4.1,List.set s3.2.1 x6 x5,IntKind.wrap .i64 (s3.2.2+(1:Int))))
 else some (.inr s3.2.1))
 (x1,List.replicate (Int.toNat a0) (([]:List (El Y3))),(0:Int)))
 fun x8=>some (x8,(0:Int))
abbrev F94A:Pats:=(.cons (.pd Y3) (.cons (.pd Y204) .nil))
abbrev F94R:Pats:=(.cons (.pd Y38) (.cons (.pd Y36) .nil))
noncomputable def F94S:Tr.Spec:= {args:=F94A,res:=F94R,fns:=[],α:=El Y38×El Y36,f:=fun x=>F94 x.1 x.2.1,unp:=fun z=>(((),(),()),(z.1,z.2,())) }
noncomputable def F94M:List (Nat×List Tr.Spec):=[(144,[F95S]),(145,[F100S]),(146,[F98S]),(147,[F97S])]
def F94H:Hint:=(.seq .leaf (.seq .leaf (.seq .leaf (.seq .leaf (.seq .leaf (.seq (.seq .leaf (.lp ⟨[(7,(.mrows Y3 Y206)),(8,(.own Y52 false)),(22,(.pd Y3))],[],[0,21],[],[],[]⟩ [((.exit 0),⟨[(8,(.own Y52 false))],[],[],[],[],[]⟩)] .leaf)) .leaf))))))
noncomputable def F94V (a0:El Y3) (a1:El Y204):Option (El Y38×El Y36):=evalF (mkE tyTab mapTab pkTab [] [] F94M 35 bdTab) (codeOf Tryz.f140) Tryz.f140.results F94H F94A F94R (fun y=>(y.2.1,y.2.2.1)) (a0,a1,())
theorem F94_eq (a0:El Y3) (a1:El Y204):F94V a0 a1=F94 a0 a1:=by kernel_rfl
theorem F94_ok:FnOK Tryz.prog 140 F94S:=fnOK_of (m:=F94M) (fn:=Tryz.f140) (hint:=F94H) (pack:=fun y=>(y.2.1,y.2.2.1)) hmix tab_ok ⟨⟨F95_ok,trivial⟩,⟨F100_ok,trivial⟩,⟨F98_ok,trivial⟩,⟨F97_ok,trivial⟩,trivial⟩ fun x z h=>(F94_eq x.1 x.2.1).trans h
noncomputable def F15: (El Y26)→(El Y3)→(El Y4)→Option (El Y38):=fun a0 a1 a2=>
 Option.bind
 (Tr.run
 (fun s0=>
 bif decide (s0.2< (↑(List.length a0):Int)) then
 Option.bind (idx a0 s0.2) fun x1=>
 Option.bind (bif a2 then some !x1.2.2.2.1 else some false) fun x2=>
 bif x2 then some (.inl (s0.1,IntKind.wrap .i64 (s0.2+(1:Int))))
 else
 Option.bind
 (bif !Option.isSome (Tr.amGet (Tr.keyEq Y198) (x1.1,x1.2.1,false,()) s0.1) then some true
 else some (decide (x1.2.2.1<Option.getD (Tr.amGet (Tr.keyEq Y198) (x1.1,x1.2.1,false,()) s0.1) ((0:Int)))))
 fun x3=>
 bif x3 then some (.inl (Tr.amSet (Tr.keyEq Y198) (x1.1,x1.2.1,false,()) x1.2.2.1 s0.1,IntKind.wrap .i64 (s0.2+(1:Int))))
 else some (.inl (s0.1,IntKind.wrap .i64 (s0.2+(1:Int))))
 else some (.inr s0.1))
 ([],(0:Int)))
 fun x4=>
 Option.bind
 (guardB
 (decide ((0:Tr.El (Tr.Ty.int .i64))≤(0:Int)∧(0:Int)≤(↑(List.length x4):Int)∧(↑(List.length x4):Int)≤(↑maxApp:Tr.El (Tr.Ty.int .i64)))))
 fun _=>
 Tr.drun (fun s6=>bif List.isEmpty s6.2 then(1:Nat) else List.length s6.2)
 (fun s6 i7=>
 bif List.isEmpty s6.2 then some (.inr s6.1)
 else
 Option.bind s6.2[i7]? fun x8=>
 Option.bind (guardB (decide (List.length s6.1+List.length [(x8.1.1,x8.1.2.1,x8.2,())]≤maxApp))) fun _=>
 some (.inl (s6.1++[(x8.1.1,x8.1.2.1,x8.2,())],List.eraseIdx s6.2 i7)))
 (fun o10=>Option.bind (F94 a1 o10) fun x11=>some x11.1) (List.replicate (Int.toNat (0:Int)) (((0:Int),(0:Int),(0:Int),())),x4)
abbrev F15A:Pats:=(.cons (.pd Y26) (.cons (.pd Y3) (.cons (.pd Y4) .nil)))
abbrev F15R:Pats:=(.cons (.pd Y38) .nil)
noncomputable def F15S:Tr.Spec:= {args:=F15A,res:=F15R,fns:=[],α:=El Y38,f:=fun x=>F15 x.1 x.2.1 x.2.2.1,unp:=fun z=>(((),(),(),()),(z,())) }
noncomputable def F15M:List (Nat×List Tr.Spec):=[(140,[F94S])]
def F15H:Hint:=(.seq .leaf (.seq .leaf (.seq (.seq .leaf (.lp ⟨[(7,(.map Y198 Y3)),(21,(.pd Y3))],[],[1,2,19,20],[],[],[]⟩ [((.exit 0),⟨[(7,(.map Y198 Y3))],[],[1],[],[],[]⟩)] (.seq .leaf (.seq .leaf (.seq (.seq .leaf (.seq (.seq (.reg [(30,Y4)]) .leaf) (.seq .leaf (.seq .leaf (.seq (.reg [(49,Y4)]) .leaf))))) .leaf))))) (.seq .leaf (.seq (.seq .leaf (.lpd 59 ⟨[(13,(.own Y206 false)),(59,(.it Y198 Y3))],[],[1],[],[],[]⟩ [((.exit 2),⟨[(13,(.own Y206 false))],[],[1],[],[],[]⟩)] .leaf)) .leaf)))))
noncomputable def F15V (a0:El Y26) (a1:El Y3) (a2:El Y4):Option (El Y38):=evalF (mkE tyTab mapTab pkTab [] [] F15M 81 bdTab) (codeOf Tryz.f134) Tryz.f134.results F15H F15A F15R (fun y=>y.2.1) (a0,a1,a2,())
theorem F15_eq (a0:El Y26) (a1:El Y3) (a2:El Y4):F15V a0 a1 a2=F15 a0 a1 a2:=by kernel_rfl
theorem F15_ok:FnOK Tryz.prog 134 F15S:=fnOK_of (m:=F15M) (fn:=Tryz.f134) (hint:=F15H) (pack:=fun y=>y.2.1) hmix tab_ok ⟨⟨F94_ok,trivial⟩,trivial⟩ fun x z h=>(F15_eq x.1 x.2.1 x.2.2.1).trans h
noncomputable def F3: (El Y52)→Option (El Y3):=fun a0=>
 Option.bind
 (Tr.run
 (fun s0=>
 bif decide (s0< (↑(List.length a0):Int)) then
 Option.bind (idx a0 s0) fun x1=>
 bif !decide (x1=(0:Int)) then some (.inr (.inr x1)) else some (.inl (IntKind.wrap .i64 (s0+(1:Int))))
 else some (.inr (.inl ())))
 (0:Int))
 fun x2=>Sum.elim (fun _=>some (0:Int)) (fun y4=>some y4) x2
abbrev F3A:Pats:=(.cons (.pd Y52) .nil)
abbrev F3R:Pats:=(.cons (.pd Y3) .nil)
noncomputable def F3S:Tr.Spec:= {args:=F3A,res:=F3R,fns:=[],α:=El Y3,f:=fun x=>F3 x.1,unp:=fun z=>(((),()),(z,())) }
noncomputable def F3M:List (Nat×List Tr.Spec):=[]
def F3H:Hint:=(.seq .leaf (.seq .leaf (.seq (.seq .leaf (.lp ⟨[(8,(.pd Y3))],[],[3,6,7],[],[],[]⟩ [((.exit 0),⟨[],[],[3],[],[],[]⟩),(.ret,⟨[(2,(.pd Y3))],[],[],[],[],[]⟩)] .leaf)) .leaf)))
noncomputable def F3V (a0:El Y52):Option (El Y3):=evalF (mkE tyTab mapTab pkTab [] [] F3M 18 bdTab) (codeOf Tryz.f138) Tryz.f138.results F3H F3A F3R (fun y=>y.2.1) (a0,())
theorem F3_eq (a0:El Y52):F3V a0=F3 a0:=by kernel_rfl
theorem F3_ok:FnOK Tryz.prog 138 F3S:=fnOK_of (m:=F3M) (fn:=Tryz.f138) (hint:=F3H) (pack:=fun y=>y.2.1) hmix tab_ok trivial fun x z h=>(F3_eq x.1).trans h
noncomputable def F4: (El Y3)→Option (El Y4):=fun a0=>some !decide (a0=a0)
abbrev F4A:Pats:=(.cons (.pd Y3) .nil)
abbrev F4R:Pats:=(.cons (.pd Y4) .nil)
noncomputable def F4S:Tr.Spec:= {args:=F4A,res:=F4R,fns:=[],α:=El Y4,f:=fun x=>F4 x.1,unp:=fun z=>(((),()),(z,())) }
noncomputable def F4M:List (Nat×List Tr.Spec):=[]
def F4H:Hint:= .leaf
noncomputable def F4V (a0:El Y3):Option (El Y4):=evalF (mkE tyTab mapTab pkTab [] [] F4M 6 bdTab) (codeOf Tryz.f143) Tryz.f143.results F4H F4A F4R (fun y=>y.2.1) (a0,())
theorem F4_eq (a0:El Y3):F4V a0=F4 a0:=by kernel_rfl
theorem F4_ok:FnOK Tryz.prog 143 F4S:=fnOK_of (m:=F4M) (fn:=Tryz.f143) (hint:=F4H) (pack:=fun y=>y.2.1) hmix tab_ok trivial fun x z h=>(F4_eq x.1).trans h
noncomputable def F2: (El Y3)→(El Y3)→Option (El Y3):=fun a0 a1=>
 Option.bind (F4 a0) fun x0=>
 Option.bind (F4 a1) fun x1=>
 bif x0 then bif x1 then some (0:Int) else some (-1:Int)
 else bif x1 then some (1:Int) else bif decide (a0<a1) then some (-1:Int) else bif decide (a1<a0) then some (1:Int) else some (0:Int)
abbrev F2A:Pats:=(.cons (.pd Y3) (.cons (.pd Y3) .nil))
abbrev F2R:Pats:=(.cons (.pd Y3) .nil)
noncomputable def F2S:Tr.Spec:= {args:=F2A,res:=F2R,fns:=[],α:=El Y3,f:=fun x=>F2 x.1 x.2.1,unp:=fun z=>(((),(),()),(z,())) }
noncomputable def F2M:List (Nat×List Tr.Spec):=[(143,[F4S])]
def F2H:Hint:= .leaf
noncomputable def F2V (a0:El Y3) (a1:El Y3):Option (El Y3):=evalF (mkE tyTab mapTab pkTab [] [] F2M 20 bdTab) (codeOf Tryz.f139) Tryz.f139.results F2H F2A F2R (fun y=>y.2.1) (a0,a1,())
theorem F2_eq (a0:El Y3) (a1:El Y3):F2V a0 a1=F2 a0 a1:=by kernel_rfl
theorem F2_ok:FnOK Tryz.prog 139 F2S:=fnOK_of (m:=F2M) (fn:=Tryz.f139) (hint:=F2H) (pack:=fun y=>y.2.1) hmix tab_ok ⟨⟨F4_ok,trivial⟩,trivial⟩ fun x z h=>(F2_eq x.1 x.2.1).trans h
noncomputable def F14: (El Y79)→(El Y79)→Option (El Y3):=fun a0 a1=>
 Option.bind (F2 a0.1 a1.1) fun x0=>
 Option.bind (F2 a0.2.1 a1.2.1) fun x1=>
 Option.bind (F2 a0.2.2.1 a1.2.2.1) fun x2=>Option.bind (F3 [x0,x1,x2]) fun x3=>some x3
abbrev F14A:Pats:=(.cons (.pd Y79) (.cons (.pd Y79) .nil))
abbrev F14R:Pats:=(.cons (.pd Y3) .nil)
noncomputable def F14S:Tr.Spec:= {args:=F14A,res:=F14R,fns:=[],α:=El Y3,f:=fun x=>F14 x.1 x.2.1,unp:=fun z=>(((),(),()),(z,())) }
noncomputable def F14M:List (Nat×List Tr.Spec):=[(138,[F3S]),(139,[F2S])]
def F14H:Hint:= .leaf
noncomputable def F14V (a0:El Y79) (a1:El Y79):Option (El Y3):=evalF (mkE tyTab mapTab pkTab [] [] F14M 22 bdTab) (codeOf Tryz.f137) Tryz.f137.results F14H F14A F14R (fun y=>y.2.1) (a0,a1,())
theorem F14_eq (a0:El Y79) (a1:El Y79):F14V a0 a1=F14 a0 a1:=by kernel_rfl
theorem F14_ok:FnOK Tryz.prog 137 F14S:=fnOK_of (m:=F14M) (fn:=Tryz.f137) (hint:=F14H) (pack:=fun y=>y.2.1) hmix tab_ok ⟨⟨F3_ok,trivial⟩,⟨F2_ok,trivial⟩,trivial⟩ fun x z h=>(F14_eq x.1 x.2.1).trans h
noncomputable def F13: (El Y3)→(El Y3)→(El Y3)→(El Y4)→(List (El Y79))→Option (List (El Y79)):=fun a0 a1 a2 a3 a4=>
 Option.bind (bif decide ((0:Int)<a2) then some (decide (a2≤(14400:Int))) else some false) fun x0=>
 bif x0 then Option.bind (guardB (decide (List.length a4+List.length [(a0,a1,a2,a3,())]≤maxApp))) fun _=>some (a4++[(a0,a1,a2,a3,())]) else some a4
abbrev F13A:Pats:=(.cons (.pd Y3) (.cons (.pd Y3) (.cons (.pd Y3) (.cons (.pd Y4) (.cons (.var Y26 (.own Y79 false)) .nil)))))
abbrev F13R:Pats:= .nil
noncomputable def F13S:Tr.Spec:= {args:=F13A,res:=F13R,fns:=[],α:=List (El Y79),f:=fun x=>F13 x.1 x.2.1 x.2.2.1 x.2.2.2.1 x.2.2.2.2.1,unp:=fun z=>(((),(),(),(),z,()),()) }
noncomputable def F13M:List (Nat×List Tr.Spec):=[]
def F13H:Hint:=(.seq (.reg [(14,Y4)]) .leaf)
noncomputable def F13V (a0:El Y3) (a1:El Y3) (a2:El Y3) (a3:El Y4) (a4:List (El Y79)):Option (List (El Y79)):=evalF (mkE tyTab mapTab pkTab [] [] F13M 23 bdTab) (codeOf Tryz.f135) Tryz.f135.results F13H F13A F13R (fun y=>y.1.2.2.2.2.1) (a0,a1,a2,a3,a4,())
theorem F13_eq (a0:El Y3) (a1:El Y3) (a2:El Y3) (a3:El Y4) (a4:List (El Y79)):F13V a0 a1 a2 a3 a4=F13 a0 a1 a2 a3 a4:=by kernel_rfl
theorem F13_ok:FnOK Tryz.prog 135 F13S:=fnOK_of (m:=F13M) (fn:=Tryz.f135) (hint:=F13H) (pack:=fun y=>y.1.2.2.2.2.1) hmix tab_ok trivial fun x z h=>(F13_eq x.1 x.2.1 x.2.2.1 x.2.2.2.1 x.2.2.2.2.1).trans h
noncomputable def F101 (a0:List (El Y79)) (_:Unit):Option (List (El Y79)):=Tr.sortF F14 a0
abbrev F101A:Pats:=(.cons (.own Y79 true) (.cons (.fn 137 .nil) .nil))
abbrev F101R:Pats:= .nil
noncomputable def F101S:Tr.Spec:= {args:=F101A,res:=F101R,fns:=[137],α:=List (El Y79),f:=fun x=>F101 x.1 x.2.1,unp:=fun z=>((z,(),()),()) }
theorem F101_ok:FnOK Tryz.prog 136 F101S:=Tr.sortFunc_ok (ρ:=Tryz.sort136_ren) Tryz.sort136 rfl Tryz.isAgg79 Tryz.sizeOf79 F14_ok
noncomputable def F12: (El Y26)→(El Y3)→Option (El Y26):=fun a0 a1=>
 Option.bind (F15 a0 a1 false) fun x0=>
 Option.bind (F15 a0 a1 true) fun x1=>
 Option.bind
 (Tr.run
 (fun s2=>
 bif decide (s2.2< (↑(List.length x0):Int)) then
 Option.bind (idx x0 s2.2) fun x3=>
 Option.bind
 (Tr.run
 (fun s4=>
 bif decide (s4.2< (↑(List.length x3):Int)) then
 Option.bind (idx x3 s4.2) fun x5=>
 bif decide (s2.2=s4.2) then some (.inl (s4.1,IntKind.wrap .i64 (s4.2+(1:Int))))
 else
 Option.bind (idx x1 s2.2) fun x6=>
 Option.bind (idx x6 s4.2) fun x7=>
 Option.bind (F13 s2.2 s4.2 x5 (decide (x7=x5)) s4.1) fun x8=>
 bif !decide (x7=x5) then
 Option.bind (F13 s2.2 s4.2 x7 true x8) fun x9=>some (.inl (x9,IntKind.wrap .i64 (s4.2+(1:Int))))
 else some (.inl (x8,IntKind.wrap .i64 (s4.2+(1:Int))))
 else some (.inr s4.1))
 (s2.1,(0:Int)))
 fun x10=>some (.inl (x10,IntKind.wrap .i64 (s2.2+(1:Int))))
 else some (.inr s2.1))
 ([],(0:Int)))
 fun x11=>Option.bind (F101 x11 ()) fun x12=>some x12
abbrev F12A:Pats:=(.cons (.pd Y26) (.cons (.pd Y3) .nil))
abbrev F12R:Pats:=(.cons (.pd Y26) .nil)
noncomputable def F12S:Tr.Spec:= {args:=F12A,res:=F12R,fns:=[],α:=El Y26,f:=fun x=>F12 x.1 x.2.1,unp:=fun z=>(((),(),()),(z,())) }
noncomputable def F12M:List (Nat×List Tr.Spec):=[(134,[F15S]),(135,[F13S]),(136,[F101S]),(137,[F14S])]
def F12H:Hint:=(.seq .leaf (.seq .leaf (.seq .leaf (.seq .leaf (.seq (.seq .leaf (.lp ⟨[(7,(.var Y26 (.own Y79 false))),(22,(.pd Y3))],[(8,135,[7])],[5,6,21],[],[],[]⟩ [((.exit 0),⟨[(7,(.var Y26 (.own Y79 false)))],[],[],[],[],[]⟩)] (.seq .leaf (.seq .leaf (.seq (.seq .leaf (.seq .leaf (.lp ⟨[(7,(.var Y26 (.own Y79 false))),(30,(.pd Y3))],[(8,135,[7])],[5,6,9,21,22,28,29],[],[],[]⟩ [((.exit 2),⟨[(7,(.var Y26 (.own Y79 false)))],[(8,135,[7])],[5,6,21,22],[],[],[]⟩)] .leaf))) .leaf))))) .leaf)))))
noncomputable def F12V (a0:El Y26) (a1:El Y3):Option (El Y26):=evalF (mkE tyTab mapTab pkTab [] [] F12M 66 bdTab) (codeOf Tryz.f133) Tryz.f133.results F12H F12A F12R (fun y=>y.2.1) (a0,a1,())
theorem F12_eq (a0:El Y26) (a1:El Y3):F12V a0 a1=F12 a0 a1:=by kernel_rfl
theorem F12_ok:FnOK Tryz.prog 133 F12S:=fnOK_of (m:=F12M) (fn:=Tryz.f133) (hint:=F12H) (pack:=fun y=>y.2.1) hmix tab_ok ⟨⟨F15_ok,trivial⟩,⟨F13_ok,trivial⟩,⟨F101_ok,trivial⟩,⟨F14_ok,trivial⟩,trivial⟩ fun x z h=>(F12_eq x.1 x.2.1).trans h
noncomputable def F11: (El Y26)→(El Y3)→Option (El Y4):=fun a0 a1=>
 bif decide ((64:Int)<a1) then some false
 else
 Option.bind (F16 a0 a1) fun x0=>
 bif !decide (x0.2=(0:Int)) then some false
 else
 Option.bind (F12 a0 (Tr.imax a1 (0:Int))) fun x1=>
 bif !decide ((↑(List.length x1):Int)=(↑(List.length a0):Int)) then some false
 else
 Option.bind
 (Tr.run
 (fun s2=>
 bif decide (s2< (↑(List.length x1):Int)) then
 Option.bind (idx x1 s2) fun x3=>
 Option.bind (idx a0 s2) fun x4=>
 bif
 !(decide (x3.1=x4.1) &&
 (decide (x3.2.1=x4.2.1) && (decide (x3.2.2.1=x4.2.2.1) &&x3.2.2.2.1==x4.2.2.2.1))) then
 some (.inr (.inr false))
 else some (.inl (IntKind.wrap .i64 (s2+(1:Int))))
 else some (.inr (.inl ())))
 (0:Int))
 fun x5=>Sum.elim (fun _=>some true) (fun y7=>some y7) x5
abbrev F11A:Pats:=(.cons (.pd Y26) (.cons (.pd Y3) .nil))
abbrev F11R:Pats:=(.cons (.pd Y4) .nil)
noncomputable def F11S:Tr.Spec:= {args:=F11A,res:=F11R,fns:=[],α:=El Y4,f:=fun x=>F11 x.1 x.2.1,unp:=fun z=>(((),(),()),(z,())) }
noncomputable def F11M:List (Nat×List Tr.Spec):=[(132,[F16S]),(133,[F12S])]
def F11H:Hint:=(.seq .leaf (.seq .leaf (.seq .leaf (.seq .leaf (.seq .leaf (.seq (.seq .leaf (.lp ⟨[(30,(.pd Y3))],[],[0,7,29],[],[],[]⟩ [((.exit 0),⟨[],[],[],[],[],[]⟩),(.ret,⟨[(4,(.pd Y4))],[],[],[],[],[]⟩)] .leaf)) .leaf))))))
noncomputable def F11V (a0:El Y26) (a1:El Y3):Option (El Y4):=evalF (mkE tyTab mapTab pkTab [] [] F11M 43 bdTab) (codeOf Tryz.f128) Tryz.f128.results F11H F11A F11R (fun y=>y.2.1) (a0,a1,())
theorem F11_eq (a0:El Y26) (a1:El Y3):F11V a0 a1=F11 a0 a1:=by kernel_rfl
theorem F11_ok:FnOK Tryz.prog 128 F11S:=fnOK_of (m:=F11M) (fn:=Tryz.f128) (hint:=F11H) (pack:=fun y=>y.2.1) hmix tab_ok ⟨⟨F16_ok,trivial⟩,⟨F12_ok,trivial⟩,trivial⟩ fun x z h=>(F11_eq x.1 x.2.1).trans h
noncomputable def F42: (El Y31)→Option (El Y163):=fun a0=>
 Option.bind
 (Tr.run
 (fun s0=>
 bif decide (s0.2.2< (↑(List.length a0.2.2.2.2.1):Int)) then
 Option.bind (idx a0.2.2.2.2.1 s0.2.2) fun x1=>
 Option.bind
 (Option.bind (F54 x1.1 (↑(List.length a0.1):Int)) fun x2=>
 bif !x2 then some true
 else Option.bind (F54 x1.2.1 (↑(List.length a0.1):Int)) fun x3=>bif !x3 then some true else some (decide (x1.1=x1.2.1)))
 fun x4=>
 bif x4 then Option.bind (F53 (4:Int) s0.2.2 (9:Int)) fun x5=>some (.inr (.inr x5))
 else
 Option.bind (bif decide (x1.2.2.1< (1:Int)) then some true else some (decide ((14400:Int)<x1.2.2.1))) fun x6=>
 bif x6 then Option.bind (F53 (4:Int) s0.2.2 (2:Int)) fun x7=>some (.inr (.inr x7))
 else
 bif Option.getD (Tr.amGet (Tr.keyEq Y79) (x1.1,x1.2.1,(0:Int),x1.2.2.2.1,()) s0.2.1) (false) then
 Option.bind (F53 (4:Int) s0.2.2 (6:Int)) fun x8=>some (.inr (.inr x8))
 else
 some
 (.inl
 (s0.1,Tr.amSet (Tr.keyEq Y79) (x1.1,x1.2.1,(0:Int),x1.2.2.2.1,()) true s0.2.1,IntKind.wrap .i64 (s0.2.2+(1:Int))))
 else some (.inr (.inl s0.1)))
 (((0:Int),(0:Int),(0:Int),()),[],(0:Int)))
 fun x9=>
 Sum.elim
 (fun _=>
 Option.bind (F11 a0.2.2.2.2.1 (↑(List.length a0.1):Int)) fun x11=>
 bif !x11 then Option.bind (F53 (4:Int) (0:Int) (18:Int)) fun x12=>some x12 else some ((0:Int),(0:Int),(0:Int),()))
 (fun y13=>some y13) x9
abbrev F42A:Pats:=(.cons (.pd Y31) .nil)
abbrev F42R:Pats:=(.cons (.pd Y163) .nil)
noncomputable def F42S:Tr.Spec:= {args:=F42A,res:=F42R,fns:=[],α:=El Y163,f:=fun x=>F42 x.1,unp:=fun z=>(((),()),(z,())) }
noncomputable def F42M:List (Nat×List Tr.Spec):=[(114,[F53S]),(125,[F54S]),(128,[F11S])]
def F42H:Hint:=(.seq .leaf (.seq .leaf (.seq (.seq .leaf (.lp ⟨[(2,(.var Y163 (.pd Y163))),(3,(.map Y79 Y4)),(11,(.pd Y3))],[],[1,9,10],[],[],[]⟩ [((.exit 0),⟨[(2,(.var Y163 (.pd Y163)))],[],[1],[],[],[]⟩),(.ret,⟨[(2,(.var Y163 (.pd Y163)))],[],[],[],[],[]⟩)] (.seq .leaf (.seq .leaf (.seq (.seq .leaf (.seq .leaf (.seq (.seq (.reg [(23,Y4)]) (.cnd none .leaf (.seq (.reg [(49,Y4)]) .leaf))) .leaf))) .leaf))))) .leaf)))
noncomputable def F42V (a0:El Y31):Option (El Y163):=evalF (mkE tyTab mapTab pkTab [] [] F42M 78 bdTab) (codeOf Tryz.f118) Tryz.f118.results F42H F42A F42R (fun y=>y.2.1) (a0,())
theorem F42_eq (a0:El Y31):F42V a0=F42 a0:=by kernel_rfl
theorem F42_ok:FnOK Tryz.prog 118 F42S:=fnOK_of (m:=F42M) (fn:=Tryz.f118) (hint:=F42H) (pack:=fun y=>y.2.1) hmix tab_ok ⟨⟨F53_ok,trivial⟩,⟨F54_ok,trivial⟩,⟨F11_ok,trivial⟩,trivial⟩ fun x z h=>(F42_eq x.1).trans h
noncomputable def F39: (El Y31)→Option (El Y3×El Y3×El Y36):=fun a0=>
 Option.bind (F102 a0.1) fun x0=>
 Option.bind (F92 a0.2.1) fun x1=>
 Option.bind (F53 (0:Int) x0.1 x0.2) fun x2=>
 Option.bind (F53 (1:Int) x1.1 x1.2) fun x3=>
 Option.bind (F44 [x2,x3]) fun x4=>
 Option.bind (bif decide (x4.2.2.1=(0:Int)) then Option.bind (F43 a0) fun x5=>some x5 else some x4) fun x6=>
 Option.bind (bif decide (x6.2.2.1=(0:Int)) then Option.bind (F41 a0) fun x7=>some x7 else some x6) fun x8=>
 Option.bind
 (bif decide (x8.2.2.1=(0:Int)) then
 Option.bind (F55 a0.2.2.2.2.2.1) fun x9=>
 Option.bind (F42 a0) fun x10=>Option.bind (F53 (5:Int) x9.1 x9.2) fun x11=>Option.bind (F44 [x10,x11]) fun x12=>some x12
 else some x8)
 fun x13=>some (x13.1,x13.2.1,x13.2.2.1)
abbrev F39A:Pats:=(.cons (.pd Y31) .nil)
abbrev F39R:Pats:=(.cons (.pd Y3) (.cons (.pd Y3) (.cons (.pd Y36) .nil)))
noncomputable def F39S:Tr.Spec:= {args:=F39A,res:=F39R,fns:=[],α:=El Y3×El Y3×El Y36,f:=fun x=>F39 x.1,unp:=fun z=>(((),()),(z.1,z.2.1,z.2.2,())) }
noncomputable def F39M:List (Nat×List Tr.Spec):=[(111,[F102S]),(112,[F92S]),(113,[F44S]),(114,[F53S]),(115,[F43S]),(116,[F41S]),(117,[F55S]),(118,[F42S])]
def F39H:Hint:=(.seq .leaf (.seq .leaf (.seq .leaf (.seq .leaf (.seq (.seq .leaf (.cnd (some (⟨[],[],[1],[],[],[]⟩,[(.normal,⟨[(9,(.var Y163 (.pd Y163)))],[],[1],[],[],[]⟩)])) .leaf .leaf)) (.seq (.seq .leaf (.cnd (some (⟨[],[],[1],[],[],[]⟩,[(.normal,⟨[(9,(.var Y163 (.pd Y163)))],[],[1],[],[],[]⟩)])) .leaf .leaf)) (.seq (.seq .leaf (.cnd (some (⟨[],[],[],[],[],[]⟩,[(.normal,⟨[(9,(.var Y163 (.pd Y163)))],[],[],[],[],[]⟩)])) .leaf .leaf)) .leaf)))))))
noncomputable def F39V (a0:El Y31):Option (El Y3×El Y3×El Y36):=evalF (mkE tyTab mapTab pkTab [] [] F39M 64 bdTab) (codeOf Tryz.f84) Tryz.f84.results F39H F39A F39R (fun y=>(y.2.1,y.2.2.1,y.2.2.2.1)) (a0,())
theorem F39_eq (a0:El Y31):F39V a0=F39 a0:=by kernel_rfl
theorem F39_ok:FnOK Tryz.prog 84 F39S:=fnOK_of (m:=F39M) (fn:=Tryz.f84) (hint:=F39H) (pack:=fun y=>(y.2.1,y.2.2.1,y.2.2.2.1)) hmix tab_ok ⟨⟨F102_ok,trivial⟩,⟨F92_ok,trivial⟩,⟨F44_ok,trivial⟩,⟨F53_ok,trivial⟩,⟨F43_ok,trivial⟩,⟨F41_ok,trivial⟩,⟨F55_ok,trivial⟩,⟨F42_ok,trivial⟩,trivial⟩ fun x z h=>(F39_eq x.1).trans h
noncomputable def F6: (El Y3)→(El Y3)→(El Y3)→Option (El Y4):=fun a0 a1 a2=>Option.bind (bif decide (a1≤a0) then some (decide (a0≤a2)) else some false) fun x0=>some x0
abbrev F6A:Pats:=(.cons (.pd Y3) (.cons (.pd Y3) (.cons (.pd Y3) .nil)))
abbrev F6R:Pats:=(.cons (.pd Y4) .nil)
noncomputable def F6S:Tr.Spec:= {args:=F6A,res:=F6R,fns:=[],α:=El Y4,f:=fun x=>F6 x.1 x.2.1 x.2.2.1,unp:=fun z=>(((),(),(),()),(z,())) }
noncomputable def F6M:List (Nat×List Tr.Spec):=[]
def F6H:Hint:=(.seq .leaf (.seq (.reg [(6,Y4)]) .leaf))
noncomputable def F6V (a0:El Y3) (a1:El Y3) (a2:El Y3):Option (El Y4):=evalF (mkE tyTab mapTab pkTab [] [] F6M 15 bdTab) (codeOf Tryz.f85) Tryz.f85.results F6H F6A F6R (fun y=>y.2.1) (a0,a1,a2,())
theorem F6_eq (a0:El Y3) (a1:El Y3) (a2:El Y3):F6V a0 a1 a2=F6 a0 a1 a2:=by kernel_rfl
theorem F6_ok:FnOK Tryz.prog 85 F6S:=fnOK_of (m:=F6M) (fn:=Tryz.f85) (hint:=F6H) (pack:=fun y=>y.2.1) hmix tab_ok trivial fun x z h=>(F6_eq x.1 x.2.1 x.2.2.1).trans h
noncomputable def F5: (El Y31)→(El Y33)→Option (El Y36):=fun a0 a1=>
 Option.bind (F39 a0) fun x0=>
 bif !decide (x0.2.2=(0:Int)) then some (21:Int)
 else
 Option.bind
 (Option.bind (F6 a1.1 (0:Int) (IntKind.wrap .i64 ((↑(List.length a0.1):Int) - (1:Int)))) fun x1=>
 bif !x1 then some true
 else
 Option.bind (F6 a1.2.1 (0:Int) (IntKind.wrap .i64 ((↑(List.length a0.1):Int) - (1:Int)))) fun x2=>
 bif !x2 then some true
 else
 Option.bind (F6 a1.2.2.1 (0:Int) (3155932800:Int)) fun x3=>
 bif !x3 then some true
 else
 Option.bind (F6 a1.2.2.2.2.1 (0:Int) (8:Int)) fun x4=>
 bif !x4 then some true
 else
 Option.bind (F6 a1.2.2.2.2.2.1 (0:Int) (86400:Int)) fun x5=>
 bif !x5 then some true
 else
 Option.bind (F6 a1.2.2.2.2.2.2.2.2.1 (0:Int) (255:Int)) fun x6=>
 bif !x6 then some true else bif a1.2.2.2.2.2.2.2.2.2.1 then some a1.2.2.2.1 else some false)
 fun x7=>bif x7 then some (22:Int) else some (0:Int)
abbrev F5A:Pats:=(.cons (.pd Y31) (.cons (.pd Y33) .nil))
abbrev F5R:Pats:=(.cons (.pd Y36) .nil)
noncomputable def F5S:Tr.Spec:= {args:=F5A,res:=F5R,fns:=[],α:=El Y36,f:=fun x=>F5 x.1 x.2.1,unp:=fun z=>(((),(),()),(z,())) }
noncomputable def F5M:List (Nat×List Tr.Spec):=[(84,[F39S]),(85,[F6S])]
def F5H:Hint:=(.seq .leaf (.seq .leaf (.seq .leaf (.seq .leaf (.seq (.seq (.reg [(64,Y4)]) .leaf) .leaf)))))
noncomputable def F5V (a0:El Y31) (a1:El Y33):Option (El Y36):=evalF (mkE tyTab mapTab pkTab [] [] F5M 65 bdTab) (codeOf Tryz.f59) Tryz.f59.results F5H F5A F5R (fun y=>y.2.1) (a0,a1,())
theorem F5_eq (a0:El Y31) (a1:El Y33):F5V a0 a1=F5 a0 a1:=by kernel_rfl
theorem F5_ok:FnOK Tryz.prog 59 F5S:=fnOK_of (m:=F5M) (fn:=Tryz.f59) (hint:=F5H) (pack:=fun y=>y.2.1) hmix tab_ok ⟨⟨F39_ok,trivial⟩,⟨F6_ok,trivial⟩,trivial⟩ fun x z h=>(F5_eq x.1 x.2.1).trans h
noncomputable def F80: (El Y31)→(El Y33)→Option (El Y36):=fun a0 a1=>
 Option.bind (F5 a0 a1) fun x0=>bif !decide (x0=(0:Int)) then some x0 else bif a1.2.2.2.1 then some (22:Int) else some (0:Int)
abbrev F80A:Pats:=(.cons (.pd Y31) (.cons (.pd Y33) .nil))
abbrev F80R:Pats:=(.cons (.pd Y36) .nil)
noncomputable def F80S:Tr.Spec:= {args:=F80A,res:=F80R,fns:=[],α:=El Y36,f:=fun x=>F80 x.1 x.2.1,unp:=fun z=>(((),(),()),(z,())) }
noncomputable def F80M:List (Nat×List Tr.Spec):=[(59,[F5S])]
def F80H:Hint:= .leaf
noncomputable def F80V (a0:El Y31) (a1:El Y33):Option (El Y36):=evalF (mkE tyTab mapTab pkTab [] [] F80M 14 bdTab) (codeOf Tryz.f40) Tryz.f40.results F80H F80A F80R (fun y=>y.2.1) (a0,a1,())
theorem F80_eq (a0:El Y31) (a1:El Y33):F80V a0 a1=F80 a0 a1:=by kernel_rfl
theorem F80_ok:FnOK Tryz.prog 40 F80S:=fnOK_of (m:=F80M) (fn:=Tryz.f40) (hint:=F80H) (pack:=fun y=>y.2.1) hmix tab_ok ⟨⟨F5_ok,trivial⟩,trivial⟩ fun x z h=>(F80_eq x.1 x.2.1).trans h
noncomputable def F51: (El Y22)→Option (El Y22):=fun a0=>
 Option.bind (guardB (decide (List.length ([]:List Unit)+List.length a0≤maxApp))) fun _=>
 Option.bind (inb (↑(List.length ([]++a0)):Int) (List.length ([]++a0)+(1:Nat))) fun x1=>
 Option.bind (sliceB (List.length ([]++a0)) x1 none (some (↑(List.length ([]++a0)):Int))) fun x2=>some (List.take x2.2 (List.drop (0:Nat) ([]++a0)))
abbrev F51A:Pats:=(.cons (.pd Y22) .nil)
abbrev F51R:Pats:=(.cons (.pd Y22) .nil)
noncomputable def F51S:Tr.Spec:= {args:=F51A,res:=F51R,fns:=[],α:=El Y22,f:=fun x=>F51 x.1,unp:=fun z=>(((),()),(z,())) }
noncomputable def F51M:List (Nat×List Tr.Spec):=[]
def F51H:Hint:= .leaf
noncomputable def F51V (a0:El Y22):Option (El Y22):=evalF (mkE tyTab mapTab pkTab [] [] F51M 13 bdTab) (codeOf Tryz.f86) Tryz.f86.results F51H F51A F51R (fun y=>y.2.1) (a0,())
theorem F51_eq (a0:El Y22):F51V a0=F51 a0:=by kernel_rfl
theorem F51_ok:FnOK Tryz.prog 86 F51S:=fnOK_of (m:=F51M) (fn:=Tryz.f86) (hint:=F51H) (pack:=fun y=>y.2.1) hmix tab_ok trivial fun x z h=>(F51_eq x.1).trans h
noncomputable def F49: (El Y23)→Option (El Y23):=fun a0=>
 Option.bind (guardB (decide (List.length ([]:List Unit)+List.length a0≤maxApp))) fun _=>
 Option.bind (inb (↑(List.length ([]++a0)):Int) (List.length ([]++a0)+(1:Nat))) fun x1=>
 Option.bind (sliceB (List.length ([]++a0)) x1 none (some (↑(List.length ([]++a0)):Int))) fun x2=>some (List.take x2.2 (List.drop (0:Nat) ([]++a0)))
abbrev F49A:Pats:=(.cons (.pd Y23) .nil)
abbrev F49R:Pats:=(.cons (.pd Y23) .nil)
noncomputable def F49S:Tr.Spec:= {args:=F49A,res:=F49R,fns:=[],α:=El Y23,f:=fun x=>F49 x.1,unp:=fun z=>(((),()),(z,())) }
noncomputable def F49M:List (Nat×List Tr.Spec):=[]
def F49H:Hint:= .leaf
noncomputable def F49V (a0:El Y23):Option (El Y23):=evalF (mkE tyTab mapTab pkTab [] [] F49M 13 bdTab) (codeOf Tryz.f87) Tryz.f87.results F49H F49A F49R (fun y=>y.2.1) (a0,())
theorem F49_eq (a0:El Y23):F49V a0=F49 a0:=by kernel_rfl
theorem F49_ok:FnOK Tryz.prog 87 F49S:=fnOK_of (m:=F49M) (fn:=Tryz.f87) (hint:=F49H) (pack:=fun y=>y.2.1) hmix tab_ok trivial fun x z h=>(F49_eq x.1).trans h
noncomputable def F50: (El Y24)→Option (List (El Y60)):=fun a0=>
 Option.bind (guardB (decide (List.length ([]:List Unit)+List.length a0≤maxApp))) fun _=>
 Option.bind (inb (↑(List.length ([]++a0)):Int) (List.length ([]++a0)+(1:Nat))) fun x1=>
 Option.bind (sliceB (List.length ([]++a0)) x1 none (some (↑(List.length ([]++a0)):Int))) fun x2=>some (List.take x2.2 ([]++a0))
abbrev F50A:Pats:=(.cons (.pd Y24) .nil)
abbrev F50R:Pats:=(.cons (.own Y60 false) .nil)
noncomputable def F50S:Tr.Spec:= {args:=F50A,res:=F50R,fns:=[],α:=List (El Y60),f:=fun x=>F50 x.1,unp:=fun z=>(((),()),(z,())) }
noncomputable def F50M:List (Nat×List Tr.Spec):=[]
def F50H:Hint:= .leaf
noncomputable def F50V (a0:El Y24):Option (List (El Y60)):=evalF (mkE tyTab mapTab pkTab [] [] F50M 13 bdTab) (codeOf Tryz.f88) Tryz.f88.results F50H F50A F50R (fun y=>y.2.1) (a0,())
theorem F50_eq (a0:El Y24):F50V a0=F50 a0:=by kernel_rfl
theorem F50_ok:FnOK Tryz.prog 88 F50S:=fnOK_of (m:=F50M) (fn:=Tryz.f88) (hint:=F50H) (pack:=fun y=>y.2.1) hmix tab_ok trivial fun x z h=>(F50_eq x.1).trans h
noncomputable def F47: (El Y25)→Option (El Y25):=fun a0=>
 Option.bind (guardB (decide (List.length ([]:List Unit)+List.length a0≤maxApp))) fun _=>
 Option.bind (inb (↑(List.length ([]++a0)):Int) (List.length ([]++a0)+(1:Nat))) fun x1=>
 Option.bind (sliceB (List.length ([]++a0)) x1 none (some (↑(List.length ([]++a0)):Int))) fun x2=>some (List.take x2.2 (List.drop (0:Nat) ([]++a0)))
abbrev F47A:Pats:=(.cons (.pd Y25) .nil)
abbrev F47R:Pats:=(.cons (.pd Y25) .nil)
noncomputable def F47S:Tr.Spec:= {args:=F47A,res:=F47R,fns:=[],α:=El Y25,f:=fun x=>F47 x.1,unp:=fun z=>(((),()),(z,())) }
noncomputable def F47M:List (Nat×List Tr.Spec):=[]
def F47H:Hint:= .leaf
noncomputable def F47V (a0:El Y25):Option (El Y25):=evalF (mkE tyTab mapTab pkTab [] [] F47M 13 bdTab) (codeOf Tryz.f89) Tryz.f89.results F47H F47A F47R (fun y=>y.2.1) (a0,())
theorem F47_eq (a0:El Y25):F47V a0=F47 a0:=by kernel_rfl
theorem F47_ok:FnOK Tryz.prog 89 F47S:=fnOK_of (m:=F47M) (fn:=Tryz.f89) (hint:=F47H) (pack:=fun y=>y.2.1) hmix tab_ok trivial fun x z h=>(F47_eq x.1).trans h
noncomputable def F46: (El Y26)→Option (El Y26):=fun a0=>
 Option.bind (guardB (decide (List.length ([]:List Unit)+List.length a0≤maxApp))) fun _=>
 Option.bind (inb (↑(List.length ([]++a0)):Int) (List.length ([]++a0)+(1:Nat))) fun x1=>
 Option.bind (sliceB (List.length ([]++a0)) x1 none (some (↑(List.length ([]++a0)):Int))) fun x2=>some (List.take x2.2 (List.drop (0:Nat) ([]++a0)))
abbrev F46A:Pats:=(.cons (.pd Y26) .nil)
abbrev F46R:Pats:=(.cons (.pd Y26) .nil)
noncomputable def F46S:Tr.Spec:= {args:=F46A,res:=F46R,fns:=[],α:=El Y26,f:=fun x=>F46 x.1,unp:=fun z=>(((),()),(z,())) }
noncomputable def F46M:List (Nat×List Tr.Spec):=[]
def F46H:Hint:= .leaf
noncomputable def F46V (a0:El Y26):Option (El Y26):=evalF (mkE tyTab mapTab pkTab [] [] F46M 13 bdTab) (codeOf Tryz.f90) Tryz.f90.results F46H F46A F46R (fun y=>y.2.1) (a0,())
theorem F46_eq (a0:El Y26):F46V a0=F46 a0:=by kernel_rfl
theorem F46_ok:FnOK Tryz.prog 90 F46S:=fnOK_of (m:=F46M) (fn:=Tryz.f90) (hint:=F46H) (pack:=fun y=>y.2.1) hmix tab_ok trivial fun x z h=>(F46_eq x.1).trans h
noncomputable def F45: (El Y58)→Option (El Y58):=fun a0=>
 Option.bind (guardB (decide (List.length ([]:List Unit)+List.length a0≤maxApp))) fun _=>
 Option.bind (inb (↑(List.length ([]++a0)):Int) (List.length ([]++a0)+(1:Nat))) fun x1=>
 Option.bind (sliceB (List.length ([]++a0)) x1 none (some (↑(List.length ([]++a0)):Int))) fun x2=>some (List.take x2.2 (List.drop (0:Nat) ([]++a0)))
abbrev F45A:Pats:=(.cons (.pd Y58) .nil)
abbrev F45R:Pats:=(.cons (.pd Y58) .nil)
noncomputable def F45S:Tr.Spec:= {args:=F45A,res:=F45R,fns:=[],α:=El Y58,f:=fun x=>F45 x.1,unp:=fun z=>(((),()),(z,())) }
noncomputable def F45M:List (Nat×List Tr.Spec):=[]
def F45H:Hint:= .leaf
noncomputable def F45V (a0:El Y58):Option (El Y58):=evalF (mkE tyTab mapTab pkTab [] [] F45M 13 bdTab) (codeOf Tryz.f91) Tryz.f91.results F45H F45A F45R (fun y=>y.2.1) (a0,())
theorem F45_eq (a0:El Y58):F45V a0=F45 a0:=by kernel_rfl
theorem F45_ok:FnOK Tryz.prog 91 F45S:=fnOK_of (m:=F45M) (fn:=Tryz.f91) (hint:=F45H) (pack:=fun y=>y.2.1) hmix tab_ok trivial fun x z h=>(F45_eq x.1).trans h
noncomputable def F48: (El Y27)→Option (El Y27):=fun a0=>
 Option.bind (guardB (decide (List.length ([]:List Unit)+List.length a0≤maxApp))) fun _=>
 Option.bind (inb (↑(List.length ([]++a0)):Int) (List.length ([]++a0)+(1:Nat))) fun x1=>
 Option.bind (sliceB (List.length ([]++a0)) x1 none (some (↑(List.length ([]++a0)):Int))) fun x2=>some (List.take x2.2 (List.drop (0:Nat) ([]++a0)))
abbrev F48A:Pats:=(.cons (.pd Y27) .nil)
abbrev F48R:Pats:=(.cons (.pd Y27) .nil)
noncomputable def F48S:Tr.Spec:= {args:=F48A,res:=F48R,fns:=[],α:=El Y27,f:=fun x=>F48 x.1,unp:=fun z=>(((),()),(z,())) }
noncomputable def F48M:List (Nat×List Tr.Spec):=[]
def F48H:Hint:= .leaf
noncomputable def F48V (a0:El Y27):Option (El Y27):=evalF (mkE tyTab mapTab pkTab [] [] F48M 13 bdTab) (codeOf Tryz.f92) Tryz.f92.results F48H F48A F48R (fun y=>y.2.1) (a0,())
theorem F48_eq (a0:El Y27):F48V a0=F48 a0:=by kernel_rfl
theorem F48_ok:FnOK Tryz.prog 92 F48S:=fnOK_of (m:=F48M) (fn:=Tryz.f92) (hint:=F48H) (pack:=fun y=>y.2.1) hmix tab_ok trivial fun x z h=>(F48_eq x.1).trans h
noncomputable def F40: (El Y31)→Option ((El Y22×El Y23×List (El Y60) ×El Y25×El Y26×El Y29×Unit)):=fun a0=>
 Option.bind (F51 a0.1) fun x0=>
 Option.bind (F49 a0.2.1) fun x1=>
 Option.bind (F50 a0.2.2.1) fun x2=>
 Option.bind (F47 a0.2.2.2.1) fun x3=>
 Option.bind (F46 a0.2.2.2.2.1) fun x4=>
 Option.bind
 (Tr.run
 (fun s5=>
 bif decide (s5.2< (↑(List.length x2):Int)) then
 Option.bind (inb s5.2 (List.length s5.1.2.2.1)) fun x6=>
 Option.bind s5.1.2.2.1[x6]? fun x7=>
 Option.bind (F45 x7.2.2.2.2.2.2.2.1) fun x8=>
 Option.bind (inb s5.2 (List.length s5.1.2.2.1)) fun x9=>
 Option.bind s5.1.2.2.1[x9]? fun x10=>
 some
 (.inl
 ((s5.1.1,s5.1.2.1,
 List.set s5.1.2.2.1 x9
 (x10.1,x10.2.1,x10.2.2.1,x10.2.2.2.1,x10.2.2.2.2.1,x10.2.2.2.2.2.1,x10.2.2.2.2.2.2.1,x8,
 x10.2.2.2.2.2.2.2.2),
 s5.1.2.2.2.1,s5.1.2.2.2.2.1,s5.1.2.2.2.2.2.1,()),
 IntKind.wrap .i64 (s5.2+(1:Int))))
 else some (.inr s5.1))
 ((x0,x1,x2,x3,x4,a0.2.2.2.2.2.1,()),(0:Int)))
 fun x11=>
 Option.bind (F48 a0.2.2.2.2.2.1.1) fun x12=>
 some (x11.1,x11.2.1,x11.2.2.1,x11.2.2.2.1,x11.2.2.2.2.1,(x12,x11.2.2.2.2.2.1.2),())
abbrev F40A:Pats:=(.cons (.pd Y31) .nil)
abbrev F40R:Pats:=(.cons Pz7 .nil)
noncomputable def F40S:Tr.Spec:= {args:=F40A,res:=F40R,fns:=[],α:=(El Y22×El Y23×List (El Y60) ×El Y25×El Y26×El Y29×Unit),f:=fun x=>F40 x.1,unp:=fun z=>(((),()),(z,())) }
noncomputable def F40M:List (Nat×List Tr.Spec):=[(86,[F51S]),(87,[F49S]),(88,[F50S]),(89,[F47S]),(90,[F46S]),(91,[F45S]),(92,[F48S])]
def F40H:Hint:=(.seq .leaf (.seq .leaf (.seq (.seq .leaf (.lp ⟨[(3,Pz6),(26,(.pd Y3))],[],[1,2,25],[],[],[]⟩ [((.exit 0),⟨[(3,Pz6)],[],[1,2],[],[],[]⟩)] .leaf)) .leaf)))
noncomputable def F40V (a0:El Y31):Option ((El Y22×El Y23×List (El Y60) ×El Y25×El Y26×El Y29×Unit)):=evalF (mkE tyTab mapTab pkTab [] [] F40M 49 bdTab) (codeOf Tryz.f60) Tryz.f60.results F40H F40A F40R (fun y=>y.2.1) (a0,())
theorem F40_eq (a0:El Y31):F40V a0=F40 a0:=by kernel_rfl
theorem F40_ok:FnOK Tryz.prog 60 F40S:=fnOK_of (m:=F40M) (fn:=Tryz.f60) (hint:=F40H) (pack:=fun y=>y.2.1) hmix tab_ok ⟨⟨F51_ok,trivial⟩,⟨F49_ok,trivial⟩,⟨F50_ok,trivial⟩,⟨F47_ok,trivial⟩,⟨F46_ok,trivial⟩,⟨F45_ok,trivial⟩,⟨F48_ok,trivial⟩,trivial⟩ fun x z h=>(F40_eq x.1).trans h
def F10 (a0:El Y31) (a1:El Y33) (a2:El Y60):Option Bool:=Tr.useF a0 a1 a2
abbrev F10A:Pats:=(.cons (.pd Y31) (.cons (.pd Y33) (.cons (.pd Y60) .nil)))
abbrev F10R:Pats:=(.cons (.pd Y4) .nil)
noncomputable def F10S:Tr.Spec:= {args:=F10A,res:=F10R,fns:=[],α:=El Y4,f:=fun x=>F10 x.1 x.2.1 x.2.2.1,unp:=fun z=>(((),(),(),()),(z,())) }
theorem F10_ok:FnOK Tryz.prog 61 F10S:=Tr.use_ok
noncomputable def F9: (El Y31)→(El Y33)→(El Y3)→Option (El Y4):=fun a0 a1 a2=>Option.bind (Option.bind (idx a0.1 a2) fun x0=>bif x0.2.2.1 then some true else some !a1.2.2.2.2.2.2.1) fun x1=>some x1
abbrev F9A:Pats:=(.cons (.pd Y31) (.cons (.pd Y33) (.cons (.pd Y3) .nil)))
abbrev F9R:Pats:=(.cons (.pd Y4) .nil)
noncomputable def F9S:Tr.Spec:= {args:=F9A,res:=F9R,fns:=[],α:=El Y4,f:=fun x=>F9 x.1 x.2.1 x.2.2.1,unp:=fun z=>(((),(),(),()),(z,())) }
noncomputable def F9M:List (Nat×List Tr.Spec):=[]
def F9H:Hint:=(.seq .leaf (.seq (.reg [(6,Y4)]) .leaf))
noncomputable def F9V (a0:El Y31) (a1:El Y33) (a2:El Y3):Option (El Y4):=evalF (mkE tyTab mapTab pkTab [] [] F9M 18 bdTab) (codeOf Tryz.f98) Tryz.f98.results F9H F9A F9R (fun y=>y.2.1) (a0,a1,a2,())
theorem F9_eq (a0:El Y31) (a1:El Y33) (a2:El Y3):F9V a0 a1 a2=F9 a0 a1 a2:=by kernel_rfl
theorem F9_ok:FnOK Tryz.prog 98 F9S:=fnOK_of (m:=F9M) (fn:=Tryz.f98) (hint:=F9H) (pack:=fun y=>y.2.1) hmix tab_ok trivial fun x z h=>(F9_eq x.1 x.2.1 x.2.2.1).trans h
noncomputable def F8: (El Y31)→(El Y33)→(El Y58)→Option (El Y58):=fun a0 a1 a2=>
 Option.bind
 (Tr.run
 (fun s0=>
 bif decide (s0.2< (↑(List.length a2):Int)) then
 Option.bind (idx a2 s0.2) fun x1=>
 Option.bind (F9 a0 a1 x1.1) fun x2=>
 Option.bind (bif !x2 then some (x1.1,x1.2.1,x1.2.2.1,false,false,x1.2.2.2.2.2) else some x1) fun x3=>
 Option.bind (guardB (decide (List.length s0.1+List.length [x3]≤maxApp))) fun _=>
 some (.inl (s0.1++[x3],IntKind.wrap .i64 (s0.2+(1:Int))))
 else some (.inr s0.1))
 ([],(0:Int)))
 fun x5=>
 Option.bind (inb (↑(List.length x5):Int) (List.length x5+(1:Nat))) fun x6=>
 Option.bind (sliceB (List.length x5) x6 none (some (↑(List.length x5):Int))) fun x7=>some (List.take x7.2 (List.drop (0:Nat) x5))
abbrev F8A:Pats:=(.cons (.pd Y31) (.cons (.pd Y33) (.cons (.pd Y58) .nil)))
abbrev F8R:Pats:=(.cons (.pd Y58) .nil)
noncomputable def F8S:Tr.Spec:= {args:=F8A,res:=F8R,fns:=[],α:=El Y58,f:=fun x=>F8 x.1 x.2.1 x.2.2.1,unp:=fun z=>(((),(),(),()),(z,())) }
noncomputable def F8M:List (Nat×List Tr.Spec):=[(98,[F9S])]
def F8H:Hint:=(.seq .leaf (.seq .leaf (.seq (.seq .leaf (.lp ⟨[(7,(.own Y87 false)),(12,(.pd Y3))],[],[3,4,10,11],[],[],[]⟩ [((.exit 0),⟨[(7,(.own Y87 false))],[],[],[],[],[]⟩)] (.seq .leaf (.seq .leaf (.seq (.seq .leaf (.seq (.seq .leaf (.cnd (some (⟨[],[],[3,4,7,10,11,12],[],[],[]⟩,[(.normal,⟨[(9,(.var Y87 (.pd Y87)))],[],[3,4,7,10,11,12],[],[],[]⟩)])) .leaf .leaf)) .leaf)) .leaf))))) .leaf)))
noncomputable def F8V (a0:El Y31) (a1:El Y33) (a2:El Y58):Option (El Y58):=evalF (mkE tyTab mapTab pkTab [] [] F8M 35 bdTab) (codeOf Tryz.f62) Tryz.f62.results F8H F8A F8R (fun y=>y.2.1) (a0,a1,a2,())
theorem F8_eq (a0:El Y31) (a1:El Y33) (a2:El Y58):F8V a0 a1 a2=F8 a0 a1 a2:=by kernel_rfl
theorem F8_ok:FnOK Tryz.prog 62 F8S:=fnOK_of (m:=F8M) (fn:=Tryz.f62) (hint:=F8H) (pack:=fun y=>y.2.1) hmix tab_ok ⟨⟨F9_ok,trivial⟩,trivial⟩ fun x z h=>(F8_eq x.1 x.2.1 x.2.2.1).trans h
noncomputable def F7: (El Y31)→(El Y33)→Option (El Y31×El Y36):=fun a0 a1=>
 Option.bind (F5 a0 a1) fun x0=>
 bif !decide (x0=(0:Int)) then some ((([]:List (El Y83)),([]:List (El Y85)),([]:List (El Y60)),([]:List (El Y63)),([]:List (El Y79)),(([]:List (El Y109)),(0:Int),(0:Int),(0:Int),()),()),x0)
 else
 Option.bind (F40 a0) fun x1=>
 Option.bind
 (Tr.run
 (fun s2=>
 bif decide (s2.2< (↑(List.length a0.2.2.1):Int)) then
 Option.bind (idx a0.2.2.1 s2.2) fun x3=>
 Option.bind (F10 a0 a1 x3) fun x4=>
 Option.bind (inb s2.2 (List.length s2.1.2.2.1)) fun x5=>
 Option.bind s2.1.2.2.1[x5]? fun x6=>
 Option.bind (F8 a0 a1 x3.2.2.2.2.2.2.2.1) fun x7=>
 Option.bind
 (inb s2.2
 (List.length
 (List.set s2.1.2.2.1 x5
 (x6.1,x6.2.1,x6.2.2.1,x6.2.2.2.1,x6.2.2.2.2.1,x6.2.2.2.2.2.1, !x4,x6.2.2.2.2.2.2.2))))
 fun x8=>
 Option.bind
 (List.set s2.1.2.2.1 x5
 (x6.1,x6.2.1,x6.2.2.1,x6.2.2.2.1,x6.2.2.2.2.1,x6.2.2.2.2.2.1, !x4,x6.2.2.2.2.2.2.2))[x8]?
 fun x9=>
 some
 (.inl
 ((s2.1.1,s2.1.2.1,
 List.set
 (List.set s2.1.2.2.1 x5
 (x6.1,x6.2.1,x6.2.2.1,x6.2.2.2.1,x6.2.2.2.2.1,x6.2.2.2.2.2.1, !x4,x6.2.2.2.2.2.2.2))
 x8
 (x9.1,x9.2.1,x9.2.2.1,x9.2.2.2.1,x9.2.2.2.2.1,x9.2.2.2.2.2.1,x9.2.2.2.2.2.2.1,x7,
 x9.2.2.2.2.2.2.2.2),
 s2.1.2.2.2.1,s2.1.2.2.2.2.1,s2.1.2.2.2.2.2.1,()),
 IntKind.wrap .i64 (s2.2+(1:Int))))
 else some (.inr s2.1))
 (x1,(0:Int)))
 fun x10=>
 bif a1.2.2.2.2.2.2.1 then
 Option.bind
 (Tr.run
 (fun s11=>
 bif decide (s11.2< (↑(List.length a0.2.2.2.2.1):Int)) then
 Option.bind (idx a0.2.2.2.2.1 s11.2) fun x12=>
 bif x12.2.2.2.1 then
 Option.bind (guardB (decide (List.length s11.1.2.2.2.2.1+List.length [x12]≤maxApp))) fun _=>
 some
 (.inl
 ((s11.1.1,s11.1.2.1,s11.1.2.2.1,s11.1.2.2.2.1,s11.1.2.2.2.2.1++[x12],s11.1.2.2.2.2.2.1,()),
 IntKind.wrap .i64 (s11.2+(1:Int))))
 else
 some
 (.inl
 (s11.1,
 IntKind.wrap .i64 (s11.2+(1:Int))))
 else some (.inr s11.1))
 ((x10.1,x10.2.1,x10.2.2.1,x10.2.2.2.1,[],x10.2.2.2.2.2.1,()),(0:Int)))
 fun x14=>some (x14,(0:Int))
 else some (x10,(0:Int))
abbrev F7A:Pats:=(.cons (.pd Y31) (.cons (.pd Y33) .nil))
abbrev F7R:Pats:=(.cons (.pd Y31) (.cons (.pd Y36) .nil))
noncomputable def F7S:Tr.Spec:= {args:=F7A,res:=F7R,fns:=[],α:=El Y31×El Y36,f:=fun x=>F7 x.1 x.2.1,unp:=fun z=>(((),(),()),(z.1,z.2,())) }
noncomputable def F7M:List (Nat×List Tr.Spec):=[(59,[F5S]),(60,[F40S]),(61,[F10S]),(62,[F8S])]
def F7H:Hint:=(.seq .leaf (.seq .leaf (.seq .leaf (.seq (.seq .leaf (.lp ⟨[(7,Pz6),(24,(.pd Y3))],[],[2,3,4,22,23],[],[],[]⟩ [((.exit 0),⟨[(7,Pz6)],[],[2,3,4],[],[],[]⟩)] .leaf)) (.seq (.seq .leaf (.cnd none (.seq .leaf (.seq .leaf (.lp ⟨[(7,(.var Y31 (.agg (.cons (.pd Y22) (.cons (.pd Y23) (.cons (.own Y60 false) (.cons (.pd Y25) (.cons (.own Y79 false) (.cons (.pd Y29) .nil))))))))),(56,(.pd Y3))],[],[4,54,55],[],[],[]⟩ [((.exit 2),⟨[(7,(.var Y31 (.agg (.cons (.pd Y22) (.cons (.pd Y23) (.cons (.own Y60 false) (.cons (.pd Y25) (.cons (.own Y79 false) (.cons (.pd Y29) .nil)))))))))],[],[4],[],[],[]⟩)] .leaf))) .leaf)) .leaf)))))
noncomputable def F7V (a0:El Y31) (a1:El Y33):Option (El Y31×El Y36):=evalF (mkE tyTab mapTab pkTab [] [] F7M 70 bdTab) (codeOf Tryz.f41) Tryz.f41.results F7H F7A F7R (fun y=>(y.2.1,y.2.2.1)) (a0,a1,())
theorem F7_eq (a0:El Y31) (a1:El Y33):F7V a0 a1=F7 a0 a1:=by kernel_rfl
theorem F7_ok:FnOK Tryz.prog 41 F7S:=fnOK_of (m:=F7M) (fn:=Tryz.f41) (hint:=F7H) (pack:=fun y=>(y.2.1,y.2.2.1)) hmix tab_ok ⟨⟨F5_ok,trivial⟩,⟨F40_ok,trivial⟩,⟨F10_ok,trivial⟩,⟨F8_ok,trivial⟩,trivial⟩ fun x z h=>(F7_eq x.1 x.2.1).trans h
noncomputable def F38: (El Y31)→Option (El Y4):=fun a0=>Option.bind (F39 a0) fun x0=>some (decide (x0.2.2=(0:Int)))
abbrev F38A:Pats:=(.cons (.pd Y31) .nil)
abbrev F38R:Pats:=(.cons (.pd Y4) .nil)
noncomputable def F38S:Tr.Spec:= {args:=F38A,res:=F38R,fns:=[],α:=El Y4,f:=fun x=>F38 x.1,unp:=fun z=>(((),()),(z,())) }
noncomputable def F38M:List (Nat×List Tr.Spec):=[(84,[F39S])]
def F38H:Hint:= .leaf
noncomputable def F38V (a0:El Y31):Option (El Y4):=evalF (mkE tyTab mapTab pkTab [] [] F38M 14 bdTab) (codeOf Tryz.f63) Tryz.f63.results F38H F38A F38R (fun y=>y.2.1) (a0,())
theorem F38_eq (a0:El Y31):F38V a0=F38 a0:=by kernel_rfl
theorem F38_ok:FnOK Tryz.prog 63 F38S:=fnOK_of (m:=F38M) (fn:=Tryz.f63) (hint:=F38H) (pack:=fun y=>y.2.1) hmix tab_ok ⟨⟨F39_ok,trivial⟩,trivial⟩ fun x z h=>(F38_eq x.1).trans h
noncomputable def F37: (El Y3)→(El Y31)→(El Y3)→Option (El Y4):=fun a0 a1 a2=>Option.bind (idx a1.2.2.1 a0) fun x0=>Option.bind (idx x0.2.2.2.2.2.2.2.1 (0:Int)) fun x1=>some (decide (x1.2.2.1≤a2))
abbrev F37A:Pats:=(.cons (.pd Y3) (.cons (.ro Y31) (.cons (.ro Y3) .nil)))
abbrev F37R:Pats:=(.cons (.pd Y4) .nil)
noncomputable def F37S:Tr.Spec:= {args:=F37A,res:=F37R,fns:=[],α:=El Y4,f:=fun x=>F37 x.1 x.2.1 x.2.2.1,unp:=fun z=>(((),(),(),()),(z,())) }
noncomputable def F37M:List (Nat×List Tr.Spec):=[]
def F37H:Hint:= .leaf
noncomputable def F37V (a0:El Y3) (a1:El Y31) (a2:El Y3):Option (El Y4):=evalF (mkE tyTab mapTab pkTab [] [] F37M 16 bdTab) (codeOf Tryz.f100) Tryz.f100.results F37H F37A F37R (fun y=>y.2.1) (a0,a1,a2,())
theorem F37_eq (a0:El Y3) (a1:El Y31) (a2:El Y3):F37V a0 a1 a2=F37 a0 a1 a2:=by kernel_rfl
theorem F37_ok:FnOK Tryz.prog 100 F37S:=fnOK_of (m:=F37M) (fn:=Tryz.f100) (hint:=F37H) (pack:=fun y=>y.2.1) hmix tab_ok trivial fun x z h=>(F37_eq x.1 x.2.1 x.2.2.1).trans h
noncomputable def F34: (El Y52)→((El Y31×El Y3×Unit))→Option (El Y3):=fun a0 a1=>
 Option.bind
 (Tr.run
 (fun s0=>
 bif decide (s0.1<s0.2) then
 Option.bind (idx a0 (IntKind.wrap .i64 (s0.1+IntKind.wrap .i64 (Int.tdiv (IntKind.wrap .i64 (s0.2 - s0.1)) (2:Int))))) fun x1=>
 Option.bind (F37 x1 a1.1 a1.2.1) fun x2=>
 bif x2 then
 some
 (.inl
 (IntKind.wrap .i64
 (IntKind.wrap .i64 (s0.1+IntKind.wrap .i64 (Int.tdiv (IntKind.wrap .i64 (s0.2 - s0.1)) (2:Int)))+(1:Int)),
 s0.2))
 else some (.inl (s0.1,IntKind.wrap .i64 (s0.1+IntKind.wrap .i64 (Int.tdiv (IntKind.wrap .i64 (s0.2 - s0.1)) (2:Int)))))
 else some (.inr s0.1))
 ((0:Int),(↑(List.length a0):Int)))
 fun x3=>some x3
abbrev F34A:Pats:=(.cons (.pd Y52) (.cons (.fn 100 (.cons (.ro Y31) (.cons (.ro Y3) .nil))) .nil))
abbrev F34R:Pats:=(.cons (.pd Y3) .nil)
noncomputable def F34S:Tr.Spec:= {args:=F34A,res:=F34R,fns:=[100],α:=El Y3,f:=fun x=>F34 x.1 x.2.1,unp:=fun z=>(((),((),(),()),()),(z,())) }
noncomputable def F34M:List (Nat×List Tr.Spec):=[(100,[F37S])]
def F34H:Hint:=(.seq .leaf (.seq .leaf (.seq (.lp ⟨[(5,(.pd Y3)),(6,(.pd Y3))],[],[0,1],[],[],[]⟩ [((.exit 0),⟨[(5,(.pd Y3))],[],[1],[],[],[]⟩)] .leaf) .leaf)))
noncomputable def F34V (a0:El Y52) (a1: (El Y31×El Y3×Unit)):Option (El Y3):=evalF (mkE tyTab mapTab pkTab [] [] F34M 29 bdTab) (codeOf Tryz.f99) Tryz.f99.results F34H F34A F34R (fun y=>y.2.1) (a0,a1,())
theorem F34_eq (a0:El Y52) (a1: (El Y31×El Y3×Unit)):F34V a0 a1=F34 a0 a1:=by kernel_rfl
theorem F34_ok:FnOK Tryz.prog 99 F34S:=fnOK_of (m:=F34M) (fn:=Tryz.f99) (hint:=F34H) (pack:=fun y=>y.2.1) hmix tab_ok ⟨⟨F37_ok,trivial⟩,trivial⟩ fun x z h=>(F34_eq x.1 x.2.1).trans h
noncomputable def F36: (El Y31)→Option (El Y52):=fun a0=>
 Option.bind
 (Tr.run
 (fun s0=>
 bif decide (s0.2< (↑(List.length a0.2.2.1):Int)) then
 Option.bind (idx a0.2.2.1 s0.2) fun x1=>
 bif x1.2.2.2.2.2.2.1 then some (.inl (s0.1,IntKind.wrap .i64 (s0.2+(1:Int))))
 else
 Option.bind (idx x1.2.2.2.2.2.2.2.1 (0:Int)) fun x2=>
 Option.bind (F34 s0.1 (a0,x2.2.2.1,())) fun x3=>
 Option.bind (guardB (decide (List.length s0.1+List.length [(0:Int)]≤maxApp))) fun _=>
 Option.bind (sliceB (List.length (s0.1++[(0:Int)])) (List.length (s0.1++[(0:Int)])) (some (IntKind.wrap .i64 (x3+(1:Int)))) none)
 fun x5=>
 Option.bind (sliceB (List.length (s0.1++[(0:Int)])) (List.length (s0.1++[(0:Int)])) (some x3) none) fun x6=>
 Option.bind (guardB (Nat.ble (x5.1+(x5.2 - x5.1)) (List.length (s0.1++[(0:Int)])))) fun _=>
 Option.bind
 (inb x3
 (List.length
 (List.take x5.1 (s0.1++[(0:Int)])++
 List.take (Min.min (List.length (List.take (x6.2 - x6.1) (List.drop x6.1 (s0.1++[(0:Int)])))) (x5.2 - x5.1))
 (List.take (x6.2 - x6.1) (List.drop x6.1 (s0.1++[(0:Int)])))++
 List.drop (x5.1+Min.min (List.length (List.take (x6.2 - x6.1) (List.drop x6.1 (s0.1++[(0:Int)])))) (x5.2 - x5.1)) (s0.1++[(0:Int)]))))
 fun x8=>
 Option.bind
 (List.take x5.1 (s0.1++[(0:Int)])++
 List.take (Min.min (List.length (List.take (x6.2 - x6.1) (List.drop x6.1 (s0.1++[(0:Int)])))) (x5.2 - x5.1))
 (List.take (x6.2 - x6.1) (List.drop x6.1 (s0.1++[(0:Int)])))++
 List.drop (x5.1+Min.min (List.length (List.take (x6.2 - x6.1) (List.drop x6.1 (s0.1++[(0:Int)])))) (x5.2 - x5.1)) (s0.1++[(0:Int)]))[x8]?
 fun _=>
 some
 (.inl
 (List.set
 (List.take x5.1 (s0.1++[(0:Int)])++
 List.take (Min.min (List.length (List.take (x6.2 - x6.1) (List.drop x6.1 (s0.1++[(0:Int)])))) (x5.2 - x5.1))
 (List.take (x6.2 - x6.1) (List.drop x6.1 (s0.1++[(0:Int)])))++
 List.drop (x5.1+Min.min (List.length (List.take (x6.2 - x6.1) (List.drop x6.1 (s0.1++[(0:Int)])))) (x5.2 - x5.1)) (s0.1++[(0:Int)]))
 x8 s0.2,
 IntKind.wrap .i64 (s0.2+(1:Int))))
 else some (.inr s0.1))
 ([],(0:Int)))
 fun x10=>some x10
abbrev F36A:Pats:=(.cons (.pd Y31) .nil)
abbrev F36R:Pats:=(.cons (.pd Y52) .nil)
noncomputable def F36S:Tr.Spec:= {args:=F36A,res:=F36R,fns:=[],α:=El Y52,f:=fun x=>F36 x.1,unp:=fun z=>(((),()),(z,())) }
noncomputable def F36M:List (Nat×List Tr.Spec):=[(99,[F34S]),(100,[F37S])]
def F36H:Hint:=(.seq .leaf (.seq .leaf (.seq (.seq .leaf (.lp ⟨[(3,(.own Y3 false)),(11,(.pd Y3))],[],[1,9,10],[],[],[]⟩ [((.exit 0),⟨[(3,(.own Y3 false))],[],[],[],[],[]⟩)] .leaf)) .leaf)))
noncomputable def F36V (a0:El Y31):Option (El Y52):=evalF (mkE tyTab mapTab pkTab [] [] F36M 43 bdTab) (codeOf Tryz.f64) Tryz.f64.results F36H F36A F36R (fun y=>y.2.1) (a0,())
theorem F36_eq (a0:El Y31):F36V a0=F36 a0:=by kernel_rfl
theorem F36_ok:FnOK Tryz.prog 64 F36S:=fnOK_of (m:=F36M) (fn:=Tryz.f64) (hint:=F36H) (pack:=fun y=>y.2.1) hmix tab_ok ⟨⟨F34_ok,trivial⟩,⟨F37_ok,trivial⟩,trivial⟩ fun x z h=>(F36_eq x.1).trans h
noncomputable def F33: (El Y87)→(El Y87)→Option (El Y4):=fun a0 a1=>
 some
 (decide (a0.1=a1.1) &&
 (decide ((0:Int)=(0:Int)) && (decide ((0:Int)=(0:Int)) && (a0.2.2.2.1==a1.2.2.2.1&&a0.2.2.2.2.1==a1.2.2.2.2.1))))
abbrev F33A:Pats:=(.cons (.pd Y87) (.cons (.pd Y87) .nil))
abbrev F33R:Pats:=(.cons (.pd Y4) .nil)
noncomputable def F33S:Tr.Spec:= {args:=F33A,res:=F33R,fns:=[],α:=El Y4,f:=fun x=>F33 x.1 x.2.1,unp:=fun z=>(((),(),()),(z,())) }
noncomputable def F33M:List (Nat×List Tr.Spec):=[]
def F33H:Hint:= .leaf
noncomputable def F33V (a0:El Y87) (a1:El Y87):Option (El Y4):=evalF (mkE tyTab mapTab pkTab [] [] F33M 12 bdTab) (codeOf Tryz.f101) Tryz.f101.results F33H F33A F33R (fun y=>y.2.1) (a0,a1,())
theorem F33_eq (a0:El Y87) (a1:El Y87):F33V a0 a1=F33 a0 a1:=by kernel_rfl
theorem F33_ok:FnOK Tryz.prog 101 F33S:=fnOK_of (m:=F33M) (fn:=Tryz.f101) (hint:=F33H) (pack:=fun y=>y.2.1) hmix tab_ok trivial fun x z h=>(F33_eq x.1 x.2.1).trans h
noncomputable def F35: (El Y60)→(El Y60)→Option (El Y4):=fun a0 a1=>
 Option.bind
 (bif !decide (a0.2.2.2.2.1=a1.2.2.2.2.1) then some true
 else
 bif !a0.2.2.2.2.2.1==a1.2.2.2.2.2.1 then some true
 else some !decide ((↑(List.length a0.2.2.2.2.2.2.2.1):Int)=(↑(List.length a1.2.2.2.2.2.2.2.1):Int)))
 fun x0=>
 bif x0 then some false
 else
 Option.bind
 (Tr.run
 (fun s1=>
 bif decide (s1< (↑(List.length a0.2.2.2.2.2.2.2.1):Int)) then
 Option.bind (idx a0.2.2.2.2.2.2.2.1 s1) fun x2=>
 Option.bind (idx a1.2.2.2.2.2.2.2.1 s1) fun x3=>
 Option.bind
 (Option.bind (F33 x2 x3) fun x4=>
 bif !x4 then some true
 else bif decide (x3.2.1<x2.2.1) then some true else some (decide (x3.2.2.1<x2.2.2.1)))
 fun x5=>bif x5 then some (.inr (.inr false)) else some (.inl (IntKind.wrap .i64 (s1+(1:Int))))
 else some (.inr (.inl ())))
 (0:Int))
 fun x6=>Sum.elim (fun _=>some true) (fun y8=>some y8) x6
abbrev F35A:Pats:=(.cons (.pd Y60) (.cons (.pd Y60) .nil))
abbrev F35R:Pats:=(.cons (.pd Y4) .nil)
noncomputable def F35S:Tr.Spec:= {args:=F35A,res:=F35R,fns:=[],α:=El Y4,f:=fun x=>F35 x.1 x.2.1,unp:=fun z=>(((),(),()),(z,())) }
noncomputable def F35M:List (Nat×List Tr.Spec):=[(101,[F33S])]
def F35H:Hint:=(.seq .leaf (.seq (.seq (.reg [(28,Y4)]) .leaf) (.seq (.seq .leaf (.lp ⟨[(32,(.pd Y3))],[],[3,30,31],[],[],[]⟩ [((.exit 0),⟨[],[],[],[],[],[]⟩),(.ret,⟨[(4,(.pd Y4))],[],[],[],[],[]⟩)] (.seq .leaf (.seq .leaf (.seq (.seq .leaf (.seq .leaf (.seq (.reg [(59,Y4)]) .leaf))) .leaf))))) .leaf)))
noncomputable def F35V (a0:El Y60) (a1:El Y60):Option (El Y4):=evalF (mkE tyTab mapTab pkTab [] [] F35M 61 bdTab) (codeOf Tryz.f65) Tryz.f65.results F35H F35A F35R (fun y=>y.2.1) (a0,a1,())
theorem F35_eq (a0:El Y60) (a1:El Y60):F35V a0 a1=F35 a0 a1:=by kernel_rfl
theorem F35_ok:FnOK Tryz.prog 65 F35S:=fnOK_of (m:=F35M) (fn:=Tryz.f65) (hint:=F35H) (pack:=fun y=>y.2.1) hmix tab_ok ⟨⟨F33_ok,trivial⟩,trivial⟩ fun x z h=>(F35_eq x.1 x.2.1).trans h
noncomputable def F32: (El Y31)→Option (El Y38×El Y36):=fun a0=>
 Option.bind (F38 a0) fun x0=>
 bif !x0 then some ([],(21:Int))
 else
 Option.bind (F36 a0) fun x1=>
 Option.bind
 (Tr.run
 (fun s2=>
 bif decide (s2.2< (↑(List.length x1):Int)) then
 Option.bind (idx x1 s2.2) fun x3=>
 Option.bind
 (Tr.run
 (fun s4=>
 bif decide (s4.2.2< (↑(List.length s2.1):Int)) then
 Option.bind (inb s4.2.2 (List.length s4.1)) fun x5=>
 Option.bind s4.1[x5]? fun _=>
 Option.bind (idx s4.1 (↑x5:Int)) fun x7=>
 Option.bind (idx s4.1 (↑x5:Int)) fun x8=>
 Option.bind (inb (IntKind.wrap .i64 ((↑(List.length x7):Int) - (1:Int))) (List.length x8)) fun x9=>
 Option.bind (idx s4.1 (↑x5:Int)) fun x10=>
 Option.bind x10[x9]? fun x11=>
 Option.bind (idx a0.2.2.1 x11) fun x12=>
 Option.bind (idx a0.2.2.1 x3) fun x13=>
 Option.bind (F35 x12 x13) fun x14=>
 bif x14 then
 Option.bind (idx s4.1 (↑x5:Int)) fun x15=>
 Option.bind (guardB (decide (List.length x15+List.length [x3]≤maxApp))) fun _=>
 Option.bind (inb s4.2.2 (List.length s4.1)) fun x17=>
 Option.bind (guardB (Tr.holeIs (some (Int.toNat (↑x5:Int))) x17)) fun _=>
 Option.bind s4.1[x17]? fun _=>some (.inr (List.set s4.1 x17 (x15++[x3]),true))
 else some (.inl (s4.1,s4.2.1,IntKind.wrap .i64 (s4.2.2+(1:Int))))
 else some (.inr (s4.1,s4.2.1)))
 (s2.1,false,(0:Int)))
 fun x20=>
 bif !x20.2 then
 Option.bind (guardB (decide (List.length x20.1+List.length [[x3]]≤maxApp))) fun _=>
 some (.inl (x20.1++[[x3]],IntKind.wrap .i64 (s2.2+(1:Int))))
 else some (.inl (x20.1,IntKind.wrap .i64 (s2.2+(1:Int))))
 else some (.inr s2.1))
 ([],(0:Int)))
 fun x22=>some (x22,(0:Int))
abbrev F32A:Pats:=(.cons (.pd Y31) .nil)
abbrev F32R:Pats:=(.cons (.pd Y38) (.cons (.pd Y36) .nil))
noncomputable def F32S:Tr.Spec:= {args:=F32A,res:=F32R,fns:=[],α:=El Y38×El Y36,f:=fun x=>F32 x.1,unp:=fun z=>(((),()),(z.1,z.2,())) }
noncomputable def F32M:List (Nat×List Tr.Spec):=[(63,[F38S]),(64,[F36S]),(65,[F35S])]
def F32H:Hint:=(.seq .leaf (.seq .leaf (.seq .leaf (.seq (.seq .leaf (.lp ⟨[(4,(.rows Y3 false)),(16,(.pd Y3))],[],[1,14,15],[],[],[]⟩ [((.exit 0),⟨[(4,(.rows Y3 false))],[],[],[],[],[]⟩)] (.seq .leaf (.seq .leaf (.seq (.seq .leaf (.seq .leaf (.seq (.seq .leaf (.lp ⟨[(4,(.rows Y3 false)),(7,(.pd Y4)),(22,(.pd Y3))],[],[1,6,14,15,16,21],[(20,4)],[],[]⟩ [((.exit 2),⟨[(4,(.rows Y3 false)),(7,(.pd Y4))],[],[1,6,14,15,16],[],[],[]⟩)] .leaf)) .leaf))) .leaf))))) .leaf))))
noncomputable def F32V (a0:El Y31):Option (El Y38×El Y36):=evalF (mkE tyTab mapTab pkTab [38] [] F32M 60 bdTab) (codeOf Tryz.f42) Tryz.f42.results F32H F32A F32R (fun y=>(y.2.1,y.2.2.1)) (a0,())
theorem F32_eq (a0:El Y31):F32V a0=F32 a0:=by kernel_rfl
theorem F32_ok:FnOK Tryz.prog 42 F32S:=fnOK_of (m:=F32M) (fn:=Tryz.f42) (hint:=F32H) (pack:=fun y=>(y.2.1,y.2.2.1)) hmix tab_ok ⟨⟨F38_ok,trivial⟩,⟨F36_ok,trivial⟩,⟨F35_ok,trivial⟩,trivial⟩ fun x z h=>(F32_eq x.1).trans h
noncomputable def F91: (El Y3)→Option (List (El Y122)):=fun a0=>
 Option.bind (guardB (decide ((0:Tr.El (Tr.Ty.int .i64))≤a0∧a0≤a0∧a0≤(↑maxApp:Tr.El (Tr.Ty.int .i64))))) fun _=>
 Option.bind
 (Tr.run
 (fun s1=>
 bif decide (s1.2< (↑(List.length (List.replicate (Int.toNat a0) (((0:Int),(0:Int),false,())))):Int)) then
 Option.bind (inb s1.2 (List.length s1.1)) fun x2=>
 Option.bind s1.1[x2]? fun _=>some (.inl (List.set s1.1 x2 ((-1:Int),(-1:Int),false,()),IntKind.wrap .i64 (s1.2+(1:Int))))
 else some (.inr s1.1))
 (List.replicate (Int.toNat a0) (((0:Int),(0:Int),false,())),(0:Int)))
 fun x4=>some x4
abbrev F91A:Pats:=(.cons (.pd Y3) .nil)
abbrev F91R:Pats:=(.cons (.own Y122 false) .nil)
noncomputable def F91S:Tr.Spec:= {args:=F91A,res:=F91R,fns:=[],α:=List (El Y122),f:=fun x=>F91 x.1,unp:=fun z=>(((),()),(z,())) }
noncomputable def F91M:List (Nat×List Tr.Spec):=[]
def F91H:Hint:=(.seq .leaf (.seq .leaf (.seq (.seq .leaf (.lp ⟨[(3,(.own Y122 false)),(9,(.pd Y3))],[],[8],[],[],[]⟩ [((.exit 0),⟨[(3,(.own Y122 false))],[],[],[],[],[]⟩)] .leaf)) .leaf)))
noncomputable def F91V (a0:El Y3):Option (List (El Y122)):=evalF (mkE tyTab mapTab pkTab [] [] F91M 18 bdTab) (codeOf Tryz.f43) Tryz.f43.results F91H F91A F91R (fun y=>y.2.1) (a0,())
theorem F91_eq (a0:El Y3):F91V a0=F91 a0:=by kernel_rfl
theorem F91_ok:FnOK Tryz.prog 43 F91S:=fnOK_of (m:=F91M) (fn:=Tryz.f43) (hint:=F91H) (pack:=fun y=>y.2.1) hmix tab_ok trivial fun x z h=>(F91_eq x.1).trans h
noncomputable def F86: ((El Y31×List (El Y104) ×List (El Y74) ×List (El Y122) ×List (El Y122) ×List (El Y3) ×El Y38×Unit))→(El Y3)→(El Y3)→(El Y3)→(El Y3)→Option ((El Y31×List (El Y104) ×List (El Y74) ×List (El Y122) ×List (El Y122) ×List (El Y3) ×El Y38×Unit)):=fun a0 a1 a2 a3 a4=>
 Option.bind (inb a1 (List.length a0.2.2.1)) fun x0=>
 Option.bind
 (Option.bind a0.2.2.1[x0]? fun x1=>
 bif decide (x1.1=(-1:Int)) then some true else Option.bind a0.2.2.1[x0]? fun x2=>some (decide (a2<x2.1)))
 fun x3=>
 bif x3 then
 Option.bind a0.2.2.1[x0]? fun x4=>
 Option.bind (List.set a0.2.2.1 x0 (a2,x4.2))[x0]? fun x5=>
 Option.bind
 (Option.bind (List.set (List.set a0.2.2.1 x0 (a2,x4.2)) x0 (x5.1,x5.2.1,x5.2.2.1,a4,x5.2.2.2.2))[x0]? fun x6=>
 bif decide (x6.2.2.1=(-1:Int)) then some true
 else
 Option.bind (List.set (List.set a0.2.2.1 x0 (a2,x4.2)) x0 (x5.1,x5.2.1,x5.2.2.1,a4,x5.2.2.2.2))[x0]? fun x7=>
 some (decide (a3<x7.2.2.1)))
 fun x8=>
 bif x8 then
 Option.bind (List.set (List.set a0.2.2.1 x0 (a2,x4.2)) x0 (x5.1,x5.2.1,x5.2.2.1,a4,x5.2.2.2.2))[x0]? fun x9=>
 Option.bind
 (List.set (List.set (List.set a0.2.2.1 x0 (a2,x4.2)) x0 (x5.1,x5.2.1,x5.2.2.1,a4,x5.2.2.2.2)) x0 (x9.1,x9.2.1,a3,x9.2.2.2))[x0]?
 fun x10=>
 some
 (a0.1,a0.2.1,
 List.set
 (List.set (List.set (List.set a0.2.2.1 x0 (a2,x4.2)) x0 (x5.1,x5.2.1,x5.2.2.1,a4,x5.2.2.2.2)) x0 (x9.1,x9.2.1,a3,x9.2.2.2)) x0
 (x10.1,x10.2.1,x10.2.2.1,x10.2.2.2.1,x10.2.2.2.2.1,a4,x10.2.2.2.2.2.2),
 a0.2.2.2.1,a0.2.2.2.2.1,a0.2.2.2.2.2.1,a0.2.2.2.2.2.2.1,())
 else
 some
 (a0.1,a0.2.1,List.set (List.set a0.2.2.1 x0 (a2,x4.2)) x0 (x5.1,x5.2.1,x5.2.2.1,a4,x5.2.2.2.2),a0.2.2.2.1,a0.2.2.2.2.1,
 a0.2.2.2.2.2.1,a0.2.2.2.2.2.2.1,())
 else
 Option.bind
 (Option.bind a0.2.2.1[x0]? fun x11=>
 bif decide (x11.2.2.1=(-1:Int)) then some true else Option.bind a0.2.2.1[x0]? fun x12=>some (decide (a3<x12.2.2.1)))
 fun x13=>
 bif x13 then
 Option.bind a0.2.2.1[x0]? fun x14=>
 Option.bind (List.set a0.2.2.1 x0 (x14.1,x14.2.1,a3,x14.2.2.2))[x0]? fun x15=>
 some
 (a0.1,a0.2.1,
 List.set (List.set a0.2.2.1 x0 (x14.1,x14.2.1,a3,x14.2.2.2)) x0
 (x15.1,x15.2.1,x15.2.2.1,x15.2.2.2.1,x15.2.2.2.2.1,a4,x15.2.2.2.2.2.2),
 a0.2.2.2.1,a0.2.2.2.2.1,a0.2.2.2.2.2.1,a0.2.2.2.2.2.2.1,())
 else some a0
abbrev F86A:Pats:=(.cons Pz1 (.cons (.pd Y3) (.cons (.pd Y3) (.cons (.pd Y3) (.cons (.pd Y3) .nil)))))
abbrev F86R:Pats:= .nil
noncomputable def F86S:Tr.Spec:= {args:=F86A,res:=F86R,fns:=[],α:=(El Y31×List (El Y104) ×List (El Y74) ×List (El Y122) ×List (El Y122) ×List (El Y3) ×El Y38×Unit),f:=fun x=>F86 x.1 x.2.1 x.2.2.1 x.2.2.2.1 x.2.2.2.2.1,unp:=fun z=>((z,(),(),(),(),()),()),kp:=[(0,2,10)] }
noncomputable def F86M:List (Nat×List Tr.Spec):=[]
def F86H:Hint:=(.seq .leaf (.seq (.seq (.reg [(29,Y4)]) .leaf) (.seq (.reg [(50,Y4)]) .leaf)))
noncomputable def F86V (a0: (El Y31×List (El Y104) ×List (El Y74) ×List (El Y122) ×List (El Y122) ×List (El Y3) ×El Y38×Unit)) (a1:El Y3) (a2:El Y3) (a3:El Y3) (a4:El Y3):Option ((El Y31×List (El Y104) ×List (El Y74) ×List (El Y122) ×List (El Y122) ×List (El Y3) ×El Y38×Unit)):=evalF (mkE tyTab mapTab pkTab [] [] F86M 59 bdTab) (codeOf Tryz.f44) Tryz.f44.results F86H F86A F86R (fun y=>y.1.1) (a0,a1,a2,a3,a4,()) [(0,2,10)]
theorem F86_eq (a0: (El Y31×List (El Y104) ×List (El Y74) ×List (El Y122) ×List (El Y122) ×List (El Y3) ×El Y38×Unit)) (a1:El Y3) (a2:El Y3) (a3:El Y3) (a4:El Y3):F86V a0 a1 a2 a3 a4=F86 a0 a1 a2 a3 a4:=by kernel_rfl
theorem F86_ok:FnOK Tryz.prog 44 F86S:=fnOK_of (m:=F86M) (fn:=Tryz.f44) (hint:=F86H) (pack:=fun y=>y.1.1) hmix tab_ok trivial fun x z h=>(F86_eq x.1 x.2.1 x.2.2.1 x.2.2.2.1 x.2.2.2.2.1).trans h
noncomputable def F83: ((El Y31×List (El Y104) ×List (El Y74) ×List (El Y122) ×List (El Y122) ×List (El Y3) ×El Y38×Unit))→(El Y66)→(El Y3)→Option ((El Y31×List (El Y104) ×List (El Y74) ×List (El Y122) ×List (El Y122) ×List (El Y3) ×El Y38×Unit) ×El Y3):=fun a0 a1 a2=>
 Option.bind (guardB (decide (List.length a0.2.1+List.length [(a1,a2,())]≤maxApp))) fun _=>
 some
 ((a0.1,a0.2.1++[(a1,a2,())],a0.2.2.1,a0.2.2.2.1,a0.2.2.2.2.1,a0.2.2.2.2.2.1,a0.2.2.2.2.2.2.1,()),
 IntKind.wrap .i64 ((↑(List.length (a0.2.1++[(a1,a2,())])):Int) - (1:Int)))
abbrev F83A:Pats:=(.cons Pz1 (.cons (.pd Y66) (.cons (.pd Y3) .nil)))
abbrev F83R:Pats:=(.cons (.pd Y3) .nil)
noncomputable def F83S:Tr.Spec:= {args:=F83A,res:=F83R,fns:=[],α:=(El Y31×List (El Y104) ×List (El Y74) ×List (El Y122) ×List (El Y122) ×List (El Y3) ×El Y38×Unit) ×El Y3,f:=fun x=>F83 x.1 x.2.1 x.2.2.1,unp:=fun z=>((z.1,(),(),()),(z.2,())),kp:=[(0,2,10)] }
noncomputable def F83M:List (Nat×List Tr.Spec):=[]
def F83H:Hint:= .leaf
noncomputable def F83V (a0: (El Y31×List (El Y104) ×List (El Y74) ×List (El Y122) ×List (El Y122) ×List (El Y3) ×El Y38×Unit)) (a1:El Y66) (a2:El Y3):Option ((El Y31×List (El Y104) ×List (El Y74) ×List (El Y122) ×List (El Y122) ×List (El Y3) ×El Y38×Unit) ×El Y3):=evalF (mkE tyTab mapTab pkTab [] [] F83M 25 bdTab) (codeOf Tryz.f66) Tryz.f66.results F83H F83A F83R (fun y=>(y.1.1,y.2.1)) (a0,a1,a2,()) [(0,2,10)]
theorem F83_eq (a0: (El Y31×List (El Y104) ×List (El Y74) ×List (El Y122) ×List (El Y122) ×List (El Y3) ×El Y38×Unit)) (a1:El Y66) (a2:El Y3):F83V a0 a1 a2=F83 a0 a1 a2:=by kernel_rfl
theorem F83_ok:FnOK Tryz.prog 66 F83S:=fnOK_of (m:=F83M) (fn:=Tryz.f66) (hint:=F83H) (pack:=fun y=>(y.1.1,y.2.1)) hmix tab_ok trivial fun x z h=>(F83_eq x.1 x.2.1 x.2.2.1).trans h
noncomputable def F90: ((El Y31×List (El Y104) ×List (El Y74) ×List (El Y122) ×List (El Y122) ×List (El Y3) ×El Y38×Unit))→(El Y3)→(El Y3)→(El Y3)→Option ((El Y31×List (El Y104) ×List (El Y74) ×List (El Y122) ×List (El Y122) ×List (El Y3) ×El Y38×Unit)):=fun a0 a1 a2 a3=>
 Option.bind
 (Tr.run
 (fun s0=>
 bif decide (s0.2< (↑(List.length a0.1.2.2.2.2.1):Int)) then
 Option.bind (idx a0.1.2.2.2.2.1 s0.2) fun x1=>
 Option.bind (bif decide (x1.1=a1) then some (decide (IntKind.wrap .i64 (a2+x1.2.2.1)≤(3155932800:Int))) else some false)
 fun x2=>
 bif x2 then
 Option.bind
 (F83
 s0.1
 (false,(0:Int),(0:Int),(0:Int),a1,x1.2.1,a2,IntKind.wrap .i64 (a2+x1.2.2.1),false,()) a3)
 fun x3=>
 Option.bind
 (F86
 x3.1
 x1.2.1 (IntKind.wrap .i64 (a2+x1.2.2.1)) (IntKind.wrap .i64 (a2+x1.2.2.1)) x3.2)
 fun x4=>
 some
 (.inl
 (x4,
 IntKind.wrap .i64 (s0.2+(1:Int))))
 else
 some
 (.inl
 (s0.1,
 IntKind.wrap .i64 (s0.2+(1:Int))))
 else
 some
 (.inr s0.1))
 (a0,(0:Int)))
 fun x5=>some x5
abbrev F90A:Pats:=(.cons Pz1 (.cons (.pd Y3) (.cons (.pd Y3) (.cons (.pd Y3) .nil))))
abbrev F90R:Pats:= .nil
noncomputable def F90S:Tr.Spec:= {args:=F90A,res:=F90R,fns:=[],α:=(El Y31×List (El Y104) ×List (El Y74) ×List (El Y122) ×List (El Y122) ×List (El Y3) ×El Y38×Unit),f:=fun x=>F90 x.1 x.2.1 x.2.2.1 x.2.2.2.1,unp:=fun z=>((z,(),(),(),()),()),kp:=[(0,2,10)] }
noncomputable def F90M:List (Nat×List Tr.Spec):=[(44,[F86S]),(66,[F83S])]
def F90H:Hint:=(.seq .leaf (.lp ⟨[(0,Pz1),(17,(.pd Y3))],[],[1,2,3,15,16],[],[(0,2,10)],[]⟩ [((.exit 0),⟨[(0,Pz1)],[],[],[],[(0,2,10)],[]⟩)] (.seq .leaf (.seq .leaf (.seq (.seq .leaf (.seq .leaf (.seq (.reg [(32,Y4)]) .leaf))) .leaf)))))
noncomputable def F90V (a0: (El Y31×List (El Y104) ×List (El Y74) ×List (El Y122) ×List (El Y122) ×List (El Y3) ×El Y38×Unit)) (a1:El Y3) (a2:El Y3) (a3:El Y3):Option ((El Y31×List (El Y104) ×List (El Y74) ×List (El Y122) ×List (El Y122) ×List (El Y3) ×El Y38×Unit)):=evalF (mkE tyTab mapTab pkTab [] [] F90M 49 bdTab) (codeOf Tryz.f45) Tryz.f45.results F90H F90A F90R (fun y=>y.1.1) (a0,a1,a2,a3,()) [(0,2,10)]
theorem F90_eq (a0: (El Y31×List (El Y104) ×List (El Y74) ×List (El Y122) ×List (El Y122) ×List (El Y3) ×El Y38×Unit)) (a1:El Y3) (a2:El Y3) (a3:El Y3):F90V a0 a1 a2 a3=F90 a0 a1 a2 a3:=by kernel_rfl
theorem F90_ok:FnOK Tryz.prog 45 F90S:=fnOK_of (m:=F90M) (fn:=Tryz.f45) (hint:=F90H) (pack:=fun y=>y.1.1) hmix tab_ok ⟨⟨F86_ok,trivial⟩,⟨F83_ok,trivial⟩,trivial⟩ fun x z h=>(F90_eq x.1 x.2.1 x.2.2.1 x.2.2.2.1).trans h
noncomputable def F79: (El Y122)→(El Y3)→Option (El Y4):=fun a0 a1=>Option.bind (bif decide (a0.1=(-1:Int)) then some true else some (decide (a1<a0.1))) fun x0=>some x0
abbrev F79A:Pats:=(.cons (.pd Y122) (.cons (.pd Y3) .nil))
abbrev F79R:Pats:=(.cons (.pd Y4) .nil)
noncomputable def F79S:Tr.Spec:= {args:=F79A,res:=F79R,fns:=[],α:=El Y4,f:=fun x=>F79 x.1 x.2.1,unp:=fun z=>(((),(),()),(z,())) }
noncomputable def F79M:List (Nat×List Tr.Spec):=[]
def F79H:Hint:=(.seq .leaf (.seq (.reg [(4,Y4)]) .leaf))
noncomputable def F79V (a0:El Y122) (a1:El Y3):Option (El Y4):=evalF (mkE tyTab mapTab pkTab [] [] F79M 14 bdTab) (codeOf Tryz.f68) Tryz.f68.results F79H F79A F79R (fun y=>y.2.1) (a0,a1,())
theorem F79_eq (a0:El Y122) (a1:El Y3):F79V a0 a1=F79 a0 a1:=by kernel_rfl
theorem F79_ok:FnOK Tryz.prog 68 F79S:=fnOK_of (m:=F79M) (fn:=Tryz.f68) (hint:=F79H) (pack:=fun y=>y.2.1) hmix tab_ok trivial fun x z h=>(F79_eq x.1 x.2.1).trans h
noncomputable def F84: ((El Y31×List (El Y104) ×List (El Y74) ×List (El Y122) ×List (El Y122) ×List (El Y3) ×El Y38×Unit))→(El Y3)→(El Y122)→Option ((El Y31×List (El Y104) ×List (El Y74) ×List (El Y122) ×List (El Y122) ×List (El Y3) ×El Y38×Unit)):=fun a0 a1 a2=>
 Option.bind
 (Option.bind (idx a0.1.2.2.1 a1) fun x0=>
 bif !x0.2.2.2.2.2.2.1 then
 Option.bind (inb a1 (List.length a0.2.2.2.2.1)) fun x1=>
 Option.bind a0.2.2.2.2.1[x1]? fun x2=>Option.bind (F79 x2 a2.1) fun x3=>some x3
 else some false)
 fun x4=>
 bif x4 then
 Option.bind (inb a1 (List.length a0.2.2.2.2.1)) fun x5=>
 Option.bind a0.2.2.2.2.1[x5]? fun _=>
 Option.bind (guardB (decide (List.length a0.2.2.2.2.2.1+List.length [a1]≤maxApp))) fun _=>
 some (a0.1,a0.2.1,a0.2.2.1,a0.2.2.2.1,List.set a0.2.2.2.2.1 x5 a2,a0.2.2.2.2.2.1++[a1],a0.2.2.2.2.2.2.1,())
 else some a0
abbrev F84A:Pats:=(.cons Pz1 (.cons (.pd Y3) (.cons (.pd Y122) .nil)))
abbrev F84R:Pats:= .nil
noncomputable def F84S:Tr.Spec:= {args:=F84A,res:=F84R,fns:=[],α:=(El Y31×List (El Y104) ×List (El Y74) ×List (El Y122) ×List (El Y122) ×List (El Y3) ×El Y38×Unit),f:=fun x=>F84 x.1 x.2.1 x.2.2.1,unp:=fun z=>((z,(),(),()),()) }
noncomputable def F84M:List (Nat×List Tr.Spec):=[(68,[F79S])]
def F84H:Hint:=(.seq .leaf (.seq (.reg [(27,Y4)]) .leaf))
noncomputable def F84V (a0: (El Y31×List (El Y104) ×List (El Y74) ×List (El Y122) ×List (El Y122) ×List (El Y3) ×El Y38×Unit)) (a1:El Y3) (a2:El Y122):Option ((El Y31×List (El Y104) ×List (El Y74) ×List (El Y122) ×List (El Y122) ×List (El Y3) ×El Y38×Unit)):=evalF (mkE tyTab mapTab pkTab [] [] F84M 45 bdTab) (codeOf Tryz.f67) Tryz.f67.results F84H F84A F84R (fun y=>y.1.1) (a0,a1,a2,())
theorem F84_eq (a0: (El Y31×List (El Y104) ×List (El Y74) ×List (El Y122) ×List (El Y122) ×List (El Y3) ×El Y38×Unit)) (a1:El Y3) (a2:El Y122):F84V a0 a1 a2=F84 a0 a1 a2:=by kernel_rfl
theorem F84_ok:FnOK Tryz.prog 67 F84S:=fnOK_of (m:=F84M) (fn:=Tryz.f67) (hint:=F84H) (pack:=fun y=>y.1.1) hmix tab_ok ⟨⟨F79_ok,trivial⟩,trivial⟩ fun x z h=>(F84_eq x.1 x.2.1 x.2.2.1).trans h
noncomputable def F85: ((El Y31×List (El Y104) ×List (El Y74) ×List (El Y122) ×List (El Y122) ×List (El Y3) ×El Y38×Unit))→(El Y3)→(El Y3)→(El Y3)→(El Y4)→Option ((El Y31×List (El Y104) ×List (El Y74) ×List (El Y122) ×List (El Y122) ×List (El Y3) ×El Y38×Unit)):=fun a0 a1 a2 a3 a4=>
 Option.bind (idx a0.1.2.2.1 a1) fun x0=>
 Option.bind (idx x0.2.2.2.2.2.2.2.1 a2) fun x1=>
 Option.bind (idx a0.2.2.2.2.2.2.1 a1) fun x2=>
 Option.bind
 (Tr.run
 (fun s3=>
 bif decide (s3.2< (↑(List.length x2):Int)) then
 Option.bind (idx x2 s3.2) fun x4=>
 Option.bind (idx s3.1.1.2.2.2.1 x4) fun x5=>
 Option.bind (idx s3.1.1.2.2.1 x5.2.2.1) fun x6=>
 Option.bind (idx x6.2.2.2.2.2.2.2.1 x5.2.2.2.1) fun x7=>
 Option.bind (bif !decide (x5.2.1=a2) then some true else some (decide (x7.2.2.1<x1.2.1))) fun x8=>
 bif x8 then
 some
 (.inl
 (s3.1,
 IntKind.wrap .i64 (s3.2+(1:Int))))
 else
 bif x5.2.2.2.2.1 then
 Option.bind
 (F84
 s3.1
 x5.2.2.1 (x5.2.2.2.1,a3,true,()))
 fun x9=>
 some
 (.inl
 (x9,
 IntKind.wrap .i64 (s3.2+(1:Int))))
 else
 Option.bind
 (bif a4 then
 bif x7.2.2.2.1 then
 Option.bind (inb x5.2.2.1 (List.length s3.1.2.2.2.1)) fun x10=>
 Option.bind s3.1.2.2.2.1[x10]? fun x11=>Option.bind (F79 x11 x5.2.2.2.1) fun x12=>some x12
 else some false
 else some false)
 fun x13=>
 bif x13 then
 Option.bind (inb x5.2.2.1 (List.length s3.1.2.2.2.1)) fun x14=>
 Option.bind s3.1.2.2.2.1[x14]? fun _=>
 some
 (.inl
 ((s3.1.1,s3.1.2.1,s3.1.2.2.1,List.set s3.1.2.2.2.1 x14 (x5.2.2.2.1,a3,false,()),s3.1.2.2.2.2.1,
 s3.1.2.2.2.2.2.1,s3.1.2.2.2.2.2.2.1,()),
 IntKind.wrap .i64 (s3.2+(1:Int))))
 else
 some
 (.inl
 (s3.1,
 IntKind.wrap .i64 (s3.2+(1:Int))))
 else
 some
 (.inr
 s3.1))
 (a0,(0:Int)))
 fun x16=>some x16
abbrev F85A:Pats:=(.cons Pz1 (.cons (.pd Y3) (.cons (.pd Y3) (.cons (.pd Y3) (.cons (.pd Y4) .nil)))))
abbrev F85R:Pats:= .nil
noncomputable def F85S:Tr.Spec:= {args:=F85A,res:=F85R,fns:=[],α:=(El Y31×List (El Y104) ×List (El Y74) ×List (El Y122) ×List (El Y122) ×List (El Y3) ×El Y38×Unit),f:=fun x=>F85 x.1 x.2.1 x.2.2.1 x.2.2.2.1 x.2.2.2.2.1,unp:=fun z=>((z,(),(),(),(),()),()) }
noncomputable def F85M:List (Nat×List Tr.Spec):=[(67,[F84S]),(68,[F79S])]
def F85H:Hint:=(.seq .leaf (.seq .leaf (.lp ⟨[(0,Pz1),(36,(.pd Y3))],[],[2,3,4,10,34,35],[],[],[]⟩ [((.exit 0),⟨[(0,Pz1)],[],[],[],[],[]⟩)] (.seq .leaf (.seq .leaf (.seq (.seq .leaf (.seq .leaf (.seq .leaf (.seq (.reg [(62,Y4)]) (.cnd none .leaf (.seq .leaf (.cnd none .leaf (.seq (.reg [(84,Y4)]) .leaf)))))))) .leaf))))))
noncomputable def F85V (a0: (El Y31×List (El Y104) ×List (El Y74) ×List (El Y122) ×List (El Y122) ×List (El Y3) ×El Y38×Unit)) (a1:El Y3) (a2:El Y3) (a3:El Y3) (a4:El Y4):Option ((El Y31×List (El Y104) ×List (El Y74) ×List (El Y122) ×List (El Y122) ×List (El Y3) ×El Y38×Unit)):=evalF (mkE tyTab mapTab pkTab [] [] F85M 115 bdTab) (codeOf Tryz.f102) Tryz.f102.results F85H F85A F85R (fun y=>y.1.1) (a0,a1,a2,a3,a4,())
theorem F85_eq (a0: (El Y31×List (El Y104) ×List (El Y74) ×List (El Y122) ×List (El Y122) ×List (El Y3) ×El Y38×Unit)) (a1:El Y3) (a2:El Y3) (a3:El Y3) (a4:El Y4):F85V a0 a1 a2 a3 a4=F85 a0 a1 a2 a3 a4:=by kernel_rfl
theorem F85_ok:FnOK Tryz.prog 102 F85S:=fnOK_of (m:=F85M) (fn:=Tryz.f102) (hint:=F85H) (pack:=fun y=>y.1.1) hmix tab_ok ⟨⟨F84_ok,trivial⟩,⟨F79_ok,trivial⟩,trivial⟩ fun x z h=>(F85_eq x.1 x.2.1 x.2.2.1 x.2.2.2.1 x.2.2.2.2.1).trans h
end Q
